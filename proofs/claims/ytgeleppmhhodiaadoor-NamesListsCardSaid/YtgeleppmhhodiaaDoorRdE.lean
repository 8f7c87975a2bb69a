/- Lists of variables that come in: what the statement's reading of them gives. -/
import Derived.Test.YtgeleppmhhodiaaDoorNmA
import Derived.Test.YtgeleppmhhodiaaDoorRdX
namespace Go.Proofs.YtgeleppmhhodiaaDoor
open Go Go.RowKit Go.WideShapes Go.ChangeShapes
set_option linter.unusedSimpArgs false
set_option linter.unusedVariables false
set_option linter.unnecessarySimpa false
set_option maxRecDepth 100000
section
variable {H : Type} {enc : TypeId × Value → H} {W : World} {sp : Nat → Bool} {held : Bool}
/-- A list of variables that comes in. -/
theorem read_vars {r : Reach} {b0 : Nat} {v : Value} {d : DataW H} {p : List MemPlace} (hv : Value.okWide Tryd.prog W r b0 22 v) (h : DataW.Trod enc Tryd.prog W 0 sp held 22 v d p) :
    ∃ (l : List Vr) (a : Option Addr) (cap : Nat), v = .slice a l.length cap ∧ Vrs W l a cap := by
  obtain ⟨a, len, cap, rfl⟩ := okWide_slice Tryd.underlying22 hv
  obtain ⟨n, hn⟩ := h
  have cv : Tryd.prog.cellsOf 50 = 5 := by kernel_rfl
  have ci : Tryd.prog.cellsOf 3 = 1 := by kernel_rfl
  have cst : Tryd.prog.cellsOf 9 = 1 := by kernel_rfl
  rcases DataW.trod_slice Tryd.underlying22 hn with ⟨e4, _⟩ | ⟨a', len', cap', elems, rest, n2, hn2, e4, _, hb, hlc, hcm, hel, hall, _, _⟩
  · simp only [Value.cells, List.cons.injEq, Value.slice.injEq, and_true] at e4
    obtain ⟨rfl, rfl, rfl⟩ := e4
    exact ⟨[], none, 0, rfl, ⟨Nat.le_refl _, Nat.zero_le _, by simp, by simp, fun b o e => by cases e⟩⟩
  · simp only [Value.cells, List.cons.injEq, Value.slice.injEq, and_true] at e4
    obtain ⟨rfl, rfl, rfl⟩ := e4
    have key : ∀ i, i < len → ∃ (b o : Nat) (x : Vr), a'.add (i * 5) = ⟨b, o, none⟩ ∧ x.wf ∧ x.At W b o := by
      intro i hi
      have h1 := hall i hi
      rw [List.getElem?_eq_getElem (by omega), cv] at h1
      obtain ⟨cs', h2, h3⟩ := Option.bind_eq_some_iff.1 h1
      obtain ⟨b', o', u0, u1, u2, u3, u4, ha, rfl, k0, k1, k2, k3, k4⟩ := cells5 h2
      obtain ⟨xs, n3, _, _, _, hxl, hf⟩ := DataW.trod_struct Tryd.underlying50 h3
      match xs, hxl with
      | [x0, x1, x2, x3, x4], _ =>
        have f0 : DataW.trod enc Tryd.prog W 0 sp held n3 9 (([u0, u1, u2, u3, u4].drop 0).take (Tryd.prog.cellsOf 9)) = [x0, x1, x2, x3, x4][0]? := hf 0 _ rfl
        have f1 : DataW.trod enc Tryd.prog W 0 sp held n3 3 (([u0, u1, u2, u3, u4].drop 1).take (Tryd.prog.cellsOf 3)) = [x0, x1, x2, x3, x4][1]? := hf 1 _ rfl
        have f2 : DataW.trod enc Tryd.prog W 0 sp held n3 3 (([u0, u1, u2, u3, u4].drop 2).take (Tryd.prog.cellsOf 3)) = [x0, x1, x2, x3, x4][2]? := hf 2 _ rfl
        have f3 : DataW.trod enc Tryd.prog W 0 sp held n3 3 (([u0, u1, u2, u3, u4].drop 3).take (Tryd.prog.cellsOf 3)) = [x0, x1, x2, x3, x4][3]? := hf 3 _ rfl
        have f4 : DataW.trod enc Tryd.prog W 0 sp held n3 3 (([u0, u1, u2, u3, u4].drop 4).take (Tryd.prog.cellsOf 3)) = [x0, x1, x2, x3, x4][4]? := hf 4 _ rfl
        simp only [ci, cst, List.drop_zero, List.drop_succ_cons, List.take_succ_cons, List.take_zero, List.getElem?_cons_zero, List.getElem?_cons_succ] at f0 f1 f2 f3 f4
        obtain ⟨s, e0, _, w0⟩ := DataW.trod_string Tryd.underlying9 f0
        obtain ⟨t1, e1, _, w1⟩ := DataW.trod_int Tryd.underlying3 f1
        obtain ⟨t2, e2, _, w2⟩ := DataW.trod_int Tryd.underlying3 f2
        obtain ⟨t3, e3, _, w3⟩ := DataW.trod_int Tryd.underlying3 f3
        obtain ⟨t4, e4, _, w4⟩ := DataW.trod_int Tryd.underlying3 f4
        simp only [List.cons.injEq, and_true] at e0 e1 e2 e3 e4
        subst e0 e1 e2 e3 e4
        have hsl : s.data.toList.length ≤ maxLen := by rw [Array.length_toList]; exact w0
        exact ⟨b', o', ⟨s.data.toList, t1, t2, t3, t4⟩, ha, ⟨hsl, i64_of_wf w1, i64_of_wf w2, i64_of_wf w3, i64_of_wf w4⟩, ⟨by simpa using k0, k1, k2, k3, k4⟩⟩
    by_cases h0 : len = 0
    · subst h0
      exact ⟨[], some a', cap, rfl, ⟨Nat.zero_le _, hcm, by simp, by simp, fun b o e i hi => absurd hi (Nat.not_lt_zero _)⟩⟩
    · obtain ⟨b0, o0, _, ha0, _⟩ := key 0 (by omega)
      have ha : a' = ⟨b0, o0, none⟩ := by simpa [Addr.add] using ha0
      subst ha
      have key2 : ∀ i, i < len → ∃ x : Vr, x.wf ∧ x.At W b0 (o0 + i * 5) := fun i hi => by
        obtain ⟨b', o', x, he, hw, hat⟩ := key i hi
        rw [Addr.add_lit] at he
        simp only [Addr.mk.injEq, and_true] at he
        obtain ⟨rfl, rfl⟩ := he
        exact ⟨x, hw, hat⟩
      refine ⟨(List.finRange len).map fun i => (key2 i.1 i.2).choose, some ⟨b0, o0, none⟩, cap, by simp, ⟨by simpa using hlc, hcm, ?_, fun _ => ⟨_, _, rfl⟩, ?_⟩⟩
      · intro v hv
        obtain ⟨i, _, rfl⟩ := List.mem_map.1 hv
        exact (key2 i.1 i.2).choose_spec.1
      · intro b o e i hi
        simp only [Option.some.injEq, Addr.mk.injEq, and_true] at e
        obtain ⟨rfl, rfl⟩ := e
        have hi' : i < len := by simpa using hi
        have := (key2 i hi').choose_spec.2
        simpa using this
end
end Go.Proofs.YtgeleppmhhodiaaDoor
