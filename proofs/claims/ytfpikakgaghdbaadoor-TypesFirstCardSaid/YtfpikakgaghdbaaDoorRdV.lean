/- Declarations by numbers that come in, as the statement's reading of them gives them. -/
import Derived.Test.YtfpikakgaghdbaaDoorRdD
import Derived.Test.YtfpikakgaghdbaaDoorTpA
namespace Go.Proofs.YtfpikakgaghdbaaDoor
open Go Go.RowKit Go.WideShapes Go.ChangeShapes
set_option linter.unusedSimpArgs false
set_option linter.unusedVariables false
set_option linter.unnecessarySimpa false
set_option maxRecDepth 100000
theorem cells3 {w : World} {base : Nat} {a : Addr} {cs : List Value} (h : w.cells? base a 3 = some cs) :
    ∃ (b o : Nat) (v0 v1 v2 : Value), a = ⟨b, o, none⟩ ∧ cs = [v0, v1, v2] ∧ w.cell? ⟨b, o, none⟩ = some v0 ∧ w.cell? ⟨b, o + 1, none⟩ = some v1 ∧ w.cell? ⟨b, o + 2, none⟩ = some v2 := by
  unfold World.cells? at h
  split at h
  · rw [show List.range 3 = [0, 1, 2] from rfl] at h
    simp only [List.mapM_cons, List.mapM_nil, Option.bind_eq_bind, Option.bind_eq_some_iff, Option.pure_def, Option.some.injEq] at h
    obtain ⟨v0, h0, _, ⟨v1, h1, _, ⟨v2, h2, _, rfl, rfl⟩, rfl⟩, rfl⟩ := h
    obtain ⟨b, o, s⟩ := a
    have hs : s = none := by simpa [Addr.add] using World.cell?_spot h0
    subst hs
    exact ⟨b, o, v0, v1, v2, rfl, rfl, by simpa [Addr.add] using h0, by simpa [Addr.add] using h1, by simpa [Addr.add] using h2⟩
  · cases h
section
variable {H : Type} {enc : TypeId × Value → H} {W : World} {sp : Nat → Bool} {held : Bool}
/-- A list of declarations that comes in. -/
theorem read_dcs {r : Reach} {b0 : Nat} {v : Value} {d : DataW H} {p : List MemPlace} (hv : Value.okWide Tryd.prog W r b0 30 v) (h : DataW.Trod enc Tryd.prog W 0 sp held 30 v d p) :
    ∃ (l : List Dc) (a : Option Addr) (cap : Nat), v = .slice a l.length cap ∧ Dcs W l a cap := by
  obtain ⟨a, len, cap, rfl⟩ := okWide_slice Tryd.underlying30 hv
  obtain ⟨n, hn⟩ := h
  have cv : Tryd.prog.cellsOf 66 = 3 := by kernel_rfl
  have c8 : Tryd.prog.cellsOf 5 = 1 := by kernel_rfl
  rcases DataW.trod_slice Tryd.underlying30 hn with ⟨e4, _⟩ | ⟨a', len', cap', elems, rest, n2, hn2, e4, _, hb, hlc, hcm, hel, hall, _, _⟩
  · simp only [Value.cells, List.cons.injEq, Value.slice.injEq, and_true] at e4
    obtain ⟨rfl, rfl, rfl⟩ := e4
    exact ⟨[], none, 0, rfl, ⟨Nat.le_refl _, Nat.zero_le _, by simp, fun b o e => by cases e⟩⟩
  · simp only [Value.cells, List.cons.injEq, Value.slice.injEq, and_true] at e4
    obtain ⟨rfl, rfl, rfl⟩ := e4
    have key : ∀ i, i < len → ∃ (b o : Nat) (x : Dc), a'.add (i * 3) = ⟨b, o, none⟩ ∧ (x.t ≤ 255 ∧ x.f ≤ 255 ∧ x.u ≤ 255) ∧ W.cell? ⟨b, o, none⟩ = some (.int .u8 (x.t : Nat)) ∧ W.cell? ⟨b, o + 1, none⟩ = some (.int .u8 (x.f : Nat)) ∧ W.cell? ⟨b, o + 2, none⟩ = some (.int .u8 (x.u : Nat)) := by
      intro i hi
      have h1 := hall i hi
      rw [List.getElem?_eq_getElem (by omega), cv] at h1
      obtain ⟨cs', h2, h3⟩ := Option.bind_eq_some_iff.1 h1
      obtain ⟨b', o', u0, u1, u2, ha, rfl, k0, k1, k2⟩ := cells3 h2
      obtain ⟨xs, n3, _, _, _, hxl, hf⟩ := DataW.trod_struct Tryd.underlying66 h3
      match xs, hxl with
      | [x0, x1, x2], _ =>
        have f0 : DataW.trod enc Tryd.prog W 0 sp held n3 5 (([u0, u1, u2].drop 0).take (Tryd.prog.cellsOf 5)) = [x0, x1, x2][0]? := hf 0 _ rfl
        have f1 : DataW.trod enc Tryd.prog W 0 sp held n3 5 (([u0, u1, u2].drop 1).take (Tryd.prog.cellsOf 5)) = [x0, x1, x2][1]? := hf 1 _ rfl
        have f2 : DataW.trod enc Tryd.prog W 0 sp held n3 5 (([u0, u1, u2].drop 2).take (Tryd.prog.cellsOf 5)) = [x0, x1, x2][2]? := hf 2 _ rfl
        simp only [c8, List.drop_zero, List.drop_succ_cons, List.take_succ_cons, List.take_zero, List.getElem?_cons_zero, List.getElem?_cons_succ] at f0 f1 f2
        obtain ⟨t0, e0, _, w0⟩ := DataW.trod_int Tryd.underlying5 f0
        obtain ⟨t1, e1, _, w1⟩ := DataW.trod_int Tryd.underlying5 f1
        obtain ⟨t2, e2, _, w2⟩ := DataW.trod_int Tryd.underlying5 f2
        simp only [List.cons.injEq, and_true] at e0 e1 e2
        subst e0 e1 e2
        have z0 := u8_of_wf w0
        have z1 := u8_of_wf w1
        have z2 := u8_of_wf w2
        exact ⟨b', o', ⟨t0.toNat, t1.toNat, t2.toNat⟩, ha, ⟨by simp only; omega, by simp only; omega, by simp only; omega⟩, by rw [k0, Int.toNat_of_nonneg z0.1], by rw [k1, Int.toNat_of_nonneg z1.1], by rw [k2, Int.toNat_of_nonneg z2.1]⟩
    by_cases h0 : len = 0
    · subst h0
      exact ⟨[], some a', cap, rfl, ⟨Nat.zero_le _, hcm, by simp, fun b o e i hi => absurd hi (Nat.not_lt_zero _)⟩⟩
    · obtain ⟨b0, o0, _, ha0, _⟩ := key 0 (by omega)
      have ha : a' = ⟨b0, o0, none⟩ := by simpa [Addr.add] using ha0
      subst ha
      have key2 : ∀ i, i < len → ∃ x : Dc, (x.t ≤ 255 ∧ x.f ≤ 255 ∧ x.u ≤ 255) ∧ W.cell? ⟨b0, o0 + i * 3, none⟩ = some (.int .u8 (x.t : Nat)) ∧ W.cell? ⟨b0, o0 + i * 3 + 1, none⟩ = some (.int .u8 (x.f : Nat)) ∧ W.cell? ⟨b0, o0 + i * 3 + 2, none⟩ = some (.int .u8 (x.u : Nat)) := fun i hi => by
        obtain ⟨b', o', x, he, hw, hat⟩ := key i hi
        rw [Addr.add_lit] at he
        simp only [Addr.mk.injEq, and_true] at he
        obtain ⟨rfl, rfl⟩ := he
        exact ⟨x, hw, hat⟩
      refine ⟨(List.finRange len).map fun i => (key2 i.1 i.2).choose, some ⟨b0, o0, none⟩, cap, by simp, ⟨by simpa using hlc, hcm, fun _ => ⟨_, _, rfl⟩, ?_⟩⟩
      intro b o e i hi
      simp only [Option.some.injEq, Addr.mk.injEq, and_true] at e
      obtain ⟨rfl, rfl⟩ := e
      have hi' : i < len := by simpa using hi
      have := (key2 i hi').choose_spec
      simpa using this
end
end Go.Proofs.YtfpikakgaghdbaaDoor
