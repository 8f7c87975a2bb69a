/- Lists of numbers and signatures that come in. -/
import Derived.Test.YtnkmbddjekepkaaDoorRdL
import Derived.Test.YtnkmbddjekepkaaDoorSgA
namespace Go.Proofs.YtnkmbddjekepkaaDoor
open Go Go.RowKit Go.WideShapes Go.ChangeShapes
set_option linter.unusedSimpArgs false
set_option linter.unusedVariables false
set_option linter.unnecessarySimpa false
set_option maxRecDepth 100000
section
variable {H : Type} {enc : TypeId × Value → H} {W : World} {sp : Nat → Bool} {held : Bool}
def IntAt (W : World) (z : Int) (b o : Nat) : Prop := W.cell? ⟨b, o, none⟩ = some (.int .i64 z) ∧ I64 z
theorem elem_intAt (n : Nat) (cs : List Value) (x : DataW H × List MemPlace) (h : DataW.trod enc Tryd.prog W 0 sp held n 3 cs = some x) : ∃ y : Int, ∀ b o, (∀ j u, cs[j]? = some u → W.cell? ⟨b, o + j, none⟩ = some u) → IntAt W y b o := by
  obtain ⟨z, hz, rfl⟩ := elem_int Tryd.underlying3 n cs x h
  exact ⟨z, fun b o hc => ⟨hc 0 _ rfl, hz⟩⟩
theorem Sl.ints {l : List Int} {a : Option Addr} {cap : Nat} (h : Sl 1 (IntAt W) l a cap) : Ints W l a cap ∧ ∀ p ∈ l, I64 p := by
  refine ⟨⟨h.len, h.cap, h.addr, fun b o e i hi => by have := (h.at_ b o e i hi).1; rwa [Nat.mul_one] at this⟩, fun p hp => ?_⟩
  obtain ⟨i, hi, rfl⟩ := List.mem_iff_getElem.1 hp
  obtain ⟨b, o, rfl⟩ := h.addr (by omega)
  exact (h.at_ b o rfl i hi).2
theorem read_ints0 {n : Nat} {v : Value} {x : DataW H × List MemPlace} (h : DataW.trod enc Tryd.prog W 0 sp held n 23 [v] = some x) : ∃ (l : List Int) (a : Option Addr) (cap : Nat), v = .slice a l.length cap ∧ Ints W l a cap ∧ ∀ p ∈ l, I64 p := by
  obtain ⟨l, a, cap, rfl, hs⟩ := read_slice (IntAt W) Tryd.underlying23 (by kernel_rfl : Tryd.prog.cellsOf 3 = 1) (by decide) elem_intAt h
  exact ⟨l, a, cap, rfl, hs.ints⟩
theorem read_ints {r : Reach} {b0 : Nat} {v : Value} {d : DataW H} {p : List MemPlace} (hv : Value.okWide Tryd.prog W r b0 23 v) (h : DataW.Trod enc Tryd.prog W 0 sp held 23 v d p) :
    ∃ (l : List Int) (a : Option Addr) (cap : Nat), v = .slice a l.length cap ∧ Ints W l a cap ∧ ∀ p ∈ l, I64 p := by
  obtain ⟨l, a, cap, rfl, hs⟩ := read_arg (IntAt W) Tryd.underlying23 (by kernel_rfl : Tryd.prog.cellsOf 3 = 1) (by decide) elem_intAt hv h
  exact ⟨l, a, cap, rfl, hs.ints⟩
theorem elem_sgAt (n : Nat) (cs : List Value) (x : DataW H × List MemPlace) (h : DataW.trod enc Tryd.prog W 0 sp held n 29 cs = some x) : ∃ y : Sg, ∀ b o, (∀ j u, cs[j]? = some u → W.cell? ⟨b, o + j, none⟩ = some u) → y.At W b o ∧ y.wf := by
  obtain ⟨hl, hf⟩ := elem_struct Tryd.underlying29 h
  have hl3 : cs.length = 3 := hl.trans (by kernel_rfl)
  have ci : Tryd.prog.cellsOf 3 = 1 := by kernel_rfl
  have cst : Tryd.prog.cellsOf 9 = 1 := by kernel_rfl
  have csl : Tryd.prog.cellsOf 23 = 1 := by kernel_rfl
  match cs, hl3 with
  | [v0, v1, v2], _ =>
    have g0 : ∃ m y, DataW.trod enc Tryd.prog W 0 sp held m 9 (([v0, v1, v2].drop 0).take (Tryd.prog.cellsOf 9)) = some y := hf 0 _ rfl
    obtain ⟨m0, y0, f0⟩ := g0
    have g1 : ∃ m y, DataW.trod enc Tryd.prog W 0 sp held m 23 (([v0, v1, v2].drop 1).take (Tryd.prog.cellsOf 23)) = some y := hf 1 _ rfl
    obtain ⟨m1, y1, f1⟩ := g1
    have g2 : ∃ m y, DataW.trod enc Tryd.prog W 0 sp held m 3 (([v0, v1, v2].drop 2).take (Tryd.prog.cellsOf 3)) = some y := hf 2 _ rfl
    obtain ⟨m2, y2, f2⟩ := g2
    simp only [ci, cst, csl, List.drop_zero, List.drop_succ_cons, List.take_succ_cons, List.take_zero] at f0 f1 f2
    obtain ⟨s, hs, e0⟩ := elem_str Tryd.underlying9 _ _ _ f0
    obtain ⟨l, a, cap, rfl, hi, hw⟩ := read_ints0 f1
    obtain ⟨z, hz, e2⟩ := elem_int Tryd.underlying3 _ _ _ f2
    simp only [List.cons.injEq, and_true] at e0 e2
    subst e0 e2
    exact ⟨⟨s, l, z⟩, fun b o hc => ⟨⟨a, cap, hc 0 _ rfl, hc 1 _ rfl, hc 2 _ rfl, hi⟩, hs, hz, hw⟩⟩
theorem read_sgs {r : Reach} {b0 : Nat} {v : Value} {d : DataW H} {p : List MemPlace} (hv : Value.okWide Tryd.prog W r b0 22 v) (h : DataW.Trod enc Tryd.prog W 0 sp held 22 v d p) :
    ∃ (l : List Sg) (a : Option Addr) (cap : Nat), v = .slice a l.length cap ∧ Sgs W l a cap := by
  obtain ⟨l, a, cap, rfl, hs⟩ := read_arg (fun y b o => Sg.At W y b o ∧ y.wf) Tryd.underlying22 (by kernel_rfl : Tryd.prog.cellsOf 29 = 3) (by decide) elem_sgAt hv h
  refine ⟨l, a, cap, rfl, ⟨hs.len, hs.cap, fun s hsm => ?_, hs.addr, fun b o e i hi => (hs.at_ b o e i hi).1⟩⟩
  obtain ⟨i, hi, rfl⟩ := List.mem_iff_getElem.1 hsm
  obtain ⟨b, o, rfl⟩ := hs.addr (by omega)
  exact (hs.at_ b o rfl i hi).2
end
end Go.Proofs.YtnkmbddjekepkaaDoor
