/- Drafts of signatures that come in. -/
import Derived.Test.YtnkmbddjekepkaaDoorRdL
import Derived.Test.YtnkmbddjekepkaaDoorSgU
namespace Go.Proofs.YtnkmbddjekepkaaDoor
open Go Go.RowKit Go.WideShapes Go.ChangeShapes
set_option linter.unusedSimpArgs false
set_option linter.unusedVariables false
set_option linter.unnecessarySimpa false
set_option maxRecDepth 100000
section
variable {H : Type} {enc : TypeId × Value → H} {W : World} {sp : Nat → Bool} {held : Bool}
def ByteAt (W : World) (z : Nat) (b o : Nat) : Prop := z ≤ 255 ∧ W.cell? ⟨b, o, none⟩ = some (.int .u8 (z : Nat))
theorem elem_byteAt (n : Nat) (cs : List Value) (x : DataW H × List MemPlace) (h : DataW.trod enc Tryd.prog W 0 sp held n 5 cs = some x) : ∃ y : Nat, ∀ b o, (∀ j u, cs[j]? = some u → W.cell? ⟨b, o + j, none⟩ = some u) → ByteAt W y b o := by
  obtain ⟨z, hz, rfl⟩ := elem_u8 Tryd.underlying5 n cs x h
  exact ⟨z, fun b o hc => ⟨hz, hc 0 _ rfl⟩⟩
theorem Sl.bys {l : List Nat} {a : Option Addr} {cap : Nat} (h : Sl 1 (ByteAt W) l a cap) : Bys W l a cap :=
  ⟨h.len, h.cap, h.addr, fun b o e i hi => by have := h.at_ b o e i hi; rwa [Nat.mul_one] at this⟩
theorem read_bys0 {n : Nat} {v : Value} {x : DataW H × List MemPlace} (h : DataW.trod enc Tryd.prog W 0 sp held n 58 [v] = some x) : ∃ (l : List Nat) (a : Option Addr) (cap : Nat), v = .slice a l.length cap ∧ Bys W l a cap := by
  obtain ⟨l, a, cap, rfl, hs⟩ := read_slice (ByteAt W) Tryd.underlying58 (by kernel_rfl : Tryd.prog.cellsOf 5 = 1) (by decide) elem_byteAt h
  exact ⟨l, a, cap, rfl, hs.bys⟩
theorem elem_dr {n : Nat} {cs : List Value} {x : DataW H × List MemPlace} (h : DataW.trod enc Tryd.prog W 0 sp held n 60 cs = some x) :
    ∃ (d : Dr) (a : Option Addr) (cap : Nat), cs = [.int .u8 (d.name : Nat), .int .u8 (d.res : Nat), .slice a d.pars.length cap] ∧ d.name ≤ 255 ∧ d.res ≤ 255 ∧ Bys W d.pars a cap := by
  obtain ⟨hl, hf⟩ := elem_struct Tryd.underlying60 h
  have hl3 : cs.length = 3 := hl.trans (by kernel_rfl)
  have c8 : Tryd.prog.cellsOf 5 = 1 := by kernel_rfl
  have csl : Tryd.prog.cellsOf 58 = 1 := by kernel_rfl
  match cs, hl3 with
  | [v0, v1, v2], _ =>
    have g0 : ∃ m y, DataW.trod enc Tryd.prog W 0 sp held m 5 (([v0, v1, v2].drop 0).take (Tryd.prog.cellsOf 5)) = some y := hf 0 _ rfl
    have g1 : ∃ m y, DataW.trod enc Tryd.prog W 0 sp held m 5 (([v0, v1, v2].drop 1).take (Tryd.prog.cellsOf 5)) = some y := hf 1 _ rfl
    have g2 : ∃ m y, DataW.trod enc Tryd.prog W 0 sp held m 58 (([v0, v1, v2].drop 2).take (Tryd.prog.cellsOf 58)) = some y := hf 2 _ rfl
    obtain ⟨m0, y0, f0⟩ := g0
    obtain ⟨m1, y1, f1⟩ := g1
    obtain ⟨m2, y2, f2⟩ := g2
    simp only [c8, csl, List.drop_zero, List.drop_succ_cons, List.take_succ_cons, List.take_zero] at f0 f1 f2
    obtain ⟨z0, h0, e0⟩ := elem_u8 Tryd.underlying5 _ _ _ f0
    obtain ⟨z1, h1, e1⟩ := elem_u8 Tryd.underlying5 _ _ _ f1
    obtain ⟨l, a, cap, rfl, hb⟩ := read_bys0 f2
    simp only [List.cons.injEq, and_true] at e0 e1
    subst e0 e1
    exact ⟨⟨z0, z1, l⟩, a, cap, rfl, h0, h1, hb⟩
theorem read_drs {r : Reach} {b0 : Nat} {v : Value} {d : DataW H} {p : List MemPlace} (hv : Value.okWide Tryd.prog W r b0 43 v) (h : DataW.Trod enc Tryd.prog W 0 sp held 43 v d p) :
    ∃ (l : List Dr) (a : Option Addr) (cap : Nat), v = .slice a l.length cap ∧ Drs W l a cap := by
  obtain ⟨l, a, cap, rfl, hs⟩ := read_arg (fun y b o => Dr.At W y b o) Tryd.underlying43 (by kernel_rfl : Tryd.prog.cellsOf 60 = 3) (by decide) (fun n cs x h => by
    obtain ⟨d, a, cap, rfl, h0, h1, hb⟩ := elem_dr h
    exact ⟨d, fun b o hc => ⟨a, cap, hc 0 _ rfl, hc 1 _ rfl, hc 2 _ rfl, h0, h1, hb⟩⟩) hv h
  exact ⟨l, a, cap, rfl, hs.len, hs.cap, hs.addr, hs.at_⟩
theorem read_dr {r : Reach} {b0 : Nat} {v : Value} {d : DataW H} {p : List MemPlace} (hv : Value.okWide Tryd.prog W r b0 60 v) (h : DataW.Trod enc Tryd.prog W 0 sp held 60 v d p) : ∃ x : Dr, x.Val W v := by
  obtain ⟨cs, rfl, _⟩ := okWide_struct Tryd.underlying60 hv
  obtain ⟨n, hn⟩ := h
  obtain ⟨x, a, cap, he, h0, h1, hb⟩ := elem_dr hn
  refine ⟨x, a, cap, ?_, h0, h1, hb⟩
  have : cs.toList = _ := he
  rw [← Array.toArray_toList (xs := cs), this]
end
end Go.Proofs.YtnkmbddjekepkaaDoor
