/- Worlds without the blocks below a bound. -/
import Derived.Test.YtccgpmncpemmdaaDoorShp
namespace Go.Proofs.YtccgpmncpemmdaaDoor
open Go Go.RowKit
set_option linter.unusedSimpArgs false
set_option linter.unusedVariables false
set_option linter.unnecessarySimpa false
/-- The world without the cells of the blocks below n. -/
def nw (n : Nat) (w : World) : World := av (List.range n) w
theorem nw_cell {n : Nat} {w : World} {b o : Nat} {v : Value} : (nw n w).cell? ⟨b, o, none⟩ = some v ↔ n ≤ b ∧ w.cell? ⟨b, o, none⟩ = some v := by
  unfold nw
  rw [av_cell, List.mem_range, Nat.not_lt]
theorem has_nw {n : Nat} {w : World} : Has (nw n w) w := has_av
theorem has_nws {m n : Nat} {w : World} (h : m ≤ n) : Has (nw n w) (nw m w) := has_sub fun g hg => by rw [List.mem_range] at *; omega
theorem has_nw_kept {l : List Nat} {n : Nat} {w w' : World} (h : Kept l w w') (hl : ∀ g ∈ l, g < n) : Has (nw n w) (nw n w') :=
  has_kept (h.sub fun g hg => .inl (List.mem_range.2 (hl g hg)))
theorem has_nw_one {g n : Nat} {w w' : World} (h : Kept [g] w w') (hg : g < n) : Has (nw n w) (nw n w') := has_nw_kept h (by simpa using hg)
theorem has_nw_below {n : Nat} {w w' : World} (h : Below w.heap.size w w') : Has (nw n w) (nw n w') := has_av_below h
theorem nw_zero {w : World} : Has w (nw 0 w) := has_new (by simp)
theorem below_dq {B : Nat} {a w : World} (h : Below B a w) (n : Nat) : Below B a (w.drewN n) := ⟨h.os, h.tape, h.output, h.size, h.block⟩
theorem ret_int' {k : IntKind} {a b : Int} (h : a = b) : Ending.returned (.int k a) = .returned (.int k b) := by rw [h]
end Go.Proofs.YtccgpmncpemmdaaDoor
