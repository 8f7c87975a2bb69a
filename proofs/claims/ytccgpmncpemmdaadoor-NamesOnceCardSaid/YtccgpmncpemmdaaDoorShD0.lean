/- shape.Depth answers depthM for every expression, where the table of blanks is laid. -/
import Derived.Laws.EntriesVeiled
import Derived.Test.YtccgpmncpemmdaaDoorShC
namespace Go.Proofs.YtccgpmncpemmdaaDoor
open Go Go.RowKit
set_option linter.unusedSimpArgs false
set_option linter.unusedVariables false
set_option linter.unnecessarySimpa false
set_option maxHeartbeats 1000000 in
theorem depth_any (e : Ex) (v : Value) (w : World) (hv : Ex.Val w e v) (hT : Tab w) :
    Calls Tryd.prog 80 #[v] w fun r w' => r = .returned (.int .i64 (depthM 20 e)) ∧ Below w.heap.size w w' := by
  have h1 := fun (W : World) (hb : Below w.heap.size w W) (lb : Nat) (hl : W.cell? ⟨lb, 0, none⟩ = some (.func (.func 89) #[] #[.pointer (some ⟨lb, 0, none⟩)])) => depth1_any lb 20 e v W (Nat.le_refl _) (hv.keep hb (Nat.le_refl _)) (hT.below hb) hl
  obtain ⟨a, cap, rfl, hw, hr⟩ := hv
  have H1 := hide h1
  clear h1 hw hr hT
  go_enter Tryd.func80, Tryd.ntmps80
  go_wp2_with fail
  refine (H1.out _ (((bl w).al _).al _) (w.heap.size + 1) ?_).mono ?_
  · go_simp
  rintro r w1 ⟨rfl, hb⟩
  go_wp2_with fail
  go_ret
  exact ⟨rfl, (((bl w).al _).al _).tr hb⟩
end Go.Proofs.YtccgpmncpemmdaaDoor
