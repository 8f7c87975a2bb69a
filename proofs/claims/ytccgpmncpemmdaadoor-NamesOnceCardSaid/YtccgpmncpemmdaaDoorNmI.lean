/- The examples of chapter 10, in plain words. -/
import Derived.Test.YtccgpmncpemmdaaDoorNmD
import Derived.Test.YtccgpmncpemmdaaDoorNmF
import Derived.Test.YtccgpmncpemmdaaDoorNmG
namespace Go.Proofs.YtccgpmncpemmdaaDoor
open Go Go.RowKit
set_option linter.unusedSimpArgs false
set_option linter.unusedVariables false
set_option linter.unnecessarySimpa false
def nxV : List Vr := [⟨[97], 1, -1, 0, 10⟩, ⟨[98], 3, -1, 0, 10⟩, ⟨[99], 1, 0, 1, 10⟩, ⟨[100], 2, 2, 3, 4⟩, ⟨[101], 1, 4, 5, 5⟩, ⟨[103], 1, 6, 7, 8⟩]
def nxS : St := .mk 1 9 [97] 1 [] [] [] []
def nxF2 : Fn := ⟨[102], [⟨[97], 1⟩, ⟨[98], 3⟩], 0, nxF.body ++ [nxS], 10⟩
theorem nx_check : checkM [nxF] = 0 := by
  unfold checkM
  rw [if_pos]
  refine ⟨by decide, fun f hf => ?_⟩
  rw [List.mem_singleton] at hf
  subst hf
  decide +kernel
theorem nx_check2 : checkM [nxF2] = 0 := by
  unfold checkM
  rw [if_pos]
  refine ⟨by decide, fun f hf => ?_⟩
  rw [List.mem_singleton] at hf
  subst hf
  decide +kernel
theorem nx_names : namesM nxF = (nxV, 0, 0) := by
  rw [namesM, if_pos nx_check]
  kernel_rfl
theorem nx_names2 : namesM nxF2 = ([], 9, 11) := by
  rw [namesM, if_pos nx_check2]
  kernel_rfl
theorem nx_find : findM nxV [100] = (3, true) := by kernel_rfl
theorem nx_find2 : findM nxV [120] = (0, false) := by kernel_rfl
theorem nx_seen : seenM nxV [100] 3 = (3, true) := by kernel_rfl
theorem nx_seen2 : seenM nxV [100] 4 = (0, false) := by kernel_rfl
theorem nx_in3 : insM nxV 3 = [0, 1, 2, 3] := by kernel_rfl
theorem nx_in7 : insM nxV 7 = [0, 1, 2, 5] := by kernel_rfl
theorem nx_in10 : insM nxV 10 = [] := by kernel_rfl
end Go.Proofs.YtccgpmncpemmdaaDoor
