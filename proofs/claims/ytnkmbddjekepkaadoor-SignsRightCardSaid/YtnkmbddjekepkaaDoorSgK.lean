/- The functions of rewindlaw12's examples. -/
import Derived.Test.YtnkmbddjekepkaaDoorSgJ
namespace Go.Proofs.YtnkmbddjekepkaaDoor
open Go Go.RowKit
set_option linter.unusedSimpArgs false
set_option linter.unusedVariables false
set_option linter.unnecessarySimpa false
def effF : Fn := ⟨[102], [⟨[97], 1⟩, ⟨[98], 3⟩], 2, [], 0⟩
def mainF : Fn := ⟨mainB, [], 0, [], 0⟩
theorem mains12_any (w : World) : Calls Tryd.prog 24 #[] w fun r w' => r = .returned (.agg #[.string ⟨mainB.toArray⟩, .slice none 0 0, .int .i64 0, .slice none 0 0, .int .i64 0]) ∧ Below w.heap.size w w' := by
  go_enter Tryd.func24, Tryd.ntmps24
  go_wp2_with fail
  exact bodyPost_ret (v := .agg #[.string ⟨mainB.toArray⟩, .slice none 0 0, .int .i64 0, .slice none 0 0, .int .i64 0]) (by simp [results, Tryd.results24, go_sem, mainB]) rfl ⟨rfl, (bl w).al _⟩
set_option maxHeartbeats 1000000 in
theorem effs12_any (w : World) : Calls Tryd.prog 23 #[] w fun r w' => r = .returned (.agg #[.string ⟨#[102]⟩, .slice (some ⟨w.heap.size + 1, 0, none⟩) 2 2, .int .i64 2, .slice none 0 0, .int .i64 0]) ∧ Below w.heap.size w w' ∧
    w'.heap[w.heap.size + 1]? = some (.cells #[.string ⟨#[97]⟩, .int .i64 1, .string ⟨#[98]⟩, .int .i64 3] 55 (0, 0)) := by
  go_enter Tryd.func23, Tryd.ntmps23
  go_wp2_with fail
  refine bodyPost_ret (v := .agg #[.string ⟨#[102]⟩, .slice (some ⟨w.heap.size + 1, 0, none⟩) 2 2, .int .i64 2, .slice none 0 0, .int .i64 0]) (by simp [results, Tryd.results23, go_sem]) rfl ⟨rfl, ((bl w).al _).al _, ?_⟩
  have := heap_alloc_new (w.alloc (.cells #[.string ⟨#[102]⟩, .slice (some ⟨w.heap.size + 1, 0, none⟩) 2 2, .int .i64 2, .slice none 0 0, .int .i64 0] 53)) (.cells #[.string ⟨#[97]⟩, .int .i64 1, .string ⟨#[98]⟩, .int .i64 3] 55)
  simpa using this
set_option maxHeartbeats 1000000 in
theorem two12_any (a : Option Addr) (n cap : Nat) (w : World) : Calls Tryd.prog 22 #[.slice a n cap] w fun r w' => r = .returned (.agg #[.slice a n cap]) ∧ Below w.heap.size w w' := by
  go_enter Tryd.func22, Tryd.ntmps22
  go_wp2_with fail
  exact bodyPost_ret (v := .agg #[.slice a n cap]) (by simp [results, Tryd.results22, go_sem]) rfl ⟨rfl, (bl w).al _⟩
/-- The parameters of the example lie where they were laid. -/
theorem eff_pms {w : World} {g : Nat} (h : w.heap[g]? = some (.cells #[.string ⟨#[97]⟩, .int .i64 1, .string ⟨#[98]⟩, .int .i64 3] 55 (0, 0))) : Pms w effF.params (some ⟨g, 0, none⟩) 2 := by
  refine ⟨Nat.le_refl _, by decide, fun _ => ⟨_, _, rfl⟩, fun b o e i hi => ?_, ?_⟩
  · cases e
    rcases i with _ | _ | i
    · exact ⟨cell_at (j := 0) h rfl, cell_at (j := 1) h rfl⟩
    · exact ⟨cell_at (j := 2) h rfl, cell_at (j := 3) h rfl⟩
    · exact absurd hi (by simp [effF])
  · intro p hp
    simp only [effF, List.mem_cons, List.not_mem_nil, or_false] at hp
    rcases hp with rfl | rfl <;> exact ⟨by decide, by unfold I64; decide⟩
end Go.Proofs.YtnkmbddjekepkaaDoor
