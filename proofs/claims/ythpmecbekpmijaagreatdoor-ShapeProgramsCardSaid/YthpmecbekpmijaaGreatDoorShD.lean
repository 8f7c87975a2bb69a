/- shape.Depth and shape.Expr answer by depthM for every expression, where the table of blanks is laid. -/
import Derived.Laws.EntriesVeiled
import Derived.Test.YthpmecbekpmijaaGreatDoorShC
namespace Go.Proofs.YthpmecbekpmijaaGreatDoor
open Go Go.RowKit
set_option linter.unusedSimpArgs false
set_option linter.unusedVariables false
set_option linter.unnecessarySimpa false
theorem errno_yes (b : Bool) (w : World) (h : b = true) : Calls Tryz.prog 28 #[.bool b] w fun e w' => e = .returned (.int .i64 0) ∧ w = w' := by
  subst h
  go_enter Tryz.func28, Tryz.ntmps28
  go_wp2
  go_ret
  exact ⟨rfl, rfl⟩
theorem errno_no (b : Bool) (w : World) (h : b = false) : Calls Tryz.prog 28 #[.bool b] w fun e w' => e = .returned (.int .i64 2) ∧ w = w' := by
  subst h
  go_enter Tryz.func28, Tryz.ntmps28
  go_wp2
  go_ret
  exact ⟨rfl, rfl⟩
set_option maxHeartbeats 1000000 in
theorem depth_any (e : Ex) (v : Value) (w : World) (hv : Ex.Val w e v) (hT : Tab w) :
    Calls Tryz.prog 10 #[v] w fun r w' => r = .returned (.int .i64 (depthM 20 e)) ∧ Below w.heap.size w w' := by
  have h1 := fun (W : World) (hb : Below w.heap.size w W) (lb : Nat) (hl : W.cell? ⟨lb, 0, none⟩ = some (.func (.func 29) #[] #[.pointer (some ⟨lb, 0, none⟩)])) => depth1_any lb 20 e v W (Nat.le_refl _) (hv.keep hb (Nat.le_refl _)) (hT.below hb) hl
  obtain ⟨a, cap, rfl, hw, hr⟩ := hv
  have H1 := hide h1
  clear h1 hw hr hT
  go_enter Tryz.func10, Tryz.ntmps10
  go_wp2_with fail
  refine (H1.out _ (((bl w).al _).al _) (w.heap.size + 1) ?_).mono ?_
  · go_simp
  rintro r w1 ⟨rfl, hb⟩
  go_wp2_with fail
  go_ret
  exact ⟨rfl, (((bl w).al _).al _).tr hb⟩
set_option maxHeartbeats 1000000 in
theorem expr_any (e : Ex) (v : Value) (w : World) (hv : Ex.Val w e v) (hT : Tab w) :
    Calls Tryz.prog 9 #[v] w fun r w' => r = .returned (.int .i64 (if depthM 20 e = 0 then 2 else 0)) ∧ Below w.heap.size w w' := by
  have h1 := fun (W : World) (hb : Below w.heap.size w W) => depth_any e v W (hv.keep hb (Nat.le_refl _)) (hT.below hb)
  obtain ⟨a, cap, rfl, hw, hr⟩ := hv
  clear hw hr hT
  generalize depthM 20 e = D at *
  cases hz : D == 0
  all_goals
    have H1 := hide h1
    clear h1
    have HZ := hide hz
    clear hz
  · have hp : (0 : Int) < (D : Nat) := by have := HZ.out; simp at this; omega
    have hd : decide ((0 : Int) < (D : Nat)) = true := by simpa using hp
    go_enter Tryz.func9, Tryz.ntmps9
    go_wp2_with fail
    refine (H1.out _ ((bl w).al _)).mono ?_
    rintro r w1 ⟨rfl, hb⟩
    go_wp2_with fail
    refine (errno_yes _ _ (by simpa using hp)).mono ?_
    rintro r w2 ⟨rfl, rfl⟩
    go_wp2_with fail
    go_ret
    refine ⟨ret_int ?_, ((bl w).al _).tr hb⟩
    first
      | rfl
      | (rw [if_neg (by omega)]; rfl)
  · have h0 : D = 0 := by have := HZ.out; simpa using this
    go_enter Tryz.func9, Tryz.ntmps9
    go_wp2_with fail
    refine (H1.out _ ((bl w).al _)).mono ?_
    rintro r w1 ⟨rfl, hb⟩
    subst h0
    go_wp2_with fail
    refine (errno_no _ _ (by simp)).mono ?_
    rintro r w2 ⟨rfl, rfl⟩
    go_wp2_with fail
    go_ret
    exact ⟨rfl, ((bl w).al _).tr hb⟩
end Go.Proofs.YthpmecbekpmijaaGreatDoor
