/- types.Unary and types.Binary, and those of the reference, answer unaryT and binaryT for all numbers. -/
import Derived.Test.YtfpikakgaghdbaaDoorTyA
namespace Go.Proofs.YtfpikakgaghdbaaDoor
open Go Go.RowKit
set_option linter.unusedSimpArgs false
set_option linter.unusedVariables false
set_option linter.unnecessarySimpa false
def unaryR : List Rl := [⟨14, 14, 1, 1⟩, ⟨15, 15, 2, 2⟩]
def binaryR : List Rl := [⟨1, 5, 1, 1⟩, ⟨6, 11, 1, 2⟩, ⟨6, 7, 2, 2⟩, ⟨12, 13, 2, 2⟩]
def unaryM (op t : Int) : Int × Int := resultM unaryR op [t]
def binaryM (op a b : Int) : Int × Int := resultM binaryR op [a, b]
theorem Rls.alloc (w : World) (l : List Rl) (t : TypeId) : Rls (w.alloc (.cells (l.flatMap Rl.cells).toArray t)) l w.heap.size 0 := by
  have key : ∀ (l : List Rl) (i j : Nat) (v : Value) (h : i < l.length), l[i].cells[j]? = some v → j < 4 → (l.flatMap Rl.cells)[i * 4 + j]? = some v := by
    intro l
    induction l with
    | nil => intro i j v h; exact absurd h (Nat.not_lt_zero _)
    | cons r l ih =>
      intro i j v h hv hj
      have h4 : r.cells.length = 4 := rfl
      cases i with
      | zero =>
        rw [List.flatMap_cons, List.getElem?_append_left (by omega)]
        simpa using hv
      | succ i =>
        rw [List.flatMap_cons, List.getElem?_append_right (by omega), h4, show (i + 1) * 4 + j - 4 = i * 4 + j from by omega]
        exact ih i j v (by simpa using h) (by simpa using hv) hj
  refine ⟨fun i hi => ⟨?_, ?_, ?_, ?_⟩⟩
  · rw [Nat.zero_add]; exact cell_of_list _ _ _ _ _ (key l i 0 _ hi rfl (by omega))
  · rw [Nat.zero_add]; exact cell_of_list _ _ _ _ _ (key l i 1 _ hi rfl (by omega))
  · rw [Nat.zero_add]; exact cell_of_list _ _ _ _ _ (key l i 2 _ hi rfl (by omega))
  · rw [Nat.zero_add]; exact cell_of_list _ _ _ _ _ (key l i 3 _ hi rfl (by omega))
theorem Rls.keep {w w' : World} {B : Nat} {l : List Rl} {b o : Nat} (h : Rls w l b o) (hb : Below B w w') (hB : w.heap.size ≤ B) : Rls w' l b o :=
  ⟨fun i hi => let ⟨c0, c1, c2, c3⟩ := h.at_ i hi; ⟨cell_keep c0 hb hB, cell_keep c1 hb hB, cell_keep c2 hb hB, cell_keep c3 hb hB⟩⟩
theorem unaryR_any (w : World) : Calls Tryd.prog 28 #[] w fun e w' => e = .returned (.slice (some ⟨w.heap.size, 0, none⟩) 2 2) ∧ w' = w.alloc (.cells (unaryR.flatMap Rl.cells).toArray 90) := by
  go_enter Tryd.func28, Tryd.ntmps28
  go_wp2
  go_ret
  exact ⟨rfl, rfl⟩
theorem binaryR_any (w : World) : Calls Tryd.prog 29 #[] w fun e w' => e = .returned (.slice (some ⟨w.heap.size, 0, none⟩) 4 4) ∧ w' = w.alloc (.cells (binaryR.flatMap Rl.cells).toArray 90) := by
  go_enter Tryd.func29, Tryd.ntmps29
  go_wp2
  go_ret
  exact ⟨rfl, rfl⟩
set_option maxHeartbeats 1000000 in
theorem unary_any (op t : Int) (w : World) : Calls Tryd.prog 8 #[.int .i64 op, .int .i64 t] w fun e w' => e = .returned (.tuple #[.int .i64 (unaryM op t).1, .int .i64 (unaryM op t).2]) ∧ Below w.heap.size w w' := by
  have h1 := fun (W : World) (b : Nat) (a : Addr) (hl : Rls W unaryR b 0) (ht : Ints W [t] (some a) 1) => result_any unaryR op [t] b 0 2 (some a) 1 W (by decide) hl ht
  have H1 := hide h1
  clear h1
  unfold unaryM
  generalize resultM unaryR op [t] = r at *
  go_enter Tryd.func8, Tryd.ntmps8
  go_wp2_with fail
  refine (unaryR_any _).mono ?_
  rintro e w1 ⟨rfl, rfl⟩
  have HR := hide (Rls.alloc w unaryR 90)
  generalize (unaryR.flatMap Rl.cells).toArray = C at *
  go_wp2_with fail
  refine (H1.out _ _ _ (HR.out.keep ((bl _).al _) (Nat.le_refl _)) (Ints.alloc _ [t] _ _ (by simp [maxLen]) (by simp))).mono ?_
  rintro e w1 ⟨rfl, hb⟩
  go_wp2_with fail
  go_ret2
  exact ⟨rfl, (((bl w).al _).al _).tr hb⟩
set_option maxHeartbeats 1000000 in
theorem binary_any (op a b : Int) (w : World) : Calls Tryd.prog 10 #[.int .i64 op, .int .i64 a, .int .i64 b] w fun e w' => e = .returned (.tuple #[.int .i64 (binaryM op a b).1, .int .i64 (binaryM op a b).2]) ∧ Below w.heap.size w w' := by
  have h1 := fun (W : World) (bl : Nat) (ad : Addr) (hl : Rls W binaryR bl 0) (ht : Ints W [a, b] (some ad) 2) => result_any binaryR op [a, b] bl 0 4 (some ad) 2 W (by decide) hl ht
  have H1 := hide h1
  clear h1
  unfold binaryM
  generalize resultM binaryR op [a, b] = r at *
  go_enter Tryd.func10, Tryd.ntmps10
  go_wp2_with fail
  refine (binaryR_any _).mono ?_
  rintro e w1 ⟨rfl, rfl⟩
  have HR := hide (Rls.alloc w binaryR 90)
  generalize (binaryR.flatMap Rl.cells).toArray = C at *
  go_wp2_with fail
  refine (H1.out _ _ _ (HR.out.keep ((bl _).al _) (Nat.le_refl _)) (Ints.alloc _ [a, b] _ _ (by simp [maxLen]) (by simp))).mono ?_
  rintro e w1 ⟨rfl, hb⟩
  go_wp2_with fail
  go_ret2
  exact ⟨rfl, (((bl w).al _).al _).tr hb⟩
/-- The table, written out. -/
def unaryT (op t : Int) : Int × Int := if op = 14 then (if t = 1 then (1, 0) else (0, 12)) else if op = 15 then (if t = 2 then (2, 0) else (0, 12)) else (0, 2)
def binaryT (op a b : Int) : Int × Int := if op < 1 ∨ 13 < op then (0, 2) else if op ≤ 5 ∧ a = 1 ∧ b = 1 then (1, 0)
    else if ((op = 6 ∨ op = 7) ∧ (a = 1 ∧ b = 1 ∨ a = 2 ∧ b = 2)) ∨ (8 ≤ op ∧ op ≤ 11 ∧ a = 1 ∧ b = 1) ∨ (12 ≤ op ∧ a = 2 ∧ b = 2) then (2, 0) else (0, 12)
def resF (op : Int) (ts : List Int) : List Rl → Bool → Int × Int
  | [], known => if known then (0, 12) else (0, 2)
  | r :: l, known => if r.on op && !ts.any (· != r.operands) then (r.result, 0) else resF op ts l (known || r.on op)
theorem resF_eq (op : Int) (ts : List Int) : ∀ (l : List Rl) (known : Bool), resF op ts l known =
    ((l.find? fun r => r.on op && !ts.any (· != r.operands)).map fun r => (r.result, (0 : Int))).getD (if known || l.any (·.on op) then (0, 12) else (0, 2))
  | [], known => by simp [resF]
  | r :: l, known => by
    rw [resF, List.find?_cons]
    cases h : (r.on op && !ts.any (· != r.operands))
    · simp only [Bool.false_eq_true, if_false, resF_eq op ts l, List.any_cons, Bool.or_assoc]
      rfl
    · simp
theorem resultM_eq (l : List Rl) (op : Int) (ts : List Int) : resultM l op ts = resF op ts l false := by
  rw [resF_eq, resultM, Bool.false_or]
theorem unaryM_eq (op t : Int) : unaryM op t = unaryT op t := by
  unfold unaryM
  rw [resultM_eq]
  simp only [unaryR, unaryT, resF, Rl.on, List.any_cons, List.any_nil, Bool.or_false, Bool.false_or, Bool.and_eq_true, Bool.not_eq_true', bne_eq_false_iff_eq, decide_eq_true_eq, Bool.or_eq_true]
  repeat' split
  all_goals first | rfl | (exfalso; omega)
theorem binaryM_eq (op a b : Int) : binaryM op a b = binaryT op a b := by
  unfold binaryM
  rw [resultM_eq]
  simp only [binaryR, binaryT, resF, Rl.on, List.any_cons, List.any_nil, Bool.or_false, Bool.false_or, Bool.and_eq_true, Bool.not_eq_true', bne_eq_false_iff_eq, decide_eq_true_eq, Bool.or_eq_true, Bool.or_eq_false_iff]
  repeat' split
  all_goals first | rfl | (exfalso; omega)
set_option maxHeartbeats 1000000 in
theorem refUnary_any (op t : Int) (w : World) : Calls Tryd.prog 9 #[.int .i64 op, .int .i64 t] w fun e w' => e = .returned (.tuple #[.int .i64 (unaryT op t).1, .int .i64 (unaryT op t).2]) ∧ Below w.heap.size w w' := by
  go_enter Tryd.func9, Tryd.ntmps9
  go_wp2_with fail
  all_goals
    go_ret2
    refine ⟨?_, bl w⟩
    simp only [bne_eq_false_iff_eq, bne_iff_ne, beq_iff_eq, beq_eq_false_iff_ne] at *
    unfold unaryT
    (repeat' split) <;> first | rfl | (exfalso; omega) | (subst_vars; rfl)
set_option maxHeartbeats 4000000 in
theorem refBinary_any (op a b : Int) (w : World) : Calls Tryd.prog 11 #[.int .i64 op, .int .i64 a, .int .i64 b] w fun e w' => e = .returned (.tuple #[.int .i64 (binaryT op a b).1, .int .i64 (binaryT op a b).2]) ∧ Below w.heap.size w w' := by
  go_enter Tryd.func11, Tryd.ntmps11
  go_wp2_with fail
  all_goals
    go_ret2
    refine ⟨?_, bl w⟩
    simp only [beq_iff_eq, beq_eq_false_iff_ne] at *
    unfold binaryT
    (repeat' split) <;> first | rfl | (exfalso; omega)
end Go.Proofs.YtfpikakgaghdbaaDoor
