/- The numbers of statements in the order of the text, in plain words. -/
import Derived.Test.YtccgpmncpemmdaaDoorEq
namespace Go.Proofs.YtccgpmncpemmdaaDoor
open Go Go.RowKit
set_option linter.unusedSimpArgs false
set_option linter.unusedVariables false
set_option linter.unnecessarySimpa false
mutual
/-- The numbers of a statement and of those in it, in the order of the text. -/
def St.nos : St → List Int | .mk _ i _ _ _ _ bs es => i :: (nosL bs ++ nosL es)
def nosL : List St → List Int | [] => [] | s :: l => s.nos ++ nosL l
end
theorem St.nos_eq (s : St) : s.nos = s.no :: (nosL s.body ++ nosL s.els) := by cases s; rw [St.nos]; rfl
mutual
theorem St.nos_len : ∀ (s : St), s.nos.length = s.cnt
  | .mk _ _ _ _ _ _ bs es => by simp only [St.nos, St.cnt, List.length_cons, List.length_append, nosL_len bs, nosL_len es]; omega
theorem nosL_len : ∀ (l : List St), (nosL l).length = cntL l
  | [] => rfl
  | s :: l => by simp only [nosL, cntL, List.length_append, St.nos_len s, nosL_len l]
end
/-- Numbers from n on, one by one. -/
def upM : Nat → List Int → Bool
  | _, [] => true
  | n, i :: l => decide (i = (n : Nat)) && upM (n + 1) l
theorem upM_app (l m : List Int) (n : Nat) : upM n (l ++ m) = (upM n l && upM (n + l.length) m) := by
  induction l generalizing n with
  | nil => simp [upM]
  | cons i l ih => simp only [List.cons_append, upM, ih, List.length_cons, Bool.and_assoc]; rw [show n + 1 + l.length = n + (l.length + 1) by omega]
mutual
theorem St.nums_up : ∀ (s : St) (n : Nat), s.nums n = upM n s.nos
  | .mk _ i _ _ _ _ bs es, n => by
    simp only [St.nums, St.nos, upM, upM_app, nums_up bs, nums_up es, nosL_len, Bool.and_assoc]
theorem nums_up : ∀ (l : List St) (n : Nat), numsL l n = upM n (nosL l)
  | [], n => rfl
  | s :: l, n => by simp only [numsL, nosL, upM_app, St.nums_up s, nums_up l, St.nos_len]
end
theorem nosL_take (l : List St) (k : Nat) (h : k < l.length) : nosL (l.take (k + 1)) = nosL (l.take k) ++ l[k].nos := by
  have happ : ∀ a b : List St, nosL (a ++ b) = nosL a ++ nosL b := by
    intro a b
    induction a with
    | nil => rfl
    | cons s a ih => simp only [List.cons_append, nosL, ih, List.append_assoc]
  rw [List.take_succ_eq_append_getElem h, happ]
  simp [nosL]
theorem upM_get : ∀ {l : List Int} {n : Nat}, upM n l = true → ∀ (i : Nat) (h : i < l.length), l[i] = ((n + i : Nat) : Int)
  | [], _, _, _, h => absurd h (Nat.not_lt_zero _)
  | a :: l, n, h, i, hi => by
    simp only [upM, Bool.and_eq_true, decide_eq_true_eq] at h
    cases i with
    | zero => simpa using h.1
    | succ i =>
      have := upM_get h.2 i (by simpa using hi)
      simp only [List.getElem_cons_succ, this]
      omega
/-- sizes -/
theorem cntL_mem {l : List St} {s : St} (h : s ∈ l) : s.cnt ≤ cntL l := by
  induction l with
  | nil => cases h
  | cons a l ih =>
    rcases List.mem_cons.1 h with rfl | h
    · simp [cntL]
    · have := ih h
      simp [cntL]
      omega
end Go.Proofs.YtccgpmncpemmdaaDoor
