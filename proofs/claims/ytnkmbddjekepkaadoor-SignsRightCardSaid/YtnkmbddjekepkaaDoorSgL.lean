/- The string of a signature, in plain words. -/
import Derived.Test.YtnkmbddjekepkaaDoorSgK
namespace Go.Proofs.YtnkmbddjekepkaaDoor
open Go Go.RowKit
set_option linter.unusedSimpArgs false
set_option linter.unusedVariables false
set_option linter.unnecessarySimpa false
theorem typedB_iff (t : Int) : typedB t = true ↔ t = 1 ∨ t = 2 ∨ t = 3 := by
  simp only [typedB, Bool.and_eq_true, decide_eq_true_eq]
  omega
theorem wordB_nil (t : Int) : (wordB t == []) = !typedB t := by
  cases h : typedB t
  · have h1 : ¬ (t = 1 ∨ t = 2 ∨ t = 3) := fun e => by rw [(typedB_iff t).2 e] at h; cases h
    simp only [not_or] at h1
    simp [wordB, h1.1, h1.2.1, h1.2.2]
  · rcases (typedB_iff t).1 h with rfl | rfl | rfl <;> rfl
theorem joinB_snoc (a : Bytes) : ∀ l : List Bytes, joinB (l ++ [a]) = if l = [] then a else joinB l ++ [44, 32] ++ a
  | [] => rfl
  | [b] => by simp [joinB]
  | b :: c :: l => by
    have h := joinB_snoc a (c :: l)
    simp only [List.cons_append] at h ⊢
    rw [joinB, h]
    simp [joinB]
def headSg (s : Sg) : Bool := nameOk s.name && decide (s.pars.length ≤ 8) && (decide (s.res = 0) || typedB s.res)
/-- The string of a signature. -/
def textM (s : Sg) : Bytes := if (headSg s && s.pars.all typedB) = true then s.name ++ [40] ++ joinB (s.pars.map wordB) ++ [41] ++ (if s.res = 0 then [] else [32] ++ wordB s.res) else []
end Go.Proofs.YtnkmbddjekepkaaDoor
