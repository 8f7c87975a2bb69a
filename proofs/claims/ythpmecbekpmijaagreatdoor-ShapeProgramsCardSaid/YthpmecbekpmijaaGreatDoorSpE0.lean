/- slices.EqualFunc over expressions, statements and functions: it answers whether the lists are equal, element by element. -/
import Derived.Test.YthpmecbekpmijaaGreatDoorEq
import Derived.Test.YthpmecbekpmijaaGreatDoorFrm
namespace Go.Proofs.YthpmecbekpmijaaGreatDoor
open Go Go.RowKit
set_option linter.unusedSimpArgs false
set_option linter.unusedVariables false
set_option linter.unnecessarySimpa false
/-- Two lists are equal, element by element. -/
def eqL {α : Type} (p : α → α → Bool) : List α → List α → Bool | [], [] => true | a :: l, b :: m => p a b && eqL p l m | [], _ :: _ => false | _ :: _, [] => false
theorem eqL_es (l m : List Ex) : eqEs l m = eqL eqE l m := by
  induction l generalizing m with
  | nil => cases m <;> simp [eqEs, eqL]
  | cons a l ih => cases m with
    | nil => simp [eqEs, eqL]
    | cons b m => simp [eqEs, eqL, ih]
theorem eqL_ss (l m : List St) : eqSs l m = eqL eqS l m := by
  induction l generalizing m with
  | nil => cases m <;> simp [eqSs, eqL]
  | cons a l ih => cases m with
    | nil => simp [eqSs, eqL]
    | cons b m => simp [eqSs, eqL, ih]
theorem eqL_fs (l m : List Fn) : eqFs l m = eqL eqF l m := by
  induction l generalizing m with
  | nil => cases m <;> simp [eqFs, eqL]
  | cons a l ih => cases m with
    | nil => simp [eqFs, eqL]
    | cons b m => simp [eqFs, eqL, ih]
section
variable {α : Type} {p : α → α → Bool}
theorem eqL_len : ∀ {l m : List α}, l.length ≠ m.length → eqL p l m = false
  | [], [], h => absurd rfl h
  | a :: l, b :: m, h => by rw [eqL, eqL_len (by simpa using h), Bool.and_false]
  | [], _ :: _, _ => rfl
  | _ :: _, [], _ => rfl
theorem eqL_yes : ∀ {l m : List α}, l.length = m.length → (∀ (i : Nat) (h : i < l.length) (h' : i < m.length), p l[i] m[i] = true) → eqL p l m = true
  | [], [], _, _ => rfl
  | a :: l, b :: m, hl, h => by
    rw [eqL, show p a b = true from h 0 (by simp) (by simp), eqL_yes (by simpa using hl) fun i hi hi' => h (i + 1) (by simpa using hi) (by simpa using hi')]
    rfl
  | [], _ :: _, h, _ => by simp at h
  | _ :: _, [], h, _ => by simp at h
theorem eqL_no : ∀ {l m : List α} (i : Nat) (h : i < l.length) (h' : i < m.length), p l[i] m[i] = false → eqL p l m = false
  | [], _, _, h, _, _ => absurd h (Nat.not_lt_zero _)
  | _ :: _, [], _, _, h, _ => absurd h (Nat.not_lt_zero _)
  | a :: l, b :: m, 0, _, _, hp => by simp only [List.getElem_cons_zero] at hp; rw [eqL, hp, Bool.false_and]
  | a :: l, b :: m, i + 1, h, h', hp => by rw [eqL, eqL_no i (by simpa using h) (by simpa using h') (by simpa using hp), Bool.and_false]
end
end Go.Proofs.YthpmecbekpmijaaGreatDoor
