/- When expressions, statements, functions and programs are equal, in plain words. -/
import Derived.Test.YtccgpmncpemmdaaDoorShp
namespace Go.Proofs.YtccgpmncpemmdaaDoor
open Go Go.RowKit
set_option linter.unusedSimpArgs false
set_option linter.unusedVariables false
set_option linter.unnecessarySimpa false
mutual
/-- Two expressions are equal, field by field. -/
def eqE : Ex → Ex → Bool | .mk k o n s es, .mk k' o' n' s' es' => k == k' && o == o' && n == n' && s == s' && eqEs es es'
def eqEs : List Ex → List Ex → Bool | [], [] => true | a :: l, b :: m => eqE a b && eqEs l m | [], _ :: _ => false | _ :: _, [] => false
end
theorem eqE_eq (a b : Ex) : eqE a b = (a.kind == b.kind && a.op == b.op && a.num == b.num && a.name == b.name && eqEs a.args b.args) := by cases a; cases b; rw [eqE]; rfl
mutual
theorem eqE_iff : ∀ (a b : Ex), eqE a b = true ↔ a = b
  | .mk k o n s es, .mk k' o' n' s' es' => by
    simp only [eqE, Bool.and_eq_true, beq_iff_eq, eqEs_iff es es', Ex.mk.injEq, and_assoc]
theorem eqEs_iff : ∀ (l m : List Ex), eqEs l m = true ↔ l = m
  | [], [] => by simp [eqEs]
  | a :: l, b :: m => by simp only [eqEs, Bool.and_eq_true, eqE_iff a b, eqEs_iff l m, List.cons.injEq]
  | [], _ :: _ => by simp [eqEs]
  | _ :: _, [] => by simp [eqEs]
end
theorem eqEs_len {l m : List Ex} (h : l.length ≠ m.length) : eqEs l m = false := by
  rw [Bool.eq_false_iff]
  intro h2
  rw [(eqEs_iff l m).1 h2] at h
  exact h rfl
/-- Lists of the same length are equal if their elements are, one by one. -/
theorem eqEs_all : ∀ (l m : List Ex), l.length = m.length → (eqEs l m = true ↔ ∀ (i : Nat) (h : i < l.length) (h' : i < m.length), eqE l[i] m[i] = true)
  | [], [], _ => by simp [eqEs]
  | a :: l, b :: m, h => by
    have hl : l.length = m.length := by simpa using h
    rw [eqEs, Bool.and_eq_true, eqEs_all l m hl]
    constructor
    · rintro ⟨h1, h2⟩ i hi hi'
      cases i with
      | zero => exact h1
      | succ i => exact h2 i (by simpa using hi) (by simpa using hi')
    · intro h1
      exact ⟨h1 0 (by simp) (by simp), fun i hi hi' => h1 (i + 1) (by simpa using hi) (by simpa using hi')⟩
  | [], _ :: _, h => by simp at h
  | _ :: _, [], h => by simp at h
mutual
/-- Two statements are equal, whatever their numbers are. -/
def eqS : St → St → Bool | .mk k _ s t c xs bs es, .mk k' _ s' t' c' xs' bs' es' => k == k' && s == s' && t == t' && c == c' && eqEs xs xs' && eqSs bs bs' && eqSs es es'
def eqSs : List St → List St → Bool | [], [] => true | a :: l, b :: m => eqS a b && eqSs l m | [], _ :: _ => false | _ :: _, [] => false
end
theorem eqS_eq (a b : St) : eqS a b = (a.kind == b.kind && a.name == b.name && a.typ == b.typ && a.callee == b.callee && eqEs a.args b.args && eqSs a.body b.body && eqSs a.els b.els) := by cases a; cases b; rw [eqS]; rfl
mutual
/-- A statement without its numbers. -/
def St.bare : St → St | .mk k _ s t c xs bs es => .mk k 0 s t c xs (bareL bs) (bareL es)
def bareL : List St → List St | [] => [] | s :: l => s.bare :: bareL l
end
theorem bareL_len (l : List St) : (bareL l).length = l.length := by
  induction l with
  | nil => rfl
  | cons s l ih => simp [bareL, ih]
mutual
theorem eqS_iff : ∀ (a b : St), eqS a b = true ↔ a.bare = b.bare
  | .mk k _ s t c xs bs es, .mk k' _ s' t' c' xs' bs' es' => by
    simp only [eqS, Bool.and_eq_true, beq_iff_eq, eqEs_iff, eqSs_iff bs bs', eqSs_iff es es', St.bare, St.mk.injEq, and_assoc, true_and]
theorem eqSs_iff : ∀ (l m : List St), eqSs l m = true ↔ bareL l = bareL m
  | [], [] => by simp [eqSs]
  | a :: l, b :: m => by simp only [eqSs, bareL, Bool.and_eq_true, eqS_iff a b, eqSs_iff l m, List.cons.injEq]
  | [], _ :: _ => by simp [eqSs, bareL]
  | _ :: _, [] => by simp [eqSs, bareL]
end
theorem eqSs_len {l m : List St} (h : l.length ≠ m.length) : eqSs l m = false := by
  rw [Bool.eq_false_iff]
  intro h2
  have := congrArg List.length ((eqSs_iff l m).1 h2)
  rw [bareL_len, bareL_len] at this
  exact h this
theorem eqSs_all : ∀ (l m : List St), l.length = m.length → (eqSs l m = true ↔ ∀ (i : Nat) (h : i < l.length) (h' : i < m.length), eqS l[i] m[i] = true)
  | [], [], _ => by simp [eqSs]
  | a :: l, b :: m, h => by
    have hl : l.length = m.length := by simpa using h
    rw [eqSs, Bool.and_eq_true, eqSs_all l m hl]
    constructor
    · rintro ⟨h1, h2⟩ i hi hi'
      cases i with
      | zero => exact h1
      | succ i => exact h2 i (by simpa using hi) (by simpa using hi')
    · intro h1
      exact ⟨h1 0 (by simp) (by simp), fun i hi hi' => h1 (i + 1) (by simpa using hi) (by simpa using hi')⟩
  | [], _ :: _, h => by simp at h
  | _ :: _, [], h => by simp at h
theorem eqS_refl (a : St) : eqS a a = true := (eqS_iff a a).2 rfl
theorem eqSs_refl (l : List St) : eqSs l l = true := (eqSs_iff l l).2 rfl
theorem eqSs_symm (l m : List St) : eqSs l m = eqSs m l := by
  rw [Bool.eq_iff_iff, eqSs_iff, eqSs_iff]
  exact ⟨Eq.symm, Eq.symm⟩
theorem eqSs_trans {l m n : List St} (h : eqSs l m = true) (k : eqSs m n = true) : eqSs l n = true := (eqSs_iff l n).2 (((eqSs_iff l m).1 h).trans ((eqSs_iff m n).1 k))
mutual
theorem St.bare_ren : ∀ (s : St) (n : Nat), (s.ren n).bare = s.bare
  | .mk k i s t c xs bs es, n => by simp only [St.ren, St.bare, bareL_ren bs, bareL_ren es]
theorem bareL_ren : ∀ (l : List St) (n : Nat), bareL (renL l n) = bareL l
  | [], n => rfl
  | s :: l, n => by simp only [renL, bareL, St.bare_ren s, bareL_ren l]
end
/-- Two functions are equal. -/
def eqF (f g : Fn) : Bool := fnOk f && fnOk g && f.name == g.name && f.result == g.result && decide (f.params = g.params) && eqSs f.body g.body
def eqFs : List Fn → List Fn → Bool | [], [] => true | a :: l, b :: m => eqF a b && eqFs l m | [], _ :: _ => false | _ :: _, [] => false
theorem eqFs_len : ∀ {l m : List Fn}, l.length ≠ m.length → eqFs l m = false
  | [], [], h => absurd rfl h
  | a :: l, b :: m, h => by rw [eqFs, eqFs_len (by simpa using h), Bool.and_false]
  | [], _ :: _, _ => rfl
  | _ :: _, [], _ => rfl
theorem eqFs_all : ∀ (l m : List Fn), l.length = m.length → (eqFs l m = true ↔ ∀ (i : Nat) (h : i < l.length) (h' : i < m.length), eqF l[i] m[i] = true)
  | [], [], _ => by simp [eqFs]
  | a :: l, b :: m, h => by
    have hl : l.length = m.length := by simpa using h
    rw [eqFs, Bool.and_eq_true, eqFs_all l m hl]
    constructor
    · rintro ⟨h1, h2⟩ i hi hi'
      cases i with
      | zero => exact h1
      | succ i => exact h2 i (by simpa using hi) (by simpa using hi')
    · intro h1
      exact ⟨h1 0 (by simp) (by simp), fun i hi hi' => h1 (i + 1) (by simpa using hi) (by simpa using hi')⟩
  | [], _ :: _, h => by simp at h
  | _ :: _, [], h => by simp at h
/-- Two programs are equal. -/
def sameM (l m : List Fn) : Bool := checkM l == 0 && checkM m == 0 && eqFs l m
end Go.Proofs.YtccgpmncpemmdaaDoor
