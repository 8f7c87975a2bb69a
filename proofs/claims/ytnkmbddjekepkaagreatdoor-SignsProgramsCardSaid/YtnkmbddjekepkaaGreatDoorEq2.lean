/- Being equal is an equivalence; programs that differ in one statement are different: the plain laws. -/
import Derived.Test.YtnkmbddjekepkaaGreatDoorEq
import Derived.Test.YtnkmbddjekepkaaGreatDoorMd1
namespace Go.Proofs.YtnkmbddjekepkaaGreatDoor
open Go Go.RowKit
set_option linter.unusedSimpArgs false
set_option linter.unusedVariables false
set_option linter.unnecessarySimpa false
theorem checkM_zero {l : List Fn} : checkM l = 0 ↔ l.length ≤ 20 ∧ ∀ f ∈ l, fnOk f = true ∧ fnNums f = true := by
  unfold checkM
  split
  · rename_i h
    exact ⟨fun _ => h, fun _ => rfl⟩
  · rename_i h
    exact ⟨fun h2 => absurd h2 (by decide), fun h2 => absurd h2 h⟩
theorem eqF_iff {f g : Fn} : eqF f g = true ↔ fnOk f = true ∧ fnOk g = true ∧ f.name = g.name ∧ f.result = g.result ∧ f.params = g.params ∧ eqSs f.body g.body = true := by
  simp only [eqF, Bool.and_eq_true, beq_iff_eq, decide_eq_true_eq, and_assoc]
theorem eqF_refl {f : Fn} (h : fnOk f = true) : eqF f f = true := eqF_iff.2 ⟨h, h, rfl, rfl, rfl, eqSs_refl _⟩
theorem eqF_symm (f g : Fn) : eqF f g = eqF g f := by
  rw [Bool.eq_iff_iff, eqF_iff, eqF_iff, eqSs_symm f.body g.body]
  exact ⟨fun ⟨a, b, c, d, e, h⟩ => ⟨b, a, c.symm, d.symm, e.symm, h⟩, fun ⟨a, b, c, d, e, h⟩ => ⟨b, a, c.symm, d.symm, e.symm, h⟩⟩
theorem eqF_trans {f g h : Fn} (a : eqF f g = true) (b : eqF g h = true) : eqF f h = true := by
  rw [eqF_iff] at *
  exact ⟨a.1, b.2.1, a.2.2.1.trans b.2.2.1, a.2.2.2.1.trans b.2.2.2.1, a.2.2.2.2.1.trans b.2.2.2.2.1, eqSs_trans a.2.2.2.2.2 b.2.2.2.2.2⟩
theorem eqFs_refl : ∀ {l : List Fn}, (∀ f ∈ l, fnOk f = true) → eqFs l l = true
  | [], _ => rfl
  | f :: l, h => by rw [eqFs, eqF_refl (h f (by simp)), eqFs_refl fun g hg => h g (by simp [hg])]; rfl
theorem eqFs_symm : ∀ (l m : List Fn), eqFs l m = eqFs m l
  | [], [] => rfl
  | a :: l, b :: m => by rw [eqFs, eqFs, eqF_symm a b, eqFs_symm l m]
  | [], _ :: _ => rfl
  | _ :: _, [] => rfl
theorem eqFs_trans : ∀ {l m n : List Fn}, eqFs l m = true → eqFs m n = true → eqFs l n = true
  | [], [], [], _, _ => rfl
  | a :: l, b :: m, c :: n, h, k => by
    simp only [eqFs, Bool.and_eq_true] at *
    exact ⟨eqF_trans h.1 k.1, eqFs_trans h.2 k.2⟩
  | [], _ :: _, _, h, _ => by cases h
  | _ :: _, [], _, h, _ => by cases h
  | [], [], _ :: _, _, k => by cases k
  | _ :: _, _ :: _, [], _, k => by cases k
theorem sameM_refl {l : List Fn} (h : checkM l = 0) : sameM l l = true := by
  have := eqFs_refl fun f hf => ((checkM_zero.1 h).2 f hf).1
  simp [sameM, h, this]
theorem sameM_symm (l m : List Fn) : sameM l m = sameM m l := by
  unfold sameM
  rw [eqFs_symm l m, Bool.and_comm (checkM l == 0)]
theorem sameM_trans {l m n : List Fn} (h : sameM l m = true) (k : sameM m n = true) : sameM l n = true := by
  simp only [sameM, Bool.and_eq_true] at *
  exact ⟨⟨h.1.1, k.1.2⟩, eqFs_trans h.2 k.2⟩
theorem made_check (D : List Nat) : checkM (madeD D) = 0 := by
  obtain ⟨_, h2, h3⟩ := madeD_ok D
  exact checkM_zero.2 ⟨by omega, fun f hf => ⟨(h3 f hf).1, (h3 f hf).2.1⟩⟩
/-- A program with right numbers is the one that Number returns. -/
theorem number_id {l : List Fn} (h : checkM l = 0) : numberM l = l := by
  obtain ⟨h1, h2⟩ := checkM_zero.1 h
  unfold numberM
  rw [if_pos ⟨h1, fun f hf => (h2 f hf).1⟩]
  conv => rhs; rw [← List.map_id l]
  exact List.map_congr_left fun f hf => numFn_nums (h2 f hf).2
theorem eqF_body {f g : Fn} (h : f.body.length ≠ g.body.length) : eqF f g = false := by
  rw [Bool.eq_false_iff]
  intro h2
  have := (eqF_iff.1 h2).2.2.2.2.2
  rw [eqSs_len h] at this
  cases this
/-- Without the first statement of one function it is another program. -/
theorem same_cut {l : List Fn} {j : Nat} (hj : j < l.length) {g : Fn} (hg : g.body.length ≠ l[j].body.length) : sameM l (numberM (l.set j g)) = false := by
  have key : eqFs l (numberM (l.set j g)) = false := by
    unfold numberM
    split
    · by_cases hl : l.length = ((l.set j g).map numFn).length
      · rw [Bool.eq_false_iff]
        intro h
        have := (eqFs_all l _ hl).1 h j hj (by simpa using hj)
        rw [eqF_body (by simp [numFn, renL_len]; exact fun e => hg e.symm)] at this
        cases this
      · exact eqFs_len hl
    · exact eqFs_len (by simp; intro e; rw [e] at hj; exact absurd hj (Nat.not_lt_zero _))
  simp [sameM, key]
end Go.Proofs.YtnkmbddjekepkaaGreatDoor
