/- The expressions of a draft's program have at most three levels. -/
import Derived.Test.YtnkmbddjekepkaaGreatDoorMd0
namespace Go.Proofs.YtnkmbddjekepkaaGreatDoor
open Go Go.RowKit
set_option linter.unusedSimpArgs false
set_option linter.unusedVariables false
set_option linter.unnecessarySimpa false
def deep3 (e : Ex) : Bool := depthM 3 e != 0
/-- All expressions of statements have at most three levels. -/
def deepM : Nat → List St → Bool
  | 0, l => l.isEmpty
  | m + 1, l => l.all fun s => s.args.all deep3 && deepM m s.body && deepM m s.els
theorem deepM_nil : ∀ m, deepM m [] = true
  | 0 => rfl
  | _ + 1 => rfl
theorem exprsD_deep (L : List Nat) (n p : Nat) : (exprsD L n p).1.all deep3 = true := List.all_eq_true.2 fun e he => by simpa [deep3] using exprsD_ok L n p e he
theorem stmtD_deep (L : List Nat) (h : Nat) (blk : Sd → List St × Sd) (hb : ∀ q, deepM h (blk q).1 = true) (q : Sd) : (stmtD L blk q).1.args.all deep3 = true ∧ deepM h (stmtD L blk q).1.body = true ∧ deepM h (stmtD L blk q).1.els = true := by
  unfold stmtD
  simp only
  repeat' split
  all_goals simp only [St.args, St.body, St.els, exprsD_deep, deepM_nil, hb, List.all_nil, and_self]
theorem roundsD_deep (L : List Nat) (h : Nat) (blk : Sd → List St × Sd) (hb : ∀ q, deepM h (blk q).1 = true) : ∀ (n : Nat) (q : Sd), deepM (h + 1) (roundsD (stmtD L blk) n q).1 = true
  | 0, q => rfl
  | n + 1, q => by
    have h1 := roundsD_deep L h blk hb n q
    rw [roundsD]
    simp only
    split
    · exact h1
    · obtain ⟨g1, g2, g3⟩ := stmtD_deep L h blk hb ((roundsD (stmtD L blk) n q).2.1, (roundsD (stmtD L blk) n q).2.2 - 1)
      rw [deepM] at h1 ⊢
      rw [List.all_append, h1]
      simp [g1, g2, g3]
theorem blockD_deep (L : List Nat) : ∀ (h : Nat) (q : Sd), deepM h (blockD L h q).1 = true
  | 0, q => rfl
  | h + 1, q => roundsD_deep L h (blockD L h) (blockD_deep L h) _ _
theorem deepM_mono : ∀ (m : Nat) {k : Nat} {l : List St}, m ≤ k → deepM m l = true → deepM k l = true
  | 0, k, l, _, h => by
    rw [deepM, List.isEmpty_iff] at h
    subst h
    exact deepM_nil k
  | m + 1, 0, l, hk, _ => absurd hk (by omega)
  | m + 1, k + 1, l, hk, h => by
    rw [deepM, List.all_eq_true] at h ⊢
    intro s hs
    have := h s hs
    simp only [Bool.and_eq_true] at this ⊢
    exact ⟨⟨this.1.1, deepM_mono m (by omega) this.1.2⟩, deepM_mono m (by omega) this.2⟩
theorem deepM_app {m : Nat} {a b : List St} (ha : deepM m a = true) (hb : deepM m b = true) : deepM m (a ++ b) = true := by
  cases m with
  | zero => rw [deepM, List.isEmpty_iff] at *; subst ha; subst hb; rfl
  | succ m => rw [deepM] at *; rw [List.all_append, ha, hb]; rfl
theorem funcD_deep (L : List Nat) (name : Bytes) (q : Nat) : deepM 20 (funcD L name q).1.body = true := by
  unfold funcD
  simp only
  exact deepM_mono 3 (by omega) (deepM_app (blockD_deep L 3 _) (blockD_deep L 3 _))
theorem funcsD_deep (L : List Nat) : ∀ (n q : Nat), ∀ f ∈ (funcsD L n q).1, deepM 20 f.body = true
  | 0, q => by simp [funcsD]
  | n + 1, q => by
    intro f hf
    simp only [funcsD, List.mem_append, List.mem_singleton] at hf
    rcases hf with hf | rfl
    · exact funcsD_deep L n q f hf
    · exact funcD_deep L _ _
theorem deepM_ren : ∀ (m : Nat) (l : List St) (n : Nat), deepM m (renL l n) = deepM m l
  | 0, [], n => rfl
  | 0, s :: l, n => rfl
  | m + 1, [], n => rfl
  | m + 1, s :: l, n => by
    have h := deepM_ren (m + 1) l (n + s.cnt)
    rw [deepM, deepM] at h
    rw [deepM, deepM, renL, List.all_cons, List.all_cons, h]
    congr 1
    cases s with
    | mk k i s t c xs bs es =>
      simp only [St.ren, St.args, St.body, St.els, deepM_ren m]
theorem deepM_get {m : Nat} {l : List St} (h : deepM (m + 1) l = true) {s : St} (hs : s ∈ l) : (∀ e ∈ s.args, depthM 3 e ≠ 0) ∧ deepM m s.body = true ∧ deepM m s.els = true := by
  have := List.all_eq_true.1 h s hs
  simp only [Bool.and_eq_true] at this
  exact ⟨fun e he => by simpa [deep3] using List.all_eq_true.1 this.1.1 e he, this.1.2, this.2⟩
/-- What the programs of drafts are. -/
theorem madeD_ok (D : List Nat) : 1 ≤ (madeD D).length ∧ (madeD D).length ≤ 3 ∧ ∀ f ∈ madeD D, fnOk f = true ∧ fnNums f = true ∧ cntL f.body ≤ 12 ∧ f.body.length ≤ 6 ∧ f.params.length ≤ 2 := by
  obtain ⟨h1, h2, h3⟩ := draftD_ok (D.take 300)
  have e : madeD D = (draftD (D.take 300)).map numFn := by
    unfold madeD numberM
    rw [if_pos ⟨by omega, fun f hf => (h3 f hf).1⟩]
  rw [e]
  refine ⟨by simpa using h1, by simpa using h2, fun f hf => ?_⟩
  obtain ⟨g, hg, rfl⟩ := List.mem_map.1 hf
  obtain ⟨k1, k2, k3, k4⟩ := h3 g hg
  exact ⟨(fnOk_num g).trans k1, fnNums_num g, by simpa [numFn, cntL_ren] using k2, by simpa [numFn, renL_len] using k3, by simpa [numFn] using k4⟩
theorem madeD_deep (D : List Nat) : ∀ f ∈ madeD D, deepM 20 f.body = true := by
  intro f hf
  unfold madeD numberM at hf
  split at hf
  · obtain ⟨g, hg, rfl⟩ := List.mem_map.1 hf
    rw [numFn, deepM_ren]
    exact funcsD_deep _ _ _ g hg
  · cases hf
end Go.Proofs.YtnkmbddjekepkaaGreatDoor
