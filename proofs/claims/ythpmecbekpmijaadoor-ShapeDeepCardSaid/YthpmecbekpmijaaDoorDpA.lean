/- What ShapeDeep builds, in plain words: an expression and a statement nested so deep, and many statements; and what their shape is. No program in sight. -/
import Derived.Test.YthpmecbekpmijaaDoorShp
namespace Go.Proofs.YthpmecbekpmijaaDoor
open Go Go.RowKit
set_option linter.unusedSimpArgs false
set_option linter.unusedVariables false
set_option linter.unnecessarySimpa false
def numE (n : Int) : Ex := .mk 1 0 n [] []
def stepE (o : Nat) (e : Ex) : Ex := if o = 0 then .mk 4 14 0 [] [e] else if o = 1 then .mk 5 3 0 [] [e, numE 1] else .mk 6 0 0 [97] [e]
/-- The expression after i steps: i + 1 deep. -/
def deE (how : Nat) : Nat → Ex | 0 => numE 7 | i + 1 => stepE (how >>> ((i + 1) % 8) % 3) (deE how i)
theorem numE_depth (n : Int) (m : Nat) (h : 0 ≤ n) : depthM m (numE n) = if 1 ≤ m then 1 else 0 := by
  cases m with
  | zero => rfl
  | succ m =>
    have hf : (numE n).fits = true := by
      show fitsM 1 0 n [] 0 = true
      simp [fitsM, partOf, h]
    rw [depthM_succ hf (by simp [numE, Ex.args]), if_pos (by omega)]
    rfl
theorem deE_depth (how : Nat) : ∀ (i m : Nat), depthM m (deE how i) = if i + 1 ≤ m then i + 1 else 0
  | 0, m => numE_depth 7 m (by decide)
  | i + 1, 0 => by rw [if_neg (by omega)]; rfl
  | i + 1, m + 1 => by
    have ih := deE_depth how i m
    have h1 := numE_depth 1 m (by decide)
    rw [deE]
    generalize how >>> ((i + 1) % 8) % 3 = o
    generalize deE how i = e at ih
    have key : ∀ (k p : Int) (s : Bytes) (l : List Ex), (Ex.mk k p 0 s l).fits = true → (l = [e] ∨ l = [e, numE 1]) → depthM (m + 1) (Ex.mk k p 0 s l) = if i + 1 + 1 ≤ m + 1 then i + 1 + 1 else 0 := by
      intro k p s l hf hl
      by_cases hm : i + 1 ≤ m
      · rw [if_pos hm] at ih
        rw [if_pos (by omega)] at h1
        rw [if_pos (by omega)]
        rcases hl with rfl | rfl
        · rw [depthM_succ hf (by simp [Ex.args, ih])]
          simp [Ex.args, ih]
        · rw [depthM_succ hf (by simp [Ex.args, ih, h1])]
          simp [Ex.args, ih, h1]
      · rw [if_neg hm] at ih
        rw [if_neg (by omega)]
        exact depthM_zero hf (by rcases hl with rfl | rfl <;> simp [Ex.args, ih])
    unfold stepE
    split
    · exact key _ _ _ _ (by show fitsM 4 14 0 [] 1 = true; decide +kernel) (.inl rfl)
    · split
      · exact key _ _ _ _ (by show fitsM 5 3 0 [] 2 = true; decide +kernel) (.inr rfl)
      · exact key _ _ _ _ (by show fitsM 6 0 0 [97] 1 = true; decide +kernel) (.inl rfl)
def stepS (b : Bool) (s : St) : St := if b then .mk 10 0 [] 0 [] [numE 1] [s] [] else .mk 9 0 [] 0 [] [numE 1] [] [s]
/-- The statement after i steps: i + 1 deep. -/
def deS (how : Nat) : Nat → St | 0 => .mk 6 0 [] 0 [] [numE 1] [] [] | i + 1 => stepS (how >>> ((i + 1) % 8) % 2 == 1) (deS how i)
theorem well_nil : ∀ m, wellM m [] = true
  | 0 => rfl
  | _ + 1 => rfl
theorem numE_ok : exOk (numE 1) = true := by
  unfold exOk
  rw [numE_depth 1 20 (by decide)]
  rfl
theorem head_num {k : Int} {bs es : List St} {x : Rw} (hk : rowOf k = some x) (hf : fldM x [] 0 [] 1 bs.length es.length = true) : headM (.mk k 0 [] 0 [] [numE 1] bs es) = true := by
  simp only [headM, St.kind, St.name, St.typ, St.callee, St.args, St.body, St.els, hk, List.length_singleton, hf, List.all_cons, List.all_nil, numE_ok, Bool.and_self, Bool.and_true]
theorem deS_well (how : Nat) : ∀ (i m : Nat), wellM m [deS how i] = decide (i + 1 ≤ m)
  | 0, 0 => rfl
  | i + 1, 0 => by rw [decide_eq_false (by omega)]; rfl
  | 0, m + 1 => by
    rw [decide_eq_true (by omega)]
    have hh : headM (deS how 0) = true := head_num (x := ⟨false, false, false, false, false, false, 1, 1⟩) (by simp [rowOf]) (by decide +kernel)
    rw [wellM, List.all_cons, hh]
    simp [deS, St.body, St.els, well_nil]
  | i + 1, m + 1 => by
    have ih := deS_well how i m
    have hd : decide (i + 1 + 1 ≤ m + 1) = decide (i + 1 ≤ m) := by rw [Bool.eq_iff_iff]; simp
    rw [deS, hd, ← ih]
    generalize deS how i = s
    unfold stepS
    split
    · have hh : headM (.mk 10 0 [] 0 [] [numE 1] [s] []) = true := head_num (x := ⟨false, false, false, false, true, false, 1, 1⟩) (by simp [rowOf]) (by simp only [List.length_singleton, List.length_nil]; decide +kernel)
      rw [wellM, List.all_cons, hh]
      simp [St.body, St.els, well_nil]
    · have hh : headM (.mk 9 0 [] 0 [] [numE 1] [] [s]) = true := head_num (x := ⟨false, false, false, false, true, true, 1, 1⟩) (by simp [rowOf]) (by simp only [List.length_singleton, List.length_nil]; decide +kernel)
      rw [wellM, List.all_cons, hh]
      simp [St.body, St.els, well_nil]
theorem deS_cnt (how : Nat) : ∀ i, (deS how i).cnt = i + 1
  | 0 => rfl
  | i + 1 => by
    have ih := deS_cnt how i
    rw [deS]
    unfold stepS
    split <;> simp [St.cnt, cntL, ih] <;> omega
def deF (how i : Nat) : Fn := ⟨[109, 97, 105, 110], [], 0, [deS how i], 0⟩
theorem deF_ok (how i : Nat) (h : i < 200) : fnOk (deF how i) = decide (i + 1 ≤ 20) := by
  have hn : nameOk [109, 97, 105, 110] = true := by decide +kernel
  simp only [fnOk, deF, hn, deS_well, cntL_one, deS_cnt]
  simp
  omega
def retS : St := .mk 8 0 [] 0 [] [] [] []
theorem retS_head : headM retS = true := by decide +kernel
theorem retS_well (n : Nat) : wellM 20 (List.replicate n retS) = true := by
  rw [wellM, List.all_eq_true]
  intro s hs
  rw [List.eq_of_mem_replicate hs, retS_head]
  rfl
theorem retS_cnt : ∀ n, cntL (List.replicate n retS) = n
  | 0 => rfl
  | n + 1 => by
    rw [List.replicate_succ, cntL, retS_cnt n]
    show 1 + n = n + 1
    omega
def maF (n : Nat) : Fn := ⟨[102], [], 0, List.replicate n retS, 0⟩
theorem maF_ok (n : Nat) : fnOk (maF n) = decide (n ≤ 200) := by
  have hn : nameOk [102] = true := by decide +kernel
  simp only [fnOk, maF, hn, retS_well, retS_cnt]
  simp
theorem number_one (f : Fn) : numberM [f] = if fnOk f = true then [numFn f] else [] := by
  unfold numberM
  simp
theorem check_number_any (l : List Fn) : checkM (numberM l) = 0 := by
  by_cases h : l.length ≤ 20 ∧ ∀ f ∈ l, fnOk f = true
  · exact check_number h
  · rw [numberM, if_neg h]; rfl
theorem maF_count (n : Nat) : (numFn (maF n)).count = (n : Nat) := by simp [numFn, maF, retS_cnt]
end Go.Proofs.YthpmecbekpmijaaDoor
