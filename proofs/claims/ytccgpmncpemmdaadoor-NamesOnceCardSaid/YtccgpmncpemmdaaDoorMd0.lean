/- The program of a draft of layer 3, in plain words, and that it has the right shape. -/
import Derived.Test.YtccgpmncpemmdaaDoorShp
namespace Go.Proofs.YtccgpmncpemmdaaDoor
open Go Go.RowKit
set_option linter.unusedSimpArgs false
set_option linter.unusedVariables false
set_option linter.unnecessarySimpa false
/-- The next number below n, and where the source then is. -/
def nextD (L : List Nat) (n p : Nat) : Nat × Nat := if p < L.length then (L[p]! % n, p + 1) else (0, p)
theorem nextD_lt (L : List Nat) {n : Nat} (p : Nat) (h : 0 < n) : (nextD L n p).1 < n := by
  unfold nextD
  split
  · exact Nat.mod_lt _ h
  · exact h
def nm5 : List Bytes := [[97], [98], [99], [110], [120, 95, 49]]
theorem nm5_ok : ∀ s ∈ nm5, nameOk s = true ∧ s.length ≤ 3 := by decide
def nameD (L : List Nat) (p : Nat) : Bytes × Nat := (nm5[(nextD L 5 p).1]!, (nextD L 5 p).2)
theorem nameD_mem (L : List Nat) (p : Nat) : (nameD L p).1 ∈ nm5 := by
  have h := nextD_lt L (n := 5) p (by omega)
  unfold nameD
  simp only
  rw [sget (zs := nm5) h]
  exact List.getElem_mem _
def num5 : List Int := [0, 1, 2, 10, 9223372036854775807]
theorem num5_ok : ∀ n ∈ num5, 0 ≤ n ∧ n ≤ 9223372036854775807 := by decide
def kindD (d k : Nat) : Nat := if d = 0 ∧ 5 ≤ k ∧ k ≤ 7 then 3 else k
/-- An expression with at most d levels. -/
def exprD (L : List Nat) : Nat → Nat → Ex × Nat
  | 0, p => (.mk 1 0 0 [] [], p)
  | d + 1, p =>
    let k := nextD L 9 p
    let kind := kindD d k.1
    if kind = 2 then let b := nextD L 2 k.2; (.mk 2 0 (b.1 : Nat) [] [], b.2)
    else if kind = 3 ∨ kind = 4 then let s := nameD L k.2; (.mk 3 0 0 s.1 [], s.2)
    else if kind = 5 then let o := nextD L 2 k.2; let e := exprD L d o.2; (.mk 4 (14 + (o.1 : Nat)) 0 [] [e.1], e.2)
    else if kind = 6 then let o := nextD L 13 k.2; let e := exprD L d o.2; let f := exprD L d e.2; (.mk 5 (1 + (o.1 : Nat)) 0 [] [e.1, f.1], f.2)
    else if kind = 7 then let s := nameD L k.2; let e := exprD L d s.2; (.mk 6 0 0 s.1 [e.1], e.2)
    else if kind = 8 then let s := nameD L k.2; (.mk 7 0 0 s.1 [], s.2)
    else let n := nextD L 5 k.2; (.mk 1 0 num5[n.1]! [] [], n.2)
theorem depthM_leaf {m : Nat} {k o n : Int} {s : Bytes} (hf : fitsM k o n s 0 = true) : depthM (m + 1) (.mk k o n s []) ≠ 0 := by
  rw [depthM_succ (by simpa [Ex.fits, Ex.kind, Ex.op, Ex.num, Ex.name, Ex.args] using hf) (by simp [Ex.args])]
  omega
theorem depthM_node {m : Nat} {k o n : Int} {s : Bytes} {es : List Ex} (hf : fitsM k o n s es.length = true) (h : ∀ e ∈ es, depthM m e ≠ 0) : depthM (m + 1) (.mk k o n s es) ≠ 0 := by
  rw [depthM_succ (by simpa [Ex.fits, Ex.kind, Ex.op, Ex.num, Ex.name, Ex.args] using hf) (by
    simp only [Ex.args, List.mem_map, not_exists, not_and]
    intro e he h0
    exact h e he h0)]
  omega
theorem isEmpty_of_ok {s : Bytes} (h : nameOk s = true) : s.isEmpty = false := by
  cases s with
  | nil => simp [nameOk] at h
  | cons c t => rfl
theorem exprD_depth (L : List Nat) : ∀ (d p : Nat), 0 < d → depthM d (exprD L d p).1 ≠ 0
  | 0, _, h => absurd h (Nat.lt_irrefl _)
  | d + 1, p, _ => by
    have hk := nextD_lt L (n := 9) p (by omega)
    have hs := fun q => nm5_ok _ (nameD_mem L q)
    have hn := fun q => num5_ok (num5[(nextD L 5 q).1]!) (by rw [getElem!_pos num5 _ (nextD_lt L q (by omega))]; exact List.getElem_mem _)
    unfold exprD
    simp only
    split
    · rename_i h2
      have := nextD_lt L (n := 2) (nextD L 9 p).2 (by omega)
      exact depthM_leaf (by simp [fitsM, partOf]; omega)
    split
    · exact depthM_leaf (by simp [fitsM, partOf, (hs _).1, isEmpty_of_ok])
    have hd : kindD d (nextD L 9 p).1 = 5 ∨ kindD d (nextD L 9 p).1 = 6 ∨ kindD d (nextD L 9 p).1 = 7 → 0 < d := by
      unfold kindD
      split <;> omega
    split
    · rename_i h5
      have := nextD_lt L (n := 2) (nextD L 9 p).2 (by omega)
      refine depthM_node (by simp [fitsM, partOf]; omega) ?_
      simp only [List.mem_singleton, forall_eq]
      exact exprD_depth L d _ (hd (.inl h5))
    split
    · rename_i h6
      have := nextD_lt L (n := 13) (nextD L 9 p).2 (by omega)
      refine depthM_node (by simp [fitsM, partOf]; omega) ?_
      simp only [List.mem_cons, List.not_mem_nil, or_false, forall_eq_or_imp, forall_eq]
      exact ⟨exprD_depth L d _ (hd (.inr (.inl h6))), exprD_depth L d _ (hd (.inr (.inl h6)))⟩
    split
    · rename_i h7
      refine depthM_node (by simp [fitsM, partOf, (hs _).1, isEmpty_of_ok]) ?_
      simp only [List.mem_singleton, forall_eq]
      exact exprD_depth L d _ (hd (.inr (.inr h7)))
    split
    · exact depthM_leaf (by simp [fitsM, partOf, (hs _).1, isEmpty_of_ok])
    · exact depthM_leaf (by simpa [fitsM, partOf] using (hn _).1)
/-- So many expressions. -/
def exprsD (L : List Nat) : Nat → Nat → List Ex × Nat
  | 0, p => ([], p)
  | n + 1, p => let r := exprsD L n p; let e := exprD L 3 r.2; (r.1 ++ [e.1], e.2)
theorem exprsD_len (L : List Nat) : ∀ (n p : Nat), (exprsD L n p).1.length = n
  | 0, _ => rfl
  | n + 1, p => by simp [exprsD, exprsD_len L n]
theorem exprsD_ok (L : List Nat) : ∀ (n p : Nat), ∀ e ∈ (exprsD L n p).1, depthM 3 e ≠ 0
  | 0, _ => by simp [exprsD]
  | n + 1, p => by
    intro e he
    simp only [exprsD, List.mem_append, List.mem_singleton] at he
    rcases he with he | rfl
    · exact exprsD_ok L n p e he
    · exact exprD_depth L 3 _ (by omega)
/-- Where the source is, and how many statements there may still be. -/
abbrev Sd := Nat × Nat
def fn3 : List Bytes := [[109, 97, 105, 110], [102], [103]]
/-- A statement; blk is what makes the blocks in it. -/
def stmtD (L : List Nat) (blk : Sd → List St × Sd) (q : Sd) : St × Sd :=
  let k := nextD L 10 q.1
  let left := q.2
  let kind : Nat := 1 + k.1
  if kind = 1 then let s := nameD L k.2; let t := nextD L 3 s.2; let n := nextD L 2 t.2; let a := exprsD L n.1 n.2; (.mk 1 0 s.1 (1 + (t.1 : Nat)) [] a.1 [] [], a.2, left)
  else if kind = 2 ∨ kind = 4 then let s := nameD L k.2; let a := exprsD L 1 s.2; (.mk kind 0 s.1 0 [] a.1 [] [], a.2, left)
  else if kind = 3 then let s := nameD L k.2; let a := exprsD L 2 s.2; (.mk 3 0 s.1 0 [] a.1 [] [], a.2, left)
  else if kind = 5 then let s := nameD L k.2; (.mk 5 0 s.1 0 [] [] [] [], s.2, left)
  else if kind = 6 then let a := exprsD L 1 k.2; (.mk 6 0 [] 0 [] a.1 [] [], a.2, left)
  else if kind = 7 then
    let c := nextD L 3 k.2; let n := nextD L 3 c.2; let a := exprsD L n.1 n.2; let b := nextD L 2 a.2
    if b.1 = 1 then let s := nameD L b.2; (.mk 7 0 s.1 0 fn3[c.1]! a.1 [] [], s.2, left) else (.mk 7 0 [] 0 fn3[c.1]! a.1 [] [], b.2, left)
  else if kind = 8 then let n := nextD L 2 k.2; let a := exprsD L n.1 n.2; (.mk 8 0 [] 0 [] a.1 [] [], a.2, left)
  else if kind = 9 then let a := exprsD L 1 k.2; let b := blk (a.2, left); let e := blk b.2; (.mk 9 0 [] 0 [] a.1 b.1 e.1, e.2)
  else let a := exprsD L 1 k.2; let b := blk (a.2, left); (.mk 10 0 [] 0 [] a.1 b.1 [], b.2)
/-- So many rounds of a block. -/
def roundsD (st : Sd → St × Sd) : Nat → Sd → List St × Sd
  | 0, q => ([], q)
  | n + 1, q => let r := roundsD st n q; if r.2.2 = 0 then r else let s := st (r.2.1, r.2.2 - 1); (r.1 ++ [s.1], s.2)
/-- A block with at most h levels. -/
def blockD (L : List Nat) : Nat → Sd → List St × Sd
  | 0, q => ([], (nextD L 4 q.1).2, q.2)
  | h + 1, q => roundsD (stmtD L (blockD L h)) (nextD L 4 q.1).1 ((nextD L 4 q.1).2, q.2)
def paramsD (L : List Nat) : Nat → Nat → List Pm × Nat
  | 0, p => ([], p)
  | n + 1, p => let r := paramsD L n p; let s := nameD L r.2; let t := nextD L 3 s.2; (r.1 ++ [⟨s.1, 1 + (t.1 : Nat)⟩], t.2)
/-- A function: at most 12 statements; and where the source then is. -/
def funcD (L : List Nat) (name : Bytes) (q : Nat) : Fn × Sd :=
  let r := nextD L 4 q
  let k := nextD L 3 r.2
  let ps := paramsD L k.1 k.2
  let b := blockD L 3 (ps.2, 12)
  let c := blockD L 3 b.2
  (⟨name, ps.1, (r.1 : Nat), b.1 ++ c.1, 0⟩, c.2)
def funcsD (L : List Nat) : Nat → Nat → List Fn × Nat
  | 0, q => ([], q)
  | n + 1, q => let r := funcsD L n q; let f := funcD L fn3[n]! r.2; (r.1 ++ [f.1], f.2.1)
/-- The program of a draft, ahead of its numbers. -/
def draftD (L : List Nat) : List Fn := (funcsD L (1 + (nextD L 3 0).1) (nextD L 3 0).2).1
/-- The program of a draft. -/
def madeD (D : List Nat) : List Fn := numberM (draftD (D.take 300))
/-! ### It has the right shape -/
theorem exOk_mono : ∀ (m : Nat) {k : Nat} {e : Ex}, m ≤ k → depthM m e ≠ 0 → depthM k e = depthM m e
  | 0, _, _, _, h => absurd rfl h
  | m + 1, 0, _, hk, _ => absurd hk (by omega)
  | m + 1, k + 1, e, hk, h => by
    have hf : e.fits = true := by
      cases hq : e.fits
      · exact absurd (by simp [depthM, hq]) h
      · rfl
    have h0 : 0 ∉ e.args.map (depthM m) := fun h' => h (depthM_zero hf h')
    have hm : e.args.map (depthM k) = e.args.map (depthM m) := by
      apply List.map_congr_left
      intro x hx
      exact exOk_mono m (by omega) fun h' => h0 (List.mem_map.2 ⟨x, hx, h'⟩)
    rw [depthM_succ hf h0, depthM_succ hf (by rw [hm]; exact h0), hm]
theorem exOk_of {m : Nat} {e : Ex} (hm : m ≤ 20) (h : depthM m e ≠ 0) : exOk e = true := by
  have := exOk_mono m hm h
  simp only [exOk, bne_iff_ne]
  omega
theorem exprsD_all (L : List Nat) (n p : Nat) : (exprsD L n p).1.all exOk = true := List.all_eq_true.2 fun e he => exOk_of (by omega) (exprsD_ok L n p e he)
theorem fn3_ok : ∀ s ∈ fn3, nameOk s = true ∧ s.length ≤ 4 := by decide +kernel
theorem fn3_get {k : Nat} (h : k < 3) : nameOk fn3[k]! = true := by
  rw [getElem!_pos fn3 k h]
  exact (fn3_ok _ (List.getElem_mem _)).1
/-- What a block that is made answers: it is as it has to be, and no more statements than there may be. -/
def GoodB (h : Nat) (q : Sd) (r : List St × Sd) : Prop := wellM h r.1 = true ∧ cntL r.1 + r.2.2 = q.2 ∧ r.1.length ≤ 3
theorem namedM_ok {s : Bytes} (h : nameOk s = true) : namedM s true false = true := by simp [namedM, h]
theorem stmtD_good (L : List Nat) (h : Nat) (blk : Sd → List St × Sd) (hb : ∀ q, GoodB h q (blk q)) (q : Sd) : headM (stmtD L blk q).1 = true ∧ wellM h (stmtD L blk q).1.body = true ∧ wellM h (stmtD L blk q).1.els = true ∧ (stmtD L blk q).1.cnt + (stmtD L blk q).2.2 = 1 + q.2 := by
  have w0 : wellM h [] = true := by cases h <;> rfl
  have hk := nextD_lt L (n := 10) q.1 (by omega)
  have hs := fun p => (nm5_ok _ (nameD_mem L p)).1
  have ht := fun p => nextD_lt L (n := 3) p (by omega)
  have h2 := fun p => nextD_lt L (n := 2) p (by omega)
  have e0 : nameOk [] = false := rfl
  unfold stmtD
  simp only
  split
  · refine ⟨?_, w0, w0, by simp [St.cnt, cntL]⟩
    have := ht (nameD L (nextD L 10 q.1).2).2
    have := h2 (nextD L 3 (nameD L (nextD L 10 q.1).2).2).2
    have htm : typedM (1 + ((nextD L 3 (nameD L (nextD L 10 q.1).2).2).1 : Nat)) = true := by simp only [typedM, Bool.and_eq_true, decide_eq_true_eq]; omega
    simp [headM, rowOf, St.kind, fldM, St.name, St.typ, St.callee, St.args, St.body, St.els, namedM, hs, e0, htm, exprsD_len, exprsD_all]
    omega
  split
  · rename_i h24
    refine ⟨?_, w0, w0, by simp [St.cnt, cntL]⟩
    rcases h24 with h24 | h24 <;> rw [h24] <;> simp [headM, rowOf, St.kind, fldM, St.name, St.typ, St.callee, St.args, St.body, St.els, namedM, hs, e0, typedM, exprsD_len, exprsD_all]
  split
  · refine ⟨?_, w0, w0, by simp [St.cnt, cntL]⟩
    simp [headM, rowOf, St.kind, fldM, St.name, St.typ, St.callee, St.args, St.body, St.els, namedM, hs, e0, typedM, exprsD_len, exprsD_all]
  split
  · refine ⟨?_, w0, w0, by simp [St.cnt, cntL]⟩
    simp [headM, rowOf, St.kind, fldM, St.name, St.typ, St.callee, St.args, St.body, St.els, namedM, hs, e0, typedM]
  split
  · refine ⟨?_, w0, w0, by simp [St.cnt, cntL]⟩
    simp [headM, rowOf, St.kind, fldM, St.name, St.typ, St.callee, St.args, St.body, St.els, namedM, e0, typedM, exprsD_len, exprsD_all]
  split
  · have hc := fn3_get (ht (nextD L 10 q.1).2)
    generalize fn3[(nextD L 3 (nextD L 10 q.1).2).1]! = cn at *
    have := ht (nextD L 3 (nextD L 10 q.1).2).2
    split
    · refine ⟨?_, w0, w0, by simp [St.cnt, cntL]⟩
      simp [headM, rowOf, St.kind, fldM, St.name, St.typ, St.callee, St.args, St.body, St.els, namedM, hs, hc, typedM, exprsD_len, exprsD_all]
      omega
    · refine ⟨?_, w0, w0, by simp [St.cnt, cntL]⟩
      simp [headM, rowOf, St.kind, fldM, St.name, St.typ, St.callee, St.args, St.body, St.els, namedM, hs, hc, e0, typedM, exprsD_len, exprsD_all]
      omega
  split
  · have := h2 (nextD L 10 q.1).2
    refine ⟨?_, w0, w0, by simp [St.cnt, cntL]⟩
    simp [headM, rowOf, St.kind, fldM, St.name, St.typ, St.callee, St.args, St.body, St.els, namedM, e0, typedM, exprsD_len, exprsD_all]
    omega
  split
  · have g1 := hb ((exprsD L 1 (nextD L 10 q.1).2).2, q.2)
    generalize blk ((exprsD L 1 (nextD L 10 q.1).2).2, q.2) = b at *
    have g2 := hb b.2
    generalize blk b.2 = c at *
    obtain ⟨a1, a2, a3⟩ := g1
    obtain ⟨b1, b2, b3⟩ := g2
    refine ⟨?_, a1, b1, by simp only [St.cnt] at *; omega⟩
    simp [headM, rowOf, St.kind, fldM, St.name, St.typ, St.callee, St.args, St.body, St.els, namedM, e0, typedM, exprsD_len, exprsD_all]
  · have g1 := hb ((exprsD L 1 (nextD L 10 q.1).2).2, q.2)
    generalize blk ((exprsD L 1 (nextD L 10 q.1).2).2, q.2) = b at *
    obtain ⟨a1, a2, a3⟩ := g1
    refine ⟨?_, a1, w0, by simp only [St.cnt, cntL] at *; omega⟩
    simp [headM, rowOf, St.kind, fldM, St.name, St.typ, St.callee, St.args, St.body, St.els, namedM, e0, typedM, exprsD_len, exprsD_all]
theorem roundsD_good (L : List Nat) (h : Nat) (blk : Sd → List St × Sd) (hb : ∀ q, GoodB h q (blk q)) : ∀ (n : Nat) (q : Sd),
    wellM (h + 1) (roundsD (stmtD L blk) n q).1 = true ∧ cntL (roundsD (stmtD L blk) n q).1 + (roundsD (stmtD L blk) n q).2.2 = q.2 ∧ (roundsD (stmtD L blk) n q).1.length ≤ n
  | 0, q => ⟨rfl, by simp [roundsD, cntL], by simp [roundsD]⟩
  | n + 1, q => by
    obtain ⟨h1, h2, h3⟩ := roundsD_good L h blk hb n q
    rw [roundsD]
    simp only
    split
    · exact ⟨h1, h2, by omega⟩
    · obtain ⟨g1, g2, g3, g4⟩ := stmtD_good L h blk hb ((roundsD (stmtD L blk) n q).2.1, (roundsD (stmtD L blk) n q).2.2 - 1)
      refine ⟨?_, ?_, by simp; omega⟩
      · rw [wellM] at h1 ⊢
        rw [List.all_append, h1]
        simp [g1, g2, g3]
      · rw [cntL_app, cntL_one]
        simp only at g4 ⊢
        omega
theorem blockD_good (L : List Nat) : ∀ (h : Nat) (q : Sd), GoodB h q (blockD L h q)
  | 0, q => ⟨rfl, by simp [blockD, cntL], by simp [blockD]⟩
  | h + 1, q => by
    obtain ⟨h1, h2, h3⟩ := roundsD_good L h (blockD L h) (blockD_good L h) (nextD L 4 q.1).1 ((nextD L 4 q.1).2, q.2)
    have := nextD_lt L (n := 4) q.1 (by omega)
    exact ⟨h1, h2, by rw [blockD]; omega⟩
theorem wellM_mono : ∀ (m : Nat) {k : Nat} {l : List St}, m ≤ k → wellM m l = true → wellM k l = true
  | 0, 0, l, _, h => h
  | 0, k + 1, l, _, h => by
    rw [wellM, List.isEmpty_iff] at h
    subst h
    rfl
  | m + 1, 0, l, hk, _ => absurd hk (by omega)
  | m + 1, k + 1, l, hk, h => by
    rw [wellM, List.all_eq_true] at h ⊢
    intro s hs
    have := h s hs
    simp only [Bool.and_eq_true] at this ⊢
    exact ⟨⟨this.1.1, wellM_mono m (by omega) this.1.2⟩, wellM_mono m (by omega) this.2⟩
theorem paramsD_ok (L : List Nat) : ∀ (n p : Nat), (paramsD L n p).1.length = n ∧ (paramsD L n p).1.all pmOk = true
  | 0, p => ⟨rfl, rfl⟩
  | n + 1, p => by
    obtain ⟨h1, h2⟩ := paramsD_ok L n p
    have := nextD_lt L (n := 3) (nameD L (paramsD L n p).2).2 (by omega)
    have hs := (nm5_ok _ (nameD_mem L (paramsD L n p).2)).1
    refine ⟨by simp [paramsD, h1], ?_⟩
    simp only [paramsD, List.all_append, h2, Bool.true_and, List.all_cons, List.all_nil, Bool.and_true, pmOk, hs, typedM, Bool.and_eq_true, decide_eq_true_eq]
    omega
theorem wellM_app {m : Nat} {a b : List St} (ha : wellM m a = true) (hb : wellM m b = true) : wellM m (a ++ b) = true := by
  cases m with
  | zero => rw [wellM, List.isEmpty_iff] at *; subst ha; subst hb; rfl
  | succ m => rw [wellM] at *; rw [List.all_append, ha, hb]; rfl
theorem funcD_ok (L : List Nat) (name : Bytes) (q : Nat) (h : nameOk name = true) : fnOk (funcD L name q).1 = true ∧ cntL (funcD L name q).1.body ≤ 12 ∧ (funcD L name q).1.body.length ≤ 6 ∧ (funcD L name q).1.params.length ≤ 2 := by
  have h4 := nextD_lt L (n := 4) q (by omega)
  have h3 := nextD_lt L (n := 3) (nextD L 4 q).2 (by omega)
  have hp := paramsD_ok L (nextD L 3 (nextD L 4 q).2).1 (nextD L 3 (nextD L 4 q).2).2
  unfold funcD
  simp only
  generalize paramsD L (nextD L 3 (nextD L 4 q).2).1 (nextD L 3 (nextD L 4 q).2).2 = ps at *
  have g1 := blockD_good L 3 (ps.2, 12)
  generalize blockD L 3 (ps.2, 12) = b at *
  have g2 := blockD_good L 3 b.2
  generalize blockD L 3 b.2 = c at *
  obtain ⟨a1, a2, a3⟩ := g1
  obtain ⟨b1, b2, b3⟩ := g2
  obtain ⟨p1, p2⟩ := hp
  have hc : cntL (b.1 ++ c.1) ≤ 12 := by rw [cntL_app]; simp only at a2; omega
  refine ⟨?_, hc, by simp; omega, by omega⟩
  have hw := wellM_mono 3 (k := 20) (by omega) (wellM_app a1 b1)
  simp [fnOk, h, p2, hw, typedM]
  omega
theorem funcsD_ok (L : List Nat) : ∀ (n q : Nat), n ≤ 3 → (funcsD L n q).1.length = n ∧ ∀ f ∈ (funcsD L n q).1, fnOk f = true ∧ cntL f.body ≤ 12 ∧ f.body.length ≤ 6 ∧ f.params.length ≤ 2
  | 0, q, _ => ⟨rfl, by simp [funcsD]⟩
  | n + 1, q, h => by
    obtain ⟨h1, h2⟩ := funcsD_ok L n q (by omega)
    refine ⟨by simp [funcsD, h1], fun f hf => ?_⟩
    simp only [funcsD, List.mem_append, List.mem_singleton] at hf
    rcases hf with hf | rfl
    · exact h2 f hf
    · exact funcD_ok L _ _ (fn3_get (by omega))
theorem draftD_ok (L : List Nat) : 1 ≤ (draftD L).length ∧ (draftD L).length ≤ 3 ∧ ∀ f ∈ draftD L, fnOk f = true ∧ cntL f.body ≤ 12 ∧ f.body.length ≤ 6 ∧ f.params.length ≤ 2 := by
  have h3 := nextD_lt L (n := 3) 0 (by omega)
  have h := funcsD_ok L (1 + (nextD L 3 0).1) (nextD L 3 0).2 (by omega)
  unfold draftD
  exact ⟨by omega, by omega, h.2⟩
end Go.Proofs.YtccgpmncpemmdaaDoor
