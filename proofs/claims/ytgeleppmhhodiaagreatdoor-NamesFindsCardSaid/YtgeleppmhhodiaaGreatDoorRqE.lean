/- rewindref03.Check answers checkM. -/
import Derived.Test.YtgeleppmhhodiaaGreatDoorShp
import Derived.BigQuiet
import Derived.Deep.QuietTactic
import Derived.Test.YtgeleppmhhodiaaGreatDoorEq
import Derived.Test.YtgeleppmhhodiaaGreatDoorRsG
import Derived.Deep.RegionHeld3
import Derived.Test.YtgeleppmhhodiaaGreatDoorSpG
/- Small things for walks that compare. -/
namespace Go.Proofs.YtgeleppmhhodiaaGreatDoor
open Go Go.RowKit
set_option linter.unusedSimpArgs false
set_option linter.unusedVariables false
set_option linter.unnecessarySimpa false
theorem has_drewN {w : World} (n : Nat) : Has w (w.drewN n) := fun _ _ _ h => h
abbrev QtPost (w : World) (b : Bool) (r : Ending) (w' : World) : Prop := r = .returned (.bool b) ∧ ∃ n, w' = w.drewN n
theorem bne_no {α : Type} [BEq α] {a b : α} (h : (a == b) = false) : (a != b) = true := by simp [bne, h]
theorem bne_yes {α : Type} [BEq α] {a b : α} (h : (a == b) = true) : (a != b) = false := by simp [bne, h]
theorem exs_sz {l : List Ex} {k : Nat} (h : k < l.length) : SizeOf.sizeOf l[k].args < SizeOf.sizeOf l := by
  have h1 := List.sizeOf_lt_of_mem (List.getElem_mem h)
  have h2 : SizeOf.sizeOf l[k].args < SizeOf.sizeOf l[k] := by
    generalize l[k] = e
    cases e
    simp only [Ex.args, Ex.mk.sizeOf_spec]
    omega
  omega
theorem sts_sz {l : List St} {k : Nat} (h : k < l.length) : SizeOf.sizeOf l[k].body < SizeOf.sizeOf l ∧ SizeOf.sizeOf l[k].els < SizeOf.sizeOf l := by
  have h1 := List.sizeOf_lt_of_mem (List.getElem_mem h)
  have h2 : SizeOf.sizeOf l[k].body < SizeOf.sizeOf l[k] ∧ SizeOf.sizeOf l[k].els < SizeOf.sizeOf l[k] := by
    generalize l[k] = e
    cases e
    simp only [St.body, St.els, St.mk.sizeOf_spec]
    omega
  omega
end Go.Proofs.YtgeleppmhhodiaaGreatDoor
/- The program of a draft of layer 3, in plain words, and that it has the right shape. -/
namespace Go.Proofs.YtgeleppmhhodiaaGreatDoor
open Go Go.RowKit
set_option linter.unusedSimpArgs false
set_option linter.unusedVariables false
set_option linter.unnecessarySimpa false
/-- The next number below n, and where the source then is. -/
def nextD (L : List Nat) (n p : Nat) : Nat × Nat := if p < L.length then (L[p]! % n, p + 1) else (0, p)
theorem nextD_lt (L : List Nat) {n : Nat} (p : Nat) (h : 0 < n) : (nextD L n p).1 < n := by
  unfold nextD
  split
  · exact Nat.mod_lt _ h
  · exact h
def nm5 : List Bytes := [[97], [98], [99], [110], [120, 95, 49]]
theorem nm5_ok : ∀ s ∈ nm5, nameOk s = true ∧ s.length ≤ 3 := by decide
def nameD (L : List Nat) (p : Nat) : Bytes × Nat := (nm5[(nextD L 5 p).1]!, (nextD L 5 p).2)
theorem nameD_mem (L : List Nat) (p : Nat) : (nameD L p).1 ∈ nm5 := by
  have h := nextD_lt L (n := 5) p (by omega)
  unfold nameD
  simp only
  rw [sget (zs := nm5) h]
  exact List.getElem_mem _
def num5 : List Int := [0, 1, 2, 10, 9223372036854775807]
theorem num5_ok : ∀ n ∈ num5, 0 ≤ n ∧ n ≤ 9223372036854775807 := by decide
def kindD (d k : Nat) : Nat := if d = 0 ∧ 5 ≤ k ∧ k ≤ 7 then 3 else k
/-- An expression with at most d levels. -/
def exprD (L : List Nat) : Nat → Nat → Ex × Nat
  | 0, p => (.mk 1 0 0 [] [], p)
  | d + 1, p =>
    let k := nextD L 9 p
    let kind := kindD d k.1
    if kind = 2 then let b := nextD L 2 k.2; (.mk 2 0 (b.1 : Nat) [] [], b.2)
    else if kind = 3 ∨ kind = 4 then let s := nameD L k.2; (.mk 3 0 0 s.1 [], s.2)
    else if kind = 5 then let o := nextD L 2 k.2; let e := exprD L d o.2; (.mk 4 (14 + (o.1 : Nat)) 0 [] [e.1], e.2)
    else if kind = 6 then let o := nextD L 13 k.2; let e := exprD L d o.2; let f := exprD L d e.2; (.mk 5 (1 + (o.1 : Nat)) 0 [] [e.1, f.1], f.2)
    else if kind = 7 then let s := nameD L k.2; let e := exprD L d s.2; (.mk 6 0 0 s.1 [e.1], e.2)
    else if kind = 8 then let s := nameD L k.2; (.mk 7 0 0 s.1 [], s.2)
    else let n := nextD L 5 k.2; (.mk 1 0 num5[n.1]! [] [], n.2)
theorem depthM_leaf {m : Nat} {k o n : Int} {s : Bytes} (hf : fitsM k o n s 0 = true) : depthM (m + 1) (.mk k o n s []) ≠ 0 := by
  rw [depthM_succ (by simpa [Ex.fits, Ex.kind, Ex.op, Ex.num, Ex.name, Ex.args] using hf) (by simp [Ex.args])]
  omega
theorem depthM_node {m : Nat} {k o n : Int} {s : Bytes} {es : List Ex} (hf : fitsM k o n s es.length = true) (h : ∀ e ∈ es, depthM m e ≠ 0) : depthM (m + 1) (.mk k o n s es) ≠ 0 := by
  rw [depthM_succ (by simpa [Ex.fits, Ex.kind, Ex.op, Ex.num, Ex.name, Ex.args] using hf) (by
    simp only [Ex.args, List.mem_map, not_exists, not_and]
    intro e he h0
    exact h e he h0)]
  omega
theorem isEmpty_of_ok {s : Bytes} (h : nameOk s = true) : s.isEmpty = false := by
  cases s with
  | nil => simp [nameOk] at h
  | cons c t => rfl
theorem exprD_depth (L : List Nat) : ∀ (d p : Nat), 0 < d → depthM d (exprD L d p).1 ≠ 0
  | 0, _, h => absurd h (Nat.lt_irrefl _)
  | d + 1, p, _ => by
    have hk := nextD_lt L (n := 9) p (by omega)
    have hs := fun q => nm5_ok _ (nameD_mem L q)
    have hn := fun q => num5_ok (num5[(nextD L 5 q).1]!) (by rw [getElem!_pos num5 _ (nextD_lt L q (by omega))]; exact List.getElem_mem _)
    unfold exprD
    simp only
    split
    · rename_i h2
      have := nextD_lt L (n := 2) (nextD L 9 p).2 (by omega)
      exact depthM_leaf (by simp [fitsM, partOf]; omega)
    split
    · exact depthM_leaf (by simp [fitsM, partOf, (hs _).1, isEmpty_of_ok])
    have hd : kindD d (nextD L 9 p).1 = 5 ∨ kindD d (nextD L 9 p).1 = 6 ∨ kindD d (nextD L 9 p).1 = 7 → 0 < d := by
      unfold kindD
      split <;> omega
    split
    · rename_i h5
      have := nextD_lt L (n := 2) (nextD L 9 p).2 (by omega)
      refine depthM_node (by simp [fitsM, partOf]; omega) ?_
      simp only [List.mem_singleton, forall_eq]
      exact exprD_depth L d _ (hd (.inl h5))
    split
    · rename_i h6
      have := nextD_lt L (n := 13) (nextD L 9 p).2 (by omega)
      refine depthM_node (by simp [fitsM, partOf]; omega) ?_
      simp only [List.mem_cons, List.not_mem_nil, or_false, forall_eq_or_imp, forall_eq]
      exact ⟨exprD_depth L d _ (hd (.inr (.inl h6))), exprD_depth L d _ (hd (.inr (.inl h6)))⟩
    split
    · rename_i h7
      refine depthM_node (by simp [fitsM, partOf, (hs _).1, isEmpty_of_ok]) ?_
      simp only [List.mem_singleton, forall_eq]
      exact exprD_depth L d _ (hd (.inr (.inr h7)))
    split
    · exact depthM_leaf (by simp [fitsM, partOf, (hs _).1, isEmpty_of_ok])
    · exact depthM_leaf (by simpa [fitsM, partOf] using (hn _).1)
/-- So many expressions. -/
def exprsD (L : List Nat) : Nat → Nat → List Ex × Nat
  | 0, p => ([], p)
  | n + 1, p => let r := exprsD L n p; let e := exprD L 3 r.2; (r.1 ++ [e.1], e.2)
theorem exprsD_len (L : List Nat) : ∀ (n p : Nat), (exprsD L n p).1.length = n
  | 0, _ => rfl
  | n + 1, p => by simp [exprsD, exprsD_len L n]
theorem exprsD_ok (L : List Nat) : ∀ (n p : Nat), ∀ e ∈ (exprsD L n p).1, depthM 3 e ≠ 0
  | 0, _ => by simp [exprsD]
  | n + 1, p => by
    intro e he
    simp only [exprsD, List.mem_append, List.mem_singleton] at he
    rcases he with he | rfl
    · exact exprsD_ok L n p e he
    · exact exprD_depth L 3 _ (by omega)
/-- Where the source is, and how many statements there may still be. -/
abbrev Sd := Nat × Nat
def fn3 : List Bytes := [[109, 97, 105, 110], [102], [103]]
/-- A statement; blk is what makes the blocks in it. -/
def stmtD (L : List Nat) (blk : Sd → List St × Sd) (q : Sd) : St × Sd :=
  let k := nextD L 10 q.1
  let left := q.2
  let kind : Nat := 1 + k.1
  if kind = 1 then let s := nameD L k.2; let t := nextD L 3 s.2; let n := nextD L 2 t.2; let a := exprsD L n.1 n.2; (.mk 1 0 s.1 (1 + (t.1 : Nat)) [] a.1 [] [], a.2, left)
  else if kind = 2 ∨ kind = 4 then let s := nameD L k.2; let a := exprsD L 1 s.2; (.mk kind 0 s.1 0 [] a.1 [] [], a.2, left)
  else if kind = 3 then let s := nameD L k.2; let a := exprsD L 2 s.2; (.mk 3 0 s.1 0 [] a.1 [] [], a.2, left)
  else if kind = 5 then let s := nameD L k.2; (.mk 5 0 s.1 0 [] [] [] [], s.2, left)
  else if kind = 6 then let a := exprsD L 1 k.2; (.mk 6 0 [] 0 [] a.1 [] [], a.2, left)
  else if kind = 7 then
    let c := nextD L 3 k.2; let n := nextD L 3 c.2; let a := exprsD L n.1 n.2; let b := nextD L 2 a.2
    if b.1 = 1 then let s := nameD L b.2; (.mk 7 0 s.1 0 fn3[c.1]! a.1 [] [], s.2, left) else (.mk 7 0 [] 0 fn3[c.1]! a.1 [] [], b.2, left)
  else if kind = 8 then let n := nextD L 2 k.2; let a := exprsD L n.1 n.2; (.mk 8 0 [] 0 [] a.1 [] [], a.2, left)
  else if kind = 9 then let a := exprsD L 1 k.2; let b := blk (a.2, left); let e := blk b.2; (.mk 9 0 [] 0 [] a.1 b.1 e.1, e.2)
  else let a := exprsD L 1 k.2; let b := blk (a.2, left); (.mk 10 0 [] 0 [] a.1 b.1 [], b.2)
/-- So many rounds of a block. -/
def roundsD (st : Sd → St × Sd) : Nat → Sd → List St × Sd
  | 0, q => ([], q)
  | n + 1, q => let r := roundsD st n q; if r.2.2 = 0 then r else let s := st (r.2.1, r.2.2 - 1); (r.1 ++ [s.1], s.2)
/-- A block with at most h levels. -/
def blockD (L : List Nat) : Nat → Sd → List St × Sd
  | 0, q => ([], (nextD L 4 q.1).2, q.2)
  | h + 1, q => roundsD (stmtD L (blockD L h)) (nextD L 4 q.1).1 ((nextD L 4 q.1).2, q.2)
def paramsD (L : List Nat) : Nat → Nat → List Pm × Nat
  | 0, p => ([], p)
  | n + 1, p => let r := paramsD L n p; let s := nameD L r.2; let t := nextD L 3 s.2; (r.1 ++ [⟨s.1, 1 + (t.1 : Nat)⟩], t.2)
/-- A function: at most 12 statements; and where the source then is. -/
def funcD (L : List Nat) (name : Bytes) (q : Nat) : Fn × Sd :=
  let r := nextD L 4 q
  let k := nextD L 3 r.2
  let ps := paramsD L k.1 k.2
  let b := blockD L 3 (ps.2, 12)
  let c := blockD L 3 b.2
  (⟨name, ps.1, (r.1 : Nat), b.1 ++ c.1, 0⟩, c.2)
def funcsD (L : List Nat) : Nat → Nat → List Fn × Nat
  | 0, q => ([], q)
  | n + 1, q => let r := funcsD L n q; let f := funcD L fn3[n]! r.2; (r.1 ++ [f.1], f.2.1)
/-- The program of a draft, ahead of its numbers. -/
def draftD (L : List Nat) : List Fn := (funcsD L (1 + (nextD L 3 0).1) (nextD L 3 0).2).1
/-- The program of a draft. -/
def madeD (D : List Nat) : List Fn := numberM (draftD (D.take 300))
/-! ### It has the right shape -/
theorem exOk_mono : ∀ (m : Nat) {k : Nat} {e : Ex}, m ≤ k → depthM m e ≠ 0 → depthM k e = depthM m e
  | 0, _, _, _, h => absurd rfl h
  | m + 1, 0, _, hk, _ => absurd hk (by omega)
  | m + 1, k + 1, e, hk, h => by
    have hf : e.fits = true := by
      cases hq : e.fits
      · exact absurd (by simp [depthM, hq]) h
      · rfl
    have h0 : 0 ∉ e.args.map (depthM m) := fun h' => h (depthM_zero hf h')
    have hm : e.args.map (depthM k) = e.args.map (depthM m) := by
      apply List.map_congr_left
      intro x hx
      exact exOk_mono m (by omega) fun h' => h0 (List.mem_map.2 ⟨x, hx, h'⟩)
    rw [depthM_succ hf h0, depthM_succ hf (by rw [hm]; exact h0), hm]
theorem exOk_of {m : Nat} {e : Ex} (hm : m ≤ 20) (h : depthM m e ≠ 0) : exOk e = true := by
  have := exOk_mono m hm h
  simp only [exOk, bne_iff_ne]
  omega
theorem exprsD_all (L : List Nat) (n p : Nat) : (exprsD L n p).1.all exOk = true := List.all_eq_true.2 fun e he => exOk_of (by omega) (exprsD_ok L n p e he)
theorem fn3_ok : ∀ s ∈ fn3, nameOk s = true ∧ s.length ≤ 4 := by decide +kernel
theorem fn3_get {k : Nat} (h : k < 3) : nameOk fn3[k]! = true := by
  rw [getElem!_pos fn3 k h]
  exact (fn3_ok _ (List.getElem_mem _)).1
/-- What a block that is made answers: it is as it has to be, and no more statements than there may be. -/
def GoodB (h : Nat) (q : Sd) (r : List St × Sd) : Prop := wellM h r.1 = true ∧ cntL r.1 + r.2.2 = q.2 ∧ r.1.length ≤ 3
theorem namedM_ok {s : Bytes} (h : nameOk s = true) : namedM s true false = true := by simp [namedM, h]
theorem stmtD_good (L : List Nat) (h : Nat) (blk : Sd → List St × Sd) (hb : ∀ q, GoodB h q (blk q)) (q : Sd) : headM (stmtD L blk q).1 = true ∧ wellM h (stmtD L blk q).1.body = true ∧ wellM h (stmtD L blk q).1.els = true ∧ (stmtD L blk q).1.cnt + (stmtD L blk q).2.2 = 1 + q.2 := by
  have w0 : wellM h [] = true := by cases h <;> rfl
  have hk := nextD_lt L (n := 10) q.1 (by omega)
  have hs := fun p => (nm5_ok _ (nameD_mem L p)).1
  have ht := fun p => nextD_lt L (n := 3) p (by omega)
  have h2 := fun p => nextD_lt L (n := 2) p (by omega)
  have e0 : nameOk [] = false := rfl
  unfold stmtD
  simp only
  split
  · refine ⟨?_, w0, w0, by simp [St.cnt, cntL]⟩
    have := ht (nameD L (nextD L 10 q.1).2).2
    have := h2 (nextD L 3 (nameD L (nextD L 10 q.1).2).2).2
    have htm : typedM (1 + ((nextD L 3 (nameD L (nextD L 10 q.1).2).2).1 : Nat)) = true := by simp only [typedM, Bool.and_eq_true, decide_eq_true_eq]; omega
    simp [headM, rowOf, St.kind, fldM, St.name, St.typ, St.callee, St.args, St.body, St.els, namedM, hs, e0, htm, exprsD_len, exprsD_all]
    omega
  split
  · rename_i h24
    refine ⟨?_, w0, w0, by simp [St.cnt, cntL]⟩
    rcases h24 with h24 | h24 <;> rw [h24] <;> simp [headM, rowOf, St.kind, fldM, St.name, St.typ, St.callee, St.args, St.body, St.els, namedM, hs, e0, typedM, exprsD_len, exprsD_all]
  split
  · refine ⟨?_, w0, w0, by simp [St.cnt, cntL]⟩
    simp [headM, rowOf, St.kind, fldM, St.name, St.typ, St.callee, St.args, St.body, St.els, namedM, hs, e0, typedM, exprsD_len, exprsD_all]
  split
  · refine ⟨?_, w0, w0, by simp [St.cnt, cntL]⟩
    simp [headM, rowOf, St.kind, fldM, St.name, St.typ, St.callee, St.args, St.body, St.els, namedM, hs, e0, typedM]
  split
  · refine ⟨?_, w0, w0, by simp [St.cnt, cntL]⟩
    simp [headM, rowOf, St.kind, fldM, St.name, St.typ, St.callee, St.args, St.body, St.els, namedM, e0, typedM, exprsD_len, exprsD_all]
  split
  · have hc := fn3_get (ht (nextD L 10 q.1).2)
    generalize fn3[(nextD L 3 (nextD L 10 q.1).2).1]! = cn at *
    have := ht (nextD L 3 (nextD L 10 q.1).2).2
    split
    · refine ⟨?_, w0, w0, by simp [St.cnt, cntL]⟩
      simp [headM, rowOf, St.kind, fldM, St.name, St.typ, St.callee, St.args, St.body, St.els, namedM, hs, hc, typedM, exprsD_len, exprsD_all]
      omega
    · refine ⟨?_, w0, w0, by simp [St.cnt, cntL]⟩
      simp [headM, rowOf, St.kind, fldM, St.name, St.typ, St.callee, St.args, St.body, St.els, namedM, hs, hc, e0, typedM, exprsD_len, exprsD_all]
      omega
  split
  · have := h2 (nextD L 10 q.1).2
    refine ⟨?_, w0, w0, by simp [St.cnt, cntL]⟩
    simp [headM, rowOf, St.kind, fldM, St.name, St.typ, St.callee, St.args, St.body, St.els, namedM, e0, typedM, exprsD_len, exprsD_all]
    omega
  split
  · have g1 := hb ((exprsD L 1 (nextD L 10 q.1).2).2, q.2)
    generalize blk ((exprsD L 1 (nextD L 10 q.1).2).2, q.2) = b at *
    have g2 := hb b.2
    generalize blk b.2 = c at *
    obtain ⟨a1, a2, a3⟩ := g1
    obtain ⟨b1, b2, b3⟩ := g2
    refine ⟨?_, a1, b1, by simp only [St.cnt] at *; omega⟩
    simp [headM, rowOf, St.kind, fldM, St.name, St.typ, St.callee, St.args, St.body, St.els, namedM, e0, typedM, exprsD_len, exprsD_all]
  · have g1 := hb ((exprsD L 1 (nextD L 10 q.1).2).2, q.2)
    generalize blk ((exprsD L 1 (nextD L 10 q.1).2).2, q.2) = b at *
    obtain ⟨a1, a2, a3⟩ := g1
    refine ⟨?_, a1, w0, by simp only [St.cnt, cntL] at *; omega⟩
    simp [headM, rowOf, St.kind, fldM, St.name, St.typ, St.callee, St.args, St.body, St.els, namedM, e0, typedM, exprsD_len, exprsD_all]
theorem roundsD_good (L : List Nat) (h : Nat) (blk : Sd → List St × Sd) (hb : ∀ q, GoodB h q (blk q)) : ∀ (n : Nat) (q : Sd),
    wellM (h + 1) (roundsD (stmtD L blk) n q).1 = true ∧ cntL (roundsD (stmtD L blk) n q).1 + (roundsD (stmtD L blk) n q).2.2 = q.2 ∧ (roundsD (stmtD L blk) n q).1.length ≤ n
  | 0, q => ⟨rfl, by simp [roundsD, cntL], by simp [roundsD]⟩
  | n + 1, q => by
    obtain ⟨h1, h2, h3⟩ := roundsD_good L h blk hb n q
    rw [roundsD]
    simp only
    split
    · exact ⟨h1, h2, by omega⟩
    · obtain ⟨g1, g2, g3, g4⟩ := stmtD_good L h blk hb ((roundsD (stmtD L blk) n q).2.1, (roundsD (stmtD L blk) n q).2.2 - 1)
      refine ⟨?_, ?_, by simp; omega⟩
      · rw [wellM] at h1 ⊢
        rw [List.all_append, h1]
        simp [g1, g2, g3]
      · rw [cntL_app, cntL_one]
        simp only at g4 ⊢
        omega
theorem blockD_good (L : List Nat) : ∀ (h : Nat) (q : Sd), GoodB h q (blockD L h q)
  | 0, q => ⟨rfl, by simp [blockD, cntL], by simp [blockD]⟩
  | h + 1, q => by
    obtain ⟨h1, h2, h3⟩ := roundsD_good L h (blockD L h) (blockD_good L h) (nextD L 4 q.1).1 ((nextD L 4 q.1).2, q.2)
    have := nextD_lt L (n := 4) q.1 (by omega)
    exact ⟨h1, h2, by rw [blockD]; omega⟩
theorem wellM_mono : ∀ (m : Nat) {k : Nat} {l : List St}, m ≤ k → wellM m l = true → wellM k l = true
  | 0, 0, l, _, h => h
  | 0, k + 1, l, _, h => by
    rw [wellM, List.isEmpty_iff] at h
    subst h
    rfl
  | m + 1, 0, l, hk, _ => absurd hk (by omega)
  | m + 1, k + 1, l, hk, h => by
    rw [wellM, List.all_eq_true] at h ⊢
    intro s hs
    have := h s hs
    simp only [Bool.and_eq_true] at this ⊢
    exact ⟨⟨this.1.1, wellM_mono m (by omega) this.1.2⟩, wellM_mono m (by omega) this.2⟩
theorem paramsD_ok (L : List Nat) : ∀ (n p : Nat), (paramsD L n p).1.length = n ∧ (paramsD L n p).1.all pmOk = true
  | 0, p => ⟨rfl, rfl⟩
  | n + 1, p => by
    obtain ⟨h1, h2⟩ := paramsD_ok L n p
    have := nextD_lt L (n := 3) (nameD L (paramsD L n p).2).2 (by omega)
    have hs := (nm5_ok _ (nameD_mem L (paramsD L n p).2)).1
    refine ⟨by simp [paramsD, h1], ?_⟩
    simp only [paramsD, List.all_append, h2, Bool.true_and, List.all_cons, List.all_nil, Bool.and_true, pmOk, hs, typedM, Bool.and_eq_true, decide_eq_true_eq]
    omega
theorem wellM_app {m : Nat} {a b : List St} (ha : wellM m a = true) (hb : wellM m b = true) : wellM m (a ++ b) = true := by
  cases m with
  | zero => rw [wellM, List.isEmpty_iff] at *; subst ha; subst hb; rfl
  | succ m => rw [wellM] at *; rw [List.all_append, ha, hb]; rfl
theorem funcD_ok (L : List Nat) (name : Bytes) (q : Nat) (h : nameOk name = true) : fnOk (funcD L name q).1 = true ∧ cntL (funcD L name q).1.body ≤ 12 ∧ (funcD L name q).1.body.length ≤ 6 ∧ (funcD L name q).1.params.length ≤ 2 := by
  have h4 := nextD_lt L (n := 4) q (by omega)
  have h3 := nextD_lt L (n := 3) (nextD L 4 q).2 (by omega)
  have hp := paramsD_ok L (nextD L 3 (nextD L 4 q).2).1 (nextD L 3 (nextD L 4 q).2).2
  unfold funcD
  simp only
  generalize paramsD L (nextD L 3 (nextD L 4 q).2).1 (nextD L 3 (nextD L 4 q).2).2 = ps at *
  have g1 := blockD_good L 3 (ps.2, 12)
  generalize blockD L 3 (ps.2, 12) = b at *
  have g2 := blockD_good L 3 b.2
  generalize blockD L 3 b.2 = c at *
  obtain ⟨a1, a2, a3⟩ := g1
  obtain ⟨b1, b2, b3⟩ := g2
  obtain ⟨p1, p2⟩ := hp
  have hc : cntL (b.1 ++ c.1) ≤ 12 := by rw [cntL_app]; simp only at a2; omega
  refine ⟨?_, hc, by simp; omega, by omega⟩
  have hw := wellM_mono 3 (k := 20) (by omega) (wellM_app a1 b1)
  simp [fnOk, h, p2, hw, typedM]
  omega
theorem funcsD_ok (L : List Nat) : ∀ (n q : Nat), n ≤ 3 → (funcsD L n q).1.length = n ∧ ∀ f ∈ (funcsD L n q).1, fnOk f = true ∧ cntL f.body ≤ 12 ∧ f.body.length ≤ 6 ∧ f.params.length ≤ 2
  | 0, q, _ => ⟨rfl, by simp [funcsD]⟩
  | n + 1, q, h => by
    obtain ⟨h1, h2⟩ := funcsD_ok L n q (by omega)
    refine ⟨by simp [funcsD, h1], fun f hf => ?_⟩
    simp only [funcsD, List.mem_append, List.mem_singleton] at hf
    rcases hf with hf | rfl
    · exact h2 f hf
    · exact funcD_ok L _ _ (fn3_get (by omega))
theorem draftD_ok (L : List Nat) : 1 ≤ (draftD L).length ∧ (draftD L).length ≤ 3 ∧ ∀ f ∈ draftD L, fnOk f = true ∧ cntL f.body ≤ 12 ∧ f.body.length ≤ 6 ∧ f.params.length ≤ 2 := by
  have h3 := nextD_lt L (n := 3) 0 (by omega)
  have h := funcsD_ok L (1 + (nextD L 3 0).1) (nextD L 3 0).2 (by omega)
  unfold draftD
  exact ⟨by omega, by omega, h.2⟩
end Go.Proofs.YtgeleppmhhodiaaGreatDoor
/- The expressions of a draft's program have at most three levels. -/
namespace Go.Proofs.YtgeleppmhhodiaaGreatDoor
open Go Go.RowKit
set_option linter.unusedSimpArgs false
set_option linter.unusedVariables false
set_option linter.unnecessarySimpa false
def deep3 (e : Ex) : Bool := depthM 3 e != 0
/-- All expressions of statements have at most three levels. -/
def deepM : Nat → List St → Bool
  | 0, l => l.isEmpty
  | m + 1, l => l.all fun s => s.args.all deep3 && deepM m s.body && deepM m s.els
theorem deepM_nil : ∀ m, deepM m [] = true
  | 0 => rfl
  | _ + 1 => rfl
theorem exprsD_deep (L : List Nat) (n p : Nat) : (exprsD L n p).1.all deep3 = true := List.all_eq_true.2 fun e he => by simpa [deep3] using exprsD_ok L n p e he
theorem stmtD_deep (L : List Nat) (h : Nat) (blk : Sd → List St × Sd) (hb : ∀ q, deepM h (blk q).1 = true) (q : Sd) : (stmtD L blk q).1.args.all deep3 = true ∧ deepM h (stmtD L blk q).1.body = true ∧ deepM h (stmtD L blk q).1.els = true := by
  unfold stmtD
  simp only
  repeat' split
  all_goals simp only [St.args, St.body, St.els, exprsD_deep, deepM_nil, hb, List.all_nil, and_self]
theorem roundsD_deep (L : List Nat) (h : Nat) (blk : Sd → List St × Sd) (hb : ∀ q, deepM h (blk q).1 = true) : ∀ (n : Nat) (q : Sd), deepM (h + 1) (roundsD (stmtD L blk) n q).1 = true
  | 0, q => rfl
  | n + 1, q => by
    have h1 := roundsD_deep L h blk hb n q
    rw [roundsD]
    simp only
    split
    · exact h1
    · obtain ⟨g1, g2, g3⟩ := stmtD_deep L h blk hb ((roundsD (stmtD L blk) n q).2.1, (roundsD (stmtD L blk) n q).2.2 - 1)
      rw [deepM] at h1 ⊢
      rw [List.all_append, h1]
      simp [g1, g2, g3]
theorem blockD_deep (L : List Nat) : ∀ (h : Nat) (q : Sd), deepM h (blockD L h q).1 = true
  | 0, q => rfl
  | h + 1, q => roundsD_deep L h (blockD L h) (blockD_deep L h) _ _
theorem deepM_mono : ∀ (m : Nat) {k : Nat} {l : List St}, m ≤ k → deepM m l = true → deepM k l = true
  | 0, k, l, _, h => by
    rw [deepM, List.isEmpty_iff] at h
    subst h
    exact deepM_nil k
  | m + 1, 0, l, hk, _ => absurd hk (by omega)
  | m + 1, k + 1, l, hk, h => by
    rw [deepM, List.all_eq_true] at h ⊢
    intro s hs
    have := h s hs
    simp only [Bool.and_eq_true] at this ⊢
    exact ⟨⟨this.1.1, deepM_mono m (by omega) this.1.2⟩, deepM_mono m (by omega) this.2⟩
theorem deepM_app {m : Nat} {a b : List St} (ha : deepM m a = true) (hb : deepM m b = true) : deepM m (a ++ b) = true := by
  cases m with
  | zero => rw [deepM, List.isEmpty_iff] at *; subst ha; subst hb; rfl
  | succ m => rw [deepM] at *; rw [List.all_append, ha, hb]; rfl
theorem funcD_deep (L : List Nat) (name : Bytes) (q : Nat) : deepM 20 (funcD L name q).1.body = true := by
  unfold funcD
  simp only
  exact deepM_mono 3 (by omega) (deepM_app (blockD_deep L 3 _) (blockD_deep L 3 _))
theorem funcsD_deep (L : List Nat) : ∀ (n q : Nat), ∀ f ∈ (funcsD L n q).1, deepM 20 f.body = true
  | 0, q => by simp [funcsD]
  | n + 1, q => by
    intro f hf
    simp only [funcsD, List.mem_append, List.mem_singleton] at hf
    rcases hf with hf | rfl
    · exact funcsD_deep L n q f hf
    · exact funcD_deep L _ _
theorem deepM_ren : ∀ (m : Nat) (l : List St) (n : Nat), deepM m (renL l n) = deepM m l
  | 0, [], n => rfl
  | 0, s :: l, n => rfl
  | m + 1, [], n => rfl
  | m + 1, s :: l, n => by
    have h := deepM_ren (m + 1) l (n + s.cnt)
    rw [deepM, deepM] at h
    rw [deepM, deepM, renL, List.all_cons, List.all_cons, h]
    congr 1
    cases s with
    | mk k i s t c xs bs es =>
      simp only [St.ren, St.args, St.body, St.els, deepM_ren m]
theorem deepM_get {m : Nat} {l : List St} (h : deepM (m + 1) l = true) {s : St} (hs : s ∈ l) : (∀ e ∈ s.args, depthM 3 e ≠ 0) ∧ deepM m s.body = true ∧ deepM m s.els = true := by
  have := List.all_eq_true.1 h s hs
  simp only [Bool.and_eq_true] at this
  exact ⟨fun e he => by simpa [deep3] using List.all_eq_true.1 this.1.1 e he, this.1.2, this.2⟩
/-- What the programs of drafts are. -/
theorem madeD_ok (D : List Nat) : 1 ≤ (madeD D).length ∧ (madeD D).length ≤ 3 ∧ ∀ f ∈ madeD D, fnOk f = true ∧ fnNums f = true ∧ cntL f.body ≤ 12 ∧ f.body.length ≤ 6 ∧ f.params.length ≤ 2 := by
  obtain ⟨h1, h2, h3⟩ := draftD_ok (D.take 300)
  have e : madeD D = (draftD (D.take 300)).map numFn := by
    unfold madeD numberM
    rw [if_pos ⟨by omega, fun f hf => (h3 f hf).1⟩]
  rw [e]
  refine ⟨by simpa using h1, by simpa using h2, fun f hf => ?_⟩
  obtain ⟨g, hg, rfl⟩ := List.mem_map.1 hf
  obtain ⟨k1, k2, k3, k4⟩ := h3 g hg
  exact ⟨(fnOk_num g).trans k1, fnNums_num g, by simpa [numFn, cntL_ren] using k2, by simpa [numFn, renL_len] using k3, by simpa [numFn] using k4⟩
theorem madeD_deep (D : List Nat) : ∀ f ∈ madeD D, deepM 20 f.body = true := by
  intro f hf
  unfold madeD numberM at hf
  split at hf
  · obtain ⟨g, hg, rfl⟩ := List.mem_map.1 hf
    rw [numFn, deepM_ren]
    exact funcsD_deep _ _ _ g hg
  · cases hf
end Go.Proofs.YtgeleppmhhodiaaGreatDoor
/- Being equal is an equivalence; programs that differ in one statement are different: the plain laws. -/
namespace Go.Proofs.YtgeleppmhhodiaaGreatDoor
open Go Go.RowKit
set_option linter.unusedSimpArgs false
set_option linter.unusedVariables false
set_option linter.unnecessarySimpa false
theorem checkM_zero {l : List Fn} : checkM l = 0 ↔ l.length ≤ 20 ∧ ∀ f ∈ l, fnOk f = true ∧ fnNums f = true := by
  unfold checkM
  split
  · rename_i h
    exact ⟨fun _ => h, fun _ => rfl⟩
  · rename_i h
    exact ⟨fun h2 => absurd h2 (by decide), fun h2 => absurd h2 h⟩
theorem eqF_iff {f g : Fn} : eqF f g = true ↔ fnOk f = true ∧ fnOk g = true ∧ f.name = g.name ∧ f.result = g.result ∧ f.params = g.params ∧ eqSs f.body g.body = true := by
  simp only [eqF, Bool.and_eq_true, beq_iff_eq, decide_eq_true_eq, and_assoc]
theorem eqF_refl {f : Fn} (h : fnOk f = true) : eqF f f = true := eqF_iff.2 ⟨h, h, rfl, rfl, rfl, eqSs_refl _⟩
theorem eqF_symm (f g : Fn) : eqF f g = eqF g f := by
  rw [Bool.eq_iff_iff, eqF_iff, eqF_iff, eqSs_symm f.body g.body]
  exact ⟨fun ⟨a, b, c, d, e, h⟩ => ⟨b, a, c.symm, d.symm, e.symm, h⟩, fun ⟨a, b, c, d, e, h⟩ => ⟨b, a, c.symm, d.symm, e.symm, h⟩⟩
theorem eqF_trans {f g h : Fn} (a : eqF f g = true) (b : eqF g h = true) : eqF f h = true := by
  rw [eqF_iff] at *
  exact ⟨a.1, b.2.1, a.2.2.1.trans b.2.2.1, a.2.2.2.1.trans b.2.2.2.1, a.2.2.2.2.1.trans b.2.2.2.2.1, eqSs_trans a.2.2.2.2.2 b.2.2.2.2.2⟩
theorem eqFs_refl : ∀ {l : List Fn}, (∀ f ∈ l, fnOk f = true) → eqFs l l = true
  | [], _ => rfl
  | f :: l, h => by rw [eqFs, eqF_refl (h f (by simp)), eqFs_refl fun g hg => h g (by simp [hg])]; rfl
theorem eqFs_symm : ∀ (l m : List Fn), eqFs l m = eqFs m l
  | [], [] => rfl
  | a :: l, b :: m => by rw [eqFs, eqFs, eqF_symm a b, eqFs_symm l m]
  | [], _ :: _ => rfl
  | _ :: _, [] => rfl
theorem eqFs_trans : ∀ {l m n : List Fn}, eqFs l m = true → eqFs m n = true → eqFs l n = true
  | [], [], [], _, _ => rfl
  | a :: l, b :: m, c :: n, h, k => by
    simp only [eqFs, Bool.and_eq_true] at *
    exact ⟨eqF_trans h.1 k.1, eqFs_trans h.2 k.2⟩
  | [], _ :: _, _, h, _ => by cases h
  | _ :: _, [], _, h, _ => by cases h
  | [], [], _ :: _, _, k => by cases k
  | _ :: _, _ :: _, [], _, k => by cases k
theorem sameM_refl {l : List Fn} (h : checkM l = 0) : sameM l l = true := by
  have := eqFs_refl fun f hf => ((checkM_zero.1 h).2 f hf).1
  simp [sameM, h, this]
theorem sameM_symm (l m : List Fn) : sameM l m = sameM m l := by
  unfold sameM
  rw [eqFs_symm l m, Bool.and_comm (checkM l == 0)]
theorem sameM_trans {l m n : List Fn} (h : sameM l m = true) (k : sameM m n = true) : sameM l n = true := by
  simp only [sameM, Bool.and_eq_true] at *
  exact ⟨⟨h.1.1, k.1.2⟩, eqFs_trans h.2 k.2⟩
theorem made_check (D : List Nat) : checkM (madeD D) = 0 := by
  obtain ⟨_, h2, h3⟩ := madeD_ok D
  exact checkM_zero.2 ⟨by omega, fun f hf => ⟨(h3 f hf).1, (h3 f hf).2.1⟩⟩
/-- A program with right numbers is the one that Number returns. -/
theorem number_id {l : List Fn} (h : checkM l = 0) : numberM l = l := by
  obtain ⟨h1, h2⟩ := checkM_zero.1 h
  unfold numberM
  rw [if_pos ⟨h1, fun f hf => (h2 f hf).1⟩]
  conv => rhs; rw [← List.map_id l]
  exact List.map_congr_left fun f hf => numFn_nums (h2 f hf).2
theorem eqF_body {f g : Fn} (h : f.body.length ≠ g.body.length) : eqF f g = false := by
  rw [Bool.eq_false_iff]
  intro h2
  have := (eqF_iff.1 h2).2.2.2.2.2
  rw [eqSs_len h] at this
  cases this
/-- Without the first statement of one function it is another program. -/
theorem same_cut {l : List Fn} {j : Nat} (hj : j < l.length) {g : Fn} (hg : g.body.length ≠ l[j].body.length) : sameM l (numberM (l.set j g)) = false := by
  have key : eqFs l (numberM (l.set j g)) = false := by
    unfold numberM
    split
    · by_cases hl : l.length = ((l.set j g).map numFn).length
      · rw [Bool.eq_false_iff]
        intro h
        have := (eqFs_all l _ hl).1 h j hj (by simpa using hj)
        rw [eqF_body (by simp [numFn, renL_len]; exact fun e => hg e.symm)] at this
        cases this
      · exact eqFs_len hl
    · exact eqFs_len (by simp; intro e; rw [e] at hj; exact absurd hj (Nat.not_lt_zero _))
  simp [sameM, key]
end Go.Proofs.YtgeleppmhhodiaaGreatDoor
/- rewindref03.numbers answers whether statements have the numbers from n on, and Check answers checkM. -/
namespace Go.Proofs.YtgeleppmhhodiaaGreatDoor
open Go Go.RowKit
set_option linter.unusedSimpArgs false
set_option linter.unusedVariables false
set_option linter.unnecessarySimpa false
theorem ren_no (s : St) (n : Nat) : (s.ren n).no = (n : Nat) := by rw [St.ren_eq]; rfl
theorem ren_body (s : St) (n : Nat) : (s.ren n).body = renL s.body (n + 1) := by rw [St.ren_eq]; rfl
theorem ren_els (s : St) (n : Nat) : (s.ren n).els = renL s.els (n + 1 + cntL s.body) := by rw [St.ren_eq]; rfl
theorem renL_get (l : List St) (n k : Nat) (h : k < l.length) (h' : k < (renL l n).length) : (renL l n)[k] = l[k].ren (n + cntL (l.take k)) := by
  have h1 := renL_take l k n h
  have h2 : (renL l n).take (k + 1) = renL (l.take (k + 1)) n := by
    have h3 := renL_app (l.take (k + 1)) (l.drop (k + 1)) n
    rw [List.take_append_drop] at h3
    rw [h3, List.take_append_of_le_length (by rw [renL_len, List.length_take]; omega), List.take_of_length_le (by rw [renL_len, List.length_take]; omega)]
  have h4 : (renL l n)[k]? = ((renL l n).take (k + 1))[k]? := by rw [List.getElem?_take_of_lt (by omega)]
  rw [h2, h1, List.getElem?_append_right (by rw [renL_len, List.length_take]; omega), renL_len, List.length_take, Nat.min_eq_left (by omega), Nat.sub_self, List.getElem?_eq_getElem h'] at h4
  simpa using h4
theorem numsL_no {l : List St} {n k : Nat} (h : k < l.length) (hp : l[k].nums (n + cntL (l.take k)) = false) : numsL l n = false := by
  have h1 := numsL_app (l.take (k + 1)) (l.drop (k + 1)) n
  rw [List.take_append_drop, numsL_take l k n h, hp] at h1
  rw [h1]
  simp
theorem numsL_all : ∀ (l : List St) (n : Nat), (∀ (i : Nat) (h : i < l.length), l[i].nums (n + cntL (l.take i)) = true) → numsL l n = true
  | [], _, _ => rfl
  | s :: l, n, h => by
    rw [numsL, Bool.and_eq_true]
    refine ⟨by have := h 0 (by simp); simpa [cntL] using this, numsL_all l _ fun i hi => ?_⟩
    have := h (i + 1) (by simpa using hi)
    simpa [cntL, Nat.add_assoc] using this
set_option maxRecDepth 20000 in
set_option maxHeartbeats 8000000 in
theorem numbers1_any : ∀ (N : Nat) (l : List St) (n : Nat) (a a' : Option Addr) (cap cap' : Nat) (w : World), SizeOf.sizeOf l < N → l.length ≤ maxLen → n + cntL l ≤ 1000000 → St.Row w l a → St.Row w (renL l n) a' →
    Calls Tryz.prog 36 #[.slice a l.length cap, .slice a' l.length cap'] w (QtPost w (numsL l n)) := by
  intro N
  induction N with
  | zero => intro l n a a' cap cap' w h; exact absurd h (Nat.not_lt_zero _)
  | succ N ih =>
    intro l n a a' cap cap' w hN hll hn hl hm
    unfold maxLen at hll
    have HL := hide hl
    have HM := hide hm
    have IH := hide ih
    have HLM := hide (renL_len l n)
    clear ih hl hm
    go_enter Tryz.func36, Tryz.ntmps36
    go_wp2_with fail
    go_loopw [5] (fun i wr => ∃ k n0 : Nat, k ≤ l.length ∧ i = .int .i64 k ∧ Hid (∀ (i : Nat) (h : i < l.length), i < k → l[i].nums (n + cntL (l.take i)) = true) ∧ Hid (wr = w.drewN n0)) (fun i _ => l.length - (intOf i).toNat)
    case atStart => exact ⟨0, 0, Nat.zero_le _, rfl, fun i _ h => absurd h (Nat.not_lt_zero _), rfl⟩
    case round =>
      obtain ⟨k, nn, hk, rfl, hall, HWR⟩ := hrel
      have hasw : Has w wr := by rw [HWR.out]; exact has_drewN _
      by_cases hlt : k < l.length
      · have hlt' : k < (renL l n).length := by rw [renL_len]; exact hlt
        obtain ⟨b, o, rfl⟩ := HL.out.addr (by omega)
        obtain ⟨b', o', rfl⟩ := HM.out.addr (by omega)
        have hma := (HM.out.get k hlt').has hasw
        rw [renL_get l n k hlt hlt'] at hma
        obtain ⟨pa, pb, pe, ca, cb, ce, ⟨c0, c1, c2, c3, c4, c5, c6, c7⟩, hw, hx1, hx2, hx3⟩ := ((HL.out.get k hlt).has hasw).val
        obtain ⟨pa', pb', pe', ca', cb', ce', ⟨d0, d1, d2, d3, d4, d5, d6, d7⟩, hw', hy1, hy2, hy3⟩ := hma.val
        rw [ren_no] at d1
        rw [ren_body, renL_len] at d6
        rw [ren_els, renL_len] at d7
        rw [ren_body] at hy2
        rw [ren_els] at hy3
        have hbl1 := cell_lt c0
        have hbl2 := cell_lt d0
        simp only at hbl1 hbl2
        obtain ⟨hs1, hs2⟩ := sts_sz hlt
        have hct := cntL_take l k hlt
        have hcl := cntL_take_le l (k + 1)
        have hce := St.cnt_eq l[k]
        generalize hcc : n + cntL (l.take k) = c at *
        have h2 := hide fun (W : World) (hW : Has wr W) => IH.out l[k].body (c + 1) pb pb' cb cb' W (by omega) (Nat.le_trans hw.lb hw.cb) (by omega) (hx2.has hW) (hy2.has hW)
        have h3 := hide fun (W : World) (hW : Has wr W) => IH.out l[k].els (c + 1 + cntL l[k].body) pe pe' ce ce' W (by omega) (Nat.le_trans hw.le hw.ce) (by omega) (hx3.has hW) (hy3.has hW)
        have HCC := hide hcc
        have hc6 : (0 : Int) ≤ (k : Int) := by omega
        have hc7 : (k : Int) < (l.length : Int) := by omega
        clear hma hw hx1 hx2 hx3 hw' hy1 hy2 hy3 hs1 hs2 hct hcl hce hcc
        cases q1 : l[k].no == ((c : Nat) : Int)
        · have g1 := bne_no q1
          have HE : Hid (numsL l n = false) := hide (numsL_no hlt (by rw [HCC.out, St.nums_eq]; simp at q1; simp [q1]))
          clear q1 h2 h3
          go_wp2_with fail
          go_quiet (fail)
          go_wp2_with fail
          go_ret
          exact ⟨ret_bool HE.out.symm, _, by rw [HWR.out, World.drewN_drewN]⟩
        have g1 := bne_yes q1
        cases q6 : numsL l[k].body (c + 1)
        · have HE : Hid (numsL l n = false) := hide (numsL_no hlt (by rw [HCC.out, St.nums_eq, q6]; simp))
          rw [q6] at h2
          clear q1 q6 h3
          go_wp2_with fail
          go_quiet (first | (go_at_call 36; (with_reducible refine Calls.quiet_of (h2.out _ ?_)); exact fun _ _ _ h => h) | (go_at_call 36; (with_reducible refine Calls.quiet_of (h3.out _ ?_)); exact fun _ _ _ h => h))
          go_wp2_with fail
          go_ret
          exact ⟨ret_bool HE.out.symm, _, by rw [HWR.out, World.drewN_drewN]⟩
        rw [q6] at h2
        cases q7 : numsL l[k].els (c + 1 + cntL l[k].body)
        · have HE : Hid (numsL l n = false) := hide (numsL_no hlt (by rw [HCC.out, St.nums_eq, q7]; simp))
          rw [q7] at h3
          clear q1 q6 q7
          go_wp2_with fail
          go_quiet (first | (go_at_call 36; (with_reducible refine Calls.quiet_of (h2.out _ ?_)); exact fun _ _ _ h => h) | (go_at_call 36; (with_reducible refine Calls.quiet_of (h3.out _ ?_)); exact fun _ _ _ h => h))
          go_wp2_with fail
          go_ret
          exact ⟨ret_bool HE.out.symm, _, by rw [HWR.out, World.drewN_drewN]⟩
        rw [q7] at h3
        have HE : Hid (l[k].nums c = true) := hide (by rw [St.nums_eq, q6, q7]; simpa using q1)
        clear q1 q6 q7
        go_wp2_with fail
        go_quiet (first | (go_at_call 36; (with_reducible refine Calls.quiet_of (h2.out _ ?_)); exact fun _ _ _ h => h) | (go_at_call 36; (with_reducible refine Calls.quiet_of (h3.out _ ?_)); exact fun _ _ _ h => h))
        go_wp2_with fail
        go_roundw
        case rel =>
          refine ⟨k + 1, nn + nq, by omega, by go_num, ?_, hide (by rw [HWR.out, World.drewN_drewN])⟩
          intro i hi hik
          by_cases e : i = k
          · subst e; rw [HCC.out]; exact HE.out
          · exact hall.out i hi (by omega)
        case measure => simp [intOf]; omega
      · obtain rfl : k = l.length := by omega
        have HE := hide (numsL_all l n (fun i h => hall.out i h h))
        go_wp2_with fail
        go_ret
        exact ⟨ret_bool HE.out.symm, _, HWR.out⟩
end Go.Proofs.YtgeleppmhhodiaaGreatDoor
namespace Go.Proofs.YtgeleppmhhodiaaGreatDoor
open Go Go.RowKit
set_option linter.unusedSimpArgs false
set_option linter.unusedVariables false
set_option linter.unnecessarySimpa false
set_option maxRecDepth 20000 in
set_option maxHeartbeats 8000000 in
theorem refCheck_any (l : List Fn) (a : Option Addr) (cap : Nat) (w : World) (hl : Fns w l a cap) : Calls Tryz.prog 18 #[.agg #[.slice a l.length cap]] w fun r w' => r = .returned (.int .i64 (checkM l)) ∧ Below w.heap.size w w' := by
  have hlen : l.length ≤ 9223372036854775807 := Nat.le_trans hl.len hl.cap
  have HN := hide (refNumber_any [] l a cap (w.alloc (.cells #[.slice a l.length cap] 54)) ((hl.has (has_below ((bl w).al (.cells #[.slice a l.length cap] 54)))).has (has_new (by simp))) (by simp))
  have HL := hide hl
  clear hl
  by_cases hall : l.length ≤ 20 ∧ ∀ f ∈ l, fnOk f = true
  · have hnm : numberM l = l.map numFn := by unfold numberM; rw [if_pos hall]
    rw [hnm] at HN
    have HALL := hide hall
    have HML : Hid ((l.map numFn).length = l.length) := hide (List.length_map ..)
    obtain ⟨h20, _⟩ := hall
    clear hnm
    go_enter Tryz.func18, Tryz.ntmps18
    go_wp2_with fail
    (with_reducible refine HN.out.mono ?_)
    rintro r w1 ⟨⟨v, rfl, hown⟩, hb1⟩
    obtain ⟨a2, c2, rfl, hfn⟩ := hown.fns (by simp)
    have HFQ := hide (hfn.has has_av)
    have HX := hide ((hb1.block _ (by simp)).trans (heap_alloc_new w (.cells #[.slice a l.length cap] 54)))
    have HB1 := hide (((bl w).al (.cells #[.slice a l.length cap] 54)).tr hb1)
    have hxl := (Array.getElem?_eq_some_iff.1 HX.out).1
    have x0 := cell_at (j := 0) HX.out rfl
    clear hown hb1 hfn
    rw [HML.out]
    have HY : Hid ((w1.alloc (.cells #[.slice a2 l.length c2] 54)).heap[w1.heap.size]? = some (.cells #[.slice a2 l.length c2] 54 (0, 0))) := hide (heap_alloc_new _ _)
    have HX2 := hide ((Below.heap_alloc _ (.cells #[.slice a2 l.length c2] 54) _ hxl).trans HX.out)
    have HL2 := hide (HL.out.has (has_below (HB1.out.al (.cells #[.slice a2 l.length c2] 54))))
    have HQ2 := hide (HFQ.out.has (has_below ((bl w1).al (.cells #[.slice a2 l.length c2] 54))))
    have HB2 := hide (HB1.out.al (.cells #[.slice a2 l.length c2] 54))
    have hne : ((l.length : Int) != (l.length : Int)) = false := by simp
    have hxl2 : w.heap.size < (w1.alloc (.cells #[.slice a2 l.length c2] 54)).heap.size := by simp; omega
    have hyl2 : w1.heap.size < (w1.alloc (.cells #[.slice a2 l.length c2] 54)).heap.size := by simp
    clear HX HB1 HFQ HL
    go_wp2_with fail
    clear x0
    generalize w1.alloc (.cells #[.slice a2 l.length c2] 54) = W0 at *
    go_loopw [4] (fun i wr => ∃ k n0 : Nat, k ≤ l.length ∧ i = .int .i64 k ∧ Hid (∀ f ∈ l.take k, fnNums f = true) ∧ Hid (wr = W0.drewN n0)) (fun i _ => l.length - (intOf i).toNat)
    case atStart => exact ⟨0, 0, Nat.zero_le _, rfl, by simp [Hid], rfl⟩
    case round =>
      obtain ⟨k, nn, hk, rfl, hls, HWR⟩ := hrel
      have hasw : Has W0 wr := by rw [HWR.out]; exact has_drewN _
      have x0 := hasw _ _ _ (cell_at (j := 0) HX2.out rfl)
      have y0 := hasw _ _ _ (cell_at (j := 0) HY.out rfl)
      have hxl3 := cell_lt x0
      have hyl3 := cell_lt y0
      simp only at hxl3 hyl3
      by_cases hlt : k < l.length
      · have hltm : k < (l.map numFn).length := by rw [HML.out]; exact hlt
        obtain ⟨b, o, rfl⟩ := HL2.out.addr (by omega)
        obtain ⟨b', o', rfl⟩ := HQ2.out.addr (by omega)
        obtain ⟨pp, pb, cp, cb, c0, c1, c2', c3, c4, hfw, hps, hrow⟩ := (HL2.out.at_ b o rfl k hlt).has hasw
        have hqa := (HQ2.out.at_ b' o' rfl k hltm).has hasw
        rw [List.getElem_map] at hqa
        obtain ⟨pp', pb', cp', cb', d0, d1, d2, d3, d4, hfw', hps', hrow'⟩ := hqa
        have hbl := cell_lt c0
        have hbl' := cell_lt d0
        simp only at hbl hbl'
        have e3 : (numFn l[k]).body = renL l[k].body 0 := rfl
        have e4 : (numFn l[k]).count = (cntL l[k].body : Nat) := rfl
        rw [e3, renL_len] at d3
        rw [e4] at d4
        rw [e3] at hrow'
        have hcn := fnOk_cnt (HALL.out.2 _ (List.getElem_mem hlt))
        have h2 := hide fun (W : World) (hW : Has wr W) => numbers1_any _ l[k].body 0 pb pb' cb cb' W (Nat.lt_succ_self _) (Nat.le_trans hfw.lb hfw.cb) (by omega) (hrow.has hW) (hrow'.has hW)
        have HTL := hide (List.take_succ_eq_append_getElem hlt)
        have hc6 : (0 : Int) ≤ (k : Int) := by omega
        have hc7 : (k : Int) < (l.length : Int) := by omega
        have HOKK := hide (HALL.out.2 _ (List.getElem_mem hlt))
        clear hfw hps hrow hfw' hps' hrow' e3 e4 hcn c0 c1 c2' d0 d1 d2
        cases q1 : l[k].count == ((cntL l[k].body : Nat) : Int)
        · have g1 := bne_no q1
          have HE : Hid (checkM l = 2) := hide (checkM_bad hlt (.inr (by unfold fnNums; rw [Bool.and_eq_false_iff]; right; rw [decide_eq_false_iff_not]; simpa using q1)))
          clear q1 h2
          go_wp2_with fail
          go_quiet (fail)
          go_wp2_with fail
          go_ret
          exact ⟨ret_int HE.out.symm, by rw [HWR.out, World.drewN_drewN]; exact below_dq HB2.out _⟩
        have g1 := bne_yes q1
        cases q2 : numsL l[k].body 0
        · have HE : Hid (checkM l = 2) := hide (checkM_bad hlt (.inr (by unfold fnNums; rw [q2]; rfl)))
          rw [q2] at h2
          clear q1 q2
          go_wp2_with fail
          go_quiet (first | (go_at_call 36; (with_reducible refine Calls.quiet_of (h2.out _ ?_)); exact fun _ _ _ h => h))
          go_wp2_with fail
          go_ret
          exact ⟨ret_int HE.out.symm, by rw [HWR.out, World.drewN_drewN]; exact below_dq HB2.out _⟩
        rw [q2] at h2
        have HE : Hid (fnNums l[k] = true) := hide (by unfold fnNums; rw [q2]; simpa using q1)
        clear q1 q2
        go_wp2_with fail
        go_quiet (first | (go_at_call 36; (with_reducible refine Calls.quiet_of (h2.out _ ?_)); exact fun _ _ _ h => h))
        go_wp2_with fail
        go_roundw
        case rel =>
          refine ⟨k + 1, nn + nq, by omega, by go_num, ?_, hide (by rw [HWR.out, World.drewN_drewN])⟩
          refine hide ?_
          rw [HTL.out]
          intro f hf
          rcases List.mem_append.1 hf with hf | hf
          · exact hls.out f hf
          · rw [List.mem_singleton] at hf
            subst hf
            exact HE.out
        case measure => simp [intOf]; omega
      · obtain rfl : k = l.length := by omega
        have HE : Hid (checkM l = 0) := hide (by
          have h := hls.out
          rw [List.take_length] at h
          unfold checkM
          rw [if_pos ⟨HALL.out.1, fun f hf => ⟨HALL.out.2 f hf, h f hf⟩⟩])
        go_wp2_with fail
        go_ret
        exact ⟨ret_int HE.out.symm, by rw [HWR.out]; exact below_dq HB2.out _⟩
  · have hne : l.length ≠ 0 := fun h0 => hall ⟨by omega, fun f hf => by
      rw [List.eq_nil_of_length_eq_zero h0] at hf
      cases hf⟩
    have hnm : numberM l = [] := by unfold numberM; rw [if_neg hall]
    have hck : checkM l = 2 := by
      unfold checkM
      rw [if_neg]
      rintro ⟨h1, h2⟩
      exact hall ⟨h1, fun f hf => (h2 f hf).1⟩
    rw [hnm] at HN
    rw [hck]
    have ht : ((0 : Int) != (l.length : Int)) = true := by
      rw [bne_iff_ne]
      omega
    clear hall hnm hck hne
    go_enter Tryz.func18, Tryz.ntmps18
    go_wp2_with fail
    (with_reducible refine HN.out.mono ?_)
    rintro r w1 ⟨⟨v, rfl, hown⟩, hb1⟩
    obtain ⟨a2, c2, rfl, hfn⟩ := hown.fns (by simp)
    have HFQ := hide (hfn.has has_av)
    have HX := hide ((hb1.block _ (by simp)).trans (heap_alloc_new w (.cells #[.slice a l.length cap] 54)))
    have HB1 := hide (((bl w).al (.cells #[.slice a l.length cap] 54)).tr hb1)
    have hxl := (Array.getElem?_eq_some_iff.1 HX.out).1
    have x0 := cell_at (j := 0) HX.out rfl
    clear hown hb1 hfn
    go_wp2_with fail
    go_ret
    exact ⟨rfl, HB1.out.al _⟩
end Go.Proofs.YtgeleppmhhodiaaGreatDoor
