/- The function of a draft of layer 10, in plain words, and that it has the right shape. -/
import Derived.Test.YtccgpmncpemmdaaDoorMd0
namespace Go.Proofs.YtccgpmncpemmdaaDoor
open Go Go.RowKit
set_option linter.unusedSimpArgs false
set_option linter.unusedVariables false
set_option linter.unnecessarySimpa false
/-- The next byte, and where the reader then is. -/
def rbN (L : List Nat) (p : Nat) : Nat × Nat := if p < L.length then (L[p]!, p + 1) else (0, p)
def wdN (b : Nat) : Bytes := [UInt8.ofNat (97 + b % 24)]
def wrN (L : List Nat) (p : Nat) : Bytes × Nat := (wdN (rbN L p).1, (rbN L p).2)
def ekN (d b : Nat) : Nat := if d ≤ 1 ∧ 4 ≤ b % 9 then b % 9 % 3 else b % 9
/-- An expression with at most d levels. -/
def exN (L : List Nat) : Nat → Nat → Ex × Nat
  | 0, p => (.mk 1 0 0 [] [], p)
  | d + 1, p =>
    let b := rbN L p
    let k := ekN (d + 1) b.1
    if k = 0 then (.mk 1 0 ((b.1 / 9 : Nat) : Int) [] [], b.2)
    else if k = 1 then (.mk 2 0 ((b.1 / 9 % 2 : Nat) : Int) [] [], b.2)
    else if k = 2 then (.mk 3 0 0 (wrN L b.2).1 [], (wrN L b.2).2)
    else if k = 3 then (.mk 7 0 0 (wrN L b.2).1 [], (wrN L b.2).2)
    else if k = 4 then let s := wrN L b.2; let e := exN L d s.2; (.mk 6 0 0 s.1 [e.1], e.2)
    else if k = 5 then let e := exN L d b.2; (.mk 4 ((14 + b.1 / 9 % 2 : Nat) : Int) 0 [] [e.1], e.2)
    else let e := exN L d b.2; let f := exN L d e.2; (.mk 5 ((1 + b.1 / 9 % 13 : Nat) : Int) 0 [] [e.1, f.1], f.2)
/-- Where a reader is: its place, and the number of the next statement. -/
abbrev Qn := Nat × Nat
def xsN (L : List Nat) (d : Nat) : Nat → Nat → List Ex × Nat
  | 0, p => ([], p)
  | n + 1, p => let r := xsN L d n p; let e := exN L d r.2; (r.1 ++ [e.1], e.2)
def skN (h b : Nat) : Nat := if h = 0 ∧ 9 ≤ 1 + b % 10 then 5 else 1 + b % 10
/-- A statement with the number no, by its first byte; blk is what makes the blocks in it. -/
def stN (L : List Nat) (h : Nat) (blk : Qn → List St × Qn) (b no : Nat) (q : Qn) : St × Qn :=
  let k := skN h b
  if k = 1 then
    let s := wrN L q.1
    if 100 ≤ b then let e := exN L 3 s.2; (.mk 1 no s.1 ((1 + b / 10 % 3 : Nat) : Int) [] [e.1] [] [], (e.2, q.2)) else (.mk 1 no s.1 ((1 + b / 10 % 3 : Nat) : Int) [] [] [] [], (s.2, q.2))
  else if k = 2 ∨ k = 4 then let s := wrN L q.1; let e := exN L 3 s.2; (.mk k no s.1 0 [] [e.1] [] [], (e.2, q.2))
  else if k = 3 then let s := wrN L q.1; let e := exN L 2 s.2; let f := exN L 3 e.2; (.mk 3 no s.1 0 [] [e.1, f.1] [] [], (f.2, q.2))
  else if k = 5 then let s := wrN L q.1; (.mk 5 no s.1 0 [] [] [] [], (s.2, q.2))
  else if k = 6 then let e := exN L 3 q.1; (.mk 6 no [] 0 [] [e.1] [] [], (e.2, q.2))
  else if k = 7 then
    let c := wrN L q.1
    let s := if 100 ≤ b then wrN L c.2 else ([], c.2)
    let a := xsN L 2 (b / 10 % 3) s.2
    (.mk 7 no s.1 0 c.1 a.1 [] [], (a.2, q.2))
  else if k = 8 then if 100 ≤ b then let e := exN L 3 q.1; (.mk 8 no [] 0 [] [e.1] [] [], (e.2, q.2)) else (.mk 8 no [] 0 [] [] [] [], q)
  else if k = 9 then
    let e := exN L 3 q.1; let t := blk (e.2, q.2)
    if 100 ≤ b then let u := blk t.2; (.mk 9 no [] 0 [] [e.1] t.1 u.1, u.2) else (.mk 9 no [] 0 [] [e.1] t.1 [], t.2)
  else let e := exN L 3 q.1; let t := blk (e.2, q.2); (.mk 10 no [] 0 [] [e.1] t.1 [], t.2)
/-- Rounds of a block, from what there is. -/
def rdsN (L : List Nat) (h : Nat) (blk : Qn → List St × Qn) : Nat → List St → Qn → List St × Qn
  | 0, l, q => (l, q)
  | n + 1, l, q =>
    if q.1 < L.length ∧ q.2 < 60 ∧ l.length < 30 then
      if (rbN L q.1).1 = 255 then (l, ((rbN L q.1).2, q.2))
      else rdsN L h blk n (l ++ [(stN L h blk (rbN L q.1).1 q.2 ((rbN L q.1).2, q.2 + 1)).1]) (stN L h blk (rbN L q.1).1 q.2 ((rbN L q.1).2, q.2 + 1)).2
    else (l, q)
/-- A block with at most h levels below it. -/
def blN (L : List Nat) : Nat → Qn → List St × Qn
  | 0, q => rdsN L 0 (fun q => ([], q)) L.length [] q
  | h + 1, q => rdsN L (h + 1) (blN L h) L.length [] q
def mdsN (L : List Nat) : Nat → List St → Qn → List St × Qn
  | 0, l, q => (l, q)
  | n + 1, l, q => if q.1 < L.length ∧ q.2 < 60 ∧ l.length < 30 then mdsN L n (l ++ (blN L 4 q).1) (blN L 4 q).2 else (l, q)
def pmN (b : Nat) : Pm := ⟨wdN b, ((1 + b / 24 % 3 : Nat) : Int)⟩
/-- The function of a draft. -/
def mkN (P C : List Nat) : Fn := ⟨[102], (P.take 8).map pmN, 0, (mdsN C C.length [] (0, 0)).1, ((mdsN C C.length [] (0, 0)).2.2 : Nat)⟩
/-! ### It has the right shape -/
theorem rbN_le (L : List Nat) (p : Nat) (h : p ≤ L.length) : p ≤ (rbN L p).2 ∧ (rbN L p).2 ≤ L.length := by
  unfold rbN
  split <;> simp only <;> omega
theorem wd_all : ∀ n : Fin 24, nameOk [UInt8.ofNat (97 + n.val)] = true := by decide +kernel
theorem wdN_ok (b : Nat) : nameOk (wdN b) = true := wd_all ⟨b % 24, Nat.mod_lt _ (by omega)⟩
theorem wrN_ok (L : List Nat) (p : Nat) : nameOk (wrN L p).1 = true := wdN_ok _
theorem wrN_le (L : List Nat) (p : Nat) (h : p ≤ L.length) : p ≤ (wrN L p).2 ∧ (wrN L p).2 ≤ L.length := rbN_le L p h
theorem ekN_lt (d b : Nat) : ekN d b < 9 := by unfold ekN; split <;> omega
theorem ekN_one (b : Nat) : ekN 1 b < 4 := by unfold ekN; split <;> omega
theorem exN_le (L : List Nat) : ∀ (d p : Nat), p ≤ L.length → p ≤ (exN L d p).2 ∧ (exN L d p).2 ≤ L.length
  | 0, p, h => by simp only [exN]; omega
  | d + 1, p, h => by
    have h1 := rbN_le L p h
    have h2 := wrN_le L (rbN L p).2 h1.2
    have h3 := exN_le L d (wrN L (rbN L p).2).2 h2.2
    have h4 := exN_le L d (rbN L p).2 h1.2
    have h5 := exN_le L d (exN L d (rbN L p).2).2 h4.2
    unfold exN
    simp only
    repeat' split
    all_goals simp only; omega
theorem exN_depth (L : List Nat) : ∀ (d p : Nat), 0 < d → depthM d (exN L d p).1 ≠ 0
  | 0, _, h => absurd h (Nat.lt_irrefl _)
  | d + 1, p, _ => by
    have hk := ekN_lt (d + 1) (rbN L p).1
    have hk1 := ekN_one (rbN L p).1
    have hd : 4 ≤ ekN (d + 1) (rbN L p).1 → 0 < d := fun h => by
      rcases Nat.eq_zero_or_pos d with rfl | h0
      · rw [Nat.zero_add] at h; omega
      · exact h0
    have hs := fun q => wrN_ok L q
    unfold exN
    simp only
    split
    · exact depthM_leaf (by simp [fitsM, partOf]; omega)
    split
    · exact depthM_leaf (by simp [fitsM, partOf]; omega)
    split
    · exact depthM_leaf (by simp [fitsM, partOf, hs, isEmpty_of_ok])
    split
    · exact depthM_leaf (by simp [fitsM, partOf, hs, isEmpty_of_ok])
    split
    · refine depthM_node (by simp [fitsM, partOf, hs, isEmpty_of_ok]) ?_
      simp only [List.mem_singleton, forall_eq]
      exact exN_depth L d _ (hd (by omega))
    split
    · refine depthM_node (by simp [fitsM, partOf]; omega) ?_
      simp only [List.mem_singleton, forall_eq]
      exact exN_depth L d _ (hd (by omega))
    · refine depthM_node (by simp [fitsM, partOf]; omega) ?_
      simp only [List.mem_cons, List.not_mem_nil, or_false, forall_eq_or_imp, forall_eq]
      exact ⟨exN_depth L d _ (hd (by omega)), exN_depth L d _ (hd (by omega))⟩
theorem exN_ok (L : List Nat) (d p : Nat) (h : 0 < d) (h3 : d ≤ 20) : exOk (exN L d p).1 = true := exOk_of h3 (exN_depth L d p h)
theorem xsN_len (L : List Nat) (d : Nat) : ∀ (n p : Nat), (xsN L d n p).1.length = n
  | 0, _ => rfl
  | n + 1, p => by simp [xsN, xsN_len L d n]
theorem xsN_ok (L : List Nat) (d : Nat) (h : 0 < d) (h3 : d ≤ 20) : ∀ (n p : Nat), (xsN L d n p).1.all exOk = true
  | 0, _ => rfl
  | n + 1, p => by simp [xsN, xsN_ok L d h h3 n, exN_ok L d _ h h3]
theorem xsN_le (L : List Nat) (d : Nat) : ∀ (n p : Nat), p ≤ L.length → p ≤ (xsN L d n p).2 ∧ (xsN L d n p).2 ≤ L.length
  | 0, p, h => by simp only [xsN]; omega
  | n + 1, p, h => by
    have h1 := xsN_le L d n p h
    have h2 := exN_le L d (xsN L d n p).2 h1.2
    simp only [xsN]
    omega
/-- What a block that is made answers. -/
structure GoodN (L : List Nat) (m : Nat) (q : Qn) (r : List St × Qn) : Prop where
  well : wellM m r.1 = true
  nums : numsL r.1 q.2 = true
  cnt : r.2.2 = q.2 + cntL r.1
  most : r.2.2 ≤ 60
  le : q.1 ≤ r.2.1 ∧ r.2.1 ≤ L.length
theorem stN_good (L : List Nat) (h : Nat) (blk : Qn → List St × Qn) (hb : ∀ q : Qn, q.1 ≤ L.length → q.2 ≤ 60 → GoodN L h q (blk q)) (b no : Nat) (q : Qn) (hq : q.1 ≤ L.length) (hn : q.2 = no + 1) (hm : q.2 ≤ 60) :
    headM (stN L h blk b no q).1 = true ∧ wellM h (stN L h blk b no q).1.body = true ∧ wellM h (stN L h blk b no q).1.els = true ∧ (stN L h blk b no q).1.nums no = true ∧ (stN L h blk b no q).2.2 = no + (stN L h blk b no q).1.cnt ∧ (stN L h blk b no q).2.2 ≤ 60 ∧ q.1 ≤ (stN L h blk b no q).2.1 ∧ (stN L h blk b no q).2.1 ≤ L.length := by
  have w0 : wellM h [] = true := by cases h <;> rfl
  have hs := fun p => wrN_ok L p
  have e0 : nameOk [] = false := rfl
  have o3 := fun p => exN_ok L 3 p (by omega) (by omega)
  have o2 := fun p => exN_ok L 2 p (by omega) (by omega)
  have x2 := fun n p => xsN_ok L 2 (by omega) (by omega) n p
  have hle := wrN_le L q.1 hq
  have l3 := exN_le L 3 _ hle.2
  have l2 := exN_le L 2 _ hle.2
  have l23 := exN_le L 3 _ l2.2
  have lq := exN_le L 3 _ hq
  have lw := wrN_le L _ hle.2
  have la := xsN_le L 2 (b / 10 % 3) _ hle.2
  have lb := xsN_le L 2 (b / 10 % 3) _ lw.2
  have htm : typedM (1 + (b : Int) / 10 % 3) = true := by simp only [typedM, Bool.and_eq_true, decide_eq_true_eq]; omega
  have hx3 : b / 10 % 3 ≤ 8 := by omega
  have hsk : skN h b ≤ 10 := by unfold skN; split <;> omega
  have hsk1 : 1 ≤ skN h b := by unfold skN; split <;> omega
  unfold stN
  simp only
  split
  · split
    · refine ⟨?_, w0, w0, by simp [St.nums, numsL], by simp [St.cnt, cntL, hn], hm, Nat.le_trans hle.1 l3.1, l3.2⟩
      simp [headM, rowOf, St.kind, fldM, St.name, St.typ, St.callee, St.args, St.body, St.els, namedM, hs, e0, htm, o3]
    · refine ⟨?_, w0, w0, by simp [St.nums, numsL], by simp [St.cnt, cntL, hn], hm, hle.1, hle.2⟩
      simp [headM, rowOf, St.kind, fldM, St.name, St.typ, St.callee, St.args, St.body, St.els, namedM, hs, e0, htm]
  split
  · rename_i h24
    refine ⟨?_, w0, w0, by simp [St.nums, numsL], by simp [St.cnt, cntL, hn], hm, Nat.le_trans hle.1 l3.1, l3.2⟩
    rcases h24 with h24 | h24 <;> rw [h24] <;> simp [headM, rowOf, St.kind, fldM, St.name, St.typ, St.callee, St.args, St.body, St.els, namedM, hs, e0, typedM, o3]
  split
  · refine ⟨?_, w0, w0, by simp [St.nums, numsL], by simp [St.cnt, cntL, hn], hm, Nat.le_trans hle.1 (Nat.le_trans l2.1 l23.1), l23.2⟩
    simp [headM, rowOf, St.kind, fldM, St.name, St.typ, St.callee, St.args, St.body, St.els, namedM, hs, e0, typedM, o3, o2]
  split
  · refine ⟨?_, w0, w0, by simp [St.nums, numsL], by simp [St.cnt, cntL, hn], hm, hle.1, hle.2⟩
    simp [headM, rowOf, St.kind, fldM, St.name, St.typ, St.callee, St.args, St.body, St.els, namedM, hs, e0, typedM]
  split
  · refine ⟨?_, w0, w0, by simp [St.nums, numsL], by simp [St.cnt, cntL, hn], hm, lq.1, lq.2⟩
    simp [headM, rowOf, St.kind, fldM, St.name, St.typ, St.callee, St.args, St.body, St.els, namedM, e0, typedM, o3]
  split
  · by_cases h100 : 100 ≤ b
    · simp only [h100, if_true]
      refine ⟨?_, w0, w0, by simp [St.nums, numsL], by simp [St.cnt, cntL, hn], hm, Nat.le_trans hle.1 (Nat.le_trans lw.1 lb.1), lb.2⟩
      simp [headM, rowOf, St.kind, fldM, St.name, St.typ, St.callee, St.args, St.body, St.els, namedM, hs, typedM, xsN_len, x2]
      omega
    · simp only [h100, if_false]
      refine ⟨?_, w0, w0, by simp [St.nums, numsL], by simp [St.cnt, cntL, hn], hm, Nat.le_trans hle.1 la.1, la.2⟩
      simp [headM, rowOf, St.kind, fldM, St.name, St.typ, St.callee, St.args, St.body, St.els, namedM, hs, e0, typedM, xsN_len, x2]
      omega
  split
  · split
    · refine ⟨?_, w0, w0, by simp [St.nums, numsL], by simp [St.cnt, cntL, hn], hm, lq.1, lq.2⟩
      simp [headM, rowOf, St.kind, fldM, St.name, St.typ, St.callee, St.args, St.body, St.els, namedM, e0, typedM, o3]
    · refine ⟨?_, w0, w0, by simp [St.nums, numsL], by simp [St.cnt, cntL, hn], hm, Nat.le_refl _, hq⟩
      simp [headM, rowOf, St.kind, fldM, St.name, St.typ, St.callee, St.args, St.body, St.els, namedM, e0, typedM]
  have g1 := hb ((exN L 3 q.1).2, q.2) lq.2 hm
  generalize blk ((exN L 3 q.1).2, q.2) = t at *
  obtain ⟨a1, a2, a3, a4, a5⟩ := g1
  simp only at a2 a3 a5
  split
  · have g2 := hb t.2 a5.2 a4
    generalize blk t.2 = u at *
    obtain ⟨b1, b2, b3, b4, b5⟩ := g2
    rw [hn] at a2 a3
    split
    · refine ⟨?_, a1, b1, ?_, ?_, b4, Nat.le_trans lq.1 (Nat.le_trans a5.1 b5.1), b5.2⟩
      · simp [headM, rowOf, St.kind, fldM, St.name, St.typ, St.callee, St.args, St.body, St.els, namedM, e0, typedM, o3]
      · rw [a3] at b2
        simp [St.nums, a2, b2]
      · simp only [St.cnt]
        omega
    · refine ⟨?_, a1, w0, ?_, ?_, a4, Nat.le_trans lq.1 a5.1, a5.2⟩
      · simp [headM, rowOf, St.kind, fldM, St.name, St.typ, St.callee, St.args, St.body, St.els, namedM, e0, typedM, o3]
      · simp [St.nums, a2, numsL]
      · simp only [St.cnt, cntL]
        omega
  · rw [hn] at a2 a3
    refine ⟨?_, a1, w0, ?_, ?_, a4, Nat.le_trans lq.1 a5.1, a5.2⟩
    · simp [headM, rowOf, St.kind, fldM, St.name, St.typ, St.callee, St.args, St.body, St.els, namedM, e0, typedM, o3]
    · simp [St.nums, a2, numsL]
    · simp only [St.cnt, cntL]
      omega
theorem rdsN_good (L : List Nat) (h : Nat) (blk : Qn → List St × Qn) (hb : ∀ q : Qn, q.1 ≤ L.length → q.2 ≤ 60 → GoodN L h q (blk q)) (n0 : Nat) : ∀ (n : Nat) (l : List St) (q : Qn), q.1 ≤ L.length → q.2 ≤ 60 → wellM (h + 1) l = true → numsL l n0 = true → q.2 = n0 + cntL l →
    wellM (h + 1) (rdsN L h blk n l q).1 = true ∧ numsL (rdsN L h blk n l q).1 n0 = true ∧ (rdsN L h blk n l q).2.2 = n0 + cntL (rdsN L h blk n l q).1 ∧ (rdsN L h blk n l q).2.2 ≤ 60 ∧ q.1 ≤ (rdsN L h blk n l q).2.1 ∧ (rdsN L h blk n l q).2.1 ≤ L.length
  | 0, l, q, h1, h2, h3, h4, h5 => ⟨h3, h4, h5, h2, Nat.le_refl _, h1⟩
  | n + 1, l, q, h1, h2, h3, h4, h5 => by
    have hr := rbN_le L q.1 h1
    rw [rdsN]
    split
    · rename_i hc
      split
      · exact ⟨h3, h4, h5, h2, hr⟩
      · obtain ⟨s1, s2, s3, s4, s5, s6, s7, s8⟩ := stN_good L h blk hb (rbN L q.1).1 q.2 ((rbN L q.1).2, q.2 + 1) hr.2 rfl (by simp only; omega)
        generalize stN L h blk (rbN L q.1).1 q.2 ((rbN L q.1).2, q.2 + 1) = s at *
        have ih := rdsN_good L h blk hb n0 n (l ++ [s.1]) s.2 s8 s6 (by
          rw [wellM] at h3 ⊢
          rw [List.all_append, h3]
          simp [s1, s2, s3]) (by
          rw [numsL_app, h4, Bool.true_and, ← h5]
          simp [numsL, s4]) (by
          rw [cntL_app, cntL_one]
          omega)
        obtain ⟨i1, i2, i3, i4, i5, i6⟩ := ih
        exact ⟨i1, i2, i3, i4, by simp only at s7; omega, i6⟩
    · exact ⟨h3, h4, h5, h2, Nat.le_refl _, h1⟩
theorem blN_good (L : List Nat) : ∀ (h : Nat) (q : Qn), q.1 ≤ L.length → q.2 ≤ 60 → GoodN L (h + 1) q (blN L h q)
  | 0, q, h1, h2 => by
    obtain ⟨i1, i2, i3, i4, i5, i6⟩ := rdsN_good L 0 (fun q => ([], q)) (fun q a b => ⟨rfl, rfl, by simp [cntL], b, Nat.le_refl _, a⟩) q.2 L.length [] q h1 h2 rfl rfl (by simp [cntL])
    exact ⟨i1, i2, i3, i4, i5, i6⟩
  | h + 1, q, h1, h2 => by
    obtain ⟨i1, i2, i3, i4, i5, i6⟩ := rdsN_good L (h + 1) (blN L h) (fun q a b => blN_good L h q a b) q.2 L.length [] q h1 h2 rfl rfl (by simp [cntL])
    exact ⟨i1, i2, i3, i4, i5, i6⟩
theorem mdsN_good (L : List Nat) : ∀ (n : Nat) (l : List St) (q : Qn), q.1 ≤ L.length → q.2 ≤ 60 → wellM 5 l = true → numsL l 0 = true → q.2 = cntL l →
    wellM 5 (mdsN L n l q).1 = true ∧ numsL (mdsN L n l q).1 0 = true ∧ (mdsN L n l q).2.2 = cntL (mdsN L n l q).1 ∧ (mdsN L n l q).2.2 ≤ 60
  | 0, l, q, h1, h2, h3, h4, h5 => ⟨h3, h4, h5, h2⟩
  | n + 1, l, q, h1, h2, h3, h4, h5 => by
    rw [mdsN]
    split
    · obtain ⟨a1, a2, a3, a4, a5⟩ := blN_good L 4 q h1 h2
      generalize blN L 4 q = r at *
      refine mdsN_good L n (l ++ r.1) r.2 a5.2 a4 (wellM_app h3 a1) ?_ ?_
      · rw [numsL_app, h4, Bool.true_and, Nat.zero_add, ← h5]
        exact a2
      · rw [cntL_app]
        omega
    · exact ⟨h3, h4, h5, h2⟩
theorem mkN_good (P C : List Nat) : wellM 5 (mkN P C).body = true ∧ numsL (mkN P C).body 0 = true ∧ (mkN P C).count = (cntL (mkN P C).body : Nat) ∧ cntL (mkN P C).body ≤ 60 := by
  obtain ⟨h1, h2, h3, h4⟩ := mdsN_good C C.length [] (0, 0) (Nat.zero_le _) (Nat.zero_le _) rfl rfl rfl
  exact ⟨h1, h2, by rw [mkN, h3], by rw [mkN, ← h3]; exact h4⟩
theorem mkN_fn (P C : List Nat) : fnOk (mkN P C) = true ∧ fnNums (mkN P C) = true := by
  obtain ⟨h1, h2, h3, h4⟩ := mkN_good P C
  have hp : (mkN P C).params.all pmOk = true := by
    rw [List.all_eq_true]
    intro p hp
    obtain ⟨b, _, rfl⟩ := List.mem_map.1 hp
    show (nameOk (wdN b) && typedM ((1 + b / 24 % 3 : Nat) : Int)) = true
    rw [wdN_ok, Bool.true_and, typedM, Bool.and_eq_true, decide_eq_true_eq, decide_eq_true_eq]
    omega
  have hl : (mkN P C).params.length ≤ 8 := by simp [mkN]; omega
  have hw := wellM_mono 5 (k := 20) (by omega) h1
  have hf : nameOk (mkN P C).name = true := (by decide +kernel : nameOk [102] = true)
  constructor
  · simp only [fnOk, hf, hp, hw, Bool.and_eq_true, decide_eq_true_eq, Bool.or_eq_true, and_true, true_and]
    exact ⟨⟨hl, .inl rfl⟩, by omega⟩
  · simp only [fnNums, h2, Bool.true_and, decide_eq_true_eq]
    exact h3
theorem mkN_check (P C : List Nat) : checkM [mkN P C] = 0 := by
  unfold checkM
  rw [if_pos]
  refine ⟨by simp, fun f hf => ?_⟩
  rw [List.mem_singleton] at hf
  subst hf
  exact mkN_fn P C
end Go.Proofs.YtccgpmncpemmdaaDoor
