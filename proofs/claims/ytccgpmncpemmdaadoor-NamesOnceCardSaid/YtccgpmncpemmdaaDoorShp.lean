/- The shape of statements, functions and programs: what the program and the document say of it, in plain words. -/
import Derived.Test.YtccgpmncpemmdaaDoorSt
namespace Go.Proofs.YtccgpmncpemmdaaDoor
open Go Go.RowKit
set_option linter.unusedSimpArgs false
set_option linter.unusedVariables false
set_option linter.unnecessarySimpa false
def typedM (t : Int) : Bool := decide (1 ≤ t) && decide (t ≤ 3)
/-- What a statement of a kind has to have: name, maybe, typed, callee, body, other, least, most. -/
structure Rw where
  name : Bool
  maybe : Bool
  typed : Bool
  callee : Bool
  body : Bool
  other : Bool
  least : Nat
  most : Nat
def rowOf (k : Int) : Option Rw :=
  if k = 1 then some ⟨true, false, true, false, false, false, 0, 1⟩ else if k = 2 then some ⟨true, false, false, false, false, false, 1, 1⟩ else if k = 3 then some ⟨true, false, false, false, false, false, 2, 2⟩
  else if k = 4 then some ⟨true, false, false, false, false, false, 1, 1⟩ else if k = 5 then some ⟨true, false, false, false, false, false, 0, 0⟩ else if k = 6 then some ⟨false, false, false, false, false, false, 1, 1⟩
  else if k = 7 then some ⟨false, true, false, true, false, false, 0, 8⟩ else if k = 8 then some ⟨false, false, false, false, false, false, 0, 1⟩ else if k = 9 then some ⟨false, false, false, false, true, true, 1, 1⟩
  else if k = 10 then some ⟨false, false, false, false, true, false, 1, 1⟩ else none
def namedM (s : Bytes) (has can : Bool) : Bool := nameOk s && (has || can) || s.isEmpty && !has
/-- The fields of a statement but its arguments, and how many of these there are. -/
def fldM (x : Rw) (s : Bytes) (t : Int) (c : Bytes) (la lb le : Nat) : Bool :=
  namedM s x.name x.maybe && namedM c x.callee false && (if x.typed then typedM t else t == 0) && (x.body || lb == 0) && (x.other || le == 0) && decide (x.least ≤ la) && decide (la ≤ x.most)
theorem cast_beq0 (n : Nat) : (((n : Nat) : Int) == 0) = (n == 0) := by
  rw [Bool.eq_iff_iff]
  simp
def exOk (e : Ex) : Bool := depthM 20 e != 0
/-- A statement is as it has to be, apart from its number and the statements of its blocks. -/
def headM (s : St) : Bool := match rowOf s.kind with | none => false | some x => fldM x s.name s.typ s.callee s.args.length s.body.length s.els.length && s.args.all exOk
/-- Statements are as they have to be, apart from their numbers, and nested at most so deep. -/
def wellM : Nat → List St → Bool
  | 0, l => l.isEmpty
  | m + 1, l => l.all fun s => headM s && wellM m s.body && wellM m s.els
mutual
/-- How many statements there are. -/
def St.cnt : St → Nat | .mk _ _ _ _ _ _ bs es => 1 + cntL bs + cntL es
def cntL : List St → Nat | [] => 0 | s :: l => s.cnt + cntL l
end
theorem St.cnt_eq (s : St) : s.cnt = 1 + cntL s.body + cntL s.els := by cases s; rw [St.cnt]; rfl
theorem cntL_app (l m : List St) : cntL (l ++ m) = cntL l + cntL m := by
  induction l with
  | nil => simp [cntL]
  | cons s l ih => simp [cntL, ih]; omega
theorem cntL_one (s : St) : cntL [s] = s.cnt := by simp [cntL]
theorem cntL_take (l : List St) (k : Nat) (h : k < l.length) : cntL (l.take (k + 1)) = cntL (l.take k) + l[k].cnt := by
  rw [List.take_succ_eq_append_getElem h, cntL_app, cntL_one]
theorem cntL_take_le (l : List St) (k : Nat) : cntL (l.take k) ≤ cntL l := by
  have := cntL_app (l.take k) (l.drop k)
  rw [List.take_append_drop] at this
  omega
theorem len_cnt (l : List St) : l.length ≤ cntL l := by
  induction l with
  | nil => simp [cntL]
  | cons s l ih => have := St.cnt_eq s; simp [cntL]; omega
mutual
/-- The statements have the numbers from n on, in the order of the text. -/
def St.nums : St → Nat → Bool | .mk _ i _ _ _ _ bs es, n => decide (i = (n : Nat)) && numsL bs (n + 1) && numsL es (n + 1 + cntL bs)
def numsL : List St → Nat → Bool | [], _ => true | s :: l, n => s.nums n && numsL l (n + s.cnt)
end
theorem St.nums_eq (s : St) (n : Nat) : s.nums n = (decide (s.no = (n : Nat)) && numsL s.body (n + 1) && numsL s.els (n + 1 + cntL s.body)) := by cases s; rw [St.nums]; rfl
theorem numsL_app (l m : List St) (n : Nat) : numsL (l ++ m) n = (numsL l n && numsL m (n + cntL l)) := by
  induction l generalizing n with
  | nil => simp [numsL, cntL]
  | cons s l ih => simp only [List.cons_append, numsL, ih, cntL, Bool.and_assoc, Nat.add_assoc]
theorem numsL_take (l : List St) (k n : Nat) (h : k < l.length) : numsL (l.take (k + 1)) n = (numsL (l.take k) n && l[k].nums (n + cntL (l.take k))) := by
  rw [List.take_succ_eq_append_getElem h, numsL_app]; simp [numsL]
def pmOk (p : Pm) : Bool := nameOk p.name && typedM p.typ
/-- A function is as it has to be, apart from its numbers. -/
def fnOk (f : Fn) : Bool := nameOk f.name && decide (f.params.length ≤ 8) && (decide (f.result = 0) || typedM f.result) && f.params.all pmOk && (wellM 20 f.body && decide (cntL f.body ≤ 200))
def fnNums (f : Fn) : Bool := numsL f.body 0 && decide (f.count = (cntL f.body : Nat))
def checkM (l : List Fn) : Int := if l.length ≤ 20 ∧ ∀ f ∈ l, fnOk f = true ∧ fnNums f = true then 0 else 2
mutual
/-- Statements with the numbers from n on. -/
def St.ren : St → Nat → St | .mk k _ s t c xs bs es, n => .mk k n s t c xs (renL bs (n + 1)) (renL es (n + 1 + cntL bs))
def renL : List St → Nat → List St | [], _ => [] | s :: l, n => s.ren n :: renL l (n + s.cnt)
end
theorem St.ren_eq (s : St) (n : Nat) : s.ren n = .mk s.kind n s.name s.typ s.callee s.args (renL s.body (n + 1)) (renL s.els (n + 1 + cntL s.body)) := by cases s; rw [St.ren]; rfl
theorem renL_app (l m : List St) (n : Nat) : renL (l ++ m) n = renL l n ++ renL m (n + cntL l) := by
  induction l generalizing n with
  | nil => simp [renL, cntL]
  | cons s l ih => simp only [List.cons_append, renL, ih, cntL, Nat.add_assoc]
theorem renL_len (l : List St) (n : Nat) : (renL l n).length = l.length := by
  induction l generalizing n with
  | nil => rfl
  | cons s l ih => simp [renL, ih]
theorem renL_take (l : List St) (k n : Nat) (h : k < l.length) : renL (l.take (k + 1)) n = renL (l.take k) n ++ [l[k].ren (n + cntL (l.take k))] := by
  rw [List.take_succ_eq_append_getElem h, renL_app]; simp [renL]
mutual
theorem St.cnt_ren : ∀ (s : St) (n : Nat), (s.ren n).cnt = s.cnt
  | .mk k i s t c xs bs es, n => by simp only [St.ren, St.cnt, cntL_ren bs, cntL_ren es]
theorem cntL_ren : ∀ (l : List St) (n : Nat), cntL (renL l n) = cntL l
  | [], n => rfl
  | s :: l, n => by simp only [renL, cntL, St.cnt_ren s, cntL_ren l]
end
mutual
theorem St.nums_ren : ∀ (s : St) (n : Nat), (s.ren n).nums n = true
  | .mk k i s t c xs bs es, n => by simp [St.ren, St.nums, cntL_ren bs, numsL_ren bs, numsL_ren es]
theorem numsL_ren : ∀ (l : List St) (n : Nat), numsL (renL l n) n = true
  | [], n => rfl
  | s :: l, n => by simp [renL, numsL, St.nums_ren s, St.cnt_ren s, numsL_ren l]
end
mutual
theorem St.ren_nums : ∀ (s : St) (n : Nat), s.nums n = true → s.ren n = s
  | .mk k i s t c xs bs es, n, h => by
    simp only [St.nums, Bool.and_eq_true, decide_eq_true_eq] at h
    rw [St.ren, renL_nums bs _ h.1.2, renL_nums es _ h.2, h.1.1]
theorem renL_nums : ∀ (l : List St) (n : Nat), numsL l n = true → renL l n = l
  | [], n, _ => rfl
  | s :: l, n, h => by
    simp only [numsL, Bool.and_eq_true] at h
    rw [renL, St.ren_nums s _ h.1, renL_nums l _ h.2]
end
theorem headM_ren (s : St) (n : Nat) : headM (s.ren n) = headM s := by
  rw [St.ren_eq]
  unfold headM
  cases s
  simp only [St.kind, St.name, St.typ, St.callee, St.args, St.body, St.els, renL_len]
theorem wellM_ren : ∀ (m : Nat) (l : List St) (n : Nat), wellM m (renL l n) = wellM m l
  | 0, [], n => rfl
  | 0, s :: l, n => rfl
  | m + 1, [], n => rfl
  | m + 1, s :: l, n => by
    have h := wellM_ren (m + 1) l (n + s.cnt)
    rw [wellM, wellM] at h
    rw [wellM, wellM, renL, List.all_cons, List.all_cons, h, headM_ren]
    congr 1
    cases s with
    | mk k i s t c xs bs es =>
      simp only [St.ren, St.body, St.els, wellM_ren m]
/-- A program whose statements are numbered. -/
def numFn (f : Fn) : Fn := { f with body := renL f.body 0, count := (cntL f.body : Nat) }
def numberM (l : List Fn) : List Fn := if l.length ≤ 20 ∧ ∀ f ∈ l, fnOk f = true then l.map numFn else []
theorem fnOk_num (f : Fn) : fnOk (numFn f) = fnOk f := by
  unfold fnOk numFn
  simp only [wellM_ren, cntL_ren]
theorem fnNums_num (f : Fn) : fnNums (numFn f) = true := by simp [fnNums, numFn, numsL_ren, cntL_ren]
theorem check_number {l : List Fn} (h : l.length ≤ 20 ∧ ∀ f ∈ l, fnOk f = true) : checkM (numberM l) = 0 := by
  rw [numberM, if_pos h, checkM, if_pos]
  refine ⟨by simpa using h.1, fun f hf => ?_⟩
  obtain ⟨g, hg, rfl⟩ := List.mem_map.1 hf
  exact ⟨(fnOk_num g).trans (h.2 g hg), fnNums_num g⟩
theorem numFn_nums {f : Fn} (h : fnNums f = true) : numFn f = f := by
  simp only [fnNums, Bool.and_eq_true, decide_eq_true_eq] at h
  cases f
  simp only at h
  simp [numFn, renL_nums _ _ h.1, ← h.2]
end Go.Proofs.YtccgpmncpemmdaaDoor
