/- Places of statements, in plain words and in memory. -/
import Derived.Test.YtccgpmncpemmdaaDoorSn
import Derived.Test.YtccgpmncpemmdaaDoorRg
namespace Go.Proofs.YtccgpmncpemmdaaDoor
open Go Go.RowKit
set_option linter.unusedSimpArgs false
set_option linter.unusedVariables false
set_option linter.unnecessarySimpa false
/-- Where a statement stands: the statement, its block, and its index there; a place is such a one, then those around it, the nearest first. -/
structure Lv where
  s : St
  blk : List St
  i : Nat
mutual
def St.pls : St → List Lv → List St → Nat → List (List Lv)
  | .mk k n s t c xs bs es, qs, blk, i => ((⟨.mk k n s t c xs bs es, blk, i⟩ : Lv) :: qs) :: (plsF bs ((⟨.mk k n s t c xs bs es, blk, i⟩ : Lv) :: qs) bs 0 ++ plsF es ((⟨.mk k n s t c xs bs es, blk, i⟩ : Lv) :: qs) es 0)
/-- The places of the statements from index i on of a block blk, in the order of the text. -/
def plsF : List St → List Lv → List St → Nat → List (List Lv)
  | [], _, _, _ => []
  | s :: l, qs, blk, i => s.pls qs blk i ++ plsF l qs blk (i + 1)
end
def plsL (l : List St) (qs : List Lv) : List (List Lv) := plsF l qs l 0
theorem St.pls_eq (s : St) (qs : List Lv) (blk : List St) (i : Nat) : s.pls qs blk i = (⟨s, blk, i⟩ :: qs) :: (plsL s.body (⟨s, blk, i⟩ :: qs) ++ plsL s.els (⟨s, blk, i⟩ :: qs)) := by
  cases s
  rw [St.pls]
  rfl
theorem plsF_app (l m : List St) (qs : List Lv) (blk : List St) (i : Nat) : plsF (l ++ m) qs blk i = plsF l qs blk i ++ plsF m qs blk (i + l.length) := by
  induction l generalizing i with
  | nil => simp [plsF]
  | cons s l ih => simp only [List.cons_append, plsF, ih, List.append_assoc, List.length_cons]; rw [show i + 1 + l.length = i + (l.length + 1) by omega]
theorem plsF_take (l : List St) (qs : List Lv) (blk : List St) (k : Nat) (h : k < l.length) : plsF (l.take (k + 1)) qs blk 0 = plsF (l.take k) qs blk 0 ++ l[k].pls qs blk k := by
  rw [List.take_succ_eq_append_getElem h, plsF_app]
  simp [plsF, Nat.min_eq_left (Nat.le_of_lt h)]
theorem plsF_pre (l : List St) (qs : List Lv) (blk : List St) (k : Nat) : plsF (l.take k) qs blk 0 <+: plsF l qs blk 0 := by
  have := plsF_app (l.take k) (l.drop k) qs blk 0
  rw [List.take_append_drop] at this
  exact ⟨_, this.symm⟩
/-- The statement of a place. -/
def plS : List Lv → Option St
  | [] => none
  | q :: _ => some q.s
def plNo (q : List Lv) : Int := match q with | [] => 0 | q :: _ => q.s.no
mutual
theorem St.pls_no : ∀ (s : St) (qs : List Lv) (blk : List St) (i : Nat), (s.pls qs blk i).map plNo = s.nos
  | .mk k n s t c xs bs es, qs, blk, i => by
    simp only [St.pls, St.nos, List.map_cons, List.map_append, plsF_no bs, plsF_no es]
    rfl
theorem plsF_no : ∀ (l : List St) (qs : List Lv) (blk : List St) (i : Nat), (plsF l qs blk i).map plNo = nosL l
  | [], _, _, _ => rfl
  | s :: l, qs, blk, i => by simp only [plsF, nosL, List.map_append, St.pls_no s, plsF_no l]
end
theorem plsL_len (l : List St) (qs : List Lv) : (plsL l qs).length = cntL l := by
  rw [← nosL_len, ← plsF_no l qs l 0, List.length_map]
  rfl
/-- The statements around a statement, as places in memory: none is none. -/
def ChAt (w : World) : List Lv → Option Nat → Prop
  | [], p => p = none
  | q :: qs, p => ∃ (b : Nat) (pp : Option Nat) (a : Option Addr) (cap : Nat), p = some b ∧ w.cell? ⟨b, 0, none⟩ = some (.pointer (pp.map fun g => ⟨g, 0, none⟩)) ∧ St.At w q.s b 1 ∧ w.cell? ⟨b, 9, none⟩ = some (.slice a q.blk.length cap) ∧ w.cell? ⟨b, 10, none⟩ = some (.int .i64 (q.i : Nat)) ∧
      q.blk.length ≤ cap ∧ cap ≤ maxLen ∧ q.i < q.blk.length ∧ St.Row w q.blk a ∧ ChAt w qs pp
theorem ChAt.has {w w' : World} (hh : Has w w') : ∀ {qs : List Lv} {p : Option Nat}, ChAt w qs p → ChAt w' qs p
  | [], _, h => h
  | q :: qs, p, h => by
    obtain ⟨b, pp, a, cap, h0, h1, h2, h3, h4, h5, h6, h7, h8, h9⟩ := h
    exact ⟨b, pp, a, cap, h0, hh _ _ _ h1, h2.has hh, hh _ _ _ h3, hh _ _ _ h4, h5, h6, h7, h8.has hh, ChAt.has hh h9⟩
/-- The pointer to a place. -/
def ptr (p : Option Nat) : Value := .pointer (p.map fun g => ⟨g, 0, none⟩)
end Go.Proofs.YtccgpmncpemmdaaDoor
