/- The variables of a function, in plain words; numbers of statements are small. -/
import Derived.Test.YtccgpmncpemmdaaDoorPtP
import Derived.Test.YtccgpmncpemmdaaDoorPtG
import Derived.Test.YtccgpmncpemmdaaDoorNmB
namespace Go.Proofs.YtccgpmncpemmdaaDoor
open Go Go.RowKit
set_option linter.unusedSimpArgs false
set_option linter.unusedVariables false
set_option linter.unnecessarySimpa false
/-- Variables are taken in, one by one, up to the first that is there already, or is one too many. -/
def goV : List Vr → List Vr → List Vr × Int × Int
  | acc, [] => (acc, 0, 0)
  | acc, v :: vs => if hasN acc v.name then ([], v.no, 11) else if 50 ≤ acc.length then ([], v.no, 10) else goV (acc ++ [v]) vs
def endM (f : Fn) (no : Int) : Int := if (parM f no).2.1 then (lastM f no).1 + 1 else f.count + 1
def pmV (f : Fn) (p : Pm) : Vr := ⟨p.name, p.typ, -1, 0, f.count + 1⟩
def stV (f : Fn) (s : St) : Vr := ⟨s.name, s.typ, s.no, s.no + 1, endM f s.no⟩
def isVar (s : St) : Bool := decide (s.kind = 1)
/-- names.Of. -/
def namesM (f : Fn) : List Vr × Int × Int := if checkM [f] = 0 then goV [] (f.params.map (pmV f) ++ ((stsL f.body).filter isVar).map (stV f)) else ([], 0, 2)
theorem check_one {f : Fn} (h : checkM [f] = 0) : fnOk f = true ∧ fnNums f = true := by
  unfold checkM at h
  split at h
  · rename_i hc; exact hc.2 f (by simp)
  · cases h
theorem stsL_no (l : List St) : (stsL l).map (·.no) = nosL l := by
  have h1 := plsF_sts l [] l 0
  have h2 := plsF_no l [] l 0
  rw [← h1, ← h2, List.map_map]
  apply List.map_congr_left
  intro q _
  cases q <;> rfl
theorem check_body {f : Fn} (h : checkM [f] = 0) : cntL f.body ≤ 200 ∧ f.count = (cntL f.body : Nat) ∧ ∀ i (hi : i < (nosL f.body).length), (nosL f.body)[i] = (i : Nat) := by
  obtain ⟨h1, h2⟩ := check_one h
  simp only [fnNums, Bool.and_eq_true, decide_eq_true_eq] at h2
  refine ⟨fnOk_cnt h1, h2.2, fun i hi => ?_⟩
  have := upM_get (by rw [← nums_up]; exact h2.1) i hi
  simpa using this
theorem no_bound {f : Fn} (h : checkM [f] = 0) {n : Int} (hn : n ∈ nosL f.body) : 0 ≤ n ∧ n < 200 := by
  obtain ⟨h1, _, h3⟩ := check_body h
  obtain ⟨i, hi, rfl⟩ := List.mem_iff_getElem.1 hn
  rw [h3 i hi]
  have := nosL_len f.body
  omega
mutual
theorem St.gr_mem : ∀ (s : St), s.gr ∈ s.nos
  | .mk k i n t c xs bs es => by
    rw [St.gr, St.nos]
    by_cases h : es.isEmpty = true
    · rw [if_pos h]
      by_cases h2 : bs.isEmpty = true
      · rw [if_pos h2]
        simp
      · rw [if_neg h2]
        exact List.mem_cons_of_mem _ (List.mem_append_left _ (grL_mem bs (by cases bs <;> simp_all)))
    · rw [if_neg h]
      exact List.mem_cons_of_mem _ (List.mem_append_right _ (grL_mem es (by cases es <;> simp_all)))
theorem grL_mem : ∀ (l : List St), l ≠ [] → grL l ∈ nosL l
  | [], h => absurd rfl h
  | s :: l, _ => by
    rw [grL, nosL]
    by_cases h : l.isEmpty = true
    · rw [if_pos h]
      exact List.mem_append_left _ (St.gr_mem s)
    · rw [if_neg h]
      exact List.mem_append_right _ (grL_mem l (by cases l <;> simp_all))
end
theorem nosL_get {l : List St} {k : Nat} (h : k < l.length) : ∀ n ∈ l[k].nos, n ∈ nosL l := by
  intro n hn
  have := nosL_take l k h
  have h2 : nosL l = nosL (l.take (k + 1)) ++ nosL (l.drop (k + 1)) := by
    have happ : ∀ a b : List St, nosL (a ++ b) = nosL a ++ nosL b := by
      intro a b
      induction a with
      | nil => rfl
      | cons s a ih => simp only [List.cons_append, nosL, ih, List.append_assoc]
    rw [← happ, List.take_append_drop]
  rw [h2, this]
  simp [hn]
/-- What is true of each place: its block's numbers are among A. -/
def PlOk (A : List Int) : List Lv → Prop
  | [] => True
  | q :: _ => q.blk ≠ [] ∧ (∀ n ∈ nosL q.blk, n ∈ A)
mutual
theorem St.pls_ok (A : List Int) : ∀ (s : St) (qs : List Lv) (blk : List St) (i : Nat), blk ≠ [] → (∀ n ∈ nosL blk, n ∈ A) → (∀ n ∈ s.nos, n ∈ A) → ∀ q ∈ s.pls qs blk i, PlOk A q
  | .mk k n s t c xs bs es, qs, blk, i, h0, h1, h2, q, hq => by
    rw [St.pls] at hq
    rw [St.nos] at h2
    rcases List.mem_cons.1 hq with rfl | hq
    · exact ⟨h0, h1⟩
    · rcases List.mem_append.1 hq with hq | hq
      · exact plsF_ok A bs _ bs 0 (fun h => by rw [h, plsF] at hq; cases hq) (fun n hn => h2 n (by simp [hn])) (fun n hn => h2 n (by simp [hn])) q hq
      · exact plsF_ok A es _ es 0 (fun h => by rw [h, plsF] at hq; cases hq) (fun n hn => h2 n (by simp [hn])) (fun n hn => h2 n (by simp [hn])) q hq
theorem plsF_ok (A : List Int) : ∀ (l : List St) (qs : List Lv) (blk : List St) (i : Nat), blk ≠ [] → (∀ n ∈ nosL blk, n ∈ A) → (∀ n ∈ nosL l, n ∈ A) → ∀ q ∈ plsF l qs blk i, PlOk A q
  | [], _, _, _, _, _, _, q, hq => by rw [plsF] at hq; cases hq
  | s :: l, qs, blk, i, h0, h1, h2, q, hq => by
    rw [plsF] at hq
    rw [nosL] at h2
    rcases List.mem_append.1 hq with hq | hq
    · exact St.pls_ok A s qs blk i h0 h1 (fun n hn => h2 n (by simp [hn])) q hq
    · exact plsF_ok A l qs blk (i + 1) h0 h1 (fun n hn => h2 n (by simp [hn])) q hq
end
theorem last_bound {f : Fn} (h : checkM [f] = 0) (no : Int) : 0 ≤ (lastM f no).1 ∧ (lastM f no).1 < 200 := by
  unfold lastM
  rw [if_pos h]
  split
  · simp
  · rename_i q qs hq
    have hm := List.mem_of_find?_eq_some hq
    have hne : f.body ≠ [] := fun e => by rw [e, plsL, plsF] at hm; cases hm
    obtain ⟨h1, h2⟩ := plsF_ok (nosL f.body) f.body [] f.body 0 hne (fun _ h => h) (fun _ h => h) _ hm
    exact no_bound h (h2 _ (grL_mem _ h1))
  · simp
theorem end_bound {f : Fn} (h : checkM [f] = 0) (no : Int) : 0 ≤ endM f no ∧ endM f no ≤ 201 := by
  unfold endM
  have := last_bound h no
  obtain ⟨h1, h2, _⟩ := check_body h
  split <;> omega
set_option maxHeartbeats 1000000 in
theorem end_any (f : Fn) (v : Value) (no : Int) (w : World) (hv : f.Val w v) (hT : Tab w) (hc : checkM [f] = 0) : Calls Tryd.prog 35 #[v, .int .i64 no] w fun e w' => e = .returned (.int .i64 (endM f no)) ∧ Below w.heap.size w w' := by
  have hP := fun (W : World) (hW : Below w.heap.size w W) => parent_any f v no W (hv.keep hW (Nat.le_refl _)) (hT.below hW)
  have hL := fun (W : World) (hW : Below w.heap.size w W) => last_any f v no W (hv.keep hW (Nat.le_refl _)) (hT.below hW)
  have hlb := last_bound hc no
  obtain ⟨hc1, hc2, _⟩ := check_body hc
  obtain ⟨pp, pb, cp, cb, rfl, hw, hp, hr⟩ := hv
  have HP := hide hP
  have HL := hide hL
  have hE : Hid (endM f no = if (parM f no).2.1 then (lastM f no).1 + 1 else f.count + 1) := hide rfl
  clear hw hp hr hT hP hL hc
  generalize endM f no = E at *
  generalize parM f no = p at *
  obtain ⟨p1, p2, p3⟩ := p
  generalize lastM f no = q at *
  obtain ⟨q1, q2⟩ := q
  simp only at hlb hE HP HL
  have hb0 : 0 ≤ f.count ∧ f.count ≤ 200 := by omega
  obtain ⟨hb1, hb2⟩ := hb0
  obtain ⟨hl1, hl2⟩ := hlb
  clear hc1 hc2
  cases p2
  · go_enter Tryd.func35, Tryd.ntmps35
    go_wp2_with fail
    refine (HP.out _ ((bl w).al _)).mono ?_
    rintro r w1 ⟨rfl, hb⟩
    have x4 := cell_at (j := 4) ((hb.block _ (by simp)).trans (heap_alloc_new w _)) rfl
    have HB := hide (((bl w).al _).tr hb)
    have hlt := cell_lt x4
    simp only at hlt
    clear hb
    go_wp2_with fail
    go_ret
    exact ⟨ret_int (by have := hE.out; simpa using this.symm), HB.out⟩
  · go_enter Tryd.func35, Tryd.ntmps35
    go_wp2_with fail
    refine (HP.out _ ((bl w).al _)).mono ?_
    rintro r w1 ⟨rfl, hb⟩
    have hX := (hb.block _ (by simp)).trans (heap_alloc_new w _)
    have x0 := cell_at (j := 0) hX rfl
    have x1 := cell_at (j := 1) hX rfl
    have x2 := cell_at (j := 2) hX rfl
    have x3 := cell_at (j := 3) hX rfl
    have x4 := cell_at (j := 4) hX rfl
    have HB := hide (((bl w).al _).tr hb)
    have hlt := cell_lt x4
    simp only at hlt
    clear hb hX
    go_wp2_with fail
    refine (HL.out _ HB.out).mono ?_
    rintro r w2 ⟨rfl, hb⟩
    have HB2 := hide (HB.out.tr hb)
    clear hb x0 x1 x2 x3 x4
    go_wp2_with fail
    go_ret
    exact ⟨ret_int (by have := hE.out; simpa using this.symm), HB2.out⟩
end Go.Proofs.YtccgpmncpemmdaaDoor
