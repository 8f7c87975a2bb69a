/- names.Of answers the variables of a function, or the error and its statement. -/
import Derived.Test.YtccgpmncpemmdaaDoorNmC
namespace Go.Proofs.YtccgpmncpemmdaaDoor
open Go Go.RowKit Go.Shelf
set_option linter.unusedSimpArgs false
set_option linter.unusedVariables false
set_option linter.unnecessarySimpa false
attribute [local go_sem] Oper.semAt_some
theorem tab_lt {w : World} (h : Tab w) : 0 < w.heap.size := by
  unfold Tab Lib.TabIs World.var? at h
  rw [tab_g] at h
  simp only [Option.bind_some] at h
  split at h
  · rename_i h2; exact (Array.getElem?_eq_some_iff.1 h2).1
  · cases h
theorem tab_same {w w' : World} (h : Tab w) (e : w'.heap[0]? = w.heap[0]?) : Tab w' := by
  unfold Tab Lib.TabIs World.var? at h ⊢
  rw [tab_g] at h ⊢
  simp only [Option.bind_some] at h ⊢
  rw [e]
  exact h
theorem tab_cells {w : World} (h : Tab w) : ∃ C t z, w.heap[0]? = some (.cells C t z) := by
  unfold Tab Lib.TabIs World.var? at h
  rw [tab_g] at h
  simp only [Option.bind_some] at h
  split at h
  · rename_i h2; exact ⟨_, _, _, h2⟩
  · cases h
theorem tab_grown {W W' : World} {row : Option Nat} (h : Tab W) (hg : W.grownBy W' row) (hr : ∀ r, row = some r → ∃ o : Obj, W.heap[r]? = some o ∧ o.isCells = false) : Tab W' := by
  obtain ⟨C, t, z, hc⟩ := tab_cells h
  exact tab_same h ((heap_grown hg hr hc).trans hc.symm)
theorem tab_kept {W W' : World} {L : List Nat} (h : Tab W) (hk : Kept L W W') (hn : 0 ∉ L) : Tab W' := tab_same h (hk.block _ (tab_lt h) hn)
theorem check_two {fs : List Fn} (h : checkM fs ≠ 0) : checkM fs = 2 := by
  unfold checkM at h ⊢
  split at h <;> simp_all
/-- What lies in memory while names.Of is at work. -/
structure OfSt (f : Fn) (FV : Array Value) (n sB mB pB : Nat) (r : Option Addr × Nat × Nat × Int × Int) (acc : List Vr) (ow : List Nat) (W : World) : Prop where
  r1 : W.heap[n + 1]? = some (.cells #[.slice r.1 r.2.1 r.2.2.1] 22 (0, 0))
  r2 : W.heap[n + 2]? = some (.cells #[.int .i64 r.2.2.2.1] 3 (0, 0))
  r3 : W.heap[n + 3]? = some (.cells #[.int .i64 r.2.2.2.2] 44 (0, 0))
  fb : W.heap[n]? = some (.cells FV 42 (0, 0))
  p : W.heap[pB]? = some (.cells #[.pointer (some ⟨sB, 0, none⟩)] 80 (0, 0))
  sc : Sc W (pB + 1) sB mB acc ow
  tab : Tab W
  fv : f.Val (av ((n + 1) :: (n + 2) :: (n + 3) :: sB :: mB :: ow) W) (.agg FV)
  lo : n + 3 < mB
  glo : 0 < n
  ord : mB < sB ∧ sB < pB
def noR : Option Addr × Nat × Nat × Int × Int := (none, 0, 0, 0, 0)
def OfI (f : Fn) (FV : Array Value) (n sB mB pB : Nat) (ps : List Vr) (pre : List St) (L : List Nat) (W : World) : Prop :=
  ∃ acc ow, L = (n + 1) :: (n + 2) :: (n + 3) :: sB :: mB :: ow ∧ OfSt f FV n sB mB pB noR acc ow W ∧ acc.length ≤ 50 ∧ ∀ rest : List St, goV [] (ps ++ ((pre ++ rest).filter isVar).map (stV f)) = goV acc ((rest.filter isVar).map (stV f))
def OfX (f : Fn) (FV : Array Value) (n sB mB pB : Nat) (ps : List Vr) (c : Code) (pre : List St) (L : List Nat) (W : World) : Prop :=
  c = .ret ∧ ∃ acc ow no e, L = (n + 1) :: (n + 2) :: (n + 3) :: sB :: mB :: ow ∧ OfSt f FV n sB mB pB (none, 0, 0, no, e) acc ow W ∧ ∀ rest : List St, goV [] (ps ++ ((pre ++ rest).filter isVar).map (stV f)) = ([], no, e)
theorem OfSt.own {f : Fn} {FV : Array Value} {n sB mB pB : Nat} {r : Option Addr × Nat × Nat × Int × Int} {acc : List Vr} {ow : List Nat} {W W' : World} {row : Option Nat} (h : OfSt f FV n sB mB pB r acc ow W) (hg : W.grownBy W' row)
    (hr : ∀ k, row = some k → k ∉ (n + 1) :: (n + 2) :: (n + 3) :: sB :: mB :: ow ∧ ∃ o : Obj, W.heap[k]? = some o ∧ o.isCells = false) : OfSt f FV n sB mB pB r acc ow W' := by
  have hr' : ∀ k, row = some k → ∃ o : Obj, W.heap[k]? = some o ∧ o.isCells = false := fun k e => (hr k e).2
  obtain ⟨h1, h2, h3, h4, h5, h6, h7, h8, h9, h9', h10⟩ := h
  refine ⟨heap_grown hg hr' h1, heap_grown hg hr' h2, heap_grown hg hr' h3, heap_grown hg hr' h4, heap_grown hg hr' h5, ?_, tab_grown h7 hg hr', h8.has (has_av_grown hg hr'), h9, h9', h10⟩
  refine h6.kept (m := row.toList) ⟨hg.os, hg.tape, hg.output, hg.size, fun k hk hn => hg.block k hk (fun e => hn (by rw [← e]; simp))⟩ ?_ ?_ ?_
  · intro hm
    exact (hr sB (by simpa using hm)).1 (by simp)
  · intro hm
    exact (hr mB (by simpa using hm)).1 (by simp)
  · intro g hg' hm
    exact (hr g (by simpa using hm)).1 (by simp [hg'])
theorem OfSt.lts {f : Fn} {FV : Array Value} {n sB mB pB : Nat} {r : Option Addr × Nat × Nat × Int × Int} {acc : List Vr} {ow : List Nat} {W : World} (h : OfSt f FV n sB mB pB r acc ow W) : ∀ g ∈ (n + 1) :: (n + 2) :: (n + 3) :: sB :: mB :: ow, g < W.heap.size := by
  intro g hg
  have h1 := (Array.getElem?_eq_some_iff.1 h.p).1
  have h2 := h.lo
  have h3 := h.ord
  simp only [List.mem_cons] at hg
  rcases hg with rfl | rfl | rfl | rfl | rfl | hg
  · omega
  · omega
  · omega
  · omega
  · omega
  · exact (h.sc.lt g hg).2
theorem OfI.inv (f : Fn) (FV : Array Value) (n sB mB pB B : Nat) (ps : List Vr) : Inv B (OfI f FV n sB mB pB ps) := by
  refine ⟨fun s L W W' row hi hg hr => ?_, fun s L W hi => ?_⟩
  · obtain ⟨acc, ow, rfl, h1, h2⟩ := hi
    exact ⟨acc, ow, rfl, h1.own hg (fun k e => (hr k e).2), h2⟩
  · obtain ⟨acc, ow, rfl, h1, h2⟩ := hi
    exact h1.lts
theorem OfX.inv (f : Fn) (FV : Array Value) (n sB mB pB B : Nat) (ps : List Vr) (c : Code) : Inv B (OfX f FV n sB mB pB ps c) := by
  refine ⟨fun s L W W' row hi hg hr => ?_, fun s L W hi => ?_⟩
  · obtain ⟨h0, acc, ow, no, e, rfl, h1, h2⟩ := hi
    exact ⟨h0, acc, ow, no, e, rfl, h1.own hg (fun k e => (hr k e).2), h2⟩
  · obtain ⟨h0, acc, ow, no, e, rfl, h1, h2⟩ := hi
    exact h1.lts
theorem OfSt.below {f : Fn} {FV : Array Value} {n sB mB pB : Nat} {r : Option Addr × Nat × Nat × Int × Int} {acc : List Vr} {ow : List Nat} {W W' : World} (h : OfSt f FV n sB mB pB r acc ow W) (hb : Below W.heap.size W W') : OfSt f FV n sB mB pB r acc ow W' :=
  h.own (row := none) ⟨hb.os, hb.tape, hb.output, hb.size, fun k hk _ => hb.block k hk⟩ (fun r e => by cases e)
/-- A variable was added. -/
theorem OfSt.added {f : Fn} {FV : Array Value} {n sB mB pB : Nat} {r : Option Addr × Nat × Nat × Int × Int} {acc acc' : List Vr} {ow ow' : List Nat} {W W' : World} (h : OfSt f FV n sB mB pB r acc ow W) (hs : Sc W' (pB + 1) sB mB acc' ow') (hm : Mv (sB :: mB :: ow) W (sB :: mB :: ow') W') : OfSt f FV n sB mB pB r acc' ow' W' ∧ Mv ((n + 1) :: (n + 2) :: (n + 3) :: sB :: mB :: ow) W ((n + 1) :: (n + 2) :: (n + 3) :: sB :: mB :: ow') W' := by
  have hlt := h.sc.lt
  have h2 := h.lo
  have h3 := h.ord
  have htb := tab_lt h.tab
  have hmv : Mv ((n + 1) :: (n + 2) :: (n + 3) :: sB :: mB :: ow) W ((n + 1) :: (n + 2) :: (n + 3) :: sB :: mB :: ow') W' := by
    refine ⟨hm.kept.sub fun g hg => .inl (List.mem_cons_of_mem _ (List.mem_cons_of_mem _ (List.mem_cons_of_mem _ hg))), fun g hg => ?_⟩
    simp only [List.mem_cons] at hg
    rcases hg with rfl | rfl | rfl | rfl | rfl | hg
    · exact .inl (by simp)
    · exact .inl (by simp)
    · exact .inl (by simp)
    · exact .inl (by simp)
    · exact .inl (by simp)
    · rcases hm.sub g (by simp [hg]) with e | e
      · exact .inl (List.mem_cons_of_mem _ (List.mem_cons_of_mem _ (List.mem_cons_of_mem _ e)))
      · exact .inr e
  have hno : ∀ k, k ≠ sB → k ≠ mB → k < pB + 1 → k ∉ sB :: mB :: ow := fun k a b c hk => by
    simp only [List.mem_cons] at hk
    rcases hk with e | e | e
    · exact a e
    · exact b e
    · have := (hlt k e).1; omega
  obtain ⟨q1, q2, q3, q4, q5, q6, q7, q8, q9, q9', q10⟩ := h
  refine ⟨⟨hm.kept.heap (hno _ (by omega) (by omega) (by omega)) q1, hm.kept.heap (hno _ (by omega) (by omega) (by omega)) q2, hm.kept.heap (hno _ (by omega) (by omega) (by omega)) q3, hm.kept.heap (hno _ (by omega) (by omega) (by omega)) q4,
    hm.kept.heap (hno _ (by omega) (by omega) (by omega)) q5, hs, tab_kept q7 hm.kept (hno _ (by omega) (by omega) (by omega)), q8.has hmv.has, q9, q9', q10⟩, hmv⟩
/-- The results are laid. -/
theorem OfSt.res {f : Fn} {FV : Array Value} {n sB mB pB : Nat} {r : Option Addr × Nat × Nat × Int × Int} {acc : List Vr} {ow : List Nat} {W : World} (h : OfSt f FV n sB mB pB r acc ow W) (a : Option Addr) (m c : Nat) (no e : Int) :
    OfSt f FV n sB mB pB (a, m, c, no, e) acc ow (((W.setCell ⟨n + 1, 0, none⟩ (.slice a m c)).setCell ⟨n + 1 + 1, 0, none⟩ (.int .i64 no)).setCell ⟨n + 1 + 1 + 1, 0, none⟩ (.int .i64 e)) ∧
    Mv ((n + 1) :: (n + 2) :: (n + 3) :: sB :: mB :: ow) W ((n + 1) :: (n + 2) :: (n + 3) :: sB :: mB :: ow) (((W.setCell ⟨n + 1, 0, none⟩ (.slice a m c)).setCell ⟨n + 1 + 1, 0, none⟩ (.int .i64 no)).setCell ⟨n + 1 + 1 + 1, 0, none⟩ (.int .i64 e)) := by
  have hk : Kept [n + 1, n + 2, n + 3] W (((W.setCell ⟨n + 1, 0, none⟩ (.slice a m c)).setCell ⟨n + 1 + 1, 0, none⟩ (.int .i64 no)).setCell ⟨n + 1 + 1 + 1, 0, none⟩ (.int .i64 e)) :=
    (((Kept.refl _ W).set (.inl (by simp)) _ _).set (.inl (by simp)) _ _).set (.inl (by simp)) _ _
  have hm : Mv ((n + 1) :: (n + 2) :: (n + 3) :: sB :: mB :: ow) W ((n + 1) :: (n + 2) :: (n + 3) :: sB :: mB :: ow) (((W.setCell ⟨n + 1, 0, none⟩ (.slice a m c)).setCell ⟨n + 1 + 1, 0, none⟩ (.int .i64 no)).setCell ⟨n + 1 + 1 + 1, 0, none⟩ (.int .i64 e)) := by
    refine ⟨hk.sub fun g hg => .inl ?_, fun g hg => .inl hg⟩
    simp only [List.mem_cons, List.not_mem_nil, or_false] at hg ⊢
    omega
  have hlt := h.sc.lt
  have hord := h.ord
  have hlo := h.lo
  have hglo := h.glo
  obtain ⟨q1, q2, q3, q4, q5, q6, q7, q8, q9, q9', q10⟩ := h
  refine ⟨⟨?_, ?_, ?_, hk.heap (by simp <;> omega) q4, hk.heap (by simp <;> omega) q5, q6.kept hk (by simp <;> omega) (by simp <;> omega) (fun g hg => by have := (hlt g hg).1; simp <;> omega), tab_kept q7 hk (by simp <;> omega), q8.has hm.has, q9, q9', q10⟩, hm⟩
  · exact (Below.heap_setCell _ ⟨n + 1 + 1 + 1, 0, none⟩ _ (n + 1) (by simp only; omega)).trans ((Below.heap_setCell _ ⟨n + 1 + 1, 0, none⟩ _ (n + 1) (by simp only; omega)).trans (heap_set (i := 0) q1 _))
  · exact (Below.heap_setCell _ ⟨n + 1 + 1 + 1, 0, none⟩ _ (n + 2) (by simp only; omega)).trans (heap_set (i := 0) (g := n + 1 + 1) ((Below.heap_setCell _ ⟨n + 1, 0, none⟩ _ (n + 2) (by simp only; omega)).trans q2) _)
  · exact heap_set (i := 0) (g := n + 1 + 1 + 1) ((Below.heap_setCell _ ⟨n + 1 + 1, 0, none⟩ _ (n + 3) (by simp only; omega)).trans ((Below.heap_setCell _ ⟨n + 1, 0, none⟩ _ (n + 3) (by simp only; omega)).trans q3)) _
theorem OfSt.cells {f : Fn} {FV : Array Value} {n sB mB pB : Nat} {a : Option Addr} {m c : Nat} {no e : Int} {acc : List Vr} {ow : List Nat} {W : World} (h : OfSt f FV n sB mB pB (a, m, c, no, e) acc ow W) :
    W.cell? ⟨n + 1, 0, none⟩ = some (.slice a m c) ∧ W.cell? ⟨n + 1 + 1, 0, none⟩ = some (.int .i64 no) ∧ W.cell? ⟨n + 1 + 1 + 1, 0, none⟩ = some (.int .i64 e) ∧ W.frozen? ⟨n + 1, 0, none⟩ = false ∧ W.frozen? ⟨n + 1 + 1, 0, none⟩ = false ∧ W.frozen? ⟨n + 1 + 1 + 1, 0, none⟩ = false ∧ n + 1 + 1 + 1 < W.heap.size :=
  ⟨cell_at h.r1 rfl, cell_at h.r2 rfl, cell_at h.r3 rfl, free_at h.r1, free_at h.r2, free_at h.r3, (Array.getElem?_eq_some_iff.1 h.r3).1⟩
def OfPost (f : Fn) (w : World) (e : Ending) (w' : World) : Prop :=
  (∃ a cap, e = .returned (.tuple #[.slice a (namesM f).1.length cap, .int .i64 (namesM f).2.1, .int .i64 (namesM f).2.2]) ∧ Vrs w' (namesM f).1 a cap) ∧ Below w.heap.size w w'
theorem goV_ok {acc : List Vr} {v : Vr} {vs : List Vr} (h1 : hasN acc v.name = false) (h2 : acc.length < 50) : goV acc (v :: vs) = goV (acc ++ [v]) vs := by
  rw [goV, h1, if_neg (by simp), if_neg (by omega)]
theorem goV_dup {acc : List Vr} {v : Vr} {vs : List Vr} (h1 : hasN acc v.name = true) : goV acc (v :: vs) = ([], v.no, 11) := by rw [goV, if_pos h1]
theorem goV_many {acc : List Vr} {v : Vr} {vs : List Vr} (h1 : hasN acc v.name = false) (h2 : 50 ≤ acc.length) : goV acc (v :: vs) = ([], v.no, 10) := by rw [goV, h1, if_neg (by simp), if_pos h2]
set_option maxRecDepth 40000 in
set_option maxHeartbeats 8000000 in
theorem of_any (f : Fn) (v : Value) (w : World) (hv : f.Val w v) (hT : Tab w) : Calls Tryd.prog 19 #[v] w (OfPost f w) := by
  have hv0 := hv
  obtain ⟨pp, pb, cp, cb, rfl, hw, hp, hr⟩ := hv
  have hc := fun (W : World) (n : Nat) (h : n = W.heap.size) (hb : Below w.heap.size w W) => check_any [f] (some ⟨n, 0, none⟩) 1 (W.alloc (.cells #[.string ⟨f.name.toArray⟩, .slice pp f.params.length cp, .int .i64 f.result, .slice pb f.body.length cb, .int .i64 f.count] 42))
    (fns_new (cut5 (⟨pp, pb, cp, cb, rfl, hw, hp.has (has_below hb), hr.has (has_below hb)⟩ : FnC W f _) cutN) 42 n 1 h (by simp) (by unfold maxLen; omega)) ((hT.below hb).below ((bl W).al _))
  have HC := hide hc
  have HV := hide hv0
  have HT := hide hT
  have HW := hide hw
  have HPM := hide hp
  have hmm := @run_makeMap Tryd.prog
  clear hc hv0 hT hw hp hr
  by_cases hck : checkM [f] = 0
  · obtain ⟨hcl, hcc, _⟩ := check_body hck
    have hp8 : f.params.length ≤ 8 := by
      have := (check_one hck).1
      simp only [fnOk, Bool.and_eq_true, decide_eq_true_eq] at this
      exact this.1.1.1.2
    rw [hck] at HC
    have hNM : Hid (namesM f = goV [] (f.params.map (pmV f) ++ ((allS f).filter isVar).map (stV f))) := hide (by rw [namesM, if_pos hck, allS, if_pos hck])
    have HCK := hide hck
    have hcnt : 0 ≤ f.count ∧ f.count ≤ 200 := by omega
    obtain ⟨hcn1, hcn2⟩ := hcnt
    clear hck hcl hcc
    refine (callsIn_wide (n := 9)).1 ?_
    refine callsIn_of_wp_marks Tryd.func19 rfl trivial ?_ rfl
    simp only [Tryd.ntmps19, List.size_toArray, List.length_cons, List.length_nil, Nat.reduceAdd, Nat.reduceSub, Array.replicate_succ, Array.replicate_zero, List.push_toArray, List.append_toArray, List.nil_append, List.cons_append]
    gi_wp2_with fail
    refine ⟨trivial, ?_⟩
    refine (callsIn_wide.2 (HC.out _ _ (by simp) ((((bl w).al _).al _).al _ |>.al _))).mono ?_
    rintro r w1 ⟨rfl, hb⟩
    have hs1 : w.heap.size + 5 ≤ w1.heap.size := by have := hb.size; simp at this; omega
    have hb1 : Below w.heap.size w w1 := ((((bl w).al _).al _).al _ |>.al _ |>.al _).tr hb
    have x0 : w1.heap[w.heap.size]? = some (.cells #[.string ⟨f.name.toArray⟩, .slice pp f.params.length cp, .int .i64 f.result, .slice pb f.body.length cb, .int .i64 f.count] 42 (0, 0)) := by
      rw [hb.block _ (by simp <;> omega), Below.heap_alloc _ _ _ (by simp <;> omega), Below.heap_alloc _ _ _ (by simp <;> omega), Below.heap_alloc _ _ _ (by simp <;> omega), Below.heap_alloc _ _ _ (by simp <;> omega)]
      exact heap_alloc_new w _
    have x1 : w1.heap[w.heap.size + 1]? = some (.cells #[.slice none 0 0] 22 (0, 0)) := by
      rw [hb.block _ (by simp <;> omega), Below.heap_alloc _ _ _ (by simp <;> omega), Below.heap_alloc _ _ _ (by simp <;> omega), Below.heap_alloc _ _ _ (by simp <;> omega)]
      have := heap_alloc_new (w.alloc (.cells #[.string ⟨f.name.toArray⟩, .slice pp f.params.length cp, .int .i64 f.result, .slice pb f.body.length cb, .int .i64 f.count] 42)) (.cells #[.slice none 0 0] 22)
      simpa using this
    have x2 : w1.heap[w.heap.size + 2]? = some (.cells #[.int .i64 0] 3 (0, 0)) := by
      rw [hb.block _ (by simp <;> omega), Below.heap_alloc _ _ _ (by simp <;> omega), Below.heap_alloc _ _ _ (by simp <;> omega)]
      have := heap_alloc_new ((w.alloc (.cells #[.string ⟨f.name.toArray⟩, .slice pp f.params.length cp, .int .i64 f.result, .slice pb f.body.length cb, .int .i64 f.count] 42)).alloc (.cells #[.slice none 0 0] 22)) (.cells #[.int .i64 0] 3)
      simpa using this
    have x3 : w1.heap[w.heap.size + 3]? = some (.cells #[.int .i64 0] 44 (0, 0)) := by
      rw [hb.block _ (by simp <;> omega), Below.heap_alloc _ _ _ (by simp <;> omega)]
      have := heap_alloc_new (((w.alloc (.cells #[.string ⟨f.name.toArray⟩, .slice pp f.params.length cp, .int .i64 f.result, .slice pb f.body.length cb, .int .i64 f.count] 42)).alloc (.cells #[.slice none 0 0] 22)).alloc (.cells #[.int .i64 0] 3)) (.cells #[.int .i64 0] 44)
      simpa using this
    have htl := tab_lt HT.out
    have hB2 : Below w1.heap.size w1 (((w1.alloc (.map #[] 0)).alloc (.cells #[.slice none 0 0, .map (some w1.heap.size)] 83)).alloc (.cells #[.pointer (some ⟨w1.heap.size + 1, 0, none⟩)] 80)) := ((bl w1).al _).al _ |>.al _
    have hO0 : OfSt f #[.string ⟨f.name.toArray⟩, .slice pp f.params.length cp, .int .i64 f.result, .slice pb f.body.length cb, .int .i64 f.count] w.heap.size (w1.heap.size + 1) w1.heap.size (w1.heap.size + 2) noR [] [] (((w1.alloc (.map #[] 0)).alloc (.cells #[.slice none 0 0, .map (some w1.heap.size)] 83)).alloc (.cells #[.pointer (some ⟨w1.heap.size + 1, 0, none⟩)] 80)) := by
      refine ⟨(hB2.block _ (by omega)).trans x1, (hB2.block _ (by omega)).trans x2, (hB2.block _ (by omega)).trans x3, (hB2.block _ (by omega)).trans x0, ?_, ⟨⟨none, 0, ?_, OwnL.nil _ _ _ _ _ _, rfl⟩, ?_, by omega, by omega, by omega, by simp⟩, (HT.out.below hb1).below hB2, ?_, by omega, htl, by omega⟩
      · have := heap_alloc_new ((w1.alloc (.map #[] 0)).alloc (.cells #[.slice none 0 0, .map (some w1.heap.size)] 83)) (.cells #[.pointer (some ⟨w1.heap.size + 1, 0, none⟩)] 80)
        simpa using this
      · rw [Below.heap_alloc _ _ _ (by simp)]
        have := heap_alloc_new (w1.alloc (.map #[] 0)) (.cells #[.slice none 0 0, .map (some w1.heap.size)] 83)
        simpa using this
      · exact nmap_kept (nmap_kept (NMap.made w1 _) (m := []) (kept_below ((bl _).al _)) (by simp)) (m := []) (kept_below ((bl _).al _)) (by simp)
      · refine HV.out.has ((has_new ?_).tr (has_av_below (hb1.tr hB2)))
        intro g hg
        simp only [List.mem_cons, List.not_mem_nil, or_false] at hg
        omega
    have HO0 := hide hO0
    have HB0 := hide (hb1.tr hB2)
    have y1 : w1.cell? ⟨w.heap.size, 1, none⟩ = some (.slice pp f.params.length cp) := cell_at x0 rfl
    have hlt0 : w.heap.size < w1.heap.size := by omega
    have hlt1 : w.heap.size < w1.heap.size + 1 := by omega
    have hlt2 : w.heap.size < w1.heap.size + 1 + 1 := by omega
    have hpl : f.params.length ≤ 9223372036854775807 := by omega
    clear hb hb1 x0 x1 x2 x3 hB2 hO0
    gi_wp2_with fail
    clear y1
    have hPS : Hid (∃ ps, ps = f.params.map (pmV f)) := hide ⟨_, rfl⟩
    obtain ⟨ps, hps⟩ := hPS.out
    rw [← hps] at hNM
    have HPS := hide hps
    clear hps hPS
    gi_loopw [26] (fun i wr => ∃ (k : Nat) (acc : List Vr) (ow : List Nat), k ≤ f.params.length ∧ i = .int .i64 k ∧ Hid (OfSt f #[.string ⟨f.name.toArray⟩, .slice pp f.params.length cp, .int .i64 f.result, .slice pb f.body.length cb, .int .i64 f.count] w.heap.size (w1.heap.size + 1) w1.heap.size (w1.heap.size + 2) noR acc ow wr) ∧ Hid (acc.length = k) ∧ Hid (∀ X, goV [] (ps ++ X) = goV acc ((f.params.drop k).map (pmV f) ++ X)) ∧ Hid (Below w.heap.size w wr)) (fun i _ => f.params.length - (intOf i).toNat)
    case atStart => exact ⟨0, [], [], Nat.zero_le _, rfl, HO0, rfl, fun X => by rw [HPS.out]; rfl, HB0⟩
    case round =>
      obtain ⟨k, acc, ow, hk, rfl, HO, HAL, HG, HB⟩ := hrel
      have hal := HAL.out
      have yp := cell_at (j := 0) HO.out.p rfl
      have y4 : wr.cell? ⟨w.heap.size, 4, none⟩ = some (.int .i64 f.count) := cell_at HO.out.fb rfl
      have hpl2 := (Array.getElem?_eq_some_iff.1 HO.out.p).1
      have hfl2 := (Array.getElem?_eq_some_iff.1 HO.out.fb).1
      by_cases hlt : k < f.params.length
      · obtain ⟨b, o, hpa⟩ := HPM.out.addr (by omega)
        subst hpa
        obtain ⟨q0, q1⟩ := (HPM.out.has (has_below HB.out)).at_ b o rfl k hlt
        have hbl := cell_lt q0
        simp only at hbl
        have hpw := HPM.out.wf _ (List.getElem_mem hlt)
        have hvw : (pmV f f.params[k]).wf := by
          refine ⟨hpw.1, hpw.2, ?_, ?_, ?_⟩ <;> (simp only [pmV]; unfold I64; omega)
        have HADD := hide (add_any (pmV f f.params[k]) (w1.heap.size + 2 + 1) (w1.heap.size + 1) w1.heap.size acc ow (wr.alloc (.cells #[.string ⟨f.params[k].name.toArray⟩, .int .i64 f.params[k].typ] 58)) (HO.out.below ((bl wr).al _)).sc hvw (by omega))
        simp only [Vr.val, pmV] at HADD
        have HO1 := hide (HO.out.below ((bl wr).al (.cells #[.string ⟨f.params[k].name.toArray⟩, .int .i64 f.params[k].typ] 58)))
        have HB1 := hide (HB.out.tr ((bl wr).al (.cells #[.string ⟨f.params[k].name.toArray⟩, .int .i64 f.params[k].typ] 58)))
        have HDR := hide (List.drop_eq_getElem_cons hlt)
        clear hpw hvw hal
        gi_wp2_with fail
        refine ⟨trivial, ?_⟩
        refine (callsIn_wide.2 HADD.out).mono ?_
        rintro r w3 (⟨hq, rfl, hb⟩ | ⟨hq, h50, rfl, hb⟩ | ⟨hq, h50, rfl, ow', hsc, hmv⟩)
        · have hN : namesM f = ([], -1, 11) := by
            rw [hNM.out, HG.out, HDR.out, List.map_cons, List.cons_append]
            exact goV_dup hq
          have HO3 := hide (HO1.out.below hb)
          have HB3 := hide (HB1.out.tr hb)
          obtain ⟨d1, d2, d3, g1, g2, g3, g4⟩ := HO3.out.cells
          obtain ⟨ho4, hm4⟩ := HO3.out.res none 0 0 (-1) 11
          obtain ⟨e1, e2, e3, _⟩ := ho4.cells
          have HP : Hid (OfPost f w (.returned (.tuple #[.slice none 0 0, .int .i64 (-1), .int .i64 11])) (((w3.setCell ⟨w.heap.size + 1, 0, none⟩ (.slice none 0 0)).setCell ⟨w.heap.size + 1 + 1, 0, none⟩ (.int .i64 (-1))).setCell ⟨w.heap.size + 1 + 1 + 1, 0, none⟩ (.int .i64 11))) := hide (by
            refine ⟨⟨none, 0, by rw [hN]; rfl, by rw [hN]; exact ⟨Nat.le_refl _, Nat.zero_le _, by simp, by simp, fun b o e => by cases e⟩⟩, ?_⟩
            exact ((HB3.out.setCell (by simp) _).setCell (by simp only; omega) _).setCell (by simp only; omega) _)
          have l1 : w.heap.size + 1 < w3.heap.size := by omega
          have l2 : w.heap.size + 1 + 1 < w3.heap.size := by omega
          clear hq hb hN ho4 hm4
          gi_wp2_with fail
          refine ⟨_, ?_, HP.out⟩
          simp [results, Tryd.f19, go_sem, e1, e2, e3]
        · have hN : namesM f = ([], -1, 10) := by
            rw [hNM.out, HG.out, HDR.out, List.map_cons, List.cons_append]
            exact goV_many hq h50
          have HO3 := hide (HO1.out.below hb)
          have HB3 := hide (HB1.out.tr hb)
          obtain ⟨d1, d2, d3, g1, g2, g3, g4⟩ := HO3.out.cells
          obtain ⟨ho4, hm4⟩ := HO3.out.res none 0 0 (-1) 10
          obtain ⟨e1, e2, e3, _⟩ := ho4.cells
          have HP : Hid (OfPost f w (.returned (.tuple #[.slice none 0 0, .int .i64 (-1), .int .i64 10])) (((w3.setCell ⟨w.heap.size + 1, 0, none⟩ (.slice none 0 0)).setCell ⟨w.heap.size + 1 + 1, 0, none⟩ (.int .i64 (-1))).setCell ⟨w.heap.size + 1 + 1 + 1, 0, none⟩ (.int .i64 10))) := hide (by
            refine ⟨⟨none, 0, by rw [hN]; rfl, by rw [hN]; exact ⟨Nat.le_refl _, Nat.zero_le _, by simp, by simp, fun b o e => by cases e⟩⟩, ?_⟩
            exact ((HB3.out.setCell (by simp) _).setCell (by simp only; omega) _).setCell (by simp only; omega) _)
          have l1 : w.heap.size + 1 < w3.heap.size := by omega
          have l2 : w.heap.size + 1 + 1 < w3.heap.size := by omega
          clear hq hb hN ho4 hm4
          gi_wp2_with fail
          refine ⟨_, ?_, HP.out⟩
          simp [results, Tryd.f19, go_sem, e1, e2, e3]
        · obtain ⟨ho3, hm3⟩ := HO1.out.added hsc hmv
          have HB3 : Hid (Below w.heap.size w w3) := hide (hmv.kept.below HB1.out (fun g hg => by
            have h1 := HO.out.lo
            have h2 := HO.out.sc.lt
            simp only [List.mem_cons] at hg
            rcases hg with rfl | rfl | hg
            · omega
            · omega
            · have := (h2 g hg).1; omega))
          have HO3 := hide ho3
          have HG3 : Hid (∀ X, goV [] (ps ++ X) = goV (acc ++ [pmV f f.params[k]]) ((f.params.drop (k + 1)).map (pmV f) ++ X)) := hide fun X => by
            rw [HG.out, HDR.out, List.map_cons, List.cons_append]
            exact goV_ok hq h50
          clear hq h50 hsc hmv ho3 hm3
          gi_wp2_with fail
          go_roundw
          case rel => exact ⟨k + 1, _, ow', by omega, by go_num, HO3, hide (by rw [List.length_append, HAL.out]; rfl), HG3, HB3⟩
          case measure => simp [intOf]; omega
      · obtain rfl : k = f.params.length := by omega
        have y0 : wr.cell? ⟨w.heap.size, 0, none⟩ = some (.string ⟨f.name.toArray⟩) := cell_at HO.out.fb rfl
        have y1 : wr.cell? ⟨w.heap.size, 1, none⟩ = some (.slice pp f.params.length cp) := cell_at HO.out.fb rfl
        have y2 : wr.cell? ⟨w.heap.size, 2, none⟩ = some (.int .i64 f.result) := cell_at HO.out.fb rfl
        have y3 : wr.cell? ⟨w.heap.size, 3, none⟩ = some (.slice pb f.body.length cb) := cell_at HO.out.fb rfl
        clear hal
        gi_wp2_with fail
        refine ⟨trivial, ?_⟩
        refine (callsIn_wide.2 (all_any _ _ _ _ _ _ _ _ _ _)).mono ?_
        rintro r w2 ⟨rfl, hw2⟩
        have hb2 : Below wr.heap.size wr w2 := by rw [hw2]; exact (bl wr).al _
        have hz : w2.heap[wr.heap.size]? = some (.cells #[.string ⟨f.name.toArray⟩, .slice pp f.params.length cp, .int .i64 f.result, .slice pb f.body.length cb, .int .i64 f.count] 42 (0, 0)) := by rw [hw2]; exact heap_alloc_new _ _
        have ho2 := HO.out.below hb2
        have HSQ : Hid (SeqO 45 #[.pointer (some ⟨wr.heap.size, 0, none⟩)] OfS (allS f) ((w.heap.size + 1) :: (w.heap.size + 2) :: (w.heap.size + 3) :: (w1.heap.size + 1) :: w1.heap.size :: ow) w2) := hide (by
          refine all_seq f pp pb cp cb wr.heap.size _ w2 ho2.fv (fun L W hm => tab_kept ho2.tab hm.kept ?_) hz ?_
          · have h1 := ho2.glo
            have h2 := ho2.sc.lt
            intro h
            simp only [List.mem_cons] at h
            rcases h with h | h | h | h | h | h
            · omega
            · omega
            · omega
            · omega
            · omega
            · have := (h2 _ h).1; omega
          · intro h
            have := HO.out.lts _ h
            omega)
        have HI0 : Hid (OfI f #[.string ⟨f.name.toArray⟩, .slice pp f.params.length cp, .int .i64 f.result, .slice pb f.body.length cb, .int .i64 f.count] w.heap.size (w1.heap.size + 1) w1.heap.size (w1.heap.size + 2) ps [] ((w.heap.size + 1) :: (w.heap.size + 2) :: (w.heap.size + 3) :: (w1.heap.size + 1) :: w1.heap.size :: ow) w2) := hide (by
          refine ⟨acc, ow, rfl, ho2, by rw [HAL.out]; omega, fun rest => ?_⟩
          rw [HG.out, List.drop_length]
          rfl)
        have HB2 := hide (HB.out.tr hb2)
        have HGE : Hid (∀ g ∈ (w.heap.size + 1) :: (w.heap.size + 2) :: (w.heap.size + 3) :: (w1.heap.size + 1) :: w1.heap.size :: ow, w.heap.size ≤ g) := hide (by
          have h2 := HO.out.sc.lt
          intro g hg
          simp only [List.mem_cons] at hg
          rcases hg with rfl | rfl | rfl | rfl | rfl | hg
          · omega
          · omega
          · omega
          · omega
          · omega
          · have := (h2 _ hg).1; omega)
        have hw12 : w1.heap.size + 3 ≤ w2.heap.size := by have := hb2.size; omega
        clear hz hb2 hw2 ho2 y0 y1 y2 y3 y4 yp
        gi_wp2_with fail
        refine rangeO (n := 9) (gf := 45) rfl (fun _ _ => by kernel_rfl) HSQ.out (fun _ _ _ _ hh h => h.has hh) (fun _ _ _ h => by obtain ⟨v, rfl, _⟩ := h; rfl) (OfI f #[.string ⟨f.name.toArray⟩, .slice pp f.params.length cp, .int .i64 f.result, .slice pb f.body.length cb, .int .i64 f.count] w.heap.size (w1.heap.size + 1) w1.heap.size (w1.heap.size + 2) ps) (OfX f #[.string ⟨f.name.toArray⟩, .slice pp f.params.length cp, .int .i64 f.result, .slice pb f.body.length cb, .int .i64 f.count] w.heap.size (w1.heap.size + 1) w1.heap.size (w1.heap.size + 2) ps) (OfI.inv _ _ _ _ _ _ _ _) (fun c => OfX.inv _ _ _ _ _ _ _ _ c) HI0.out
          (fun s args a' L W => ∃ (pa qb pe : Option Addr) (ca db ce b : Nat), args = #[.int .i64 s.no, .agg #[.int .i64 s.kind, .int .i64 s.no, .string ⟨s.name.toArray⟩, .int .i64 s.typ, .string ⟨s.callee.toArray⟩, .slice pa s.args.length ca, .slice qb s.body.length db, .slice pe s.els.length ce]] ∧ b ∉ L ∧ W.heap[b]? = some (.cells #[.int .i64 s.kind, .int .i64 s.no, .string ⟨s.name.toArray⟩, .int .i64 s.typ, .string ⟨s.callee.toArray⟩, .slice pa s.args.length ca, .slice qb s.body.length db, .slice pe s.els.length ce] 62 (0, 0)) ∧ a' = { tmps := #[.agg #[.string ⟨f.name.toArray⟩, .slice pp f.params.length cp, .int .i64 f.result, .slice pb f.body.length cb, .int .i64 f.count], .pointer (some ⟨w.heap.size, 0, none⟩), .pointer (some ⟨w.heap.size + 1, 0, none⟩), .pointer (some ⟨w.heap.size + 1 + 1, 0, none⟩), .pointer (some ⟨w.heap.size + 1 + 1 + 1, 0, none⟩), .int .i64 0, .pointer (some ⟨w1.heap.size + 1 + 1, 0, none⟩), undef, u8, u9, .int .i64 s.no, .pointer (some ⟨b, 0, none⟩), undef, .agg #[.string ⟨f.name.toArray⟩, .slice pp f.params.length cp, .int .i64 f.result, .slice pb f.body.length cb, .int .i64 f.count], .slice (some ⟨w.heap.size + 1 + 1 + 1 + 1, 0, none⟩) 1 1, .agg #[.slice (some ⟨w.heap.size + 1 + 1 + 1 + 1, 0, none⟩) 1 1], .int .i64 0, .int .i64 0, .bool false, undef, .map (some w1.heap.size), .agg #[.slice none 0 0, .map (some w1.heap.size)], .pointer (some ⟨w1.heap.size + 1, 0, none⟩), .pointer (some ⟨w.heap.size, 1, none⟩), .slice pp f.params.length cp, .int .i64 f.params.length, .int .i64 f.params.length, .bool false, u28, u29, u30, u31, u32, u33, u34, u35, u36, u37, u38, u39, u40, u41, u42, u43, .agg #[.string ⟨f.name.toArray⟩, .slice pp f.params.length cp, .int .i64 f.result, .slice pb f.body.length cb, .int .i64 f.count], .func (.func 45) #[] #[.pointer (some ⟨wr.heap.size, 0, none⟩)], .int .i64 s.no, .agg #[.int .i64 s.kind, .int .i64 s.no, .string ⟨s.name.toArray⟩, .int .i64 s.typ, .string ⟨s.callee.toArray⟩, .slice pa s.args.length ca, .slice qb s.body.length db, .slice pe s.els.length ce], undef, undef, undef, undef, undef, undef, undef, undef, undef, undef, undef, undef, undef, undef, undef, undef, undef, undef, undef, undef, undef, undef, undef, undef], defers := [] })
          (fun s args a' L W l o o' h hl ho => by
            obtain ⟨pa, qb, pe, ca, db, ce, b, h1, hbL, h2, h3⟩ := h
            exact ⟨pa, qb, pe, ca, db, ce, b, h1, hbL, heap_grown (grownBy_putObj' W l o') (fun r e => by cases e; exact ⟨o, hl, ho⟩) h2, h3⟩) ?assign ?body ?done ?stop
        case assign =>
          intro l pre s args L W K hI hof hp hK
          obtain ⟨v, rfl, pa, qb, pe, ca, db, ce, rfl, _⟩ := hof
          have hnL : W.heap.size ∉ L := fun h => Nat.lt_irrefl _ ((OfI.inv f #[.string ⟨f.name.toArray⟩, .slice pp f.params.length cp, .int .i64 f.result, .slice pb f.body.length cb, .int .i64 f.count] w.heap.size (w1.heap.size + 1) w1.heap.size (w1.heap.size + 2) 0 ps).lt _ _ _ hI _ h)
          gi_wp2
          exact hK _ _ ((bl W).al _) ⟨pa, qb, pe, ca, db, ce, W.heap.size, rfl, hnL, heap_alloc_new W _, rfl⟩
        case body =>
          intro l pre s args a' L W hl hnl hrec hI hof hax hp
          obtain ⟨pa, qb, pe, ca, db, ce, b, rfl, hbL, hbx, rfl⟩ := hax
          obtain ⟨v, hargs, hsv⟩ := hof
          have hI0 := hI
          obtain ⟨acc, ow, rfl, ho, h50, hgo⟩ := hI
          have HI := hide hI0
          have HO := hide ho
          have HGO := hide hgo
          have s0 : W.cell? ⟨b, 0, none⟩ = some (.int .i64 s.kind) := cell_at hbx rfl
          have hbl := (Array.getElem?_eq_some_iff.1 hbx).1
          have HBX := hide hbx
          have HP := hide hp
          have h50' := hide h50
          clear hI0 ho hgo hbx hp hrec h50 hnl
          cases hvar : isVar s
          · have hk1 : (s.kind != 1) = true := by simpa [isVar] using hvar
            have HFIN : Hid (∃ L', Mv ((w.heap.size + 1) :: (w.heap.size + 2) :: (w.heap.size + 3) :: (w1.heap.size + 1) :: w1.heap.size :: ow) W L' W ∧ OfI f #[.string ⟨f.name.toArray⟩, .slice pp f.params.length cp, .int .i64 f.result, .slice pb f.body.length cb, .int .i64 f.count] w.heap.size (w1.heap.size + 1) w1.heap.size (w1.heap.size + 2) ps (pre ++ [s]) L' W) := hide
              ⟨_, Mv.refl _ _, acc, ow, rfl, HO.out, h50'.out, fun rest => by
                have := HGO.out (s :: rest)
                rw [List.append_assoc, List.singleton_append, this, List.filter_cons_of_neg (by simp [hvar])]⟩
            clear hvar
            gi_wp2_with fail
            exact HFIN.out
          · have hk1 : (s.kind != 1) = false := by simpa [isVar] using hvar
            have hsn : s.no ∈ nosL f.body := by
              have h1 : s ∈ allS f := by
                obtain ⟨r, hr⟩ := HP.out
                rw [← hr]
                simp
              rw [allS, if_pos HCK.out] at h1
              rw [← stsL_no]
              exact List.mem_map.2 ⟨s, h1, rfl⟩
            obtain ⟨hn0, hn1⟩ := no_bound HCK.out hsn
            have m1 : IntKind.i64.wrap (s.no + 1) = s.no + 1 := IntWalk.i64_in _ (by omega)
            have s2 : W.cell? ⟨b, 2, none⟩ = some (.string ⟨s.name.toArray⟩) := cell_at HBX.out rfl
            have s3 : W.cell? ⟨b, 3, none⟩ = some (.int .i64 s.typ) := cell_at HBX.out rfl
            have yp : W.cell? ⟨w1.heap.size + 1 + 1, 0, none⟩ = some (.pointer (some ⟨w1.heap.size + 1, 0, none⟩)) := cell_at HO.out.p rfl
            have y0 : W.cell? ⟨w.heap.size, 0, none⟩ = some (.string ⟨f.name.toArray⟩) := cell_at HO.out.fb rfl
            have y1 : W.cell? ⟨w.heap.size, 1, none⟩ = some (.slice pp f.params.length cp) := cell_at HO.out.fb rfl
            have y2 : W.cell? ⟨w.heap.size, 2, none⟩ = some (.int .i64 f.result) := cell_at HO.out.fb rfl
            have y3 : W.cell? ⟨w.heap.size, 3, none⟩ = some (.slice pb f.body.length cb) := cell_at HO.out.fb rfl
            have y4 : W.cell? ⟨w.heap.size, 4, none⟩ = some (.int .i64 f.count) := cell_at HO.out.fb rfl
            have hmx : Tryd.prog.follows .mixedOrders = true := by kernel_rfl
            have HEND := hide (end_any f _ s.no W.drew (HO.out.fv.has has_av) (tab_kept (L := []) HO.out.tab (kept_below (bl W).dr) (by simp)) HCK.out)
            obtain ⟨_, _, _, _, _, _, hsv', hswf, _⟩ := hsv
            have hvw : (stV f s).wf := by
              have he := end_bound HCK.out s.no
              refine ⟨hswf.s, hswf.t, hswf.n, ?_, ?_⟩ <;> (simp only [stV]; unfold I64; omega)
            have HVW := hide hvw
            have HVAR := hide hvar
            clear hsn hvar hsv' hswf hvw
            gi_wp2_with fail
            refine held_in (S := fun w' => w'.cell? ⟨w1.heap.size + 1 + 1, 0, none⟩ = some (.pointer (some ⟨w1.heap.size + 1, 0, none⟩)) ∧ w'.cell? ⟨b, 2, none⟩ = some (.string ⟨s.name.toArray⟩) ∧ w'.cell? ⟨b, 3, none⟩ = some (.int .i64 s.typ) ∧ w'.cell? ⟨w.heap.size, 0, none⟩ = some (.string ⟨f.name.toArray⟩) ∧ w'.cell? ⟨w.heap.size, 1, none⟩ = some (.slice pp f.params.length cp) ∧ w'.cell? ⟨w.heap.size, 2, none⟩ = some (.int .i64 f.result) ∧ w'.cell? ⟨w.heap.size, 3, none⟩ = some (.slice pb f.body.length cb) ∧ w'.cell? ⟨w.heap.size, 4, none⟩ = some (.int .i64 f.count)) (by kernel_rfl) (by kernel_rfl) no_out ⟨yp, s2, s3, y0, y1, y2, y3, y4⟩ (fun hHeld => ?_)
            refine wpAnyH_take (i := 0) (v := ?_) (by simp only [List.getElem?_toArray, List.getElem?_cons_succ, List.getElem?_cons_zero]; rfl) (by kernel_rfl) (by kernel_rfl) (by kernel_rfl) (by exact fun _ _ _ h => h) (Or.inl ⟨by rfl, ?_⟩) (by assumption) ?_
            rotate_left 1
            · ((intro w hSw; (try dsimp only at hSw); go_simp) <;> with_reducible rfl)
            try simp only [Act.put, List.setIfInBounds_toArray, List.set_cons_zero, List.set_cons_succ]
            refine wpAnyH_take (i := 1) (v := ?_) (by simp only [List.getElem?_toArray, List.getElem?_cons_succ, List.getElem?_cons_zero]; rfl) (by kernel_rfl) (by kernel_rfl) (by kernel_rfl) (by exact fun _ _ _ h => h) (Or.inl ⟨by rfl, ?_⟩) (by assumption) ?_
            rotate_left 1
            · ((intro w hSw; (try dsimp only at hSw); go_simp) <;> with_reducible rfl)
            try simp only [Act.put, List.setIfInBounds_toArray, List.set_cons_zero, List.set_cons_succ]
            refine wpAnyH_take (i := 2) (v := ?_) (by simp only [List.getElem?_toArray, List.getElem?_cons_succ, List.getElem?_cons_zero]; rfl) (by kernel_rfl) (by kernel_rfl) (by kernel_rfl) (by exact fun _ _ _ h => h) (Or.inl ⟨by rfl, ?_⟩) (by assumption) ?_
            rotate_left 1
            · ((intro w hSw; (try dsimp only at hSw); go_simp) <;> with_reducible rfl)
            try simp only [Act.put, List.setIfInBounds_toArray, List.set_cons_zero, List.set_cons_succ]
            refine wpAnyH_take (i := 3) (v := ?_) (by simp only [List.getElem?_toArray, List.getElem?_cons_succ, List.getElem?_cons_zero]; rfl) (by kernel_rfl) (by kernel_rfl) (by kernel_rfl) (by exact fun _ _ _ h => h) (Or.inl ⟨by rfl, ?_⟩) (by assumption) ?_
            rotate_left 1
            · ((intro w hSw; (try dsimp only at hSw); go_simp) <;> with_reducible rfl)
            try simp only [Act.put, List.setIfInBounds_toArray, List.set_cons_zero, List.set_cons_succ]
            refine wpAnyH_take (i := 4) (v := ?_) (by simp only [List.getElem?_toArray, List.getElem?_cons_succ, List.getElem?_cons_zero]; rfl) (by kernel_rfl) (by kernel_rfl) (by kernel_rfl) (by exact fun _ _ _ h => h) (Or.inl ⟨by rfl, ?_⟩) (by assumption) ?_
            rotate_left 1
            · ((intro w hSw; (try dsimp only at hSw); go_simp) <;> with_reducible rfl)
            try simp only [Act.put, List.setIfInBounds_toArray, List.set_cons_zero, List.set_cons_succ]
            refine wpAnyH_take (i := 5) (v := ?_) (by simp only [List.getElem?_toArray, List.getElem?_cons_succ, List.getElem?_cons_zero]; rfl) (by kernel_rfl) (by kernel_rfl) (by kernel_rfl) (by exact fun _ _ _ h => h) (Or.inl ⟨by rfl, ?_⟩) (by assumption) ?_
            rotate_left 1
            · ((intro w hSw; (try dsimp only at hSw); go_simp) <;> with_reducible rfl)
            try simp only [Act.put, List.setIfInBounds_toArray, List.set_cons_zero, List.set_cons_succ]
            refine wpAnyH_take (i := 6) (v := ?_) (by simp only [List.getElem?_toArray, List.getElem?_cons_succ, List.getElem?_cons_zero]; rfl) (by kernel_rfl) (by kernel_rfl) (by kernel_rfl) (by exact fun _ _ _ h => h) (Or.inl ⟨by rfl, ?_⟩) (by assumption) ?_
            rotate_left 1
            · ((intro w hSw; (try dsimp only at hSw); go_simp) <;> with_reducible rfl)
            try simp only [Act.put, List.setIfInBounds_toArray, List.set_cons_zero, List.set_cons_succ]
            refine wpAnyH_take (i := 7) (v := ?_) (by simp only [List.getElem?_toArray, List.getElem?_cons_succ, List.getElem?_cons_zero]; rfl) (by kernel_rfl) (by kernel_rfl) (by kernel_rfl) (by exact fun _ _ _ h => h) (Or.inl ⟨by rfl, ?_⟩) (by assumption) ?_
            rotate_left 1
            · ((intro w hSw; (try dsimp only at hSw); go_simp) <;> with_reducible rfl)
            try simp only [Act.put, List.setIfInBounds_toArray, List.set_cons_zero, List.set_cons_succ]
            refine wpAnyH_take (i := 8) (v := ?_) (by simp only [List.getElem?_toArray, List.getElem?_cons_succ, List.getElem?_cons_zero]; rfl) (by kernel_rfl) (by kernel_rfl) (by kernel_rfl) (by exact fun _ _ _ h => h) (Or.inl ⟨by rfl, ?_⟩) (by assumption) ?_
            rotate_left 1
            · ((intro w hSw; (try dsimp only at hSw); go_simp) <;> with_reducible rfl)
            try simp only [Act.put, List.setIfInBounds_toArray, List.set_cons_zero, List.set_cons_succ]
            refine wpAnyH_take (i := 9) (v := ?_) (by simp only [List.getElem?_toArray, List.getElem?_cons_succ, List.getElem?_cons_zero]; rfl) (by kernel_rfl) (by kernel_rfl) (by kernel_rfl) (by exact fun _ _ _ h => h) (Or.inl ⟨by rfl, ?_⟩) (by assumption) ?_
            rotate_left 1
            · ((intro w hSw; (try dsimp only at hSw); go_simp) <;> with_reducible rfl)
            try simp only [Act.put, List.setIfInBounds_toArray, List.set_cons_zero, List.set_cons_succ]
            refine wpAnyH_ready (rs := [10]) (by kernel_rfl) (by simp) ?_
            refine AllReadyH.cons rfl (fun K hK => ?_) AllReadyH.nil
            go_simp
            refine HEND.out.mono ?_
            rintro r V2 ⟨rfl, hb⟩
            have hbw : Below W.heap.size W V2 := (bl W).dr.tr hb
            have HB2' := hide hbw
            have HO2 := hide (HO.out.below hbw)
            have HBX2 : Hid (V2.heap[b]? = some (.cells #[.int .i64 s.kind, .int .i64 s.no, .string ⟨s.name.toArray⟩, .int .i64 s.typ, .string ⟨s.callee.toArray⟩, .slice pa s.args.length ca, .slice qb s.body.length db, .slice pe s.els.length ce] 62 (0, 0))) := hide ((hbw.block _ hbl).trans HBX.out)
            have HADD := hide (add_any (stV f s) (w1.heap.size + 2 + 1) (w1.heap.size + 1) w1.heap.size acc ow V2 HO2.out.sc HVW.out (by have := h50'.out; omega))
            simp only [Vr.val, stV] at HADD
            clear hb hbw
            refine hK.out _ _ ?_ (fun hHeld => ?_)
            · exact ⟨cell_at HO2.out.p rfl, cell_at HBX2.out rfl, cell_at HBX2.out rfl, cell_at HO2.out.fb rfl, cell_at HO2.out.fb rfl, cell_at HO2.out.fb rfl, cell_at HO2.out.fb rfl, cell_at HO2.out.fb rfl⟩
            clear hK K
            try simp only [Act.put, List.setIfInBounds_toArray, List.set_cons_zero, List.set_cons_succ]
            refine wpAnyH_take (i := 11) (v := ?_) (by simp only [List.getElem?_toArray, List.getElem?_cons_succ, List.getElem?_cons_zero]; rfl) (by kernel_rfl) (by kernel_rfl) (by kernel_rfl) (by exact fun _ _ _ h => h) (Or.inl ⟨by rfl, ?_⟩) (by assumption) ?_
            rotate_left 1
            · ((intro w hSw; (try dsimp only at hSw); go_simp) <;> with_reducible rfl)
            try simp only [Act.put, List.setIfInBounds_toArray, List.set_cons_zero, List.set_cons_succ]
            refine wpAnyH_ready (rs := [12]) (by kernel_rfl) (by simp) ?_
            refine AllReadyH.cons rfl (fun K hK => ?_) AllReadyH.nil
            go_simp
            refine HADD.out.mono ?_
            rintro r V3 (⟨hq, rfl, hb3⟩ | ⟨hq, hq50, rfl, hb3⟩ | ⟨hq, hq50, rfl, ow', hsc, hmv⟩)
            · have HFX : Hid (∀ rest : List St, goV [] (ps ++ (((pre ++ [s]) ++ rest).filter isVar).map (stV f)) = ([], s.no, 11)) := hide fun rest => by
                rw [List.append_assoc, List.singleton_append, HGO.out (s :: rest), List.filter_cons_of_pos HVAR.out, List.map_cons]
                exact goV_dup hq
              have HO3 := hide (HO2.out.below hb3)
              have hbx3 := (hb3.block _ (Array.getElem?_eq_some_iff.1 HBX2.out).1).trans HBX2.out
              have HB3 := hide (HB2'.out.tr hb3)
              refine hK.out _ _ ⟨cell_at HO3.out.p rfl, cell_at hbx3 rfl, cell_at hbx3 rfl, cell_at HO3.out.fb rfl, cell_at HO3.out.fb rfl, cell_at HO3.out.fb rfl, cell_at HO3.out.fb rfl, cell_at HO3.out.fb rfl⟩ (fun hHeld => ?_)
              clear hK K
              try simp only [Act.put, List.setIfInBounds_toArray, List.set_cons_zero, List.set_cons_succ]
              refine wpAnyH_take (i := 13) (v := ?_) (by simp only [List.getElem?_toArray, List.getElem?_cons_succ, List.getElem?_cons_zero]; rfl) (by kernel_rfl) (by kernel_rfl) (by kernel_rfl) (by exact fun _ _ _ h => h) (Or.inl ⟨by rfl, ?_⟩) (by assumption) ?_
              rotate_left 1
              · ((intro w hSw; (try dsimp only at hSw); go_simp) <;> with_reducible rfl)
              try simp only [Act.put, List.setIfInBounds_toArray, List.set_cons_zero, List.set_cons_succ]
              refine wpAnyH_done (by kernel_rfl) ?_ _
              clear hbx3 hb3 hq
              obtain ⟨d1, d2, d3, g1, g2, g3, g4⟩ := HO3.out.cells
              obtain ⟨ho4, hm4⟩ := HO3.out.res none 0 0 s.no 11
              have HFIN := hide (⟨_, (Mv.st HB3.out).tr hm4, rfl, acc, ow, s.no, 11, rfl, ho4, HFX.out⟩ : ∃ L', Mv _ W L' _ ∧ OfX f #[.string ⟨f.name.toArray⟩, .slice pp f.params.length cp, .int .i64 f.result, .slice pb f.body.length cb, .int .i64 f.count] w.heap.size (w1.heap.size + 1) w1.heap.size (w1.heap.size + 2) ps .ret (pre ++ [s]) L' _)
              clear ho4 hm4
              gi_wp2
              exact HFIN.out
            · have HFX : Hid (∀ rest : List St, goV [] (ps ++ (((pre ++ [s]) ++ rest).filter isVar).map (stV f)) = ([], s.no, 10)) := hide fun rest => by
                rw [List.append_assoc, List.singleton_append, HGO.out (s :: rest), List.filter_cons_of_pos HVAR.out, List.map_cons]
                exact goV_many hq hq50
              have HO3 := hide (HO2.out.below hb3)
              have hbx3 := (hb3.block _ (Array.getElem?_eq_some_iff.1 HBX2.out).1).trans HBX2.out
              have HB3 := hide (HB2'.out.tr hb3)
              refine hK.out _ _ ⟨cell_at HO3.out.p rfl, cell_at hbx3 rfl, cell_at hbx3 rfl, cell_at HO3.out.fb rfl, cell_at HO3.out.fb rfl, cell_at HO3.out.fb rfl, cell_at HO3.out.fb rfl, cell_at HO3.out.fb rfl⟩ (fun hHeld => ?_)
              clear hK K
              try simp only [Act.put, List.setIfInBounds_toArray, List.set_cons_zero, List.set_cons_succ]
              refine wpAnyH_take (i := 13) (v := ?_) (by simp only [List.getElem?_toArray, List.getElem?_cons_succ, List.getElem?_cons_zero]; rfl) (by kernel_rfl) (by kernel_rfl) (by kernel_rfl) (by exact fun _ _ _ h => h) (Or.inl ⟨by rfl, ?_⟩) (by assumption) ?_
              rotate_left 1
              · ((intro w hSw; (try dsimp only at hSw); go_simp) <;> with_reducible rfl)
              try simp only [Act.put, List.setIfInBounds_toArray, List.set_cons_zero, List.set_cons_succ]
              refine wpAnyH_done (by kernel_rfl) ?_ _
              clear hbx3 hb3 hq
              obtain ⟨d1, d2, d3, g1, g2, g3, g4⟩ := HO3.out.cells
              obtain ⟨ho4, hm4⟩ := HO3.out.res none 0 0 s.no 10
              have HFIN := hide (⟨_, (Mv.st HB3.out).tr hm4, rfl, acc, ow, s.no, 10, rfl, ho4, HFX.out⟩ : ∃ L', Mv _ W L' _ ∧ OfX f #[.string ⟨f.name.toArray⟩, .slice pp f.params.length cp, .int .i64 f.result, .slice pb f.body.length cb, .int .i64 f.count] w.heap.size (w1.heap.size + 1) w1.heap.size (w1.heap.size + 2) ps .ret (pre ++ [s]) L' _)
              clear ho4 hm4
              gi_wp2
              exact HFIN.out
            · have HFX : Hid (∀ rest : List St, goV [] (ps ++ (((pre ++ [s]) ++ rest).filter isVar).map (stV f)) = goV (acc ++ [stV f s]) ((rest.filter isVar).map (stV f))) := hide fun rest => by
                rw [List.append_assoc, List.singleton_append, HGO.out (s :: rest), List.filter_cons_of_pos HVAR.out, List.map_cons]
                exact goV_ok hq hq50
              have HLE : Hid ((acc ++ [stV f s]).length ≤ 50) := hide (by simp; omega)
              obtain ⟨ho3, hm3⟩ := HO2.out.added hsc hmv
              have hbx3 := hmv.kept.heap (fun h => hbL (List.mem_cons_of_mem _ (List.mem_cons_of_mem _ (List.mem_cons_of_mem _ h)))) HBX2.out
              have HMV := hide ((Mv.st HB2'.out).tr hm3)
              have HO3 := hide ho3
              refine hK.out _ _ ⟨cell_at HO3.out.p rfl, cell_at hbx3 rfl, cell_at hbx3 rfl, cell_at HO3.out.fb rfl, cell_at HO3.out.fb rfl, cell_at HO3.out.fb rfl, cell_at HO3.out.fb rfl, cell_at HO3.out.fb rfl⟩ (fun hHeld => ?_)
              clear hK K
              try simp only [Act.put, List.setIfInBounds_toArray, List.set_cons_zero, List.set_cons_succ]
              refine wpAnyH_take (i := 13) (v := ?_) (by simp only [List.getElem?_toArray, List.getElem?_cons_succ, List.getElem?_cons_zero]; rfl) (by kernel_rfl) (by kernel_rfl) (by kernel_rfl) (by exact fun _ _ _ h => h) (Or.inl ⟨by rfl, ?_⟩) (by assumption) ?_
              rotate_left 1
              · ((intro w hSw; (try dsimp only at hSw); go_simp) <;> with_reducible rfl)
              try simp only [Act.put, List.setIfInBounds_toArray, List.set_cons_zero, List.set_cons_succ]
              refine wpAnyH_done (by kernel_rfl) ?_ _
              clear hbx3 ho3 hm3 hsc hmv hq hq50
              gi_wp2
              exact ⟨_, HMV.out, _, ow', rfl, HO3.out, HLE.out, HFX.out⟩
        case done =>
          intro D L W3 hD hDL hmv hI hDf
          have HRB := hide (hmv.kept.below HB2.out (fun g hg => HGE.out g hg))
          obtain ⟨acc3, ow3, rfl, ho3, h503, hgo3⟩ := hI
          have hN : namesM f = (acc3, 0, 0) := by
            have h1 := hgo3 []
            simp only [List.append_nil, List.filter_nil, List.map_nil] at h1
            rw [hNM.out, h1]
            rfl
          obtain ⟨va, vc, hc1, hc2, hc3⟩ := ho3.sc.cells
          have s0 := cell_at (j := 0) hc1 rfl
          have yp : W3.cell? ⟨w1.heap.size + 1 + 1, 0, none⟩ = some (.pointer (some ⟨w1.heap.size + 1, 0, none⟩)) := cell_at ho3.p rfl
          obtain ⟨ho4, hm4⟩ := ho3.res va acc3.length vc 0 0
          obtain ⟨d1, d2, d3, g1, g2, g3, g4⟩ := ho3.cells
          obtain ⟨hdf4, _⟩ := hm4.heap hDL hDf
          have ho5 := ho4.own (grownBy_putObj' _ D (.deferred none)) (fun k e => by cases e; exact ⟨hDL, _, hdf4, rfl⟩)
          obtain ⟨e1, e2, e3, _⟩ := ho5.cells
          have HP : Hid (OfPost f w (.returned (.tuple #[.slice va acc3.length vc, .int .i64 0, .int .i64 0])) (((((W3.setCell ⟨w.heap.size + 1, 0, none⟩ (.slice va acc3.length vc)).setCell ⟨w.heap.size + 1 + 1, 0, none⟩ (.int .i64 0)).setCell ⟨w.heap.size + 1 + 1 + 1, 0, none⟩ (.int .i64 0))).putObj D (.deferred none))) := hide (by
            refine ⟨?_, ?_⟩
            · have hk : Kept [w.heap.size + 1, w.heap.size + 2, w.heap.size + 3, D] W3 (((((W3.setCell ⟨w.heap.size + 1, 0, none⟩ (.slice va acc3.length vc)).setCell ⟨w.heap.size + 1 + 1, 0, none⟩ (.int .i64 0)).setCell ⟨w.heap.size + 1 + 1 + 1, 0, none⟩ (.int .i64 0))).putObj D (.deferred none)) :=
                kept_put ((((Kept.refl _ W3).set (.inl (by simp)) _ _).set (.inl (by simp)) _ _).set (.inl (by simp)) _ _) D _ (.inl (by simp))
              have hlt := ho3.sc.lt
              obtain ⟨a5, c5, e5, hv5⟩ := (ownV_kept hc2 hk (fun g hg => by
                have hgo : g ∈ ow3 := by rw [← hc3]; exact hg
                have := (hlt g hgo).1
                simp only [List.mem_cons, List.not_mem_nil, or_false]
                rintro (h | h | h | h)
                · omega
                · omega
                · omega
                · exact hDL (by rw [← h]; simp [hgo]))).vrs
              rw [hN]
              cases e5
              exact ⟨_, _, rfl, hv5⟩
            · exact (kept_put (kept_below (l := []) (hm4.kept.below HRB.out (fun g hg => (hmv.sub g hg).elim (HGE.out g) (fun e => by omega)))) D _ (.inr (by omega))).nil)
          have HDF := hide hdf4
          clear hDf hmv hc1 hc2 hc3 ho3 ho4 hm4 ho5 hdf4 hN hgo3
          gi_wp2_with fail
          refine ⟨by simp, .inl ⟨_, _, rfl, run_takeDeferred HDF.out, ?_⟩⟩
          refine ⟨_, ?_, HP.out⟩
          simp [results, Tryd.f19, go_sem, e1, e2, e3]
        case stop =>
          intro D c pre L W3 hD hDL hmv hpre hI hDf
          have HRB := hide (hmv.kept.below HB2.out (fun g hg => HGE.out g hg))
          obtain ⟨rfl, acc3, ow3, no3, e3, rfl, ho3, hgo3⟩ := hI
          have hN : namesM f = ([], no3, e3) := by
            obtain ⟨r, hr⟩ := hpre
            rw [hNM.out, ← hr]
            exact hgo3 r
          have ho5 := ho3.own (grownBy_putObj' _ D (.deferred none)) (fun k e => by cases e; exact ⟨hDL, _, hDf, rfl⟩)
          obtain ⟨e1, e2, e4, _⟩ := ho5.cells
          have HP : Hid (OfPost f w (.returned (.tuple #[.slice none 0 0, .int .i64 no3, .int .i64 e3])) (W3.putObj D (.deferred none))) := hide (by
            refine ⟨⟨none, 0, by rw [hN]; rfl, by rw [hN]; exact ⟨Nat.le_refl _, Nat.zero_le _, by simp, by simp, fun b o e => by cases e⟩⟩, ?_⟩
            exact (kept_put (kept_below (l := []) HRB.out) D _ (.inr (by omega))).nil)
          have HDF := hide hDf
          clear hDf hmv ho3 ho5 hN hgo3
          gi_wp2_with fail
          refine ⟨by simp, .inl ⟨_, _, rfl, run_takeDeferred HDF.out, ?_⟩⟩
          refine ⟨_, ?_, HP.out⟩
          simp [results, Tryd.f19, go_sem, e1, e2, e4]
  · have hck2 : checkM [f] = 2 := check_two hck
    have hN : namesM f = ([], 0, 2) := by rw [namesM, if_neg hck]
    rw [hck2] at HC
    clear hck hck2
    have HP : Hid (∀ w', Below w.heap.size w w' → OfPost f w (.returned (.tuple #[.slice none 0 0, .int .i64 0, .int .i64 2])) w') := hide (fun w' hb => by
      refine ⟨⟨none, 0, by rw [hN]; rfl, by rw [hN]; exact ⟨Nat.le_refl _, Nat.zero_le _, by simp, by simp, fun b o e => by cases e⟩⟩, hb⟩)
    clear hN
    refine (callsIn_wide (n := 9)).1 ?_
    refine callsIn_of_wp_marks Tryd.func19 rfl trivial ?_ rfl
    simp only [Tryd.ntmps19, List.size_toArray, List.length_cons, List.length_nil, Nat.reduceAdd, Nat.reduceSub, Array.replicate_succ, Array.replicate_zero, List.push_toArray, List.append_toArray, List.nil_append, List.cons_append]
    gi_wp2_with fail
    refine ⟨trivial, ?_⟩
    refine (callsIn_wide.2 (HC.out _ _ (by simp) ((((bl w).al _).al _).al _ |>.al _))).mono ?_
    rintro r w1 ⟨rfl, hb⟩
    have hs1 : w.heap.size + 5 ≤ w1.heap.size := by have := hb.size; simp at this; omega
    have hb1 : Below w.heap.size w w1 := ((((bl w).al _).al _).al _ |>.al _ |>.al _).tr hb
    have x1 : w1.heap[w.heap.size + 1]? = some (.cells #[.slice none 0 0] 22 (0, 0)) := by
      rw [hb.block _ (by simp <;> omega), Below.heap_alloc _ _ _ (by simp <;> omega), Below.heap_alloc _ _ _ (by simp <;> omega), Below.heap_alloc _ _ _ (by simp <;> omega)]
      have := heap_alloc_new (w.alloc (.cells #[.string ⟨f.name.toArray⟩, .slice pp f.params.length cp, .int .i64 f.result, .slice pb f.body.length cb, .int .i64 f.count] 42)) (.cells #[.slice none 0 0] 22)
      simpa using this
    have x2 : w1.heap[w.heap.size + 1 + 1]? = some (.cells #[.int .i64 0] 3 (0, 0)) := by
      rw [hb.block _ (by simp <;> omega), Below.heap_alloc _ _ _ (by simp <;> omega), Below.heap_alloc _ _ _ (by simp <;> omega)]
      have := heap_alloc_new ((w.alloc (.cells #[.string ⟨f.name.toArray⟩, .slice pp f.params.length cp, .int .i64 f.result, .slice pb f.body.length cb, .int .i64 f.count] 42)).alloc (.cells #[.slice none 0 0] 22)) (.cells #[.int .i64 0] 3)
      simpa using this
    have x3 : w1.heap[w.heap.size + 1 + 1 + 1]? = some (.cells #[.int .i64 0] 44 (0, 0)) := by
      rw [hb.block _ (by simp <;> omega), Below.heap_alloc _ _ _ (by simp <;> omega)]
      have := heap_alloc_new (((w.alloc (.cells #[.string ⟨f.name.toArray⟩, .slice pp f.params.length cp, .int .i64 f.result, .slice pb f.body.length cb, .int .i64 f.count] 42)).alloc (.cells #[.slice none 0 0] 22)).alloc (.cells #[.int .i64 0] 3)) (.cells #[.int .i64 0] 44)
      simpa using this
    have d1 := cell_at (j := 0) x1 rfl
    have d2 := cell_at (j := 0) x2 rfl
    have d3 := cell_at (j := 0) x3 rfl
    have g1 := free_at (j := 0) x1
    have g2 := free_at (j := 0) x2
    have g3 := free_at (j := 0) x3
    have z1 : ((((w1.setCell ⟨w.heap.size + 1, 0, none⟩ (.slice none 0 0)).setCell ⟨w.heap.size + 1 + 1, 0, none⟩ (.int .i64 0)).setCell ⟨w.heap.size + 1 + 1 + 1, 0, none⟩ (.int .i64 2))).cell? ⟨w.heap.size + 1, 0, none⟩ = some (.slice none 0 0) :=
      cell_at (j := 0) ((Below.heap_setCell _ ⟨w.heap.size + 1 + 1 + 1, 0, none⟩ _ (w.heap.size + 1) (by simp only; omega)).trans ((Below.heap_setCell _ ⟨w.heap.size + 1 + 1, 0, none⟩ _ (w.heap.size + 1) (by simp only; omega)).trans (heap_set (i := 0) x1 _))) rfl
    have z2 : ((((w1.setCell ⟨w.heap.size + 1, 0, none⟩ (.slice none 0 0)).setCell ⟨w.heap.size + 1 + 1, 0, none⟩ (.int .i64 0)).setCell ⟨w.heap.size + 1 + 1 + 1, 0, none⟩ (.int .i64 2))).cell? ⟨w.heap.size + 1 + 1, 0, none⟩ = some (.int .i64 0) :=
      cell_at (j := 0) ((Below.heap_setCell _ ⟨w.heap.size + 1 + 1 + 1, 0, none⟩ _ (w.heap.size + 1 + 1) (by simp only; omega)).trans (heap_set (i := 0) ((Below.heap_setCell _ ⟨w.heap.size + 1, 0, none⟩ _ (w.heap.size + 1 + 1) (by simp only; omega)).trans x2) _)) rfl
    have z3 : ((((w1.setCell ⟨w.heap.size + 1, 0, none⟩ (.slice none 0 0)).setCell ⟨w.heap.size + 1 + 1, 0, none⟩ (.int .i64 0)).setCell ⟨w.heap.size + 1 + 1 + 1, 0, none⟩ (.int .i64 2))).cell? ⟨w.heap.size + 1 + 1 + 1, 0, none⟩ = some (.int .i64 2) :=
      cell_at (j := 0) (heap_set (i := 0) ((Below.heap_setCell _ ⟨w.heap.size + 1 + 1, 0, none⟩ _ (w.heap.size + 1 + 1 + 1) (by simp only; omega)).trans ((Below.heap_setCell _ ⟨w.heap.size + 1, 0, none⟩ _ (w.heap.size + 1 + 1 + 1) (by simp only; omega)).trans x3)) _) rfl
    have HP2 := hide (HP.out _ (((hb1.setCell (by simp) (.slice none 0 0) : Below w.heap.size w (w1.setCell ⟨w.heap.size + 1, 0, none⟩ (.slice none 0 0))).setCell (by simp only; omega) (.int .i64 0) : Below w.heap.size w ((w1.setCell ⟨w.heap.size + 1, 0, none⟩ (.slice none 0 0)).setCell ⟨w.heap.size + 1 + 1, 0, none⟩ (.int .i64 0))).setCell (by simp only; omega) (.int .i64 2) : Below w.heap.size w (((w1.setCell ⟨w.heap.size + 1, 0, none⟩ (.slice none 0 0)).setCell ⟨w.heap.size + 1 + 1, 0, none⟩ (.int .i64 0)).setCell ⟨w.heap.size + 1 + 1 + 1, 0, none⟩ (.int .i64 2))))
    clear hb hb1 x1 x2 x3
    gi_wp2_with fail
    refine ⟨_, ?_, HP2.out⟩
    simp [results, Tryd.f19, go_sem, z1, z2, z3]
end Go.Proofs.YtccgpmncpemmdaaDoor
