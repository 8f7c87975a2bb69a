/- points.places, points.find: where a statement stands. -/
import Derived.Test.YtccgpmncpemmdaaDoorPtV
import Derived.Test.YtccgpmncpemmdaaDoorSpG
import Derived.Test.YtccgpmncpemmdaaDoorLwN
namespace Go.Proofs.YtccgpmncpemmdaaDoor
open Go Go.RowKit Go.Shelf
set_option linter.unusedSimpArgs false
set_option linter.unusedVariables false
set_option linter.unnecessarySimpa false
attribute [local go_sem] Oper.semAt_some
theorem has_grown {W W' : World} {row : Option Nat} (hg : W.grownBy W' row) (hr : ∀ r, row = some r → ∃ o : Obj, W.heap[r]? = some o ∧ o.isCells = false) : Has W W' := fun _ _ _ h => cell_kept h hg hr
theorem has_av_grown {L : List Nat} {W W' : World} {row : Option Nat} (hg : W.grownBy W' row) (hr : ∀ r, row = some r → ∃ o : Obj, W.heap[r]? = some o ∧ o.isCells = false) : Has (av L W) (av L W') := fun _ _ _ h => by
  obtain ⟨h1, h2⟩ := av_cell.1 h
  exact av_cell.2 ⟨h1, cell_kept h2 hg hr⟩
theorem heap_grown {W W' : World} {row : Option Nat} (hg : W.grownBy W' row) (hr : ∀ r, row = some r → ∃ o : Obj, W.heap[r]? = some o ∧ o.isCells = false) {k : Nat} {C : Array Value} {t : TypeId} {z : Nat × Nat} (h : W.heap[k]? = some (.cells C t z)) : W'.heap[k]? = some (.cells C t z) :=
  (grownBy_keeps_cells hg hr h rfl).trans h
/-- What is yielded of a place. -/
def OfP (q : List Lv) (args : Array Value) (W : World) : Prop := ∃ b, args = #[.pointer (some ⟨b, 0, none⟩)] ∧ ChAt W q (some b)
theorem OfP.has {q : List Lv} {args : Array Value} {W W' : World} (hh : Has W W') (h : OfP q args W) : OfP q args W' := by
  obtain ⟨b, h1, h2⟩ := h
  exact ⟨b, h1, h2.has hh⟩
set_option maxHeartbeats 1000000 in
theorem right_any (f : Fn) (v : Value) (w : World) (hv : f.Val w v) (hT : Tab w) : Calls Tryd.prog 46 #[v] w fun r w' => r = .returned (.bool (decide (checkM [f] = 0))) ∧ Below w.heap.size w w' := by
  obtain ⟨pp, pb, cp, cb, rfl, hw, hp, hr⟩ := hv
  have hc := fun (W : World) (n : Nat) (h : n = W.heap.size) (hb : Below w.heap.size w W) => check_any [f] (some ⟨n, 0, none⟩) 1 (W.alloc (.cells #[.string ⟨f.name.toArray⟩, .slice pp f.params.length cp, .int .i64 f.result, .slice pb f.body.length cb, .int .i64 f.count] 42))
    (fns_new (cut5 (⟨pp, pb, cp, cb, rfl, hw, hp.has (has_below hb), hr.has (has_below hb)⟩ : FnC W f _) cutN) 42 n 1 h (by simp) (by unfold maxLen; omega)) ((hT.below hb).below ((bl W).al _))
  have HC := hide hc
  clear hw hp hr hT hc
  have hcases : checkM [f] = 0 ∨ checkM [f] = 2 := by unfold checkM; split <;> simp
  rcases hcases with h | h
  all_goals
    rw [h] at HC ⊢
    clear h
    go_enter Tryd.func46, Tryd.ntmps46
    go_wp2_with fail
    refine (HC.out _ _ (by simp) ((bl w).al _)).mono ?_
    rintro r w1 ⟨rfl, hb⟩
    go_wp2_with fail
    go_ret
    exact ⟨by simp, (((bl w).al _).al _).tr hb⟩
set_option maxHeartbeats 1000000 in
theorem places_any (v0 v2 v4 : Value) (a b : Option Addr) (n m c d : Nat) (s : ByteArray) (r k : Int) (w : World) : Calls Tryd.prog 47 #[.agg #[.string s, .slice a n c, .int .i64 r, .slice b m d, .int .i64 k]] w fun e w' => e = .returned (.func (.func 55) #[] #[.pointer (some ⟨w.heap.size, 0, none⟩)]) ∧ w' = w.alloc (.cells #[.string s, .slice a n c, .int .i64 r, .slice b m d, .int .i64 k] 42) := by
  go_enter Tryd.func47, Tryd.ntmps47
  go_wp2_with fail
  go_ret
  exact ⟨rfl, rfl⟩
set_option maxHeartbeats 1000000 in
/-- What places returns yields the places of a function's body. -/
theorem places_seq (l : List St) (a : Option Addr) (cap fb : Nat) (L0 : List Nat) (w : World) (hl : l.length ≤ cap) (hc : cap ≤ maxLen) (hr : St.Row (av L0 w) l a) (hfb : w.cell? ⟨fb, 3, none⟩ = some (.slice a l.length cap)) (hfL : fb ∉ L0) :
    SeqO 55 #[.pointer (some ⟨fb, 0, none⟩)] OfP (plsL l []) L0 w := by
  intro lp J Jx L1 W hmv hJ hJx hY hj
  have hlt := cell_lt hfb
  simp only at hlt
  have c3 := (Kept.cell hmv.kept hfL hfb)
  have hV := hide (visit_any lp _ J Jx hJ hJx (plsL l []) (fun pre q b L V hj hch hp m => hY pre q _ L V hj ⟨b, rfl, hch⟩ hp m) (cntL l) l a cap [] none [] L1 W (Nat.le_refl _) hl hc (hr.has hmv.has) rfl (by simp) hj)
  have hlt2 := Nat.lt_of_lt_of_le hlt hmv.kept.size
  clear hr hJ hJx hY hj hmv hfb
  show Calls Tryd.prog 55 #[.func (.yield lp) #[] #[], .pointer (some ⟨fb, 0, none⟩)] W _
  refine (callsIn_wide (n := 9)).1 ?_
  refine callsIn_of_wp Tryd.func55 rfl trivial ?_ rfl
  simp only [Tryd.ntmps55, List.size_toArray, List.length_cons, List.length_nil, Nat.reduceAdd, Nat.reduceSub, Array.replicate_succ, Array.replicate_zero, List.push_toArray, List.append_toArray, List.nil_append, List.cons_append]
  gi_wp2_with fail
  refine ⟨trivial, ?_⟩
  refine (callsIn_wide.2 hV.out).mono ?_
  rintro e W' ⟨L', hm, hor⟩
  have HM := hide hm
  clear hm
  rcases hor with ⟨rfl, hj⟩ | ⟨rfl, q, hq, hx⟩
  · have HP : Hid ((∃ v, Ending.returned (.tuple #[]) = .returned v) ∧ ∃ L', Mv L1 W L' W' ∧ (J (plsL l []) L' W' ∨ ∃ pre, pre <+: plsL l [] ∧ Jx pre L' W')) := hide ⟨⟨_, rfl⟩, L', HM.out, .inl (by simpa using hj)⟩
    clear hj
    gi_wp2_with fail
    go_end0
    exact HP.out
  · have HP : Hid ((∃ v, Ending.returned (.tuple #[]) = .returned v) ∧ ∃ L', Mv L1 W L' W' ∧ (J (plsL l []) L' W' ∨ ∃ pre, pre <+: plsL l [] ∧ Jx pre L' W')) := hide ⟨⟨_, rfl⟩, L', HM.out, .inr ⟨q, hq, hx⟩⟩
    clear hq hx
    gi_wp2_with fail
    go_end0
    exact HP.out
/-- The place of the statement with a number. -/
def findP (f : Fn) (no : Int) : Option (List Lv) := (plsL f.body []).find? fun q => decide (plNo q = no)
def FindPost (f : Fn) (no : Int) (w : World) (e : Ending) (w' : World) : Prop :=
  Below w.heap.size w w' ∧ ((checkM [f] ≠ 0 ∧ e = .returned (.tuple #[.pointer none, .int .i64 2])) ∨ (checkM [f] = 0 ∧ findP f no = none ∧ e = .returned (.tuple #[.pointer none, .int .i64 3])) ∨
    (checkM [f] = 0 ∧ ∃ q b, findP f no = some q ∧ e = .returned (.tuple #[.pointer (some ⟨b, 0, none⟩), .int .i64 0]) ∧ ChAt w' q (some b)))
def RP (W : World) (n : Nat) (p : Option Addr) : Prop := W.heap[n]? = some (.cells #[.pointer p] 106 (0, 0))
def RE (W : World) (n : Nat) (e : Int) : Prop := W.heap[n]? = some (.cells #[.int .i64 e] 44 (0, 0))
/-- Between two rounds of find's loop. -/
def FdI (n : Nat) (no : Int) (pre : List (List Lv)) (L : List Nat) (W : World) : Prop :=
  L = [n + 2, n + 3] ∧ (∀ q ∈ pre, plNo q ≠ no) ∧ RP W (n + 2) none ∧ RE W (n + 3) 0 ∧ W.cell? ⟨n + 1, 0, none⟩ = some (.int .i64 no)
/-- Where a round has found it. -/
def FdX (n : Nat) (no : Int) (c : Code) (pre : List (List Lv)) (L : List Nat) (W : World) : Prop :=
  c = .ret ∧ L = [n + 2, n + 3] ∧ RE W (n + 3) 0 ∧ ∃ q pre' b, pre = pre' ++ [q] ∧ (∀ q ∈ pre', plNo q ≠ no) ∧ plNo q = no ∧ RP W (n + 2) (some ⟨b, 0, none⟩) ∧ ChAt (av L W) q (some b)
theorem FdI.inv (n B : Nat) (no : Int) : Inv B (FdI n no) := by
  refine ⟨fun s L W W' row h hg hr => ?_, fun s L W h g hg => ?_⟩
  · obtain ⟨h1, h2, h3, h4, h5⟩ := h
    have hr' : ∀ r, row = some r → ∃ o : Obj, W.heap[r]? = some o ∧ o.isCells = false := fun r e => (hr r e).2.2
    exact ⟨h1, h2, heap_grown hg hr' h3, heap_grown hg hr' h4, cell_kept h5 hg hr'⟩
  · obtain ⟨rfl, h2, h3, h4, h5⟩ := h
    simp only [List.mem_cons, List.not_mem_nil, or_false] at hg
    rcases hg with rfl | rfl
    · exact (Array.getElem?_eq_some_iff.1 h3).1
    · exact (Array.getElem?_eq_some_iff.1 h4).1
theorem FdX.inv (n B : Nat) (no : Int) (c : Code) : Inv B (FdX n no c) := by
  refine ⟨fun s L W W' row h hg hr => ?_, fun s L W h g hg => ?_⟩
  · obtain ⟨h1, h2, h3, q, pre', b, h4, h5, h6, h7, h8⟩ := h
    have hr' : ∀ r, row = some r → ∃ o : Obj, W.heap[r]? = some o ∧ o.isCells = false := fun r e => (hr r e).2.2
    exact ⟨h1, h2, heap_grown hg hr' h3, q, pre', b, h4, h5, h6, heap_grown hg hr' h7, h8.has (has_av_grown hg hr')⟩
  · obtain ⟨h1, rfl, h3, q, pre', b, h4, h5, h6, h7, h8⟩ := h
    simp only [List.mem_cons, List.not_mem_nil, or_false] at hg
    rcases hg with rfl | rfl
    · exact (Array.getElem?_eq_some_iff.1 h7).1
    · exact (Array.getElem?_eq_some_iff.1 h3).1
theorem fd_found {n : Nat} {no : Int} {pre : List (List Lv)} {L : List Nat} {W : World} {q : Lv} {qs : List Lv} {b : Nat} (hI : FdI n no pre L W) (hch : ChAt (av L W) (q :: qs) (some b)) (hn : q.s.no = no) :
    ∀ V, V = ((W.setCell ⟨n + 1 + 1, 0, none⟩ (.pointer (some ⟨b, 0, none⟩))).setCell ⟨n + 1 + 1 + 1, 0, none⟩ (.int .i64 0)).drew → ∃ L', Mv L W L' V ∧ FdX n no .ret (pre ++ [q :: qs]) L' V := by
  rintro V rfl
  obtain ⟨rfl, h2, h3, h4, h5⟩ := hI
  have hk : Kept [n + 2, n + 3] W ((W.setCell ⟨n + 1 + 1, 0, none⟩ (.pointer (some ⟨b, 0, none⟩))).setCell ⟨n + 1 + 1 + 1, 0, none⟩ (.int .i64 0)).drew := (((Kept.refl _ W).set (.inl (by simp)) _ _).set (.inl (by simp)) _ _).dr
  have hm : Mv [n + 2, n + 3] W [n + 2, n + 3] ((W.setCell ⟨n + 1 + 1, 0, none⟩ (.pointer (some ⟨b, 0, none⟩))).setCell ⟨n + 1 + 1 + 1, 0, none⟩ (.int .i64 0)).drew := ⟨hk, fun g hg => .inl hg⟩
  refine ⟨_, hm, rfl, rfl, ?_, q :: qs, pre, b, rfl, h2, hn, ?_, hch.has hm.has⟩
  · exact heap_set (C := #[.int .i64 0]) ((Below.heap_setCell W ⟨n + 1 + 1, 0, none⟩ _ (n + 3) (by simp only; omega)).trans h4) _
  · exact (Below.heap_setCell _ ⟨n + 1 + 1 + 1, 0, none⟩ _ (n + 2) (by simp only; omega)).trans (heap_set (C := #[.pointer none]) h3 _)
theorem fd_next {n : Nat} {no : Int} {pre : List (List Lv)} {L : List Nat} {W : World} {q : Lv} {qs : List Lv} (hI : FdI n no pre L W) (hn : q.s.no ≠ no) : ∃ L', Mv L W L' W.drew ∧ FdI n no (pre ++ [q :: qs]) L' W.drew := by
  obtain ⟨rfl, h2, h3, h4, h5⟩ := hI
  refine ⟨_, ⟨(Kept.refl _ W).dr, fun g hg => .inl hg⟩, rfl, fun p hp => ?_, h3, h4, h5⟩
  rcases List.mem_append.1 hp with hp | hp
  · exact h2 p hp
  · rw [List.mem_singleton] at hp
    subst hp
    exact hn
set_option maxRecDepth 20000 in
set_option maxHeartbeats 4000000 in
theorem find_stmt_any (f : Fn) (v : Value) (no : Int) (w : World) (hv : f.Val w v) (hT : Tab w) : Calls Tryd.prog 57 #[v, .int .i64 no] w (FindPost f no w) := by
  have hR := fun (W : World) (hW : Below w.heap.size w W) => right_any f v W (hv.keep hW (Nat.le_refl _)) (hT.below hW)
  have hv0 := hv
  obtain ⟨pp, pb, cp, cb, rfl, hw, hp, hr⟩ := hv
  have HR := hide hR
  have HRW := hide hr
  have HW := hide hw
  clear hR hv0 hp hr hw hT
  by_cases hc : checkM [f] = 0
  · rw [decide_eq_true hc] at HR
    have HC := hide hc
    clear hc
    refine (callsIn_wide (n := 9)).1 ?_
    refine callsIn_of_wp_marks Tryd.func57 rfl trivial ?_ rfl
    simp only [Tryd.ntmps57, List.size_toArray, List.length_cons, List.length_nil, Nat.reduceAdd, Nat.reduceSub, Array.replicate_succ, Array.replicate_zero, List.push_toArray, List.append_toArray, List.nil_append, List.cons_append]
    gi_wp2_with fail
    refine ⟨trivial, ?_⟩
    refine (callsIn_wide.2 (HR.out _ ((((bl w).al _).al _).al _ |>.al _))).mono ?_
    rintro r w1 ⟨rfl, hb⟩
    have hb1 : Below w.heap.size w w1 := ((((bl w).al _).al _).al _ |>.al _).tr hb
    have x0 : w1.heap[w.heap.size]? = some (.cells #[.string ⟨f.name.toArray⟩, .slice pp f.params.length cp, .int .i64 f.result, .slice pb f.body.length cb, .int .i64 f.count] 42 (0, 0)) := by
      rw [hb.block _ (by simp <;> omega), Below.heap_alloc _ _ _ (by simp <;> omega), Below.heap_alloc _ _ _ (by simp <;> omega), Below.heap_alloc _ _ _ (by simp <;> omega)]
      exact heap_alloc_new w _
    have x1 : w1.heap[w.heap.size + 1]? = some (.cells #[.int .i64 no] 3 (0, 0)) := by
      rw [hb.block _ (by simp <;> omega), Below.heap_alloc _ _ _ (by simp <;> omega), Below.heap_alloc _ _ _ (by simp <;> omega)]
      have := heap_alloc_new (w.alloc (.cells #[.string ⟨f.name.toArray⟩, .slice pp f.params.length cp, .int .i64 f.result, .slice pb f.body.length cb, .int .i64 f.count] 42)) (.cells #[.int .i64 no] 3)
      simpa using this
    have x2 : RP w1 (w.heap.size + 2) none := by
      unfold RP
      rw [hb.block _ (by simp <;> omega), Below.heap_alloc _ _ _ (by simp <;> omega)]
      have := heap_alloc_new ((w.alloc (.cells #[.string ⟨f.name.toArray⟩, .slice pp f.params.length cp, .int .i64 f.result, .slice pb f.body.length cb, .int .i64 f.count] 42)).alloc (.cells #[.int .i64 no] 3)) (.cells #[.pointer none] 106)
      simpa using this
    have x3 : RE w1 (w.heap.size + 3) 0 := by
      unfold RE
      rw [hb.block _ (by simp <;> omega)]
      have := heap_alloc_new (((w.alloc (.cells #[.string ⟨f.name.toArray⟩, .slice pp f.params.length cp, .int .i64 f.result, .slice pb f.body.length cb, .int .i64 f.count] 42)).alloc (.cells #[.int .i64 no] 3)).alloc (.cells #[.pointer none] 106)) (.cells #[.int .i64 0] 44)
      simpa using this
    have hs1 := hb1.size
    have hs14 : w.heap.size + 4 ≤ w1.heap.size := by have := hb.size; simp at this; omega
    have y0 := cell_at (j := 0) x0 rfl
    have y1 := cell_at (j := 1) x0 rfl
    have y2 := cell_at (j := 2) x0 rfl
    have y3 := cell_at (j := 3) x0 rfl
    have y4 := cell_at (j := 4) x0 rfl
    have HB1 := hide hb1
    have X0 := hide x0
    have X1 := hide x1
    have X2 := hide x2
    have X3 := hide x3
    clear hb hb1 x0 x1 x2 x3
    have hlt0 : w.heap.size < w1.heap.size := by omega
    gi_wp2_with fail
    refine ⟨trivial, ?_⟩
    refine (callsIn_wide.2 (places_any undef undef undef _ _ _ _ _ _ _ _ _ _)).mono ?_
    rintro r w2 ⟨rfl, hw2⟩
    have hb2 : Below w1.heap.size w1 w2 := by rw [hw2]; exact (bl w1).al _
    have hz : w2.heap[w1.heap.size]? = some (.cells #[.string ⟨f.name.toArray⟩, .slice pp f.params.length cp, .int .i64 f.result, .slice pb f.body.length cb, .int .i64 f.count] 42 (0, 0)) := by rw [hw2]; exact heap_alloc_new _ _
    have HZ := hide hz
    have HB2 := hide hb2
    clear hz hb2 hw2
    gi_wp2_with fail
    have HSQ : Hid (SeqO 55 #[.pointer (some ⟨w1.heap.size, 0, none⟩)] OfP (plsL f.body []) [w.heap.size + 2, w.heap.size + 3] w2) := hide (by
      refine places_seq f.body pb cb w1.heap.size _ w2 HW.out.lb HW.out.cb (HRW.out.has ?_) (cell_at (j := 3) HZ.out rfl) (by simp; omega)
      exact (has_new (by simp)).tr (has_av_below (HB1.out.tr HB2.out)))
    have HI0 : Hid (FdI w.heap.size no [] [w.heap.size + 2, w.heap.size + 3] w2) := hide (by
      refine ⟨rfl, by simp, ?_, ?_, cell_keep (cell_at (j := 0) X1.out rfl) HB2.out (Nat.le_refl _)⟩
      · exact (HB2.out.block _ (by omega)).trans X2.out
      · exact (HB2.out.block _ (by omega)).trans X3.out)
    have HB0 : Hid (Below w.heap.size w w2) := hide (HB1.out.tr HB2.out)
    clear y0 y1 y2 y3 y4
    refine rangeO (n := 9) (gf := 55) rfl (fun _ _ => by kernel_rfl) HSQ.out (fun _ _ _ _ hh h => h.has hh) (fun _ _ _ h => by obtain ⟨b, rfl, _⟩ := h; rfl) (FdI w.heap.size no) (FdX w.heap.size no) (FdI.inv _ _ _) (fun c => FdX.inv _ _ _ c) HI0.out
      (fun _ args a' _ _ => ∃ b, args = #[.pointer (some ⟨b, 0, none⟩)] ∧ a' = { tmps := #[.agg #[.string ⟨f.name.toArray⟩, .slice pp f.params.length cp, .int .i64 f.result, .slice pb f.body.length cb, .int .i64 f.count], .int .i64 no, .pointer (some ⟨w.heap.size, 0, none⟩), .pointer (some ⟨w.heap.size + 1, 0, none⟩), .pointer (some ⟨w.heap.size + 1 + 1, 0, none⟩), .pointer (some ⟨w.heap.size + 1 + 1 + 1, 0, none⟩), .pointer (some ⟨b, 0, none⟩), .agg #[.string ⟨f.name.toArray⟩, .slice pp f.params.length cp, .int .i64 f.result, .slice pb f.body.length cb, .int .i64 f.count], .bool true, .bool false, .agg #[.string ⟨f.name.toArray⟩, .slice pp f.params.length cp, .int .i64 f.result, .slice pb f.body.length cb, .int .i64 f.count], .func (.func 55) #[] #[.pointer (some ⟨w1.heap.size, 0, none⟩)], .pointer (some ⟨b, 0, none⟩), undef, undef, undef, undef, undef, undef, undef, undef], defers := [] })
      (fun _ _ _ _ _ _ _ _ h _ _ => h) ?assign ?body ?done ?stop
    case assign =>
      intro l pre q args L W K hI hof hp hK
      obtain ⟨b, rfl, hch⟩ := hof
      gi_wp2
      exact hK _ W (Below.refl _ _) ⟨b, rfl, rfl⟩
    case body =>
      intro l pre q args a' L W hl hnl hrec hI hof hax hp
      obtain ⟨b, hargs, hch⟩ := hof
      obtain ⟨b', hargs', rfl⟩ := hax
      rw [hargs] at hargs'
      simp only [Array.mk.injEq, List.cons.injEq, and_true, Value.pointer.injEq, Option.some.injEq, Addr.mk.injEq] at hargs'
      subst hargs'
      subst hargs
      have hI0 := hI
      obtain ⟨rfl, hne, i2, i3, i1⟩ := hI
      have HCH := hide hch
      cases q with
      | nil => simp [ChAt] at hch
      | cons q qs =>
        obtain ⟨b', pp', a', cap', hb', k0, hst, k9, k10, _⟩ := hch
        simp only [Option.some.injEq] at hb'
        subst hb'
        obtain ⟨_, _, _, _, _, _, hcs, _⟩ := hst.val
        have kn := (av_cell.1 hcs.c1).2
        have hbl := cell_lt kn
        simp only at hbl
        have hlL : w.heap.size + 3 < W.heap.size := (Array.getElem?_eq_some_iff.1 i3).1
        have j2 := cell_at (j := 0) i2 rfl
        have j3 := cell_at (j := 0) i3 rfl
        have g2 := free_at (j := 0) i2
        have g3 := free_at (j := 0) i3
        rw [show w.heap.size + 2 = w.heap.size + 1 + 1 from rfl] at j2 g2
        rw [show w.heap.size + 3 = w.heap.size + 1 + 1 + 1 from rfl] at j3 g3
        have HI := hide hI0
        have I2 := hide i2
        have I3 := hide i3
        clear hI0 hcs hst k0 k9 k10 hrec hp i2 i3
        have hmx : Tryd.prog.follows .mixedOrders = true := by kernel_rfl
        by_cases hn : q.s.no = no
        · have hne2 : (q.s.no == no) = true := by simpa using hn
          have HF := hide (fd_found HI.out HCH.out hn)
          rw [hn] at kn
          gi_wp2_with fail
          gi_region_with_o (fail)
          all_goals
            gi_wp2_with fail
            exact HF.out _ rfl
        · have hne2 : (q.s.no == no) = false := by simpa using hn
          have HF := hide (fd_next HI.out hn (qs := qs))
          gi_wp2_with fail
          gi_region_with_o (fail)
          all_goals
            gi_wp2_with fail
            exact HF.out
    case done =>
      intro D L W hD hDL hmv hI hK
      have hs12 := HB2.out.size
      have HFD : Hid (FindPost f no w (.returned (.tuple #[.pointer none, .int .i64 3])) ((W.setCell ⟨w.heap.size + 1 + 1, 0, none⟩ (.pointer none)).setCell ⟨w.heap.size + 1 + 1 + 1, 0, none⟩ (.int .i64 3) |>.putObj D (.deferred none))) := hide (by
        refine ⟨?_, .inr (.inl ⟨HC.out, ?_, rfl⟩)⟩
        · exact (kept_put (((hmv.kept.below HB0.out (by simp)) |> fun h => (kept_below (l := []) h).set (.inr (by omega)) _ _ |>.set (.inr (by omega)) _ _)) D _ (.inr (by have := HB0.out.size; omega))).nil
        · rw [findP, List.find?_eq_none]
          intro q hq
          simpa using hI.2.1 q hq)
      obtain ⟨rfl, hne, i2, i3, i1⟩ := hI
      have j2 := cell_at (j := 0) i2 rfl
      have j3 := cell_at (j := 0) i3 rfl
      have g2 := free_at (j := 0) i2
      have g3 := free_at (j := 0) i3
      rw [show w.heap.size + 2 = w.heap.size + 1 + 1 from rfl] at j2 g2
      rw [show w.heap.size + 3 = w.heap.size + 1 + 1 + 1 from rfl] at j3 g3
      have hlL : w.heap.size + 3 < W.heap.size := (Array.getElem?_eq_some_iff.1 i3).1
      have hDs := (Array.getElem?_eq_some_iff.1 hK).1
      have hw2s := HB0.out.size
      have hK' : ((W.setCell ⟨w.heap.size + 1 + 1, 0, none⟩ (.pointer none)).setCell ⟨w.heap.size + 1 + 1 + 1, 0, none⟩ (.int .i64 3)).heap[D]? = some (.deferred (some [])) := by
        rw [Below.heap_setCell _ _ _ _ (by simp only; omega), Below.heap_setCell _ _ _ _ (by simp only; omega)]
        exact hK
      have HK' := hide hK'
      clear hK hK' hmv hne
      gi_wp2_with fail
      refine ⟨by simp, .inl ⟨_, _, rfl, run_takeDeferred HK'.out, ?_⟩⟩
      have q2 := (Boxed.kept (B := w.heap.size + 1 + 1) (t := 106) (v := .pointer none) (W := (W.setCell ⟨w.heap.size + 1 + 1, 0, none⟩ (.pointer none)).setCell ⟨w.heap.size + 1 + 1 + 1, 0, none⟩ (.int .i64 3)) ((Below.heap_setCell _ ⟨w.heap.size + 1 + 1 + 1, 0, none⟩ _ (w.heap.size + 1 + 1) (by simp only; omega)).trans (heap_set (C := #[.pointer none]) i2 _)) (grownBy_putObj' _ D (.deferred none)) (by simp; omega)).cell
      have q3 := (Boxed.kept (B := w.heap.size + 1 + 1 + 1) (t := 44) (v := .int .i64 3) (W := (W.setCell ⟨w.heap.size + 1 + 1, 0, none⟩ (.pointer none)).setCell ⟨w.heap.size + 1 + 1 + 1, 0, none⟩ (.int .i64 3)) (heap_set (C := #[.int .i64 0]) ((Below.heap_setCell _ ⟨w.heap.size + 1 + 1, 0, none⟩ _ (w.heap.size + 3) (by simp only; omega)).trans i3) _) (grownBy_putObj' _ D (.deferred none)) (by simp; omega)).cell
      refine ⟨_, ?_, HFD.out⟩
      simp [results, Tryd.f57, go_sem, q2, q3]
    case stop =>
      intro D c pre L W hD hDL hmv hpre hI hK
      have hs12 := HB2.out.size
      obtain ⟨rfl, rfl, i3, q, pre', b, rfl, hne, hqn, i2, hch⟩ := hI
      have hDs := (Array.getElem?_eq_some_iff.1 hK).1
      have hw2s := HB0.out.size
      have HFD : Hid (FindPost f no w (.returned (.tuple #[.pointer (some ⟨b, 0, none⟩), .int .i64 0])) (W.putObj D (.deferred none))) := hide (by
        refine ⟨?_, .inr (.inr ⟨HC.out, q, b, ?_, rfl, ?_⟩)⟩
        · exact (kept_put (kept_below (l := []) (hmv.kept.below HB0.out (by simp))) D _ (.inr (by omega))).nil
        · rw [findP]
          obtain ⟨r, hr⟩ := hpre
          rw [← hr, List.append_assoc, List.find?_append, List.find?_eq_none.2 (fun x hx => by simpa using hne x hx)]
          simp [List.find?_cons, hqn]
        · refine hch.has ?_
          exact has_av.tr (has_grown (grownBy_putObj' W D _) (fun r e => by cases e; exact ⟨_, hK, rfl⟩)))
      have q2 := (Boxed.kept (B := w.heap.size + 1 + 1) (t := 106) (v := .pointer (some ⟨b, 0, none⟩)) i2 (grownBy_putObj' _ D (.deferred none)) (by simp; omega)).cell
      have q3 := (Boxed.kept (B := w.heap.size + 1 + 1 + 1) (t := 44) (v := .int .i64 0) i3 (grownBy_putObj' _ D (.deferred none)) (by simp; omega)).cell
      have HK := hide hK
      clear hK hmv hne hpre hch i2 i3
      gi_wp2_with fail
      refine ⟨by simp, .inl ⟨_, _, rfl, run_takeDeferred HK.out, ?_⟩⟩
      refine ⟨_, ?_, HFD.out⟩
      simp [results, Tryd.f57, go_sem, q2, q3]
  · rw [decide_eq_false hc] at HR
    have HP : Hid (∀ w', Below w.heap.size w w' → FindPost f no w (.returned (.tuple #[.pointer none, .int .i64 2])) w') := hide fun w' hb => ⟨hb, .inl ⟨hc, rfl⟩⟩
    clear hc
    refine (callsIn_wide (n := 9)).1 ?_
    refine callsIn_of_wp_marks Tryd.func57 rfl trivial ?_ rfl
    simp only [Tryd.ntmps57, List.size_toArray, List.length_cons, List.length_nil, Nat.reduceAdd, Nat.reduceSub, Array.replicate_succ, Array.replicate_zero, List.push_toArray, List.append_toArray, List.nil_append, List.cons_append]
    gi_wp2_with fail
    refine ⟨trivial, ?_⟩
    refine (callsIn_wide.2 (HR.out _ ((((bl w).al _).al _).al _ |>.al _))).mono ?_
    rintro r w1 ⟨rfl, hb⟩
    have hb1 : Below w.heap.size w w1 := ((((bl w).al _).al _).al _ |>.al _).tr hb
    have x2 : RP w1 (w.heap.size + 1 + 1) none := by
      unfold RP
      rw [hb.block _ (by simp <;> omega), Below.heap_alloc _ _ _ (by simp <;> omega)]
      have := heap_alloc_new ((w.alloc (.cells #[.string ⟨f.name.toArray⟩, .slice pp f.params.length cp, .int .i64 f.result, .slice pb f.body.length cb, .int .i64 f.count] 42)).alloc (.cells #[.int .i64 no] 3)) (.cells #[.pointer none] 106)
      simpa using this
    have x3 : RE w1 (w.heap.size + 1 + 1 + 1) 0 := by
      unfold RE
      rw [hb.block _ (by simp <;> omega)]
      have := heap_alloc_new (((w.alloc (.cells #[.string ⟨f.name.toArray⟩, .slice pp f.params.length cp, .int .i64 f.result, .slice pb f.body.length cb, .int .i64 f.count] 42)).alloc (.cells #[.int .i64 no] 3)).alloc (.cells #[.pointer none] 106)) (.cells #[.int .i64 0] 44)
      simpa using this
    have hs14 : w.heap.size + 4 ≤ w1.heap.size := by have := hb.size; simp at this; omega
    have j2 := cell_at (j := 0) x2 rfl
    have j3 := cell_at (j := 0) x3 rfl
    have g2 := free_at (j := 0) x2
    have g3 := free_at (j := 0) x3
    have HB1 := hide hb1
    have X2 := hide x2
    have X3 := hide x3
    clear hb hb1 x2 x3
    gi_wp2_with fail
    have hB2 : Below w.heap.size w ((w1.setCell ⟨w.heap.size + 1 + 1, 0, none⟩ (.pointer none)).setCell ⟨w.heap.size + 1 + 1 + 1, 0, none⟩ (.int .i64 2)) := (HB1.out.setCell (by simp only; omega) _).setCell (by simp only; omega) _
    have q2 := cell_at (j := 0) ((Below.heap_setCell (w1.setCell ⟨w.heap.size + 1 + 1, 0, none⟩ (.pointer none)) ⟨w.heap.size + 1 + 1 + 1, 0, none⟩ (.int .i64 2) (w.heap.size + 1 + 1) (by simp only; omega)).trans (heap_set (i := 0) X2.out (.pointer none))) rfl
    have q3 := cell_at (j := 0) (heap_set (i := 0) ((Below.heap_setCell w1 ⟨w.heap.size + 1 + 1, 0, none⟩ (.pointer none) (w.heap.size + 1 + 1 + 1) (by simp only; omega)).trans X3.out) (.int .i64 2)) rfl
    refine ⟨_, ?_, HP.out _ hB2⟩
    simp [results, Tryd.f57, go_sem, q2, q3]
end Go.Proofs.YtccgpmncpemmdaaDoor
