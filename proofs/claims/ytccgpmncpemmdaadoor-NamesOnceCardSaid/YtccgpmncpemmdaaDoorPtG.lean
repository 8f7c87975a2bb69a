/- points.All: the statements of a function, with their numbers, one after the other. -/
import Derived.Test.YtccgpmncpemmdaaDoorPtF
import Derived.Test.YtccgpmncpemmdaaDoorRr
namespace Go.Proofs.YtccgpmncpemmdaaDoor
open Go Go.RowKit Go.Shelf
set_option linter.unusedSimpArgs false
set_option linter.unusedVariables false
set_option linter.unnecessarySimpa false
attribute [local go_sem] Oper.semAt_some
mutual
/-- A statement and those in it, in the order of the text. -/
def St.sts : St → List St | .mk k n s t c xs bs es => .mk k n s t c xs bs es :: (stsL bs ++ stsL es)
def stsL : List St → List St | [] => [] | s :: l => s.sts ++ stsL l
end
theorem St.sts_eq (s : St) : s.sts = s :: (stsL s.body ++ stsL s.els) := by cases s; rw [St.sts]; rfl
def hdS : List Lv → St | [] => .mk 0 0 [] 0 [] [] [] [] | q :: _ => q.s
mutual
theorem St.pls_sts : ∀ (s : St) (qs : List Lv) (blk : List St) (i : Nat), (s.pls qs blk i).map hdS = s.sts
  | .mk k n s t c xs bs es, qs, blk, i => by
    simp only [St.pls, St.sts, List.map_cons, List.map_append, plsF_sts bs, plsF_sts es]
    rfl
theorem plsF_sts : ∀ (l : List St) (qs : List Lv) (blk : List St) (i : Nat), (plsF l qs blk i).map hdS = stsL l
  | [], _, _, _ => rfl
  | s :: l, qs, blk, i => by simp only [plsF, stsL, List.map_append, St.pls_sts s, plsF_sts l]
end
/-- What All yields. -/
def allS (f : Fn) : List St := if checkM [f] = 0 then stsL f.body else []
def OfS (s : St) (args : Array Value) (W : World) : Prop := ∃ v, args = #[.int .i64 s.no, v] ∧ s.Val W v
theorem OfS.has {s : St} {args : Array Value} {W W' : World} (hh : Has W W') (h : OfS s args W) : OfS s args W' := by
  obtain ⟨v, h1, h2⟩ := h
  exact ⟨v, h1, h2.has hh⟩
set_option maxHeartbeats 1000000 in
theorem all_any (a b : Option Addr) (n m c d : Nat) (s : ByteArray) (r k : Int) (w : World) : Calls Tryd.prog 34 #[.agg #[.string s, .slice a n c, .int .i64 r, .slice b m d, .int .i64 k]] w fun e w' => e = .returned (.func (.func 45) #[] #[.pointer (some ⟨w.heap.size, 0, none⟩)]) ∧ w' = w.alloc (.cells #[.string s, .slice a n c, .int .i64 r, .slice b m d, .int .i64 k] 42) := by
  go_enter Tryd.func34, Tryd.ntmps34
  go_wp2_with fail
  go_ret
  exact ⟨rfl, rfl⟩
/-- The round of All's own loop. -/
def AlI (J : List St → List Nat → World → Prop) (yb lp : Nat) (pre : List (List Lv)) (L : List Nat) (W : World) : Prop :=
  J (pre.map hdS) L W ∧ W.heap[yb]? = some (.cells #[.func (.yield lp) #[] #[]] 102 (0, 0)) ∧ yb ∉ L
def AlX (Jx : List St → List Nat → World → Prop) (c : Code) (pre : List (List Lv)) (L : List Nat) (W : World) : Prop := c = .ret ∧ Jx (pre.map hdS) L W
theorem AlI.inv {B : Nat} {J : List St → List Nat → World → Prop} (h : Inv B J) (yb lp : Nat) : Inv B (AlI J yb lp) := by
  refine ⟨fun s L W W' row hi hg hr => ?_, fun s L W hi => h.lt _ _ _ hi.1⟩
  obtain ⟨h1, h2, h3⟩ := hi
  exact ⟨h.own _ _ _ _ row h1 hg hr, heap_grown hg (fun r e => (hr r e).2.2) h2, h3⟩
theorem AlX.inv {B : Nat} {Jx : List St → List Nat → World → Prop} (h : Inv B Jx) (c : Code) : Inv B (AlX Jx c) :=
  ⟨fun s L W W' row hi hg hr => ⟨hi.1, h.own _ _ _ _ row hi.2 hg hr⟩, fun s L W hi => h.lt _ _ _ hi.2⟩
def AllPost (J Jx : List St → List Nat → World → Prop) (xs : List St) (L : List Nat) (W : World) (e : Ending) (W' : World) : Prop := (∃ v, e = .returned v) ∧ ∃ L', Mv L W L' W' ∧ (J xs L' W' ∨ ∃ pre, pre <+: xs ∧ Jx pre L' W')
set_option maxRecDepth 20000 in
set_option maxHeartbeats 4000000 in
theorem all_seq (f : Fn) (pp pb : Option Addr) (cp cb fb : Nat) (L0 : List Nat) (w : World) (hv : f.Val (av L0 w) (.agg #[.string ⟨f.name.toArray⟩, .slice pp f.params.length cp, .int .i64 f.result, .slice pb f.body.length cb, .int .i64 f.count])) (hT : ∀ L W, Mv L0 w L W → Tab W)
    (hfb : w.heap[fb]? = some (.cells #[.string ⟨f.name.toArray⟩, .slice pp f.params.length cp, .int .i64 f.result, .slice pb f.body.length cb, .int .i64 f.count] 42 (0, 0))) (hfL : fb ∉ L0) : SeqO 45 #[.pointer (some ⟨fb, 0, none⟩)] OfS (allS f) L0 w := by
  intro lp J Jx L1 W hmv hJ hJx hY hj
  have hvW := hv.has hmv.has
  have hTW := hT _ _ hmv
  obtain ⟨hfW, hfL1⟩ := hmv.heap hfL hfb
  have hL1 := hJ.lt _ _ _ hj
  have y0 := cell_at (j := 0) hfW rfl
  have y1 := cell_at (j := 1) hfW rfl
  have y2 := cell_at (j := 2) hfW rfl
  have y3 := cell_at (j := 3) hfW rfl
  have y4 := cell_at (j := 4) hfW rfl
  have hfl := (Array.getElem?_eq_some_iff.1 hfW).1
  have HR := hide fun (V : World) (hV : Below W.heap.size W V) => right_any f _ V ((hvW.has has_av).keep hV (Nat.le_refl _)) (hTW.below hV)
  obtain ⟨_, _, _, _, hag, hfw, hps, hrow⟩ := hvW
  simp only [Value.agg.injEq, Array.mk.injEq, List.cons.injEq, and_true, Value.slice.injEq, true_and] at hag
  obtain ⟨⟨rfl, rfl⟩, rfl, rfl⟩ := hag
  have HROW := hide hrow
  have HFW := hide hfw
  have HFB := hide hfW
  have HJ := hide hj
  have HY := hide hY
  clear hv hT hfb hmv hTW hrow hfw hps hj hY hfW
  show Calls Tryd.prog 45 #[.func (.yield lp) #[] #[], .pointer (some ⟨fb, 0, none⟩)] W (AllPost J Jx (allS f) L1 W)
  by_cases hc : checkM [f] = 0
  · have hall : allS f = (plsL f.body []).map hdS := by rw [allS, if_pos hc, plsL, plsF_sts]
    have HALL := hide hall
    rw [decide_eq_true hc] at HR
    clear hc hall
    refine (callsIn_wide (n := 9)).1 ?_
    refine callsIn_of_wp_marks Tryd.func45 rfl trivial ?_ rfl
    simp only [Tryd.ntmps45, List.size_toArray, List.length_cons, List.length_nil, Nat.reduceAdd, Nat.reduceSub, Array.replicate_succ, Array.replicate_zero, List.push_toArray, List.append_toArray, List.nil_append, List.cons_append]
    gi_wp2_with fail
    refine ⟨trivial, ?_⟩
    refine (callsIn_wide.2 (HR.out _ ((bl W).al _))).mono ?_
    rintro r w1 ⟨rfl, hb⟩
    have hb1 : Below W.heap.size W w1 := ((bl W).al _).tr hb
    have hyb : w1.heap[W.heap.size]? = some (.cells #[.func (.yield lp) #[] #[]] 102 (0, 0)) := (hb.block _ (by simp)).trans (heap_alloc_new W _)
    have hyl := (Array.getElem?_eq_some_iff.1 hyb).1
    replace y0 := cell_keep y0 hb1 (Nat.le_refl _)
    replace y1 := cell_keep y1 hb1 (Nat.le_refl _)
    replace y2 := cell_keep y2 hb1 (Nat.le_refl _)
    replace y3 := cell_keep y3 hb1 (Nat.le_refl _)
    replace y4 := cell_keep y4 hb1 (Nat.le_refl _)
    have hfl1 := Nat.lt_of_lt_of_le hfl hb1.size
    have HB1 := hide hb1
    have HYB := hide hyb
    clear hb hb1 hyb
    gi_wp2_with fail
    refine ⟨trivial, ?_⟩
    refine (callsIn_wide.2 (places_any undef undef undef _ _ _ _ _ _ _ _ _ _)).mono ?_
    rintro r w2 ⟨rfl, hw2⟩
    have hb2 : Below w1.heap.size w1 w2 := by rw [hw2]; exact (bl w1).al _
    have hz : w2.heap[w1.heap.size]? = some (.cells #[.string ⟨f.name.toArray⟩, .slice pp f.params.length cp, .int .i64 f.result, .slice pb f.body.length cb, .int .i64 f.count] 42 (0, 0)) := by rw [hw2]; exact heap_alloc_new _ _
    have HZ := hide hz
    have HB2 := hide (HB1.out.tr hb2)
    have HYB2 := hide ((hb2.block _ hyl).trans HYB.out)
    have hs2 := hb2.size
    clear hz hb2 hw2 y0 y1 y2 y3 y4
    gi_wp2_with fail
    have HSQ : Hid (SeqO 55 #[.pointer (some ⟨w1.heap.size, 0, none⟩)] OfP (plsL f.body []) L1 w2) := hide
      (places_seq f.body _ _ w1.heap.size L1 w2 HFW.out.lb HFW.out.cb (HROW.out.has (has_av_below HB2.out)) (cell_at (j := 3) HZ.out rfl) (fun h => by have := hL1 _ h; omega))
    have HI0 : Hid (AlI J W.heap.size lp [] L1 w2) := hide ⟨hJ.st HJ.out HB2.out, HYB2.out, fun h => by have := hL1 _ h; omega⟩
    have HPRE : Hid (∀ {a b : List (List Lv)}, a <+: b → a.map hdS <+: b.map hdS) := hide (fun h => by obtain ⟨r, rfl⟩ := h; exact ⟨r.map hdS, by simp⟩)
    refine rangeO (n := 9) (gf := 55) rfl (fun _ _ => by kernel_rfl) HSQ.out (fun _ _ _ _ hh h => h.has hh) (fun _ _ _ h => by obtain ⟨b, rfl, _⟩ := h; rfl) (AlI J W.heap.size lp) (AlX Jx) ((AlI.inv hJ _ _).mono (by omega)) (fun c => (AlX.inv hJx c).mono (by omega)) HI0.out
      (fun _ args a' _ _ => ∃ b, args = #[.pointer (some ⟨b, 0, none⟩)] ∧ a' = { tmps := #[.func (.yield lp) #[] #[], .pointer (some ⟨fb, 0, none⟩), .pointer (some ⟨W.heap.size, 0, none⟩), .pointer (some ⟨b, 0, none⟩), .agg #[.string ⟨f.name.toArray⟩, .slice pp f.params.length cp, .int .i64 f.result, .slice pb f.body.length cb, .int .i64 f.count], .bool true, .bool false, .agg #[.string ⟨f.name.toArray⟩, .slice pp f.params.length cp, .int .i64 f.result, .slice pb f.body.length cb, .int .i64 f.count], .func (.func 55) #[] #[.pointer (some ⟨w1.heap.size, 0, none⟩)], .pointer (some ⟨b, 0, none⟩), undef, undef, undef, undef, undef, undef, undef, undef, undef, undef, undef, undef], defers := [] })
      (fun _ _ _ _ _ _ _ _ h _ _ => h) ?assign ?body ?done ?stop
    case assign =>
      intro l pre q args L V K hI hof hp hK
      obtain ⟨b, rfl, hch⟩ := hof
      gi_wp2
      exact hK _ V (Below.refl _ _) ⟨b, rfl, rfl⟩
    case body =>
      intro l pre q args a' L V hl hnl hrec hI hof hax hp
      obtain ⟨b, hargs, hch⟩ := hof
      obtain ⟨b', hargs', rfl⟩ := hax
      rw [hargs] at hargs'
      simp only [Array.mk.injEq, List.cons.injEq, and_true, Value.pointer.injEq, Option.some.injEq, Addr.mk.injEq] at hargs'
      subst hargs'
      subst hargs
      obtain ⟨hj, hy0, hyn⟩ := hI
      cases q with
      | nil => simp [ChAt] at hch
      | cons q qs =>
        obtain ⟨b', pp', a', cap', hb', k0, hst, k9, k10, _⟩ := hch
        simp only [Option.some.injEq] at hb'
        subst hb'
        obtain ⟨sa, sb, se, sca, scb, sce, hcs, hsw, hs1, hs2, hs3⟩ := hst.val
        obtain ⟨q0, q1, q2, q3, q4, q5, q6, q7⟩ := hcs.has has_av
        have hbl := cell_lt q0
        simp only at hbl
        have x0 := cell_at (j := 0) hy0 rfl
        have hyl2 := (Array.getElem?_eq_some_iff.1 hy0).1
        have hVD : Below V.heap.size V V.drew := (bl V).dr
        obtain ⟨fn, tmps, assign, body, hy, hRR⟩ := HY.out (pre.map hdS) q.s _ L V.drew (hJ.st hj hVD) ⟨_, rfl, St.Val.mk hsw (hs1.has (has_av_below hVD)) (hs2.has (has_av_below hVD)) (hs3.has (has_av_below hVD))⟩ (by have := HPRE.out hp; rw [HALL.out]; simpa [hdS] using this) 6
        have HMV := hide (Mv.st (L := L) hVD)
        have HYB3 := hide hy0
        have HYN := hide hyn
        clear hst hcs hsw hs1 hs2 hs3 hVD hj hyn k0 k9 k10 hp hrec
        gi_wp2_with fail
        refine tail_in 10 (by kernel_rfl) (by kernel_rfl) (by kernel_rfl) ?_
        simp only [List.take_succ_cons, List.take_zero, List.drop_succ_cons, List.drop_zero]
        repeat still_step
        refine wpStill_nil ?_
        gi_wp2_with fail
        refine hRR.mono ?_
        clear hRR hy
        rintro e V2 ⟨L2, hM2, hor⟩
        have hM3 := HMV.out.tr hM2
        have hy2 := hM3.heap HYN.out HYB3.out
        rcases hor with ⟨rfl, hj2⟩ | ⟨rfl, hx2⟩
        · have HP : Hid (∃ L', Mv L V L' V2 ∧ AlI J W.heap.size lp (pre ++ [q :: qs]) L' V2) := hide ⟨L2, hM3, by simpa [hdS] using hj2, hy2⟩
          clear hj2 hM2 hM3 hy2
          gi_wp2_with fail
          exact HP.out
        · have HP : Hid (∃ L', Mv L V L' V2 ∧ AlX Jx .ret (pre ++ [q :: qs]) L' V2) := hide ⟨L2, hM3, rfl, by simpa [hdS] using hx2⟩
          clear hx2 hM2 hM3 hy2
          gi_wp2_with fail
          exact HP.out
    case done =>
      intro D L V hD hDL hmv hI hK
      have HP : Hid (AllPost J Jx (allS f) L1 W (.returned (.tuple #[])) (V.putObj D (.deferred none))) := hide (by
        refine ⟨⟨_, rfl⟩, L, ⟨?_, fun g hg => ?_⟩, .inl ?_⟩
        · exact kept_put ((kept_below HB2.out).trNew hmv.kept fun g hg => .inl hg) D _ (.inr (by have := HB2.out.size; omega))
        · exact (hmv.sub g hg).imp id fun e => Nat.le_trans HB2.out.size e
        · rw [HALL.out]
          exact hJ.put _ hI.1 (by have := HB2.out.size; omega) hDL hK rfl)
      have HK := hide hK
      clear hK hI hmv
      gi_wp2_with fail
      refine ⟨by simp, .inl ⟨_, _, rfl, run_takeDeferred HK.out, ?_⟩⟩
      exact ⟨_, by simp [results, Tryd.f45, go_sem], HP.out⟩
    case stop =>
      intro D c pre L V hD hDL hmv hpre hI hK
      obtain ⟨rfl, hx⟩ := hI
      have HP : Hid (AllPost J Jx (allS f) L1 W (.returned (.tuple #[])) (V.putObj D (.deferred none))) := hide (by
        refine ⟨⟨_, rfl⟩, L, ⟨?_, fun g hg => ?_⟩, .inr ⟨pre.map hdS, ?_, ?_⟩⟩
        · exact kept_put ((kept_below HB2.out).trNew hmv.kept fun g hg => .inl hg) D _ (.inr (by have := HB2.out.size; omega))
        · exact (hmv.sub g hg).imp id fun e => Nat.le_trans HB2.out.size e
        · rw [HALL.out]
          exact HPRE.out hpre
        · exact hJx.put _ hx (by have := HB2.out.size; omega) hDL hK rfl)
      have HK := hide hK
      clear hK hx hmv hpre
      gi_wp2_with fail
      refine ⟨by simp, .inl ⟨_, _, rfl, run_takeDeferred HK.out, ?_⟩⟩
      exact ⟨_, by simp [results, Tryd.f45, go_sem], HP.out⟩
  · have HP : Hid (∀ V, Below W.heap.size W V → AllPost J Jx (allS f) L1 W (.returned (.tuple #[])) V) := hide fun V hV => ⟨⟨_, rfl⟩, L1, Mv.st hV, .inl (by rw [allS, if_neg hc]; exact hJ.st HJ.out hV)⟩
    rw [decide_eq_false hc] at HR
    clear hc
    refine (callsIn_wide (n := 9)).1 ?_
    refine callsIn_of_wp_marks Tryd.func45 rfl trivial ?_ rfl
    simp only [Tryd.ntmps45, List.size_toArray, List.length_cons, List.length_nil, Nat.reduceAdd, Nat.reduceSub, Array.replicate_succ, Array.replicate_zero, List.push_toArray, List.append_toArray, List.nil_append, List.cons_append]
    gi_wp2_with fail
    refine ⟨trivial, ?_⟩
    refine (callsIn_wide.2 (HR.out _ ((bl W).al _))).mono ?_
    rintro r w1 ⟨rfl, hb⟩
    have HB1 := hide (((bl W).al _).tr hb)
    clear hb
    gi_wp2_with fail
    exact ⟨_, by simp [results, Tryd.f45, go_sem], HP.out _ HB1.out⟩
end Go.Proofs.YtccgpmncpemmdaaDoor
