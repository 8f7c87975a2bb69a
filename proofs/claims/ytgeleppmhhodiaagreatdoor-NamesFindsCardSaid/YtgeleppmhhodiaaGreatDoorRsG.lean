/- rewindref03.Number answers the functions with their numbers, in a row of its own. -/
import Derived.Test.YtgeleppmhhodiaaGreatDoorRsE
import Derived.Test.YtgeleppmhhodiaaGreatDoorRsF
namespace Go.Proofs.YtgeleppmhhodiaaGreatDoor
open Go Go.RowKit
set_option linter.unusedSimpArgs false
set_option linter.unusedVariables false
set_option linter.unnecessarySimpa false
theorem OwnL.weaken {α : Type} {w : World} {b1 b2 sz : Nat} {t : TypeId} {V : World → α → List Value → Prop} {m1 m2 : List Nat} {v : Value} {l : List α} (hm : Mono V) (h : OwnL w b1 t sz V m1 v l) (hb : b2 ≤ b1) (hs : ∀ g ∈ m2, g ∈ m1) : OwnL w b2 t sz V m2 v l := by
  obtain ⟨xs, ⟨h1, h2⟩, hcut⟩ := h
  refine ⟨xs, ⟨h1, ?_⟩, hcut.mono fun a c hv => hm _ _ _ _ (has_sub fun g hg => by
    simp only [List.mem_append] at hg ⊢
    exact hg.imp id (hs g)) hv⟩
  rcases h2 with hn | ⟨g, cap, cur, hv, hg, r⟩
  · exact .inl hn
  · exact .inr ⟨g, cap, cur, hv, Nat.le_trans hb hg, r⟩
def NbrPost (w : World) (ban : List Nat) (l : List Fn) (r : Ending) (w' : World) : Prop :=
  (∃ v, r = .returned (.agg #[v]) ∧ OwnL w' w.heap.size 25 5 FnC ban v l) ∧ Below w.heap.size w w'
theorem numberM_bad {l : List Fn} {f : Fn} (hf : f ∈ l) (h : fnOk f = false) : numberM l = [] := by
  unfold numberM
  rw [if_neg]
  rintro ⟨_, h2⟩
  rw [h2 f hf] at h
  cases h
set_option maxRecDepth 20000 in
set_option maxHeartbeats 8000000 in
theorem refNumber_any (ban : List Nat) (l : List Fn) (a : Option Addr) (cap : Nat) (w : World) (hl : Fns (av ban w) l a cap) (hban : ∀ g ∈ ban, g < w.heap.size) :
    Calls Tryz.prog 35 #[.agg #[.slice a l.length cap]] w (NbrPost w ban (numberM l)) := by
  obtain ⟨i0, hi, hz0, hz1, hz2⟩ := info_parts info_pm
  obtain ⟨j0, hj, hy0, hy1, hy2⟩ := info_parts info_fn
  have hlen : l.length ≤ 9223372036854775807 := Nat.le_trans hl.len hl.cap
  by_cases hl20 : (20 : Int) < (l.length : Int)
  · have e : numberM l = [] := by unfold numberM; rw [if_neg]; rintro ⟨h, _⟩; omega
    rw [e]
    clear e hl hban
    go_enter Tryz.func35, Tryz.ntmps35
    go_wp2_with fail
    exact bodyPost_ret (v := .agg #[.slice none 0 0]) (by simp [results, Tryz.results35, go_sem]) rfl ⟨⟨_, rfl, OwnL.nil _ _ _ _ _ _⟩, ((bl w).al _).al _⟩
  · have HL := hide hl
    have HBAN := hide hban
    have hle20 : l.length ≤ 20 := by omega
    have HP0 : Hid (((((w.alloc (.cells #[.slice a l.length cap] 54)).alloc (.cells #[.slice none 0 0] 54)).alloc (.cells #[.slice none 0 0] 54))).heap[w.heap.size]? = some (.cells #[.slice a l.length cap] 54 (0, 0))) := hide (by
      rw [Below.heap_alloc _ _ _ (by simp; omega), Below.heap_alloc _ _ _ (by simp)]
      show (w.heap.push _)[w.heap.size]? = _
      simp)
    have HR0 : Hid (((((w.alloc (.cells #[.slice a l.length cap] 54)).alloc (.cells #[.slice none 0 0] 54)).alloc (.cells #[.slice none 0 0] 54))).heap[w.heap.size + 1]? = some (.cells #[.slice none 0 0] 54 (0, 0))) := hide (by
      rw [Below.heap_alloc _ _ _ (by simp)]
      have := heap_alloc_new (w.alloc (.cells #[.slice a l.length cap] 54)) (.cells #[.slice none 0 0] 54)
      simpa using this)
    have HO0 : Hid (((((w.alloc (.cells #[.slice a l.length cap] 54)).alloc (.cells #[.slice none 0 0] 54)).alloc (.cells #[.slice none 0 0] 54))).heap[w.heap.size + 1 + 1]? = some (.cells #[.slice none 0 0] 54 (0, 0))) := hide (by
      have := heap_alloc_new ((w.alloc (.cells #[.slice a l.length cap] 54)).alloc (.cells #[.slice none 0 0] 54)) (.cells #[.slice none 0 0] 54)
      simpa using this)
    clear hl hban
    go_enter Tryz.func35, Tryz.ntmps35
    go_wp2_with fail
    go_loopw [4] (fun i wr => ∃ (k : Nat) (v : Value), k ≤ l.length ∧ i = .int .i64 k ∧ Hid (∀ f ∈ l.take k, fnOk f = true) ∧ Hid (wr.heap[w.heap.size]? = some (.cells #[.slice a l.length cap] 54 (0, 0))) ∧ Hid (wr.heap[w.heap.size + 1]? = some (.cells #[.slice none 0 0] 54 (0, 0))) ∧ Hid (wr.heap[w.heap.size + 1 + 1]? = some (.cells #[v] 54 (0, 0))) ∧
      OwnL wr (w.heap.size + 3) 25 5 FnC ((w.heap.size + 1) :: (w.heap.size + 1 + 1) :: ban) v ((l.take k).map numFn) ∧ Below w.heap.size w wr ∧ w.heap.size + 3 ≤ wr.heap.size) (fun i _ => l.length - (intOf i).toNat)
    case atStart => exact ⟨0, _, Nat.zero_le _, rfl, by simp [Hid], HP0, HR0, HO0, OwnL.nil _ _ _ _ _ _, ((((bl w).al _).al _).al _), by simp⟩
    case round =>
      obtain ⟨k, v, hk, rfl, HALL, HP, HR, HO, hown, hb, hws⟩ := hrel
      obtain ⟨lm, hlm⟩ : ∃ lm, lm = (l.take k).map numFn := ⟨_, rfl⟩
      have hlml : lm.length ≤ 20 := by rw [hlm]; simp; omega
      have HLMQ := hide hlm
      rw [← hlm] at hown
      obtain ⟨va0, vc0, rfl, -, -⟩ := hown.slice
      have HOWN := hide hown
      clear hlm
      have p0 := cell_at (j := 0) HP.out rfl
      have hpl : w.heap.size < wr.heap.size := by omega
      clear hown
      by_cases hlt : k < l.length
      · obtain ⟨b, o, rfl⟩ := HL.out.addr (by omega)
        have hX : ∀ g ∈ (Value.slice va0 lm.length vc0).ownBlock.toList ++ (wr.heap.size :: (w.heap.size + 1) :: (w.heap.size + 1 + 1) :: ban), g ∈ ban ∨ w.heap.size ≤ g := by
          intro g hg
          simp only [List.mem_append, Option.mem_toList, List.mem_cons] at hg
          rcases hg with hg | rfl | rfl | rfl | hg
          · exact .inr (by have := (HOWN.out.lt g hg).1; omega)
          · exact .inr hb.size
          · exact .inr (by omega)
          · exact .inr (by omega)
          · exact .inl hg
        have hat := (HL.out.at_ b o rfl k hlt).has ((has_more hX).tr (has_av_below hb))
        have hXlt : ∀ g ∈ (Value.slice va0 lm.length vc0).ownBlock.toList ++ (wr.heap.size :: (w.heap.size + 1) :: (w.heap.size + 1 + 1) :: ban), g < wr.heap.size + 1 := by
          intro g hg
          simp only [List.mem_append, Option.mem_toList, List.mem_cons] at hg
          rcases hg with hg | rfl | rfl | rfl | hg
          · have := (HOWN.out.lt g hg).2; omega
          · omega
          · omega
          · omega
          · have := HBAN.out g hg; omega
        have hBX : wr.heap.size ∈ (Value.slice va0 lm.length vc0).ownBlock.toList ++ (wr.heap.size :: (w.heap.size + 1) :: (w.heap.size + 1 + 1) :: ban) := by simp
        have hsub : ∀ g ∈ (Value.slice va0 lm.length vc0).ownBlock.toList ++ ((w.heap.size + 1) :: (w.heap.size + 1 + 1) :: ban), g ∈ (Value.slice va0 lm.length vc0).ownBlock.toList ++ (wr.heap.size :: (w.heap.size + 1) :: (w.heap.size + 1 + 1) :: ban) := by
          intro g hg
          simp only [List.mem_append, List.mem_cons] at hg ⊢
          rcases hg with hg | hg
          · exact .inl hg
          · exact .inr (.inr hg)
        have HSUB := hide hsub
        obtain ⟨X, hXe⟩ : ∃ X, X = (Value.slice va0 lm.length vc0).ownBlock.toList ++ (wr.heap.size :: (w.heap.size + 1) :: (w.heap.size + 1 + 1) :: ban) := ⟨_, rfl⟩
        rw [← hXe] at hat hXlt hBX HSUB
        obtain ⟨pp, pb, cp, cb, d0, d1, d2, d3, d4, hfw, hps, hrow⟩ := hat
        have c0 := has_av _ _ _ d0
        have c1 := has_av _ _ _ d1
        have c2 := has_av _ _ _ d2
        have c3 := has_av _ _ _ d3
        have c4 := has_av _ _ _ d4
        have hbb := cell_lt c0
        simp only at hbb
        have HMEM := hide (List.getElem_mem hlt)
        have HFN := hide fun (W : World) (hW : Below wr.heap.size wr W) => refFunc_any l[k] _ W (⟨pp, pb, cp, cb, rfl, hfw, (hps.has has_av).has (has_below hW), (hrow.has has_av).has (has_below hW)⟩ : Fn.Val W l[k] _)
        have HPS := hide hps
        have HROW := hide hrow
        have HFW := hide hfw
        have hbX : ¬ b = wr.heap.size := by omega
        have hbX2 : ¬ wr.heap.size = b := by omega
        clear d0 d1 d2 d3 d4 hps hrow hfw hsub hX
        cases hok : fnOk l[k]
        · have HBAD := hide (numberM_bad HMEM.out hok)
          rw [hok] at HFN
          clear hok
          go_wp2_with fail
          (with_reducible refine (HFN.out _ ((bl wr).al _)).mono ?_)
          rintro r w1 ⟨rfl, hb1⟩
          have hB1 := ((bl wr).al _).tr hb1
          have r0 := cell_at (j := 0) ((hB1.block _ (by omega)).trans HR.out) rfl
          have fr := free_at (j := 0) ((hB1.block _ (by omega)).trans HR.out)
          have hrl : w.heap.size + 1 < w1.heap.size := by have := hB1.size; omega
          go_wp2_with fail
          refine bodyPost_ret (v := .agg #[.slice none 0 0]) (by simp [results, Tryz.results35, go_sem, r0]) rfl ?_
          rw [HBAD.out]
          exact ⟨⟨_, rfl, OwnL.nil _ _ _ _ _ _⟩, (hb.tr hB1).setCell (by simp) _⟩
        · rw [hok] at HFN
          have HOK := hide hok
          clear hok
          go_wp2_with fail
          (with_reducible refine (HFN.out _ ((bl wr).al _)).mono ?_)
          rintro r w1 ⟨rfl, hb1⟩
          have hB1 := ((bl wr).al _).tr hb1
          have HF1 := hide ((hb1.block _ (by simp)).trans (heap_alloc_new wr _))
          have hs1 : wr.heap.size + 1 ≤ w1.heap.size := by have := hb1.size; simpa using this
          have hok := HOK.out
          have hwell : wellM 20 l[k].body = true ∧ cntL l[k].body ≤ 200 ∧ l[k].params.length ≤ 8 := by
            simp only [fnOk, Bool.and_eq_true, decide_eq_true_eq] at hok
            exact ⟨hok.2.1, hok.2.2, hok.1.1.1.2⟩
          obtain ⟨hwl, hcnt, hp8⟩ := hwell
          have HM0 := hide (OwnL.made0 w1 (wr.heap.size + 1) 60 2 PmC X w1.heap.size rfl hs1)
          have HIN := hide fun (D : Obj) => ((HPS.out.has has_av).has (has_below (hB1.al D))).pushin ((Value.slice (some ⟨w1.heap.size, 0, none⟩) 0 0).ownBlock.toList ++ X)
          have HM1 : Hid (([] : List Pm).length + l[k].params.length ≤ maxLen) := hide (by unfold maxLen; simp; omega)
          have HM2 : Hid ((([] : List Pm).length + l[k].params.length) * 24 ≤ 140737488355328) := hide (by simp; omega)
          have HM3 : Hid (∀ D, wr.heap.size + 1 ≤ (w1.alloc D).heap.size) := hide fun D => by simp; omega
          have HXG : Hid (∀ (C : Obj) (D : Obj) (w3 : World), w1.heap[wr.heap.size]? = some C → (w1.alloc D).grownBy w3 (Value.slice (some ⟨w1.heap.size, 0, none⟩) 0 0).ownBlock → w3.heap[wr.heap.size]? = some C ∧ Below wr.heap.size wr w3 ∧ wr.heap.size + 1 ≤ w3.heap.size) := hide fun C D w3 hC hg =>
            ⟨(hg.block _ (by simp; omega) (by simp [Value.ownBlock]; omega)).trans ((Below.heap_alloc _ _ _ (by omega)).trans hC), (hB1.al D).grown hg (by simp; omega) (by simp [Value.ownBlock]; omega), by have := hg.size; simp at this; omega⟩
          have IHB : Hid (∀ W, St.Row (av X W) l[k].body pb → (∀ g ∈ X, g < W.heap.size) → Calls Tryz.prog 49 #[.slice pb l[k].body.length cb, .int .i64 0] W (NumPost W X l[k].body 0)) :=
            hide fun W hW hX => refNumbered_any 20 X l[k].body 0 pb cb W hwl (by omega) hX hW
          have HXB := hide fun (W : World) (h : wr.heap.size + 1 ≤ W.heap.size) => (fun g hg => by have := hXlt g hg; omega : ∀ g ∈ X, g < W.heap.size)
          have hXb : ∀ g ∈ [wr.heap.size], g < wr.heap.size + 1 ∧ g ∈ X := by simp [hBX]
          have HXLT := hide hXlt
          have x1 := cell_at (j := 1) HF1.out rfl
          have hfl : wr.heap.size < w1.heap.size := by omega
          clear hXlt hBX hb1 hok hwl
          go_wp2_with (at_builtin; refine wpList_pushin _ rfl _ _ 22 rfl (wr.heap.size + 1) 60 i0 _ 2 24 Tryz.underlying22 hi hz0 hz1 hz2 rfl (by decide) PmC PmC.mono X _ [] rfl HM0.out pp cp l[k].params rfl (HIN.out _) HM1.out HM2.out (HM3.out _) ?_; intro va w3 hown3 hgrow3; obtain ⟨hx3, hB3, hs3⟩ := HXG.out _ _ _ HF1.out hgrow3; have x1 := cell_at (j := 1) hx3 rfl; have y1 := free_at (j := 1) hx3; have HX3 := hide hx3; have p0 := cell_keep p0 hB3 (Nat.le_refl _); have c3 := cell_keep c3 hB3 (Nat.le_refl _); clear hx3 hgrow3; simp only [List.nil_append] at hown3; obtain ⟨aa, acap, rfl, hpa⟩ := hown3.pms HXLT.out; have HPA := hide hpa; clear hown3 hpa)
          have hkX3 : Kept X w3 (w3.setCell ⟨wr.heap.size, 1, none⟩ (.slice aa l[k].params.length acap)) := ((Kept.refl [wr.heap.size] w3).set (g := wr.heap.size) (.inl (by simp)) 1 _).sub fun g hg => .inl (hXb g hg).2
          have HPA := hide (HPA.out.has (has_kept hkX3))
          have hB3' := hB3.setCell (p := ⟨wr.heap.size, 1, none⟩) (Nat.le_refl _) (.slice aa l[k].params.length acap)
          have HX3' := hide (heap_set (i := 1) HX3.out (.slice aa l[k].params.length acap))
          have hs3' : wr.heap.size + 1 ≤ (w3.setCell ⟨wr.heap.size, 1, none⟩ (.slice aa l[k].params.length acap)).heap.size := by simpa [World.setCell] using hs3
          clear x1 y1 hkX3
          (with_reducible refine (IHB.out _ (HROW.out.has (has_av_belowN hB3' (Nat.le_refl _))) (HXB.out _ hs3')).mono ?_)
          rintro r w4 ⟨⟨vb, rfl, hownb⟩, hb4⟩
          have hs4 := Nat.le_trans hs3' hb4.size
          have hB4 := hB3'.trans (hb4.mono (by omega))
          have HX4 := hide ((hb4.block _ (by omega)).trans HX3'.out)
          have HO4 := hide ((hB4.block _ (by omega)).trans HO.out)
          have HPA := hide (HPA.out.has (has_av_below hb4))
          obtain ⟨ba, bcap, rfl, hrowb, hbl1, hbl2⟩ := hownb.sts (HXB.out _ hs3')
          have hkX4 : Kept X w4 ((w4.setCell ⟨wr.heap.size, 3, none⟩ (.slice ba (renL l[k].body 0).length bcap)).setCell ⟨wr.heap.size, 4, none⟩ (.int .i64 (cntL l[k].body : Nat))) := (((Kept.refl [wr.heap.size] w4).set (g := wr.heap.size) (.inl (by simp)) 3 _).set (g := wr.heap.size) (.inl (by simp)) 4 _).sub fun g hg => .inl (hXb g hg).2
          have HPA := hide (HPA.out.has (has_kept hkX4))
          have HRB := hide (hrowb.has (has_kept hkX4))
          have hB4' := (hB4.setCell (p := ⟨wr.heap.size, 3, none⟩) (Nat.le_refl _) (.slice ba (renL l[k].body 0).length bcap)).setCell (p := ⟨wr.heap.size, 4, none⟩) (Nat.le_refl _) (.int .i64 (cntL l[k].body : Nat))
          have HOWN5 := hide fun o => HOWN.out.below FnC.mono (hB4'.alloc (by simp [World.setCell]; omega) o)
          have HV5 := hide fun o => ((⟨aa, ba, acap, bcap, rfl, ⟨HFW.out.s, HFW.out.r, hbl1, hbl2, (show I64 ((cntL l[k].body : Nat) : Int) by unfold I64; omega)⟩, HPA.out.has ((has_av_below ((bl _).al o)).tr (has_sub HSUB.out)), HRB.out.has ((has_av_below ((bl _).al o)).tr (has_sub HSUB.out))⟩ :
            FnC (av ((Value.slice va0 lm.length vc0).ownBlock.toList ++ ((w.heap.size + 1) :: (w.heap.size + 1 + 1) :: ban)) (((w4.setCell ⟨wr.heap.size, 3, none⟩ (.slice ba (renL l[k].body 0).length bcap)).setCell ⟨wr.heap.size, 4, none⟩ (.int .i64 (cntL l[k].body : Nat))).alloc o)) (numFn l[k]) [.string ⟨l[k].name.toArray⟩, .slice aa l[k].params.length acap, .int .i64 l[k].result, .slice ba (renL l[k].body 0).length bcap, .int .i64 (cntL l[k].body : Nat)]))
          have q0 := cell_at (j := 0) HX4.out rfl
          have q1 := cell_at (j := 1) HX4.out rfl
          have q2 := cell_at (j := 2) HX4.out rfl
          have q3 := cell_at (j := 3) HX4.out rfl
          have q4 := cell_at (j := 4) HX4.out rfl
          have y := fun j => free_at (j := j) HX4.out
          have o0 := cell_at (j := 0) HO4.out rfl
          have oy := free_at (j := 0) HO4.out
          have hne3 : ¬ w.heap.size + 1 + 1 = wr.heap.size := by omega
          have hne4 : ¬ wr.heap.size = w.heap.size + 1 + 1 := by omega
          have hol : w.heap.size + 1 + 1 < w4.heap.size := by omega
          have hsz5 : w4.heap.size = ((w4.setCell ⟨wr.heap.size, 3, none⟩ (.slice ba (renL l[k].body 0).length bcap)).setCell ⟨wr.heap.size, 4, none⟩ (.int .i64 (cntL l[k].body : Nat))).heap.size := by simp [World.setCell]
          have HN5 := hide fun xs => news_row ((w4.setCell ⟨wr.heap.size, 3, none⟩ (.slice ba (renL l[k].body 0).length bcap)).setCell ⟨wr.heap.size, 4, none⟩ (.int .i64 (cntL l[k].body : Nat))) xs 25 w4.heap.size hsz5
          have HLM : Hid (lm.length + 1 ≤ maxLen) := hide (by unfold maxLen; omega)
          have HLB : Hid ((lm.length + 1) * 80 ≤ 140737488355328) := hide (by omega)
          have HW5 : Hid (∀ o, w.heap.size + 3 ≤ (((w4.setCell ⟨wr.heap.size, 3, none⟩ (.slice ba (renL l[k].body 0).length bcap)).setCell ⟨wr.heap.size, 4, none⟩ (.int .i64 (cntL l[k].body : Nat))).alloc o).heap.size) := hide fun o => by simp [World.setCell]; omega
          have HXO : Hid (∀ (ob : Obj) (w6 : World), (((w4.setCell ⟨wr.heap.size, 3, none⟩ (.slice ba (renL l[k].body 0).length bcap)).setCell ⟨wr.heap.size, 4, none⟩ (.int .i64 (cntL l[k].body : Nat))).alloc ob).grownBy w6 (Value.slice va0 lm.length vc0).ownBlock →
              w6.heap[w.heap.size]? = some (.cells #[.slice (some ⟨b, o, none⟩) l.length cap] 54 (0, 0)) ∧ w6.heap[w.heap.size + 1]? = some (.cells #[.slice none 0 0] 54 (0, 0)) ∧ w6.heap[w.heap.size + 1 + 1]? = some (.cells #[.slice va0 lm.length vc0] 54 (0, 0)) ∧ Below w.heap.size w w6 ∧ w.heap.size + 3 ≤ w6.heap.size) := hide fun ob w6 hg => by
            have hk := hB4'.alloc (by simp [World.setCell]; omega) ob
            have hlt : ∀ g, (Value.slice va0 lm.length vc0).ownBlock = some g → w.heap.size + 3 ≤ g := fun g hg => (HOWN.out.lt g hg).1
            have hsz : w4.heap.size ≤ (((w4.setCell ⟨wr.heap.size, 3, none⟩ (.slice ba (renL l[k].body 0).length bcap)).setCell ⟨wr.heap.size, 4, none⟩ (.int .i64 (cntL l[k].body : Nat))).alloc ob).heap.size := by simp [World.setCell]
            refine ⟨(hg.block _ (by omega) (fun e => by have := hlt _ e.symm; omega)).trans ((hk.block _ (by omega)).trans HP.out), (hg.block _ (by omega) (fun e => by have := hlt _ e.symm; omega)).trans ((hk.block _ (by omega)).trans HR.out), (hg.block _ (by omega) (fun e => by have := hlt _ e.symm; omega)).trans ((hk.block _ (by omega)).trans HO.out), ?_, by have := hg.size; omega⟩
            exact (hb.trans (hk.mono (by omega))).grown hg (by omega) (fun g hg => by have := hlt g hg; omega)
          clear hrowb hownb hkX4 c3 hsz5 p0
          go_wp2_with (at_builtin; refine wpList_push _ rfl _ _ 52 rfl (w.heap.size + 3) 25 j0 _ 5 80 Tryz.underlying52 hj hy0 hy1 hy2 rfl (by decide) FnC FnC.mono ((w.heap.size + 1) :: (w.heap.size + 1 + 1) :: ban) _ lm rfl (HOWN5.out _) ⟨w4.heap.size, 0, none⟩ 1 _ (numFn l[k]) rfl rfl (HN5.out _) (by simp [Value.oneCell']) (HV5.out _) HLM.out HLB.out (HW5.out _) ?_; intro v' w6 hown6 hgrow6; obtain ⟨hp6, hr6, ho6, hb6, hs6⟩ := HXO.out _ _ hgrow6; obtain ⟨va6, vc6, rfl, -, -⟩ := hown6.slice; have HOWN6 := hide hown6; have HP6 := hide hp6; have HR6 := hide hr6; have HO6 := hide ho6; have o0 := cell_at (j := 0) ho6 rfl; have oy := free_at (j := 0) ho6; clear hown6 hp6 hr6 ho6 hgrow6)
          go_roundw
          case rel =>
            refine ⟨k + 1, .slice va6 (lm.length + 1) vc6, by omega, by go_num, ?_, (Below.heap_setCell _ _ _ _ (by simp only; omega)).trans HP6.out, (Below.heap_setCell _ _ _ _ (by simp only; omega)).trans HR6.out, ?_, ?_, hb6.setCell (by simp only; omega) _, by simpa [World.setCell] using hs6⟩
            · intro f hf
              rw [List.take_succ_eq_append_getElem hlt, List.mem_append, List.mem_singleton] at hf
              rcases hf with hf | rfl
              · exact HALL.out f hf
              · exact HOK.out
            · have := heap_set (i := 0) HO6.out (.slice va6 (lm.length + 1) vc6)
              simpa [Hid] using this
            · have h6 := HOWN6.out
              simp only [List.length_append, List.length_cons, List.length_nil, Nat.zero_add] at h6
              have h7 := h6.kept FnC.mono ((Kept.refl [w.heap.size + 1 + 1] w6).set (g := w.heap.size + 1 + 1) (.inl (by simp)) 0 (.slice va6 (lm.length + 1) vc6)) (by simp)
              rw [List.take_succ_eq_append_getElem hlt, List.map_append, ← HLMQ.out]
              exact h7
          case measure => simp [intOf]; omega
      · obtain rfl : k = l.length := by omega
        have o0 := cell_at (j := 0) HO.out rfl
        have r0 := cell_at (j := 0) HR.out rfl
        have ry := free_at (j := 0) HR.out
        have hol : w.heap.size + 1 + 1 < wr.heap.size := by omega
        have hrl : w.heap.size + 1 < wr.heap.size := by omega
        have HE : Hid (numberM l = lm) := hide (by
          have h1 := HALL.out
          rw [List.take_length] at h1
          rw [HLMQ.out, List.take_length, numberM, if_pos ⟨hle20, h1⟩])
        go_wp2_with fail
        refine bodyPost_ret (v := .agg #[.slice va0 lm.length vc0]) (by simp [results, Tryz.results35, go_sem, r0]) rfl ?_
        rw [HE.out]
        have h7 := HOWN.out.kept FnC.mono ((Kept.refl [w.heap.size + 1] wr).set (g := w.heap.size + 1) (.inl (by simp)) 0 (.slice va0 lm.length vc0)) (by simp)
        exact ⟨⟨_, rfl, h7.weaken FnC.mono (by omega) (fun g hg => by simp [hg])⟩, hb.setCell (by simp) _⟩
end Go.Proofs.YtgeleppmhhodiaaGreatDoor
