/- rewindref03.numbered answers the statements with their numbers, in a row of its own. -/
import Derived.Test.YtgeleppmhhodiaaGreatDoorRsD
import Derived.Test.YtgeleppmhhodiaaGreatDoorOw2
namespace Go.Proofs.YtgeleppmhhodiaaGreatDoor
open Go Go.RowKit
set_option linter.unusedSimpArgs false
set_option linter.unusedVariables false
set_option linter.unnecessarySimpa false
theorem rowOf_most {k : Int} {x : Rw} (h : rowOf k = some x) : x.most ≤ 8 := by
  unfold rowOf at h
  repeat' split at h
  all_goals first | (simp only [Option.some.injEq] at h; subst h; decide) | (cases h)
theorem headM_args {s : St} (h : headM s = true) : s.args.length ≤ 8 := by
  cases hx : rowOf s.kind with
  | none => unfold headM at h; rw [hx] at h; cases h
  | some x =>
    have h1 := headM_len h hx
    have h2 := rowOf_most hx
    omega
/-- What numbered answers. -/
def NumPost (w : World) (ban : List Nat) (l : List St) (no : Nat) (r : Ending) (w' : World) : Prop :=
  (∃ v, r = .returned (.tuple #[v, .int .i64 (no + cntL l : Nat)]) ∧ OwnL w' w.heap.size 42 8 StC ban v (renL l no)) ∧ Below w.heap.size w w'
set_option maxRecDepth 20000 in
set_option maxHeartbeats 8000000 in
theorem refNumbered_any : ∀ (m : Nat) (ban : List Nat) (l : List St) (no : Nat) (a : Option Addr) (cap : Nat) (w : World), wellM m l = true → no + cntL l ≤ 200 → (∀ g ∈ ban, g < w.heap.size) → St.Row (av ban w) l a →
    Calls Tryz.prog 49 #[.slice a l.length cap, .int .i64 no] w (NumPost w ban l no) := by
  intro m
  induction m with
  | zero =>
    intro ban l no a cap w hw hc hban hr
    rw [wellM, List.isEmpty_iff] at hw
    subst hw
    clear hr
    simp only [cntL, Nat.add_zero] at hc
    go_enter Tryz.func49, Tryz.ntmps49
    go_wp2_with fail
    go_loopw [1, 6, 7] (fun n v i wr => n = .int .i64 no ∧ v = .slice none 0 0 ∧ i = .int .i64 0 ∧ w = wr) (fun _ _ _ _ => 0)
    case atStart => exact ⟨rfl, rfl, rfl, rfl⟩
    case round =>
      obtain ⟨rfl, rfl, rfl, rfl⟩ := hrel
      go_wp2_with fail
      go_ret2
      exact ⟨⟨_, rfl, OwnL.nil _ _ _ _ _ _⟩, bl _⟩
  | succ m ih =>
    intro ban l no a cap w hw hc hban hr
    obtain ⟨i0, hi, hz0, hz1, hz2⟩ := info_parts info_ex
    obtain ⟨j0, hj, hy0, hy1, hy2⟩ := info_parts info_st
    have HW := hide hw
    have HR := hide hr
    have HBAN := hide hban
    have IH := hide ih
    have hlc := len_cnt l
    clear hw hr hban ih
    go_enter Tryz.func49, Tryz.ntmps49
    go_wp2_with fail
    go_loopw [1, 6, 7] (fun n x i wr => ∃ (k c : Nat) (v : Value), v = x ∧ k ≤ l.length ∧ i = .int .i64 k ∧ n = .int .i64 c ∧ Hid (c = no + cntL (l.take k)) ∧ OwnL wr w.heap.size 42 8 StC ban v (renL (l.take k) no) ∧ Below w.heap.size w wr) (fun _ _ i _ => l.length - (intOf i).toNat)
    case atStart => exact ⟨0, no, _, rfl, Nat.zero_le _, rfl, rfl, by simp [Hid, cntL], OwnL.nil _ _ _ _ _ _, bl _⟩
    case round =>
      obtain ⟨k, c, v, rfl, hk, rfl, rfl, HC, hown, hb⟩ := hrel
      have HOWN := hide hown
      clear hown
      by_cases hlt : k < l.length
      · obtain ⟨b, o, rfl⟩ := HR.out.addr (by omega)
        have hX : ∀ g ∈ v.ownBlock.toList ++ (wr.heap.size :: ban), g ∈ ban ∨ w.heap.size ≤ g := by
          intro g hg
          simp only [List.mem_append, Option.mem_toList, List.mem_cons] at hg
          rcases hg with hg | rfl | hg
          · exact .inr (HOWN.out.lt g hg).1
          · exact .inr hb.size
          · exact .inl hg
        have hat := (HR.out.get k hlt).has ((has_more hX).tr (has_av_below hb))
        have hXlt : ∀ g ∈ v.ownBlock.toList ++ (wr.heap.size :: ban), g < wr.heap.size + 1 := by
          intro g hg
          simp only [List.mem_append, Option.mem_toList, List.mem_cons] at hg
          rcases hg with hg | rfl | hg
          · have := (HOWN.out.lt g hg).2; omega
          · omega
          · have := HBAN.out g hg; have := hb.size; omega
        have hBX : wr.heap.size ∈ v.ownBlock.toList ++ (wr.heap.size :: ban) := by simp
        have hsub : ∀ g ∈ v.ownBlock.toList ++ ban, g ∈ v.ownBlock.toList ++ (wr.heap.size :: ban) := by
          intro g hg
          simp only [List.mem_append, List.mem_cons] at hg ⊢
          rcases hg with hg | hg
          · exact .inl hg
          · exact .inr (.inr hg)
        have HSUB := hide hsub
        obtain ⟨X, hXe⟩ : ∃ X, X = v.ownBlock.toList ++ (wr.heap.size :: ban) := ⟨_, rfl⟩
        rw [← hXe] at hat hXlt hBX HSUB
        obtain ⟨pa, pb, pe, ca, cb, ce, hcs, hsw, ha, hbo, hel⟩ := hat.val
        obtain ⟨c0, c1, c2, c3, c4, c5, c6, c7⟩ := hcs.has has_av
        have hbb := cell_lt c0
        simp only at hbb
        have hmem := List.getElem_mem hlt
        have hw1 := HW.out
        rw [wellM, List.all_eq_true] at hw1
        have hw2 := hw1 _ hmem
        simp only [Bool.and_eq_true] at hw2
        have hal := headM_args hw2.1.1
        have hct := cntL_take l k hlt
        have hct2 := St.cnt_eq l[k]
        have hct3 := cntL_take_le l (k + 1)
        have hc0 := HC.out
        have hcb : c + 1 + cntL l[k].body ≤ 200 := by omega
        have hce : c + 1 + cntL l[k].body + cntL l[k].els ≤ 200 := by omega
        have hcn : Hid (c + 1 + cntL l[k].body + cntL l[k].els = no + cntL (l.take (k + 1))) := hide (by omega)
        have hrt := renL_take l k no hlt
        rw [St.ren_eq, ← hc0] at hrt
        have HRT := hide hrt
        have IHB : Hid (∀ W, St.Row (av X W) l[k].body pb → (∀ g ∈ X, g < W.heap.size) → Calls Tryz.prog 49 #[.slice pb l[k].body.length cb, .int .i64 ((c : Int) + 1)] W (NumPost W X l[k].body (c + 1))) :=
          hide fun W hW hX => IH.out X l[k].body (c + 1) pb cb W hw2.1.2 (by omega) hX hW
        have IHE : Hid (∀ W, St.Row (av X W) l[k].els pe → (∀ g ∈ X, g < W.heap.size) → Calls Tryz.prog 49 #[.slice pe l[k].els.length ce, .int .i64 ((c : Int) + 1 + (cntL l[k].body : Nat))] W (NumPost W X l[k].els (c + 1 + cntL l[k].body))) :=
          hide fun W hW hX => IH.out X l[k].els (c + 1 + cntL l[k].body) pe ce W hw2.2 (by omega) hX hW
        have HA := hide ha
        have HBO := hide hbo
        have HEL := hide hel
        have HSW := hide hsw
        have hrl := renL_len (l.take k) no
        have hrl2 : (renL (l.take k) no).length + 1 ≤ 201 := by rw [hrl, List.length_take]; omega
        have HOWN' := HOWN
        clear hw1 hw2 hct hct2 hct3 hc0 hrt ha hbo hel hsw hat hcs hmem hX hXe hsub hrl
        have hci : (c : Int) ≤ 200 := by omega
        have HM0 := hide fun (C : Obj) => (OwnL.made0 (wr.alloc C) (wr.heap.size + 1) 68 5 ExC X (wr.heap.size + 1) (by simp) (by simp))
        have HIN := hide fun (C D : Obj) => (HA.out.has ((has_more (m := (Value.slice (some ⟨wr.heap.size + 1, 0, none⟩) 0 0).ownBlock.toList ++ X) (fun g hg => by
          simp only [Value.ownBlock, Option.toList, List.cons_append, List.nil_append, List.mem_cons] at hg
          rcases hg with rfl | hg
          · exact .inr (Nat.le_succ _)
          · exact .inl hg)).tr (has_av_below (((bl wr).al C).al D)))).pushin
        have hbb1 : ([] : List Ex).length + l[k].args.length ≤ maxLen := by unfold maxLen; simp; omega
        have hbb2 : (([] : List Ex).length + l[k].args.length) * 64 ≤ 140737488355328 := by simp; omega
        have hbb3 := fun (C D : Obj) => (show wr.heap.size + 1 ≤ ((wr.alloc C).alloc D).heap.size by simp)
        have HB1 := hide hbb1
        have HB2 := hide hbb2
        have HB3 := hide hbb3
        clear hbb1 hbb2 hbb3
        have HXG : Hid (∀ (C D : Obj) (w3 : World), ((wr.alloc C).alloc D).grownBy w3 (Value.slice (some ⟨wr.heap.size + 1, 0, none⟩) 0 0).ownBlock → w3.heap[wr.heap.size]? = some C ∧ Below wr.heap.size wr w3 ∧ wr.heap.size + 2 ≤ w3.heap.size) := hide fun C D w3 hg => by
          refine ⟨(hg.block _ (by simp; omega) (by simp [Value.ownBlock])).trans ?_, (((bl wr).al C).al D).grown hg (by simp; omega) (by simp [Value.ownBlock]), by have := hg.size; simpa using this⟩
          rw [Below.heap_alloc _ _ _ (by simp)]
          show (wr.heap.push _)[wr.heap.size]? = _
          simp
        have hXb : ∀ g ∈ [wr.heap.size], g < wr.heap.size + 1 ∧ g ∈ X := by simp [hBX]
        have hne1 : ¬ b = wr.heap.size := by omega
        have hne2 : ¬ wr.heap.size = b := by omega
        have HXLT := hide hXlt
        clear hXlt hBX
        go_wp2_with (at_builtin; refine wpList_pushin _ rfl _ _ 40 rfl (wr.heap.size + 1) 68 i0 _ 5 64 Tryz.underlying40 hi hz0 hz1 hz2 rfl (by decide) ExC ExC.mono X _ [] rfl (HM0.out _) pa ca l[k].args rfl (HIN.out _ _) HB1.out HB2.out (HB3.out _ _) ?_; intro va w3 hown3 hgrow3; obtain ⟨hx3, hB3, hs3⟩ := HXG.out _ _ _ hgrow3; have x5 := cell_at (j := 5) hx3 rfl; have y5 := free_at (j := 5) hx3; have HX3 := hide hx3; have c6 := cell_keep c6 hB3 (Nat.le_refl _); clear hx3 hgrow3; simp only [List.nil_append] at hown3; obtain ⟨aa, acap, rfl, hrowa, hal1, hal2⟩ := hown3.exs HXLT.out; have hrowa' := hide hrowa; clear hown3 hrowa)
        have hrowa := hrowa'.out
        have HRA := hide (hrowa.has (has_kept ((((Kept.refl [wr.heap.size] w3).set (g := wr.heap.size) (.inl (by simp)) 5 (.slice aa l[k].args.length acap))).sub fun g hg => .inl (hXb g hg).2)))
        have hB3' := hB3.setCell (p := ⟨wr.heap.size, 5, none⟩) (Nat.le_refl _) (.slice aa l[k].args.length acap)
        have HX3' := hide (heap_set (i := 5) HX3.out (.slice aa l[k].args.length acap))
        have hs3' : wr.heap.size + 2 ≤ (w3.setCell ⟨wr.heap.size, 5, none⟩ (.slice aa l[k].args.length acap)).heap.size := by simpa [World.setCell] using hs3
        have HXB := hide fun (W : World) (h : wr.heap.size + 2 ≤ W.heap.size) => (fun g hg => by have := HXLT.out g hg; omega : ∀ g ∈ X, g < W.heap.size)
        clear x5 y5 hrowa hrowa'
        (with_reducible refine (IHB.out _ (HBO.out.has (has_av_belowN hB3' (Nat.le_refl _))) (HXB.out _ hs3')).mono ?_)
        rintro r w4 ⟨⟨vb, rfl, hownb⟩, hb4⟩
        have hs4 := Nat.le_trans hs3' hb4.size
        have hB4 := hB3'.trans (hb4.mono (by omega))
        have HX4 := hide ((hb4.block _ (by omega)).trans HX3'.out)
        have HRA := hide (HRA.out.has (has_av_below hb4))
        obtain ⟨ba, bcap, rfl, hrowb, hbl1, hbl2⟩ := hownb.sts (HXB.out _ hs3')
        rw [renL_len] at hbl1
        have x6 := cell_at (j := 6) HX4.out rfl
        have y6 := free_at (j := 6) HX4.out
        have c7 := cell_keep c7 hB4 (Nat.le_refl _)
        clear hownb hs3 hs3' hB3 hB3' hb4 c6
        go_wp2_with fail
        have hB4' := hB4.setCell (p := ⟨wr.heap.size, 6, none⟩) (Nat.le_refl _) (.slice ba (renL l[k].body (c + 1)).length bcap)
        have HX4' := hide (heap_set (i := 6) HX4.out (.slice ba (renL l[k].body (c + 1)).length bcap))
        have hkX4 : Kept X w4 (w4.setCell ⟨wr.heap.size, 6, none⟩ (.slice ba (renL l[k].body (c + 1)).length bcap)) := ((Kept.refl [wr.heap.size] w4).set (g := wr.heap.size) (.inl (by simp)) 6 _).sub fun g hg => .inl (hXb g hg).2
        have HRA := hide (HRA.out.has (has_kept hkX4))
        have HRB := hide (hrowb.has (has_kept hkX4))
        have hs4' : wr.heap.size + 2 ≤ (w4.setCell ⟨wr.heap.size, 6, none⟩ (.slice ba (renL l[k].body (c + 1)).length bcap)).heap.size := by simpa [World.setCell] using hs4
        clear x6 y6 hrowb hkX4
        (with_reducible refine (IHE.out _ (HEL.out.has (has_av_belowN hB4' (Nat.le_refl _))) (HXB.out _ hs4')).mono ?_)
        rintro r w5 ⟨⟨ve, rfl, howne⟩, hb5⟩
        have hs5 := Nat.le_trans hs4' hb5.size
        have hB5 := hB4'.trans (hb5.mono (by omega))
        have HX5 := hide ((hb5.block _ (by omega)).trans HX4'.out)
        have HRA := hide (HRA.out.has (has_av_below hb5))
        have HRB := hide (HRB.out.has (has_av_below hb5))
        obtain ⟨ea, ecap, rfl, hrowe, hel1, hel2⟩ := howne.sts (HXB.out _ hs4')
        rw [renL_len] at hel1
        have hkX5 : Kept X w5 (w5.setCell ⟨wr.heap.size, 7, none⟩ (.slice ea (renL l[k].els (c + 1 + cntL l[k].body)).length ecap)) := ((Kept.refl [wr.heap.size] w5).set (g := wr.heap.size) (.inl (by simp)) 7 _).sub fun g hg => .inl (hXb g hg).2
        have HRA := hide (HRA.out.has (has_kept hkX5))
        have HRB := hide (HRB.out.has (has_kept hkX5))
        have HRE := hide (hrowe.has (has_kept hkX5))
        have hB5' := hB5.setCell (p := ⟨wr.heap.size, 7, none⟩) (Nat.le_refl _) (.slice ea (renL l[k].els (c + 1 + cntL l[k].body)).length ecap)
        have HOWN5 := hide fun o => HOWN.out.below StC.mono (hB5'.alloc (by simp [World.setCell]; omega) o)
        have HV5 := hide fun o => ((⟨aa, ba, ea, acap, bcap, ecap, rfl, ⟨HSW.out.k, (show I64 (c : Int) by unfold I64; omega), HSW.out.s, HSW.out.t, HSW.out.c, hal1, hal2, (show (renL l[k].body (c + 1)).length ≤ bcap by rw [renL_len]; exact hbl1), hbl2, (show (renL l[k].els (c + 1 + cntL l[k].body)).length ≤ ecap by rw [renL_len]; exact hel1), hel2⟩, HRA.out.has ((has_av_below ((bl _).al o)).tr (has_sub HSUB.out)), HRB.out.has ((has_av_below ((bl _).al o)).tr (has_sub HSUB.out)), HRE.out.has ((has_av_below ((bl _).al o)).tr (has_sub HSUB.out))⟩ : StC (av (v.ownBlock.toList ++ ban) ((w5.setCell ⟨wr.heap.size, 7, none⟩ (.slice ea (renL l[k].els (c + 1 + cntL l[k].body)).length ecap)).alloc o)) (.mk l[k].kind c l[k].name l[k].typ l[k].callee l[k].args (renL l[k].body (c + 1)) (renL l[k].els (c + 1 + cntL l[k].body))) _))
        have q0 := cell_at (j := 0) HX5.out rfl
        have q1 := cell_at (j := 1) HX5.out rfl
        have q2 := cell_at (j := 2) HX5.out rfl
        have q3 := cell_at (j := 3) HX5.out rfl
        have q4 := cell_at (j := 4) HX5.out rfl
        have q5 := cell_at (j := 5) HX5.out rfl
        have q6 := cell_at (j := 6) HX5.out rfl
        have q7 := cell_at (j := 7) HX5.out rfl
        have y7 := free_at (j := 7) HX5.out
        have hsz5 : w5.heap.size = (w5.setCell ⟨wr.heap.size, 7, none⟩ (.slice ea (renL l[k].els (c + 1 + cntL l[k].body)).length ecap)).heap.size := by simp [World.setCell]
        have HN5 := hide fun xs => news_row (w5.setCell ⟨wr.heap.size, 7, none⟩ (.slice ea (renL l[k].els (c + 1 + cntL l[k].body)).length ecap)) xs 42 w5.heap.size hsz5
        have HLM : Hid ((renL (l.take k) no).length + 1 ≤ maxLen) := hide (by unfold maxLen; omega)
        have HLB : Hid (((renL (l.take k) no).length + 1) * 128 ≤ 140737488355328) := hide (by omega)
        have HW5 : Hid (∀ o, w.heap.size ≤ ((w5.setCell ⟨wr.heap.size, 7, none⟩ (.slice ea (renL l[k].els (c + 1 + cntL l[k].body)).length ecap)).alloc o).heap.size) := hide fun o => by have := hb.size; simp [World.setCell]; omega
        clear hrowe howne hkX5 c7 hsz5
        go_wp2_with (at_builtin; refine wpList_push _ rfl _ _ 23 rfl w.heap.size 42 j0 _ 8 128 Tryz.underlying23 hj hy0 hy1 hy2 rfl (by decide) StC StC.mono ban v (renL (l.take k) no) rfl (HOWN5.out _) ⟨w5.heap.size, 0, none⟩ 1 _ (.mk l[k].kind c l[k].name l[k].typ l[k].callee l[k].args (renL l[k].body (c + 1)) (renL l[k].els (c + 1 + cntL l[k].body))) rfl rfl (HN5.out _) (by simp [Value.oneCell']) (HV5.out _) HLM.out HLB.out (HW5.out _) ?_; intro v' w6 hown6 hgrow6)
        go_roundw
        case rel =>
          refine ⟨k + 1, c + 1 + cntL l[k].body + cntL l[k].els, v', rfl, by omega, by go_num, by go_num, hcn.out, by rw [HRT.out]; exact hown6, ?_⟩
          exact ((hb.trans (hB5'.mono hb.size)).alloc (by have := hb.size; simp [World.setCell]; omega) _).grown hgrow6 (by have := hb.size; simp [World.setCell]; omega) (fun j hj => (HOWN.out.lt j hj).1)
        case measure => simp [intOf]; omega
      · obtain rfl : k = l.length := by omega
        have h1 := HC.out
        have h2 := HOWN.out
        rw [List.take_length] at h1 h2
        have HE := hide (show (c : Int) = ((no + cntL l : Nat) : Int) by rw [h1])
        have HO := hide h2
        clear h1 h2
        go_wp2_with fail
        go_ret2
        rw [HE.out]
        exact ⟨⟨_, rfl, HO.out⟩, hb⟩
end Go.Proofs.YtgeleppmhhodiaaGreatDoor
