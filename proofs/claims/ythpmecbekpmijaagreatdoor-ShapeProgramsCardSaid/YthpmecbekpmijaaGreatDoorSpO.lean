/- shape.Number answers the numbered functions, in rows of its own: the walk. -/
import Derived.Test.YthpmecbekpmijaaGreatDoorSpN
import Derived.Deep.RegionHeld3
namespace Go.Proofs.YthpmecbekpmijaaGreatDoor
open Go Go.RowKit
set_option linter.unusedSimpArgs false
set_option linter.unusedVariables false
set_option linter.unnecessarySimpa false
theorem numberM_none {l : List Fn} (h : (l.any fun f => !fnOk f) = true) : numberM l = [] := by
  unfold numberM
  rw [if_neg]
  rintro ⟨_, h2⟩
  obtain ⟨f, hf, h3⟩ := List.any_eq_true.1 h
  rw [h2 f hf] at h3
  cases h3
theorem numberM_all {l : List Fn} (hl : l.length ≤ 20) (h : (l.any fun f => !fnOk f) = false) : numberM l = l.map numFn ∧ ∀ f ∈ l, fnOk f = true := by
  have h2 : ∀ f ∈ l, fnOk f = true := fun f hf => by
    have := List.any_eq_false.1 h f hf
    simpa using this
  exact ⟨by unfold numberM; rw [if_pos ⟨hl, h2⟩], h2⟩
theorem NbPost.nil {w w' : World} {v : Value} (h : Below w.heap.size w w') : NbPost w [] (.returned (.agg #[.slice none 0 0])) w' := ⟨⟨none, 0, rfl, Nat.le_refl _, Nat.zero_le _, .inl rfl⟩, h⟩
theorem fn_parts {f : Fn} (h : fnOk f = true) : wellM 20 f.body = true ∧ cntL f.body ≤ 200 ∧ f.params.length ≤ 8 := by
  simp only [fnOk, Bool.and_eq_true, decide_eq_true_eq] at h
  exact ⟨h.2.1, h.2.2, h.1.1.1.2⟩
set_option maxRecDepth 20000 in
set_option maxHeartbeats 8000000 in
theorem number_any (l : List Fn) (a : Option Addr) (cap : Nat) (w : World) (hl : Fns w l a cap) (hT : Tab w) :
    Calls Tryz.prog 17 #[.agg #[.slice a l.length cap]] w (NbPost w (numberM l)) := by
  have hlen : l.length ≤ 9223372036854775807 := Nat.le_trans hl.len hl.cap
  by_cases hl20 : (20 : Int) < (l.length : Int)
  · have e : numberM l = [] := by unfold numberM; rw [if_neg]; rintro ⟨h, _⟩; omega
    rw [e]
    clear e hl hT
    go_enter Tryz.func17, Tryz.ntmps17
    go_wp2_with fail
    exact bodyPost_ret (v := .agg #[.slice none 0 0]) (by simp [results, Tryz.results17, go_sem]) rfl (NbPost.nil (v := .bool true) (((bl w).al _).al _))
  have hCF := fun W (hW : Below w.heap.size w W) => containsFunc_fns l (fun f => !fnOk f) a cap 41 #[] (fun _ _ => by kernel_rfl) W (hl.keep hW (Nat.le_refl _)) (fun i hi v W' hW' hv => by
    have := number1_any l[i] v W' hv (hT.below (hW.tr hW'))
    exact this) _ rfl
  obtain ⟨q, hq⟩ : ∃ q, (l.any fun f => !fnOk f) = q := ⟨_, rfl⟩
  simp only [hq] at hCF
  have HCF := hide hCF
  have HW1 : Hid (Below w.heap.size w ((w.alloc (.cells #[.slice a l.length cap] 38)).alloc (.cells #[.slice none 0 0] 38))) := hide (((bl w).al _).al _)
  have HR1 : Hid ((((w.alloc (.cells #[.slice a l.length cap] 38)).alloc (.cells #[.slice none 0 0] 38))).heap[w.heap.size + 1]? = some (.cells #[.slice none 0 0] 38 (0, 0))) := hide (by
    rw [show w.heap.size + 1 = (w.alloc (.cells #[.slice a l.length cap] 38)).heap.size by simp]
    exact heap_alloc_new _ _)
  have HP1 : Hid ((((w.alloc (.cells #[.slice a l.length cap] 38)).alloc (.cells #[.slice none 0 0] 38))).heap[w.heap.size]? = some (.cells #[.slice a l.length cap] 38 (0, 0))) := hide (by
    rw [Below.heap_alloc _ _ _ (by simp)]
    exact heap_alloc_new _ _)
  clear hCF
  cases q
  case true =>
    have HE := hide (numberM_none hq)
    clear hl hT hq
    go_enter Tryz.func17, Tryz.ntmps17
    go_wp2_with fail
    (with_reducible refine (HCF.out _ HW1.out).mono ?_)
    rintro r w1 ⟨rfl, hb1⟩
    have HB1 := hide (HW1.out.tr hb1)
    have hr := (hb1.block _ (by simp)).trans HR1.out
    have r0 := cell_at (j := 0) hr rfl
    have f0 := free_at (j := 0) hr
    have hrl := (Array.getElem?_eq_some_iff.1 hr).1
    clear hr hb1
    go_wp2_with fail
    refine bodyPost_ret (v := .agg #[.slice none 0 0]) (by simp [results, Tryz.results17, go_sem, r0]) rfl ?_
    rw [HE.out]
    exact NbPost.nil (v := .bool true) (HB1.out.setCell (by simp) _)
  case false =>
    obtain ⟨hall, hok⟩ := numberM_all (by omega) hq
    have HE := hide hall
    have HOK := hide hok
    have hl20' : l.length ≤ 20 := by omega
    have HL := hide hl
    have HCL := hide fun (W : World) (hW : Below w.heap.size w W) => clone_fns l a cap W (hl.keep hW (Nat.le_refl _)) (by omega)
    clear hl hT hq hall hok
    go_enter Tryz.func17, Tryz.ntmps17
    go_wp2_with fail
    (with_reducible refine (HCF.out _ HW1.out).mono ?_)
    rintro r w1 ⟨rfl, hb1⟩
    have HB1 := hide (HW1.out.tr hb1)
    have HR1' := hide ((hb1.block _ (by simp)).trans HR1.out)
    have HP1' := hide ((hb1.block _ (by simp; omega)).trans HP1.out)
    have p0 := cell_at (j := 0) HP1'.out rfl
    have hpl := (Array.getElem?_eq_some_iff.1 HR1'.out).1
    have hpl' : w.heap.size < w1.heap.size := by omega
    clear hb1
    go_wp2_with fail
    (with_reducible refine (HCL.out _ HB1.out).mono ?_)
    rintro r w2 ⟨⟨v, rfl, hown⟩, hb2⟩
    have HB2 := hide (HB1.out.tr hb2)
    have HR2 := hide ((hb2.block _ hpl).trans HR1'.out)
    have HP2 := hide ((hb2.block _ hpl').trans HP1'.out)
    have p0 := cell_at (j := 0) HP2.out rfl
    have hpl2 := Nat.lt_of_lt_of_le hpl hb2.size
    have hpl2' := Nat.lt_of_lt_of_le hpl' hb2.size
    rcases hown.block with ⟨rfl, rfl⟩ | ⟨g, cap', C, hv, hg0, hg1, hgC, h1, h2⟩
    · clear hown hb2
      go_wp2_with fail
      go_loopw [4, 25] (fun _ i wr => i = .int .i64 0 ∧ wr = w2.alloc (.cells #[.slice none 0 0] 38)) (fun _ _ _ => 0)
      case atStart => exact ⟨rfl, rfl⟩
      case round =>
        obtain ⟨rfl, rfl⟩ := hrel
        have r0 := cell_at (j := 0) HR2.out rfl
        have f0 := free_at (j := 0) HR2.out
        have key : ((w2.setCell ⟨w.heap.size + 1, 0, none⟩ (.slice none 0 0)).alloc (.cells #[.slice none 0 0] 38)).cell? ⟨w.heap.size + 1, 0, none⟩ = some (.slice none 0 0) := by
          rw [World.cell?_alloc_lt _ _ _ (by simpa [World.setCell] using hpl2)]
          exact set_same r0
        go_wp2_with fail
        refine bodyPost_ret (v := .agg #[.slice none 0 0]) (by simp [results, Tryz.results17, go_sem, key]) rfl ?_
        rw [HE.out]
        exact NbPost.nil (v := .bool true) ((HB2.out.setCell (by simp) _).al _)
    · have HNB : Hid (NbSt (w2.alloc (.cells #[.slice (some ⟨g, 0, none⟩) l.length cap'] 38)) g 0 l) := hide (by
        refine ⟨by simp only [List.take_zero, List.map_nil, fnsOwn]; simp; omega, fun i hi _ => ?_, ⟨C, (Below.heap_alloc _ _ _ hg1).trans hgC⟩⟩
        obtain ⟨_, _, c, _, hx, _, hc⟩ := hown.get FnC.mono hv i hi
        obtain ⟨pp, pb, cp, cb, rfl, _⟩ := hx
        have hk := fun (j : Nat) (u : Value) (h : w2.cell? ⟨g, j, none⟩ = some u) => cell_keep h ((bl w2).al (.cells #[.slice (some ⟨g, 0, none⟩) l.length cap'] 38)) (Nat.le_refl _)
        exact ⟨_, _, _, ⟨hk _ _ (by simpa using hc 0 _ rfl), hk _ _ (hc 1 _ rfl), hk _ _ (hc 2 _ rfl), hk _ _ (hc 3 _ rfl), hk _ _ (hc 4 _ rfl)⟩⟩)
      subst hv
      have hgb : w.heap.size ≤ g := Nat.le_trans HB1.out.size hg0
      have HH1 := hide h1
      have HH2 := hide h2
      have HOB : Hid ((w2.alloc (.cells #[.slice (some ⟨g, 0, none⟩) l.length cap'] 38)).heap[w2.heap.size]? = some (.cells #[.slice (some ⟨g, 0, none⟩) l.length cap'] 38 (0, 0))) := hide (heap_alloc_new _ _)
      have HRB : Hid ((w2.alloc (.cells #[.slice (some ⟨g, 0, none⟩) l.length cap'] 38)).heap[w.heap.size + 1]? = some (.cells #[.slice none 0 0] 38 (0, 0))) := hide ((Below.heap_alloc _ _ _ hpl2).trans HR2.out)
      clear hown hb2 hgC h1 h2
      go_wp2_with fail
      go_loopw [4, 25] (fun _ i wr => ∃ k : Nat, k ≤ l.length ∧ i = .int .i64 k ∧ Hid (NbSt wr g k l) ∧ Hid (wr.heap[w2.heap.size]? = some (.cells #[.slice (some ⟨g, 0, none⟩) l.length cap'] 38 (0, 0))) ∧ Hid (wr.heap[w.heap.size + 1]? = some (.cells #[.slice none 0 0] 38 (0, 0))) ∧ Below w.heap.size w wr ∧ w2.heap.size < wr.heap.size) (fun _ i _ => l.length - (intOf i).toNat)
      case atStart => exact ⟨0, Nat.zero_le _, rfl, HNB.out, HOB.out, HRB.out, HB2.out.al _, by simp⟩
      case round =>
        obtain ⟨k, hk, rfl, HS, HO, HR, hb, hws⟩ := hrel
        by_cases hlt : k < l.length
        · obtain ⟨b, o, rfl⟩ := HL.out.addr (by omega)
          obtain ⟨pp, pb, cp, cb, c0, c1, c2, c3, c4, hfw, hps, hrow⟩ := (HL.out.at_ b o rfl k hlt).has (has_below hb)
          obtain ⟨hwl, hcn, hp8⟩ := fn_parts (HOK.out _ (List.getElem_mem hlt))
          obtain ⟨D, hD⟩ := HS.out.blk
          obtain ⟨vp0, vb0, vc0, hfc⟩ := HS.out.rest k hlt (Nat.le_refl _)
          have HD := hide hD
          have HFC := hide hfc
          have hgl : g < wr.heap.size := (Array.getElem?_eq_some_iff.1 hD).1
          have HCP := hide fun (W : World) (hW : Below wr.heap.size wr W) => copied_any 20 l[k].body pb cb W hwl hcn (hrow.has (has_below hW))
          have HVN := hide fun (W : World) (a2 : Option Addr) (cp2 lo hi : Nat) (h : rowOwn W l[k].body a2 lo hi) (hn : NumAt W (wr.heap.size + 1) 0) (hlo : wr.heap.size + 1 < lo) => visit_number (wr.heap.size + 1) 200 l[k].body a2 cp2 0 lo hi W hcn (by omega) h hn hlo
          have HPM := hide fun (W : World) (hW : Below wr.heap.size wr W) => clone_pms l[k].params pp cp W (hps.has (has_below hW)) (by omega)
          have HFW := hide (⟨hfw.s, hfw.r⟩ : l[k].name.length ≤ maxLen ∧ I64 l[k].result)
          have HCN := hide hcn
          have HW2 : Hid (Below wr.heap.size wr ((wr.alloc (.cells #[.string ⟨l[k].name.toArray⟩, .slice pp l[k].params.length cp, .int .i64 l[k].result, .slice pb l[k].body.length cb, .int .i64 l[k].count] 42)).alloc (.cells #[.int .i64 0] 3))) := hide (((bl wr).al _).al _)
          have HN2 : Hid (NumAt ((wr.alloc (.cells #[.string ⟨l[k].name.toArray⟩, .slice pp l[k].params.length cp, .int .i64 l[k].result, .slice pb l[k].body.length cb, .int .i64 l[k].count] 42)).alloc (.cells #[.int .i64 0] 3)) (wr.heap.size + 1) 0) := hide (by
            unfold NumAt
            rw [show wr.heap.size + 1 = (wr.alloc (.cells #[.string ⟨l[k].name.toArray⟩, .slice pp l[k].params.length cp, .int .i64 l[k].result, .slice pb l[k].body.length cb, .int .i64 l[k].count] 42)).heap.size by simp]
            exact heap_alloc_new _ _)
          have HF2 : Hid (((wr.alloc (.cells #[.string ⟨l[k].name.toArray⟩, .slice pp l[k].params.length cp, .int .i64 l[k].result, .slice pb l[k].body.length cb, .int .i64 l[k].count] 42)).alloc (.cells #[.int .i64 0] 3)).heap[wr.heap.size]? = some (.cells #[.string ⟨l[k].name.toArray⟩, .slice pp l[k].params.length cp, .int .i64 l[k].result, .slice pb l[k].body.length cb, .int .i64 l[k].count] 42 (0, 0))) := hide (by
            rw [Below.heap_alloc _ _ _ (by simp)]
            exact heap_alloc_new _ _)
          have HSZ2 : Hid (((wr.alloc (.cells #[.string ⟨l[k].name.toArray⟩, .slice pp l[k].params.length cp, .int .i64 l[k].result, .slice pb l[k].body.length cb, .int .i64 l[k].count] 42)).alloc (.cells #[.int .i64 0] 3)).heap.size = wr.heap.size + 2) := hide (by simp)
          clear hfw hps hrow hwl hcn hp8 hD hfc
          go_wp2_with fail
          (with_reducible refine (HCP.out _ HW2.out).mono ?_)
          rintro r w3 ⟨⟨a2, cp2, rfl, q1, q2, q3⟩, hb3⟩
          have HB3 := hide (HW2.out.tr hb3)
          have HN3 := hide (HN2.out.below hb3)
          have HF3 := hide ((hb3.block _ (by have := HSZ2.out; omega)).trans HF2.out)
          have HE3 := hide (⟨q1, q2⟩ : _ ∧ _)
          have hz3 := hb3.size
          rw [HSZ2.out] at q3 hz3
          have HR3 := hide q3
          clear q1 q2 q3 hb3
          go_wp2_with fail
          (with_reducible refine (HVN.out _ _ _ _ _ HR3.out HN3.out (by omega)).mono ?_)
          rintro r w4 ⟨rfl, hr4, hn4, hk4⟩
          have HR4 := hide hr4
          have hnm : ∀ x, x ≤ wr.heap.size → x ∉ (wr.heap.size + 1) :: between (wr.heap.size + 2) w3.heap.size := fun x hx => by simp only [List.mem_cons, mem_between]; omega
          have HB4 : Hid (Below wr.heap.size wr w4) := hide (hk4.below HB3.out fun x hx => by simp only [List.mem_cons, mem_between] at hx; omega)
          have hz4 := hk4.size
          have HF4 := hide (hk4.heap (hnm _ (Nat.le_refl _)) HF3.out)
          have HO4 := hide ((HB4.out.block _ hws).trans HO.out)
          rw [Nat.zero_add] at hn4
          have HN4 := hide hn4
          have z0 := cell_at (j := 0) hn4 rfl
          have o0 := cell_at (j := 0) HO4.out rfl
          have x1 := cell_at (j := 1) HF4.out rfl
          have hnl := hn4.lt
          have hol : w2.heap.size < w4.heap.size := by omega
          have hxl : wr.heap.size < w4.heap.size := by omega
          clear hr4 hn4 hk4 hnm
          go_wp2_with fail
          have hg1 : ¬ g = w2.heap.size := by omega
          have hg2 : ¬ g = wr.heap.size := by omega
          have hg3 : ¬ g = wr.heap.size + 1 := by omega
          have hg1' : ¬ w2.heap.size = g := by omega
          have hg2' : ¬ wr.heap.size = g := by omega
          have hg3' : ¬ wr.heap.size + 1 = g := by omega
          go_region_held3 (fun w' => w'.cell? ⟨w2.heap.size, 0, none⟩ = some (.slice (some ⟨g, 0, none⟩) l.length cap') ∧ w'.cell? ⟨wr.heap.size, 1, none⟩ = some (.slice pp l[k].params.length cp) ∧ w'.cell? ⟨wr.heap.size + 1, 0, none⟩ = some (.int .i64 (cntL l[k].body : Nat)))
            (first | exact ⟨o0, x1, z0⟩ | exact ⟨cell_keep (w := w4.drew) o0 hb5 (Nat.le_refl _), cell_keep (w := w4.drew) x1 hb5 (Nat.le_refl _), cell_keep (w := w4.drew) z0 hb5 (Nat.le_refl _)⟩ | go_keep)
            (first | (go_at_call 47; (with_reducible refine (HPM.out _ ?_).mono ?_); (· (first | exact HB4.out | exact HB4.out.dr)); rintro r w5 ⟨⟨vp, rfl, hown5⟩, hb5⟩; obtain ⟨vpa, vpc, rfl, -, -⟩ := hown5.slice; have HOWN5 := hide hown5; (first | have HB45 := hide (((bl w4).dr).tr hb5) | have HB45 := hide hb5); (first | have HB5 := hide (HB4.out.tr hb5) | have HB5 := hide (HB4.out.dr.tr hb5)); have HD5 := hide ((HB5.out.block g hgl).trans HD.out); have hz5 := hb5.size; have e1 := cell_keep HFC.out.c1 HB5.out (Nat.le_refl _); have e3 := cell_keep HFC.out.c3 HB5.out (Nat.le_refl _); have e4 := cell_keep HFC.out.c4 HB5.out (Nat.le_refl _); have y1 := free_at (j := k * 5 + 1) HD5.out; have y3 := free_at (j := k * 5 + 3) HD5.out; have y4 := free_at (j := k * 5 + 4) HD5.out; have hgl5 := Nat.lt_of_lt_of_le hgl HB5.out.size; clear hown5))
          all_goals
            have HST := hide (HS.out.step hlt HB5.out HB45.out hgl (by omega) hz4 HR4.out HOWN5.out HE3.out HFW.out HCN.out)
            have hK6 := fset3_kept w5 g k (.slice vpa l[k].params.length vpc) (.slice a2 l[k].body.length cp2) (.int .i64 (cntL l[k].body : Nat))
            have HO6 := hide (hK6.heap (by simpa using hg1') ((HB5.out.block _ hws).trans HO.out))
            have HR6 := hide (hK6.heap (by simp; omega) ((HB5.out.block _ (by omega)).trans HR.out))
            have HB6 := hide ((((hb.tr HB5.out).setCell (p := ⟨g, k * 5 + 1, none⟩) hgb (.slice vpa l[k].params.length vpc)).setCell (p := ⟨g, k * 5 + 3, none⟩) hgb (.slice a2 l[k].body.length cp2)).setCell (p := ⟨g, k * 5 + 4, none⟩) hgb (.int .i64 (cntL l[k].body : Nat)))
            have HZ6 := hide (Nat.lt_of_lt_of_le (Nat.lt_of_lt_of_le hws HB5.out.size) hK6.size)
            clear hK6
            go_wp2_with fail
            go_roundw
            case rel => exact ⟨k + 1, by omega, by go_num, HST.out, HO6.out, HR6.out, HB6.out, HZ6.out⟩
            case measure => simp [intOf]; omega
        · obtain rfl : k = l.length := by omega
          have r0 := cell_at (j := 0) HR.out rfl
          have f0 := free_at (j := 0) HR.out
          have o0 := cell_at (j := 0) HO.out rfl
          have hrl : w.heap.size + 1 < wr.heap.size := by omega
          obtain ⟨D, hD⟩ := HS.out.blk
          have hgr : g ≠ w.heap.size + 1 := by omega
          have HFIN : Hid (PrOwn (wr.setCell ⟨w.heap.size + 1, 0, none⟩ (.slice (some ⟨g, 0, none⟩) l.length cap')) w.heap.size (l.map numFn) (some ⟨g, 0, none⟩) cap') := hide (by
            have h0 := HS.out.own
            rw [List.take_length] at h0
            have hK := (Kept.refl [w.heap.size + 1] wr).set (g := w.heap.size + 1) (.inl (by simp)) 0 (.slice (some ⟨g, 0, none⟩) l.length cap')
            refine ⟨by rw [List.length_map]; exact HH1.out, HH2.out, .inr ⟨g, D, _, rfl, hgb, hK.heap (by simpa using hgr) hD, ?_⟩⟩
            have h1 := h0.stay (w' := wr.setCell ⟨w.heap.size + 1, 0, none⟩ (.slice (some ⟨g, 0, none⟩) l.length cap')) (fun j v _ _ hv => hK.cell (by simpa using hgr) hv) (Stay.of hK (by simp; omega))
            exact h1.wide (by simp [World.setCell]))
          have hlm : (l.map numFn).length = l.length := List.length_map ..
          have HLM := hide hlm
          clear hlm hD
          go_wp2_with fail
          refine bodyPost_ret (v := .agg #[.slice (some ⟨g, 0, none⟩) l.length cap']) (by simp [results, Tryz.results17, go_sem, r0]) rfl ?_
          rw [HE.out]
          exact ⟨⟨_, _, by rw [HLM.out], HFIN.out⟩, hb.setCell (by simp) _⟩
end Go.Proofs.YthpmecbekpmijaaGreatDoor
