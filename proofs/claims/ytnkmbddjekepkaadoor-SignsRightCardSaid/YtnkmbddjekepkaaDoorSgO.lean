/- signs.Text. -/
import Derived.Test.YtnkmbddjekepkaaDoorSgN
import Derived.Deep.RegionWith
namespace Go.Proofs.YtnkmbddjekepkaaDoor
open Go Go.RowKit
set_option linter.unusedSimpArgs false
set_option linter.unusedVariables false
set_option linter.unnecessarySimpa false
theorem typed_nat {t : Int} (h : typedB t = true) : ∃ n : Nat, t = (n : Int) ∧ n < 4 := by
  rcases (typedB_iff t).1 h with rfl | rfl | rfl
  · exact ⟨1, rfl, by omega⟩
  · exact ⟨2, rfl, by omega⟩
  · exact ⟨3, rfl, by omega⟩
set_option maxRecDepth 20000 in
set_option maxHeartbeats 4000000 in
theorem text12_any (s : Sg) (v : Value) (w : World) (hv : s.Val w v) (hw : s.wf) (hT : Tab w) (hWd : Words w) :
    Calls Tryd.prog 15 #[v] w fun r w' => r = .returned (.string ⟨(textM s).toArray⟩) ∧ Below w.heap.size w w' := by
  obtain ⟨a, cap, rfl, hi⟩ := hv
  have HN := hide fun (W : World) (hW : Below w.heap.size w W) => name_any s.name W (hT.below hW) hw.1
  have HI := hide hi
  have HWD := hide hWd
  have hlen := hi.len
  have hcap := hi.cap
  have hnl := hw.1
  clear hi hw hT hWd
  obtain ⟨i0, hi, hz0, hz1, hz2⟩ := info_parts info_str
  cases q1 : nameOk s.name
  · have HE := hide (textM_head (s := s) (by unfold headSg; rw [q1]; rfl))
    rw [q1] at HN
    clear q1
    go_enter Tryd.func15, Tryd.ntmps15
    go_wp2_with (go_at_call 30; refine (HN.out _ ((bl w).al _)).mono ?_; rintro r w1 ⟨rfl, hb1⟩; have hB1 := ((bl w).al _).tr hb1; have HX1 := hide ((hb1.block w.heap.size (by simp)).trans (heap_alloc_new w (.cells #[.string ⟨s.name.toArray⟩, .slice a s.pars.length cap, .int .i64 s.res] 29))); obtain ⟨hc1, hf1⟩ := bcell hb1; clear hb1)
    go_ret
    exact ⟨by rw [HE.out]; rfl, hB1⟩
  rw [q1] at HN
  by_cases q2 : (8 : Int) < (s.pars.length : Int)
  · have HE := hide (textM_head (s := s) (by unfold headSg; rw [q1, decide_eq_false (by omega)]; rfl))
    clear q1
    go_enter Tryd.func15, Tryd.ntmps15
    go_wp2_with (go_at_call 30; refine (HN.out _ ((bl w).al _)).mono ?_; rintro r w1 ⟨rfl, hb1⟩; have hB1 := ((bl w).al _).tr hb1; have HX1 := hide ((hb1.block w.heap.size (by simp)).trans (heap_alloc_new w (.cells #[.string ⟨s.name.toArray⟩, .slice a s.pars.length cap, .int .i64 s.res] 29))); obtain ⟨hc1, hf1⟩ := bcell hb1; clear hb1)
    go_ret
    exact ⟨by rw [HE.out]; rfl, hB1⟩
  have hle : s.pars.length ≤ 8 := by omega
  have q2d : decide ((8 : Int) < (s.pars.length : Int)) = false := decide_eq_false q2
  have hn16 : s.name.length ≤ 16 := by
    simp only [nameOk, Bool.and_eq_true, decide_eq_true_eq] at q1
    exact q1.1.1.1.2
  cases q3 : s.res == 0
  · have g3 := bne_no' q3
    cases q4 : typedB s.res
    · have HE := hide (textM_head (s := s) (by have h0 : decide (s.res = 0) = false := decide_eq_false (by simpa using q3); unfold headSg; rw [q4, h0]; simp))
      have HTR := hide (fun W => typed12_any s.res W)
      rw [q4] at HTR
      clear q1 q4
      go_enter Tryd.func15, Tryd.ntmps15
      go_wp2_with (first | (go_at_call 30; refine (HN.out _ ((bl w).al _)).mono ?_; rintro r w1 ⟨rfl, hb1⟩; have hB1 := ((bl w).al _).tr hb1; have HX1 := hide ((hb1.block w.heap.size (by simp)).trans (heap_alloc_new w (.cells #[.string ⟨s.name.toArray⟩, .slice a s.pars.length cap, .int .i64 s.res] 29))); obtain ⟨hc1, hf1⟩ := bcell hb1; clear hb1) | (go_at_call 31; refine (HTR.out _).mono ?_; rintro r w2 ⟨rfl, hw2⟩; have hw2 := hw2.symm; subst hw2))
      go_ret
      exact ⟨by rw [HE.out]; rfl, hB1⟩
    · have HH : Hid (headSg s = true) := hide (by unfold headSg; rw [q1, decide_eq_true hle, q4]; simp)
      have HTR := hide (fun W => typed12_any s.res W)
      obtain ⟨rn, hrn, hr4⟩ := typed_nat q4
      have HRN := hide hrn
      rw [q4] at HTR
      clear q1 q4 hrn
      go_enter Tryd.func15, Tryd.ntmps15
      go_wp2_with (first | (go_at_call 30; refine (HN.out _ ((bl w).al _)).mono ?_; rintro r w1 ⟨rfl, hb1⟩; have hB1 := ((bl w).al _).tr hb1; have HX1 := hide ((hb1.block w.heap.size (by simp)).trans (heap_alloc_new w (.cells #[.string ⟨s.name.toArray⟩, .slice a s.pars.length cap, .int .i64 s.res] 29))); obtain ⟨hc1, hf1⟩ := bcell hb1; clear hb1) | (go_at_call 31; refine (HTR.out _).mono ?_; rintro r w2 ⟨rfl, hw2⟩; have hw2 := hw2.symm; subst hw2))
      have HBS := hide hB1
      clear hB1
      go_loopw [3, 31] (fun sv i wr => ∃ (k : Nat) (va : Option Addr) (vc : Nat), k ≤ s.pars.length ∧ i = .int .i64 k ∧ sv = .slice va k vc ∧ Hid (OwnL wr w1.heap.size 9 1 StrC [] (.slice va k vc) ((s.pars.take k).map wordB)) ∧ Hid (∀ j (h : j < s.pars.length), j < k → typedB s.pars[j] = true) ∧ Hid (Below w1.heap.size w1 wr)) (fun _ i _ => s.pars.length - (intOf i).toNat)
      case atStart => exact ⟨0, none, 0, Nat.zero_le _, rfl, rfl, hide (OwnL.nil _ _ _ _ _ _), hide (fun _ _ h => absurd h (Nat.not_lt_zero _)), bl _⟩
      case round =>
        obtain ⟨k, va, vc, hk, rfl, rfl, HO, hn, HBR⟩ := hrel
        have HBW := hide (HBS.out.tr HBR.out)
        clear hc1 hf1
        by_cases hlt : k < s.pars.length
        · obtain ⟨b, o, rfl⟩ := HI.out.addr (by omega)
          have c0 := cell_keep (HI.out.at_ b o rfl k hlt) HBW.out (Nat.le_refl _)
          have hbl := cell_lt c0
          simp only at hbl
          have HTY := hide (fun W => typed12_any s.pars[k] W)
          cases q5 : typedB s.pars[k]
          · have HE := hide (textM_bad hlt q5)
            rw [q5] at HTY
            clear q5
            go_wp2_with (go_at_call 31; refine (HTY.out _).mono ?_; rintro r w2 ⟨rfl, hw2⟩; have hw2 := hw2.symm; subst hw2)
            go_ret
            exact ⟨by rw [HE.out]; rfl, HBW.out⟩
          · obtain ⟨tn, htn, ht4⟩ := typed_nat q5
            rw [q5] at HTY
            have HQ := hide q5
            have HTN := hide htn
            rw [htn] at c0 HTY
            have d0 := (HWD.out.below HBW.out) tn ht4
            have hgl := cell_lt d0
            simp only at hgl
            have hll : ((s.pars.take k).map wordB).length = k := by simp; omega
            have HO2 := hide (HO.out.al StrC.mono (.cells #[.string ⟨(wordB (tn : Int)).toArray⟩] 9))
            have HB2 := hide (HBR.out.al (.cells #[.string ⟨(wordB (tn : Int)).toArray⟩] 9))
            have HMA : Hid (((s.pars.take k).map wordB).length + 1 ≤ maxLen) := hide (by rw [hll]; unfold maxLen; omega)
            have HMB : Hid ((((s.pars.take k).map wordB).length + 1) * 16 ≤ 140737488355328) := hide (by rw [hll]; omega)
            have HNW := hide (news_row wr [.string ⟨(wordB (tn : Int)).toArray⟩] 9 wr.heap.size rfl)
            have HLEN : Hid (((s.pars.take k).map wordB ++ [wordB (tn : Int)]).length = k + 1) := hide (by rw [List.length_append, hll]; rfl)
            have HTK : Hid ((s.pars.take (k + 1)).map wordB = (s.pars.take k).map wordB ++ [wordB (tn : Int)]) := hide (by rw [List.take_succ_eq_append_getElem hlt, List.map_append, ← htn]; rfl)
            clear hll q5 htn
            go_wp2_with (first | (go_at_call 31; refine (HTY.out _).mono ?_; rintro r w2 ⟨rfl, hw2⟩; have hw2 := hw2.symm; subst hw2) | (at_builtin; refine wpList_push _ rfl _ _ 62 rfl w1.heap.size 9 i0 _ 1 16 Tryd.underlying62 hi hz0 hz1 hz2 rfl (by decide) StrC StrC.mono [] _ _ rfl HO2.out ⟨wr.heap.size, 0, none⟩ 1 [.string ⟨(wordB (tn : Int)).toArray⟩] (wordB (tn : Int)) rfl rfl HNW.out (by simp [Value.oneCell']) rfl HMA.out HMB.out HB2.out.size ?_; intro v2 w2 hown2 hgrow2; obtain ⟨va2, vc2, he2, -, -⟩ := hown2.slice; rw [HLEN.out] at he2; subst he2))
            go_roundw
            case rel =>
              refine ⟨k + 1, va2, vc2, by omega, by go_num, rfl, hide (by rw [HTK.out]; exact hown2), hide fun j hj hjk => ?_, HB2.out.grown hgrow2 HB2.out.size (fun g hg => (HO.out.lt g hg).1)⟩
              by_cases e : j = k
              · subst e; exact HQ.out
              · exact hn.out j hj (by omega)
            case measure => simp [intOf]; omega
        · obtain rfl : k = s.pars.length := by omega
          have HE := hide (textM_good HH.out (fun p hp => by
            obtain ⟨j, hj, rfl⟩ := List.mem_iff_getElem.1 hp
            exact hn.out j hj hj))
          have HXR := hide ((HBR.out.block _ (Array.getElem?_eq_some_iff.1 HX1.out).1).trans HX1.out)
          have x0 := cell_at (j := 0) HXR.out rfl
          have HJ : Hid (∀ W, Below wr.heap.size wr W → Calls Tryd.prog 32 #[.slice va s.pars.length vc, .string ⟨#[44, 32]⟩] W fun r w' => r = .returned (.string ⟨(joinB (s.pars.map wordB)).toArray⟩) ∧ Below W.heap.size W w') := hide fun W hW => by
            have ho := HO.out
            rw [List.take_length] at ho
            have := join12_any (s.pars.map wordB) _ W (ho.below StrC.mono hW) (by simpa using hle) (fun x hx => by obtain ⟨t, _, rfl⟩ := List.mem_map.1 hx; exact wordB_len t)
            exact this
          have hjl : (joinB (s.pars.map wordB)).length ≤ 56 := by
            have := joinB_len (s.pars.map wordB) (fun x hx => by obtain ⟨t, _, rfl⟩ := List.mem_map.1 hx; exact wordB_len t)
            rw [List.length_map] at this
            omega
          clear HO hn
          go_wp2_with fail
          have hB := (bl wr).dr
          go_region_with (go_at_call 32; (with_reducible refine (HJ.out _ hB).mono ?_); rintro r w5 ⟨rfl, hb⟩; have hB := hB.tr hb; have x0 := cell_keep x0 hB (Nat.le_refl _); clear hb)
          all_goals
           have HXF := hide ((hB.block _ (Array.getElem?_eq_some_iff.1 HXR.out).1).trans HXR.out)
           have HBF := hide (HBW.out.tr hB)
           have x2 := cell_at (j := 2) HXF.out rfl
          all_goals
           rw [HRN.out] at x2
           have g3' : ((rn : Int) == 0) = false := by rw [← HRN.out]; exact q3
           have g3'' : ((rn : Int) != 0) = true := bne_no' g3'
           have d0 := (HWD.out.below HBF.out) rn hr4
           have hgl := cell_lt d0
           simp only at hgl
           have hwl := wordB_len (rn : Int)
           go_wp2_with fail
           go_ret
           refine ⟨ret_str' ?_, HBF.out⟩
           rw [show (⟨#[40]⟩ : ByteArray) = ⟨([40] : Bytes).toArray⟩ from rfl, show (⟨#[41]⟩ : ByteArray) = ⟨([41] : Bytes).toArray⟩ from rfl, show (⟨#[32]⟩ : ByteArray) = ⟨([32] : Bytes).toArray⟩ from rfl, str_app, str_app, str_app, str_app, str_app, HE.out, if_neg (by simpa using q3), HRN.out]
           simp [upToB]
  · have g3 := bne_yes' q3
    have HH : Hid (headSg s = true) := hide (by have h0 : decide (s.res = 0) = true := decide_eq_true (by simpa using q3); unfold headSg; rw [q1, decide_eq_true hle, h0]; rfl)
    clear q1
    go_enter Tryd.func15, Tryd.ntmps15
    go_wp2_with (first | (go_at_call 30; refine (HN.out _ ((bl w).al _)).mono ?_; rintro r w1 ⟨rfl, hb1⟩; have hB1 := ((bl w).al _).tr hb1; have HX1 := hide ((hb1.block w.heap.size (by simp)).trans (heap_alloc_new w (.cells #[.string ⟨s.name.toArray⟩, .slice a s.pars.length cap, .int .i64 s.res] 29))); obtain ⟨hc1, hf1⟩ := bcell hb1; clear hb1))
    have HBS := hide hB1
    clear hB1
    go_loopw [3, 31] (fun sv i wr => ∃ (k : Nat) (va : Option Addr) (vc : Nat), k ≤ s.pars.length ∧ i = .int .i64 k ∧ sv = .slice va k vc ∧ Hid (OwnL wr w1.heap.size 9 1 StrC [] (.slice va k vc) ((s.pars.take k).map wordB)) ∧ Hid (∀ j (h : j < s.pars.length), j < k → typedB s.pars[j] = true) ∧ Hid (Below w1.heap.size w1 wr)) (fun _ i _ => s.pars.length - (intOf i).toNat)
    case atStart => exact ⟨0, none, 0, Nat.zero_le _, rfl, rfl, hide (OwnL.nil _ _ _ _ _ _), hide (fun _ _ h => absurd h (Nat.not_lt_zero _)), bl _⟩
    case round =>
      obtain ⟨k, va, vc, hk, rfl, rfl, HO, hn, HBR⟩ := hrel
      have HBW := hide (HBS.out.tr HBR.out)
      clear hc1 hf1
      by_cases hlt : k < s.pars.length
      · obtain ⟨b, o, rfl⟩ := HI.out.addr (by omega)
        have c0 := cell_keep (HI.out.at_ b o rfl k hlt) HBW.out (Nat.le_refl _)
        have hbl := cell_lt c0
        simp only at hbl
        have HTY := hide (fun W => typed12_any s.pars[k] W)
        cases q5 : typedB s.pars[k]
        · have HE := hide (textM_bad hlt q5)
          rw [q5] at HTY
          clear q5
          go_wp2_with (go_at_call 31; refine (HTY.out _).mono ?_; rintro r w2 ⟨rfl, hw2⟩; have hw2 := hw2.symm; subst hw2)
          go_ret
          exact ⟨by rw [HE.out]; rfl, HBW.out⟩
        · obtain ⟨tn, htn, ht4⟩ := typed_nat q5
          rw [q5] at HTY
          have HQ := hide q5
          have HTN := hide htn
          rw [htn] at c0 HTY
          have d0 := (HWD.out.below HBW.out) tn ht4
          have hgl := cell_lt d0
          simp only at hgl
          have hll : ((s.pars.take k).map wordB).length = k := by simp; omega
          have HO2 := hide (HO.out.al StrC.mono (.cells #[.string ⟨(wordB (tn : Int)).toArray⟩] 9))
          have HB2 := hide (HBR.out.al (.cells #[.string ⟨(wordB (tn : Int)).toArray⟩] 9))
          have HMA : Hid (((s.pars.take k).map wordB).length + 1 ≤ maxLen) := hide (by rw [hll]; unfold maxLen; omega)
          have HMB : Hid ((((s.pars.take k).map wordB).length + 1) * 16 ≤ 140737488355328) := hide (by rw [hll]; omega)
          have HNW := hide (news_row wr [.string ⟨(wordB (tn : Int)).toArray⟩] 9 wr.heap.size rfl)
          have HLEN : Hid (((s.pars.take k).map wordB ++ [wordB (tn : Int)]).length = k + 1) := hide (by rw [List.length_append, hll]; rfl)
          have HTK : Hid ((s.pars.take (k + 1)).map wordB = (s.pars.take k).map wordB ++ [wordB (tn : Int)]) := hide (by rw [List.take_succ_eq_append_getElem hlt, List.map_append, ← htn]; rfl)
          clear hll q5 htn
          go_wp2_with (first | (go_at_call 31; refine (HTY.out _).mono ?_; rintro r w2 ⟨rfl, hw2⟩; have hw2 := hw2.symm; subst hw2) | (at_builtin; refine wpList_push _ rfl _ _ 62 rfl w1.heap.size 9 i0 _ 1 16 Tryd.underlying62 hi hz0 hz1 hz2 rfl (by decide) StrC StrC.mono [] _ _ rfl HO2.out ⟨wr.heap.size, 0, none⟩ 1 [.string ⟨(wordB (tn : Int)).toArray⟩] (wordB (tn : Int)) rfl rfl HNW.out (by simp [Value.oneCell']) rfl HMA.out HMB.out HB2.out.size ?_; intro v2 w2 hown2 hgrow2; obtain ⟨va2, vc2, he2, -, -⟩ := hown2.slice; rw [HLEN.out] at he2; subst he2))
          go_roundw
          case rel =>
            refine ⟨k + 1, va2, vc2, by omega, by go_num, rfl, hide (by rw [HTK.out]; exact hown2), hide fun j hj hjk => ?_, HB2.out.grown hgrow2 HB2.out.size (fun g hg => (HO.out.lt g hg).1)⟩
            by_cases e : j = k
            · subst e; exact HQ.out
            · exact hn.out j hj (by omega)
          case measure => simp [intOf]; omega
      · obtain rfl : k = s.pars.length := by omega
        have HE := hide (textM_good HH.out (fun p hp => by
          obtain ⟨j, hj, rfl⟩ := List.mem_iff_getElem.1 hp
          exact hn.out j hj hj))
        have HXR := hide ((HBR.out.block _ (Array.getElem?_eq_some_iff.1 HX1.out).1).trans HX1.out)
        have x0 := cell_at (j := 0) HXR.out rfl
        have HJ : Hid (∀ W, Below wr.heap.size wr W → Calls Tryd.prog 32 #[.slice va s.pars.length vc, .string ⟨#[44, 32]⟩] W fun r w' => r = .returned (.string ⟨(joinB (s.pars.map wordB)).toArray⟩) ∧ Below W.heap.size W w') := hide fun W hW => by
          have ho := HO.out
          rw [List.take_length] at ho
          have := join12_any (s.pars.map wordB) _ W (ho.below StrC.mono hW) (by simpa using hle) (fun x hx => by obtain ⟨t, _, rfl⟩ := List.mem_map.1 hx; exact wordB_len t)
          exact this
        have hjl : (joinB (s.pars.map wordB)).length ≤ 56 := by
          have := joinB_len (s.pars.map wordB) (fun x hx => by obtain ⟨t, _, rfl⟩ := List.mem_map.1 hx; exact wordB_len t)
          rw [List.length_map] at this
          omega
        clear HO hn
        go_wp2_with fail
        have hB := (bl wr).dr
        go_region_with (go_at_call 32; (with_reducible refine (HJ.out _ hB).mono ?_); rintro r w5 ⟨rfl, hb⟩; have hB := hB.tr hb; have x0 := cell_keep x0 hB (Nat.le_refl _); clear hb)
        all_goals
         have HXF := hide ((hB.block _ (Array.getElem?_eq_some_iff.1 HXR.out).1).trans HXR.out)
         have HBF := hide (HBW.out.tr hB)
         have x2 := cell_at (j := 2) HXF.out rfl
        all_goals
          go_wp2_with fail
          go_ret
          refine ⟨ret_str' ?_, HBF.out⟩
          rw [show (⟨#[40]⟩ : ByteArray) = ⟨([40] : Bytes).toArray⟩ from rfl, show (⟨#[41]⟩ : ByteArray) = ⟨([41] : Bytes).toArray⟩ from rfl, str_app, str_app, str_app, HE.out, if_pos (by simpa using q3), List.append_nil]
          simp [upToB]
end Go.Proofs.YtnkmbddjekepkaaDoor
