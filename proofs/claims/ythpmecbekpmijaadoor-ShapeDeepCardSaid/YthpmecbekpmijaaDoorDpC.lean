/- ShapeDeep returns true for every input, where the table of blanks is laid: the walk. -/
import Derived.Test.YthpmecbekpmijaaDoorDpB
import Derived.Deep.RegionHeld3
import Derived.Deep.RegionLaw
namespace Go.Proofs.YthpmecbekpmijaaDoor
open Go Go.RowKit
set_option linter.unusedSimpArgs false
set_option linter.unusedVariables false
set_option linter.unnecessarySimpa false
theorem bit_one (x : Nat) (h : x < 256) : (bits BinOp.and IntKind.u8 (x : Int) 1 == 1) = (x % 2 == 1) :=
  (by decide +kernel : ∀ x : Fin 256, (bits BinOp.and IntKind.u8 ((x.val : Nat) : Int) 1 == 1) = (x.val % 2 == 1)) ⟨x, h⟩
set_option maxRecDepth 20000 in
set_option maxHeartbeats 4000000 in
theorem ShapeDeep_any (n how : Nat) (w : World) (hn : n < 256) (hh : how < 256) (hT : Tab w) : Calls Tryd.prog 5 #[.int .u8 n, .int .u8 how] w fun r w' => r = .returned (.bool true) ∧ Below w.heap.size w w' := by
  have HT := hide hT
  clear hT
  go_enter Tryd.func5, Tryd.ntmps5
  go_wp2_with fail
  refine (num_law 7 _).mono ?_
  rintro r w1 ⟨rfl, hb1⟩
  go_wp2_with fail
  have HV := hide (EVar.new (e := numE 7) (ex_leaf w1 1 0 7 [] (i64_l 1 (by omega)) (i64_l 0 (by omega)) (i64_l 7 (by omega)) (Nat.zero_le _)) _ rfl)
  have hw1 := hb1.size
  have HB := hide ((bl w).tr hb1)
  clear hb1
  go_loopw [7] (fun i wr => ∃ k : Nat, 1 ≤ k ∧ k ≤ 1 + n % 30 ∧ i = .int .i64 k ∧ Hid (EVar wr w1.heap.size (deE how (k - 1))) ∧ Hid (Below w.heap.size w wr)) (fun i _ => 1 + n % 30 - (intOf i).toNat)
  case atStart => exact ⟨1, by omega, by omega, rfl, HV.out, HB.out.al _⟩
  case round =>
    obtain ⟨k, hk1, hk, rfl, HE, HB⟩ := hrel
    by_cases hlt : k < 1 + n % 30
    · obtain ⟨a, cap, hbk, hv⟩ := HE.out
      have hnl : w1.heap.size < wr.heap.size := HE.out.lt
      have hom : how / 2 ^ (k % 8) % 3 < 3 := Nat.mod_lt _ (by omega)
      have ho : ((how : Int) / 2 ^ (k % 8)).tmod 3 = ((how / 2 ^ (k % 8) % 3 : Nat) : Int) := by
        rw [show ((how : Int) / 2 ^ (k % 8)) = ((how / 2 ^ (k % 8) : Nat) : Int) by simp]
        exact (Int.ofNat_tmod _ 3).symm
      have HX := hide (show deE how k = stepE (how / 2 ^ (k % 8) % 3) (deE how (k - 1)) by
        obtain ⟨j, rfl⟩ : ∃ j, k = j + 1 := ⟨k - 1, by omega⟩
        rw [deE, Nat.shiftRight_eq_div_pow]
        rfl)
      generalize how / 2 ^ (k % 8) % 3 = o at *
      generalize deE how (k - 1) = e at *
      have e0 := cell_at (j := 0) hbk rfl
      have e1 := cell_at (j := 1) hbk rfl
      have e2 := cell_at (j := 2) hbk rfl
      have e3 := cell_at (j := 3) hbk rfl
      have e4 := cell_at (j := 4) hbk rfl
      have f0 := free_at (j := 0) hbk
      have f1 := free_at (j := 1) hbk
      have f2 := free_at (j := 2) hbk
      have f3 := free_at (j := 3) hbk
      have f4 := free_at (j := 4) hbk
      have HV := hide hv
      have HBK := hide hbk
      clear hbk hv
      have h3 : o = 0 ∨ o = 1 ∨ o = 2 := by omega
      rcases h3 with rfl | rfl | rfl
      · go_wp2_with fail
        go_roundw
        case rel =>
          refine ⟨k + 1, by omega, by omega, by go_num, ?_, ?_⟩
          · rw [Nat.add_sub_cancel, HX.out]
            exact EVar.push HBK.out HV.out 4 14 0 [] (i64_l 4 (by omega)) (i64_l 14 (by omega)) (i64_l 0 (by omega)) (Nat.zero_le _)
          · exact ((eset_kept wr w1.heap.size _ _ _ _ _).below HB.out (by simp; omega)).al _
        case measure => simp [intOf]; omega
      · have hB := bl wr
        go_wp2_with fail
        go_region_law
          (first | (go_simp; go_at_call 19; (with_reducible refine (num_law 1 _).mono ?_); rintro r w5 ⟨rfl, hb5⟩; have hB := (hB.dr).tr hb5; have HBK5 := hide ((hB.block _ hnl).trans HBK.out); have e0 := cell_at (j := 0) HBK5.out rfl; have e1 := cell_at (j := 1) HBK5.out rfl; have e2 := cell_at (j := 2) HBK5.out rfl; have e3 := cell_at (j := 3) HBK5.out rfl; have e4 := cell_at (j := 4) HBK5.out rfl; clear hb5)
                 | (go_simp; go_at_call 20; (with_reducible refine (binary_av [w1.heap.size] 3 e (numE 1) _ _ _ (i64_l 3 ?_) (HV.out.has (has_av_below hB)) (ex_leaf _ 1 0 1 [] (i64_l 1 ?_) (i64_l 0 ?_) (i64_l 1 ?_) (Nat.zero_le _)) ?_).mono ?_); (· omega); (· omega); (· omega); (· omega); (· (intro g hg; have hsz := hB.size; simp only [List.mem_singleton] at hg; omega)); rintro r w6 ⟨⟨ab, rfl, hvb⟩, hb6⟩; have hB := hB.tr hb6; have HBK6 := hide ((hB.block _ hnl).trans HBK.out); have f0 := free_at (j := 0) HBK6.out; have f1 := free_at (j := 1) HBK6.out; have f2 := free_at (j := 2) HBK6.out; have f3 := free_at (j := 3) HBK6.out; have f4 := free_at (j := 4) HBK6.out; have g0 := cell_at (j := 0) HBK6.out rfl; have g1 := cell_at (j := 1) HBK6.out rfl; have g2 := cell_at (j := 2) HBK6.out rfl; have g3 := cell_at (j := 3) HBK6.out rfl; have g4 := cell_at (j := 4) HBK6.out rfl; have hnl := Nat.lt_of_lt_of_le hnl hB.size; clear hb6))
        all_goals
          go_wp2_with fail
          go_roundw
          case rel =>
            refine ⟨k + 1, by omega, by omega, by go_num, ?_, ?_⟩
            · rw [Nat.add_sub_cancel, HX.out]
              show EVar _ _ (.mk 5 3 0 [] [e, numE 1])
              exact EVar.bin HE.out hB hvb.out
            · exact (eset_kept _ w1.heap.size _ _ _ _ _).below (HB.out.tr hB) (by simp; omega)
          case measure => simp [intOf]; omega
      · go_wp2_with fail
        go_roundw
        case rel =>
          refine ⟨k + 1, by omega, by omega, by go_num, ?_, ?_⟩
          · rw [Nat.add_sub_cancel, HX.out]
            exact EVar.push HBK.out HV.out 6 0 0 [97] (i64_l 6 (by omega)) (i64_l 0 (by omega)) (i64_l 0 (by omega)) (by unfold maxLen; simp)
          · exact ((eset_kept wr w1.heap.size _ _ _ _ _).below HB.out (by simp; omega)).al _
        case measure => simp [intOf]; omega
    · obtain rfl : k = 1 + n % 30 := by omega
      rw [Nat.add_sub_cancel_left] at HE
      go_wp2_with fail
      refine (num_law 1 _).mono ?_
      rintro r w2 ⟨rfl, hb2⟩
      have HE2 := hide (HE.out.below hb2)
      have HB2 := hide (HB.out.tr hb2)
      have HE1 := hide HE2.out.lt
      clear HE HB hb2 hw1 wr
      go_wp2_with fail
      have HSV := hide (SVar.new (stVal_one w2) (w2.heap.size + 1) (by simp))
      go_loopw [9] (fun i wr => ∃ k : Nat, 1 ≤ k ∧ k ≤ 1 + n % 30 ∧ i = .int .i64 k ∧ Hid (SVar wr (w2.heap.size + 1) (deS how (k - 1))) ∧ Hid (Below w2.heap.size w2 wr)) (fun i _ => 1 + n % 30 - (intOf i).toNat)
      case atStart => exact ⟨1, by omega, by omega, rfl, HSV.out, ((bl w2).al _).al _⟩
      case round =>
        obtain ⟨k, hk1, hk, rfl, HS, HB⟩ := hrel
        by_cases hlt : k < 1 + n % 30
        · obtain ⟨pa, pb, pe, ca, cb, ce, hbk, hv⟩ := HS.out
          have hnl : w2.heap.size + 1 < wr.heap.size := HS.out.lt
          have hlt256 : how / 2 ^ (k % 8) < 256 := Nat.lt_of_le_of_lt (Nat.div_le_self _ _) hh
          have hbit : (bits BinOp.and IntKind.u8 ((how : Int) / 2 ^ (k % 8)) 1 == 1) = (how / 2 ^ (k % 8) % 2 == 1) := by
            rw [show ((how : Int) / 2 ^ (k % 8)) = ((how / 2 ^ (k % 8) : Nat) : Int) by simp]
            exact bit_one _ hlt256
          have HX := hide (show deS how k = stepS (how / 2 ^ (k % 8) % 2 == 1) (deS how (k - 1)) by
            obtain ⟨j, rfl⟩ : ∃ j, k = j + 1 := ⟨k - 1, by omega⟩
            rw [deS, Nat.shiftRight_eq_div_pow]
            rfl)
          generalize (how / 2 ^ (k % 8) % 2 == 1) = q at *
          generalize deS how (k - 1) = s at *
          generalize hng : w2.heap.size + 1 = ng at *
          have HNG := hide hng
          clear hng
          have e0 := cell_at (j := 0) hbk rfl
          have e1 := cell_at (j := 1) hbk rfl
          have e2 := cell_at (j := 2) hbk rfl
          have e3 := cell_at (j := 3) hbk rfl
          have e4 := cell_at (j := 4) hbk rfl
          have e5 := cell_at (j := 5) hbk rfl
          have e6 := cell_at (j := 6) hbk rfl
          have e7 := cell_at (j := 7) hbk rfl
          have f0 := free_at (j := 0) hbk
          have f1 := free_at (j := 1) hbk
          have f2 := free_at (j := 2) hbk
          have f3 := free_at (j := 3) hbk
          have f4 := free_at (j := 4) hbk
          have f5 := free_at (j := 5) hbk
          have f6 := free_at (j := 6) hbk
          have f7 := free_at (j := 7) hbk
          have HV := hide hv
          have HBK := hide hbk
          clear hbk hv hlt256
          cases q
          · have hB := bl wr
            go_wp2_with fail
            go_region_law
              (first | (go_simp; go_at_call 19; (with_reducible refine (num_law 1 _).mono ?_); rintro r w5 ⟨rfl, hb5⟩; (first | have hB5 := ((bl wr).dr).tr hb5 | have hB5 := (((bl wr).dr).al _).tr hb5); have HB5 := hide hb5; have HBK5 := hide ((hB5.block _ hnl).trans HBK.out); have hnl5 := (Array.getElem?_eq_some_iff.1 HBK5.out).1; have e0 := cell_at (j := 0) HBK5.out rfl; have e1 := cell_at (j := 1) HBK5.out rfl; have e2 := cell_at (j := 2) HBK5.out rfl; have e3 := cell_at (j := 3) HBK5.out rfl; have e4 := cell_at (j := 4) HBK5.out rfl; have e5 := cell_at (j := 5) HBK5.out rfl; have e6 := cell_at (j := 6) HBK5.out rfl; have e7 := cell_at (j := 7) HBK5.out rfl; have f0 := free_at (j := 0) HBK5.out; have f1 := free_at (j := 1) HBK5.out; have f2 := free_at (j := 2) HBK5.out; have f3 := free_at (j := 3) HBK5.out; have f4 := free_at (j := 4) HBK5.out; have f5 := free_at (j := 5) HBK5.out; have f6 := free_at (j := 6) HBK5.out; have f7 := free_at (j := 7) HBK5.out; clear hb5)
                     | fail)
            all_goals
              go_wp2_with fail
              go_roundw
              case rel =>
                refine ⟨k + 1, by omega, by omega, by go_num, ?_, ?_⟩
                · rw [Nat.add_sub_cancel, HX.out]
                  refine hide ?_
                  first | ((with_reducible refine wrapA' false HBK.out HV.out hB5 ?_); rfl) | ((with_reducible refine wrapB' false HBK.out HV.out hB5 ?_); rfl) | ((with_reducible refine wrapC' false HBK.out HV.out HB5.out ?_); rfl)
                · have hgn : w2.heap.size ≤ ng := by have := HNG.out; omega
                  refine hide ?_
                  repeat (with_reducible refine Below.al ?_ _)
                  iterate 8 ((with_reducible refine Below.setCell ?_ ?_ _); rotate_left; (· exact hgn))
                  exact HB.out.tr hB5
              case measure => simp [intOf]; omega
          · have hB := bl wr
            go_wp2_with fail
            go_region_law
              (first | (go_simp; go_at_call 19; (with_reducible refine (num_law 1 _).mono ?_); rintro r w5 ⟨rfl, hb5⟩; (first | have hB5 := ((bl wr).dr).tr hb5 | have hB5 := (((bl wr).dr).al _).tr hb5); have HB5 := hide hb5; have HBK5 := hide ((hB5.block _ hnl).trans HBK.out); have hnl5 := (Array.getElem?_eq_some_iff.1 HBK5.out).1; have e0 := cell_at (j := 0) HBK5.out rfl; have e1 := cell_at (j := 1) HBK5.out rfl; have e2 := cell_at (j := 2) HBK5.out rfl; have e3 := cell_at (j := 3) HBK5.out rfl; have e4 := cell_at (j := 4) HBK5.out rfl; have e5 := cell_at (j := 5) HBK5.out rfl; have e6 := cell_at (j := 6) HBK5.out rfl; have e7 := cell_at (j := 7) HBK5.out rfl; have f0 := free_at (j := 0) HBK5.out; have f1 := free_at (j := 1) HBK5.out; have f2 := free_at (j := 2) HBK5.out; have f3 := free_at (j := 3) HBK5.out; have f4 := free_at (j := 4) HBK5.out; have f5 := free_at (j := 5) HBK5.out; have f6 := free_at (j := 6) HBK5.out; have f7 := free_at (j := 7) HBK5.out; clear hb5)
                     | fail)
            all_goals
              go_wp2_with fail
              go_roundw
              case rel =>
                refine ⟨k + 1, by omega, by omega, by go_num, ?_, ?_⟩
                · rw [Nat.add_sub_cancel, HX.out]
                  refine hide ?_
                  first | ((with_reducible refine wrapA' true HBK.out HV.out hB5 ?_); rfl) | ((with_reducible refine wrapB' true HBK.out HV.out hB5 ?_); rfl) | ((with_reducible refine wrapC' true HBK.out HV.out HB5.out ?_); rfl)
                · have hgn : w2.heap.size ≤ ng := by have := HNG.out; omega
                  refine hide ?_
                  repeat (with_reducible refine Below.al ?_ _)
                  iterate 8 ((with_reducible refine Below.setCell ?_ ?_ _); rotate_left; (· exact hgn))
                  exact HB.out.tr hB5
              case measure => simp [intOf]; omega
        · obtain rfl : k = 1 + n % 30 := by omega
          rw [Nat.add_sub_cancel_left] at HS
          have HE3 := hide (HE2.out.below HB.out)
          have HB3 := hide (HB2.out.tr HB.out)
          have HE31 := HE3.out.lt
          have hnl : w2.heap.size + 1 < wr.heap.size := HS.out.lt
          obtain ⟨pa, pb, pe, ca, cb, ce, hbk, hv⟩ := HS.out
          obtain ⟨ea, ecap, hebk, hev⟩ := HE3.out
          have HEV := hide (hev.has has_av)
          have HSV2 := hide (hv.has has_av)
          have HROW := hide (sts_new (w := wr) (l := [deS how (n % 30)]) (cut8 (stC_val HSV2.out) cutN) 25 wr.heap.size rfl)
          have HFN := hide (fn_row [109, 97, 105, 110] [deS how (n % 30)] (some ⟨wr.heap.size, 0, none⟩) 1 HROW.out (Nat.le_refl _) (by unfold maxLen; omega) (by unfold maxLen; simp) (wr.heap.size + 1) (by simp))
          have hlt30 : n % 30 < 30 := Nat.mod_lt _ (by omega)
          have HEB := hide hebk
          have HSB := hide hbk
          by_cases hk20 : n % 30 + 1 ≤ 20
          · obtain ⟨d1, d2, d3, d4⟩ := de_yes how (n % 30) hk20
            have HEX := hide fun (W : World) (hW : Below wr.heap.size wr W) => expr_is _ _ W 0 (by rw [d1]; simp) (HEV.out.keep hW (Nat.le_refl _)) (HT.out.below (HB3.out.tr hW))
            have HDE := hide fun (W : World) (hW : Below wr.heap.size wr W) => depth_is _ _ W (1 + (n : Int) % 30) (by rw [d1]; omega) (HEV.out.keep hW (Nat.le_refl _)) (HT.out.below (HB3.out.tr hW))
            have HSE := hide fun (W : World) (hW : Below wr.heap.size wr W) => sameE_is _ _ W true d2 (HEV.out.keep hW (Nat.le_refl _)) (HT.out.below (HB3.out.tr hW))
            have HSS := hide fun (W : World) (hW : Below wr.heap.size wr W) => sameS_is _ _ W true d3 (HSV2.out.keep hW (Nat.le_refl _)) (HT.out.below (HB3.out.tr hW))
            have HNU := hide fun (W : World) (hW : Below wr.heap.size wr W) (hF : Fns W [deF how (n % 30)] (some ⟨wr.heap.size + 1, 0, none⟩) 1) => number_len [deF how (n % 30)] 1 d4 1 rfl (some ⟨wr.heap.size + 1, 0, none⟩) 1 W hF (HT.out.below (HB3.out.tr hW))
            have HCK := hide fun (W : World) (a : Option Addr) (c : Nat) (hW : Below wr.heap.size wr W) (hF : Fns W (numberM [deF how (n % 30)]) a c) => check_len (numberM [deF how (n % 30)]) 1 d4 0 (check_number_any _) a c W hF (HT.out.below (HB3.out.tr hW))
            have HFN : Hid (Fns _ [deF how (n % 30)] _ _) := HFN
            clear d1 d2 d3 d4 hbk hv hebk hev
            generalize deE how (n % 30) = e at *
            generalize numberM [deF how (n % 30)] = LN at *
            generalize [deF how (n % 30)] = LF at *
            generalize deS how (n % 30) = s at *
            have s0 := cell_at (j := 0) HSB.out rfl
            have s1 := cell_at (j := 1) HSB.out rfl
            have s2 := cell_at (j := 2) HSB.out rfl
            have s3 := cell_at (j := 3) HSB.out rfl
            have s4 := cell_at (j := 4) HSB.out rfl
            have s5 := cell_at (j := 5) HSB.out rfl
            have s6 := cell_at (j := 6) HSB.out rfl
            have s7 := cell_at (j := 7) HSB.out rfl
            go_wp2_with fail
            refine (HNU.out _ (((bl wr).al _).al _) HFN.out).mono ?_
            rintro r w3 ⟨⟨a3, c3, rfl, hf3⟩, hb3⟩
            have HWX := hide (((((bl wr).al _).al _).tr hb3).al (.cells #[.slice a3 1 c3] 42))
            have HEB := hide ((HWX.out.block _ HE31).trans HEB.out)
            have HSB := hide ((HWX.out.block _ hnl).trans HSB.out)
            have HPB : Hid ((w3.alloc (.cells #[.slice a3 1 c3] 42)).heap[w3.heap.size]? = some (.cells #[.slice a3 1 c3] 42 (0, 0))) := hide (heap_alloc_new _ _)
            have HFL := hide (hf3.out.keep ((bl w3).al (.cells #[.slice a3 1 c3] 42)) (Nat.le_refl _))
            have hle := (Array.getElem?_eq_some_iff.1 HEB.out).1
            have hls := (Array.getElem?_eq_some_iff.1 HSB.out).1
            have hlp := (Array.getElem?_eq_some_iff.1 HPB.out).1
            clear hb3 s0 s1 s2 s3 s4 s5 s6 s7 hf3
            have e0 := cell_at (j := 0) HEB.out rfl
            have e1 := cell_at (j := 1) HEB.out rfl
            have e2 := cell_at (j := 2) HEB.out rfl
            have e3 := cell_at (j := 3) HEB.out rfl
            have e4 := cell_at (j := 4) HEB.out rfl
            go_wp2_with fail
            (with_reducible refine (HEX.out _ HWX.out).mono ?_)
            rintro r w4 ⟨rfl, hb4⟩
            clear e0 e1 e2 e3 e4
            have HEB := hide ((hb4.block _ hle).trans HEB.out)
            have HSB := hide ((hb4.block _ hls).trans HSB.out)
            have HPB := hide ((hb4.block _ hlp).trans HPB.out)
            have HWX := hide (HWX.out.tr hb4)
            have HFL := hide (HFL.out.keep hb4 (Nat.le_refl _))
            have hle := (Array.getElem?_eq_some_iff.1 HEB.out).1
            have hls := (Array.getElem?_eq_some_iff.1 HSB.out).1
            have hlp := (Array.getElem?_eq_some_iff.1 HPB.out).1
            clear hb4
            have e0 := cell_at (j := 0) HEB.out rfl
            have e1 := cell_at (j := 1) HEB.out rfl
            have e2 := cell_at (j := 2) HEB.out rfl
            have e3 := cell_at (j := 3) HEB.out rfl
            have e4 := cell_at (j := 4) HEB.out rfl
            go_wp2_with fail
            (with_reducible refine (HDE.out _ HWX.out).mono ?_)
            rintro r w5 ⟨rfl, hb4⟩
            clear e0 e1 e2 e3 e4
            have HEB := hide ((hb4.block _ hle).trans HEB.out)
            have HSB := hide ((hb4.block _ hls).trans HSB.out)
            have HPB := hide ((hb4.block _ hlp).trans HPB.out)
            have HWX := hide (HWX.out.tr hb4)
            have HFL := hide (HFL.out.keep hb4 (Nat.le_refl _))
            have hle := (Array.getElem?_eq_some_iff.1 HEB.out).1
            have hls := (Array.getElem?_eq_some_iff.1 HSB.out).1
            have hlp := (Array.getElem?_eq_some_iff.1 HPB.out).1
            clear hb4
            have e0 := cell_at (j := 0) HEB.out rfl
            have e1 := cell_at (j := 1) HEB.out rfl
            have e2 := cell_at (j := 2) HEB.out rfl
            have e3 := cell_at (j := 3) HEB.out rfl
            have e4 := cell_at (j := 4) HEB.out rfl
            go_wp2_with fail
            (with_reducible refine (HSE.out _ HWX.out).mono ?_)
            rintro r w6 ⟨rfl, hb4⟩
            clear e0 e1 e2 e3 e4
            have HEB := hide ((hb4.block _ hle).trans HEB.out)
            have HSB := hide ((hb4.block _ hls).trans HSB.out)
            have HPB := hide ((hb4.block _ hlp).trans HPB.out)
            have HWX := hide (HWX.out.tr hb4)
            have HFL := hide (HFL.out.keep hb4 (Nat.le_refl _))
            have hle := (Array.getElem?_eq_some_iff.1 HEB.out).1
            have hls := (Array.getElem?_eq_some_iff.1 HSB.out).1
            have hlp := (Array.getElem?_eq_some_iff.1 HPB.out).1
            clear hb4
            have s0 := cell_at (j := 0) HSB.out rfl
            have s1 := cell_at (j := 1) HSB.out rfl
            have s2 := cell_at (j := 2) HSB.out rfl
            have s3 := cell_at (j := 3) HSB.out rfl
            have s4 := cell_at (j := 4) HSB.out rfl
            have s5 := cell_at (j := 5) HSB.out rfl
            have s6 := cell_at (j := 6) HSB.out rfl
            have s7 := cell_at (j := 7) HSB.out rfl
            go_wp2_with fail
            (with_reducible refine (HSS.out _ HWX.out).mono ?_)
            rintro r w7 ⟨rfl, hb4⟩
            clear s0 s1 s2 s3 s4 s5 s6 s7
            have HEB := hide ((hb4.block _ hle).trans HEB.out)
            have HSB := hide ((hb4.block _ hls).trans HSB.out)
            have HPB := hide ((hb4.block _ hlp).trans HPB.out)
            have HWX := hide (HWX.out.tr hb4)
            have HFL := hide (HFL.out.keep hb4 (Nat.le_refl _))
            have hle := (Array.getElem?_eq_some_iff.1 HEB.out).1
            have hls := (Array.getElem?_eq_some_iff.1 HSB.out).1
            have hlp := (Array.getElem?_eq_some_iff.1 HPB.out).1
            clear hb4
            have p0 := cell_at (j := 0) HPB.out rfl
            go_wp2_with fail
            (with_reducible refine (HCK.out _ _ _ HWX.out HFL.out).mono ?_)
            rintro r w8 ⟨rfl, hb4⟩
            clear p0
            have HEB := hide ((hb4.block _ hle).trans HEB.out)
            have HSB := hide ((hb4.block _ hls).trans HSB.out)
            have HPB := hide ((hb4.block _ hlp).trans HPB.out)
            have HWX := hide (HWX.out.tr hb4)
            have HFL := hide (HFL.out.keep hb4 (Nat.le_refl _))
            have hle := (Array.getElem?_eq_some_iff.1 HEB.out).1
            have hls := (Array.getElem?_eq_some_iff.1 HSB.out).1
            have hlp := (Array.getElem?_eq_some_iff.1 HPB.out).1
            clear hb4
            obtain ⟨i0, hi, hz0, hz1, hz2⟩ := info_parts info_st
            go_wp2_with (at_make; refine wpList_make_full _ rfl _ _ 23 rfl 0 25 i0 _ 8 Tryd.underlying23 hi hz0 hz1 .i64 .i64 201 201 201 rfl rfl rfl rfl (by rw [hz2]; omega) (by unfold maxLen; omega) (Nat.zero_le _) ?_; intro w9 hown9 hgrow9; clear hi hz0 hz1 hz2)
            have hb9 := ((Kept.refl [] (w8.alloc (.cells #[.int .i64 8, .int .i64 0, .string ⟨#[]⟩, .int .i64 0, .string ⟨#[]⟩, .slice none 0 0, .slice none 0 0, .slice none 0 0] 25))).grown hgrow9 (by simp)).nil
            have HMA : Hid (MaAt w9 (w8.heap.size + 1) 0) := hide (by
              rw [show w8.heap.size + 1 = (w8.alloc (.cells #[.int .i64 8, .int .i64 0, .string ⟨#[]⟩, .int .i64 0, .string ⟨#[]⟩, .slice none 0 0, .slice none 0 0, .slice none 0 0] 25)).heap.size by simp]
              exact MaAt.of hown9)
            have HON : Hid (w9.heap[w8.heap.size]? = some (.cells #[.int .i64 8, .int .i64 0, .string ⟨#[]⟩, .int .i64 0, .string ⟨#[]⟩, .slice none 0 0, .slice none 0 0, .slice none 0 0] 25 (0, 0))) := hide ((hb9.block _ (by simp)).trans (heap_alloc_new _ _))
            have HB9 := hide (((bl w8).al (.cells #[.int .i64 8, .int .i64 0, .string ⟨#[]⟩, .int .i64 0, .string ⟨#[]⟩, .slice none 0 0, .slice none 0 0, .slice none 0 0] 25)).tr hb9)
            have HT8 := hide (HT.out.below (HB3.out.tr HWX.out))
            have HB8 := hide (HB3.out.tr HWX.out)
            clear hown9 hgrow9 hb9 HEB HSB HPB HFL hle hls hlp HWX HEX HDE HSE HSS HNU HCK HEV HSV2 HROW HFN HE31 hnl HB3 HE3 HB HS
            go_wp2_with fail
            go_loopw [122] (fun i wr => ∃ k : Nat, k ≤ 201 ∧ i = .int .i64 k ∧ Hid (MaAt wr (w8.heap.size + 1) k) ∧ Hid (wr.heap[w8.heap.size]? = some (.cells #[.int .i64 8, .int .i64 0, .string ⟨#[]⟩, .int .i64 0, .string ⟨#[]⟩, .slice none 0 0, .slice none 0 0, .slice none 0 0] 25 (0, 0))) ∧ Hid (Below w8.heap.size w8 wr)) (fun i _ => 201 - (intOf i).toNat)
            case atStart => exact ⟨0, Nat.zero_le _, rfl, HMA.out, HON.out, HB9.out⟩
            case round =>
              obtain ⟨k, hk, rfl, HMA, HON, HB9⟩ := hrel
              have hml := HMA.out.lt
              have hol := (Array.getElem?_eq_some_iff.1 HON.out).1
              by_cases hlt : k < 201
              · obtain ⟨u0, m0⟩ := HMA.out.cell (k * 8) (by omega)
                obtain ⟨u1, m1⟩ := HMA.out.cell (k * 8 + 1) (by omega)
                obtain ⟨u2, m2⟩ := HMA.out.cell (k * 8 + 2) (by omega)
                obtain ⟨u3, m3⟩ := HMA.out.cell (k * 8 + 3) (by omega)
                obtain ⟨u4, m4⟩ := HMA.out.cell (k * 8 + 4) (by omega)
                obtain ⟨u5, m5⟩ := HMA.out.cell (k * 8 + 5) (by omega)
                obtain ⟨u6, m6⟩ := HMA.out.cell (k * 8 + 6) (by omega)
                obtain ⟨u7, m7⟩ := HMA.out.cell (k * 8 + 7) (by omega)
                have f0 := HMA.out.free (k * 8)
                have f1 := HMA.out.free (k * 8 + 1)
                have f2 := HMA.out.free (k * 8 + 2)
                have f3 := HMA.out.free (k * 8 + 3)
                have f4 := HMA.out.free (k * 8 + 4)
                have f5 := HMA.out.free (k * 8 + 5)
                have f6 := HMA.out.free (k * 8 + 6)
                have f7 := HMA.out.free (k * 8 + 7)
                have s0 := cell_at (j := 0) HON.out rfl
                have s1 := cell_at (j := 1) HON.out rfl
                have s2 := cell_at (j := 2) HON.out rfl
                have s3 := cell_at (j := 3) HON.out rfl
                have s4 := cell_at (j := 4) HON.out rfl
                have s5 := cell_at (j := 5) HON.out rfl
                have s6 := cell_at (j := 6) HON.out rfl
                have s7 := cell_at (j := 7) HON.out rfl
                go_wp2_with fail
                go_roundw
                case rel =>
                  refine ⟨k + 1, by omega, by go_num, MaAt.step HMA.out hlt, (mset_kept wr (w8.heap.size + 1) (k * 8)).heap (by simp) HON.out, ?_⟩
                  refine hide ?_
                  iterate 8 ((with_reducible refine Below.setCell ?_ ?_ _); rotate_left; (· exact Nat.le_succ _))
                  exact HB9.out
                case measure => simp [intOf]; omega
              · obtain rfl : k = 201 := by omega
                have HT9 := hide (HT8.out.below HB9.out)
                have HF := hide (ma_fns (n := 200) (cap := 201) HMA.out (by omega) (by omega) (by omega) wr.heap.size rfl)
                have HN1 := hide fun (W : World) (hW : Below wr.heap.size wr W) (hF : Fns W [maF 200] (some ⟨wr.heap.size, 0, none⟩) 1) => number_len [maF 200] 1 ma_yes 1 rfl (some ⟨wr.heap.size, 0, none⟩) 1 W hF (HT9.out.below hW)
                have HCO := hide ma_count
                have HYE := hide ma_yes
                generalize hL1 : numberM [maF 200] = L1 at *
                have HOK1 : Hid (checkM L1 = 0) := hide (by rw [← hL1]; exact check_number_any _)
                have HC1 := hide fun (W : World) (a : Option Addr) (c : Nat) (hW : Below wr.heap.size wr W) (hF : Fns W L1 a c) => check_len L1 1 HYE.out 0 HOK1.out a c W hF (HT9.out.below hW)
                clear hL1
                go_wp2_with fail
                refine (HN1.out _ ((bl wr).al _) HF.out).mono ?_
                rintro r w10 ⟨⟨a10, c10, rfl, hf10⟩, hb10⟩
                have hB10 := ((bl wr).al (.cells #[.string ⟨#[102]⟩, .slice none 0 0, .int .i64 0, .slice (some ⟨w8.heap.size + 1, 0, none⟩) 200 201, .int .i64 0] 46)).tr hb10
                obtain ⟨b, o, rfl⟩ := hf10.out.addr (by rw [HYE.out]; omega)
                have hat := (hf10.out.at_ b o rfl 0 (by rw [HYE.out]; omega))
                obtain ⟨pp, pb, cp, cb, -, -, -, -, hct, -, -, -⟩ := hat
                rw [HCO.out _ (List.getElem_mem _)] at hct
                have HCT := hide hct
                have HF10 := hide hf10.out
                have HMA10 := hide (HMA.out.below hB10)
                have HB10 := hide hB10
                have HPB10 : Hid ((w10.alloc (.cells #[.slice (some ⟨b, o, none⟩) 1 c10] 42)).heap[w10.heap.size]? = some (.cells #[.slice (some ⟨b, o, none⟩) 1 c10] 42 (0, 0))) := hide (heap_alloc_new _ _)
                have HF2 := hide (ma_fns (n := 201) (cap := 201) (HMA10.out.below ((bl w10).al (.cells #[.slice (some ⟨b, o, none⟩) 1 c10] 42))) (by omega) (by omega) (by omega) (w10.heap.size + 1) (by simp))
                have HN2 := hide fun (W : World) (hW : Below wr.heap.size wr W) (hF : Fns W [maF 201] (some ⟨w10.heap.size + 1, 0, none⟩) 1) => number_len [maF 201] 0 ma_no 1 rfl (some ⟨w10.heap.size + 1, 0, none⟩) 1 W hF (HT9.out.below hW)
                clear hb10 hB10 hct hf10 HN1 HF HCO HYE HOK1
                go_wp2_with fail
                refine (HN2.out _ ((HB10.out.al _).al _) HF2.out).mono ?_
                rintro r w11 ⟨⟨a11, c11, rfl, hf11⟩, hb11⟩
                have hB11 := ((bl (w10.alloc (.cells #[.slice (some ⟨b, o, none⟩) 1 c10] 42))).al (.cells #[.string ⟨#[102]⟩, .slice none 0 0, .int .i64 0, .slice (some ⟨w8.heap.size + 1, 0, none⟩) 201 201, .int .i64 0] 46)).tr hb11
                have hB12 := hB11.al (.cells #[.slice a11 0 c11] 42)
                have HP1 := hide ((hB12.block _ (by simp)).trans HPB10.out)
                have HP2 : Hid ((w11.alloc (.cells #[.slice a11 0 c11] 42)).heap[w11.heap.size]? = some (.cells #[.slice a11 0 c11] 42 (0, 0))) := hide (heap_alloc_new _ _)
                have hB13 := ((bl w10).al (.cells #[.slice (some ⟨b, o, none⟩) 1 c10] 42)).tr hB12
                have hct := cell_keep HCT.out hB13 (Nat.le_refl _)
                have HF13 := hide (HF10.out.keep hB13 (Nat.le_refl _))
                have HB13 := hide (HB10.out.tr hB13)
                have p1 := cell_at (j := 0) HP1.out rfl
                have p2 := cell_at (j := 0) HP2.out rfl
                have l1 := (Array.getElem?_eq_some_iff.1 HP1.out).1
                have l2 := (Array.getElem?_eq_some_iff.1 HP2.out).1
                have l3 := cell_lt hct
                simp only at l3
                rw [show o + 0 * 5 + 4 = o + 4 by omega] at hct
                clear hB11 hB12 hB13 hb11 hf11
                go_wp2_with fail
                (with_reducible refine (HC1.out _ _ _ HB13.out HF13.out).mono ?_)
                rintro r w14 ⟨rfl, hb14⟩
                have HB14 := hide (HB13.out.tr hb14)
                have HP2 := hide ((hb14.block _ l2).trans HP2.out)
                have p2' := cell_at (j := 0) HP2.out rfl
                have l2 := (Array.getElem?_eq_some_iff.1 HP2.out).1
                clear p1 p2 hct hb14
                go_wp2_with fail
                refine (works_any _ (HT9.out.below HB14.out)).mono ?_
                rintro r w15 ⟨rfl, hb15⟩
                have HB15 := hide (((HB8.out.tr HB9.out).tr HB14.out).tr hb15)
                clear p2' hb15
                go_wp2_with fail
                go_ret
                exact ⟨rfl, HB15.out⟩
          · obtain ⟨d1, d2, d3, d4⟩ := de_no how (n % 30) hk20 (by omega)
            have HEX := hide fun (W : World) (hW : Below wr.heap.size wr W) => expr_is _ _ W 2 (by rw [d1]; simp) (HEV.out.keep hW (Nat.le_refl _)) (HT.out.below (HB3.out.tr hW))
            have HDE := hide fun (W : World) (hW : Below wr.heap.size wr W) => depth_is _ _ W 0 (by rw [d1]; omega) (HEV.out.keep hW (Nat.le_refl _)) (HT.out.below (HB3.out.tr hW))
            have HSE := hide fun (W : World) (hW : Below wr.heap.size wr W) => sameE_is _ _ W false d2 (HEV.out.keep hW (Nat.le_refl _)) (HT.out.below (HB3.out.tr hW))
            have HSS := hide fun (W : World) (hW : Below wr.heap.size wr W) => sameS_is _ _ W false d3 (HSV2.out.keep hW (Nat.le_refl _)) (HT.out.below (HB3.out.tr hW))
            have HNU := hide fun (W : World) (hW : Below wr.heap.size wr W) (hF : Fns W [deF how (n % 30)] (some ⟨wr.heap.size + 1, 0, none⟩) 1) => number_len [deF how (n % 30)] 0 d4 1 rfl (some ⟨wr.heap.size + 1, 0, none⟩) 1 W hF (HT.out.below (HB3.out.tr hW))
            have HCK := hide fun (W : World) (a : Option Addr) (c : Nat) (hW : Below wr.heap.size wr W) (hF : Fns W (numberM [deF how (n % 30)]) a c) => check_len (numberM [deF how (n % 30)]) 0 d4 0 (check_number_any _) a c W hF (HT.out.below (HB3.out.tr hW))
            have HFN : Hid (Fns _ [deF how (n % 30)] _ _) := HFN
            clear d1 d2 d3 d4 hbk hv hebk hev
            generalize deE how (n % 30) = e at *
            generalize numberM [deF how (n % 30)] = LN at *
            generalize [deF how (n % 30)] = LF at *
            generalize deS how (n % 30) = s at *
            have s0 := cell_at (j := 0) HSB.out rfl
            have s1 := cell_at (j := 1) HSB.out rfl
            have s2 := cell_at (j := 2) HSB.out rfl
            have s3 := cell_at (j := 3) HSB.out rfl
            have s4 := cell_at (j := 4) HSB.out rfl
            have s5 := cell_at (j := 5) HSB.out rfl
            have s6 := cell_at (j := 6) HSB.out rfl
            have s7 := cell_at (j := 7) HSB.out rfl
            go_wp2_with fail
            refine (HNU.out _ (((bl wr).al _).al _) HFN.out).mono ?_
            rintro r w3 ⟨⟨a3, c3, rfl, hf3⟩, hb3⟩
            have HWX := hide (((((bl wr).al _).al _).tr hb3).al (.cells #[.slice a3 0 c3] 42))
            have HEB := hide ((HWX.out.block _ HE31).trans HEB.out)
            have HSB := hide ((HWX.out.block _ hnl).trans HSB.out)
            have HPB : Hid ((w3.alloc (.cells #[.slice a3 0 c3] 42)).heap[w3.heap.size]? = some (.cells #[.slice a3 0 c3] 42 (0, 0))) := hide (heap_alloc_new _ _)
            have HFL := hide (hf3.out.keep ((bl w3).al (.cells #[.slice a3 0 c3] 42)) (Nat.le_refl _))
            have hle := (Array.getElem?_eq_some_iff.1 HEB.out).1
            have hls := (Array.getElem?_eq_some_iff.1 HSB.out).1
            have hlp := (Array.getElem?_eq_some_iff.1 HPB.out).1
            clear hb3 s0 s1 s2 s3 s4 s5 s6 s7 hf3
            have e0 := cell_at (j := 0) HEB.out rfl
            have e1 := cell_at (j := 1) HEB.out rfl
            have e2 := cell_at (j := 2) HEB.out rfl
            have e3 := cell_at (j := 3) HEB.out rfl
            have e4 := cell_at (j := 4) HEB.out rfl
            go_wp2_with fail
            (with_reducible refine (HEX.out _ HWX.out).mono ?_)
            rintro r w4 ⟨rfl, hb4⟩
            clear e0 e1 e2 e3 e4
            have HEB := hide ((hb4.block _ hle).trans HEB.out)
            have HSB := hide ((hb4.block _ hls).trans HSB.out)
            have HPB := hide ((hb4.block _ hlp).trans HPB.out)
            have HWX := hide (HWX.out.tr hb4)
            have HFL := hide (HFL.out.keep hb4 (Nat.le_refl _))
            have hle := (Array.getElem?_eq_some_iff.1 HEB.out).1
            have hls := (Array.getElem?_eq_some_iff.1 HSB.out).1
            have hlp := (Array.getElem?_eq_some_iff.1 HPB.out).1
            clear hb4
            have e0 := cell_at (j := 0) HEB.out rfl
            have e1 := cell_at (j := 1) HEB.out rfl
            have e2 := cell_at (j := 2) HEB.out rfl
            have e3 := cell_at (j := 3) HEB.out rfl
            have e4 := cell_at (j := 4) HEB.out rfl
            go_wp2_with fail
            (with_reducible refine (HDE.out _ HWX.out).mono ?_)
            rintro r w5 ⟨rfl, hb4⟩
            clear e0 e1 e2 e3 e4
            have HEB := hide ((hb4.block _ hle).trans HEB.out)
            have HSB := hide ((hb4.block _ hls).trans HSB.out)
            have HPB := hide ((hb4.block _ hlp).trans HPB.out)
            have HWX := hide (HWX.out.tr hb4)
            have HFL := hide (HFL.out.keep hb4 (Nat.le_refl _))
            have hle := (Array.getElem?_eq_some_iff.1 HEB.out).1
            have hls := (Array.getElem?_eq_some_iff.1 HSB.out).1
            have hlp := (Array.getElem?_eq_some_iff.1 HPB.out).1
            clear hb4
            have e0 := cell_at (j := 0) HEB.out rfl
            have e1 := cell_at (j := 1) HEB.out rfl
            have e2 := cell_at (j := 2) HEB.out rfl
            have e3 := cell_at (j := 3) HEB.out rfl
            have e4 := cell_at (j := 4) HEB.out rfl
            go_wp2_with fail
            (with_reducible refine (HSE.out _ HWX.out).mono ?_)
            rintro r w6 ⟨rfl, hb4⟩
            clear e0 e1 e2 e3 e4
            have HEB := hide ((hb4.block _ hle).trans HEB.out)
            have HSB := hide ((hb4.block _ hls).trans HSB.out)
            have HPB := hide ((hb4.block _ hlp).trans HPB.out)
            have HWX := hide (HWX.out.tr hb4)
            have HFL := hide (HFL.out.keep hb4 (Nat.le_refl _))
            have hle := (Array.getElem?_eq_some_iff.1 HEB.out).1
            have hls := (Array.getElem?_eq_some_iff.1 HSB.out).1
            have hlp := (Array.getElem?_eq_some_iff.1 HPB.out).1
            clear hb4
            have s0 := cell_at (j := 0) HSB.out rfl
            have s1 := cell_at (j := 1) HSB.out rfl
            have s2 := cell_at (j := 2) HSB.out rfl
            have s3 := cell_at (j := 3) HSB.out rfl
            have s4 := cell_at (j := 4) HSB.out rfl
            have s5 := cell_at (j := 5) HSB.out rfl
            have s6 := cell_at (j := 6) HSB.out rfl
            have s7 := cell_at (j := 7) HSB.out rfl
            go_wp2_with fail
            (with_reducible refine (HSS.out _ HWX.out).mono ?_)
            rintro r w7 ⟨rfl, hb4⟩
            clear s0 s1 s2 s3 s4 s5 s6 s7
            have HEB := hide ((hb4.block _ hle).trans HEB.out)
            have HSB := hide ((hb4.block _ hls).trans HSB.out)
            have HPB := hide ((hb4.block _ hlp).trans HPB.out)
            have HWX := hide (HWX.out.tr hb4)
            have HFL := hide (HFL.out.keep hb4 (Nat.le_refl _))
            have hle := (Array.getElem?_eq_some_iff.1 HEB.out).1
            have hls := (Array.getElem?_eq_some_iff.1 HSB.out).1
            have hlp := (Array.getElem?_eq_some_iff.1 HPB.out).1
            clear hb4
            have p0 := cell_at (j := 0) HPB.out rfl
            go_wp2_with fail
            (with_reducible refine (HCK.out _ _ _ HWX.out HFL.out).mono ?_)
            rintro r w8 ⟨rfl, hb4⟩
            clear p0
            have HEB := hide ((hb4.block _ hle).trans HEB.out)
            have HSB := hide ((hb4.block _ hls).trans HSB.out)
            have HPB := hide ((hb4.block _ hlp).trans HPB.out)
            have HWX := hide (HWX.out.tr hb4)
            have HFL := hide (HFL.out.keep hb4 (Nat.le_refl _))
            have hle := (Array.getElem?_eq_some_iff.1 HEB.out).1
            have hls := (Array.getElem?_eq_some_iff.1 HSB.out).1
            have hlp := (Array.getElem?_eq_some_iff.1 HPB.out).1
            clear hb4
            obtain ⟨i0, hi, hz0, hz1, hz2⟩ := info_parts info_st
            go_wp2_with (at_make; refine wpList_make_full _ rfl _ _ 23 rfl 0 25 i0 _ 8 Tryd.underlying23 hi hz0 hz1 .i64 .i64 201 201 201 rfl rfl rfl rfl (by rw [hz2]; omega) (by unfold maxLen; omega) (Nat.zero_le _) ?_; intro w9 hown9 hgrow9; clear hi hz0 hz1 hz2)
            have hb9 := ((Kept.refl [] (w8.alloc (.cells #[.int .i64 8, .int .i64 0, .string ⟨#[]⟩, .int .i64 0, .string ⟨#[]⟩, .slice none 0 0, .slice none 0 0, .slice none 0 0] 25))).grown hgrow9 (by simp)).nil
            have HMA : Hid (MaAt w9 (w8.heap.size + 1) 0) := hide (by
              rw [show w8.heap.size + 1 = (w8.alloc (.cells #[.int .i64 8, .int .i64 0, .string ⟨#[]⟩, .int .i64 0, .string ⟨#[]⟩, .slice none 0 0, .slice none 0 0, .slice none 0 0] 25)).heap.size by simp]
              exact MaAt.of hown9)
            have HON : Hid (w9.heap[w8.heap.size]? = some (.cells #[.int .i64 8, .int .i64 0, .string ⟨#[]⟩, .int .i64 0, .string ⟨#[]⟩, .slice none 0 0, .slice none 0 0, .slice none 0 0] 25 (0, 0))) := hide ((hb9.block _ (by simp)).trans (heap_alloc_new _ _))
            have HB9 := hide (((bl w8).al (.cells #[.int .i64 8, .int .i64 0, .string ⟨#[]⟩, .int .i64 0, .string ⟨#[]⟩, .slice none 0 0, .slice none 0 0, .slice none 0 0] 25)).tr hb9)
            have HT8 := hide (HT.out.below (HB3.out.tr HWX.out))
            have HB8 := hide (HB3.out.tr HWX.out)
            clear hown9 hgrow9 hb9 HEB HSB HPB HFL hle hls hlp HWX HEX HDE HSE HSS HNU HCK HEV HSV2 HROW HFN HE31 hnl HB3 HE3 HB HS
            go_wp2_with fail
            go_loopw [122] (fun i wr => ∃ k : Nat, k ≤ 201 ∧ i = .int .i64 k ∧ Hid (MaAt wr (w8.heap.size + 1) k) ∧ Hid (wr.heap[w8.heap.size]? = some (.cells #[.int .i64 8, .int .i64 0, .string ⟨#[]⟩, .int .i64 0, .string ⟨#[]⟩, .slice none 0 0, .slice none 0 0, .slice none 0 0] 25 (0, 0))) ∧ Hid (Below w8.heap.size w8 wr)) (fun i _ => 201 - (intOf i).toNat)
            case atStart => exact ⟨0, Nat.zero_le _, rfl, HMA.out, HON.out, HB9.out⟩
            case round =>
              obtain ⟨k, hk, rfl, HMA, HON, HB9⟩ := hrel
              have hml := HMA.out.lt
              have hol := (Array.getElem?_eq_some_iff.1 HON.out).1
              by_cases hlt : k < 201
              · obtain ⟨u0, m0⟩ := HMA.out.cell (k * 8) (by omega)
                obtain ⟨u1, m1⟩ := HMA.out.cell (k * 8 + 1) (by omega)
                obtain ⟨u2, m2⟩ := HMA.out.cell (k * 8 + 2) (by omega)
                obtain ⟨u3, m3⟩ := HMA.out.cell (k * 8 + 3) (by omega)
                obtain ⟨u4, m4⟩ := HMA.out.cell (k * 8 + 4) (by omega)
                obtain ⟨u5, m5⟩ := HMA.out.cell (k * 8 + 5) (by omega)
                obtain ⟨u6, m6⟩ := HMA.out.cell (k * 8 + 6) (by omega)
                obtain ⟨u7, m7⟩ := HMA.out.cell (k * 8 + 7) (by omega)
                have f0 := HMA.out.free (k * 8)
                have f1 := HMA.out.free (k * 8 + 1)
                have f2 := HMA.out.free (k * 8 + 2)
                have f3 := HMA.out.free (k * 8 + 3)
                have f4 := HMA.out.free (k * 8 + 4)
                have f5 := HMA.out.free (k * 8 + 5)
                have f6 := HMA.out.free (k * 8 + 6)
                have f7 := HMA.out.free (k * 8 + 7)
                have s0 := cell_at (j := 0) HON.out rfl
                have s1 := cell_at (j := 1) HON.out rfl
                have s2 := cell_at (j := 2) HON.out rfl
                have s3 := cell_at (j := 3) HON.out rfl
                have s4 := cell_at (j := 4) HON.out rfl
                have s5 := cell_at (j := 5) HON.out rfl
                have s6 := cell_at (j := 6) HON.out rfl
                have s7 := cell_at (j := 7) HON.out rfl
                go_wp2_with fail
                go_roundw
                case rel =>
                  refine ⟨k + 1, by omega, by go_num, MaAt.step HMA.out hlt, (mset_kept wr (w8.heap.size + 1) (k * 8)).heap (by simp) HON.out, ?_⟩
                  refine hide ?_
                  iterate 8 ((with_reducible refine Below.setCell ?_ ?_ _); rotate_left; (· exact Nat.le_succ _))
                  exact HB9.out
                case measure => simp [intOf]; omega
              · obtain rfl : k = 201 := by omega
                have HT9 := hide (HT8.out.below HB9.out)
                have HF := hide (ma_fns (n := 200) (cap := 201) HMA.out (by omega) (by omega) (by omega) wr.heap.size rfl)
                have HN1 := hide fun (W : World) (hW : Below wr.heap.size wr W) (hF : Fns W [maF 200] (some ⟨wr.heap.size, 0, none⟩) 1) => number_len [maF 200] 1 ma_yes 1 rfl (some ⟨wr.heap.size, 0, none⟩) 1 W hF (HT9.out.below hW)
                have HCO := hide ma_count
                have HYE := hide ma_yes
                generalize hL1 : numberM [maF 200] = L1 at *
                have HOK1 : Hid (checkM L1 = 0) := hide (by rw [← hL1]; exact check_number_any _)
                have HC1 := hide fun (W : World) (a : Option Addr) (c : Nat) (hW : Below wr.heap.size wr W) (hF : Fns W L1 a c) => check_len L1 1 HYE.out 0 HOK1.out a c W hF (HT9.out.below hW)
                clear hL1
                go_wp2_with fail
                refine (HN1.out _ ((bl wr).al _) HF.out).mono ?_
                rintro r w10 ⟨⟨a10, c10, rfl, hf10⟩, hb10⟩
                have hB10 := ((bl wr).al (.cells #[.string ⟨#[102]⟩, .slice none 0 0, .int .i64 0, .slice (some ⟨w8.heap.size + 1, 0, none⟩) 200 201, .int .i64 0] 46)).tr hb10
                obtain ⟨b, o, rfl⟩ := hf10.out.addr (by rw [HYE.out]; omega)
                have hat := (hf10.out.at_ b o rfl 0 (by rw [HYE.out]; omega))
                obtain ⟨pp, pb, cp, cb, -, -, -, -, hct, -, -, -⟩ := hat
                rw [HCO.out _ (List.getElem_mem _)] at hct
                have HCT := hide hct
                have HF10 := hide hf10.out
                have HMA10 := hide (HMA.out.below hB10)
                have HB10 := hide hB10
                have HPB10 : Hid ((w10.alloc (.cells #[.slice (some ⟨b, o, none⟩) 1 c10] 42)).heap[w10.heap.size]? = some (.cells #[.slice (some ⟨b, o, none⟩) 1 c10] 42 (0, 0))) := hide (heap_alloc_new _ _)
                have HF2 := hide (ma_fns (n := 201) (cap := 201) (HMA10.out.below ((bl w10).al (.cells #[.slice (some ⟨b, o, none⟩) 1 c10] 42))) (by omega) (by omega) (by omega) (w10.heap.size + 1) (by simp))
                have HN2 := hide fun (W : World) (hW : Below wr.heap.size wr W) (hF : Fns W [maF 201] (some ⟨w10.heap.size + 1, 0, none⟩) 1) => number_len [maF 201] 0 ma_no 1 rfl (some ⟨w10.heap.size + 1, 0, none⟩) 1 W hF (HT9.out.below hW)
                clear hb10 hB10 hct hf10 HN1 HF HCO HYE HOK1
                go_wp2_with fail
                refine (HN2.out _ ((HB10.out.al _).al _) HF2.out).mono ?_
                rintro r w11 ⟨⟨a11, c11, rfl, hf11⟩, hb11⟩
                have hB11 := ((bl (w10.alloc (.cells #[.slice (some ⟨b, o, none⟩) 1 c10] 42))).al (.cells #[.string ⟨#[102]⟩, .slice none 0 0, .int .i64 0, .slice (some ⟨w8.heap.size + 1, 0, none⟩) 201 201, .int .i64 0] 46)).tr hb11
                have hB12 := hB11.al (.cells #[.slice a11 0 c11] 42)
                have HP1 := hide ((hB12.block _ (by simp)).trans HPB10.out)
                have HP2 : Hid ((w11.alloc (.cells #[.slice a11 0 c11] 42)).heap[w11.heap.size]? = some (.cells #[.slice a11 0 c11] 42 (0, 0))) := hide (heap_alloc_new _ _)
                have hB13 := ((bl w10).al (.cells #[.slice (some ⟨b, o, none⟩) 1 c10] 42)).tr hB12
                have hct := cell_keep HCT.out hB13 (Nat.le_refl _)
                have HF13 := hide (HF10.out.keep hB13 (Nat.le_refl _))
                have HB13 := hide (HB10.out.tr hB13)
                have p1 := cell_at (j := 0) HP1.out rfl
                have p2 := cell_at (j := 0) HP2.out rfl
                have l1 := (Array.getElem?_eq_some_iff.1 HP1.out).1
                have l2 := (Array.getElem?_eq_some_iff.1 HP2.out).1
                have l3 := cell_lt hct
                simp only at l3
                rw [show o + 0 * 5 + 4 = o + 4 by omega] at hct
                clear hB11 hB12 hB13 hb11 hf11
                go_wp2_with fail
                (with_reducible refine (HC1.out _ _ _ HB13.out HF13.out).mono ?_)
                rintro r w14 ⟨rfl, hb14⟩
                have HB14 := hide (HB13.out.tr hb14)
                have HP2 := hide ((hb14.block _ l2).trans HP2.out)
                have p2' := cell_at (j := 0) HP2.out rfl
                have l2 := (Array.getElem?_eq_some_iff.1 HP2.out).1
                clear p1 p2 hct hb14
                go_wp2_with fail
                refine (works_any _ (HT9.out.below HB14.out)).mono ?_
                rintro r w15 ⟨rfl, hb15⟩
                have HB15 := hide (((HB8.out.tr HB9.out).tr HB14.out).tr hb15)
                clear p2' hb15
                go_wp2_with fail
                go_ret
                exact ⟨rfl, HB15.out⟩
end Go.Proofs.YthpmecbekpmijaaDoor
