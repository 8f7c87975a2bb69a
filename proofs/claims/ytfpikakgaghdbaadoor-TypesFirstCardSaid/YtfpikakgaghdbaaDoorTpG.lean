/- TypesFirst returns true: the plain law, and the walk. -/
import Derived.Test.YtfpikakgaghdbaaDoorTpF
namespace Go.Proofs.YtfpikakgaghdbaaDoor
open Go Go.RowKit
set_option linter.unusedSimpArgs false
set_option linter.unusedVariables false
set_option linter.unnecessarySimpa false
theorem listM_name (l : List Dc) : ∀ k, k ≤ 5 → ∀ v ∈ listM l k, v.name ∈ nm5
  | 0, _ => by simp [listM]
  | k + 1, hk => by
    intro v hv
    rw [listM] at hv
    split at hv
    · rcases List.mem_append.1 hv with hv | hv
      · exact listM_name l k (by omega) v hv
      · simp only [List.mem_singleton] at hv
        subst hv
        simp only [dcV]
        have h5 : k < nm5.length := by show k < 5; omega
        rw [getElem!_pos nm5 k h5]
        exact List.getElem_mem _
    · exact listM_name l k (by omega) v hv
theorem seen_zzz (l : List Dc) (p : Int) : (seenM (varsD l) [122, 122, 122] p).2 = false := by
  have h : (varsD l).findIdx? (fun v => v.name == [122, 122, 122] && v.sees p) = none := by
    rw [List.findIdx?_eq_none_iff]
    intro v hv
    have := listM_name l _ (by omega) v hv
    simp only [nm5, List.mem_cons, List.not_mem_nil, or_false] at this
    rcases this with h | h | h | h | h <;> rw [h] <;> rfl
  unfold seenM firstM
  rw [h]
theorem depth_two {a b : Ex} (ha : depthM 3 a ≠ 0) (hb : depthM 3 b ≠ 0) : depthM 20 (.mk 5 6 0 [] [a, b]) ≠ 0 := by
  refine depthM_node (m := 19) (by show fitsM 5 6 0 [] 2 = true; decide) fun e he => ?_
  simp only [List.mem_cons, List.not_mem_nil, or_false] at he
  rcases he with rfl | rfl
  · rw [exOk_mono 3 (k := 19) (by omega) ha]; exact ha
  · rw [exOk_mono 3 (k := 19) (by omega) hb]; exact hb
theorem depth_zzz {a : Ex} (ha : depthM 3 a ≠ 0) : depthM 20 (.mk 6 0 0 [122, 122, 122] [a]) ≠ 0 := by
  refine depthM_node (m := 19) (by show fitsM 6 0 0 [122, 122, 122] 1 = true; decide +kernel) fun e he => ?_
  simp only [List.mem_cons, List.not_mem_nil, or_false] at he
  subst he
  rw [exOk_mono 3 (k := 19) (by omega) ha]
  exact ha
theorem of_zzz (l : List Dc) (p : Int) {a : Ex} (ha : depthM 3 a ≠ 0) : OfM (varsD l) p (.mk 6 0 0 [122, 122, 122] [a]) = (0, 11) := by
  have h1 : typM (varsD l) p [122, 122, 122] = (0, 11) := by unfold typM; rw [seen_zzz]; rfl
  unfold OfM
  rw [if_neg (depth_zzz ha)]
  rcases hq : allM (varsD l) p [a] with ⟨f, ts⟩
  rw [ofM_name hq h1, if_pos (by simp)]
theorem binary_err {o a b : Int} (h : 1 ≤ o ∧ o ≤ 13) : (binaryM o a b).2 = 0 ∨ (binaryM o a b).2 = 12 := by
  rw [binaryM_eq, binaryT, if_neg (by omega)]
  repeat' split
  all_goals simp
/-- The error of a comparison is the first one of its operands'. -/
theorem of_two (l : List Dc) (p : Int) {a b : Ex} (ha : depthM 3 a ≠ 0) (hb : depthM 3 b ≠ 0) :
    ((OfM (varsD l) p a).2 ≠ 0 → (OfM (varsD l) p (.mk 5 6 0 [] [a, b])).2 = (OfM (varsD l) p a).2) ∧
    ((OfM (varsD l) p a).2 = 0 → (OfM (varsD l) p b).2 ≠ 0 → (OfM (varsD l) p (.mk 5 6 0 [] [a, b])).2 = (OfM (varsD l) p b).2) ∧
    ((OfM (varsD l) p a).2 = 0 → (OfM (varsD l) p b).2 = 0 → (OfM (varsD l) p (.mk 5 6 0 [] [a, b])).2 = 0 ∨ (OfM (varsD l) p (.mk 5 6 0 [] [a, b])).2 = 12) := by
  have h := allM_two (varsD l) p a b
  unfold OfM
  rw [if_neg (depth_two ha hb), if_neg (exOk_depth ha), if_neg (exOk_depth hb)]
  generalize ofM (varsD l) p a = r at *
  generalize ofM (varsD l) p b = r2 at *
  obtain ⟨T, F⟩ := r
  obtain ⟨T2, F2⟩ := r2
  simp only at *
  refine ⟨fun hF => ?_, fun hF hF2 => ?_, fun hF hF2 => ?_⟩
  · rw [if_pos hF] at h
    rw [ofM_empty h, if_pos hF]
  · rw [if_neg (by simpa using hF), if_pos hF2] at h
    rw [ofM_empty h, if_pos hF2]
  · rw [if_neg (by simpa using hF), if_neg (by simpa using hF2)] at h
    rw [ofM_empty h, if_neg (by simp)]
    have := binary_err (o := 6) (a := T) (b := T2) (by omega)
    have e : finM 5 6 0 [T, T2] = binaryM 6 T T2 := by simp [finM]
    rw [e]
    exact this
set_option maxRecDepth 100000 in
set_option maxHeartbeats 40000000 in
theorem TypesFirst_any (D : List Nat) (da : Option Addr) (dc : Nat) (L : List Dc) (la : Option Addr) (lc : Nat) (q : Int) (w : World) (hD : U8s w D da dc) (hL : Dcs w L la lc) (hT : Tab w) (hq : 0 ≤ q ∧ q ≤ 255) :
    Calls Tryd.prog 5 #[.slice da D.length dc, .slice la L.length lc, .int .u8 q] w fun r w' => r = .returned (.bool true) ∧ Below w.heap.size w w' := by
  have H1 := hide (list_any L la lc w hL)
  have H2 := hide fun (W : World) (hW : Below w.heap.size w W) => exprs_any D da dc W (hD.has (has_below hW))
  have HT := hide hT
  clear hD hL hT
  go_enter Tryd.func5, Tryd.ntmps5
  go_wp2_with fail
  refine H1.out.mono ?_
  rintro r w1 ⟨⟨va, vc, rfl, hv⟩, hb1⟩
  have HV := hide hv
  clear hv
  go_wp2_with fail
  refine (H2.out _ hb1).mono ?_
  rintro r w2 ⟨⟨ea, ec, outs, rfl, hl68, hle, hcm, hok, hrow⟩, hb2⟩
  have HR := hide hrow
  have HOK := hide hok
  have hb := hb1.tr hb2
  have HO := hide fun (p : Int) (e : Ex) (v : Value) (W : World) (hv : Ex.Val W e v) (hW : Below w2.heap.size w2 W) => Of_any (varsD L) p va vc e v W (HV.out.keep (hb2.tr hW) (Nat.le_refl _)) hv (HT.out.below (hb.tr hW))
  clear hrow hok hb1 hb2 H1 H2 HV
  go_wp2_with fail
  go_loopw [31] (fun i wr => ∃ k : Nat, k ≤ outs.length ∧ i = .int .i64 k ∧ Below w2.heap.size w2 wr) (fun i _ => outs.length - (intOf i).toNat)
  case atStart => exact ⟨0, Nat.zero_le _, rfl, bl _⟩
  case round =>
    obtain ⟨k, hk, rfl, hbr⟩ := hrel
    by_cases hlt : k < outs.length
    · obtain ⟨b, o, rfl⟩ := HR.out.addr (by omega)
      have hj : (k + 1) % outs.length < outs.length := Nat.mod_lt _ (by omega)
      have hw1 : IntKind.i64.wrap ((k : Int) + 1) = (k : Int) + 1 := IntWalk.i64_in _ (by omega)
      have hw2 : Int.tmod ((k : Int) + 1) (outs.length : Int) = (((k + 1) % outs.length : Nat) : Int) := tmod_nat (k + 1) outs.length
      have hne1 : ((outs.length : Int) == 0) = false := by rw [beq_eq_false_iff_ne]; omega
      have hne2 : ¬ (outs.length : Int) = 0 := by omega
      have hne3 : ¬ outs.length = 0 := by omega
      generalize (k + 1) % outs.length = j at *
      have hw3 : IntKind.i64.wrap (j : Int) = (j : Int) := IntWalk.i64_in _ (by omega)
      have hjj : (j : Int) < (outs.length : Int) := by omega
      obtain ⟨a1, p1, c0, c1, c2, c3, c4, hwa, hra⟩ := ((HR.out.get k hlt).keep hbr (Nat.le_refl _)).val
      obtain ⟨a2, p2, d0, d1, d2, d3, d4, hwb, hrb⟩ := ((HR.out.get j hj).keep hbr (Nat.le_refl _)).val
      have HA := hide (Ex.Val.mk hwa hra)
      have HB := hide (Ex.Val.mk hwb hrb)
      have hda := HOK.out _ (List.getElem_mem hlt)
      have hdb := HOK.out _ (List.getElem_mem hj)
      have hbb := cell_lt c0
      simp only at hbb
      clear hwa hra hwb hrb
      generalize outs[k] = x at *
      generalize outs[j] = y at *
      have hlaw := of_two L (q % 16) hda hdb
      have HZ := hide (of_zzz L (q % 16) hda)
      obtain ⟨ra, hqa⟩ : ∃ r, OfM (varsD L) (q % 16) x = r := ⟨_, rfl⟩
      obtain ⟨rb, hqb⟩ : ∃ r, OfM (varsD L) (q % 16) y = r := ⟨_, rfl⟩
      obtain ⟨rc, hqc⟩ : ∃ r, OfM (varsD L) (q % 16) (.mk 5 6 0 [] [x, y]) = r := ⟨_, rfl⟩
      rw [hqa, hqb, hqc] at hlaw
      have HQA := hide hqa
      have HQB := hide hqb
      have HQC := hide hqc
      obtain ⟨Ta, Fa⟩ := ra
      obtain ⟨Tb, Fb⟩ := rb
      obtain ⟨Tc, Fc⟩ := rc
      simp only at hlaw
      have HLAW := hide hlaw
      have HOA : Hid (∀ (v : Value) (W : World), Ex.Val W x v → Below w2.heap.size w2 W → Calls Tryd.prog 16 #[.slice va (varsD L).length vc, .int .i64 (q % 16), v] W fun r w' => r = .returned (.tuple #[.int .i64 Ta, .int .i64 Fa]) ∧ Below W.heap.size W w') := hide fun v W hv hW => by
        have := HO.out (q % 16) x v W hv hW
        rw [HQA.out] at this
        exact this
      have HOB : Hid (∀ (v : Value) (W : World), Ex.Val W y v → Below w2.heap.size w2 W → Calls Tryd.prog 16 #[.slice va (varsD L).length vc, .int .i64 (q % 16), v] W fun r w' => r = .returned (.tuple #[.int .i64 Tb, .int .i64 Fb]) ∧ Below W.heap.size W w') := hide fun v W hv hW => by
        have := HO.out (q % 16) y v W hv hW
        rw [HQB.out] at this
        exact this
      have HOC : Hid (∀ (v : Value) (W : World), Ex.Val W (.mk 5 6 0 [] [x, y]) v → Below w2.heap.size w2 W → Calls Tryd.prog 16 #[.slice va (varsD L).length vc, .int .i64 (q % 16), v] W fun r w' => r = .returned (.tuple #[.int .i64 Tc, .int .i64 Fc]) ∧ Below W.heap.size W w') := hide fun v W hv hW => by
        have := HO.out (q % 16) _ v W hv hW
        rw [HQC.out] at this
        exact this
      have HOZ : Hid (∀ (v : Value) (W : World), Ex.Val W (.mk 6 0 0 [122, 122, 122] [x]) v → Below w2.heap.size w2 W → Calls Tryd.prog 16 #[.slice va (varsD L).length vc, .int .i64 (q % 16), v] W fun r w' => r = .returned (.tuple #[.int .i64 0, .int .i64 11]) ∧ Below W.heap.size W w') := hide fun v W hv hW => by
        have := HO.out (q % 16) _ v W hv hW
        rw [HZ.out] at this
        exact this
      clear hqa hqb hqc hlaw hda hdb
      go_wp2_with fail
      go_region_held3 (fun w' => w'.cell? ⟨b, o + k * 5, none⟩ = some (.int .i64 x.kind) ∧ w'.cell? ⟨b, o + k * 5 + 1, none⟩ = some (.int .i64 x.op) ∧ w'.cell? ⟨b, o + k * 5 + 2, none⟩ = some (.int .i64 x.num) ∧ w'.cell? ⟨b, o + k * 5 + 3, none⟩ = some (.string ⟨x.name.toArray⟩) ∧ w'.cell? ⟨b, o + k * 5 + 4, none⟩ = some (.slice a1 x.args.length p1) ∧
          w'.cell? ⟨b, o + j * 5, none⟩ = some (.int .i64 y.kind) ∧ w'.cell? ⟨b, o + j * 5 + 1, none⟩ = some (.int .i64 y.op) ∧ w'.cell? ⟨b, o + j * 5 + 2, none⟩ = some (.int .i64 y.num) ∧ w'.cell? ⟨b, o + j * 5 + 3, none⟩ = some (.string ⟨y.name.toArray⟩) ∧ w'.cell? ⟨b, o + j * 5 + 4, none⟩ = some (.slice a2 y.args.length p2))
        (go_keep) (fail)
      all_goals
        go_wp2_with fail
        refine (HOA.out _ _ (HA.out.keep ((((bl wr).dr).al _).al _) (Nat.le_refl _)) (hbr.tr ((((bl wr).dr).al _).al _))).mono ?_
        rintro r w3 ⟨rfl, hb3⟩
        obtain ⟨hc3, _⟩ := bcell hb3
        have hx3 : Below wr.heap.size wr w3 := (((((bl wr).dr).al _).al _)).tr hb3
        go_wp2_with fail
        refine (HOB.out _ _ (HB.out.keep hx3 (Nat.le_refl _)) (hbr.tr hx3)).mono ?_
        rintro r w4 ⟨rfl, hb4⟩
        obtain ⟨hc4, _⟩ := bcell hb4
        have hx4 := hx3.tr hb4
        have hs3 : wr.heap.size + 1 < w3.heap.size := by have := hb3.size; simp at this; omega
        have ht3 : wr.heap.size < w3.heap.size := Nat.lt_of_succ_lt hs3
        have hs4 : wr.heap.size + 1 < w4.heap.size := Nat.lt_of_lt_of_le hs3 hb4.size
        have ht4 : wr.heap.size < w4.heap.size := Nat.lt_of_succ_lt hs4
        obtain ⟨l1, l2, l3⟩ := HLAW.out
        clear hb3 hb4
        by_cases hfa : Fa = 0
        · subst hfa
          by_cases hfb : Fb = 0
          · subst hfb
            obtain rfl | rfl := l3 rfl rfl
            · go_wp2_with fail
              refine (binary_any' 6 x y _ _ _ (i64_small (by decide)) (HA.out.keep hx4 (Nat.le_refl _)) (HB.out.keep hx4 (Nat.le_refl _))).mono ?_
              rintro r w5 ⟨⟨v5, rfl, hv5⟩, hb5⟩
              obtain ⟨hc5, _⟩ := bcell hb5
              have hx5 := hx4.tr hb5
              have hs5 : wr.heap.size + 1 < w5.heap.size := Nat.lt_of_lt_of_le hs4 hb5.size
              have ht5 : wr.heap.size < w5.heap.size := Nat.lt_of_succ_lt hs5
              have HV5 := hide hv5
              obtain ⟨z5, q5, rfl, zz1, zz2⟩ := hv5
              clear zz1 zz2 hb5
              go_wp2_with fail
              refine (HOC.out _ _ HV5.out (hbr.tr hx5)).mono ?_
              rintro r w6 ⟨rfl, hb6⟩
              obtain ⟨hc6, _⟩ := bcell hb6
              have hx6 := hx5.tr hb6
              have hs6 : wr.heap.size + 1 < w6.heap.size := Nat.lt_of_lt_of_le hs5 hb6.size
              have ht6 : wr.heap.size < w6.heap.size := Nat.lt_of_succ_lt hs6
              clear hb6
              go_wp2_with fail
              refine (index_any' [122, 122, 122] x _ _ (by decide) (HA.out.keep hx6 (Nat.le_refl _))).mono ?_
              rintro r w7 ⟨⟨v7, rfl, hv7⟩, hb7⟩
              have hx7 := hx6.tr hb7
              have HV7 := hide hv7
              obtain ⟨z7, q7, rfl, zz1, zz2⟩ := hv7
              clear zz1 zz2 hb7
              go_wp2_with fail
              refine (HOZ.out _ _ HV7.out (hbr.tr hx7)).mono ?_
              rintro r w8 ⟨rfl, hb8⟩
              go_wp2_with fail
              go_roundw
              case rel => exact ⟨k + 1, by omega, by go_num, (hbr.tr hx7).tr hb8⟩
              case measure => simp [intOf]; omega
            · go_wp2_with fail
              refine (binary_any' 6 x y _ _ _ (i64_small (by decide)) (HA.out.keep hx4 (Nat.le_refl _)) (HB.out.keep hx4 (Nat.le_refl _))).mono ?_
              rintro r w5 ⟨⟨v5, rfl, hv5⟩, hb5⟩
              obtain ⟨hc5, _⟩ := bcell hb5
              have hx5 := hx4.tr hb5
              have hs5 : wr.heap.size + 1 < w5.heap.size := Nat.lt_of_lt_of_le hs4 hb5.size
              have ht5 : wr.heap.size < w5.heap.size := Nat.lt_of_succ_lt hs5
              have HV5 := hide hv5
              obtain ⟨z5, q5, rfl, zz1, zz2⟩ := hv5
              clear zz1 zz2 hb5
              go_wp2_with fail
              refine (HOC.out _ _ HV5.out (hbr.tr hx5)).mono ?_
              rintro r w6 ⟨rfl, hb6⟩
              obtain ⟨hc6, _⟩ := bcell hb6
              have hx6 := hx5.tr hb6
              have hs6 : wr.heap.size + 1 < w6.heap.size := Nat.lt_of_lt_of_le hs5 hb6.size
              have ht6 : wr.heap.size < w6.heap.size := Nat.lt_of_succ_lt hs6
              clear hb6
              go_wp2_with fail
              refine (index_any' [122, 122, 122] x _ _ (by decide) (HA.out.keep hx6 (Nat.le_refl _))).mono ?_
              rintro r w7 ⟨⟨v7, rfl, hv7⟩, hb7⟩
              have hx7 := hx6.tr hb7
              have HV7 := hide hv7
              obtain ⟨z7, q7, rfl, zz1, zz2⟩ := hv7
              clear zz1 zz2 hb7
              go_wp2_with fail
              refine (HOZ.out _ _ HV7.out (hbr.tr hx7)).mono ?_
              rintro r w8 ⟨rfl, hb8⟩
              go_wp2_with fail
              go_roundw
              case rel => exact ⟨k + 1, by omega, by go_num, (hbr.tr hx7).tr hb8⟩
              case measure => simp [intOf]; omega
          · obtain rfl : Fc = Fb := l2 rfl hfb
            have hg1 : (Fc != 0) = true := by simpa using hfb
            have hg2 : (Fc == 0) = false := by simpa using hfb
            clear hfb l1 l2 l3
            go_wp2_with fail
            refine (binary_any' 6 x y _ _ _ (i64_small (by decide)) (HA.out.keep hx4 (Nat.le_refl _)) (HB.out.keep hx4 (Nat.le_refl _))).mono ?_
            rintro r w5 ⟨⟨v5, rfl, hv5⟩, hb5⟩
            obtain ⟨hc5, _⟩ := bcell hb5
            have hx5 := hx4.tr hb5
            have hs5 : wr.heap.size + 1 < w5.heap.size := Nat.lt_of_lt_of_le hs4 hb5.size
            have ht5 : wr.heap.size < w5.heap.size := Nat.lt_of_succ_lt hs5
            have HV5 := hide hv5
            obtain ⟨z5, q5, rfl, zz1, zz2⟩ := hv5
            clear zz1 zz2 hb5
            go_wp2_with fail
            refine (HOC.out _ _ HV5.out (hbr.tr hx5)).mono ?_
            rintro r w6 ⟨rfl, hb6⟩
            obtain ⟨hc6, _⟩ := bcell hb6
            have hx6 := hx5.tr hb6
            have hs6 : wr.heap.size + 1 < w6.heap.size := Nat.lt_of_lt_of_le hs5 hb6.size
            have ht6 : wr.heap.size < w6.heap.size := Nat.lt_of_succ_lt hs6
            clear hb6
            go_wp2_with fail
            refine (index_any' [122, 122, 122] x _ _ (by decide) (HA.out.keep hx6 (Nat.le_refl _))).mono ?_
            rintro r w7 ⟨⟨v7, rfl, hv7⟩, hb7⟩
            have hx7 := hx6.tr hb7
            have HV7 := hide hv7
            obtain ⟨z7, q7, rfl, zz1, zz2⟩ := hv7
            clear zz1 zz2 hb7
            go_wp2_with fail
            refine (HOZ.out _ _ HV7.out (hbr.tr hx7)).mono ?_
            rintro r w8 ⟨rfl, hb8⟩
            go_wp2_with fail
            go_roundw
            case rel => exact ⟨k + 1, by omega, by go_num, (hbr.tr hx7).tr hb8⟩
            case measure => simp [intOf]; omega
        · obtain rfl : Fc = Fa := l1 hfa
          have hg1 : (Fc != 0) = true := by simpa using hfa
          have hg2 : (Fc == 0) = false := by simpa using hfa
          clear hfa l1 l2 l3
          go_wp2_with fail
          refine (binary_any' 6 x y _ _ _ (i64_small (by decide)) (HA.out.keep hx4 (Nat.le_refl _)) (HB.out.keep hx4 (Nat.le_refl _))).mono ?_
          rintro r w5 ⟨⟨v5, rfl, hv5⟩, hb5⟩
          obtain ⟨hc5, _⟩ := bcell hb5
          have hx5 := hx4.tr hb5
          have hs5 : wr.heap.size + 1 < w5.heap.size := Nat.lt_of_lt_of_le hs4 hb5.size
          have ht5 : wr.heap.size < w5.heap.size := Nat.lt_of_succ_lt hs5
          have HV5 := hide hv5
          obtain ⟨z5, q5, rfl, zz1, zz2⟩ := hv5
          clear zz1 zz2 hb5
          go_wp2_with fail
          refine (HOC.out _ _ HV5.out (hbr.tr hx5)).mono ?_
          rintro r w6 ⟨rfl, hb6⟩
          obtain ⟨hc6, _⟩ := bcell hb6
          have hx6 := hx5.tr hb6
          have hs6 : wr.heap.size + 1 < w6.heap.size := Nat.lt_of_lt_of_le hs5 hb6.size
          have ht6 : wr.heap.size < w6.heap.size := Nat.lt_of_succ_lt hs6
          clear hb6
          go_wp2_with fail
          refine (index_any' [122, 122, 122] x _ _ (by decide) (HA.out.keep hx6 (Nat.le_refl _))).mono ?_
          rintro r w7 ⟨⟨v7, rfl, hv7⟩, hb7⟩
          have hx7 := hx6.tr hb7
          have HV7 := hide hv7
          obtain ⟨z7, q7, rfl, zz1, zz2⟩ := hv7
          clear zz1 zz2 hb7
          go_wp2_with fail
          refine (HOZ.out _ _ HV7.out (hbr.tr hx7)).mono ?_
          rintro r w8 ⟨rfl, hb8⟩
          go_wp2_with fail
          go_roundw
          case rel => exact ⟨k + 1, by omega, by go_num, (hbr.tr hx7).tr hb8⟩
          case measure => simp [intOf]; omega
    · obtain rfl : k = outs.length := by omega
      have hbw := hb.tr hbr
      go_wp2_with fail
      refine (works_any _ (HT.out.below hbw)).mono ?_
      rintro r w3 ⟨rfl, hb3⟩
      go_wp2_with fail
      go_ret
      exact ⟨rfl, hbw.tr hb3⟩
end Go.Proofs.YtfpikakgaghdbaaDoor
