/- The reader of a draft of layer 10: statements that block makes (7). -/
import Derived.Test.YtccgpmncpemmdaaDoorDnD
namespace Go.Proofs.YtccgpmncpemmdaaDoor
open Go Go.RowKit
set_option linter.unusedSimpArgs false
set_option linter.unusedVariables false
set_option linter.unnecessarySimpa false
set_option maxRecDepth 1000000 in
set_option maxHeartbeats 8000000 in
theorem nleaf_7 (sb g deep b p1 nx h : Nat) (L : List Nat) (blk : Qn → List St × Qn) (va : Option Addr) (ln vcap : Nat) (wo wc : World)
    (hb255 : b ≤ 255) (hn59 : nx < 60) (hp1 : p1 ≤ L.length) (hdp5 : (deep : Int) ≤ 5) (HKK : Hid (7 = skN h b))
    (HB : Hid (Bx wo sb g L #[.int .i64 ((7 : Nat) : Int), .int .i64 nx, .string ⟨#[]⟩, .int .i64 0, .string ⟨#[]⟩, .slice none 0 0, .slice none 0 0, .slice none 0 0] p1 (nx + 1) wc))
    (u8 u9 u10 u11 u12 u13 u14 u15 u16 u17 u18 u19 u20 u21 u22 u23 u24 u25 u26 u27 u28 u29 u30 u31 u32 u33 u34 u35 u36 u37 u38 u39 u40 u41 u42 u43 u44 u45 u46 u47 u48 u49 u50 u51 u52 u53 u54 u55 u56 u57 u58 u59 u60 u61 u62 u63 u64 u65 u66 u67 u68 u69 u70 u71 u72 u73 u74 u75 u76 u77 u78 u79 u80 u81 u82 u83 u84 u85 u86 u87 u88 u89 u90 u91 u92 u93 u94 u95 u96 u97 u98 u99 u100 u101 u102 u103 u104 u105 u106 u107 u108 u109 u110 u111 u112 u113 u114 u115 u116 u117 u118 u119 u120 u121 u122 u123 u124 u125 u126 u127 u128 u129 u130 u131 u132 u133 u134 u135 u136 u137 u138 u139 u140 u141 u142 u143 u144 u145 u146 u147 u148 u149 u150 u151 u152 u153 u154 u155 u156 u157 u158 u159 u160 u161 u162 u163 u164 u165 u166 u167 u168 u169 u170 u171 u172 u173 u174 u175 u176 u177 u178 u179 u180 u181 u182 u183 : Value) :
    Code.wp Tryd.prog ((Tryd.f31.body.bind (codeAt 9)).getD .skip) (Exit.then (SwI sb g deep b va ln vcap (fun wx => Hid (StR wo sb g L (stN L h blk b nx (p1, nx + 1)).1 (stN L h blk b nx (p1, nx + 1)).2 wx))) (fun _ _ _ => False)) ⟨#[.pointer (some ⟨sb, 0, none⟩), .int .i64 (deep : Nat), undef, undef, .slice none 0 0, .slice va ln vcap, .int .u8 (b : Nat), .pointer (some ⟨g, 0, none⟩), u8, u9, u10, u11, u12, u13, u14, u15, u16, u17, u18, u19, u20, u21, u22, u23, u24, u25, u26, u27, u28, u29, u30, u31, u32, u33, u34, u35, u36, u37, u38, u39, u40, u41, u42, u43, u44, u45, u46, u47, u48, u49, u50, u51, u52, u53, u54, u55, u56, u57, u58, u59, u60, u61, u62, u63, u64, u65, u66, u67, u68, u69, u70, u71, u72, u73, u74, u75, u76, u77, u78, u79, u80, u81, u82, u83, u84, u85, u86, u87, u88, u89, u90, u91, u92, u93, u94, u95, u96, u97, u98, u99, u100, u101, u102, u103, u104, u105, u106, u107, u108, u109, u110, u111, u112, u113, u114, u115, u116, u117, u118, u119, u120, u121, u122, u123, u124, u125, u126, u127, u128, u129, u130, u131, u132, u133, u134, u135, u136, u137, u138, u139, u140, u141, u142, u143, u144, u145, u146, u147, u148, u149, u150, u151, u152, u153, u154, u155, u156, u157, u158, u159, u160, u161, u162, u163, u164, u165, u166, u167, u168, u169, u170, u171, u172, u173, u174, u175, u176, u177, u178, u179, u180, u181, u182, u183, undef], []⟩ wc := by
  have HBW := hide fun p => HB.out.src.byte_le p
  have HN := hide fun (p nx : Nat) (W : World) (hW : Rdr W sb L p nx) => byte_any sb nx p L W hW
  have HE3 := hide fun (p nx : Nat) (W : World) (hW : Rdr W sb L p nx) => nexpr3_any sb nx L W p hW
  have HE2 := hide fun (p nx : Nat) (W : World) (hW : Rdr W sb L p nx) => nexpr2_any sb nx L W p hW
  obtain ⟨s', q', hsq⟩ : ∃ s' q', stN L h blk b nx (p1, nx + 1) = (s', q') := ⟨_, _, rfl⟩
  rw [hsq]
  have HSQ := hide hsq
  clear hsq
  conv => arg 2; whnf
  have x0 := cell_at (j := 0) HB.out.x rfl
  have hgl := HB.out.glt
  go_wp2_with fail
  refine (HN.out p1 (nx + 1) _ ?_).mono ?_
  · exact (HB.out).src
  rintro r wa ⟨rfl, HSa, hKa⟩
  have HBa := (HB.out).st HSa hKa
  clear HSa hKa
  go_wp2_with fail
  refine (word_any _ (HBW.out _) _).mono ?_
  rintro r wb ⟨rfl, hbb⟩
  have HBb := HBa.be hbb
  have HE : Hid (wdN (rbN L p1).1 = (wrN L p1).1) := hide rfl
  have HE2 : Hid ((rbN L p1).2 = (wrN L p1).2) := hide rfl
  rw [HE.out]
  rw [HE2.out] at HBb
  clear hbb HBa HE HE2
  replace HB := hide HBb
  clear HBb x0 hgl
  have x4 := cell_at (j := 4) HB.out.x rfl
  have f4 := free_at (j := 4) HB.out.x
  have hgl := HB.out.glt
  have HB4 := HB.out.set 4 (.string ⟨List.toArray (wrN L p1).1⟩)
  by_cases h100 : 100 ≤ b
  · have hd100 : decide ((100 : Int) ≤ (b : Int)) = true := decide_eq_true (by omega)
    have hi100 : (100 : Int) ≤ (b : Int) := by omega
    have e : stN L h blk b nx (p1, nx + 1) = (.mk 7 nx (wrN L (wrN L p1).2).1 0 (wrN L p1).1 (xsN L 2 (b / 10 % 3) (wrN L (wrN L p1).2).2).1 [] [], ((xsN L 2 (b / 10 % 3) (wrN L (wrN L p1).2).2).2, nx + 1)) := by rw [stN]; simp [← HKK.out, h100]
    obtain ⟨rfl, rfl⟩ := Prod.mk.inj (HSQ.out.symm.trans e)
    clear e
    go_wp2_with fail
    refine (HN.out (wrN L p1).2 (nx + 1) _ ?_).mono ?_
    · exact (HB4).src
    rintro r wa ⟨rfl, HSa, hKa⟩
    have HBa := (HB4).st HSa hKa
    clear HSa hKa
    go_wp2_with fail
    refine (word_any _ (HBW.out _) _).mono ?_
    rintro r wb ⟨rfl, hbb⟩
    have HBb := HBa.be hbb
    have HE : Hid (wdN (rbN L (wrN L p1).2).1 = (wrN L (wrN L p1).2).1) := hide rfl
    have HE2 : Hid ((rbN L (wrN L p1).2).2 = (wrN L (wrN L p1).2).2) := hide rfl
    rw [HE.out]
    rw [HE2.out] at HBb
    clear hbb HBa HE HE2
    clear x4 f4 hgl HB4
    replace HB := hide HBb
    have x4 := cell_at (j := 2) HB.out.x rfl
    have f4 := free_at (j := 2) HB.out.x
    have hgl := HB.out.glt
    have HB0 := HB.out
    go_wp2_with fail
    clear x4 f4
    go_loopw [9] (fun i wi => ∃ (j : Nat) (va2 : Option Addr) (vc2 : Nat), j ≤ b / 10 % 3 ∧ i = .int .i64 j ∧ Hid (Bx wo sb g L #[.int .i64 7, .int .i64 nx, .string ⟨List.toArray (wrN L (wrN L p1).2).1⟩, .int .i64 0, .string ⟨List.toArray (wrN L p1).1⟩, .slice va2 j vc2, .slice none 0 0, .slice none 0 0] (xsN L 2 j (wrN L (wrN L p1).2).2).2 (nx + 1) wi) ∧ Hid (OwnL wi (g + 1) 91 5 ExC (List.range (g + 1)) (.slice va2 j vc2) (xsN L 2 j (wrN L (wrN L p1).2).2).1)) (fun i _ => b / 10 % 3 - (intOf i).toNat)
    case atStart => exact ⟨0, none, 0, Nat.zero_le _, rfl, hide ((HB0.set 2 (.string ⟨List.toArray (wrN L (wrN L p1).2).1⟩)).to (by simp)), hide (OwnL.nil _ _ _ _ _ _)⟩
    case round =>
      obtain ⟨j, va2, vc2, hj, rfl, HBI, HOI⟩ := hrel
      have hsg : sb < g := HBI.out.lt.1
      by_cases hlt : (j : Int) < (b : Int) / 10 % 3
      · have hj2 : j < b / 10 % 3 := by omega
        go_upto_region 32 with fail
        have x5 := cell_at (j := 5) HBI.out.x rfl
        have hgl := HBI.out.glt
        have HBD := hide (HBI.out.be (bl _).dr)
        have HSD := hide HBD.out.src
        have HOD := hide (HOI.out.below ExC.mono (bl _).dr)
        clear HBI HOI HB HB0
        refine wp_region_held_drew (S := fun _ => True) (by kernel_rfl) trivial (fun hHeld => ?_)
        refine wpAnyH_take (i := 0) (v := ?_) (by simp only [List.getElem?_toArray, List.getElem?_cons_succ, List.getElem?_cons_zero]; rfl) (by kernel_rfl) (by kernel_rfl) (by kernel_rfl) (by exact fun _ _ _ h => h) (Or.inl ⟨by rfl, ?_⟩) (by assumption) ?_
        rotate_left 1
        · ((intro w hSw; (try dsimp only at hSw); go_simp) <;> with_reducible rfl)
        try simp only [Act.put, List.setIfInBounds_toArray, List.set_cons_zero, List.set_cons_succ]
        refine wpAnyH_take (i := 2) (v := ?_) (by simp only [List.getElem?_toArray, List.getElem?_cons_succ, List.getElem?_cons_zero]; rfl) (by kernel_rfl) (by kernel_rfl) (by kernel_rfl) (by exact fun _ _ _ h => h) (Or.inl ⟨by rfl, ?_⟩) (by assumption) ?_
        rotate_left 1
        · ((intro w hSw; (try dsimp only at hSw); go_simp) <;> with_reducible rfl)
        try simp only [Act.put, List.setIfInBounds_toArray, List.set_cons_zero, List.set_cons_succ]
        refine wpAnyH_ready (rs := [1, 3]) (by kernel_rfl) (by simp) ?_
        refine AllReadyH.cons rfl (fun K hK => ?_) (AllReadyH.cons rfl (fun K hK => ?_) AllReadyH.nil)
        all_goals go_simp
        · refine hK.out _ _ trivial (fun hHeld => ?_)
          clear hK K
          try simp only [Act.put, List.setIfInBounds_toArray, List.set_cons_zero, List.set_cons_succ]
          refine wpAnyH_ready (rs := [3]) (by kernel_rfl) (by simp) ?_
          refine AllReadyH.cons rfl (fun K hK => ?_) AllReadyH.nil
          go_simp
          (with_reducible refine (HE2.out _ _ _ HSD.out).mono ?_)
          rintro r w6 ⟨⟨v, rfl, hv⟩, HS6, hKc⟩
          obtain ⟨ea, ecap, rfl, hew, her⟩ := hv
          have HB6 := hide (HBD.out.st HS6 hKc)
          have HXB := hide (show Bx wo sb g L _ _ _ w6 from HB6.out)
          have x5 := cell_at (j := 5) HB6.out.x rfl
          have HO6 := hide (HOD.out.kept ExC.mono hKc (by simp; omega))
          have hg6 := HB6.out.glt
          obtain ⟨e7, p7, hq7⟩ : ∃ e7 p7, exN L 2 (xsN L 2 j (wrN L (wrN L p1).2).2).2 = (e7, p7) := ⟨_, _, rfl⟩
          rw [hq7] at HB6 hew her ⊢
          have HST7 : Hid (xsN L 2 (j + 1) (wrN L (wrN L p1).2).2 = ((xsN L 2 j (wrN L (wrN L p1).2).2).1 ++ [e7], p7)) := hide (by rw [xsN]; simp only [hq7])
          simp only at hew her HB6 ⊢
          have HBA := hide (HB6.out.al (.cells #[.int .i64 e7.kind, .int .i64 e7.op, .int .i64 e7.num, .string ⟨List.toArray e7.name⟩, .slice ea e7.args.length ecap] 91))
          have HOA := hide (HO6.out.al ExC.mono (.cells #[.int .i64 e7.kind, .int .i64 e7.op, .int .i64 e7.num, .string ⟨List.toArray e7.name⟩, .slice ea e7.args.length ecap] 91))
          have HNW := hide (news_row w6 [.int .i64 e7.kind, .int .i64 e7.op, .int .i64 e7.num, .string ⟨List.toArray e7.name⟩, .slice ea e7.args.length ecap] 91 w6.heap.size rfl)
          have hav7 := own_avoid HOD.out (Nat.le_refl _) (fun x hx => by have := List.mem_range.1 hx; have := HBD.out.glt; omega)
          have HV7 := hide (⟨ea, ecap, rfl, hew, her.has ((has_nw_av hav7).tr (has_av_below ((bl w6).al (.cells #[.int .i64 e7.kind, .int .i64 e7.op, .int .i64 e7.num, .string ⟨List.toArray e7.name⟩, .slice ea e7.args.length ecap] 91))))⟩ : ExC (av _ (w6.alloc (.cells #[.int .i64 e7.kind, .int .i64 e7.op, .int .i64 e7.num, .string ⟨List.toArray e7.name⟩, .slice ea e7.args.length ecap] 91))) e7 [.int .i64 e7.kind, .int .i64 e7.op, .int .i64 e7.num, .string ⟨List.toArray e7.name⟩, .slice ea e7.args.length ecap])
          have HSZ : Hid (g + 1 ≤ (w6.alloc (.cells #[.int .i64 e7.kind, .int .i64 e7.op, .int .i64 e7.num, .string ⟨List.toArray e7.name⟩, .slice ea e7.args.length ecap] 91)).heap.size) := hide (by rw [World.size_alloc]; omega)
          clear HS6 hKc hew her hav7 hq7 HXB
          refine hK.out _ _ trivial (fun hHeld => ?_)
          clear hK K
          try simp only [Act.put, List.setIfInBounds_toArray, List.set_cons_zero, List.set_cons_succ]
          refine wpAnyH_ready (rs := [4]) (by kernel_rfl) (by simp) ?_
          refine AllReadyH.cons rfl (fun K hK => ?_) AllReadyH.nil
          go_simp
          refine hK.out _ _ trivial (fun hHeld => ?_)
          clear hK K
          try simp only [Act.put, List.setIfInBounds_toArray, List.set_cons_zero, List.set_cons_succ]
          refine wpAnyH_ready (rs := [5]) (by kernel_rfl) (by simp) ?_
          refine AllReadyH.cons rfl (fun K hK => ?_) AllReadyH.nil
          obtain ⟨j0, hj0, hy0, hy1, hy2⟩ := info_parts info_ex
          refine step_push _ (by rfl) _ _ 60 (by rfl) (g + 1) 91 j0 _ 5 64 Tryd.underlying60 hj0 hy0 hy1 hy2 (by rfl) (Nat.succ_pos _) ExC ExC.mono (List.range (g + 1)) (.slice va2 j vc2) (xsN L 2 j (wrN L (wrN L p1).2).2).1 (by rfl) HOA.out ⟨w6.heap.size, 0, none⟩ 1 [.int .i64 e7.kind, .int .i64 e7.op, .int .i64 e7.num, .string ⟨List.toArray e7.name⟩, .slice ea e7.args.length ecap] e7 (by rfl) (by rfl) HNW.out (by simp [Value.oneCell']) HV7.out (by rw [xsN_len]; unfold maxLen; omega) (by rw [xsN_len]; omega) HSZ.out ?_
          intro v' w7 hown7 hgrow
          clear hj0 hy0 hy1 hy2 j0
          obtain ⟨va3, vc3, he, -, -⟩ := hown7.slice
          rw [List.length_append, xsN_len] at he
          have he : v' = .slice va3 (j + 1) vc3 := he
          subst he
          have hbk := fun k hk => (HOA.out.lt k hk).1
          have HB7 : Hid (Bx wo sb g L _ p7 (nx + 1) w7) := hide ⟨HBA.out.src.grown hgrow (fun k hk => by have := hbk k hk; omega), HBA.out.k.grown hgrow (fun k hk => .inr (by have := hbk k hk; have := HBA.out.lt.2; omega)), (hgrow.block _ HBA.out.glt (fun e => by have := hbk _ e.symm; omega)).trans HBA.out.x, HBA.out.lt⟩
          have z5 := cell_at (j := 5) HB7.out.x rfl
          have f57 := free_at (j := 5) HB7.out.x
          have hg7 := HB7.out.glt
          have HO7 := hide hown7
          clear hown7 hgrow
          refine hK.out _ _ trivial (fun hHeld => ?_)
          clear hK K
          try simp only [Act.put, List.setIfInBounds_toArray, List.set_cons_zero, List.set_cons_succ]
          refine wpAnyH_take (i := 6) (v := ?_) (by simp only [List.getElem?_toArray, List.getElem?_cons_succ, List.getElem?_cons_zero]; rfl) (by kernel_rfl) (by kernel_rfl) (by kernel_rfl) (by exact fun _ _ _ h => h) (Or.inl ⟨by rfl, ?_⟩) (by assumption) ?_
          rotate_left 1
          · ((intro w hSw; (try dsimp only at hSw); go_simp) <;> with_reducible rfl)
          try simp only [Act.put, List.setIfInBounds_toArray, List.set_cons_zero, List.set_cons_succ]
          refine wpAnyH_ready (rs := [7]) (by kernel_rfl) (by simp) ?_
          refine AllReadyH.cons rfl (fun K hK => ?_) AllReadyH.nil
          go_simp
          refine hK.out _ _ trivial (fun hHeld => ?_)
          clear hK K
          try simp only [Act.put, List.setIfInBounds_toArray, List.set_cons_zero, List.set_cons_succ]
          refine wpAnyH_done (by kernel_rfl) ?_ _
          go_wp2_with fail
          go_roundw
          case rel =>
            refine ⟨j + 1, va3, vc3, by omega, by go_num, hide (by rw [HST7.out]; exact (HB7.out.set 5 (.slice va3 (j + 1) vc3)).to (by simp)), hide ?_⟩
            rw [HST7.out]
            exact HO7.out.kept ExC.mono ((Kept.refl [g] w7).set (g := g) (.inl (by simp)) 5 _) (by simp)
          case measure => simp [intOf]; omega
        · (with_reducible refine (HE2.out _ _ _ HSD.out).mono ?_)
          rintro r w6 ⟨⟨v, rfl, hv⟩, HS6, hKc⟩
          obtain ⟨ea, ecap, rfl, hew, her⟩ := hv
          have HB6 := hide (HBD.out.st HS6 hKc)
          have HXB := hide (show Bx wo sb g L _ _ _ w6 from HB6.out)
          have x5 := cell_at (j := 5) HB6.out.x rfl
          have HO6 := hide (HOD.out.kept ExC.mono hKc (by simp; omega))
          have hg6 := HB6.out.glt
          obtain ⟨e7, p7, hq7⟩ : ∃ e7 p7, exN L 2 (xsN L 2 j (wrN L (wrN L p1).2).2).2 = (e7, p7) := ⟨_, _, rfl⟩
          rw [hq7] at HB6 hew her ⊢
          have HST7 : Hid (xsN L 2 (j + 1) (wrN L (wrN L p1).2).2 = ((xsN L 2 j (wrN L (wrN L p1).2).2).1 ++ [e7], p7)) := hide (by rw [xsN]; simp only [hq7])
          simp only at hew her HB6 ⊢
          have HBA := hide (HB6.out.al (.cells #[.int .i64 e7.kind, .int .i64 e7.op, .int .i64 e7.num, .string ⟨List.toArray e7.name⟩, .slice ea e7.args.length ecap] 91))
          have HOA := hide (HO6.out.al ExC.mono (.cells #[.int .i64 e7.kind, .int .i64 e7.op, .int .i64 e7.num, .string ⟨List.toArray e7.name⟩, .slice ea e7.args.length ecap] 91))
          have HNW := hide (news_row w6 [.int .i64 e7.kind, .int .i64 e7.op, .int .i64 e7.num, .string ⟨List.toArray e7.name⟩, .slice ea e7.args.length ecap] 91 w6.heap.size rfl)
          have hav7 := own_avoid HOD.out (Nat.le_refl _) (fun x hx => by have := List.mem_range.1 hx; have := HBD.out.glt; omega)
          have HV7 := hide (⟨ea, ecap, rfl, hew, her.has ((has_nw_av hav7).tr (has_av_below ((bl w6).al (.cells #[.int .i64 e7.kind, .int .i64 e7.op, .int .i64 e7.num, .string ⟨List.toArray e7.name⟩, .slice ea e7.args.length ecap] 91))))⟩ : ExC (av _ (w6.alloc (.cells #[.int .i64 e7.kind, .int .i64 e7.op, .int .i64 e7.num, .string ⟨List.toArray e7.name⟩, .slice ea e7.args.length ecap] 91))) e7 [.int .i64 e7.kind, .int .i64 e7.op, .int .i64 e7.num, .string ⟨List.toArray e7.name⟩, .slice ea e7.args.length ecap])
          have HSZ : Hid (g + 1 ≤ (w6.alloc (.cells #[.int .i64 e7.kind, .int .i64 e7.op, .int .i64 e7.num, .string ⟨List.toArray e7.name⟩, .slice ea e7.args.length ecap] 91)).heap.size) := hide (by rw [World.size_alloc]; omega)
          clear HS6 hKc hew her hav7 hq7 HXB
          refine hK.out _ _ trivial (fun hHeld => ?_)
          clear hK K
          try simp only [Act.put, List.setIfInBounds_toArray, List.set_cons_zero, List.set_cons_succ]
          refine wpAnyH_ready (rs := [1, 4]) (by kernel_rfl) (by simp) ?_
          refine AllReadyH.cons rfl (fun K hK => ?_) (AllReadyH.cons rfl (fun K hK => ?_) AllReadyH.nil)
          all_goals go_simp
          · refine hK.out _ _ trivial (fun hHeld => ?_)
            clear hK K
            try simp only [Act.put, List.setIfInBounds_toArray, List.set_cons_zero, List.set_cons_succ]
            refine wpAnyH_ready (rs := [4]) (by kernel_rfl) (by simp) ?_
            refine AllReadyH.cons rfl (fun K hK => ?_) AllReadyH.nil
            go_simp
            refine hK.out _ _ trivial (fun hHeld => ?_)
            clear hK K
            try simp only [Act.put, List.setIfInBounds_toArray, List.set_cons_zero, List.set_cons_succ]
            refine wpAnyH_ready (rs := [5]) (by kernel_rfl) (by simp) ?_
            refine AllReadyH.cons rfl (fun K hK => ?_) AllReadyH.nil
            obtain ⟨j0, hj0, hy0, hy1, hy2⟩ := info_parts info_ex
            refine step_push _ (by rfl) _ _ 60 (by rfl) (g + 1) 91 j0 _ 5 64 Tryd.underlying60 hj0 hy0 hy1 hy2 (by rfl) (Nat.succ_pos _) ExC ExC.mono (List.range (g + 1)) (.slice va2 j vc2) (xsN L 2 j (wrN L (wrN L p1).2).2).1 (by rfl) HOA.out ⟨w6.heap.size, 0, none⟩ 1 [.int .i64 e7.kind, .int .i64 e7.op, .int .i64 e7.num, .string ⟨List.toArray e7.name⟩, .slice ea e7.args.length ecap] e7 (by rfl) (by rfl) HNW.out (by simp [Value.oneCell']) HV7.out (by rw [xsN_len]; unfold maxLen; omega) (by rw [xsN_len]; omega) HSZ.out ?_
            intro v' w7 hown7 hgrow
            clear hj0 hy0 hy1 hy2 j0
            obtain ⟨va3, vc3, he, -, -⟩ := hown7.slice
            rw [List.length_append, xsN_len] at he
            have he : v' = .slice va3 (j + 1) vc3 := he
            subst he
            have hbk := fun k hk => (HOA.out.lt k hk).1
            have HB7 : Hid (Bx wo sb g L _ p7 (nx + 1) w7) := hide ⟨HBA.out.src.grown hgrow (fun k hk => by have := hbk k hk; omega), HBA.out.k.grown hgrow (fun k hk => .inr (by have := hbk k hk; have := HBA.out.lt.2; omega)), (hgrow.block _ HBA.out.glt (fun e => by have := hbk _ e.symm; omega)).trans HBA.out.x, HBA.out.lt⟩
            have z5 := cell_at (j := 5) HB7.out.x rfl
            have f57 := free_at (j := 5) HB7.out.x
            have hg7 := HB7.out.glt
            have HO7 := hide hown7
            clear hown7 hgrow
            refine hK.out _ _ trivial (fun hHeld => ?_)
            clear hK K
            try simp only [Act.put, List.setIfInBounds_toArray, List.set_cons_zero, List.set_cons_succ]
            refine wpAnyH_take (i := 6) (v := ?_) (by simp only [List.getElem?_toArray, List.getElem?_cons_succ, List.getElem?_cons_zero]; rfl) (by kernel_rfl) (by kernel_rfl) (by kernel_rfl) (by exact fun _ _ _ h => h) (Or.inl ⟨by rfl, ?_⟩) (by assumption) ?_
            rotate_left 1
            · ((intro w hSw; (try dsimp only at hSw); go_simp) <;> with_reducible rfl)
            try simp only [Act.put, List.setIfInBounds_toArray, List.set_cons_zero, List.set_cons_succ]
            refine wpAnyH_ready (rs := [7]) (by kernel_rfl) (by simp) ?_
            refine AllReadyH.cons rfl (fun K hK => ?_) AllReadyH.nil
            go_simp
            refine hK.out _ _ trivial (fun hHeld => ?_)
            clear hK K
            try simp only [Act.put, List.setIfInBounds_toArray, List.set_cons_zero, List.set_cons_succ]
            refine wpAnyH_done (by kernel_rfl) ?_ _
            go_wp2_with fail
            go_roundw
            case rel =>
              refine ⟨j + 1, va3, vc3, by omega, by go_num, hide (by rw [HST7.out]; exact (HB7.out.set 5 (.slice va3 (j + 1) vc3)).to (by simp)), hide ?_⟩
              rw [HST7.out]
              exact HO7.out.kept ExC.mono ((Kept.refl [g] w7).set (g := g) (.inl (by simp)) 5 _) (by simp)
            case measure => simp [intOf]; omega
          · refine hK.out _ _ trivial (fun hHeld => ?_)
            clear hK K
            try simp only [Act.put, List.setIfInBounds_toArray, List.set_cons_zero, List.set_cons_succ]
            refine wpAnyH_ready (rs := [1]) (by kernel_rfl) (by simp) ?_
            refine AllReadyH.cons rfl (fun K hK => ?_) AllReadyH.nil
            go_simp
            refine hK.out _ _ trivial (fun hHeld => ?_)
            clear hK K
            try simp only [Act.put, List.setIfInBounds_toArray, List.set_cons_zero, List.set_cons_succ]
            refine wpAnyH_ready (rs := [5]) (by kernel_rfl) (by simp) ?_
            refine AllReadyH.cons rfl (fun K hK => ?_) AllReadyH.nil
            obtain ⟨j0, hj0, hy0, hy1, hy2⟩ := info_parts info_ex
            refine step_push _ (by rfl) _ _ 60 (by rfl) (g + 1) 91 j0 _ 5 64 Tryd.underlying60 hj0 hy0 hy1 hy2 (by rfl) (Nat.succ_pos _) ExC ExC.mono (List.range (g + 1)) (.slice va2 j vc2) (xsN L 2 j (wrN L (wrN L p1).2).2).1 (by rfl) HOA.out ⟨w6.heap.size, 0, none⟩ 1 [.int .i64 e7.kind, .int .i64 e7.op, .int .i64 e7.num, .string ⟨List.toArray e7.name⟩, .slice ea e7.args.length ecap] e7 (by rfl) (by rfl) HNW.out (by simp [Value.oneCell']) HV7.out (by rw [xsN_len]; unfold maxLen; omega) (by rw [xsN_len]; omega) HSZ.out ?_
            intro v' w7 hown7 hgrow
            clear hj0 hy0 hy1 hy2 j0
            obtain ⟨va3, vc3, he, -, -⟩ := hown7.slice
            rw [List.length_append, xsN_len] at he
            have he : v' = .slice va3 (j + 1) vc3 := he
            subst he
            have hbk := fun k hk => (HOA.out.lt k hk).1
            have HB7 : Hid (Bx wo sb g L _ p7 (nx + 1) w7) := hide ⟨HBA.out.src.grown hgrow (fun k hk => by have := hbk k hk; omega), HBA.out.k.grown hgrow (fun k hk => .inr (by have := hbk k hk; have := HBA.out.lt.2; omega)), (hgrow.block _ HBA.out.glt (fun e => by have := hbk _ e.symm; omega)).trans HBA.out.x, HBA.out.lt⟩
            have z5 := cell_at (j := 5) HB7.out.x rfl
            have f57 := free_at (j := 5) HB7.out.x
            have hg7 := HB7.out.glt
            have HO7 := hide hown7
            clear hown7 hgrow
            refine hK.out _ _ trivial (fun hHeld => ?_)
            clear hK K
            try simp only [Act.put, List.setIfInBounds_toArray, List.set_cons_zero, List.set_cons_succ]
            refine wpAnyH_take (i := 6) (v := ?_) (by simp only [List.getElem?_toArray, List.getElem?_cons_succ, List.getElem?_cons_zero]; rfl) (by kernel_rfl) (by kernel_rfl) (by kernel_rfl) (by exact fun _ _ _ h => h) (Or.inl ⟨by rfl, ?_⟩) (by assumption) ?_
            rotate_left 1
            · ((intro w hSw; (try dsimp only at hSw); go_simp) <;> with_reducible rfl)
            try simp only [Act.put, List.setIfInBounds_toArray, List.set_cons_zero, List.set_cons_succ]
            refine wpAnyH_ready (rs := [7]) (by kernel_rfl) (by simp) ?_
            refine AllReadyH.cons rfl (fun K hK => ?_) AllReadyH.nil
            go_simp
            refine hK.out _ _ trivial (fun hHeld => ?_)
            clear hK K
            try simp only [Act.put, List.setIfInBounds_toArray, List.set_cons_zero, List.set_cons_succ]
            refine wpAnyH_done (by kernel_rfl) ?_ _
            go_wp2_with fail
            go_roundw
            case rel =>
              refine ⟨j + 1, va3, vc3, by omega, by go_num, hide (by rw [HST7.out]; exact (HB7.out.set 5 (.slice va3 (j + 1) vc3)).to (by simp)), hide ?_⟩
              rw [HST7.out]
              exact HO7.out.kept ExC.mono ((Kept.refl [g] w7).set (g := g) (.inl (by simp)) 5 _) (by simp)
            case measure => simp [intOf]; omega
      · have hj3 : j = b / 10 % 3 := by omega
        subst hj3
        go_wp2_with fail
        unfold SwI
        (repeat apply Exists.intro)
        refine ⟨?_, rfl⟩
        refine ⟨rfl, hide ?_⟩
        obtain ⟨a, cap, he, hr, h1, h2⟩ := HOI.out.exs (fun x hx => List.mem_range.1 hx)
        simp only [Value.slice.injEq] at he
        obtain ⟨rfl, -, rfl⟩ := he
        exact StR.of va2 none none vc2 0 0 HBI.out (by simp [xsN_len]) (stWfN (by omega) (by omega) (by omega) (wr_100 L _) (wr_100 L p1) ⟨h1, h2⟩ zz_le zz_le) hr trivial trivial
  · have hd100 : decide ((100 : Int) ≤ (b : Int)) = false := decide_eq_false (by omega)
    have hi100 : (b : Int) < 100 := by omega
    have e : stN L h blk b nx (p1, nx + 1) = (.mk 7 nx [] 0 (wrN L p1).1 (xsN L 2 (b / 10 % 3) (wrN L p1).2).1 [] [], ((xsN L 2 (b / 10 % 3) (wrN L p1).2).2, nx + 1)) := by rw [stN]; simp [← HKK.out, h100]
    obtain ⟨rfl, rfl⟩ := Prod.mk.inj (HSQ.out.symm.trans e)
    clear e
    have HB0 := HB.out
    go_wp2_with fail
    clear x4 f4
    go_loopw [9] (fun i wi => ∃ (j : Nat) (va2 : Option Addr) (vc2 : Nat), j ≤ b / 10 % 3 ∧ i = .int .i64 j ∧ Hid (Bx wo sb g L #[.int .i64 7, .int .i64 nx, .string ⟨#[]⟩, .int .i64 0, .string ⟨List.toArray (wrN L p1).1⟩, .slice va2 j vc2, .slice none 0 0, .slice none 0 0] (xsN L 2 j (wrN L p1).2).2 (nx + 1) wi) ∧ Hid (OwnL wi (g + 1) 91 5 ExC (List.range (g + 1)) (.slice va2 j vc2) (xsN L 2 j (wrN L p1).2).1)) (fun i _ => b / 10 % 3 - (intOf i).toNat)
    case atStart => exact ⟨0, none, 0, Nat.zero_le _, rfl, hide ((HB0.set 4 (.string ⟨List.toArray (wrN L p1).1⟩)).to (by simp)), hide (OwnL.nil _ _ _ _ _ _)⟩
    case round =>
      obtain ⟨j, va2, vc2, hj, rfl, HBI, HOI⟩ := hrel
      have hsg : sb < g := HBI.out.lt.1
      by_cases hlt : (j : Int) < (b : Int) / 10 % 3
      · have hj2 : j < b / 10 % 3 := by omega
        go_upto_region 32 with fail
        have x5 := cell_at (j := 5) HBI.out.x rfl
        have hgl := HBI.out.glt
        have HBD := hide (HBI.out.be (bl _).dr)
        have HSD := hide HBD.out.src
        have HOD := hide (HOI.out.below ExC.mono (bl _).dr)
        clear HBI HOI HB HB0
        refine wp_region_held_drew (S := fun _ => True) (by kernel_rfl) trivial (fun hHeld => ?_)
        refine wpAnyH_take (i := 0) (v := ?_) (by simp only [List.getElem?_toArray, List.getElem?_cons_succ, List.getElem?_cons_zero]; rfl) (by kernel_rfl) (by kernel_rfl) (by kernel_rfl) (by exact fun _ _ _ h => h) (Or.inl ⟨by rfl, ?_⟩) (by assumption) ?_
        rotate_left 1
        · ((intro w hSw; (try dsimp only at hSw); go_simp) <;> with_reducible rfl)
        try simp only [Act.put, List.setIfInBounds_toArray, List.set_cons_zero, List.set_cons_succ]
        refine wpAnyH_take (i := 2) (v := ?_) (by simp only [List.getElem?_toArray, List.getElem?_cons_succ, List.getElem?_cons_zero]; rfl) (by kernel_rfl) (by kernel_rfl) (by kernel_rfl) (by exact fun _ _ _ h => h) (Or.inl ⟨by rfl, ?_⟩) (by assumption) ?_
        rotate_left 1
        · ((intro w hSw; (try dsimp only at hSw); go_simp) <;> with_reducible rfl)
        try simp only [Act.put, List.setIfInBounds_toArray, List.set_cons_zero, List.set_cons_succ]
        refine wpAnyH_ready (rs := [1, 3]) (by kernel_rfl) (by simp) ?_
        refine AllReadyH.cons rfl (fun K hK => ?_) (AllReadyH.cons rfl (fun K hK => ?_) AllReadyH.nil)
        all_goals go_simp
        · refine hK.out _ _ trivial (fun hHeld => ?_)
          clear hK K
          try simp only [Act.put, List.setIfInBounds_toArray, List.set_cons_zero, List.set_cons_succ]
          refine wpAnyH_ready (rs := [3]) (by kernel_rfl) (by simp) ?_
          refine AllReadyH.cons rfl (fun K hK => ?_) AllReadyH.nil
          go_simp
          (with_reducible refine (HE2.out _ _ _ HSD.out).mono ?_)
          rintro r w6 ⟨⟨v, rfl, hv⟩, HS6, hKc⟩
          obtain ⟨ea, ecap, rfl, hew, her⟩ := hv
          have HB6 := hide (HBD.out.st HS6 hKc)
          have HXB := hide (show Bx wo sb g L _ _ _ w6 from HB6.out)
          have x5 := cell_at (j := 5) HB6.out.x rfl
          have HO6 := hide (HOD.out.kept ExC.mono hKc (by simp; omega))
          have hg6 := HB6.out.glt
          obtain ⟨e7, p7, hq7⟩ : ∃ e7 p7, exN L 2 (xsN L 2 j (wrN L p1).2).2 = (e7, p7) := ⟨_, _, rfl⟩
          rw [hq7] at HB6 hew her ⊢
          have HST7 : Hid (xsN L 2 (j + 1) (wrN L p1).2 = ((xsN L 2 j (wrN L p1).2).1 ++ [e7], p7)) := hide (by rw [xsN]; simp only [hq7])
          simp only at hew her HB6 ⊢
          have HBA := hide (HB6.out.al (.cells #[.int .i64 e7.kind, .int .i64 e7.op, .int .i64 e7.num, .string ⟨List.toArray e7.name⟩, .slice ea e7.args.length ecap] 91))
          have HOA := hide (HO6.out.al ExC.mono (.cells #[.int .i64 e7.kind, .int .i64 e7.op, .int .i64 e7.num, .string ⟨List.toArray e7.name⟩, .slice ea e7.args.length ecap] 91))
          have HNW := hide (news_row w6 [.int .i64 e7.kind, .int .i64 e7.op, .int .i64 e7.num, .string ⟨List.toArray e7.name⟩, .slice ea e7.args.length ecap] 91 w6.heap.size rfl)
          have hav7 := own_avoid HOD.out (Nat.le_refl _) (fun x hx => by have := List.mem_range.1 hx; have := HBD.out.glt; omega)
          have HV7 := hide (⟨ea, ecap, rfl, hew, her.has ((has_nw_av hav7).tr (has_av_below ((bl w6).al (.cells #[.int .i64 e7.kind, .int .i64 e7.op, .int .i64 e7.num, .string ⟨List.toArray e7.name⟩, .slice ea e7.args.length ecap] 91))))⟩ : ExC (av _ (w6.alloc (.cells #[.int .i64 e7.kind, .int .i64 e7.op, .int .i64 e7.num, .string ⟨List.toArray e7.name⟩, .slice ea e7.args.length ecap] 91))) e7 [.int .i64 e7.kind, .int .i64 e7.op, .int .i64 e7.num, .string ⟨List.toArray e7.name⟩, .slice ea e7.args.length ecap])
          have HSZ : Hid (g + 1 ≤ (w6.alloc (.cells #[.int .i64 e7.kind, .int .i64 e7.op, .int .i64 e7.num, .string ⟨List.toArray e7.name⟩, .slice ea e7.args.length ecap] 91)).heap.size) := hide (by rw [World.size_alloc]; omega)
          clear HS6 hKc hew her hav7 hq7 HXB
          refine hK.out _ _ trivial (fun hHeld => ?_)
          clear hK K
          try simp only [Act.put, List.setIfInBounds_toArray, List.set_cons_zero, List.set_cons_succ]
          refine wpAnyH_ready (rs := [4]) (by kernel_rfl) (by simp) ?_
          refine AllReadyH.cons rfl (fun K hK => ?_) AllReadyH.nil
          go_simp
          refine hK.out _ _ trivial (fun hHeld => ?_)
          clear hK K
          try simp only [Act.put, List.setIfInBounds_toArray, List.set_cons_zero, List.set_cons_succ]
          refine wpAnyH_ready (rs := [5]) (by kernel_rfl) (by simp) ?_
          refine AllReadyH.cons rfl (fun K hK => ?_) AllReadyH.nil
          obtain ⟨j0, hj0, hy0, hy1, hy2⟩ := info_parts info_ex
          refine step_push _ (by rfl) _ _ 60 (by rfl) (g + 1) 91 j0 _ 5 64 Tryd.underlying60 hj0 hy0 hy1 hy2 (by rfl) (Nat.succ_pos _) ExC ExC.mono (List.range (g + 1)) (.slice va2 j vc2) (xsN L 2 j (wrN L p1).2).1 (by rfl) HOA.out ⟨w6.heap.size, 0, none⟩ 1 [.int .i64 e7.kind, .int .i64 e7.op, .int .i64 e7.num, .string ⟨List.toArray e7.name⟩, .slice ea e7.args.length ecap] e7 (by rfl) (by rfl) HNW.out (by simp [Value.oneCell']) HV7.out (by rw [xsN_len]; unfold maxLen; omega) (by rw [xsN_len]; omega) HSZ.out ?_
          intro v' w7 hown7 hgrow
          clear hj0 hy0 hy1 hy2 j0
          obtain ⟨va3, vc3, he, -, -⟩ := hown7.slice
          rw [List.length_append, xsN_len] at he
          have he : v' = .slice va3 (j + 1) vc3 := he
          subst he
          have hbk := fun k hk => (HOA.out.lt k hk).1
          have HB7 : Hid (Bx wo sb g L _ p7 (nx + 1) w7) := hide ⟨HBA.out.src.grown hgrow (fun k hk => by have := hbk k hk; omega), HBA.out.k.grown hgrow (fun k hk => .inr (by have := hbk k hk; have := HBA.out.lt.2; omega)), (hgrow.block _ HBA.out.glt (fun e => by have := hbk _ e.symm; omega)).trans HBA.out.x, HBA.out.lt⟩
          have z5 := cell_at (j := 5) HB7.out.x rfl
          have f57 := free_at (j := 5) HB7.out.x
          have hg7 := HB7.out.glt
          have HO7 := hide hown7
          clear hown7 hgrow
          refine hK.out _ _ trivial (fun hHeld => ?_)
          clear hK K
          try simp only [Act.put, List.setIfInBounds_toArray, List.set_cons_zero, List.set_cons_succ]
          refine wpAnyH_take (i := 6) (v := ?_) (by simp only [List.getElem?_toArray, List.getElem?_cons_succ, List.getElem?_cons_zero]; rfl) (by kernel_rfl) (by kernel_rfl) (by kernel_rfl) (by exact fun _ _ _ h => h) (Or.inl ⟨by rfl, ?_⟩) (by assumption) ?_
          rotate_left 1
          · ((intro w hSw; (try dsimp only at hSw); go_simp) <;> with_reducible rfl)
          try simp only [Act.put, List.setIfInBounds_toArray, List.set_cons_zero, List.set_cons_succ]
          refine wpAnyH_ready (rs := [7]) (by kernel_rfl) (by simp) ?_
          refine AllReadyH.cons rfl (fun K hK => ?_) AllReadyH.nil
          go_simp
          refine hK.out _ _ trivial (fun hHeld => ?_)
          clear hK K
          try simp only [Act.put, List.setIfInBounds_toArray, List.set_cons_zero, List.set_cons_succ]
          refine wpAnyH_done (by kernel_rfl) ?_ _
          go_wp2_with fail
          go_roundw
          case rel =>
            refine ⟨j + 1, va3, vc3, by omega, by go_num, hide (by rw [HST7.out]; exact (HB7.out.set 5 (.slice va3 (j + 1) vc3)).to (by simp)), hide ?_⟩
            rw [HST7.out]
            exact HO7.out.kept ExC.mono ((Kept.refl [g] w7).set (g := g) (.inl (by simp)) 5 _) (by simp)
          case measure => simp [intOf]; omega
        · (with_reducible refine (HE2.out _ _ _ HSD.out).mono ?_)
          rintro r w6 ⟨⟨v, rfl, hv⟩, HS6, hKc⟩
          obtain ⟨ea, ecap, rfl, hew, her⟩ := hv
          have HB6 := hide (HBD.out.st HS6 hKc)
          have HXB := hide (show Bx wo sb g L _ _ _ w6 from HB6.out)
          have x5 := cell_at (j := 5) HB6.out.x rfl
          have HO6 := hide (HOD.out.kept ExC.mono hKc (by simp; omega))
          have hg6 := HB6.out.glt
          obtain ⟨e7, p7, hq7⟩ : ∃ e7 p7, exN L 2 (xsN L 2 j (wrN L p1).2).2 = (e7, p7) := ⟨_, _, rfl⟩
          rw [hq7] at HB6 hew her ⊢
          have HST7 : Hid (xsN L 2 (j + 1) (wrN L p1).2 = ((xsN L 2 j (wrN L p1).2).1 ++ [e7], p7)) := hide (by rw [xsN]; simp only [hq7])
          simp only at hew her HB6 ⊢
          have HBA := hide (HB6.out.al (.cells #[.int .i64 e7.kind, .int .i64 e7.op, .int .i64 e7.num, .string ⟨List.toArray e7.name⟩, .slice ea e7.args.length ecap] 91))
          have HOA := hide (HO6.out.al ExC.mono (.cells #[.int .i64 e7.kind, .int .i64 e7.op, .int .i64 e7.num, .string ⟨List.toArray e7.name⟩, .slice ea e7.args.length ecap] 91))
          have HNW := hide (news_row w6 [.int .i64 e7.kind, .int .i64 e7.op, .int .i64 e7.num, .string ⟨List.toArray e7.name⟩, .slice ea e7.args.length ecap] 91 w6.heap.size rfl)
          have hav7 := own_avoid HOD.out (Nat.le_refl _) (fun x hx => by have := List.mem_range.1 hx; have := HBD.out.glt; omega)
          have HV7 := hide (⟨ea, ecap, rfl, hew, her.has ((has_nw_av hav7).tr (has_av_below ((bl w6).al (.cells #[.int .i64 e7.kind, .int .i64 e7.op, .int .i64 e7.num, .string ⟨List.toArray e7.name⟩, .slice ea e7.args.length ecap] 91))))⟩ : ExC (av _ (w6.alloc (.cells #[.int .i64 e7.kind, .int .i64 e7.op, .int .i64 e7.num, .string ⟨List.toArray e7.name⟩, .slice ea e7.args.length ecap] 91))) e7 [.int .i64 e7.kind, .int .i64 e7.op, .int .i64 e7.num, .string ⟨List.toArray e7.name⟩, .slice ea e7.args.length ecap])
          have HSZ : Hid (g + 1 ≤ (w6.alloc (.cells #[.int .i64 e7.kind, .int .i64 e7.op, .int .i64 e7.num, .string ⟨List.toArray e7.name⟩, .slice ea e7.args.length ecap] 91)).heap.size) := hide (by rw [World.size_alloc]; omega)
          clear HS6 hKc hew her hav7 hq7 HXB
          refine hK.out _ _ trivial (fun hHeld => ?_)
          clear hK K
          try simp only [Act.put, List.setIfInBounds_toArray, List.set_cons_zero, List.set_cons_succ]
          refine wpAnyH_ready (rs := [1, 4]) (by kernel_rfl) (by simp) ?_
          refine AllReadyH.cons rfl (fun K hK => ?_) (AllReadyH.cons rfl (fun K hK => ?_) AllReadyH.nil)
          all_goals go_simp
          · refine hK.out _ _ trivial (fun hHeld => ?_)
            clear hK K
            try simp only [Act.put, List.setIfInBounds_toArray, List.set_cons_zero, List.set_cons_succ]
            refine wpAnyH_ready (rs := [4]) (by kernel_rfl) (by simp) ?_
            refine AllReadyH.cons rfl (fun K hK => ?_) AllReadyH.nil
            go_simp
            refine hK.out _ _ trivial (fun hHeld => ?_)
            clear hK K
            try simp only [Act.put, List.setIfInBounds_toArray, List.set_cons_zero, List.set_cons_succ]
            refine wpAnyH_ready (rs := [5]) (by kernel_rfl) (by simp) ?_
            refine AllReadyH.cons rfl (fun K hK => ?_) AllReadyH.nil
            obtain ⟨j0, hj0, hy0, hy1, hy2⟩ := info_parts info_ex
            refine step_push _ (by rfl) _ _ 60 (by rfl) (g + 1) 91 j0 _ 5 64 Tryd.underlying60 hj0 hy0 hy1 hy2 (by rfl) (Nat.succ_pos _) ExC ExC.mono (List.range (g + 1)) (.slice va2 j vc2) (xsN L 2 j (wrN L p1).2).1 (by rfl) HOA.out ⟨w6.heap.size, 0, none⟩ 1 [.int .i64 e7.kind, .int .i64 e7.op, .int .i64 e7.num, .string ⟨List.toArray e7.name⟩, .slice ea e7.args.length ecap] e7 (by rfl) (by rfl) HNW.out (by simp [Value.oneCell']) HV7.out (by rw [xsN_len]; unfold maxLen; omega) (by rw [xsN_len]; omega) HSZ.out ?_
            intro v' w7 hown7 hgrow
            clear hj0 hy0 hy1 hy2 j0
            obtain ⟨va3, vc3, he, -, -⟩ := hown7.slice
            rw [List.length_append, xsN_len] at he
            have he : v' = .slice va3 (j + 1) vc3 := he
            subst he
            have hbk := fun k hk => (HOA.out.lt k hk).1
            have HB7 : Hid (Bx wo sb g L _ p7 (nx + 1) w7) := hide ⟨HBA.out.src.grown hgrow (fun k hk => by have := hbk k hk; omega), HBA.out.k.grown hgrow (fun k hk => .inr (by have := hbk k hk; have := HBA.out.lt.2; omega)), (hgrow.block _ HBA.out.glt (fun e => by have := hbk _ e.symm; omega)).trans HBA.out.x, HBA.out.lt⟩
            have z5 := cell_at (j := 5) HB7.out.x rfl
            have f57 := free_at (j := 5) HB7.out.x
            have hg7 := HB7.out.glt
            have HO7 := hide hown7
            clear hown7 hgrow
            refine hK.out _ _ trivial (fun hHeld => ?_)
            clear hK K
            try simp only [Act.put, List.setIfInBounds_toArray, List.set_cons_zero, List.set_cons_succ]
            refine wpAnyH_take (i := 6) (v := ?_) (by simp only [List.getElem?_toArray, List.getElem?_cons_succ, List.getElem?_cons_zero]; rfl) (by kernel_rfl) (by kernel_rfl) (by kernel_rfl) (by exact fun _ _ _ h => h) (Or.inl ⟨by rfl, ?_⟩) (by assumption) ?_
            rotate_left 1
            · ((intro w hSw; (try dsimp only at hSw); go_simp) <;> with_reducible rfl)
            try simp only [Act.put, List.setIfInBounds_toArray, List.set_cons_zero, List.set_cons_succ]
            refine wpAnyH_ready (rs := [7]) (by kernel_rfl) (by simp) ?_
            refine AllReadyH.cons rfl (fun K hK => ?_) AllReadyH.nil
            go_simp
            refine hK.out _ _ trivial (fun hHeld => ?_)
            clear hK K
            try simp only [Act.put, List.setIfInBounds_toArray, List.set_cons_zero, List.set_cons_succ]
            refine wpAnyH_done (by kernel_rfl) ?_ _
            go_wp2_with fail
            go_roundw
            case rel =>
              refine ⟨j + 1, va3, vc3, by omega, by go_num, hide (by rw [HST7.out]; exact (HB7.out.set 5 (.slice va3 (j + 1) vc3)).to (by simp)), hide ?_⟩
              rw [HST7.out]
              exact HO7.out.kept ExC.mono ((Kept.refl [g] w7).set (g := g) (.inl (by simp)) 5 _) (by simp)
            case measure => simp [intOf]; omega
          · refine hK.out _ _ trivial (fun hHeld => ?_)
            clear hK K
            try simp only [Act.put, List.setIfInBounds_toArray, List.set_cons_zero, List.set_cons_succ]
            refine wpAnyH_ready (rs := [1]) (by kernel_rfl) (by simp) ?_
            refine AllReadyH.cons rfl (fun K hK => ?_) AllReadyH.nil
            go_simp
            refine hK.out _ _ trivial (fun hHeld => ?_)
            clear hK K
            try simp only [Act.put, List.setIfInBounds_toArray, List.set_cons_zero, List.set_cons_succ]
            refine wpAnyH_ready (rs := [5]) (by kernel_rfl) (by simp) ?_
            refine AllReadyH.cons rfl (fun K hK => ?_) AllReadyH.nil
            obtain ⟨j0, hj0, hy0, hy1, hy2⟩ := info_parts info_ex
            refine step_push _ (by rfl) _ _ 60 (by rfl) (g + 1) 91 j0 _ 5 64 Tryd.underlying60 hj0 hy0 hy1 hy2 (by rfl) (Nat.succ_pos _) ExC ExC.mono (List.range (g + 1)) (.slice va2 j vc2) (xsN L 2 j (wrN L p1).2).1 (by rfl) HOA.out ⟨w6.heap.size, 0, none⟩ 1 [.int .i64 e7.kind, .int .i64 e7.op, .int .i64 e7.num, .string ⟨List.toArray e7.name⟩, .slice ea e7.args.length ecap] e7 (by rfl) (by rfl) HNW.out (by simp [Value.oneCell']) HV7.out (by rw [xsN_len]; unfold maxLen; omega) (by rw [xsN_len]; omega) HSZ.out ?_
            intro v' w7 hown7 hgrow
            clear hj0 hy0 hy1 hy2 j0
            obtain ⟨va3, vc3, he, -, -⟩ := hown7.slice
            rw [List.length_append, xsN_len] at he
            have he : v' = .slice va3 (j + 1) vc3 := he
            subst he
            have hbk := fun k hk => (HOA.out.lt k hk).1
            have HB7 : Hid (Bx wo sb g L _ p7 (nx + 1) w7) := hide ⟨HBA.out.src.grown hgrow (fun k hk => by have := hbk k hk; omega), HBA.out.k.grown hgrow (fun k hk => .inr (by have := hbk k hk; have := HBA.out.lt.2; omega)), (hgrow.block _ HBA.out.glt (fun e => by have := hbk _ e.symm; omega)).trans HBA.out.x, HBA.out.lt⟩
            have z5 := cell_at (j := 5) HB7.out.x rfl
            have f57 := free_at (j := 5) HB7.out.x
            have hg7 := HB7.out.glt
            have HO7 := hide hown7
            clear hown7 hgrow
            refine hK.out _ _ trivial (fun hHeld => ?_)
            clear hK K
            try simp only [Act.put, List.setIfInBounds_toArray, List.set_cons_zero, List.set_cons_succ]
            refine wpAnyH_take (i := 6) (v := ?_) (by simp only [List.getElem?_toArray, List.getElem?_cons_succ, List.getElem?_cons_zero]; rfl) (by kernel_rfl) (by kernel_rfl) (by kernel_rfl) (by exact fun _ _ _ h => h) (Or.inl ⟨by rfl, ?_⟩) (by assumption) ?_
            rotate_left 1
            · ((intro w hSw; (try dsimp only at hSw); go_simp) <;> with_reducible rfl)
            try simp only [Act.put, List.setIfInBounds_toArray, List.set_cons_zero, List.set_cons_succ]
            refine wpAnyH_ready (rs := [7]) (by kernel_rfl) (by simp) ?_
            refine AllReadyH.cons rfl (fun K hK => ?_) AllReadyH.nil
            go_simp
            refine hK.out _ _ trivial (fun hHeld => ?_)
            clear hK K
            try simp only [Act.put, List.setIfInBounds_toArray, List.set_cons_zero, List.set_cons_succ]
            refine wpAnyH_done (by kernel_rfl) ?_ _
            go_wp2_with fail
            go_roundw
            case rel =>
              refine ⟨j + 1, va3, vc3, by omega, by go_num, hide (by rw [HST7.out]; exact (HB7.out.set 5 (.slice va3 (j + 1) vc3)).to (by simp)), hide ?_⟩
              rw [HST7.out]
              exact HO7.out.kept ExC.mono ((Kept.refl [g] w7).set (g := g) (.inl (by simp)) 5 _) (by simp)
            case measure => simp [intOf]; omega
      · have hj3 : j = b / 10 % 3 := by omega
        subst hj3
        go_wp2_with fail
        unfold SwI
        (repeat apply Exists.intro)
        refine ⟨?_, rfl⟩
        refine ⟨rfl, hide ?_⟩
        obtain ⟨a, cap, he, hr, h1, h2⟩ := HOI.out.exs (fun x hx => List.mem_range.1 hx)
        simp only [Value.slice.injEq] at he
        obtain ⟨rfl, -, rfl⟩ := he
        exact StR.of va2 none none vc2 0 0 HBI.out (by simp [xsN_len]) (stWfN (by omega) (by omega) (by omega) z_100 (wr_100 L p1) ⟨h1, h2⟩ zz_le zz_le) hr trivial trivial
end Go.Proofs.YtccgpmncpemmdaaDoor
