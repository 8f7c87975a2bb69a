/- signs.Of. -/
import Derived.Test.YtnkmbddjekepkaaDoorSgH
import Derived.Test.YtnkmbddjekepkaaDoorSpG
namespace Go.Proofs.YtnkmbddjekepkaaDoor
open Go Go.RowKit
set_option linter.unusedSimpArgs false
set_option linter.unusedVariables false
set_option linter.unnecessarySimpa false
theorem info_sg : (Tryd.prog.info? 29).map (fun i => (i.zero, i.size, i.bytes)) = some (some (.agg #[.string ⟨#[]⟩, .slice none 0 0, .int .i64 0]), 3, 48) := by kernel_rfl
theorem zero_sg (w : World) : (zeroValue 29).run Tryd.prog w = .ok (.agg #[.string ⟨#[]⟩, .slice none 0 0, .int .i64 0]) w := by kernel_rfl
set_option maxRecDepth 20000 in
set_option maxHeartbeats 4000000 in
theorem signsOf_any (l : List Fn) (a : Option Addr) (cap : Nat) (w : World) (hl : Fns w l a cap) (hT : Tab w) :
    Calls Tryd.prog 19 #[.agg #[.slice a l.length cap]] w (SignsPost (signsOfM l) w) := by
  have h1 := hide fun (W : World) (hW : Below w.heap.size w W) => check_any l a cap W (hl.keep hW (Nat.le_refl _)) (hT.below hW)
  have HL := hide hl
  have hmm := @run_makeMap Tryd.prog
  obtain ⟨i0, hi, hz0, hz1, hz2⟩ := info_parts info_sg
  clear hl hT
  by_cases hc : checkM l = 0
  · have HE : Hid (signsOfM l = signsM l) := hide (by unfold signsOfM; rw [if_pos hc])
    obtain ⟨hl20, hp8⟩ := check_ok hc
    have HP8 := hide hp8
    rw [hc] at h1
    clear hc hp8
    go_enter Tryd.func19, Tryd.ntmps19
    go_wp2_with fail
    refine (h1.out _ ((bl w).al _)).mono ?_
    rintro r w1 ⟨rfl, hb1⟩
    have hc1 : w1.cell? ⟨w.heap.size, 0, none⟩ = some (.slice a l.length cap) := by rw [(bcell hb1).1 _ _ (by simp)]; go_simp
    have hlt1 : w.heap.size < w1.heap.size := cell_lt hc1
    have hB := ((bl w).al _).tr hb1
    have HB0 : Hid (Below w.heap.size w (w1.alloc (.map #[] 0))) := hide (hB.al _)
    have HM0 : Hid (NMap (w1.alloc (.map #[] 0)) 9 w1.heap.size (([] : List Sa).map Sa.pair)) := hide (NMap.made w1 _)
    clear hb1
    go_wp2_with fail
    go_loopw [6, 24] (fun lv i wr => ∃ (k : Nat) (va : Option Addr) (vc : Nat) (xs : List Sa), k ≤ l.length ∧ i = .int .i64 k ∧ lv = .slice va k vc ∧ Hid (xs.map (·.s) = (l.take k).map sgOf) ∧ Hid (MapSa xs) ∧ Hid (dupFrom [] l 0 = dupFrom (xs.map (·.s.name)) (l.drop k) k) ∧
      Hid (OwnL wr (w1.heap.size + 1) 29 3 SaC [w1.heap.size] (.slice va k vc) xs) ∧ Hid (NMap wr 9 w1.heap.size (xs.map Sa.pair)) ∧ Hid (Below w.heap.size w wr) ∧ w1.heap.size + 1 ≤ wr.heap.size) (fun _ i _ => l.length - (intOf i).toNat)
    case atStart => exact ⟨0, none, 0, [], Nat.zero_le _, rfl, rfl, hide rfl, hide MapSa.nil, hide rfl, hide (OwnL.nil _ _ _ _ _ _), HM0, HB0, by simp⟩
    case round =>
      obtain ⟨k, va, vc, xs, hk, rfl, rfl, HXS, HMS, HD, HO, HM, HB, hws⟩ := hrel
      have hxl : xs.length = k := by have := congrArg List.length HXS.out; simp at this; omega
      by_cases hlt : k < l.length
      · obtain ⟨b, o, rfl⟩ := HL.out.addr (by omega)
        have hfv := (HL.out.at_ b o rfl k hlt).has (has_below HB.out)
        obtain ⟨pp, pb, cp, cb, c0, c1, c2, c3, c4, hfw, hps, hrow⟩ := hfv
        have hbl := cell_lt c0
        simp only at hbl
        have HFV := hide fun (W : World) (hW : Below wr.heap.size wr W) => of12_any l[k] _ W (⟨pp, pb, cp, cb, rfl, hfw, hps.has (has_below hW), hrow.has (has_below hW)⟩ : Fn.Val W l[k] _) (by have := HP8.out _ (List.getElem_mem hlt); omega)
        have HFW := hide hfw
        have HPM := hide hps.wf
        clear hfw hps hrow
        have hnl : l[k].name.length ≤ maxLen := HFW.out.s
        cases hf : findSa xs l[k].name with
        | none =>
          have HMV : Hid (mapAt (xs.map Sa.pair) l[k].name = none) := hide (by rw [HMS.out, hf]; rfl)
          clear hf
          go_wp2_with (at_lookup; refine wpList_nmap_ok _ rfl _ _ rfl Tryd.underlying9 Tryd.underlying76 (zero_sg _) (xs.map Sa.pair) rfl (HM.out.keep ((bl wr).al _) (by omega)) l[k].name rfl hnl ?_; rw [HMV.out]; simp only [Option.getD_none, Option.isSome_none])
          (with_reducible refine (HFV.out _ (((bl wr).al _).al _)).mono ?_)
          rintro r w2 ⟨⟨u, rfl, hu⟩, hb2⟩
          obtain ⟨s, hs⟩ : ∃ s, s = sgOf l[k] := ⟨_, rfl⟩
          rw [← hs] at hu
          have HS := hide hs
          clear hs
          obtain ⟨ua, uc, rfl, hui⟩ := hu
          have hzb := hb2.size
          simp only [World.size_alloc] at hzb
          have hcn : w2.cell? ⟨wr.heap.size, 0, none⟩ = some (.string ⟨l[k].name.toArray⟩) := by rw [(bcell hb2).1 _ _ (by simp; omega)]; go_simp
          have hln : wr.heap.size < w2.heap.size := by omega
          have HM2 : Hid (NMap (w2.alloc (.cells #[.string ⟨s.name.toArray⟩, .slice ua s.pars.length uc, .int .i64 s.res] 29)) 9 w1.heap.size (xs.map Sa.pair)) := hide (((HM.out.keep (((bl wr).al _).al _) (by omega)).keep hb2 (by simp; omega)).keep ((bl w2).al _) (by omega))
          have HO2 : Hid (OwnL (w2.alloc (.cells #[.string ⟨s.name.toArray⟩, .slice ua s.pars.length uc, .int .i64 s.res] 29)) (w1.heap.size + 1) 29 3 SaC [w1.heap.size] (.slice va k vc) xs) := hide ((((HO.out.al SaC.mono _).al SaC.mono _).below SaC.mono hb2).al SaC.mono _)
          have HX2 := hide (heap_alloc_new w2 (.cells #[.string ⟨s.name.toArray⟩, .slice ua s.pars.length uc, .int .i64 s.res] 29))
          have HB2 := hide ((((HB.out.al (.cells #[.string ⟨l[k].name.toArray⟩, .slice pp l[k].params.length cp, .int .i64 l[k].result, .slice pb l[k].body.length cb, .int .i64 l[k].count] 53)).al (.cells #[.string ⟨#[]⟩, .slice none 0 0, .int .i64 0] 29)).tr hb2).al (.cells #[.string ⟨s.name.toArray⟩, .slice ua s.pars.length uc, .int .i64 s.res] 29))
          have HUI := hide hui
          have hll : (xs.map Sa.pair).length < maxLen := by rw [List.length_map, hxl]; unfold maxLen; omega
          have hsw : s.wf := by
            rw [HS.out]
            refine ⟨hnl, HFW.out.r, fun p hp => ?_⟩
            obtain ⟨q, hq, rfl⟩ := List.mem_map.1 hp
            exact (HPM.out q hq).2
          have hsn : s.name = l[k].name := by rw [HS.out]; rfl
          have HSN := hide hsn
          have HALL : Hid (∀ w3, NMap w3 9 w1.heap.size (xs.map Sa.pair ++ [(l[k].name, Sa.val ⟨s, ua, uc⟩)]) → (w2.alloc (.cells #[.string ⟨s.name.toArray⟩, .slice ua s.pars.length uc, .int .i64 s.res] 29)).grownBy w3 (some w1.heap.size) →
              OwnL (w3.alloc (.cells #[.string ⟨s.name.toArray⟩, .slice ua s.pars.length uc, .int .i64 s.res] 29)) (w1.heap.size + 1) 29 3 SaC [w1.heap.size] (.slice va k vc) xs ∧ SaC (av ((Value.slice va k vc).ownBlock.toList ++ [w1.heap.size]) (w3.alloc (.cells #[.string ⟨s.name.toArray⟩, .slice ua s.pars.length uc, .int .i64 s.res] 29))) ⟨s, ua, uc⟩ [.string ⟨s.name.toArray⟩, .slice ua s.pars.length uc, .int .i64 s.res] ∧
              Below w.heap.size w (w3.alloc (.cells #[.string ⟨s.name.toArray⟩, .slice ua s.pars.length uc, .int .i64 s.res] 29)) ∧ NMap (w3.alloc (.cells #[.string ⟨s.name.toArray⟩, .slice ua s.pars.length uc, .int .i64 s.res] 29)) 9 w1.heap.size ((xs ++ [(⟨s, ua, uc⟩ : Sa)]).map Sa.pair) ∧ w1.heap.size + 1 ≤ (w3.alloc (.cells #[.string ⟨s.name.toArray⟩, .slice ua s.pars.length uc, .int .i64 s.res] 29)).heap.size ∧ w3.heap[w2.heap.size]? = some (.cells #[.string ⟨s.name.toArray⟩, .slice ua s.pars.length uc, .int .i64 s.res] 29 (0, 0))) := hide (by
            intro w3 hm3 hg3
            have hs3 := hg3.size
            simp only [World.size_alloc] at hs3
            have hK3 : Kept [w1.heap.size] (w2.alloc (.cells #[.string ⟨s.name.toArray⟩, .slice ua s.pars.length uc, .int .i64 s.res] 29)) w3 := (Kept.refl _ _).grown hg3 (fun g e => by cases e; exact .inl (by simp))
            refine ⟨(HO2.out.kept SaC.mono hK3 (by simp)).al SaC.mono _, ⟨rfl, hsw, ?_⟩, ?_, ?_, by simp; omega, (hg3.block _ (by simp) (fun e => by simp at e; omega)).trans HX2.out⟩
            · refine HUI.out.has ?_
              refine (has_nw_below ((bl w2).al (.cells #[.string ⟨s.name.toArray⟩, .slice ua s.pars.length uc, .int .i64 s.res] 29))).tr ((has_nw_kept hK3 (by simp; omega)).tr ((has_nw_below ((bl w3).al _)).tr (has_nw_av ?_)))
              intro g hg
              simp only [List.mem_append, Option.mem_toList, List.mem_cons, List.not_mem_nil, or_false] at hg
              simp only [World.size_alloc]
              rcases hg with hg | rfl
              · have := (HO.out.lt g hg).2; omega
              · omega
            · exact (HB2.out.grown hg3 HB2.out.size (fun g e => by cases e; exact hB.size)).al _
            · rw [List.map_append]
              have := hm3.keep ((bl w3).al (.cells #[.string ⟨s.name.toArray⟩, .slice ua s.pars.length uc, .int .i64 s.res] 29)) (by omega)
              rw [← HSN.out] at this
              exact this)
          have HLL : Hid (xs.length + 1 ≤ maxLen) := hide (by rw [hxl]; unfold maxLen; omega)
          have HLB : Hid ((xs.length + 1) * 48 ≤ 140737488355328) := hide (by rw [hxl]; omega)
          have HXL := hide hxl
          clear hui hb2 hsw hsn
          go_wp2_with (first | (at_mapUpdate; refine wpList_nmap_set _ rfl _ _ _ rfl Tryd.underlying9 Tryd.underlying76 (xs.map Sa.pair) rfl HM2.out hll l[k].name _ rfl rfl hnl ?_; intro w3 hm3 hg3; obtain ⟨ho3, hv3, hB3, hM3, hs3, hX3⟩ := HALL.out w3 hm3 hg3; have x30 := cell_at (j := 0) hX3 rfl; have x31 := cell_at (j := 1) hX3 rfl; have x32 := cell_at (j := 2) hX3 rfl; have HO3 := hide ho3; have HV3 := hide hv3; have HB3 := hide hB3; have HM3 := hide hM3; have HN3 := hide (news_row w3 [.string ⟨s.name.toArray⟩, .slice ua s.pars.length uc, .int .i64 s.res] 29 w3.heap.size rfl); clear hm3 hg3 ho3 hv3 hB3 hM3 hX3) | (at_builtin; refine wpList_push _ rfl _ _ 22 rfl (w1.heap.size + 1) 29 i0 _ 3 48 Tryd.underlying22 hi hz0 hz1 hz2 rfl (by decide) SaC SaC.mono [w1.heap.size] _ xs rfl HO3.out ⟨w3.heap.size, 0, none⟩ 1 [.string ⟨s.name.toArray⟩, .slice ua s.pars.length uc, .int .i64 s.res] ⟨s, ua, uc⟩ rfl rfl HN3.out (by simp [Value.oneCell']) HV3.out HLL.out HLB.out hs3 ?_; intro v4 w4 hown4 hgrow4; obtain ⟨va4, vc4, he4, -, -⟩ := hown4.slice; rw [List.length_append, HXL.out] at he4; subst he4))
          refine ⟨⟨k + 1, va4, vc4, xs ++ [(⟨s, ua, uc⟩ : Sa)], by omega, by go_num, rfl, hide ?_, hide (MapSa.snoc HMS.out (by show (mapAt _ s.name).isSome = false; rw [HSN.out, HMV.out]; rfl)), hide ?_, hide hown4, hide (World.ownsMap.kept HM3.out hgrow4 (fun e => by have := (HO3.out.lt _ e.symm).1; omega)), hide (HB3.out.grown hgrow4 HB3.out.size (fun g hg => by have := (HO3.out.lt g hg).1; have := hB.size; omega)), Nat.le_trans hs3 hgrow4.size⟩, by simp [intOf]; omega⟩
          · rw [List.map_append, HXS.out, List.take_succ_eq_append_getElem hlt, List.map_append]
            show _ ++ [s] = _ ++ [sgOf l[k]]
            rw [HS.out]
          · rw [HD.out, dup_step hlt, if_neg, List.map_append]
            · show _ = dupFrom (_ ++ [s.name]) _ _
              rw [HSN.out]
            · have h3 := mapSa_some HMS.out l[k].name
              rw [HMV.out] at h3
              simpa using h3.symm
        | some x =>
          have HMV : Hid (mapAt (xs.map Sa.pair) l[k].name = some x.val) := hide (by rw [HMS.out, hf]; rfl)
          have HE2 : Hid (signsM l = ([], ((k : Nat) : Int), 11)) := hide (by
            have h3 := mapSa_some HMS.out l[k].name
            rw [HMV.out] at h3
            unfold signsM
            rw [HD.out, dup_step hlt, if_pos (by simpa using h3.symm)])
          clear hf
          go_wp2_with (at_lookup; refine wpList_nmap_ok _ rfl _ _ rfl Tryd.underlying9 Tryd.underlying76 (zero_sg _) (xs.map Sa.pair) rfl (HM.out.keep ((bl wr).al _) (by omega)) l[k].name rfl hnl ?_; rw [HMV.out]; simp only [Option.getD_some, Option.isSome_some, Sa.val])
          refine bodyPost_ret (v := .tuple #[.slice none 0 0, .int .i64 (k : Nat), .int .i64 11]) (by simp [results, Tryd.results19, go_sem]) rfl ?_
          rw [HE.out, HE2.out]
          exact ⟨⟨none, 0, rfl, Sgs.nil _⟩, (HB.out.al _).al _⟩
      · obtain rfl : k = l.length := by omega
        have hxs : xs.map (·.s) = l.map sgOf := by have := HXS.out; rwa [List.take_length] at this
        have hdn : dupFrom [] l 0 = none := by rw [HD.out, List.drop_length]; rfl
        have hfm := findSa_sg xs mainB
        rw [hxs] at hfm
        cases hf : findSa xs mainB with
        | none =>
          have HMV : Hid (mapAt (xs.map Sa.pair) mainB = none) := hide (by rw [HMS.out, hf]; rfl)
          have HE2 : Hid (signsM l = ([], -1, 15)) := hide (by
            unfold signsM mainOk
            rw [hdn, ← hfm, hf]
            rfl)
          clear hf hfm hxs hdn
          go_wp2_with (at_lookup; refine wpList_nmap_ok _ rfl _ _ rfl Tryd.underlying9 Tryd.underlying76 (zero_sg _) (xs.map Sa.pair) rfl HM.out mainB rfl (by decide) ?_; rw [HMV.out]; simp only [Option.getD_none, Option.isSome_none])
          refine bodyPost_ret (v := .tuple #[.slice none 0 0, .int .i64 (-1), .int .i64 15]) (by simp [results, Tryd.results19, go_sem]) rfl ?_
          rw [HE.out, HE2.out]
          exact ⟨⟨none, 0, rfl, Sgs.nil _⟩, HB.out.al _⟩
        | some x =>
          have HMV : Hid (mapAt (xs.map Sa.pair) mainB = some x.val) := hide (by rw [HMS.out, hf]; rfl)
          have hxm : x ∈ xs := List.mem_of_find?_eq_some hf
          have hxn : x.s.name = mainB := by simpa using List.find?_some hf
          have hxi : Ints wr x.s.pars x.a x.cap := by
            obtain ⟨ys, _, hcut⟩ := HO.out
            obtain ⟨i, hi', rfl⟩ := List.mem_iff_getElem.1 hxm
            obtain ⟨c, hc, _⟩ := hcut.get i hi'
            exact hc.2.2.has has_av
          have hsame : sameSg x.s ⟨mainB, [], 0⟩ = mainOk l := by
            unfold mainOk
            rw [← hfm, hf]
            simp [sameSg, hxn]
          have HSM := hide fun (W : World) (hW : Below wr.heap.size wr W) => same_any x.s ⟨mainB, [], 0⟩ _ _ W ⟨x.a, x.cap, rfl, hxi.keep hW (Nat.le_refl _)⟩ ⟨none, 0, rfl, Ints.nil _⟩
          rw [hsame] at HSM
          clear hf hfm hxm hxn hxi hsame
          cases hmo : mainOk l
          · have HE2 : Hid (signsM l = ([], -1, 15)) := hide (by unfold signsM; rw [hdn, hmo]; rfl)
            rw [hmo] at HSM
            clear hdn hmo hxs
            go_wp2_with (first | (at_lookup; refine wpList_nmap_ok _ rfl _ _ rfl Tryd.underlying9 Tryd.underlying76 (zero_sg _) (xs.map Sa.pair) rfl HM.out mainB rfl (by decide) ?_; rw [HMV.out]; simp only [Option.getD_some, Option.isSome_some, Sa.val]) | (go_at_call 17; refine (HSM.out _ ((bl wr).al _)).mono ?_; rintro r w2 ⟨rfl, hb2⟩))
            refine bodyPost_ret (v := .tuple #[.slice none 0 0, .int .i64 (-1), .int .i64 15]) (by simp [results, Tryd.results19, go_sem]) rfl ?_
            rw [HE.out, HE2.out]
            exact ⟨⟨none, 0, rfl, Sgs.nil _⟩, (HB.out.al _).tr hb2⟩
          · have HE2 : Hid (signsM l = (l.map sgOf, 0, 0)) := hide (by unfold signsM; rw [hdn, hmo]; rfl)
            rw [hmo] at HSM
            clear hdn hmo
            have HXX := hide hxs
            clear hxs
            go_wp2_with (first | (at_lookup; refine wpList_nmap_ok _ rfl _ _ rfl Tryd.underlying9 Tryd.underlying76 (zero_sg _) (xs.map Sa.pair) rfl HM.out mainB rfl (by decide) ?_; rw [HMV.out]; simp only [Option.getD_some, Option.isSome_some, Sa.val]) | (go_at_call 17; refine (HSM.out _ ((bl wr).al _)).mono ?_; rintro r w2 ⟨rfl, hb2⟩))
            refine bodyPost_ret (v := .tuple #[.slice va l.length vc, .int .i64 0, .int .i64 0]) (by simp [results, Tryd.results19, go_sem]) rfl ?_
            rw [HE.out, HE2.out]
            obtain ⟨a', c', he, hsg⟩ := OwnL.sgs (OwnL.sas HO.out) (by simp)
            rw [HXX.out, List.length_map] at he
            cases he
            rw [HXX.out] at hsg
            exact ⟨⟨va, vc, by simp, (hsg.has has_av).keep (((bl wr).al _).tr hb2) (Nat.le_refl _)⟩, (HB.out.al _).tr hb2⟩
  · have HE : Hid (signsOfM l = ([], 0, 2)) := hide (by unfold signsOfM; rw [if_neg hc])
    have h2 : checkM l = 2 := by
      unfold checkM at hc ⊢
      split at hc
      · exact absurd rfl hc
      · rename_i h; rw [if_neg h]
    rw [h2] at h1
    clear hc h2
    go_enter Tryd.func19, Tryd.ntmps19
    go_wp2_with fail
    refine (h1.out _ ((bl w).al _)).mono ?_
    rintro r w1 ⟨rfl, hb1⟩
    have hB := ((bl w).al _).tr hb1
    clear hb1
    go_wp2_with fail
    refine bodyPost_ret (v := .tuple #[.slice none 0 0, .int .i64 0, .int .i64 2]) (by simp [results, Tryd.results19, go_sem]) rfl ?_
    rw [HE.out]
    exact ⟨⟨none, 0, rfl, Sgs.nil _⟩, hB⟩
end Go.Proofs.YtnkmbddjekepkaaDoor
