/- SignsCalls returns true for every input, where the tables are laid: the walk. -/
import Derived.Test.YtnkmbddjekepkaaDoorSgP
import Derived.Deep.RegionHeld3
namespace Go.Proofs.YtnkmbddjekepkaaDoor
open Go Go.RowKit
set_option linter.unusedSimpArgs false
set_option linter.unusedVariables false
set_option linter.unnecessarySimpa false
def FoundLit (s0 : Sg) (is0 : Bool) (w : World) (r : Ending) (w' : World) : Prop :=
  (∃ pa pc, r = .returned (.tuple #[.agg #[.string ⟨s0.name.toArray⟩, .slice pa s0.pars.length pc, .int .i64 s0.res], .bool is0]) ∧ Ints w' s0.pars pa pc) ∧ Below w.heap.size w w'
theorem found_lit {o : Option Sg} {w w' : World} {r : Ending} (h : FoundPost o w r w') : FoundLit (o.getD noSg) o.isSome w r w' := by
  obtain ⟨⟨v, rfl, pa, pc, rfl, hi⟩, hb⟩ := h
  exact ⟨⟨pa, pc, rfl, hi⟩, hb⟩
theorem sameSg_refl (s : Sg) : sameSg s s = true := by simp [sameSg]
theorem fewSg_of {l : List Sg} (h : fewSg l = true) : l.length ≤ 20 ∧ ∀ s ∈ l, s.pars.length ≤ 30 ∧ s.name.length ≤ 100 := by
  unfold fewSg at h
  simp only [Bool.and_eq_true, decide_eq_true_eq, List.all_eq_true] at h
  exact h
set_option maxRecDepth 20000 in
set_option maxHeartbeats 8000000 in
theorem SignsCalls_any (l : List Sg) (a : Option Addr) (cap : Nat) (n : Bytes) (args : List Int) (b : Option Addr) (cb : Nat) (target : Int) (w : World) (hl : Sgs w l a cap) (hn : n.length ≤ maxLen) (hi : Ints w args b cb) (hT : Tab w) (hWd : Words w) :
    Calls Tryd.prog 3 #[.slice a l.length cap, .string ⟨n.toArray⟩, .slice b args.length cb, .int .i64 target] w fun r w' => r = .returned (.bool true) ∧ Below w.heap.size w w' := by
  have HT := hide hT
  have HWD := hide hWd
  have HL := hide hl
  have HI := hide hi
  have hlen : l.length ≤ 9223372036854775807 := Nat.le_trans hl.len hl.cap
  have hal : args.length ≤ 9223372036854775807 := Nat.le_trans hi.len hi.cap
  have hnl : n.length ≤ 9223372036854775807 := hn
  have HFW := hide (few12_any l a cap w hl)
  clear hT hWd hl hi hn
  cases q1 : fewSg l
  · rw [q1] at HFW
    clear q1
    go_enter Tryd.func3, Tryd.ntmps3
    go_wp2_with fail
    refine HFW.out.mono ?_
    rintro r w1 ⟨rfl, hb⟩
    have HW := hide hb
    clear hb
    go_wp2_with fail
    refine (works12_any _ (HT.out.below HW.out) (HWD.out.below HW.out)).mono ?_
    rintro r w9 ⟨rfl, hb⟩
    have HW := hide (HW.out.tr hb)
    clear hb
    go_wp2_with fail
    go_ret
    exact ⟨rfl, HW.out⟩
  have HF := hide (fewSg_of q1)
  rw [q1] at HFW
  clear q1
  by_cases q2 : (100 : Int) < (n.length : Int)
  · go_enter Tryd.func3, Tryd.ntmps3
    go_wp2_with fail
    refine HFW.out.mono ?_
    rintro r w1 ⟨rfl, hb⟩
    have HW := hide hb
    clear hb
    go_wp2_with fail
    refine (works12_any _ (HT.out.below HW.out) (HWD.out.below HW.out)).mono ?_
    rintro r w9 ⟨rfl, hb⟩
    have HW := hide (HW.out.tr hb)
    clear hb
    go_wp2_with fail
    go_ret
    exact ⟨rfl, HW.out⟩
  by_cases q3 : (30 : Int) < (args.length : Int)
  · go_enter Tryd.func3, Tryd.ntmps3
    go_wp2_with fail
    refine HFW.out.mono ?_
    rintro r w1 ⟨rfl, hb⟩
    have HW := hide hb
    clear hb
    go_wp2_with fail
    refine (works12_any _ (HT.out.below HW.out) (HWD.out.below HW.out)).mono ?_
    rintro r w9 ⟨rfl, hb⟩
    have HW := hide (HW.out.tr hb)
    clear hb
    go_wp2_with fail
    go_ret
    exact ⟨rfl, HW.out⟩
  have hl20 := HF.out.1
  have HS : Hid (∀ s ∈ l, s.pars.length ≤ 100000) := hide fun s hs => by have := (HF.out.2 s hs).1; omega
  obtain ⟨o0, ho0⟩ : ∃ o, o = findSg l n := ⟨_, rfl⟩
  obtain ⟨cm, hcm⟩ : ∃ c, callM l n args target = c := ⟨_, rfl⟩
  have HC1 := hide fun (a : Option Addr) (cap : Nat) (W : World) (hW : Below w.heap.size w W) (h : Sgs W l a cap) => call12_any l n args target a b cap cb W h HS.out (HI.out.keep hW (Nat.le_refl _))
  have HC2 := hide fun (a : Option Addr) (cap : Nat) (W : World) (hW : Below w.heap.size w W) (h : Sgs W l a cap) => refCall12_any l n args target a b cap cb W h HS.out (HI.out.keep hW (Nat.le_refl _))
  have hF1 := fun (W : World) (h : Sgs W l a cap) => (find12_any l n a cap W h HS.out).mono (fun r w' h => found_lit h)
  have hF2 := fun (a : Option Addr) (cap : Nat) (W : World) (h : Sgs W l a cap) => (refFind12_any l n a cap W h).mono (fun r w' h => found_lit h)
  rw [hcm] at HC1 HC2
  rw [← ho0] at hF1 hF2
  obtain ⟨s0, hs0⟩ : ∃ s, o0.getD noSg = s := ⟨_, rfl⟩
  obtain ⟨is0, his⟩ : ∃ s, o0.isSome = s := ⟨_, rfl⟩
  rw [hs0, his] at hF1 hF2
  have HF1 := hide hF1
  have HF2 := hide hF2
  clear hF1 hF2 hs0 his
  have hne0 : (cm != cm) = false := by simp
  clear hcm ho0
  go_enter Tryd.func3, Tryd.ntmps3
  go_wp2_with fail
  refine HFW.out.mono ?_
  rintro r w1 ⟨rfl, hb⟩
  have HW := hide hb
  clear hb
  go_wp2_with fail
  refine (refs12_any l a cap _ (HL.out.has (has_below HW.out)) (by omega)).mono ?_
  rintro r w2 ⟨⟨ma, mc, rfl, hm⟩, hb⟩
  have HM := hide hm
  have HW := hide (HW.out.tr hb)
  clear hb
  clear hm
  go_wp2_with fail
  refine (HF1.out _ (HL.out.has (has_below HW.out))).mono ?_
  rintro r w3 ⟨⟨pa3, pc3, rfl, hi3⟩, hb⟩
  have HI3 := hide hi3
  have HM := hide (HM.out.has (has_below hb))
  have HW := hide (HW.out.tr hb)
  clear hb
  clear hi3
  go_wp2_with fail
  have HA3 := hide ((bl w3).al (.cells #[.string ⟨s0.name.toArray⟩, .slice pa3 s0.pars.length pc3, .int .i64 s0.res] 29))
  have HX3 := hide (heap_alloc_new w3 (.cells #[.string ⟨s0.name.toArray⟩, .slice pa3 s0.pars.length pc3, .int .i64 s0.res] 29))
  refine (HF2.out _ _ _ (HM.out.has (has_below HA3.out))).mono ?_
  rintro r w4 ⟨⟨pa4, pc4, rfl, hi4⟩, hb⟩
  have HX3 := hide ((hb.block _ (by simp)).trans HX3.out)
  have hb := HA3.out.tr hb
  have hs4 := hb.size
  have HI3 := hide (HI3.out.has (has_below hb))
  have HI4 := hide hi4
  have HM := hide (HM.out.has (has_below hb))
  have HW := hide (HW.out.tr hb)
  clear hb
  clear hi4 HA3
  have x0 := cell_at (j := 0) HX3.out rfl
  have x1 := cell_at (j := 1) HX3.out rfl
  have x2 := cell_at (j := 2) HX3.out rfl
  have hx := (Array.getElem?_eq_some_iff.1 HX3.out).1
  have hne1 : (is0 != is0) = false := by simp
  have HA4 := hide ((bl w4).al (.cells #[.string ⟨s0.name.toArray⟩, .slice pa4 s0.pars.length pc4, .int .i64 s0.res] 32))
  have HSM := hide fun (W : World) (hW : Below w4.heap.size w4 W) => refSame_any s0 s0 _ _ W ⟨pa3, pc3, rfl, HI3.out.keep hW (Nat.le_refl _)⟩ ⟨pa4, pc4, rfl, HI4.out.keep hW (Nat.le_refl _)⟩
  rw [sameSg_refl] at HSM
  go_wp2_with fail
  refine (HSM.out _ HA4.out).mono ?_
  rintro r w5 ⟨rfl, hb⟩
  have hb := HA4.out.tr hb
  have HM := hide (HM.out.has (has_below hb))
  have HW := hide (HW.out.tr hb)
  clear hb
  clear HA4 HSM x0 x1 x2 hx hs4 HX3 HI3 HI4
  go_wp2_with fail
  refine (HC1.out _ _ _ HW.out (HL.out.has (has_below HW.out))).mono ?_
  rintro r w6 ⟨rfl, hb⟩
  have HM := hide (HM.out.has (has_below hb))
  have HW := hide (HW.out.tr hb)
  clear hb
  go_wp2_with fail
  refine (HC2.out _ _ _ HW.out HM.out).mono ?_
  rintro r w7 ⟨rfl, hb⟩
  have HM := hide (HM.out.has (has_below hb))
  have HW := hide (HW.out.tr hb)
  clear hb
  go_wp2_with fail
  clear HC1 HC2 HF1 HF2 HFW
  have HW7 := hide HW.out
  clear HW
  go_loopw [14] (fun i wr => ∃ k : Nat, k ≤ l.length ∧ i = .int .i64 k ∧ Hid (Below w7.heap.size w7 wr)) (fun i _ => l.length - (intOf i).toNat)
  case atStart => exact ⟨0, Nat.zero_le _, rfl, bl _⟩
  case round =>
    obtain ⟨i, hik, rfl, HB⟩ := hrel
    have HW := hide (HW7.out.tr HB.out)
    by_cases hlt : i < l.length
    · obtain ⟨j, hj⟩ : ∃ j, j = (i + args.length) % l.length := ⟨_, rfl⟩
      have hjl : j < l.length := by rw [hj]; exact Nat.mod_lt _ (by omega)
      have ej : ((i : Int) + (args.length : Int)) % (l.length : Int) = (j : Int) := by rw [hj]; simp
      have HLW := hide (HL.out.has (has_below HW.out))
      have HMW := hide (HM.out.has (has_below HB.out))
      obtain ⟨bl1, ol, rfl⟩ := HL.out.addr (by omega)
      obtain ⟨bm, om, rfl⟩ := HM.out.addr (by omega)
      obtain ⟨pa, pc, a0, a1, a2, hp1⟩ := HLW.out.at_ _ _ rfl i hlt
      obtain ⟨pb, pd, b0, b1, b2, hp2⟩ := HLW.out.at_ _ _ rfl j hjl
      obtain ⟨pe, pf, c0, c1, c2, hp3⟩ := HMW.out.at_ _ _ rfl i hlt
      obtain ⟨pg, ph, d0, d1, d2, hp4⟩ := HMW.out.at_ _ _ rfl j hjl
      have hbl1 := cell_lt a0
      have hbl2 := cell_lt c0
      simp only at hbl1 hbl2
      obtain ⟨T, hT⟩ : ∃ T, textM l[i] = T := ⟨_, rfl⟩
      obtain ⟨q, hq⟩ : ∃ q, sameSg l[i] l[j] = q := ⟨_, rfl⟩
      have wf1 := HL.out.wf _ (List.getElem_mem hlt)
      have HT1 := hide fun (W : World) (hW : Below wr.heap.size wr W) => text12_any l[i] _ W ⟨pa, pc, rfl, hp1.keep hW (Nat.le_refl _)⟩ wf1 (HT.out.below (HW.out.tr hW)) (HWD.out.below (HW.out.tr hW))
      have HT2 := hide fun (W : World) (hW : Below wr.heap.size wr W) => refText12_any l[i] _ W ⟨pe, pf, rfl, hp3.keep hW (Nat.le_refl _)⟩ wf1
      have HS1 := hide fun (W : World) (hW : Below wr.heap.size wr W) => same_any l[i] l[j] _ _ W ⟨pa, pc, rfl, hp1.keep hW (Nat.le_refl _)⟩ ⟨pb, pd, rfl, hp2.keep hW (Nat.le_refl _)⟩
      have HS2 := hide fun (W : World) (hW : Below wr.heap.size wr W) => refSame_any l[i] l[j] _ _ W ⟨pe, pf, rfl, hp3.keep hW (Nat.le_refl _)⟩ ⟨pg, ph, rfl, hp4.keep hW (Nat.le_refl _)⟩
      rw [hT] at HT1 HT2
      rw [hq] at HS1 HS2
      have hne2 : (q != q) = false := by simp
      have hc1 : (0 : Int) ≤ (i : Int) := by omega
      have hc2 : (i : Int) < (l.length : Int) := by omega
      have hc3 : (0 : Int) ≤ (j : Int) := by omega
      have hc4 : (j : Int) < (l.length : Int) := by omega
      clear hp1 hp2 hp3 hp4 wf1 hT hq hj
      go_wp2_with fail
      rw [ej]
      have hB := (bl wr).dr
      go_region_held3 (fun w' => w'.cell? ⟨bl1, ol + i * 3, none⟩ = some (.string ⟨l[i].name.toArray⟩) ∧ w'.cell? ⟨bl1, ol + i * 3 + 1, none⟩ = some (.slice pa l[i].pars.length pc) ∧ w'.cell? ⟨bl1, ol + i * 3 + 2, none⟩ = some (.int .i64 l[i].res) ∧ w'.cell? ⟨bl1, ol + j * 3, none⟩ = some (.string ⟨l[j].name.toArray⟩) ∧ w'.cell? ⟨bl1, ol + j * 3 + 1, none⟩ = some (.slice pb l[j].pars.length pd) ∧ w'.cell? ⟨bl1, ol + j * 3 + 2, none⟩ = some (.int .i64 l[j].res) ∧ w'.cell? ⟨bm, om + i * 3, none⟩ = some (.string ⟨l[i].name.toArray⟩) ∧ w'.cell? ⟨bm, om + i * 3 + 1, none⟩ = some (.slice pe l[i].pars.length pf) ∧ w'.cell? ⟨bm, om + i * 3 + 2, none⟩ = some (.int .i64 l[i].res) ∧ w'.cell? ⟨bm, om + j * 3, none⟩ = some (.string ⟨l[j].name.toArray⟩) ∧ w'.cell? ⟨bm, om + j * 3 + 1, none⟩ = some (.slice pg l[j].pars.length ph) ∧ w'.cell? ⟨bm, om + j * 3 + 2, none⟩ = some (.int .i64 l[j].res))
        (first | exact ⟨cell_keep a0 hB (Nat.le_refl _), cell_keep a1 hB (Nat.le_refl _), cell_keep a2 hB (Nat.le_refl _), cell_keep b0 hB (Nat.le_refl _), cell_keep b1 hB (Nat.le_refl _), cell_keep b2 hB (Nat.le_refl _), cell_keep c0 hB (Nat.le_refl _), cell_keep c1 hB (Nat.le_refl _), cell_keep c2 hB (Nat.le_refl _), cell_keep d0 hB (Nat.le_refl _), cell_keep d1 hB (Nat.le_refl _), cell_keep d2 hB (Nat.le_refl _)⟩ | go_keep)
        (first
          | (go_at_call 15; (with_reducible refine (HT1.out _ hB).mono ?_); rintro r w5 ⟨rfl, hb⟩; have hB := hB.tr hb; clear hb)
          | (go_at_call 16; (with_reducible refine (HT2.out _ hB).mono ?_); rintro r w5 ⟨rfl, hb⟩; have hB := hB.tr hb; clear hb)
          | (go_at_call 17; (with_reducible refine (HS1.out _ hB).mono ?_); rintro r w5 ⟨rfl, hb⟩; have hB := hB.tr hb; clear hb)
          | (go_at_call 12; (with_reducible refine (HS2.out _ hB).mono ?_); rintro r w5 ⟨rfl, hb⟩; have hB := hB.tr hb; clear hb))
      go_goals
      all_goals
        have HBF := hide (HB.out.tr hB)
        go_wp2_with fail
        go_roundw
        case rel => exact ⟨i + 1, by omega, by go_num, HBF.out⟩
        case measure => simp [intOf]; omega
    · obtain rfl : i = l.length := by omega
      go_wp2_with fail
      refine (works12_any _ (HT.out.below HW.out) (HWD.out.below HW.out)).mono ?_
      rintro r w9 ⟨rfl, hb⟩
      have HW := hide (HW.out.tr hb)
      clear hb
      go_wp2_with fail
      go_ret
      exact ⟨rfl, HW.out⟩
end Go.Proofs.YtnkmbddjekepkaaDoor
