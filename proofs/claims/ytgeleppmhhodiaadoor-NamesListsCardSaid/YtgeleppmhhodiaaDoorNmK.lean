/- NamesLists returns true for every input, where the table of blanks is laid: the walk. -/
import Derived.Test.YtgeleppmhhodiaaDoorNmJ
namespace Go.Proofs.YtgeleppmhhodiaaDoor
open Go Go.RowKit
set_option linter.unusedSimpArgs false
set_option linter.unusedVariables false
set_option linter.unnecessarySimpa false
theorem info_rvr : (Tryd.prog.info? 67).map (fun i => (i.zero, i.size, i.bytes)) = some (some (.agg #[.string ⟨#[]⟩, .int .i64 0, .int .i64 0, .int .i64 0, .int .i64 0]), 5, 48) := by kernel_rfl
def VsPost (l : List Vr) (w : World) (r : Ending) (w' : World) : Prop := (∃ a cap, r = .returned (.slice a l.length cap) ∧ Vrs w' l a cap) ∧ Below w.heap.size w w'
set_option maxRecDepth 20000 in
set_option maxHeartbeats 2000000 in
theorem vars_any (l : List Vr) (a : Option Addr) (cap : Nat) (w : World) (hl : Vrs w l a cap) (hn : l.length ≤ 100) : Calls Tryd.prog 10 #[.slice a l.length cap] w (VsPost l w) := by
  obtain ⟨i0, hi, hz0, hz1, hz2⟩ := info_parts info_rvr
  have HL := hide hl
  clear hl
  go_enter Tryd.func10, Tryd.ntmps10
  go_wp2
  go_loopw [3, 4] (fun sv i wr => ∃ (k : Nat) (va : Option Addr) (vc : Nat), k ≤ l.length ∧ i = .int .i64 k ∧ sv = .slice va k vc ∧ Hid (OwnL wr w.heap.size 67 5 VrC [] (.slice va k vc) (l.take k)) ∧ Hid (Below w.heap.size w wr)) (fun _ i _ => l.length - (intOf i).toNat)
  case atStart => exact ⟨0, none, 0, Nat.zero_le _, rfl, rfl, hide (OwnL.nil _ _ _ _ _ _), bl _⟩
  case round =>
    obtain ⟨k, va, vc, hk, rfl, rfl, HO, HB⟩ := hrel
    by_cases hlt : k < l.length
    · obtain ⟨b, o, rfl⟩ := HL.out.addr (by omega)
      obtain ⟨c0, c1, c2, c3, c4⟩ := (HL.out.at_ b o rfl k hlt).keep HB.out (Nat.le_refl _)
      have hbl := cell_lt c0
      simp only at hbl
      have hll : (l.take k).length = k := by simp; omega
      have hwf := HL.out.wf _ (List.getElem_mem hlt)
      have HO2 := hide (HO.out.al VrC.mono (.cells #[.string ⟨l[k].name.toArray⟩, .int .i64 l[k].typ, .int .i64 l[k].no, .int .i64 l[k].frm, .int .i64 l[k].til] 67))
      have HSZ : Hid (w.heap.size ≤ (wr.alloc (.cells #[.string ⟨l[k].name.toArray⟩, .int .i64 l[k].typ, .int .i64 l[k].no, .int .i64 l[k].frm, .int .i64 l[k].til] 67)).heap.size) := hide (by have := HB.out.size; simp; omega)
      have HNW := hide (news_row wr [.string ⟨l[k].name.toArray⟩, .int .i64 l[k].typ, .int .i64 l[k].no, .int .i64 l[k].frm, .int .i64 l[k].til] 67 wr.heap.size rfl)
      have HMA : Hid ((l.take k).length + 1 ≤ maxLen) := hide (by rw [hll]; unfold maxLen; omega)
      have HMB : Hid (((l.take k).length + 1) * 48 ≤ 140737488355328) := hide (by rw [hll]; omega)
      have HVC : Hid (∀ W, VrC W l[k] [.string ⟨l[k].name.toArray⟩, .int .i64 l[k].typ, .int .i64 l[k].no, .int .i64 l[k].frm, .int .i64 l[k].til]) := hide (fun _ => ⟨rfl, hwf⟩)
      have HLEN : Hid ((l.take k ++ [l[k]]).length = k + 1) := hide (by rw [List.length_append, hll]; rfl)
      have HTK : Hid (l.take (k + 1) = l.take k ++ [l[k]]) := hide (List.take_succ_eq_append_getElem hlt)
      clear hll hwf
      go_wp2_with (at_builtin; refine wpList_push _ rfl _ _ 24 rfl w.heap.size 67 i0 _ 5 48 Tryd.underlying24 hi hz0 hz1 hz2 rfl (by decide) VrC VrC.mono [] _ _ rfl HO2.out ⟨wr.heap.size, 0, none⟩ 1 [.string ⟨l[k].name.toArray⟩, .int .i64 l[k].typ, .int .i64 l[k].no, .int .i64 l[k].frm, .int .i64 l[k].til] l[k] rfl rfl HNW.out (by simp [Value.oneCell']) (HVC.out _) HMA.out HMB.out HSZ.out ?_; intro v2 w2 hown2 hgrow2; obtain ⟨va2, vc2, he2, -, -⟩ := hown2.slice; rw [HLEN.out] at he2; subst he2)
      go_roundw
      case rel => exact ⟨k + 1, va2, vc2, by omega, by go_num, rfl, hide (by rw [← HTK.out] at hown2; exact hown2), (HB.out.al (.cells #[.string ⟨l[k].name.toArray⟩, .int .i64 l[k].typ, .int .i64 l[k].no, .int .i64 l[k].frm, .int .i64 l[k].til] 67)).grown hgrow2 HSZ.out (fun g hg => (HO.out.lt g hg).1)⟩
      case measure => simp [intOf]; omega
    · obtain rfl : k = l.length := by omega
      have HE : Hid (∃ a cap, Value.slice va l.length vc = .slice a l.length cap ∧ Vrs wr l a cap) := hide (by
        have ho := HO.out
        rw [List.take_length] at ho
        exact ho.vrs)
      clear HO
      go_wp2
      go_ret
      obtain ⟨a', cap', he, hi⟩ := HE.out
      exact ⟨⟨a', cap', congrArg Ending.returned he, hi⟩, HB.out⟩
set_option maxRecDepth 20000 in
set_option maxHeartbeats 4000000 in
theorem NamesLists_any (l : List Vr) (a : Option Addr) (cap : Nat) (p : Int) (name : Bytes) (w : World) (hl : Vrs w l a cap) (hT : Tab w) :
    Calls Tryd.prog 3 #[.slice a l.length cap, .int .i64 p, .string ⟨name.toArray⟩] w fun r w' => r = .returned (.bool true) ∧ Below w.heap.size w w' := by
  have hlen : l.length ≤ 9223372036854775807 := Nat.le_trans hl.len hl.cap
  have HWK := hide fun (W : World) (hW : Below w.heap.size w W) => works10_any W (hT.below hW)
  have HV := hide hl
  by_cases h100 : (100 : Int) < (l.length : Int)
  · go_enter Tryd.func3, Tryd.ntmps3
    go_wp2_with fail
    refine (HWK.out _ (bl w)).mono ?_
    rintro r w1 ⟨rfl, hb⟩
    go_wp2_with fail
    go_ret
    exact ⟨rfl, hb⟩
  · have hsm : l.length ≤ 100 := by omega
    have hvr := vars_any l a cap w hl hsm
    have hfd := fun (a : Option Addr) (cap : Nat) (W : World) (h : Vrs W l a cap) => find_any l a cap name W h
    have hrf := fun (a : Option Addr) (cap : Nat) (W : World) (h : Vrs W l a cap) => refFind_any l a cap name W h
    have hsn := fun (a : Option Addr) (cap : Nat) (W : World) (h : Vrs W l a cap) => seen_any l a cap name p W h
    have hrs := fun (a : Option Addr) (cap : Nat) (W : World) (h : Vrs W l a cap) => refSeen_any l a cap name p W h
    generalize findM l name = f1 at hfd hrf
    generalize seenM l name p = f2 at hsn hrs
    obtain ⟨i1, b1⟩ := f1
    obtain ⟨i2, b2⟩ := f2
    simp only at hfd hrf hsn hrs
    have HVR := hide hvr
    have HFD := hide hfd
    have HRF := hide hrf
    have HSN := hide hsn
    have HRS := hide hrs
    clear hl hT hvr hfd hrf hsn hrs
    go_enter Tryd.func3, Tryd.ntmps3
    go_wp2_with fail
    refine HVR.out.mono ?_
    rintro r w1 ⟨⟨a2, cap2, rfl, hm⟩, hb⟩
    have HW := hide hb
    have HM := hide hm
    have HV := hide (HV.out.keep hb (Nat.le_refl _))
    clear hb hm
    go_wp2_with fail
    refine (HFD.out _ _ _ HV.out).mono ?_
    rintro r w2 ⟨rfl, hb⟩
    have HW := hide (HW.out.tr hb)
    have HV := hide (HV.out.keep hb (Nat.le_refl _))
    have HM := hide (HM.out.keep hb (Nat.le_refl _))
    clear hb
    go_wp2_with fail
    refine (HRF.out _ _ _ HM.out).mono ?_
    rintro r w3 ⟨rfl, hb⟩
    have HW := hide (HW.out.tr hb)
    have HV := hide (HV.out.keep hb (Nat.le_refl _))
    have HM := hide (HM.out.keep hb (Nat.le_refl _))
    clear hb
    go_wp2_with fail
    refine (HSN.out _ _ _ HV.out).mono ?_
    rintro r w4 ⟨rfl, hb⟩
    have HW := hide (HW.out.tr hb)
    have HV := hide (HV.out.keep hb (Nat.le_refl _))
    have HM := hide (HM.out.keep hb (Nat.le_refl _))
    clear hb
    go_wp2_with fail
    refine (HRS.out _ _ _ HM.out).mono ?_
    rintro r w5 ⟨rfl, hb⟩
    have HW := hide (HW.out.tr hb)
    have HV := hide (HV.out.keep hb (Nat.le_refl _))
    have HM := hide (HM.out.keep hb (Nat.le_refl _))
    clear hb
    go_wp2_with fail
    refine (in_any l _ _ p _ HV.out (by omega)).mono ?_
    rintro r w6 ⟨⟨a3, cap3, rfl, hi⟩, hb⟩
    have HI := hide hi
    clear hi
    have HW := hide (HW.out.tr hb)
    have HV := hide (HV.out.keep hb (Nat.le_refl _))
    have HM := hide (HM.out.keep hb (Nat.le_refl _))
    clear hb
    go_wp2_with fail
    refine (refIn_any l _ _ p _ HM.out (by omega)).mono ?_
    rintro r w7 ⟨⟨a4, cap4, rfl, hi⟩, hb⟩
    have HI := hide (HI.out.keep hb (Nat.le_refl _))
    have HJ := hide hi
    clear hi
    have HW := hide (HW.out.tr hb)
    have HV := hide (HV.out.keep hb (Nat.le_refl _))
    have HM := hide (HM.out.keep hb (Nat.le_refl _))
    clear hb
    go_wp2_with fail
    refine (ints_self _ _ _ _ _ _ HI.out HJ.out).mono ?_
    rintro r w8 ⟨rfl, hb⟩
    clear HI HJ
    have HW := hide (HW.out.tr hb)
    have HV := hide (HV.out.keep hb (Nat.le_refl _))
    have HM := hide (HM.out.keep hb (Nat.le_refl _))
    clear hb
    go_wp2_with fail
    refine (HWK.out _ HW.out).mono ?_
    rintro r w9 ⟨rfl, hb⟩
    go_wp2_with fail
    go_ret
    exact ⟨rfl, HW.out.tr hb⟩
end Go.Proofs.YtgeleppmhhodiaaDoor
