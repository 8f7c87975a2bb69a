/- The walk of TypesOf: it returns true for every list of variables, point and expression in memory, in every world in which the table of blanks is laid. -/
import Derived.Test.YtfpikakgaghdbaaDoorTyG
import Derived.Test.YtfpikakgaghdbaaDoorRefF
import Derived.Test.YtfpikakgaghdbaaDoorRefH
import Derived.Test.YtfpikakgaghdbaaDoorRefI
import Derived.Test.YtfpikakgaghdbaaDoorRefK
import Derived.Deep.RegionHeld3
namespace Go.Proofs.YtfpikakgaghdbaaDoor
open Go Go.RowKit
theorem equal_same (xs : List Int) (xa ya : Option Addr) (xc yc n : Nat) (w : World) (hn : n = xs.length) (hx : Ints w xs xa xc) (hy : Ints w xs ya yc) :
    Calls Tryd.prog 23 #[.slice xa n xc, .slice ya n yc] w fun r w' => r = .returned (.bool true) ∧ Below w.heap.size w w' := by
  subst hn
  refine (equal_ints xs xs xa ya xc yc w hx hy).mono ?_
  rintro r w' ⟨rfl, hb⟩
  exact ⟨by simp, hb⟩
set_option maxRecDepth 100000 in
set_option maxHeartbeats 8000000 in
theorem TypesOf_any (l : List Vr) (a : Option Addr) (cap : Nat) (p : Int) (e : Ex) (v : Value) (w : World) (hl : Vrs w l a cap) (hv : Ex.Val w e v) (hT : Tab w) :
    Calls Tryd.prog 7 #[.slice a l.length cap, .int .i64 p, v] w fun r w' => r = .returned (.bool true) ∧ Below w.heap.size w w' := by
  have hlen : l.length ≤ 9223372036854775807 := Nat.le_trans hl.len hl.cap
  have HV0 := hide hv
  have HL0 := hide hl
  have HT0 := hide hT
  have HW := hide works_any
  obtain ⟨ea, ecap, rfl, hw, hr⟩ := hv
  clear hw hr hl hT
  by_cases hbig : (60 : Int) < (l.length : Int)
  · go_enter Tryd.func7, Tryd.ntmps7
    go_wp2_with fail
    refine (HW.out _ (HT0.out.below ((bl w).al _))).mono ?_
    rintro r w1 ⟨rfl, hb⟩
    go_wp2_with fail
    go_ret
    exact ⟨rfl, ((bl w).al _).tr hb⟩
  · have hfew := fun (W : World) (hW : Below w.heap.size w W) => few_any e _ W 300 (HV0.out.keep hW (Nat.le_refl _))
    have HF := hide hfew
    clear hfew
    have hsm : (l.length : Int) ≤ 60 := by omega
    go_enter Tryd.func7, Tryd.ntmps7
    go_wp2_with fail
    refine (HF.out _ ((bl w).al _)).mono ?_
    rintro r w1 ⟨⟨b, rfl⟩, hb1⟩
    have hw1 := ((bl w).al _).tr hb1
    have d0 : w1.cell? ⟨w.heap.size, 0, none⟩ = some (.int .i64 e.kind) := by rw [hb1.cell (by simp)]; go_simp
    have d1 : w1.cell? ⟨w.heap.size, 1, none⟩ = some (.int .i64 e.op) := by rw [hb1.cell (by simp)]; go_simp
    have d2 : w1.cell? ⟨w.heap.size, 2, none⟩ = some (.int .i64 e.num) := by rw [hb1.cell (by simp)]; go_simp
    have d3 : w1.cell? ⟨w.heap.size, 3, none⟩ = some (.string ⟨e.name.toArray⟩) := by rw [hb1.cell (by simp)]; go_simp
    have d4 : w1.cell? ⟨w.heap.size, 4, none⟩ = some (.slice ea e.args.length ecap) := by rw [hb1.cell (by simp)]; go_simp
    cases b
    · go_wp2_with fail
      refine (HW.out _ (HT0.out.below hw1)).mono ?_
      rintro r w2 ⟨rfl, hb⟩
      go_wp2_with fail
      go_ret
      exact ⟨rfl, hw1.tr hb⟩
    · clear hb1
      have HLC := hide (HL0.out.keep hw1 (Nat.le_refl _))
      have HV := hide (HV0.out.keep hw1 (Nat.le_refl _))
      have HTC := hide (HT0.out.below hw1)
      have HB0 := hide hw1
      clear hw1
      go_wp2_with fail
      refine (cloneVars_any l a cap _ HLC.out (by omega)).mono ?_
      rintro r w2 ⟨⟨ga, gcap, rfl, hG⟩, hb⟩
      have HG := hide hG
      have HB0 := hide (HB0.out.tr hb)
      have HLC := hide (HLC.out.keep hb (Nat.le_refl _))
      have HV := hide (HV.out.keep hb (Nat.le_refl _))
      have HTC := hide (HTC.out.below hb)
      have d0 := cell_keep d0 hb (Nat.le_refl _)
      have d1 := cell_keep d1 hb (Nat.le_refl _)
      have d2 := cell_keep d2 hb (Nat.le_refl _)
      have d3 := cell_keep d3 hb (Nat.le_refl _)
      have d4 := cell_keep d4 hb (Nat.le_refl _)
      clear hG hb
      go_wp2_with fail
      refine (Of_any l p ga gcap e _ _ HG.out HV.out HTC.out).mono ?_
      rintro r w3 ⟨rfl, hb⟩
      have HG := hide (HG.out.keep hb (Nat.le_refl _))
      have HB0 := hide (HB0.out.tr hb)
      have HLC := hide (HLC.out.keep hb (Nat.le_refl _))
      have HV := hide (HV.out.keep hb (Nat.le_refl _))
      have HTC := hide (HTC.out.below hb)
      have d0 := cell_keep d0 hb (Nat.le_refl _)
      have d1 := cell_keep d1 hb (Nat.le_refl _)
      have d2 := cell_keep d2 hb (Nat.le_refl _)
      have d3 := cell_keep d3 hb (Nat.le_refl _)
      have d4 := cell_keep d4 hb (Nat.le_refl _)
      clear hb
      go_wp2_with fail
      have HBW : Below w3.drew.heap.size w3.drew w3.drew := bl _
      have HV := hide (HV.out.keep (bl w3).dr (Nat.le_refl _))
      have HLC := hide (HLC.out.keep (bl w3).dr (Nat.le_refl _))
      have HG := hide (HG.out.keep (bl w3).dr (Nat.le_refl _))
      have HTC := hide (HTC.out.below (bl w3).dr)
      have d0 := cell_keep d0 (bl w3).dr (Nat.le_refl _)
      have d1 := cell_keep d1 (bl w3).dr (Nat.le_refl _)
      have d2 := cell_keep d2 (bl w3).dr (Nat.le_refl _)
      have d3 := cell_keep d3 (bl w3).dr (Nat.le_refl _)
      have d4 := cell_keep d4 (bl w3).dr (Nat.le_refl _)
      go_region_held3 (fun w' => w'.cell? ⟨w.heap.size, 0, none⟩ = some (.int .i64 e.kind) ∧ w'.cell? ⟨w.heap.size, 1, none⟩ = some (.int .i64 e.op) ∧ w'.cell? ⟨w.heap.size, 2, none⟩ = some (.int .i64 e.num) ∧ w'.cell? ⟨w.heap.size, 3, none⟩ = some (.string ⟨e.name.toArray⟩) ∧ w'.cell? ⟨w.heap.size, 4, none⟩ = some (.slice ea e.args.length ecap))
        (first | (go_split_ands; exact ⟨cell_keep (by assumption) hb (Nat.le_refl _), cell_keep (by assumption) hb (Nat.le_refl _), cell_keep (by assumption) hb (Nat.le_refl _), cell_keep (by assumption) hb (Nat.le_refl _), cell_keep (by assumption) hb (Nat.le_refl _)⟩) | go_keep)
        (first | (go_at_call 22; refine (refs_any l a cap _ HLC.out (by omega)).mono ?_; rintro r w4 ⟨⟨ra, rcap, rfl, hR⟩, hb⟩; have HR := hide hR; clear hR; have HBW := HBW.tr hb; have HV := hide (HV.out.keep hb (Nat.le_refl _)); have HLC := hide (HLC.out.keep hb (Nat.le_refl _)); have HG := hide (HG.out.keep hb (Nat.le_refl _)); have HTC := hide (HTC.out.below hb); (try have HU1 := hide (HU1.out.keep hb (Nat.le_refl _))); (try have HU2 := hide (HU2.out.keep hb (Nat.le_refl _))); (try have HR := hide (HR.out.keep hb (Nat.le_refl _))))
               | (go_at_call 21; refine (refOf11_any l _ _ p e _ _ HR.out HV.out).mono ?_; rintro r w4 ⟨rfl, hb⟩; have HBW := HBW.tr hb; have HV := hide (HV.out.keep hb (Nat.le_refl _)); have HLC := hide (HLC.out.keep hb (Nat.le_refl _)); have HG := hide (HG.out.keep hb (Nat.le_refl _)); have HTC := hide (HTC.out.below hb); (try have HU1 := hide (HU1.out.keep hb (Nat.le_refl _))); (try have HU2 := hide (HU2.out.keep hb (Nat.le_refl _))); (try have HR := hide (HR.out.keep hb (Nat.le_refl _)))))
      go_wp2_with fail
      have hS : w4.cell? ⟨w.heap.size, 0, none⟩ = some (.int .i64 e.kind) ∧ w4.cell? ⟨w.heap.size, 1, none⟩ = some (.int .i64 e.op) ∧ w4.cell? ⟨w.heap.size, 2, none⟩ = some (.int .i64 e.num) ∧ w4.cell? ⟨w.heap.size, 3, none⟩ = some (.string ⟨e.name.toArray⟩) ∧ w4.cell? ⟨w.heap.size, 4, none⟩ = some (.slice ea e.args.length ecap) := by assumption
      obtain ⟨d0, d1, d2, d3, d4⟩ := hS
      have HB0 := hide (HB0.out.dr.tr HBW)
      clear HBW
      have HBW : Below w4.drew.heap.size w4.drew w4.drew := bl _
      have HV := hide (HV.out.keep (bl w4).dr (Nat.le_refl _))
      have HLC := hide (HLC.out.keep (bl w4).dr (Nat.le_refl _))
      have HG := hide (HG.out.keep (bl w4).dr (Nat.le_refl _))
      have HR := hide (HR.out.keep (bl w4).dr (Nat.le_refl _))
      have HTC := hide (HTC.out.below (bl w4).dr)
      have d0 := cell_keep d0 (bl w4).dr (Nat.le_refl _)
      have d1 := cell_keep d1 (bl w4).dr (Nat.le_refl _)
      have d2 := cell_keep d2 (bl w4).dr (Nat.le_refl _)
      have d3 := cell_keep d3 (bl w4).dr (Nat.le_refl _)
      have d4 := cell_keep d4 (bl w4).dr (Nat.le_refl _)
      go_region_held3 (fun w' => w'.cell? ⟨w.heap.size, 0, none⟩ = some (.int .i64 e.kind) ∧ w'.cell? ⟨w.heap.size, 1, none⟩ = some (.int .i64 e.op) ∧ w'.cell? ⟨w.heap.size, 2, none⟩ = some (.int .i64 e.num) ∧ w'.cell? ⟨w.heap.size, 3, none⟩ = some (.string ⟨e.name.toArray⟩) ∧ w'.cell? ⟨w.heap.size, 4, none⟩ = some (.slice ea e.args.length ecap))
        (first | (go_split_ands; exact ⟨cell_keep (by assumption) hb (Nat.le_refl _), cell_keep (by assumption) hb (Nat.le_refl _), cell_keep (by assumption) hb (Nat.le_refl _), cell_keep (by assumption) hb (Nat.le_refl _), cell_keep (by assumption) hb (Nat.le_refl _)⟩) | go_keep)
        (first | (go_at_call 22; refine (refs_any l a cap _ HLC.out (by omega)).mono ?_; rintro r w5 ⟨⟨ra, rcap, rfl, hR⟩, hb⟩; have HR := hide hR; clear hR; have HBW := HBW.tr hb; have HV := hide (HV.out.keep hb (Nat.le_refl _)); have HLC := hide (HLC.out.keep hb (Nat.le_refl _)); have HG := hide (HG.out.keep hb (Nat.le_refl _)); have HTC := hide (HTC.out.below hb); (try have HU1 := hide (HU1.out.keep hb (Nat.le_refl _))); (try have HU2 := hide (HU2.out.keep hb (Nat.le_refl _))); (try have HR := hide (HR.out.keep hb (Nat.le_refl _))))
               | (go_at_call 24; refine (Uses_any l ga gcap e _ _ HG.out HV.out HTC.out (by omega)).mono ?_; rintro r w5 ⟨⟨ua, uc, rfl, hU⟩, hb⟩; have HU1 := hide hU; clear hU; have HBW := HBW.tr hb; have HV := hide (HV.out.keep hb (Nat.le_refl _)); have HLC := hide (HLC.out.keep hb (Nat.le_refl _)); have HG := hide (HG.out.keep hb (Nat.le_refl _)); have HTC := hide (HTC.out.below hb); (try have HU1 := hide (HU1.out.keep hb (Nat.le_refl _))); (try have HU2 := hide (HU2.out.keep hb (Nat.le_refl _))); (try have HR := hide (HR.out.keep hb (Nat.le_refl _))))
               | (go_at_call 25; refine (refUses_any l _ _ e _ _ HR.out HV.out (by omega)).mono ?_; rintro r w5 ⟨⟨ua2, uc2, rfl, hU⟩, hb⟩; have HU2 := hide hU; clear hU; have HBW := HBW.tr hb; have HV := hide (HV.out.keep hb (Nat.le_refl _)); have HLC := hide (HLC.out.keep hb (Nat.le_refl _)); have HG := hide (HG.out.keep hb (Nat.le_refl _)); have HTC := hide (HTC.out.below hb); (try have HU1 := hide (HU1.out.keep hb (Nat.le_refl _))); (try have HU2 := hide (HU2.out.keep hb (Nat.le_refl _))); (try have HR := hide (HR.out.keep hb (Nat.le_refl _))))
               | (go_at_call 23; refine (equal_same _ _ _ _ _ _ _ (by simp) HU1.out HU2.out).mono ?_; rintro r w5 ⟨rfl, hb⟩; have HBW := HBW.tr hb; have HV := hide (HV.out.keep hb (Nat.le_refl _)); have HLC := hide (HLC.out.keep hb (Nat.le_refl _)); have HG := hide (HG.out.keep hb (Nat.le_refl _)); have HTC := hide (HTC.out.below hb); (try have HU1 := hide (HU1.out.keep hb (Nat.le_refl _))); (try have HU2 := hide (HU2.out.keep hb (Nat.le_refl _))); (try have HR := hide (HR.out.keep hb (Nat.le_refl _))))
               | (go_at_call 26; refine (equalVars_any l _ _ _ _ _ HG.out HLC.out).mono ?_; rintro r w5 ⟨rfl, hb⟩; have HBW := HBW.tr hb; have HV := hide (HV.out.keep hb (Nat.le_refl _)); have HLC := hide (HLC.out.keep hb (Nat.le_refl _)); have HG := hide (HG.out.keep hb (Nat.le_refl _)); have HTC := hide (HTC.out.below hb); (try have HU1 := hide (HU1.out.keep hb (Nat.le_refl _))); (try have HU2 := hide (HU2.out.keep hb (Nat.le_refl _))); (try have HR := hide (HR.out.keep hb (Nat.le_refl _))))
               | (go_at_call 12; refine (HW.out _ HTC.out).mono ?_; rintro r w5 ⟨rfl, hb⟩; have HBW := HBW.tr hb; have HV := hide (HV.out.keep hb (Nat.le_refl _)); have HLC := hide (HLC.out.keep hb (Nat.le_refl _)); have HG := hide (HG.out.keep hb (Nat.le_refl _)); have HTC := hide (HTC.out.below hb); (try have HU1 := hide (HU1.out.keep hb (Nat.le_refl _))); (try have HU2 := hide (HU2.out.keep hb (Nat.le_refl _))); (try have HR := hide (HR.out.keep hb (Nat.le_refl _)))))
      all_goals
        go_wp2_with fail
        go_ret
        exact ⟨rfl, HB0.out.dr.tr HBW⟩
end Go.Proofs.YtfpikakgaghdbaaDoor
