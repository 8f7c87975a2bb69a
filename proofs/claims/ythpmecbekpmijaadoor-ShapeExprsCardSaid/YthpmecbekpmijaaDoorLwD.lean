/- ShapeExprs returns true for every string and every two expressions, where the table of blanks is laid. -/
import Derived.Test.YthpmecbekpmijaaDoorRqC
import Derived.Deep.RegionHeld3
namespace Go.Proofs.YthpmecbekpmijaaDoor
open Go Go.RowKit
set_option linter.unusedSimpArgs false
set_option linter.unusedVariables false
set_option linter.unnecessarySimpa false
set_option maxRecDepth 20000 in
set_option maxHeartbeats 8000000 in
theorem ShapeExprs_any (s : Bytes) (x y : Ex) (v u : Value) (w : World) (hs : s.length ≤ maxLen) (hx : Ex.Val w x v) (hy : Ex.Val w y u) (hT : Tab w) : Calls Tryd.prog 4 #[.string ⟨s.toArray⟩, v, u] w fun r w' => r = .returned (.bool true) ∧ Below w.heap.size w w' := by
  have HVX := hide hx
  have HVY := hide hy
  have HT := hide hT
  have HSL := hide hs
  have hsl : s.length ≤ 9223372036854775807 := hs
  obtain ⟨a, cap, rfl, hw, hr⟩ := hx
  obtain ⟨a', cap', rfl, hw', hr'⟩ := hy
  have HRX := hide fun (W : World) (hW : Below w.heap.size w W) (n : Nat) (hn : n = W.heap.size) => exs_new (cut5 (exC_val (HVX.out.keep hW (Nat.le_refl _))) cutN) 30 n hn
  have HRY := hide fun (W : World) (hW : Below w.heap.size w W) (n : Nat) (hn : n = W.heap.size) => exs_new (cut5 (exC_val (HVY.out.keep hW (Nat.le_refl _))) cutN) 30 n hn
  have hone : ∀ z : Ex, [z].length ≤ maxLen := fun z => by unfold maxLen; simp
  have HC := hide fun (z : Ex) (W : World) (g c : Nat) (m : Int) (h : Ex.Row W [z] (some ⟨g, 0, none⟩)) => exprs_law _ [z] (some ⟨g, 0, none⟩) c m W (Nat.lt_succ_self _) (hone z) h
  have HY0 : Hid (((w.alloc (.cells #[.int .i64 x.kind, .int .i64 x.op, .int .i64 x.num, .string ⟨x.name.toArray⟩, .slice a x.args.length cap] 30)).alloc (.cells #[.int .i64 y.kind, .int .i64 y.op, .int .i64 y.num, .string ⟨y.name.toArray⟩, .slice a' y.args.length cap'] 30)).heap[w.heap.size + 1]? = some (.cells #[.int .i64 y.kind, .int .i64 y.op, .int .i64 y.num, .string ⟨y.name.toArray⟩, .slice a' y.args.length cap'] 30 (0, 0))) := hide (by
    rw [show w.heap.size + 1 = (w.alloc (.cells #[.int .i64 x.kind, .int .i64 x.op, .int .i64 x.num, .string ⟨x.name.toArray⟩, .slice a x.args.length cap] 30)).heap.size by simp]
    exact heap_alloc_new _ _)
  have HX0 : Hid (((w.alloc (.cells #[.int .i64 x.kind, .int .i64 x.op, .int .i64 x.num, .string ⟨x.name.toArray⟩, .slice a x.args.length cap] 30)).alloc (.cells #[.int .i64 y.kind, .int .i64 y.op, .int .i64 y.num, .string ⟨y.name.toArray⟩, .slice a' y.args.length cap'] 30)).heap[w.heap.size]? = some (.cells #[.int .i64 x.kind, .int .i64 x.op, .int .i64 x.num, .string ⟨x.name.toArray⟩, .slice a x.args.length cap] 30 (0, 0))) := hide (by
    rw [Below.heap_alloc _ _ _ (by simp)]
    exact heap_alloc_new _ _)
  clear hw hr hw' hr' hone hT hs
  go_enter Tryd.func4, Tryd.ntmps4
  by_cases hl : (100 : Int) < (s.length : Int)
  · have hB := ((bl w).al (.cells #[.int .i64 x.kind, .int .i64 x.op, .int .i64 x.num, .string ⟨x.name.toArray⟩, .slice a x.args.length cap] 30)).al (.cells #[.int .i64 y.kind, .int .i64 y.op, .int .i64 y.num, .string ⟨y.name.toArray⟩, .slice a' y.args.length cap'] 30)
    go_wp2_with fail
    refine (works_any _ (HT.out.below hB)).mono ?_
    rintro r w9 ⟨rfl, hb9⟩
    go_wp2_with fail
    go_ret
    exact ⟨rfl, (hB).tr hb9⟩
  go_wp2_with fail
  refine (HC.out x _ _ _ _ (HRX.out _ (((bl w).al _).al _) _ (by simp))).mono ?_
  rintro r w1 ⟨⟨c1, rfl⟩, hb1⟩
  have hB := ((((bl w).al (.cells #[.int .i64 x.kind, .int .i64 x.op, .int .i64 x.num, .string ⟨x.name.toArray⟩, .slice a x.args.length cap] 30)).al (.cells #[.int .i64 y.kind, .int .i64 y.op, .int .i64 y.num, .string ⟨y.name.toArray⟩, .slice a' y.args.length cap'] 30)).al (.cells #[.int .i64 x.kind, .int .i64 x.op, .int .i64 x.num, .string ⟨x.name.toArray⟩, .slice a x.args.length cap] 30)).tr hb1
  have HX := hide ((hb1.block _ (by simp; omega)).trans ((Below.heap_alloc _ _ _ (by simp; omega)).trans HX0.out))
  have HY := hide ((hb1.block _ (by simp)).trans ((Below.heap_alloc _ _ _ (by simp)).trans HY0.out))
  have ly : w.heap.size + 1 < w1.heap.size := (Array.getElem?_eq_some_iff.1 HY.out).1
  have lx : w.heap.size < w1.heap.size := by omega
  clear hb1
  by_cases hc : (500 : Int) < c1
  · go_wp2_with fail
    refine (works_any _ (HT.out.below hB)).mono ?_
    rintro r w9 ⟨rfl, hb9⟩
    go_wp2_with fail
    go_ret
    exact ⟨rfl, (hB).tr hb9⟩
  have y0 := cell_at (j := 0) HY.out rfl
  have y1 := cell_at (j := 1) HY.out rfl
  have y2 := cell_at (j := 2) HY.out rfl
  have y3 := cell_at (j := 3) HY.out rfl
  have y4 := cell_at (j := 4) HY.out rfl
  have HRY1 := hide (HRY.out w1 hB w1.heap.size rfl)
  go_wp2_with fail
  refine (HC.out y _ _ _ _ HRY1.out).mono ?_
  rintro r w2 ⟨⟨c2, rfl⟩, hb2⟩
  have hB2 := (hB.al (.cells #[.int .i64 y.kind, .int .i64 y.op, .int .i64 y.num, .string ⟨y.name.toArray⟩, .slice a' y.args.length cap'] 30)).tr hb2
  have hb12 := ((bl w1).al (.cells #[.int .i64 y.kind, .int .i64 y.op, .int .i64 y.num, .string ⟨y.name.toArray⟩, .slice a' y.args.length cap'] 30)).tr hb2
  have HX := hide ((hb12.block _ lx).trans HX.out)
  have HY := hide ((hb12.block _ ly).trans HY.out)
  have lx := Nat.lt_of_lt_of_le lx hb12.size
  have ly := Nat.lt_of_lt_of_le ly hb12.size
  clear y0 y1 y2 y3 y4 hb2 hb12 HRY1
  by_cases hc2 : (500 : Int) < c2
  · go_wp2_with fail
    refine (works_any _ (HT.out.below hB2)).mono ?_
    rintro r w9 ⟨rfl, hb9⟩
    go_wp2_with fail
    go_ret
    exact ⟨rfl, (hB2).tr hb9⟩
  obtain ⟨q, hq⟩ : ∃ q, nameOk s = q := ⟨_, rfl⟩
  obtain ⟨p, hp⟩ : ∃ q, sameE x y = q := ⟨_, rfl⟩
  obtain ⟨z, hz⟩ : ∃ q, (if depthM 20 x = 0 then (2 : Int) else 0) = q := ⟨_, rfl⟩
  obtain ⟨d, hd⟩ : ∃ q, ((depthM 20 x : Nat) : Int) = q := ⟨_, rfl⟩
  have HS1 := hide fun (W : World) (hW : Below w2.heap.size w2 W) => name_any s W (HT.out.below (hB2.tr hW)) HSL.out
  have HS2 := hide fun (W : World) (hW : Below w2.heap.size w2 W) => refName_any s W HSL.out
  have HS3 := hide fun (W : World) (hW : Below w2.heap.size w2 W) => expr_any x _ W (HVX.out.keep (hB2.tr hW) (Nat.le_refl _)) (HT.out.below (hB2.tr hW))
  have HS4 := hide fun (W : World) (hW : Below w2.heap.size w2 W) => refExpr_any x _ W (HVX.out.keep (hB2.tr hW) (Nat.le_refl _))
  have HS5 := hide fun (W : World) (hW : Below w2.heap.size w2 W) => depth_any x _ W (HVX.out.keep (hB2.tr hW) (Nat.le_refl _)) (HT.out.below (hB2.tr hW))
  have HS6 := hide fun (W : World) (hW : Below w2.heap.size w2 W) => refDepth_any x _ W (HVX.out.keep (hB2.tr hW) (Nat.le_refl _))
  have HS7 := hide fun (W : World) (hW : Below w2.heap.size w2 W) => sameExpr_any x y _ _ W (HVX.out.keep (hB2.tr hW) (Nat.le_refl _)) (HVY.out.keep (hB2.tr hW) (Nat.le_refl _)) (HT.out.below (hB2.tr hW))
  have HS8 := hide fun (W : World) (hW : Below w2.heap.size w2 W) => refSameExpr_any x y _ _ W (HVX.out.keep (hB2.tr hW) (Nat.le_refl _)) (HVY.out.keep (hB2.tr hW) (Nat.le_refl _))
  have HWK := hide fun (W : World) (hW : Below w2.heap.size w2 W) => works_any W (HT.out.below (hB2.tr hW))
  rw [hq] at HS1 HS2
  rw [hz] at HS3 HS4
  rw [hd] at HS5 HS6
  rw [hp] at HS7 HS8
  have hB0 := hB2
  clear HVX HVY HT HRX HRY HC HX0 HY0 hB hq hp hz hd hB2 HSL
  have hB : Below w2.heap.size w2 w2.drew := (bl w2).dr
  generalize hn0 : w.heap.size = n0 at *
  have HN0 := hide hn0
  clear hn0
  go_wp2_with fail
  go_region_held3 (fun w' => w'.cell? ⟨n0, 0, none⟩ = some (.int .i64 x.kind) ∧ w'.cell? ⟨n0, 1, none⟩ = some (.int .i64 x.op) ∧ w'.cell? ⟨n0, 2, none⟩ = some (.int .i64 x.num) ∧ w'.cell? ⟨n0, 3, none⟩ = some (.string ⟨x.name.toArray⟩) ∧ w'.cell? ⟨n0, 4, none⟩ = some (.slice a x.args.length cap) ∧
  w'.cell? ⟨n0 + 1, 0, none⟩ = some (.int .i64 y.kind) ∧ w'.cell? ⟨n0 + 1, 1, none⟩ = some (.int .i64 y.op) ∧ w'.cell? ⟨n0 + 1, 2, none⟩ = some (.int .i64 y.num) ∧ w'.cell? ⟨n0 + 1, 3, none⟩ = some (.string ⟨y.name.toArray⟩) ∧ w'.cell? ⟨n0 + 1, 4, none⟩ = some (.slice a' y.args.length cap'))
    (first | exact ⟨cell_at (j := 0) ((hB.block _ lx).trans HX.out) rfl, cell_at (j := 1) ((hB.block _ lx).trans HX.out) rfl, cell_at (j := 2) ((hB.block _ lx).trans HX.out) rfl, cell_at (j := 3) ((hB.block _ lx).trans HX.out) rfl, cell_at (j := 4) ((hB.block _ lx).trans HX.out) rfl, cell_at (j := 0) ((hB.block _ ly).trans HY.out) rfl, cell_at (j := 1) ((hB.block _ ly).trans HY.out) rfl, cell_at (j := 2) ((hB.block _ ly).trans HY.out) rfl, cell_at (j := 3) ((hB.block _ ly).trans HY.out) rfl, cell_at (j := 4) ((hB.block _ ly).trans HY.out) rfl⟩ | go_keep)
    (first | (go_at_call 11; (with_reducible refine (HS1.out _ hB).mono ?_); rintro r w3 ⟨rfl, hb⟩; have hB := hB.tr hb; clear hb)
           | (go_at_call 12; (with_reducible refine (HS2.out _ hB).mono ?_); rintro r w3 ⟨rfl, hb⟩; have hB := hB.tr hb; clear hb)
           | (go_at_call 13; (with_reducible refine (HS3.out _ hB).mono ?_); rintro r w3 ⟨rfl, hb⟩; have hB := hB.tr hb; clear hb)
           | (go_at_call 14; (with_reducible refine (HS4.out _ hB).mono ?_); rintro r w3 ⟨rfl, hb⟩; have hB := hB.tr hb; clear hb)
           | (go_at_call 15; (with_reducible refine (HS5.out _ hB).mono ?_); rintro r w3 ⟨rfl, hb⟩; have hB := hB.tr hb; clear hb)
           | (go_at_call 16; (with_reducible refine (HS6.out _ hB).mono ?_); rintro r w3 ⟨rfl, hb⟩; have hB := hB.tr hb; clear hb)
           | (go_at_call 17; (with_reducible refine (HS7.out _ hB).mono ?_); rintro r w3 ⟨rfl, hb⟩; have hB := hB.tr hb; clear hb)
           | (go_at_call 18; (with_reducible refine (HS8.out _ hB).mono ?_); rintro r w3 ⟨rfl, hb⟩; have hB := hB.tr hb; clear hb)
           | (go_at_call 7; (with_reducible refine (HWK.out _ hB).mono ?_); rintro r w3 ⟨rfl, hb⟩; have hB := hB.tr hb; clear hb))
  all_goals
    go_wp2_with fail
    go_ret
    exact ⟨rfl, by rw [HN0.out]; exact hB0.trans (hB.mono (by omega))⟩
end Go.Proofs.YthpmecbekpmijaaDoor
