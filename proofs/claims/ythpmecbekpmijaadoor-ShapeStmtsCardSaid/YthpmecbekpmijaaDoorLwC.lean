/- ShapeStmts returns true for every two statements, where the table of blanks is laid. -/
import Derived.Test.YthpmecbekpmijaaDoorRqC
import Derived.Deep.RegionHeld3
namespace Go.Proofs.YthpmecbekpmijaaDoor
open Go Go.RowKit
set_option linter.unusedSimpArgs false
set_option linter.unusedVariables false
set_option linter.unnecessarySimpa false
set_option maxRecDepth 20000 in
set_option maxHeartbeats 8000000 in
theorem ShapeStmts_any (x y : St) (v u : Value) (w : World) (hx : St.Val w x v) (hy : St.Val w y u) (hT : Tab w) : Calls Tryd.prog 3 #[v, u] w fun r w' => r = .returned (.bool true) ∧ Below w.heap.size w w' := by
  have HVX := hide hx
  have HVY := hide hy
  have HT := hide hT
  obtain ⟨pa, pb, pe, ca, cb, ce, rfl, hw, ha, hbo, hel⟩ := hx
  obtain ⟨pa', pb', pe', ca', cb', ce', rfl, hw', ha', hbo', hel'⟩ := hy
  have HRX := hide fun (W : World) (hW : Below w.heap.size w W) (n : Nat) (hn : n = W.heap.size) => sts_new (w := W) (l := [x]) (cut8 (a := x) ⟨pa, pb, pe, ca, cb, ce, rfl, hw, ha.keep hW (Nat.le_refl _), hbo.keep hW (Nat.le_refl _), hel.keep hW (Nat.le_refl _)⟩ cutN) 25 n hn
  have HRY := hide fun (W : World) (hW : Below w.heap.size w W) (n : Nat) (hn : n = W.heap.size) => sts_new (w := W) (l := [y]) (cut8 (a := y) ⟨pa', pb', pe', ca', cb', ce', rfl, hw', ha'.keep hW (Nat.le_refl _), hbo'.keep hW (Nat.le_refl _), hel'.keep hW (Nat.le_refl _)⟩ cutN) 25 n hn
  have hone : ∀ z : St, [z].length ≤ maxLen := fun z => by unfold maxLen; simp
  have HC := hide fun (z : St) (W : World) (g c : Nat) (m : Int) (h : St.Row W [z] (some ⟨g, 0, none⟩)) => stmts_law _ [z] (some ⟨g, 0, none⟩) c m W (Nat.lt_succ_self _) (hone z) h
  have HY0 : Hid (((w.alloc (.cells #[.int .i64 x.kind, .int .i64 x.no, .string ⟨x.name.toArray⟩, .int .i64 x.typ, .string ⟨x.callee.toArray⟩, .slice pa x.args.length ca, .slice pb x.body.length cb, .slice pe x.els.length ce] 25)).alloc (.cells #[.int .i64 y.kind, .int .i64 y.no, .string ⟨y.name.toArray⟩, .int .i64 y.typ, .string ⟨y.callee.toArray⟩, .slice pa' y.args.length ca', .slice pb' y.body.length cb', .slice pe' y.els.length ce'] 25)).heap[w.heap.size + 1]? = some (.cells #[.int .i64 y.kind, .int .i64 y.no, .string ⟨y.name.toArray⟩, .int .i64 y.typ, .string ⟨y.callee.toArray⟩, .slice pa' y.args.length ca', .slice pb' y.body.length cb', .slice pe' y.els.length ce'] 25 (0, 0))) := hide (by
    rw [show w.heap.size + 1 = (w.alloc (.cells #[.int .i64 x.kind, .int .i64 x.no, .string ⟨x.name.toArray⟩, .int .i64 x.typ, .string ⟨x.callee.toArray⟩, .slice pa x.args.length ca, .slice pb x.body.length cb, .slice pe x.els.length ce] 25)).heap.size by simp]
    exact heap_alloc_new _ _)
  have HX0 : Hid (((w.alloc (.cells #[.int .i64 x.kind, .int .i64 x.no, .string ⟨x.name.toArray⟩, .int .i64 x.typ, .string ⟨x.callee.toArray⟩, .slice pa x.args.length ca, .slice pb x.body.length cb, .slice pe x.els.length ce] 25)).alloc (.cells #[.int .i64 y.kind, .int .i64 y.no, .string ⟨y.name.toArray⟩, .int .i64 y.typ, .string ⟨y.callee.toArray⟩, .slice pa' y.args.length ca', .slice pb' y.body.length cb', .slice pe' y.els.length ce'] 25)).heap[w.heap.size]? = some (.cells #[.int .i64 x.kind, .int .i64 x.no, .string ⟨x.name.toArray⟩, .int .i64 x.typ, .string ⟨x.callee.toArray⟩, .slice pa x.args.length ca, .slice pb x.body.length cb, .slice pe x.els.length ce] 25 (0, 0))) := hide (by
    rw [Below.heap_alloc _ _ _ (by simp)]
    exact heap_alloc_new _ _)
  clear hw ha hbo hel hw' ha' hbo' hel' hone hT
  go_enter Tryd.func3, Tryd.ntmps3
  go_wp2_with fail
  refine (HC.out x _ _ _ _ (HRX.out _ (((bl w).al _).al _) _ (by simp))).mono ?_
  rintro r w1 ⟨⟨c1, rfl⟩, hb1⟩
  have hB := ((((bl w).al (.cells #[.int .i64 x.kind, .int .i64 x.no, .string ⟨x.name.toArray⟩, .int .i64 x.typ, .string ⟨x.callee.toArray⟩, .slice pa x.args.length ca, .slice pb x.body.length cb, .slice pe x.els.length ce] 25)).al (.cells #[.int .i64 y.kind, .int .i64 y.no, .string ⟨y.name.toArray⟩, .int .i64 y.typ, .string ⟨y.callee.toArray⟩, .slice pa' y.args.length ca', .slice pb' y.body.length cb', .slice pe' y.els.length ce'] 25)).al (.cells #[.int .i64 x.kind, .int .i64 x.no, .string ⟨x.name.toArray⟩, .int .i64 x.typ, .string ⟨x.callee.toArray⟩, .slice pa x.args.length ca, .slice pb x.body.length cb, .slice pe x.els.length ce] 25)).tr hb1
  have HX := hide ((hb1.block _ (by simp; omega)).trans ((Below.heap_alloc _ _ _ (by simp; omega)).trans HX0.out))
  have HY := hide ((hb1.block _ (by simp)).trans ((Below.heap_alloc _ _ _ (by simp)).trans HY0.out))
  have ly : w.heap.size + 1 < w1.heap.size := (Array.getElem?_eq_some_iff.1 HY.out).1
  have lx : w.heap.size < w1.heap.size := by omega
  clear hb1
  by_cases hc : (500 : Int) < c1
  · go_wp2_with fail
    refine (works_any _ (HT.out.below hB)).mono ?_
    rintro r w2 ⟨rfl, hb2⟩
    go_wp2_with fail
    go_ret
    exact ⟨rfl, hB.tr hb2⟩
  have y0 := cell_at (j := 0) HY.out rfl
  have y1 := cell_at (j := 1) HY.out rfl
  have y2 := cell_at (j := 2) HY.out rfl
  have y3 := cell_at (j := 3) HY.out rfl
  have y4 := cell_at (j := 4) HY.out rfl
  have y5 := cell_at (j := 5) HY.out rfl
  have y6 := cell_at (j := 6) HY.out rfl
  have y7 := cell_at (j := 7) HY.out rfl
  have HRY1 := hide (HRY.out w1 hB w1.heap.size rfl)
  go_wp2_with fail
  refine (HC.out y _ _ _ _ HRY1.out).mono ?_
  rintro r w2 ⟨⟨c2, rfl⟩, hb2⟩
  have hB2 := (hB.al (.cells #[.int .i64 y.kind, .int .i64 y.no, .string ⟨y.name.toArray⟩, .int .i64 y.typ, .string ⟨y.callee.toArray⟩, .slice pa' y.args.length ca', .slice pb' y.body.length cb', .slice pe' y.els.length ce'] 25)).tr hb2
  have hb12 := ((bl w1).al (.cells #[.int .i64 y.kind, .int .i64 y.no, .string ⟨y.name.toArray⟩, .int .i64 y.typ, .string ⟨y.callee.toArray⟩, .slice pa' y.args.length ca', .slice pb' y.body.length cb', .slice pe' y.els.length ce'] 25)).tr hb2
  have HX := hide ((hb12.block _ lx).trans HX.out)
  have HY := hide ((hb12.block _ ly).trans HY.out)
  have lx := Nat.lt_of_lt_of_le lx hb12.size
  have ly := Nat.lt_of_lt_of_le ly hb12.size
  clear y0 y1 y2 y3 y4 y5 y6 y7 hb2 hb12 HRY1
  by_cases hc2 : (500 : Int) < c2
  · go_wp2_with fail
    refine (works_any _ (HT.out.below hB2)).mono ?_
    rintro r w3 ⟨rfl, hb3⟩
    go_wp2_with fail
    go_ret
    exact ⟨rfl, hB2.tr hb3⟩
  obtain ⟨q, hq⟩ : ∃ q, sameS x y = q := ⟨_, rfl⟩
  obtain ⟨p, hp⟩ : ∃ q, sameS x x = q := ⟨_, rfl⟩
  have HS1 := hide fun (W : World) (hW : Below w2.heap.size w2 W) => sameStmt_any x y _ _ W (HVX.out.keep (hB2.tr hW) (Nat.le_refl _)) (HVY.out.keep (hB2.tr hW) (Nat.le_refl _)) (HT.out.below (hB2.tr hW))
  have HS2 := hide fun (W : World) (hW : Below w2.heap.size w2 W) => refSameStmt_any x y _ _ W (HVX.out.keep (hB2.tr hW) (Nat.le_refl _)) (HVY.out.keep (hB2.tr hW) (Nat.le_refl _))
  have HS3 := hide fun (W : World) (hW : Below w2.heap.size w2 W) => sameStmt_any x x _ _ W (HVX.out.keep (hB2.tr hW) (Nat.le_refl _)) (HVX.out.keep (hB2.tr hW) (Nat.le_refl _)) (HT.out.below (hB2.tr hW))
  have HS4 := hide fun (W : World) (hW : Below w2.heap.size w2 W) => refSameStmt_any x x _ _ W (HVX.out.keep (hB2.tr hW) (Nat.le_refl _)) (HVX.out.keep (hB2.tr hW) (Nat.le_refl _))
  have HWK := hide fun (W : World) (hW : Below w2.heap.size w2 W) => works_any W (HT.out.below (hB2.tr hW))
  rw [hq] at HS1 HS2
  rw [hp] at HS3 HS4
  have hB0 := hB2
  clear HVX HVY HT HRX HRY HC HX0 HY0 hB hq hp hB2
  have hB : Below w2.heap.size w2 w2.drew := (bl w2).dr
  generalize hn0 : w.heap.size = n0 at *
  have HN0 := hide hn0
  clear hn0
  go_wp2_with fail
  go_region_held3 (fun w' => w'.cell? ⟨n0, 0, none⟩ = some (.int .i64 x.kind) ∧ w'.cell? ⟨n0, 1, none⟩ = some (.int .i64 x.no) ∧ w'.cell? ⟨n0, 2, none⟩ = some (.string ⟨x.name.toArray⟩) ∧ w'.cell? ⟨n0, 3, none⟩ = some (.int .i64 x.typ) ∧ w'.cell? ⟨n0, 4, none⟩ = some (.string ⟨x.callee.toArray⟩) ∧ w'.cell? ⟨n0, 5, none⟩ = some (.slice pa x.args.length ca) ∧ w'.cell? ⟨n0, 6, none⟩ = some (.slice pb x.body.length cb) ∧ w'.cell? ⟨n0, 7, none⟩ = some (.slice pe x.els.length ce) ∧
  w'.cell? ⟨n0 + 1, 0, none⟩ = some (.int .i64 y.kind) ∧ w'.cell? ⟨n0 + 1, 1, none⟩ = some (.int .i64 y.no) ∧ w'.cell? ⟨n0 + 1, 2, none⟩ = some (.string ⟨y.name.toArray⟩) ∧ w'.cell? ⟨n0 + 1, 3, none⟩ = some (.int .i64 y.typ) ∧ w'.cell? ⟨n0 + 1, 4, none⟩ = some (.string ⟨y.callee.toArray⟩) ∧ w'.cell? ⟨n0 + 1, 5, none⟩ = some (.slice pa' y.args.length ca') ∧ w'.cell? ⟨n0 + 1, 6, none⟩ = some (.slice pb' y.body.length cb') ∧ w'.cell? ⟨n0 + 1, 7, none⟩ = some (.slice pe' y.els.length ce'))
    (first | exact ⟨cell_at (j := 0) ((hB.block _ lx).trans HX.out) rfl, cell_at (j := 1) ((hB.block _ lx).trans HX.out) rfl, cell_at (j := 2) ((hB.block _ lx).trans HX.out) rfl, cell_at (j := 3) ((hB.block _ lx).trans HX.out) rfl, cell_at (j := 4) ((hB.block _ lx).trans HX.out) rfl, cell_at (j := 5) ((hB.block _ lx).trans HX.out) rfl, cell_at (j := 6) ((hB.block _ lx).trans HX.out) rfl, cell_at (j := 7) ((hB.block _ lx).trans HX.out) rfl, cell_at (j := 0) ((hB.block _ ly).trans HY.out) rfl, cell_at (j := 1) ((hB.block _ ly).trans HY.out) rfl, cell_at (j := 2) ((hB.block _ ly).trans HY.out) rfl, cell_at (j := 3) ((hB.block _ ly).trans HY.out) rfl, cell_at (j := 4) ((hB.block _ ly).trans HY.out) rfl, cell_at (j := 5) ((hB.block _ ly).trans HY.out) rfl, cell_at (j := 6) ((hB.block _ ly).trans HY.out) rfl, cell_at (j := 7) ((hB.block _ ly).trans HY.out) rfl⟩ | go_keep)
    (first | (go_at_call 8; (with_reducible refine (HS1.out _ hB).mono ?_); rintro r w3 ⟨rfl, hb⟩; have hB := hB.tr hb; clear hb)
           | (go_at_call 8; (with_reducible refine (HS3.out _ hB).mono ?_); rintro r w3 ⟨rfl, hb⟩; have hB := hB.tr hb; clear hb)
           | (go_at_call 9; (with_reducible refine (HS2.out _ hB).mono ?_); rintro r w3 ⟨rfl, hb⟩; have hB := hB.tr hb; clear hb)
           | (go_at_call 9; (with_reducible refine (HS4.out _ hB).mono ?_); rintro r w3 ⟨rfl, hb⟩; have hB := hB.tr hb; clear hb)
           | (go_at_call 7; (with_reducible refine (HWK.out _ hB).mono ?_); rintro r w3 ⟨rfl, hb⟩; have hB := hB.tr hb; clear hb))
  all_goals
    go_wp2_with fail
    go_ret
    exact ⟨rfl, by rw [HN0.out]; exact hB0.trans (hB.mono (by omega))⟩
end Go.Proofs.YthpmecbekpmijaaDoor
