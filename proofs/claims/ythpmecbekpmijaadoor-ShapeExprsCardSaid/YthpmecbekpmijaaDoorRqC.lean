/- rewindref03.SameExpr and SameStmt answer sameE and sameS. -/
import Derived.Test.YthpmecbekpmijaaDoorLwB
import Derived.Test.YthpmecbekpmijaaDoorRefE
namespace Go.Proofs.YthpmecbekpmijaaDoor
open Go Go.RowKit
set_option linter.unusedSimpArgs false
set_option linter.unusedVariables false
set_option linter.unnecessarySimpa false
theorem size_pos (x : St) : decide ((0 : Int) < sizeR 20 200 [x]) = bodyOk [x] := by
  unfold sizeR bodyOk
  have h1 : cntL [x] = x.cnt := cntL_one x
  have h2 := St.cnt_eq x
  by_cases h : wellM 20 [x] = true ∧ (cntL [x] : Int) ≤ 200
  · rw [if_pos h, h.1, decide_eq_true (show (0 : Int) < (cntL [x] : Nat) by omega), decide_eq_true (show cntL [x] ≤ 200 by omega)]
    rfl
  · rw [if_neg h, decide_eq_false (by omega)]
    symm
    rw [Bool.eq_false_iff]
    intro hh
    simp only [Bool.and_eq_true, decide_eq_true_eq] at hh
    exact h ⟨hh.1, by omega⟩
theorem new_four (w : World) (A B C D : Obj) : ((((w.alloc A).alloc B).alloc C).alloc D).drew.heap[w.heap.size + 1 + 1]? = some C ∧ ((((w.alloc A).alloc B).alloc C).alloc D).drew.heap[w.heap.size + 1 + 1 + 1]? = some D ∧ Below w.heap.size w ((((w.alloc A).alloc B).alloc C).alloc D).drew := by
  refine ⟨?_, ?_, ((((((bl w).al A).al B).al C).al D).dr)⟩
  · show ((((w.alloc A).alloc B).alloc C).alloc D).heap[w.heap.size + 1 + 1]? = some C
    rw [Below.heap_alloc _ _ _ (by simp), show w.heap.size + 1 + 1 = ((w.alloc A).alloc B).heap.size by simp]
    exact heap_alloc_new _ _
  · show ((((w.alloc A).alloc B).alloc C).alloc D).heap[w.heap.size + 1 + 1 + 1]? = some D
    rw [show w.heap.size + 1 + 1 + 1 = (((w.alloc A).alloc B).alloc C).heap.size by simp]
    exact heap_alloc_new _ _
theorem quiet_below {w w' : World} (h : ∃ n, w' = w.drewN n) : Below w.heap.size w w' := by
  obtain ⟨n, rfl⟩ := h
  exact ⟨rfl, rfl, rfl, Nat.le_refl _, fun _ _ => rfl⟩
set_option maxRecDepth 20000 in
set_option maxHeartbeats 8000000 in
theorem refSameStmt_any (x y : St) (v u : Value) (w : World) (hx : St.Val w x v) (hy : St.Val w y u) : Calls Tryd.prog 9 #[v, u] w fun r w' => r = .returned (.bool (sameS x y)) ∧ Below w.heap.size w w' := by
  obtain ⟨pa, pb, pe, ca, cb, ce, rfl, hw, ha, hbo, hel⟩ := hx
  obtain ⟨pa', pb', pe', ca', cb', ce', rfl, hw', ha', hbo', hel'⟩ := hy
  have hX : ∀ (W : World) (g : Nat), Below w.heap.size w W → W.heap[g]? = some (.cells #[.int .i64 x.kind, .int .i64 x.no, .string ⟨x.name.toArray⟩, .int .i64 x.typ, .string ⟨x.callee.toArray⟩, .slice pa x.args.length ca, .slice pb x.body.length cb, .slice pe x.els.length ce] 25 (0, 0)) → St.Row W [x] (some ⟨g, 0, none⟩) := fun W g hW hg => row_one hg hw (ha.keep hW (Nat.le_refl _)) (hbo.keep hW (Nat.le_refl _)) (hel.keep hW (Nat.le_refl _))
  have hY : ∀ (W : World) (g : Nat), Below w.heap.size w W → W.heap[g]? = some (.cells #[.int .i64 y.kind, .int .i64 y.no, .string ⟨y.name.toArray⟩, .int .i64 y.typ, .string ⟨y.callee.toArray⟩, .slice pa' y.args.length ca', .slice pb' y.body.length cb', .slice pe' y.els.length ce'] 25 (0, 0)) → St.Row W [y] (some ⟨g, 0, none⟩) := fun W g hW hg => row_one hg hw' (ha'.keep hW (Nat.le_refl _)) (hbo'.keep hW (Nat.le_refl _)) (hel'.keep hW (Nat.le_refl _))
  have hone : ∀ z : St, [z].length ≤ maxLen := fun z => by unfold maxLen; simp
  have HS1 := hide fun (W : World) (g c : Nat) (h : St.Row W [x] (some ⟨g, 0, none⟩)) => refSize_any [x] (some ⟨g, 0, none⟩) c W h (hone x)
  have HS2 := hide fun (W : World) (g c : Nat) (h : St.Row W [y] (some ⟨g, 0, none⟩)) => refSize_any [y] (some ⟨g, 0, none⟩) c W h (hone y)
  have HE := hide fun (W : World) (g g' c c' : Nat) (h : St.Row W [x] (some ⟨g, 0, none⟩)) (h' : St.Row W [y] (some ⟨g', 0, none⟩)) => refStmts_any [x] [y] (some ⟨g, 0, none⟩) (some ⟨g', 0, none⟩) c c' W (hone x) (hone y) h h'
  have HX := hide hX
  have HY := hide hY
  clear hw ha hbo hel hw' ha' hbo' hel' hX hY hone
  obtain ⟨q1, hq1⟩ : ∃ q, bodyOk [x] = q := ⟨_, rfl⟩
  obtain ⟨q2, hq2⟩ : ∃ q, bodyOk [y] = q := ⟨_, rfl⟩
  obtain ⟨qe, hqe⟩ : ∃ q, eqSs [x] [y] = q := ⟨_, rfl⟩
  have h1 := size_pos x
  have h2 := size_pos y
  obtain ⟨z1, hz1⟩ : ∃ z, sizeR 20 200 [x] = z := ⟨_, rfl⟩
  obtain ⟨z2, hz2⟩ : ∃ z, sizeR 20 200 [y] = z := ⟨_, rfl⟩
  have hR : sameS x y = (q1 && q2 && qe) := by
    unfold sameS
    rw [hq1, hq2, ← hqe]
    simp [eqSs]
  rw [hz1, hq1] at h1
  rw [hz2, hq2] at h2
  rw [hz1] at HS1
  rw [hz2] at HS2
  rw [hqe] at HE
  rw [hR]
  clear hR hq1 hq2 hqe hz1 hz2
  go_enter Tryd.func9, Tryd.ntmps9
  go_wp2_with fail
  go_region
  · have hn := new_four w (.cells #[.int .i64 x.kind, .int .i64 x.no, .string ⟨x.name.toArray⟩, .int .i64 x.typ, .string ⟨x.callee.toArray⟩, .slice pa x.args.length ca, .slice pb x.body.length cb, .slice pe x.els.length ce] 25) (.cells #[.int .i64 y.kind, .int .i64 y.no, .string ⟨y.name.toArray⟩, .int .i64 y.typ, .string ⟨y.callee.toArray⟩, .slice pa' y.args.length ca', .slice pb' y.body.length cb', .slice pe' y.els.length ce'] 25) (.cells #[.int .i64 x.kind, .int .i64 x.no, .string ⟨x.name.toArray⟩, .int .i64 x.typ, .string ⟨x.callee.toArray⟩, .slice pa x.args.length ca, .slice pb x.body.length cb, .slice pe x.els.length ce] 25) (.cells #[.int .i64 y.kind, .int .i64 y.no, .string ⟨y.name.toArray⟩, .int .i64 y.typ, .string ⟨y.callee.toArray⟩, .slice pa' y.args.length ca', .slice pb' y.body.length cb', .slice pe' y.els.length ce'] 25)
    generalize ((((w.alloc (.cells #[.int .i64 x.kind, .int .i64 x.no, .string ⟨x.name.toArray⟩, .int .i64 x.typ, .string ⟨x.callee.toArray⟩, .slice pa x.args.length ca, .slice pb x.body.length cb, .slice pe x.els.length ce] 25)).alloc (.cells #[.int .i64 y.kind, .int .i64 y.no, .string ⟨y.name.toArray⟩, .int .i64 y.typ, .string ⟨y.callee.toArray⟩, .slice pa' y.args.length ca', .slice pb' y.body.length cb', .slice pe' y.els.length ce'] 25)).alloc (.cells #[.int .i64 x.kind, .int .i64 x.no, .string ⟨x.name.toArray⟩, .int .i64 x.typ, .string ⟨x.callee.toArray⟩, .slice pa x.args.length ca, .slice pb x.body.length cb, .slice pe x.els.length ce] 25)).alloc (.cells #[.int .i64 y.kind, .int .i64 y.no, .string ⟨y.name.toArray⟩, .int .i64 y.typ, .string ⟨y.callee.toArray⟩, .slice pa' y.args.length ca', .slice pb' y.body.length cb', .slice pe' y.els.length ce'] 25)).drew = W at *
    obtain ⟨hc, hd, hW⟩ := hn
    have HRX := hide (HX.out _ _ hW hc)
    have HRY := hide (HY.out _ _ hW hd)
    clear hc hd HX HY
    by_cases hz1 : ¬ (0 : Int) < z1
    · rw [decide_eq_false hz1] at h1
      subst h1
      go_wp2_with fail
      refine (HS1.out _ _ _ HRX.out).mono ?_
      rintro r w1 ⟨rfl, hb1⟩
      go_wp2_with fail
      go_ret
      exact ⟨ret_bool (by simp), hW.tr hb1⟩
    have hz1' : (0 : Int) < z1 := Decidable.of_not_not hz1
    rw [decide_eq_true hz1'] at h1
    clear hz1
    subst h1
    by_cases hz2 : ¬ (0 : Int) < z2
    · rw [decide_eq_false hz2] at h2
      subst h2
      go_wp2_with fail
      refine (HS1.out _ _ _ HRX.out).mono ?_
      rintro r w1 ⟨rfl, hb1⟩
      have HRY1 := hide (HRY.out.has (has_below hb1))
      go_wp2_with fail
      refine (HS2.out _ _ _ HRY1.out).mono ?_
      rintro r w2 ⟨rfl, hb2⟩
      go_wp2_with fail
      go_ret
      exact ⟨ret_bool (by simp), (hW.tr hb1).tr hb2⟩
    have hz2' : (0 : Int) < z2 := Decidable.of_not_not hz2
    rw [decide_eq_true hz2'] at h2
    clear hz2
    subst h2
    go_wp2_with fail
    refine (HS1.out _ _ _ HRX.out).mono ?_
    rintro r w1 ⟨rfl, hb1⟩
    have HRY1 := hide (HRY.out.has (has_below hb1))
    go_wp2_with fail
    refine (HS2.out _ _ _ HRY1.out).mono ?_
    rintro r w2 ⟨rfl, hb2⟩
    have HRX2 := hide (HRX.out.has (has_below (hb1.tr hb2)))
    have HRY2 := hide (HRY1.out.has (has_below hb2))
    go_wp2_with fail
    refine (HE.out _ _ _ _ _ HRX2.out HRY2.out).mono ?_
    rintro r w3 ⟨rfl, hq3⟩
    go_wp2_with fail
    go_ret
    exact ⟨ret_bool (by simp), ((hW.tr hb1).tr hb2).tr (quiet_below hq3)⟩
  · have hn := new_four w (.cells #[.int .i64 x.kind, .int .i64 x.no, .string ⟨x.name.toArray⟩, .int .i64 x.typ, .string ⟨x.callee.toArray⟩, .slice pa x.args.length ca, .slice pb x.body.length cb, .slice pe x.els.length ce] 25) (.cells #[.int .i64 y.kind, .int .i64 y.no, .string ⟨y.name.toArray⟩, .int .i64 y.typ, .string ⟨y.callee.toArray⟩, .slice pa' y.args.length ca', .slice pb' y.body.length cb', .slice pe' y.els.length ce'] 25) (.cells #[.int .i64 y.kind, .int .i64 y.no, .string ⟨y.name.toArray⟩, .int .i64 y.typ, .string ⟨y.callee.toArray⟩, .slice pa' y.args.length ca', .slice pb' y.body.length cb', .slice pe' y.els.length ce'] 25) (.cells #[.int .i64 x.kind, .int .i64 x.no, .string ⟨x.name.toArray⟩, .int .i64 x.typ, .string ⟨x.callee.toArray⟩, .slice pa x.args.length ca, .slice pb x.body.length cb, .slice pe x.els.length ce] 25)
    generalize ((((w.alloc (.cells #[.int .i64 x.kind, .int .i64 x.no, .string ⟨x.name.toArray⟩, .int .i64 x.typ, .string ⟨x.callee.toArray⟩, .slice pa x.args.length ca, .slice pb x.body.length cb, .slice pe x.els.length ce] 25)).alloc (.cells #[.int .i64 y.kind, .int .i64 y.no, .string ⟨y.name.toArray⟩, .int .i64 y.typ, .string ⟨y.callee.toArray⟩, .slice pa' y.args.length ca', .slice pb' y.body.length cb', .slice pe' y.els.length ce'] 25)).alloc (.cells #[.int .i64 y.kind, .int .i64 y.no, .string ⟨y.name.toArray⟩, .int .i64 y.typ, .string ⟨y.callee.toArray⟩, .slice pa' y.args.length ca', .slice pb' y.body.length cb', .slice pe' y.els.length ce'] 25)).alloc (.cells #[.int .i64 x.kind, .int .i64 x.no, .string ⟨x.name.toArray⟩, .int .i64 x.typ, .string ⟨x.callee.toArray⟩, .slice pa x.args.length ca, .slice pb x.body.length cb, .slice pe x.els.length ce] 25)).drew = W at *
    obtain ⟨hc, hd, hW⟩ := hn
    have HRX := hide (HX.out _ _ hW hd)
    have HRY := hide (HY.out _ _ hW hc)
    clear hc hd HX HY
    by_cases hz1 : ¬ (0 : Int) < z1
    · rw [decide_eq_false hz1] at h1
      subst h1
      go_wp2_with fail
      refine (HS1.out _ _ _ HRX.out).mono ?_
      rintro r w1 ⟨rfl, hb1⟩
      go_wp2_with fail
      go_ret
      exact ⟨ret_bool (by simp), hW.tr hb1⟩
    have hz1' : (0 : Int) < z1 := Decidable.of_not_not hz1
    rw [decide_eq_true hz1'] at h1
    clear hz1
    subst h1
    by_cases hz2 : ¬ (0 : Int) < z2
    · rw [decide_eq_false hz2] at h2
      subst h2
      go_wp2_with fail
      refine (HS1.out _ _ _ HRX.out).mono ?_
      rintro r w1 ⟨rfl, hb1⟩
      have HRY1 := hide (HRY.out.has (has_below hb1))
      go_wp2_with fail
      refine (HS2.out _ _ _ HRY1.out).mono ?_
      rintro r w2 ⟨rfl, hb2⟩
      go_wp2_with fail
      go_ret
      exact ⟨ret_bool (by simp), (hW.tr hb1).tr hb2⟩
    have hz2' : (0 : Int) < z2 := Decidable.of_not_not hz2
    rw [decide_eq_true hz2'] at h2
    clear hz2
    subst h2
    go_wp2_with fail
    refine (HS1.out _ _ _ HRX.out).mono ?_
    rintro r w1 ⟨rfl, hb1⟩
    have HRY1 := hide (HRY.out.has (has_below hb1))
    go_wp2_with fail
    refine (HS2.out _ _ _ HRY1.out).mono ?_
    rintro r w2 ⟨rfl, hb2⟩
    have HRX2 := hide (HRX.out.has (has_below (hb1.tr hb2)))
    have HRY2 := hide (HRY1.out.has (has_below hb2))
    go_wp2_with fail
    refine (HE.out _ _ _ _ _ HRX2.out HRY2.out).mono ?_
    rintro r w3 ⟨rfl, hq3⟩
    go_wp2_with fail
    go_ret
    exact ⟨ret_bool (by simp), ((hW.tr hb1).tr hb2).tr (quiet_below hq3)⟩
theorem exOk_if (e : Ex) : (if depthM 20 e = 0 then (2 : Int) else 0) = if exOk e then 0 else 2 := by
  unfold exOk
  by_cases h : depthM 20 e = 0
  · simp [h]
  · simp [h]
set_option maxRecDepth 20000 in
set_option maxHeartbeats 8000000 in
theorem refSameExpr_any (x y : Ex) (v u : Value) (w : World) (hx : Ex.Val w x v) (hy : Ex.Val w y u) : Calls Tryd.prog 18 #[v, u] w fun r w' => r = .returned (.bool (sameE x y)) ∧ Below w.heap.size w w' := by
  have hD1 := fun (W : World) (hW : Below w.heap.size w W) => refExpr_any x v W (hx.keep hW (Nat.le_refl _))
  have hD2 := fun (W : World) (hW : Below w.heap.size w W) => refExpr_any y u W (hy.keep hW (Nat.le_refl _))
  have hx0 := hx
  have hy0 := hy
  obtain ⟨a, cap, rfl, hw, hr⟩ := hx
  obtain ⟨a', cap', rfl, hw', hr'⟩ := hy
  have HRX := hide fun (W : World) (hW : Below w.heap.size w W) (n : Nat) (hn : n = W.heap.size) => exs_new (cut5 (exC_val (hx0.keep hW (Nat.le_refl _))) cutN) 30 n hn
  have HRY := hide fun (W : World) (hW : Below w.heap.size w W) (n : Nat) (hn : n = W.heap.size) => exs_new (cut5 (exC_val (hy0.keep hW (Nat.le_refl _))) cutN) 30 n hn
  have hone : ∀ z : Ex, [z].length ≤ maxLen := fun z => by unfold maxLen; simp
  have HE := hide fun (W : World) (g g' c c' : Nat) (h : Ex.Row W [x] (some ⟨g, 0, none⟩)) (h' : Ex.Row W [y] (some ⟨g', 0, none⟩)) => refExprs_any [x] [y] (some ⟨g, 0, none⟩) (some ⟨g', 0, none⟩) c c' W (hone x) (hone y) h h'
  simp only [exOk_if] at hD1 hD2
  obtain ⟨q1, hq1⟩ : ∃ d, exOk x = d := ⟨_, rfl⟩
  obtain ⟨q2, hq2⟩ : ∃ d, exOk y = d := ⟨_, rfl⟩
  obtain ⟨q, hq⟩ : ∃ d, eqEs [x] [y] = d := ⟨_, rfl⟩
  have hR : sameE x y = (q1 && q2 && q) := by
    unfold sameE
    rw [hq1, hq2, ← hq]
    simp [eqEs]
  simp only [hq1] at hD1
  simp only [hq2] at hD2
  rw [hq] at HE
  rw [hR]
  have HD1 := hide hD1
  have HD2 := hide hD2
  have HY0 : Hid (((w.alloc (.cells #[.int .i64 x.kind, .int .i64 x.op, .int .i64 x.num, .string ⟨x.name.toArray⟩, .slice a x.args.length cap] 30)).alloc (.cells #[.int .i64 y.kind, .int .i64 y.op, .int .i64 y.num, .string ⟨y.name.toArray⟩, .slice a' y.args.length cap'] 30)).heap[w.heap.size + 1]? = some (.cells #[.int .i64 y.kind, .int .i64 y.op, .int .i64 y.num, .string ⟨y.name.toArray⟩, .slice a' y.args.length cap'] 30 (0, 0))) := hide (by
    rw [show w.heap.size + 1 = (w.alloc (.cells #[.int .i64 x.kind, .int .i64 x.op, .int .i64 x.num, .string ⟨x.name.toArray⟩, .slice a x.args.length cap] 30)).heap.size by simp]
    exact heap_alloc_new _ _)
  have HX0 : Hid (((w.alloc (.cells #[.int .i64 x.kind, .int .i64 x.op, .int .i64 x.num, .string ⟨x.name.toArray⟩, .slice a x.args.length cap] 30)).alloc (.cells #[.int .i64 y.kind, .int .i64 y.op, .int .i64 y.num, .string ⟨y.name.toArray⟩, .slice a' y.args.length cap'] 30)).heap[w.heap.size]? = some (.cells #[.int .i64 x.kind, .int .i64 x.op, .int .i64 x.num, .string ⟨x.name.toArray⟩, .slice a x.args.length cap] 30 (0, 0))) := hide (by
    rw [Below.heap_alloc _ _ _ (by simp)]
    exact heap_alloc_new _ _)
  clear hD1 hD2 hq1 hq2 hq hR hw hr hw' hr' hx0 hy0 hone
  go_enter Tryd.func18, Tryd.ntmps18
  go_wp2_with fail
  cases q1
  · refine (HD1.out _ (((bl w).al _).al _)).mono ?_
    rintro r w1 ⟨rfl, hb1⟩
    have HX1 := hide ((hb1.block _ (by simp; omega)).trans HX0.out)
    have HY1 := hide ((hb1.block _ (by simp)).trans HY0.out)
    have hB1 := (((bl w).al (.cells #[.int .i64 x.kind, .int .i64 x.op, .int .i64 x.num, .string ⟨x.name.toArray⟩, .slice a x.args.length cap] 30)).al (.cells #[.int .i64 y.kind, .int .i64 y.op, .int .i64 y.num, .string ⟨y.name.toArray⟩, .slice a' y.args.length cap'] 30)).tr hb1
    have hyl : w.heap.size + 1 < w1.heap.size := (Array.getElem?_eq_some_iff.1 HY1.out).1
    have hxl : w.heap.size < w1.heap.size := by omega
    have x0 := cell_at (j := 0) HX1.out rfl
    have x1 := cell_at (j := 1) HX1.out rfl
    have x2 := cell_at (j := 2) HX1.out rfl
    have x3 := cell_at (j := 3) HX1.out rfl
    have x4 := cell_at (j := 4) HX1.out rfl
    have y0 := cell_at (j := 0) HY1.out rfl
    have y1 := cell_at (j := 1) HY1.out rfl
    have y2 := cell_at (j := 2) HY1.out rfl
    have y3 := cell_at (j := 3) HY1.out rfl
    have y4 := cell_at (j := 4) HY1.out rfl
    clear hb1
    go_wp2_with fail
    go_ret
    exact ⟨ret_bool (by simp), hB1⟩
  refine (HD1.out _ (((bl w).al _).al _)).mono ?_
  rintro r w1 ⟨rfl, hb1⟩
  have HX1 := hide ((hb1.block _ (by simp; omega)).trans HX0.out)
  have HY1 := hide ((hb1.block _ (by simp)).trans HY0.out)
  have hB1 := (((bl w).al (.cells #[.int .i64 x.kind, .int .i64 x.op, .int .i64 x.num, .string ⟨x.name.toArray⟩, .slice a x.args.length cap] 30)).al (.cells #[.int .i64 y.kind, .int .i64 y.op, .int .i64 y.num, .string ⟨y.name.toArray⟩, .slice a' y.args.length cap'] 30)).tr hb1
  have hyl : w.heap.size + 1 < w1.heap.size := (Array.getElem?_eq_some_iff.1 HY1.out).1
  have hxl : w.heap.size < w1.heap.size := by omega
  have x0 := cell_at (j := 0) HX1.out rfl
  have x1 := cell_at (j := 1) HX1.out rfl
  have x2 := cell_at (j := 2) HX1.out rfl
  have x3 := cell_at (j := 3) HX1.out rfl
  have x4 := cell_at (j := 4) HX1.out rfl
  have y0 := cell_at (j := 0) HY1.out rfl
  have y1 := cell_at (j := 1) HY1.out rfl
  have y2 := cell_at (j := 2) HY1.out rfl
  have y3 := cell_at (j := 3) HY1.out rfl
  have y4 := cell_at (j := 4) HY1.out rfl
  clear hb1
  cases q2
  · go_wp2_with fail
    (with_reducible refine (HD2.out _ hB1).mono ?_)
    rintro r w2 ⟨rfl, hb2⟩
    have hB2 := hB1.tr hb2
    have HX1 := hide ((hb2.block _ hxl).trans HX1.out)
    have HY1 := hide ((hb2.block _ hyl).trans HY1.out)
    clear x0 x1 x2 x3 x4 y0 y1 y2 y3 y4
    have x0 := cell_at (j := 0) HX1.out rfl
    have x1 := cell_at (j := 1) HX1.out rfl
    have x2 := cell_at (j := 2) HX1.out rfl
    have x3 := cell_at (j := 3) HX1.out rfl
    have x4 := cell_at (j := 4) HX1.out rfl
    have y0 := cell_at (j := 0) HY1.out rfl
    have y1 := cell_at (j := 1) HY1.out rfl
    have y2 := cell_at (j := 2) HY1.out rfl
    have y3 := cell_at (j := 3) HY1.out rfl
    have y4 := cell_at (j := 4) HY1.out rfl
    have hyl := Nat.lt_of_lt_of_le hyl hb2.size
    have hxl := Nat.lt_of_lt_of_le hxl hb2.size
    clear hb2
    go_wp2_with fail
    go_ret
    exact ⟨ret_bool (by simp), hB2⟩
  go_wp2_with fail
  (with_reducible refine (HD2.out _ hB1).mono ?_)
  rintro r w2 ⟨rfl, hb2⟩
  have hB2 := hB1.tr hb2
  have HX1 := hide ((hb2.block _ hxl).trans HX1.out)
  have HY1 := hide ((hb2.block _ hyl).trans HY1.out)
  clear x0 x1 x2 x3 x4 y0 y1 y2 y3 y4
  have x0 := cell_at (j := 0) HX1.out rfl
  have x1 := cell_at (j := 1) HX1.out rfl
  have x2 := cell_at (j := 2) HX1.out rfl
  have x3 := cell_at (j := 3) HX1.out rfl
  have x4 := cell_at (j := 4) HX1.out rfl
  have y0 := cell_at (j := 0) HY1.out rfl
  have y1 := cell_at (j := 1) HY1.out rfl
  have y2 := cell_at (j := 2) HY1.out rfl
  have y3 := cell_at (j := 3) HY1.out rfl
  have y4 := cell_at (j := 4) HY1.out rfl
  have hyl := Nat.lt_of_lt_of_le hyl hb2.size
  have hxl := Nat.lt_of_lt_of_le hxl hb2.size
  clear hb2
  have hBA := hB2.al (.cells #[.int .i64 x.kind, .int .i64 x.op, .int .i64 x.num, .string ⟨x.name.toArray⟩, .slice a x.args.length cap] 30)
  have HA := hide ((HRX.out w2 hB2 w2.heap.size rfl).has (has_below ((bl (w2.alloc (.cells #[.int .i64 x.kind, .int .i64 x.op, .int .i64 x.num, .string ⟨x.name.toArray⟩, .slice a x.args.length cap] 30))).al (.cells #[.int .i64 y.kind, .int .i64 y.op, .int .i64 y.num, .string ⟨y.name.toArray⟩, .slice a' y.args.length cap'] 30))))
  have HB := hide (HRY.out (w2.alloc (.cells #[.int .i64 x.kind, .int .i64 x.op, .int .i64 x.num, .string ⟨x.name.toArray⟩, .slice a x.args.length cap] 30)) hBA (w2.heap.size + 1) (by simp))
  go_wp2_with fail
  refine (HE.out _ _ _ _ _ HA.out HB.out).mono ?_
  rintro r w3 ⟨rfl, hq3⟩
  go_wp2_with fail
  go_ret
  exact ⟨ret_bool (by simp), (hBA.al _).tr (quiet_below hq3)⟩
end Go.Proofs.YthpmecbekpmijaaDoor
