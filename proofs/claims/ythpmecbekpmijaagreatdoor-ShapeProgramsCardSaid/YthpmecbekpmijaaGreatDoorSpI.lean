/- shape.stmts, SameExpr and SameStmt answer whether expressions and statements are equal. -/
import Derived.Test.YthpmecbekpmijaaGreatDoorSpH
namespace Go.Proofs.YthpmecbekpmijaaGreatDoor
open Go Go.RowKit
set_option linter.unusedSimpArgs false
set_option linter.unusedVariables false
set_option linter.unnecessarySimpa false
set_option maxRecDepth 20000 in
set_option maxHeartbeats 8000000 in
theorem stmts1_any : ∀ (N : Nat) (x y : St) (v u : Value) (w : World), SizeOf.sizeOf x < N → St.Val w x v → St.Val w y u → Calls Tryz.prog 33 #[v, u] w fun r w' => r = .returned (.bool (eqS x y)) ∧ Below w.heap.size w w' := by
  intro N
  induction N with
  | zero => intro x y v u w h; exact absurd h (Nat.not_lt_zero _)
  | succ N ih =>
    intro x y v u w hN hx hy
    obtain ⟨pa, pb, pe, ca, cb, ce, rfl, hw, ha, hbo, hel⟩ := hx
    obtain ⟨pa', pb', pe', ca', cb', ce', rfl, hw', ha', hbo', hel'⟩ := hy
    have hA := fun (W : World) (hW : Below w.heap.size w W) => equalFunc_exs x.args y.args eqE pa pa' ca ca' 31 #[] (fun _ _ => by kernel_rfl) W (Nat.le_trans hw.la hw.ca) (Nat.le_trans hw'.la hw'.ca) (ha.keep hW (Nat.le_refl _)) (ha'.keep hW (Nat.le_refl _))
      (fun i h h' v u W' hW' hv hu => by
        have := exprs_any x.args[i] y.args[i] v u W' hv hu
        exact this)
    have hB := fun (W : World) (hW : Below w.heap.size w W) => equalFunc_sts x.body y.body eqS pb pb' cb cb' 33 #[] (fun _ _ => by kernel_rfl) W (Nat.le_trans hw.lb hw.cb) (Nat.le_trans hw'.lb hw'.cb) (hbo.keep hW (Nat.le_refl _)) (hbo'.keep hW (Nat.le_refl _))
      (fun i h h' v u W' hW' hv hu => by
        have := ih x.body[i] y.body[i] v u W' (by have := St.sz_body h; omega) hv hu
        exact this)
    have hE := fun (W : World) (hW : Below w.heap.size w W) => equalFunc_sts x.els y.els eqS pe pe' ce ce' 33 #[] (fun _ _ => by kernel_rfl) W (Nat.le_trans hw.le hw.ce) (Nat.le_trans hw'.le hw'.ce) (hel.keep hW (Nat.le_refl _)) (hel'.keep hW (Nat.le_refl _))
      (fun i h h' v u W' hW' hv hu => by
        have := ih x.els[i] y.els[i] v u W' (by have := St.sz_els h; omega) hv hu
        exact this)
    simp only [← eqL_es] at hA
    simp only [← eqL_ss] at hB hE
    obtain ⟨R, hR⟩ : ∃ R, eqS x y = R := ⟨_, rfl⟩
    rw [hR]
    rw [eqS_eq] at hR
    obtain ⟨qa, hqa⟩ : ∃ q, eqEs x.args y.args = q := ⟨_, rfl⟩
    obtain ⟨qb, hqb⟩ : ∃ q, eqSs x.body y.body = q := ⟨_, rfl⟩
    obtain ⟨qe, hqe⟩ : ∃ q, eqSs x.els y.els = q := ⟨_, rfl⟩
    simp only [hqa] at hA
    simp only [hqb] at hB
    simp only [hqe] at hE
    rw [hqa, hqb, hqe] at hR
    have HA := hide hA
    have HB := hide hB
    have HE := hide hE
    have HY0 : Hid (((w.alloc (.cells #[.int .i64 x.kind, .int .i64 x.no, .string ⟨x.name.toArray⟩, .int .i64 x.typ, .string ⟨x.callee.toArray⟩, .slice pa x.args.length ca, .slice pb x.body.length cb, .slice pe x.els.length ce] 34)).alloc (.cells #[.int .i64 y.kind, .int .i64 y.no, .string ⟨y.name.toArray⟩, .int .i64 y.typ, .string ⟨y.callee.toArray⟩, .slice pa' y.args.length ca', .slice pb' y.body.length cb', .slice pe' y.els.length ce'] 34)).heap[w.heap.size + 1]? = some (.cells #[.int .i64 y.kind, .int .i64 y.no, .string ⟨y.name.toArray⟩, .int .i64 y.typ, .string ⟨y.callee.toArray⟩, .slice pa' y.args.length ca', .slice pb' y.body.length cb', .slice pe' y.els.length ce'] 34 (0, 0))) := hide (by
      rw [show w.heap.size + 1 = (w.alloc (.cells #[.int .i64 x.kind, .int .i64 x.no, .string ⟨x.name.toArray⟩, .int .i64 x.typ, .string ⟨x.callee.toArray⟩, .slice pa x.args.length ca, .slice pb x.body.length cb, .slice pe x.els.length ce] 34)).heap.size by simp]
      exact heap_alloc_new _ _)
    have HX0 : Hid (((w.alloc (.cells #[.int .i64 x.kind, .int .i64 x.no, .string ⟨x.name.toArray⟩, .int .i64 x.typ, .string ⟨x.callee.toArray⟩, .slice pa x.args.length ca, .slice pb x.body.length cb, .slice pe x.els.length ce] 34)).alloc (.cells #[.int .i64 y.kind, .int .i64 y.no, .string ⟨y.name.toArray⟩, .int .i64 y.typ, .string ⟨y.callee.toArray⟩, .slice pa' y.args.length ca', .slice pb' y.body.length cb', .slice pe' y.els.length ce'] 34)).heap[w.heap.size]? = some (.cells #[.int .i64 x.kind, .int .i64 x.no, .string ⟨x.name.toArray⟩, .int .i64 x.typ, .string ⟨x.callee.toArray⟩, .slice pa x.args.length ca, .slice pb x.body.length cb, .slice pe x.els.length ce] 34 (0, 0))) := hide (by
      rw [Below.heap_alloc _ _ _ (by simp)]
      exact heap_alloc_new _ _)
    clear hA hB hE hqa hqb hqe hw ha hbo hel hw' ha' hbo' hel' ih hN
    cases h1 : x.kind == y.kind
    · have HR := hide hR
      clear hR
      rw [h1] at HR
      go_enter Tryz.func33, Tryz.ntmps33
      go_wp2_with fail
      go_ret
      exact ⟨ret_bool (by have := HR.out; simpa using this), ((bl w).al _).al _⟩
    rw [h1] at hR
    cases h2 : x.name == y.name
    · have HR := hide hR
      clear hR
      rw [h2] at HR
      go_enter Tryz.func33, Tryz.ntmps33
      go_wp2_with fail
      go_ret
      exact ⟨ret_bool (by have := HR.out; simpa using this), ((bl w).al _).al _⟩
    rw [h2] at hR
    cases h3 : x.typ == y.typ
    · have HR := hide hR
      clear hR
      rw [h3] at HR
      go_enter Tryz.func33, Tryz.ntmps33
      go_wp2_with fail
      go_ret
      exact ⟨ret_bool (by have := HR.out; simpa using this), ((bl w).al _).al _⟩
    rw [h3] at hR
    cases h4 : x.callee == y.callee
    · have HR := hide hR
      clear hR
      rw [h4] at HR
      go_enter Tryz.func33, Tryz.ntmps33
      go_wp2_with fail
      go_ret
      exact ⟨ret_bool (by have := HR.out; simpa using this), ((bl w).al _).al _⟩
    rw [h4] at hR
    have HR := hide hR
    clear hR
    cases qa
    · go_enter Tryz.func33, Tryz.ntmps33
      go_wp2_with fail
      refine (same_exs_any _ _ _ (HA.out _ (((bl w).al _).al _)) _ _ _ rfl).mono ?_
      rintro r w1 ⟨rfl, hb1⟩
      have HX1 := hide ((hb1.block _ (by simp; omega)).trans HX0.out)
      have HY1 := hide ((hb1.block _ (by simp)).trans HY0.out)
      have hB1 := (((bl w).al (.cells #[.int .i64 x.kind, .int .i64 x.no, .string ⟨x.name.toArray⟩, .int .i64 x.typ, .string ⟨x.callee.toArray⟩, .slice pa x.args.length ca, .slice pb x.body.length cb, .slice pe x.els.length ce] 34)).al (.cells #[.int .i64 y.kind, .int .i64 y.no, .string ⟨y.name.toArray⟩, .int .i64 y.typ, .string ⟨y.callee.toArray⟩, .slice pa' y.args.length ca', .slice pb' y.body.length cb', .slice pe' y.els.length ce'] 34)).tr hb1
      have x6 := cell_at (j := 6) HX1.out rfl
      have y6 := cell_at (j := 6) HY1.out rfl
      have x7 := cell_at (j := 7) HX1.out rfl
      have y7 := cell_at (j := 7) HY1.out rfl
      have hyl : w.heap.size + 1 < w1.heap.size := (Array.getElem?_eq_some_iff.1 HY1.out).1
      have hxl : w.heap.size < w1.heap.size := by omega
      clear hb1
      go_wp2_with fail
      go_ret
      exact ⟨ret_bool (by have := HR.out; simpa using this), hB1⟩
    cases qb
    · go_enter Tryz.func33, Tryz.ntmps33
      go_wp2_with fail
      refine (same_exs_any _ _ _ (HA.out _ (((bl w).al _).al _)) _ _ _ rfl).mono ?_
      rintro r w1 ⟨rfl, hb1⟩
      have HX1 := hide ((hb1.block _ (by simp; omega)).trans HX0.out)
      have HY1 := hide ((hb1.block _ (by simp)).trans HY0.out)
      have hB1 := (((bl w).al (.cells #[.int .i64 x.kind, .int .i64 x.no, .string ⟨x.name.toArray⟩, .int .i64 x.typ, .string ⟨x.callee.toArray⟩, .slice pa x.args.length ca, .slice pb x.body.length cb, .slice pe x.els.length ce] 34)).al (.cells #[.int .i64 y.kind, .int .i64 y.no, .string ⟨y.name.toArray⟩, .int .i64 y.typ, .string ⟨y.callee.toArray⟩, .slice pa' y.args.length ca', .slice pb' y.body.length cb', .slice pe' y.els.length ce'] 34)).tr hb1
      have x6 := cell_at (j := 6) HX1.out rfl
      have y6 := cell_at (j := 6) HY1.out rfl
      have x7 := cell_at (j := 7) HX1.out rfl
      have y7 := cell_at (j := 7) HY1.out rfl
      have hyl : w.heap.size + 1 < w1.heap.size := (Array.getElem?_eq_some_iff.1 HY1.out).1
      have hxl : w.heap.size < w1.heap.size := by omega
      clear hb1
      go_wp2_with fail
      refine (same_sts_any _ _ _ (HB.out _ hB1) _ _ _ rfl).mono ?_
      rintro r w2 ⟨rfl, hb2⟩
      replace x7 := cell_keep x7 hb2 (Nat.le_refl _)
      replace y7 := cell_keep y7 hb2 (Nat.le_refl _)
      have hyl := Nat.lt_of_lt_of_le hyl hb2.size
      have hxl := Nat.lt_of_lt_of_le hxl hb2.size
      have hB2 := hB1.tr hb2
      clear hb2 x6 y6
      go_wp2_with fail
      go_ret
      exact ⟨ret_bool (by have := HR.out; simpa using this), hB2⟩
    go_enter Tryz.func33, Tryz.ntmps33
    go_wp2_with fail
    refine (same_exs_any _ _ _ (HA.out _ (((bl w).al _).al _)) _ _ _ rfl).mono ?_
    rintro r w1 ⟨rfl, hb1⟩
    have HX1 := hide ((hb1.block _ (by simp; omega)).trans HX0.out)
    have HY1 := hide ((hb1.block _ (by simp)).trans HY0.out)
    have hB1 := (((bl w).al (.cells #[.int .i64 x.kind, .int .i64 x.no, .string ⟨x.name.toArray⟩, .int .i64 x.typ, .string ⟨x.callee.toArray⟩, .slice pa x.args.length ca, .slice pb x.body.length cb, .slice pe x.els.length ce] 34)).al (.cells #[.int .i64 y.kind, .int .i64 y.no, .string ⟨y.name.toArray⟩, .int .i64 y.typ, .string ⟨y.callee.toArray⟩, .slice pa' y.args.length ca', .slice pb' y.body.length cb', .slice pe' y.els.length ce'] 34)).tr hb1
    have x6 := cell_at (j := 6) HX1.out rfl
    have y6 := cell_at (j := 6) HY1.out rfl
    have x7 := cell_at (j := 7) HX1.out rfl
    have y7 := cell_at (j := 7) HY1.out rfl
    have hyl : w.heap.size + 1 < w1.heap.size := (Array.getElem?_eq_some_iff.1 HY1.out).1
    have hxl : w.heap.size < w1.heap.size := by omega
    clear hb1
    go_wp2_with fail
    refine (same_sts_any _ _ _ (HB.out _ hB1) _ _ _ rfl).mono ?_
    rintro r w2 ⟨rfl, hb2⟩
    replace x7 := cell_keep x7 hb2 (Nat.le_refl _)
    replace y7 := cell_keep y7 hb2 (Nat.le_refl _)
    have hyl := Nat.lt_of_lt_of_le hyl hb2.size
    have hxl := Nat.lt_of_lt_of_le hxl hb2.size
    have hB2 := hB1.tr hb2
    clear hb2 x6 y6
    go_wp2_with fail
    refine (same_sts_any _ _ _ (HE.out _ hB2) _ _ _ rfl).mono ?_
    rintro r w3 ⟨rfl, hb3⟩
    go_wp2_with fail
    go_ret
    exact ⟨ret_bool (by have := HR.out; simpa using this), hB2.tr hb3⟩
theorem stmts_any (x y : St) (v u : Value) (w : World) (hx : St.Val w x v) (hy : St.Val w y u) : Calls Tryz.prog 33 #[v, u] w fun r w' => r = .returned (.bool (eqS x y)) ∧ Below w.heap.size w w' := stmts1_any _ x y v u w (Nat.lt_succ_self _) hx hy
/-- Two expressions have the right shape, and are equal. -/
def sameE (x y : Ex) : Bool := exOk x && exOk y && eqE x y
theorem exOk_pos {e : Ex} {d : Nat} (h : depthM 20 e = d) : exOk e = decide ((0 : Int) < (d : Int)) := by
  unfold exOk
  rw [h]
  cases d with
  | zero => rfl
  | succ d =>
    have : (0 : Int) < ((d + 1 : Nat) : Int) := by omega
    rw [decide_eq_true this]
    rfl
set_option maxRecDepth 20000 in
set_option maxHeartbeats 8000000 in
theorem sameExpr_any (x y : Ex) (v u : Value) (w : World) (hx : Ex.Val w x v) (hy : Ex.Val w y u) (hT : Tab w) : Calls Tryz.prog 11 #[v, u] w fun r w' => r = .returned (.bool (sameE x y)) ∧ Below w.heap.size w w' := by
  have hD1 := fun (W : World) (hW : Below w.heap.size w W) => depth_any x v W (hx.keep hW (Nat.le_refl _)) (hT.below hW)
  have hD2 := fun (W : World) (hW : Below w.heap.size w W) => depth_any y u W (hy.keep hW (Nat.le_refl _)) (hT.below hW)
  have hE := fun (W : World) (hW : Below w.heap.size w W) => exprs_any x y v u W (hx.keep hW (Nat.le_refl _)) (hy.keep hW (Nat.le_refl _))
  obtain ⟨a, cap, rfl, hw, hr⟩ := hx
  obtain ⟨a', cap', rfl, hw', hr'⟩ := hy
  obtain ⟨R, hR⟩ : ∃ R, sameE x y = R := ⟨_, rfl⟩
  rw [hR]
  unfold sameE at hR
  obtain ⟨d1, hd1⟩ : ∃ d, depthM 20 x = d := ⟨_, rfl⟩
  obtain ⟨d2, hd2⟩ : ∃ d, depthM 20 y = d := ⟨_, rfl⟩
  obtain ⟨q, hq⟩ : ∃ d, eqE x y = d := ⟨_, rfl⟩
  rw [exOk_pos hd1, exOk_pos hd2, hq] at hR
  simp only [hd1] at hD1
  simp only [hd2] at hD2
  simp only [hq] at hE
  have HD1 := hide hD1
  have HD2 := hide hD2
  have HE := hide hE
  have HR := hide hR
  have HY0 : Hid (((w.alloc (.cells #[.int .i64 x.kind, .int .i64 x.op, .int .i64 x.num, .string ⟨x.name.toArray⟩, .slice a x.args.length cap] 27)).alloc (.cells #[.int .i64 y.kind, .int .i64 y.op, .int .i64 y.num, .string ⟨y.name.toArray⟩, .slice a' y.args.length cap'] 27)).heap[w.heap.size + 1]? = some (.cells #[.int .i64 y.kind, .int .i64 y.op, .int .i64 y.num, .string ⟨y.name.toArray⟩, .slice a' y.args.length cap'] 27 (0, 0))) := hide (by
    rw [show w.heap.size + 1 = (w.alloc (.cells #[.int .i64 x.kind, .int .i64 x.op, .int .i64 x.num, .string ⟨x.name.toArray⟩, .slice a x.args.length cap] 27)).heap.size by simp]
    exact heap_alloc_new _ _)
  have HX0 : Hid (((w.alloc (.cells #[.int .i64 x.kind, .int .i64 x.op, .int .i64 x.num, .string ⟨x.name.toArray⟩, .slice a x.args.length cap] 27)).alloc (.cells #[.int .i64 y.kind, .int .i64 y.op, .int .i64 y.num, .string ⟨y.name.toArray⟩, .slice a' y.args.length cap'] 27)).heap[w.heap.size]? = some (.cells #[.int .i64 x.kind, .int .i64 x.op, .int .i64 x.num, .string ⟨x.name.toArray⟩, .slice a x.args.length cap] 27 (0, 0))) := hide (by
    rw [Below.heap_alloc _ _ _ (by simp)]
    exact heap_alloc_new _ _)
  clear hD1 hD2 hE hR hd1 hd2 hq hw hr hw' hr' hT
  by_cases h1 : ¬ (0 : Int) < (d1 : Int)
  · go_enter Tryz.func11, Tryz.ntmps11
    go_wp2_with fail
    refine (HD1.out _ (((bl w).al _).al _)).mono ?_
    rintro r w1 ⟨rfl, hb1⟩
    have HX1 := hide ((hb1.block _ (by simp; omega)).trans HX0.out)
    have HY1 := hide ((hb1.block _ (by simp)).trans HY0.out)
    have hB1 := (((bl w).al (.cells #[.int .i64 x.kind, .int .i64 x.op, .int .i64 x.num, .string ⟨x.name.toArray⟩, .slice a x.args.length cap] 27)).al (.cells #[.int .i64 y.kind, .int .i64 y.op, .int .i64 y.num, .string ⟨y.name.toArray⟩, .slice a' y.args.length cap'] 27)).tr hb1
    have hyl : w.heap.size + 1 < w1.heap.size := (Array.getElem?_eq_some_iff.1 HY1.out).1
    have hxl : w.heap.size < w1.heap.size := by omega
    have x0 := cell_at (j := 0) HX1.out rfl
    have x1 := cell_at (j := 1) HX1.out rfl
    have x2 := cell_at (j := 2) HX1.out rfl
    have x3 := cell_at (j := 3) HX1.out rfl
    have x4 := cell_at (j := 4) HX1.out rfl
    have y0 := cell_at (j := 0) HY1.out rfl
    have y1 := cell_at (j := 1) HY1.out rfl
    have y2 := cell_at (j := 2) HY1.out rfl
    have y3 := cell_at (j := 3) HY1.out rfl
    have y4 := cell_at (j := 4) HY1.out rfl
    clear hb1
    go_wp2_with fail
    go_ret
    exact ⟨ret_bool (by have := HR.out; rw [decide_eq_false (show ¬ (0 : Int) < (d1 : Int) by omega)] at this; simpa using this), hB1⟩
  have h1' : (0 : Int) < (d1 : Int) := by omega
  clear h1
  by_cases h2 : ¬ (0 : Int) < (d2 : Int)
  · go_enter Tryz.func11, Tryz.ntmps11
    go_wp2_with fail
    refine (HD1.out _ (((bl w).al _).al _)).mono ?_
    rintro r w1 ⟨rfl, hb1⟩
    have HX1 := hide ((hb1.block _ (by simp; omega)).trans HX0.out)
    have HY1 := hide ((hb1.block _ (by simp)).trans HY0.out)
    have hB1 := (((bl w).al (.cells #[.int .i64 x.kind, .int .i64 x.op, .int .i64 x.num, .string ⟨x.name.toArray⟩, .slice a x.args.length cap] 27)).al (.cells #[.int .i64 y.kind, .int .i64 y.op, .int .i64 y.num, .string ⟨y.name.toArray⟩, .slice a' y.args.length cap'] 27)).tr hb1
    have hyl : w.heap.size + 1 < w1.heap.size := (Array.getElem?_eq_some_iff.1 HY1.out).1
    have hxl : w.heap.size < w1.heap.size := by omega
    have x0 := cell_at (j := 0) HX1.out rfl
    have x1 := cell_at (j := 1) HX1.out rfl
    have x2 := cell_at (j := 2) HX1.out rfl
    have x3 := cell_at (j := 3) HX1.out rfl
    have x4 := cell_at (j := 4) HX1.out rfl
    have y0 := cell_at (j := 0) HY1.out rfl
    have y1 := cell_at (j := 1) HY1.out rfl
    have y2 := cell_at (j := 2) HY1.out rfl
    have y3 := cell_at (j := 3) HY1.out rfl
    have y4 := cell_at (j := 4) HY1.out rfl
    clear hb1
    go_wp2_with fail
    (with_reducible refine (HD2.out _ hB1).mono ?_)
    rintro r w2 ⟨rfl, hb2⟩
    have hB2 := hB1.tr hb2
    replace x0 := cell_keep x0 hb2 (Nat.le_refl _)
    replace x1 := cell_keep x1 hb2 (Nat.le_refl _)
    replace x2 := cell_keep x2 hb2 (Nat.le_refl _)
    replace x3 := cell_keep x3 hb2 (Nat.le_refl _)
    replace x4 := cell_keep x4 hb2 (Nat.le_refl _)
    replace y0 := cell_keep y0 hb2 (Nat.le_refl _)
    replace y1 := cell_keep y1 hb2 (Nat.le_refl _)
    replace y2 := cell_keep y2 hb2 (Nat.le_refl _)
    replace y3 := cell_keep y3 hb2 (Nat.le_refl _)
    replace y4 := cell_keep y4 hb2 (Nat.le_refl _)
    have hyl := Nat.lt_of_lt_of_le hyl hb2.size
    have hxl := Nat.lt_of_lt_of_le hxl hb2.size
    clear hb2
    go_wp2_with fail
    go_ret
    exact ⟨ret_bool (by have := HR.out; rw [decide_eq_true h1', decide_eq_false (show ¬ (0 : Int) < (d2 : Int) by omega)] at this; simpa using this), hB2⟩
  have h2' : (0 : Int) < (d2 : Int) := by omega
  clear h2
  go_enter Tryz.func11, Tryz.ntmps11
  go_wp2_with fail
  refine (HD1.out _ (((bl w).al _).al _)).mono ?_
  rintro r w1 ⟨rfl, hb1⟩
  have HX1 := hide ((hb1.block _ (by simp; omega)).trans HX0.out)
  have HY1 := hide ((hb1.block _ (by simp)).trans HY0.out)
  have hB1 := (((bl w).al (.cells #[.int .i64 x.kind, .int .i64 x.op, .int .i64 x.num, .string ⟨x.name.toArray⟩, .slice a x.args.length cap] 27)).al (.cells #[.int .i64 y.kind, .int .i64 y.op, .int .i64 y.num, .string ⟨y.name.toArray⟩, .slice a' y.args.length cap'] 27)).tr hb1
  have hyl : w.heap.size + 1 < w1.heap.size := (Array.getElem?_eq_some_iff.1 HY1.out).1
  have hxl : w.heap.size < w1.heap.size := by omega
  have x0 := cell_at (j := 0) HX1.out rfl
  have x1 := cell_at (j := 1) HX1.out rfl
  have x2 := cell_at (j := 2) HX1.out rfl
  have x3 := cell_at (j := 3) HX1.out rfl
  have x4 := cell_at (j := 4) HX1.out rfl
  have y0 := cell_at (j := 0) HY1.out rfl
  have y1 := cell_at (j := 1) HY1.out rfl
  have y2 := cell_at (j := 2) HY1.out rfl
  have y3 := cell_at (j := 3) HY1.out rfl
  have y4 := cell_at (j := 4) HY1.out rfl
  clear hb1
  go_wp2_with fail
  (with_reducible refine (HD2.out _ hB1).mono ?_)
  rintro r w2 ⟨rfl, hb2⟩
  have hB2 := hB1.tr hb2
  replace x0 := cell_keep x0 hb2 (Nat.le_refl _)
  replace x1 := cell_keep x1 hb2 (Nat.le_refl _)
  replace x2 := cell_keep x2 hb2 (Nat.le_refl _)
  replace x3 := cell_keep x3 hb2 (Nat.le_refl _)
  replace x4 := cell_keep x4 hb2 (Nat.le_refl _)
  replace y0 := cell_keep y0 hb2 (Nat.le_refl _)
  replace y1 := cell_keep y1 hb2 (Nat.le_refl _)
  replace y2 := cell_keep y2 hb2 (Nat.le_refl _)
  replace y3 := cell_keep y3 hb2 (Nat.le_refl _)
  replace y4 := cell_keep y4 hb2 (Nat.le_refl _)
  have hyl := Nat.lt_of_lt_of_le hyl hb2.size
  have hxl := Nat.lt_of_lt_of_le hxl hb2.size
  clear hb2
  go_wp2_with fail
  (with_reducible refine (HE.out _ hB2).mono ?_)
  rintro r w3 ⟨rfl, hb3⟩
  go_wp2_with fail
  go_ret
  exact ⟨ret_bool (by have := HR.out; rw [decide_eq_true h1', decide_eq_true h2'] at this; simpa using this), hB2.tr hb3⟩
/-- Two statements have the right shape, apart from their numbers, and are equal. -/
def sameS (x y : St) : Bool := bodyOk [x] && bodyOk [y] && eqS x y
theorem row_one {w : World} {s : St} {g : Nat} {pa pb pe : Option Addr} {ca cb ce : Nat} {t : TypeId} (h : w.heap[g]? = some (.cells #[.int .i64 s.kind, .int .i64 s.no, .string ⟨s.name.toArray⟩, .int .i64 s.typ, .string ⟨s.callee.toArray⟩, .slice pa s.args.length ca, .slice pb s.body.length cb, .slice pe s.els.length ce] t (0, 0)))
    (hw : StWf s.kind s.no s.name s.typ s.callee s.args.length ca s.body.length cb s.els.length ce) (ha : Ex.Row w s.args pa) (hb : St.Row w s.body pb) (he : St.Row w s.els pe) : St.Row w [s] (some ⟨g, 0, none⟩) := by
  simp only [St.Row]
  exact ⟨g, 0, rfl, St.At.of ⟨cell_at h rfl, cell_at h rfl, cell_at h rfl, cell_at h rfl, cell_at h rfl, cell_at h rfl, cell_at h rfl, cell_at h rfl⟩ hw ha hb he, trivial⟩
set_option maxRecDepth 20000 in
set_option maxHeartbeats 8000000 in
theorem sameStmt_any (x y : St) (v u : Value) (w : World) (hx : St.Val w x v) (hy : St.Val w y u) (hT : Tab w) : Calls Tryz.prog 13 #[v, u] w fun r w' => r = .returned (.bool (sameS x y)) ∧ Below w.heap.size w w' := by
  have hE := fun (W : World) (hW : Below w.heap.size w W) => stmts_any x y v u W (hx.keep hW (Nat.le_refl _)) (hy.keep hW (Nat.le_refl _))
  obtain ⟨pa, pb, pe, ca, cb, ce, rfl, hw, ha, hbo, hel⟩ := hx
  obtain ⟨pa', pb', pe', ca', cb', ce', rfl, hw', ha', hbo', hel'⟩ := hy
  have hS1 := fun (W : World) (g c : Nat) (hW : Below w.heap.size w W) (hg : W.heap[g]? = some (.cells #[.int .i64 x.kind, .int .i64 x.no, .string ⟨x.name.toArray⟩, .int .i64 x.typ, .string ⟨x.callee.toArray⟩, .slice pa x.args.length ca, .slice pb x.body.length cb, .slice pe x.els.length ce] 34 (0, 0))) => size_any [x] (some ⟨g, 0, none⟩) c W (row_one hg hw (ha.keep hW (Nat.le_refl _)) (hbo.keep hW (Nat.le_refl _)) (hel.keep hW (Nat.le_refl _))) (by simp [maxLen]) (hT.below hW)
  have hS2 := fun (W : World) (g c : Nat) (hW : Below w.heap.size w W) (hg : W.heap[g]? = some (.cells #[.int .i64 y.kind, .int .i64 y.no, .string ⟨y.name.toArray⟩, .int .i64 y.typ, .string ⟨y.callee.toArray⟩, .slice pa' y.args.length ca', .slice pb' y.body.length cb', .slice pe' y.els.length ce'] 34 (0, 0))) => size_any [y] (some ⟨g, 0, none⟩) c W (row_one hg hw' (ha'.keep hW (Nat.le_refl _)) (hbo'.keep hW (Nat.le_refl _)) (hel'.keep hW (Nat.le_refl _))) (by simp [maxLen]) (hT.below hW)
  obtain ⟨R, hR⟩ : ∃ R, sameS x y = R := ⟨_, rfl⟩
  rw [hR]
  unfold sameS at hR
  obtain ⟨q1, hq1⟩ : ∃ d, bodyOk [x] = d := ⟨_, rfl⟩
  obtain ⟨q2, hq2⟩ : ∃ d, bodyOk [y] = d := ⟨_, rfl⟩
  obtain ⟨q, hq⟩ : ∃ d, eqS x y = d := ⟨_, rfl⟩
  rw [hq1, hq2, hq] at hR
  simp only [hq1] at hS1
  simp only [hq2] at hS2
  simp only [hq] at hE
  have HS1 := hide hS1
  have HS2 := hide hS2
  have HE := hide hE
  have HR := hide hR
  have HY0 : Hid (((w.alloc (.cells #[.int .i64 x.kind, .int .i64 x.no, .string ⟨x.name.toArray⟩, .int .i64 x.typ, .string ⟨x.callee.toArray⟩, .slice pa x.args.length ca, .slice pb x.body.length cb, .slice pe x.els.length ce] 34)).alloc (.cells #[.int .i64 y.kind, .int .i64 y.no, .string ⟨y.name.toArray⟩, .int .i64 y.typ, .string ⟨y.callee.toArray⟩, .slice pa' y.args.length ca', .slice pb' y.body.length cb', .slice pe' y.els.length ce'] 34)).heap[w.heap.size + 1]? = some (.cells #[.int .i64 y.kind, .int .i64 y.no, .string ⟨y.name.toArray⟩, .int .i64 y.typ, .string ⟨y.callee.toArray⟩, .slice pa' y.args.length ca', .slice pb' y.body.length cb', .slice pe' y.els.length ce'] 34 (0, 0))) := hide (by
    rw [show w.heap.size + 1 = (w.alloc (.cells #[.int .i64 x.kind, .int .i64 x.no, .string ⟨x.name.toArray⟩, .int .i64 x.typ, .string ⟨x.callee.toArray⟩, .slice pa x.args.length ca, .slice pb x.body.length cb, .slice pe x.els.length ce] 34)).heap.size by simp]
    exact heap_alloc_new _ _)
  have HX0 : Hid (((w.alloc (.cells #[.int .i64 x.kind, .int .i64 x.no, .string ⟨x.name.toArray⟩, .int .i64 x.typ, .string ⟨x.callee.toArray⟩, .slice pa x.args.length ca, .slice pb x.body.length cb, .slice pe x.els.length ce] 34)).alloc (.cells #[.int .i64 y.kind, .int .i64 y.no, .string ⟨y.name.toArray⟩, .int .i64 y.typ, .string ⟨y.callee.toArray⟩, .slice pa' y.args.length ca', .slice pb' y.body.length cb', .slice pe' y.els.length ce'] 34)).heap[w.heap.size]? = some (.cells #[.int .i64 x.kind, .int .i64 x.no, .string ⟨x.name.toArray⟩, .int .i64 x.typ, .string ⟨x.callee.toArray⟩, .slice pa x.args.length ca, .slice pb x.body.length cb, .slice pe x.els.length ce] 34 (0, 0))) := hide (by
    rw [Below.heap_alloc _ _ _ (by simp)]
    exact heap_alloc_new _ _)
  have HZ0 : Hid ((((w.alloc (.cells #[.int .i64 x.kind, .int .i64 x.no, .string ⟨x.name.toArray⟩, .int .i64 x.typ, .string ⟨x.callee.toArray⟩, .slice pa x.args.length ca, .slice pb x.body.length cb, .slice pe x.els.length ce] 34)).alloc (.cells #[.int .i64 y.kind, .int .i64 y.no, .string ⟨y.name.toArray⟩, .int .i64 y.typ, .string ⟨y.callee.toArray⟩, .slice pa' y.args.length ca', .slice pb' y.body.length cb', .slice pe' y.els.length ce'] 34)).alloc (.cells #[.int .i64 x.kind, .int .i64 x.no, .string ⟨x.name.toArray⟩, .int .i64 x.typ, .string ⟨x.callee.toArray⟩, .slice pa x.args.length ca, .slice pb x.body.length cb, .slice pe x.els.length ce] 34)).heap[w.heap.size + 1 + 1]? = some (.cells #[.int .i64 x.kind, .int .i64 x.no, .string ⟨x.name.toArray⟩, .int .i64 x.typ, .string ⟨x.callee.toArray⟩, .slice pa x.args.length ca, .slice pb x.body.length cb, .slice pe x.els.length ce] 34 (0, 0))) := hide (by
    rw [show w.heap.size + 1 + 1 = ((w.alloc (.cells #[.int .i64 x.kind, .int .i64 x.no, .string ⟨x.name.toArray⟩, .int .i64 x.typ, .string ⟨x.callee.toArray⟩, .slice pa x.args.length ca, .slice pb x.body.length cb, .slice pe x.els.length ce] 34)).alloc (.cells #[.int .i64 y.kind, .int .i64 y.no, .string ⟨y.name.toArray⟩, .int .i64 y.typ, .string ⟨y.callee.toArray⟩, .slice pa' y.args.length ca', .slice pb' y.body.length cb', .slice pe' y.els.length ce'] 34)).heap.size by simp]
    exact heap_alloc_new _ _)
  clear hS1 hS2 hE hR hq1 hq2 hq hw ha hbo hel hw' ha' hbo' hel' hT
  go_enter Tryz.func13, Tryz.ntmps13
  go_wp2_with fail
  refine (HS1.out _ _ _ ((((bl w).al _).al _).al _) HZ0.out).mono ?_
  rintro r w1 ⟨⟨c1, hc1, rfl, -⟩, hb1⟩
  have HX1 := hide ((hb1.block _ (by simp; omega)).trans ((Below.heap_alloc _ _ _ (by simp; omega)).trans HX0.out))
  have HY1 := hide ((hb1.block _ (by simp)).trans ((Below.heap_alloc _ _ _ (by simp)).trans HY0.out))
  have hB1 := ((((bl w).al (.cells #[.int .i64 x.kind, .int .i64 x.no, .string ⟨x.name.toArray⟩, .int .i64 x.typ, .string ⟨x.callee.toArray⟩, .slice pa x.args.length ca, .slice pb x.body.length cb, .slice pe x.els.length ce] 34)).al (.cells #[.int .i64 y.kind, .int .i64 y.no, .string ⟨y.name.toArray⟩, .int .i64 y.typ, .string ⟨y.callee.toArray⟩, .slice pa' y.args.length ca', .slice pb' y.body.length cb', .slice pe' y.els.length ce'] 34)).al (.cells #[.int .i64 x.kind, .int .i64 x.no, .string ⟨x.name.toArray⟩, .int .i64 x.typ, .string ⟨x.callee.toArray⟩, .slice pa x.args.length ca, .slice pb x.body.length cb, .slice pe x.els.length ce] 34)).tr hb1
  have hyl : w.heap.size + 1 < w1.heap.size := (Array.getElem?_eq_some_iff.1 HY1.out).1
  have hxl : w.heap.size < w1.heap.size := by omega
  have x0 := cell_at (j := 0) HX1.out rfl
  have x1 := cell_at (j := 1) HX1.out rfl
  have x2 := cell_at (j := 2) HX1.out rfl
  have x3 := cell_at (j := 3) HX1.out rfl
  have x4 := cell_at (j := 4) HX1.out rfl
  have x5 := cell_at (j := 5) HX1.out rfl
  have x6 := cell_at (j := 6) HX1.out rfl
  have x7 := cell_at (j := 7) HX1.out rfl
  have y0 := cell_at (j := 0) HY1.out rfl
  have y1 := cell_at (j := 1) HY1.out rfl
  have y2 := cell_at (j := 2) HY1.out rfl
  have y3 := cell_at (j := 3) HY1.out rfl
  have y4 := cell_at (j := 4) HY1.out rfl
  have y5 := cell_at (j := 5) HY1.out rfl
  have y6 := cell_at (j := 6) HY1.out rfl
  have y7 := cell_at (j := 7) HY1.out rfl
  clear hb1
  have HZ1 := hide (heap_alloc_new w1 (.cells #[.int .i64 y.kind, .int .i64 y.no, .string ⟨y.name.toArray⟩, .int .i64 y.typ, .string ⟨y.callee.toArray⟩, .slice pa' y.args.length ca', .slice pb' y.body.length cb', .slice pe' y.els.length ce'] 34))
  go_wp2_with fail
  refine (HS2.out _ _ _ (hB1.al _) HZ1.out).mono ?_
  rintro r w2 ⟨⟨c2, hc2, rfl, -⟩, hb2⟩
  have hb2' := ((bl w1).al (.cells #[.int .i64 y.kind, .int .i64 y.no, .string ⟨y.name.toArray⟩, .int .i64 y.typ, .string ⟨y.callee.toArray⟩, .slice pa' y.args.length ca', .slice pb' y.body.length cb', .slice pe' y.els.length ce'] 34)).tr hb2
  have hB2 := hB1.tr hb2'
  have HX2 := hide ((hb2'.block _ hxl).trans HX1.out)
  have HY2 := hide ((hb2'.block _ hyl).trans HY1.out)
  clear x0 x1 x2 x3 x4 x5 x6 x7 y0 y1 y2 y3 y4 y5 y6 y7
  have x0 := cell_at (j := 0) HX2.out rfl
  have x1 := cell_at (j := 1) HX2.out rfl
  have x2 := cell_at (j := 2) HX2.out rfl
  have x3 := cell_at (j := 3) HX2.out rfl
  have x4 := cell_at (j := 4) HX2.out rfl
  have x5 := cell_at (j := 5) HX2.out rfl
  have x6 := cell_at (j := 6) HX2.out rfl
  have x7 := cell_at (j := 7) HX2.out rfl
  have y0 := cell_at (j := 0) HY2.out rfl
  have y1 := cell_at (j := 1) HY2.out rfl
  have y2 := cell_at (j := 2) HY2.out rfl
  have y3 := cell_at (j := 3) HY2.out rfl
  have y4 := cell_at (j := 4) HY2.out rfl
  have y5 := cell_at (j := 5) HY2.out rfl
  have y6 := cell_at (j := 6) HY2.out rfl
  have y7 := cell_at (j := 7) HY2.out rfl
  have hyl := Nat.lt_of_lt_of_le hyl hb2'.size
  have hxl := Nat.lt_of_lt_of_le hxl hb2'.size
  clear hb2 hb2'
  cases q1
  · go_wp2_with fail
    go_ret
    exact ⟨ret_bool (by have := HR.out; simpa using this), hB2⟩
  cases q2
  · go_wp2_with fail
    go_ret
    exact ⟨ret_bool (by have := HR.out; simpa using this), hB2⟩
  go_wp2_with fail
  (with_reducible refine (HE.out _ hB2).mono ?_)
  rintro r w3 ⟨rfl, hb3⟩
  go_wp2_with fail
  go_ret
  exact ⟨ret_bool (by have := HR.out; simpa using this), hB2.tr hb3⟩
end Go.Proofs.YthpmecbekpmijaaGreatDoor
