/- shape.head answers headM for every statement. -/
import Derived.Test.YtccgpmncpemmdaaDoorSpA
namespace Go.Proofs.YtccgpmncpemmdaaDoor
open Go Go.RowKit
set_option linter.unusedSimpArgs false
set_option linter.unusedVariables false
set_option linter.unnecessarySimpa false
set_option maxHeartbeats 1000000 in
theorem head1_any (e : Ex) (v : Value) (w : World) (hv : Ex.Val w e v) (hT : Tab w) : Calls Tryd.prog 79 #[v] w fun r w' => r = .returned (.bool (depthM 20 e == 0)) ∧ Below w.heap.size w w' := by
  have h1 := fun (W : World) (hb : Below w.heap.size w W) => depth_any e v W (hv.keep hb (Nat.le_refl _)) (hT.below hb)
  obtain ⟨a, cap, rfl, hw, hr⟩ := hv
  clear hw hr hT
  generalize depthM 20 e = D at *
  have H1 := hide h1
  clear h1
  by_cases hd : D = 0
  · subst hd
    go_enter Tryd.func79, Tryd.ntmps79
    go_wp2_with fail
    refine (H1.out _ ((bl w).al _)).mono ?_
    rintro r w1 ⟨rfl, hb⟩
    go_wp2_with fail
    go_ret
    exact ⟨rfl, ((bl w).al _).tr hb⟩
  · have hd2 : ((D : Int) == 0) = false := by rw [beq_eq_false_iff_ne]; omega
    have HD : Hid ((D == 0) = false) := hide (by rw [beq_eq_false_iff_ne]; exact hd)
    clear hd
    go_enter Tryd.func79, Tryd.ntmps79
    go_wp2_with fail
    refine (H1.out _ ((bl w).al _)).mono ?_
    rintro r w1 ⟨rfl, hb⟩
    go_wp2_with fail
    go_ret
    exact ⟨ret_bool HD.out.symm, ((bl w).al _).tr hb⟩
theorem rowOf_none {k : Int} (h : ¬ (1 ≤ k ∧ k ≤ 10)) : rowOf k = none := by
  unfold rowOf
  repeat rw [if_neg (by omega)]
theorem rowOf_some {n : Nat} (h : 1 ≤ n ∧ n ≤ 10) : ∃ x, rowOf (n : Int) = some x := by
  have hc : n = 1 ∨ n = 2 ∨ n = 3 ∨ n = 4 ∨ n = 5 ∨ n = 6 ∨ n = 7 ∨ n = 8 ∨ n = 9 ∨ n = 10 := by omega
  rcases hc with rfl | rfl | rfl | rfl | rfl | rfl | rfl | rfl | rfl | rfl
  all_goals exact ⟨_, rfl⟩
set_option maxRecDepth 100000 in
set_option maxHeartbeats 40000000 in
theorem head_any (s : St) (v : Value) (w : World) (hv : St.Val w s v) (hT : Tab w) : Calls Tryd.prog 65 #[v] w fun r w' => r = .returned (.bool (headM s)) ∧ Below w.heap.size w w' := by
  obtain ⟨pa, pb, pe, ca, cb, ce, rfl, hw, ha, hb, he⟩ := hv
  clear hb he
  by_cases hk : 1 ≤ s.kind ∧ s.kind ≤ 10
  · obtain ⟨n, hn⟩ := Int.eq_ofNat_of_zero_le (show 0 ≤ s.kind by omega)
    obtain ⟨x, hx⟩ := rowOf_some (n := n) (by omega)
    have hxh : headM s = (fldM x s.name s.typ s.callee s.args.length s.body.length s.els.length && s.args.all exOk) := by unfold headM; rw [hn, hx]
    rw [hn] at hk ⊢
    have hk1 : ((n : Nat) : Int) < 11 := by omega
    have hk2 : ((1 : Int)) ≤ (n : Int) := by omega
    have hl1 : s.args.length ≤ 9223372036854775807 := Nat.le_trans hw.la hw.ca
    have hl2 : s.body.length ≤ 9223372036854775807 := Nat.le_trans hw.lb hw.cb
    have hl3 : s.els.length ≤ 9223372036854775807 := Nat.le_trans hw.le hw.ce
    have hN1 := fun W (hW : Below w.heap.size w W) => named_any s.name x.name x.maybe W (hT.below hW) hw.s
    have hN2 := fun W (hW : Below w.heap.size w W) => named_any s.callee x.callee false W (hT.below hW) hw.c
    have hTY := fun W => typed_any s.typ W
    have hCF := fun W (hW : Below w.heap.size w W) => containsFunc_exs s.args (fun e => depthM 20 e == 0) pa ca 79 #[] (fun _ _ => by kernel_rfl) W (Nat.le_trans hw.la hw.ca) (ha.keep hW (Nat.le_refl _)) (fun i hi v W' hW' hv => by
      have := head1_any s.args[i] v W' hv (hT.below (hW.tr hW'))
      exact this) _ rfl
    have hall : s.args.all exOk = !(s.args.any fun e => depthM 20 e == 0) := by
      rw [List.all_eq_not_any_not]
      congr 1
      congr 1
      funext e
      unfold exOk
      cases depthM 20 e <;> rfl
    rw [hall] at hxh
    obtain ⟨q1, hq1⟩ : ∃ q, namedM s.name x.name x.maybe = q := ⟨_, rfl⟩
    obtain ⟨q2, hq2⟩ : ∃ q, namedM s.callee x.callee false = q := ⟨_, rfl⟩
    obtain ⟨q3, hq3⟩ : ∃ q, typedM s.typ = q := ⟨_, rfl⟩
    obtain ⟨q4, hq4⟩ : ∃ q, (s.args.any fun e => depthM 20 e == 0) = q := ⟨_, rfl⟩
    obtain ⟨R, hR⟩ : ∃ R, headM s = R := ⟨_, rfl⟩
    simp only [hq1, hq2, hq3, hq4] at hN1 hN2 hTY hCF
    rw [hR] at hxh ⊢
    unfold fldM at hxh
    rw [hq1, hq2, hq3, hq4] at hxh
    have HN1 := hide hN1
    have HN2 := hide hN2
    have HTY := hide hTY
    have HCF := hide hCF
    have HX := hide hxh
    have HXR := hide hx
    clear hN1 hN2 hTY hCF hxh hx hall hq1 hq2 hq3 hq4 hR hw ha hT hn
    go_enter Tryd.func65, Tryd.ntmps65
    go_wp2_with fail
    refine (rows_any _).mono ?_
    rintro r w1 ⟨rfl, hrow, hb1⟩
    have hbw1 := ((bl w).al _).tr hb1
    have hra := hrow n x HXR.out
    rw [show (w.alloc (.cells #[.int .i64 (n : Int), .int .i64 s.no, .string ⟨s.name.toArray⟩, .int .i64 s.typ, .string ⟨s.callee.toArray⟩, .slice pa s.args.length ca, .slice pb s.body.length cb, .slice pe s.els.length ce] 62)).heap.size = w.heap.size + 1 by simp] at hra
    obtain ⟨r0, r1, r2, r3, r4, r5, r6, r7⟩ := hra
    have d1 : w1.cell? ⟨w.heap.size, 2, none⟩ = some (.string ⟨s.name.toArray⟩) := by rw [hb1.cell (by simp)]; go_simp
    have d4 : w1.cell? ⟨w.heap.size, 4, none⟩ = some (.string ⟨s.callee.toArray⟩) := by rw [hb1.cell (by simp)]; go_simp
    have d3 : w1.cell? ⟨w.heap.size, 3, none⟩ = some (.int .i64 s.typ) := by rw [hb1.cell (by simp)]; go_simp
    have d5 : w1.cell? ⟨w.heap.size, 5, none⟩ = some (.slice pa s.args.length ca) := by rw [hb1.cell (by simp)]; go_simp
    have d6 : w1.cell? ⟨w.heap.size, 6, none⟩ = some (.slice pb s.body.length cb) := by rw [hb1.cell (by simp)]; go_simp
    have d7 : w1.cell? ⟨w.heap.size, 7, none⟩ = some (.slice pe s.els.length ce) := by rw [hb1.cell (by simp)]; go_simp
    have d0 : w1.cell? ⟨w.heap.size, 0, none⟩ = some (.int .i64 (n : Int)) := by rw [hb1.cell (by simp)]; go_simp
    have hbx : w.heap.size + 1 < w1.heap.size := cell_lt r0
    have hby : w.heap.size < w1.heap.size := Nat.lt_of_succ_lt hbx
    clear hrow hb1
    obtain ⟨nm, mb, ty, cl, bo, ot, ls, ms⟩ := x
    simp only at r0 r1 r2 r3 r4 r5 r6 r7 HX HN1 HN2
    have HY := hide (heap_alloc_new w1 (.cells #[.bool nm, .bool mb, .bool ty, .bool cl, .bool bo, .bool ot, .int .i64 (ls : Nat), .int .i64 (ms : Nat)] 141))
    have d2 := d1
    replace d2 : w1.cell? ⟨w.heap.size, 4, none⟩ = some (.string ⟨s.callee.toArray⟩) := d4
    cases q1
    · go_wp2_with fail
      refine (HN1.out _ (hbw1.al _)).mono ?_
      rintro r w2 ⟨rfl, hb2⟩
      have hB := (hbw1.al _).tr hb2
      have hA : Below w1.heap.size w1 w2 := ((bl w1).al _).tr hb2
      have e3 := cell_keep d3 hA (Nat.le_refl _)
      have e4 := cell_keep d4 hA (Nat.le_refl _)
      have e5 := cell_keep d5 hA (Nat.le_refl _)
      have e6 := cell_keep d6 hA (Nat.le_refl _)
      have e7 := cell_keep d7 hA (Nat.le_refl _)
      have y2 := cell_keep (cell_at (j := 2) HY.out rfl) hb2 (Nat.le_refl _)
      have y3 := cell_keep (cell_at (j := 3) HY.out rfl) hb2 (Nat.le_refl _)
      have y4 := cell_keep (cell_at (j := 4) HY.out rfl) hb2 (Nat.le_refl _)
      have y5 := cell_keep (cell_at (j := 5) HY.out rfl) hb2 (Nat.le_refl _)
      have y6 := cell_keep (cell_at (j := 6) HY.out rfl) hb2 (Nat.le_refl _)
      have y7 := cell_keep (cell_at (j := 7) HY.out rfl) hb2 (Nat.le_refl _)
      clear d1 d2 d3 d4 d5 d6 d7 hA
      go_wp2_with fail
      go_ret
      exact ⟨ret_bool (by have := HX.out; simp [*] at this; simp [this]; try (intro h; exfalso; simp_all)), hB⟩
    · go_wp2_with fail
      refine (HN1.out _ (hbw1.al _)).mono ?_
      rintro r w2 ⟨rfl, hb2⟩
      have hB := (hbw1.al _).tr hb2
      have hA : Below w1.heap.size w1 w2 := ((bl w1).al _).tr hb2
      have e3 := cell_keep d3 hA (Nat.le_refl _)
      have e4 := cell_keep d4 hA (Nat.le_refl _)
      have e5 := cell_keep d5 hA (Nat.le_refl _)
      have e6 := cell_keep d6 hA (Nat.le_refl _)
      have e7 := cell_keep d7 hA (Nat.le_refl _)
      have y2 := cell_keep (cell_at (j := 2) HY.out rfl) hb2 (Nat.le_refl _)
      have y3 := cell_keep (cell_at (j := 3) HY.out rfl) hb2 (Nat.le_refl _)
      have y4 := cell_keep (cell_at (j := 4) HY.out rfl) hb2 (Nat.le_refl _)
      have y5 := cell_keep (cell_at (j := 5) HY.out rfl) hb2 (Nat.le_refl _)
      have y6 := cell_keep (cell_at (j := 6) HY.out rfl) hb2 (Nat.le_refl _)
      have y7 := cell_keep (cell_at (j := 7) HY.out rfl) hb2 (Nat.le_refl _)
      clear d1 d2 d3 d4 d5 d6 d7 hA
      go_wp2_with fail
      refine (HN2.out _ hB).mono ?_
      rintro r w3 ⟨rfl, hb3⟩
      replace hB := hB.tr hb3
      replace e3 := cell_keep e3 hb3 (Nat.le_refl _)
      replace e5 := cell_keep e5 hb3 (Nat.le_refl _)
      replace e6 := cell_keep e6 hb3 (Nat.le_refl _)
      replace e7 := cell_keep e7 hb3 (Nat.le_refl _)
      replace y2 := cell_keep y2 hb3 (Nat.le_refl _)
      replace y3 := cell_keep y3 hb3 (Nat.le_refl _)
      replace y4 := cell_keep y4 hb3 (Nat.le_refl _)
      replace y5 := cell_keep y5 hb3 (Nat.le_refl _)
      replace y6 := cell_keep y6 hb3 (Nat.le_refl _)
      replace y7 := cell_keep y7 hb3 (Nat.le_refl _)
      cases q2
      · go_wp2_with fail
        go_ret
        exact ⟨ret_bool (by have := HX.out; simp [*] at this; simp [this]; try (intro h; exfalso; simp_all)), hB⟩
      · cases ty
        · by_cases ht : s.typ = 0
          · rw [ht] at e3 HX
            cases bo
            · by_cases hlb : s.body.length = 0
              · rw [hlb] at e6 HX
                cases ot
                · by_cases hle : s.els.length = 0
                  · rw [hle] at e7 HX
                    by_cases hls : (s.args.length : Int) < (ls : Int)
                    · have hls2 : ¬ ls ≤ s.args.length := by omega
                      go_wp2_with fail
                      go_ret
                      exact ⟨ret_bool (by have := HX.out; simp [*] at this; simp [this]; try (intro h; exfalso; simp_all)), hB⟩
                    · have hls2 : ls ≤ s.args.length := by omega
                      by_cases hms : (ms : Int) < (s.args.length : Int)
                      · have hms2 : ¬ s.args.length ≤ ms := by omega
                        go_wp2_with fail
                        go_ret
                        exact ⟨ret_bool (by have := HX.out; simp [*] at this; simp [this]; try (intro h; exfalso; simp_all)), hB⟩
                      · have hms2 : s.args.length ≤ ms := by omega
                        go_wp2_with fail
                        refine (HCF.out _ hB).mono ?_
                        rintro r w5 ⟨rfl, hb5⟩
                        replace hB := hB.tr hb5
                        go_wp2_with fail
                        go_ret
                        exact ⟨ret_bool (by have := HX.out; simp [*] at this; simp [this]; try (intro h; exfalso; simp_all)), hB⟩
                  · have hle2 : (0 : Int) < (s.els.length : Int) := by omega
                    go_wp2_with fail
                    go_ret
                    exact ⟨ret_bool (by have := HX.out; simp [*] at this; simp [this]; try (intro h; exfalso; simp_all)), hB⟩
                · skip
                  by_cases hls : (s.args.length : Int) < (ls : Int)
                  · have hls2 : ¬ ls ≤ s.args.length := by omega
                    go_wp2_with fail
                    go_ret
                    exact ⟨ret_bool (by have := HX.out; simp [*] at this; simp [this]; try (intro h; exfalso; simp_all)), hB⟩
                  · have hls2 : ls ≤ s.args.length := by omega
                    by_cases hms : (ms : Int) < (s.args.length : Int)
                    · have hms2 : ¬ s.args.length ≤ ms := by omega
                      go_wp2_with fail
                      go_ret
                      exact ⟨ret_bool (by have := HX.out; simp [*] at this; simp [this]; try (intro h; exfalso; simp_all)), hB⟩
                    · have hms2 : s.args.length ≤ ms := by omega
                      go_wp2_with fail
                      refine (HCF.out _ hB).mono ?_
                      rintro r w5 ⟨rfl, hb5⟩
                      replace hB := hB.tr hb5
                      go_wp2_with fail
                      go_ret
                      exact ⟨ret_bool (by have := HX.out; simp [*] at this; simp [this]; try (intro h; exfalso; simp_all)), hB⟩
              · have hlb2 : (0 : Int) < (s.body.length : Int) := by omega
                go_wp2_with fail
                go_ret
                exact ⟨ret_bool (by have := HX.out; simp [*] at this; simp [this]; try (intro h; exfalso; simp_all)), hB⟩
            · skip
              cases ot
              · by_cases hle : s.els.length = 0
                · rw [hle] at e7 HX
                  by_cases hls : (s.args.length : Int) < (ls : Int)
                  · have hls2 : ¬ ls ≤ s.args.length := by omega
                    go_wp2_with fail
                    go_ret
                    exact ⟨ret_bool (by have := HX.out; simp [*] at this; simp [this]; try (intro h; exfalso; simp_all)), hB⟩
                  · have hls2 : ls ≤ s.args.length := by omega
                    by_cases hms : (ms : Int) < (s.args.length : Int)
                    · have hms2 : ¬ s.args.length ≤ ms := by omega
                      go_wp2_with fail
                      go_ret
                      exact ⟨ret_bool (by have := HX.out; simp [*] at this; simp [this]; try (intro h; exfalso; simp_all)), hB⟩
                    · have hms2 : s.args.length ≤ ms := by omega
                      go_wp2_with fail
                      refine (HCF.out _ hB).mono ?_
                      rintro r w5 ⟨rfl, hb5⟩
                      replace hB := hB.tr hb5
                      go_wp2_with fail
                      go_ret
                      exact ⟨ret_bool (by have := HX.out; simp [*] at this; simp [this]; try (intro h; exfalso; simp_all)), hB⟩
                · have hle2 : (0 : Int) < (s.els.length : Int) := by omega
                  go_wp2_with fail
                  go_ret
                  exact ⟨ret_bool (by have := HX.out; simp [*] at this; simp [this]; try (intro h; exfalso; simp_all)), hB⟩
              · skip
                by_cases hls : (s.args.length : Int) < (ls : Int)
                · have hls2 : ¬ ls ≤ s.args.length := by omega
                  go_wp2_with fail
                  go_ret
                  exact ⟨ret_bool (by have := HX.out; simp [*] at this; simp [this]; try (intro h; exfalso; simp_all)), hB⟩
                · have hls2 : ls ≤ s.args.length := by omega
                  by_cases hms : (ms : Int) < (s.args.length : Int)
                  · have hms2 : ¬ s.args.length ≤ ms := by omega
                    go_wp2_with fail
                    go_ret
                    exact ⟨ret_bool (by have := HX.out; simp [*] at this; simp [this]; try (intro h; exfalso; simp_all)), hB⟩
                  · have hms2 : s.args.length ≤ ms := by omega
                    go_wp2_with fail
                    refine (HCF.out _ hB).mono ?_
                    rintro r w5 ⟨rfl, hb5⟩
                    replace hB := hB.tr hb5
                    go_wp2_with fail
                    go_ret
                    exact ⟨ret_bool (by have := HX.out; simp [*] at this; simp [this]; try (intro h; exfalso; simp_all)), hB⟩
          · have ht2 : (s.typ != 0) = true := by simpa using ht
            go_wp2_with fail
            go_ret
            exact ⟨ret_bool (by have := HX.out; simp [*] at this; simp [this]; try (intro h; exfalso; simp_all)), hB⟩
        · go_wp2_with fail
          refine (HTY.out _).mono ?_
          rintro r w4 ⟨rfl, hb4⟩
          replace hB := hB.tr hb4
          replace e3 := cell_keep e3 hb4 (Nat.le_refl _)
          replace e5 := cell_keep e5 hb4 (Nat.le_refl _)
          replace e6 := cell_keep e6 hb4 (Nat.le_refl _)
          replace e7 := cell_keep e7 hb4 (Nat.le_refl _)
          replace y2 := cell_keep y2 hb4 (Nat.le_refl _)
          replace y3 := cell_keep y3 hb4 (Nat.le_refl _)
          replace y4 := cell_keep y4 hb4 (Nat.le_refl _)
          replace y5 := cell_keep y5 hb4 (Nat.le_refl _)
          replace y6 := cell_keep y6 hb4 (Nat.le_refl _)
          replace y7 := cell_keep y7 hb4 (Nat.le_refl _)
          cases q3
          · go_wp2_with fail
            go_ret
            exact ⟨ret_bool (by have := HX.out; simp [*] at this; simp [this]; try (intro h; exfalso; simp_all)), hB⟩
          · skip
            cases bo
            · by_cases hlb : s.body.length = 0
              · rw [hlb] at e6 HX
                cases ot
                · by_cases hle : s.els.length = 0
                  · rw [hle] at e7 HX
                    by_cases hls : (s.args.length : Int) < (ls : Int)
                    · have hls2 : ¬ ls ≤ s.args.length := by omega
                      go_wp2_with fail
                      go_ret
                      exact ⟨ret_bool (by have := HX.out; simp [*] at this; simp [this]; try (intro h; exfalso; simp_all)), hB⟩
                    · have hls2 : ls ≤ s.args.length := by omega
                      by_cases hms : (ms : Int) < (s.args.length : Int)
                      · have hms2 : ¬ s.args.length ≤ ms := by omega
                        go_wp2_with fail
                        go_ret
                        exact ⟨ret_bool (by have := HX.out; simp [*] at this; simp [this]; try (intro h; exfalso; simp_all)), hB⟩
                      · have hms2 : s.args.length ≤ ms := by omega
                        go_wp2_with fail
                        refine (HCF.out _ hB).mono ?_
                        rintro r w5 ⟨rfl, hb5⟩
                        replace hB := hB.tr hb5
                        go_wp2_with fail
                        go_ret
                        exact ⟨ret_bool (by have := HX.out; simp [*] at this; simp [this]; try (intro h; exfalso; simp_all)), hB⟩
                  · have hle2 : (0 : Int) < (s.els.length : Int) := by omega
                    go_wp2_with fail
                    go_ret
                    exact ⟨ret_bool (by have := HX.out; simp [*] at this; simp [this]; try (intro h; exfalso; simp_all)), hB⟩
                · skip
                  by_cases hls : (s.args.length : Int) < (ls : Int)
                  · have hls2 : ¬ ls ≤ s.args.length := by omega
                    go_wp2_with fail
                    go_ret
                    exact ⟨ret_bool (by have := HX.out; simp [*] at this; simp [this]; try (intro h; exfalso; simp_all)), hB⟩
                  · have hls2 : ls ≤ s.args.length := by omega
                    by_cases hms : (ms : Int) < (s.args.length : Int)
                    · have hms2 : ¬ s.args.length ≤ ms := by omega
                      go_wp2_with fail
                      go_ret
                      exact ⟨ret_bool (by have := HX.out; simp [*] at this; simp [this]; try (intro h; exfalso; simp_all)), hB⟩
                    · have hms2 : s.args.length ≤ ms := by omega
                      go_wp2_with fail
                      refine (HCF.out _ hB).mono ?_
                      rintro r w5 ⟨rfl, hb5⟩
                      replace hB := hB.tr hb5
                      go_wp2_with fail
                      go_ret
                      exact ⟨ret_bool (by have := HX.out; simp [*] at this; simp [this]; try (intro h; exfalso; simp_all)), hB⟩
              · have hlb2 : (0 : Int) < (s.body.length : Int) := by omega
                go_wp2_with fail
                go_ret
                exact ⟨ret_bool (by have := HX.out; simp [*] at this; simp [this]; try (intro h; exfalso; simp_all)), hB⟩
            · skip
              cases ot
              · by_cases hle : s.els.length = 0
                · rw [hle] at e7 HX
                  by_cases hls : (s.args.length : Int) < (ls : Int)
                  · have hls2 : ¬ ls ≤ s.args.length := by omega
                    go_wp2_with fail
                    go_ret
                    exact ⟨ret_bool (by have := HX.out; simp [*] at this; simp [this]; try (intro h; exfalso; simp_all)), hB⟩
                  · have hls2 : ls ≤ s.args.length := by omega
                    by_cases hms : (ms : Int) < (s.args.length : Int)
                    · have hms2 : ¬ s.args.length ≤ ms := by omega
                      go_wp2_with fail
                      go_ret
                      exact ⟨ret_bool (by have := HX.out; simp [*] at this; simp [this]; try (intro h; exfalso; simp_all)), hB⟩
                    · have hms2 : s.args.length ≤ ms := by omega
                      go_wp2_with fail
                      refine (HCF.out _ hB).mono ?_
                      rintro r w5 ⟨rfl, hb5⟩
                      replace hB := hB.tr hb5
                      go_wp2_with fail
                      go_ret
                      exact ⟨ret_bool (by have := HX.out; simp [*] at this; simp [this]; try (intro h; exfalso; simp_all)), hB⟩
                · have hle2 : (0 : Int) < (s.els.length : Int) := by omega
                  go_wp2_with fail
                  go_ret
                  exact ⟨ret_bool (by have := HX.out; simp [*] at this; simp [this]; try (intro h; exfalso; simp_all)), hB⟩
              · skip
                by_cases hls : (s.args.length : Int) < (ls : Int)
                · have hls2 : ¬ ls ≤ s.args.length := by omega
                  go_wp2_with fail
                  go_ret
                  exact ⟨ret_bool (by have := HX.out; simp [*] at this; simp [this]; try (intro h; exfalso; simp_all)), hB⟩
                · have hls2 : ls ≤ s.args.length := by omega
                  by_cases hms : (ms : Int) < (s.args.length : Int)
                  · have hms2 : ¬ s.args.length ≤ ms := by omega
                    go_wp2_with fail
                    go_ret
                    exact ⟨ret_bool (by have := HX.out; simp [*] at this; simp [this]; try (intro h; exfalso; simp_all)), hB⟩
                  · have hms2 : s.args.length ≤ ms := by omega
                    go_wp2_with fail
                    refine (HCF.out _ hB).mono ?_
                    rintro r w5 ⟨rfl, hb5⟩
                    replace hB := hB.tr hb5
                    go_wp2_with fail
                    go_ret
                    exact ⟨ret_bool (by have := HX.out; simp [*] at this; simp [this]; try (intro h; exfalso; simp_all)), hB⟩
  · have e : headM s = false := by unfold headM; rw [rowOf_none hk]
    rw [e]
    have hk' : s.kind < 1 ∨ 11 ≤ s.kind := by omega
    clear hk ha hw e hT
    rcases hk' with hk | hk
    all_goals
      go_enter Tryd.func65, Tryd.ntmps65
      go_wp2_with fail
      refine (rows_any _).mono ?_
      rintro r w1 ⟨rfl, hrow, hb1⟩
      have hbw1 := ((bl w).al _).tr hb1
      obtain ⟨hc1, _⟩ := bcell hb1
      clear hrow
      go_wp2_with fail
      go_ret
      exact ⟨rfl, hbw1⟩
end Go.Proofs.YtccgpmncpemmdaaDoor
