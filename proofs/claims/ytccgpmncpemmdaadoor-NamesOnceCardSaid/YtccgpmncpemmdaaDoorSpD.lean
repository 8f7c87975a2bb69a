/- shape.function answers whether a function has the right shape, apart from its numbers. -/
import Derived.Test.YtccgpmncpemmdaaDoorSpC
import Derived.Test.YtccgpmncpemmdaaDoorEq
namespace Go.Proofs.YtccgpmncpemmdaaDoor
open Go Go.RowKit
set_option linter.unusedSimpArgs false
set_option linter.unusedVariables false
set_option linter.unnecessarySimpa false
set_option maxHeartbeats 2000000 in
theorem function1_any (p : Pm) (w : World) (hT : Tab w) (hs : p.name.length ≤ maxLen) : Calls Tryd.prog 53 #[.agg #[.string ⟨p.name.toArray⟩, .int .i64 p.typ]] w fun e w' => e = .returned (.bool (!pmOk p)) ∧ Below w.heap.size w w' := by
  have hN := fun W (hW : Below w.heap.size w W) => name_any p.name W (hT.below hW) hs
  have hTY := fun W => typed_any p.typ W
  obtain ⟨r, hr⟩ : ∃ r, (!pmOk p) = r := ⟨_, rfl⟩
  rw [hr]
  unfold pmOk at hr
  cases hq : nameOk p.name
  · rw [hq] at hr
    simp only [hq] at hN
    simp only [Bool.false_and, Bool.not_false] at hr
    have HR := hide hr
    have HN := hide hN
    clear hN hTY hT hs hq hr
    go_enter Tryd.func53, Tryd.ntmps53
    go_wp2_with fail
    refine (HN.out _ ((bl w).al _)).mono ?_
    rintro r w1 ⟨rfl, hb1⟩
    go_wp2_with fail
    go_ret
    exact ⟨ret_bool HR.out, ((bl w).al _).tr hb1⟩
  · rw [hq] at hr
    simp only [hq] at hN
    simp only [Bool.true_and] at hr
    have HR := hide hr
    have HN := hide hN
    have HTY := hide hTY
    clear hN hTY hT hs hq hr
    generalize typedM p.typ = q at *
    cases q
    all_goals
      go_enter Tryd.func53, Tryd.ntmps53
      go_wp2_with fail
      refine (HN.out _ ((bl w).al _)).mono ?_
      rintro r w1 ⟨rfl, hb1⟩
      obtain ⟨hc1, _⟩ := bcell hb1
      have hz1 : w.heap.size < w1.heap.size := by have := hb1.size; simp at this; omega
      go_wp2_with fail
      refine (HTY.out _).mono ?_
      rintro r w2 ⟨rfl, hb2⟩
      go_wp2_with fail
      go_ret
      exact ⟨ret_bool HR.out, (((bl w).al _).tr hb1).tr hb2⟩
set_option maxRecDepth 20000 in
set_option maxHeartbeats 8000000 in
theorem function_any (f : Fn) (v : Value) (w : World) (hv : Fn.Val w f v) (hT : Tab w) :
    Calls Tryd.prog 42 #[v] w fun r w' => r = .returned (.bool (fnOk f)) ∧ Below w.heap.size w w' := by
  obtain ⟨pp, pb, cp, cb, rfl, hw, hp, hr⟩ := hv
  have hlen : f.params.length ≤ 9223372036854775807 := Nat.le_trans hp.len hp.cap
  have hNM := fun W (hW : Below w.heap.size w W) => name_any f.name W (hT.below hW) hw.s
  have hSZ := fun (W : World) (hW : Below w.heap.size w W) => size_any f.body pb cb W (hr.keep hW (Nat.le_refl _)) (Nat.le_trans hw.lb hw.cb) (hT.below hW)
  have hTY := fun W => typed_any f.result W
  have hCF := fun W (hW : Below w.heap.size w W) => containsFunc_pms f.params (fun p => !pmOk p) pp cp 53 #[] (fun _ _ => by kernel_rfl) W (hp.keep hW (Nat.le_refl _)) (fun i hi W' hW' => by
    have := function1_any f.params[i] W' (hT.below (hW.tr hW')) (hp.wf _ (List.getElem_mem hi)).1
    exact this) _ rfl
  have hall : f.params.all pmOk = !(f.params.any fun p => !pmOk p) := by rw [List.all_eq_not_any_not]
  obtain ⟨R, hR⟩ : ∃ R, fnOk f = R := ⟨_, rfl⟩
  rw [hR]
  unfold fnOk at hR
  rw [hall, show (wellM 20 f.body && decide (cntL f.body ≤ 200)) = bodyOk f.body from rfl] at hR
  obtain ⟨qn, hqn⟩ : ∃ q, nameOk f.name = q := ⟨_, rfl⟩
  obtain ⟨qt, hqt⟩ : ∃ q, typedM f.result = q := ⟨_, rfl⟩
  obtain ⟨qp, hqp⟩ : ∃ q, (f.params.any fun p => !pmOk p) = q := ⟨_, rfl⟩
  obtain ⟨qb, hqb⟩ : ∃ q, bodyOk f.body = q := ⟨_, rfl⟩
  rw [hqn, hqt, hqp, hqb] at hR
  simp only [hqn] at hNM
  simp only [hqt] at hTY
  simp only [hqp] at hCF
  simp only [hqb] at hSZ
  have HNM := hide hNM
  have HSZ := hide hSZ
  have HTY := hide hTY
  have HCF := hide hCF
  have HRR := hide hR
  clear hNM hSZ hTY hCF hR hall hqn hqt hqp hqb hw hp hr hT
  cases qn
  · go_enter Tryd.func42, Tryd.ntmps42
    go_wp2_with fail
    refine (HNM.out _ ((bl w).al _)).mono ?_
    rintro r w1 ⟨rfl, hb1⟩
    have hB1 := ((bl w).al (.cells #[.string ⟨f.name.toArray⟩, .slice pp f.params.length cp, .int .i64 f.result, .slice pb f.body.length cb, .int .i64 f.count] 42)).tr hb1
    have HX := hide ((hb1.block _ (by simp)).trans (heap_alloc_new w (.cells #[.string ⟨f.name.toArray⟩, .slice pp f.params.length cp, .int .i64 f.result, .slice pb f.body.length cb, .int .i64 f.count] 42)))
    have x1 := cell_at (j := 1) HX.out rfl
    have x2 := cell_at (j := 2) HX.out rfl
    have x3 := cell_at (j := 3) HX.out rfl
    have hxl : w.heap.size < w1.heap.size := (Array.getElem?_eq_some_iff.1 HX.out).1
    clear hb1
    go_wp2_with fail
    go_ret
    exact ⟨ret_bool (by have := HRR.out; simpa using this.symm), hB1⟩
  · by_cases hl : (8 : Int) < (f.params.length : Int)
    · have hl2 : ¬ f.params.length ≤ 8 := by omega
      go_enter Tryd.func42, Tryd.ntmps42
      go_wp2_with fail
      refine (HNM.out _ ((bl w).al _)).mono ?_
      rintro r w1 ⟨rfl, hb1⟩
      have hB1 := ((bl w).al (.cells #[.string ⟨f.name.toArray⟩, .slice pp f.params.length cp, .int .i64 f.result, .slice pb f.body.length cb, .int .i64 f.count] 42)).tr hb1
      have HX := hide ((hb1.block _ (by simp)).trans (heap_alloc_new w (.cells #[.string ⟨f.name.toArray⟩, .slice pp f.params.length cp, .int .i64 f.result, .slice pb f.body.length cb, .int .i64 f.count] 42)))
      have x1 := cell_at (j := 1) HX.out rfl
      have x2 := cell_at (j := 2) HX.out rfl
      have x3 := cell_at (j := 3) HX.out rfl
      have hxl : w.heap.size < w1.heap.size := (Array.getElem?_eq_some_iff.1 HX.out).1
      clear hb1
      go_wp2_with fail
      go_ret
      exact ⟨ret_bool (by have := HRR.out; simpa [hl2] using this.symm), hB1⟩
    · have hl2 : f.params.length ≤ 8 := by omega
      by_cases hres : f.result = 0
      · rw [hres] at HRR
        have hres2 : (f.result != 0) = false := by simpa using hres
        have HR2 : Hid (R = ((!qp) && qb)) := hide (by have := HRR.out; simpa [hres, hl2] using this.symm)
        clear hres
        go_enter Tryd.func42, Tryd.ntmps42
        go_wp2_with fail
        refine (HNM.out _ ((bl w).al _)).mono ?_
        rintro r w1 ⟨rfl, hb1⟩
        have hB1 := ((bl w).al (.cells #[.string ⟨f.name.toArray⟩, .slice pp f.params.length cp, .int .i64 f.result, .slice pb f.body.length cb, .int .i64 f.count] 42)).tr hb1
        have HX := hide ((hb1.block _ (by simp)).trans (heap_alloc_new w (.cells #[.string ⟨f.name.toArray⟩, .slice pp f.params.length cp, .int .i64 f.result, .slice pb f.body.length cb, .int .i64 f.count] 42)))
        have x1 := cell_at (j := 1) HX.out rfl
        have x2 := cell_at (j := 2) HX.out rfl
        have x3 := cell_at (j := 3) HX.out rfl
        have hxl : w.heap.size < w1.heap.size := (Array.getElem?_eq_some_iff.1 HX.out).1
        clear hb1
        go_wp2_with fail
        (with_reducible refine (HCF.out _ hB1).mono ?_)
        rintro r w3 ⟨rfl, hb3⟩
        have hB3 := hB1.tr hb3
        replace x3 := cell_keep x3 hb3 (Nat.le_refl _)
        have hxl : w.heap.size < w3.heap.size := Nat.lt_of_lt_of_le hxl hb3.size
        clear x1 hb3
        cases qp
        · go_wp2_with fail
          (with_reducible refine (HSZ.out _ hB3).mono ?_)
          rintro r w4 ⟨⟨c, hc, rfl, -⟩, hb4⟩
          go_wp2_with fail
          go_ret
          exact ⟨ret_bool (by have := HR2.out; cases qb <;> simpa using this.symm), hB3.tr hb4⟩
        · go_wp2_with fail
          go_ret
          exact ⟨ret_bool (by have := HR2.out; cases qb <;> simpa using this.symm), hB3⟩
      · have hres2 : (f.result != 0) = true := by simpa using hres
        cases qt
        · go_enter Tryd.func42, Tryd.ntmps42
          go_wp2_with fail
          refine (HNM.out _ ((bl w).al _)).mono ?_
          rintro r w1 ⟨rfl, hb1⟩
          have hB1 := ((bl w).al (.cells #[.string ⟨f.name.toArray⟩, .slice pp f.params.length cp, .int .i64 f.result, .slice pb f.body.length cb, .int .i64 f.count] 42)).tr hb1
          have HX := hide ((hb1.block _ (by simp)).trans (heap_alloc_new w (.cells #[.string ⟨f.name.toArray⟩, .slice pp f.params.length cp, .int .i64 f.result, .slice pb f.body.length cb, .int .i64 f.count] 42)))
          have x1 := cell_at (j := 1) HX.out rfl
          have x2 := cell_at (j := 2) HX.out rfl
          have x3 := cell_at (j := 3) HX.out rfl
          have hxl : w.heap.size < w1.heap.size := (Array.getElem?_eq_some_iff.1 HX.out).1
          clear hb1
          go_wp2_with fail
          (with_reducible refine (HTY.out _).mono ?_)
          rintro r w2 ⟨rfl, hb2⟩
          have hB1 := hB1.tr hb2
          replace x1 := cell_keep x1 hb2 (Nat.le_refl _)
          replace x3 := cell_keep x3 hb2 (Nat.le_refl _)
          have hxl : w.heap.size < w2.heap.size := Nat.lt_of_lt_of_le hxl hb2.size
          clear x2 hb2
          go_wp2_with fail
          go_ret
          exact ⟨ret_bool (by have := HRR.out; simpa [hres] using this.symm), hB1⟩
        · have HR2 : Hid (R = ((!qp) && qb)) := hide (by have := HRR.out; simpa [hres, hl2] using this.symm)
          go_enter Tryd.func42, Tryd.ntmps42
          go_wp2_with fail
          refine (HNM.out _ ((bl w).al _)).mono ?_
          rintro r w1 ⟨rfl, hb1⟩
          have hB1 := ((bl w).al (.cells #[.string ⟨f.name.toArray⟩, .slice pp f.params.length cp, .int .i64 f.result, .slice pb f.body.length cb, .int .i64 f.count] 42)).tr hb1
          have HX := hide ((hb1.block _ (by simp)).trans (heap_alloc_new w (.cells #[.string ⟨f.name.toArray⟩, .slice pp f.params.length cp, .int .i64 f.result, .slice pb f.body.length cb, .int .i64 f.count] 42)))
          have x1 := cell_at (j := 1) HX.out rfl
          have x2 := cell_at (j := 2) HX.out rfl
          have x3 := cell_at (j := 3) HX.out rfl
          have hxl : w.heap.size < w1.heap.size := (Array.getElem?_eq_some_iff.1 HX.out).1
          clear hb1
          go_wp2_with fail
          (with_reducible refine (HTY.out _).mono ?_)
          rintro r w2 ⟨rfl, hb2⟩
          have hB1 := hB1.tr hb2
          replace x1 := cell_keep x1 hb2 (Nat.le_refl _)
          replace x3 := cell_keep x3 hb2 (Nat.le_refl _)
          have hxl : w.heap.size < w2.heap.size := Nat.lt_of_lt_of_le hxl hb2.size
          clear x2 hb2
          go_wp2_with fail
          (with_reducible refine (HCF.out _ hB1).mono ?_)
          rintro r w3 ⟨rfl, hb3⟩
          have hB3 := hB1.tr hb3
          replace x3 := cell_keep x3 hb3 (Nat.le_refl _)
          have hxl : w.heap.size < w3.heap.size := Nat.lt_of_lt_of_le hxl hb3.size
          clear x1 hb3
          cases qp
          · go_wp2_with fail
            (with_reducible refine (HSZ.out _ hB3).mono ?_)
            rintro r w4 ⟨⟨c, hc, rfl, -⟩, hb4⟩
            go_wp2_with fail
            go_ret
            exact ⟨ret_bool (by have := HR2.out; cases qb <;> simpa using this.symm), hB3.tr hb4⟩
          · go_wp2_with fail
            go_ret
            exact ⟨ret_bool (by have := HR2.out; cases qb <;> simpa using this.symm), hB3⟩
end Go.Proofs.YtccgpmncpemmdaaDoor
