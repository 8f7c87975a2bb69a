/- rewindref03.head, for further kinds of statements in memory. -/
import Derived.Test.YtgeleppmhhodiaaGreatDoorRsA
namespace Go.Proofs.YtgeleppmhhodiaaGreatDoor
open Go Go.RowKit
set_option linter.unusedSimpArgs false
set_option linter.unusedVariables false
set_option linter.unnecessarySimpa false
set_option maxRecDepth 20000 in
set_option maxHeartbeats 4000000 in
theorem refHead_7 (n : Int) (s : Bytes) (t : Int) (c : Bytes) (xs : List Ex) (bs es : List St) (v : Value) (w : World) (hv : St.Val w (.mk 7 n s t c xs bs es) v) :
    Calls Tryz.prog 89 #[v] w fun r w' => r = .returned (.bool (headM (.mk 7 n s t c xs bs es))) ∧ Below w.heap.size w w' := by
  obtain ⟨pa, pb, pe, ca, cb, ce, rfl, hw, ha, -, -⟩ := hv
  simp only [St.kind, St.no, St.name, St.typ, St.callee, St.args, St.body, St.els] at *
  have hsl := hw.s
  have hcl := hw.c
  have hlen : xs.length ≤ 9223372036854775807 := Nat.le_trans hw.la hw.ca
  have hlenb : bs.length ≤ 9223372036854775807 := Nat.le_trans hw.lb hw.cb
  have hlene : es.length ≤ 9223372036854775807 := Nat.le_trans hw.le hw.ce
  have HNS := hide fun W => refName_any s W hsl
  have HNC := hide fun W => refName_any c W hcl
  have HA := hide ha
  have hcs := stCells_alloc w (.mk 7 n s t c xs bs es) (.slice pa xs.length ca) (.slice pb bs.length cb) (.slice pe es.length ce) 42
  simp only [St.kind, St.no, St.name, St.typ, St.callee, St.args, St.body, St.els] at hcs
  have HCS := hide hcs
  clear hw hsl hcl ha hcs
  by_cases hl : 0 ≤ (xs.length : Int) ∧ (xs.length : Int) ≤ 8
  · obtain ⟨hl1, hl2⟩ := hl
    go_enter Tryz.func89, Tryz.ntmps89
    go_wp2_with fail
    refine (refRow_any _ _).mono ?_
    rintro r w1 ⟨rfl, rfl⟩
    simp only [refRow]
    go_wp2_with fail
    go_loopw [7] (fun i wr => ∃ k : Nat, k ≤ xs.length ∧ i = .int .i64 k ∧ Hid (∀ e ∈ xs.take k, exOk e = true) ∧ Below (w.alloc (.cells #[.int .i64 7, .int .i64 n, .string ⟨s.toArray⟩, .int .i64 t, .string ⟨c.toArray⟩, .slice pa xs.length ca, .slice pb bs.length cb, .slice pe es.length ce] 42)).heap.size (w.alloc (.cells #[.int .i64 7, .int .i64 n, .string ⟨s.toArray⟩, .int .i64 t, .string ⟨c.toArray⟩, .slice pa xs.length ca, .slice pb bs.length cb, .slice pe es.length ce] 42)) wr) (fun i _ => xs.length - (intOf i).toNat)
    case atStart => exact ⟨0, Nat.zero_le _, rfl, by simp [Hid], bl _⟩
    case round =>
      obtain ⟨k, hk, rfl, hall, hb⟩ := hrel
      have hbw := ((bl w).al _).tr hb
      have hcs := HCS.out.has (has_below hb)
      obtain ⟨c0, c1, c2, c3, c4, c5, c6, c7⟩ := hcs
      simp only [Nat.zero_add] at c0 c1 c2 c3 c4 c5 c6 c7
      have hzl := cell_lt c0
      simp only at hzl
      by_cases hlt : k < xs.length
      · first
        | (exfalso; omega)
        | skip
        all_goals
          obtain ⟨b, o, rfl⟩ := HA.out.addr (by omega)
          obtain ⟨a', cap', d0, d1, d2, d3, d4, hw', hr'⟩ := ((HA.out.get k hlt).keep hbw (Nat.le_refl _)).val
          have HE := hide (Ex.Val.mk hw' hr')
          have hbl := cell_lt d0
          simp only at hbl
          clear hw' hr'
          by_cases hz : depthM 20 xs[k] = 0
          · have HC := hide (refExpr_any xs[k] _ wr HE.out)
            rw [if_pos hz] at HC
            go_wp2_with fail
            refine HC.out.mono ?_
            rintro r w2 ⟨rfl, hb2⟩
            go_wp2_with fail
            go_ret
            refine ⟨ret_bool ?_, hbw.tr hb2⟩
            have : xs.all exOk = false := by
              rw [List.all_eq_false]
              exact ⟨xs[k], List.getElem_mem hlt, by simp [exOk, hz]⟩
            simp [headM, St.kind, rowOf, St.args, this]
          · have HC := hide (refExpr_any xs[k] _ wr HE.out)
            rw [if_neg hz] at HC
            have HT := hide (List.take_succ_eq_append_getElem hlt)
            go_wp2_with fail
            refine HC.out.mono ?_
            rintro r w2 ⟨rfl, hb2⟩
            go_wp2_with fail
            go_roundw
            case rel =>
              refine ⟨k + 1, by omega, by go_num, ?_, hb.tr hb2⟩
              intro e he
              rw [HT.out, List.mem_append, List.mem_singleton] at he
              rcases he with he | rfl
              · exact hall e he
              · exact exOk_iff.2 hz
            case measure => simp [intOf]; omega
      · obtain rfl : k = xs.length := by omega
        have HALL : Hid (xs.all exOk = true) := hide (by rw [List.all_eq_true]; intro e he; exact hall e (by simpa using he))
        have HNS' := hide (HNS.out)
        have hl4 : 0 ≤ xs.length := by omega
        have hl5 : xs.length ≤ 8 := by omega
        have HL4 := hide hl4
        have HL5 := hide hl5
        clear hall hl4 hl5
        generalize hns : nameOk s = ns at *
        generalize hnc : nameOk c = nc at *
        have HNSE := hide hns
        have HNCE := hide hnc
        clear hns hnc
        rcases s with _ | ⟨x, xt⟩ <;> rcases c with _ | ⟨y, ys⟩
        all_goals
          go_wp2_with (first | (go_at_call 57; (with_reducible refine (HNS.out _).mono ?_); rintro r w2 ⟨rfl, hb2⟩; obtain ⟨hc2, _⟩ := bcell hb2; have hzl := Nat.lt_of_lt_of_le hzl hb2.size; have hbw := hbw.tr hb2) | (go_at_call 57; (with_reducible refine (HNC.out _).mono ?_); rintro r w2 ⟨rfl, hb2⟩; obtain ⟨hc2, _⟩ := bcell hb2; have hzl := Nat.lt_of_lt_of_le hzl hb2.size; have hbw := hbw.tr hb2) | (go_at_call 58; (with_reducible refine (refTyp_any t _).mono ?_); rintro r w2 ⟨rfl, rfl⟩))
          all_goals
            go_ret
            refine ⟨ret_bool ?_, by first | exact hbw | exact hbw.tr ‹_›⟩
            have q1 := HNSE.out
            have q2 := HNCE.out
            have q3 := HALL.out
            have q4 := HL4.out
            have q5 := HL5.out
            have q6 : nameOk [] = false := rfl
            (try (rw [q6] at q1; subst q1))
            (try (rw [q6] at q2; subst q2))
            (try have g := (show t ≠ 0 from by simpa using (by assumption : (t != 0) = true)))
            (try have g := (show t = 0 from by simpa using (by assumption : (t != 0) = false)))
            simp [headM, St.kind, St.name, St.typ, St.callee, St.args, St.body, St.els, rowOf, fldM, namedM, cast_beq0, *]
            all_goals (intros; simp_all)
  · have e : headM (.mk 7 n s t c xs bs es) = false := by
      rw [Bool.eq_false_iff]
      intro hh
      have := headM_len hh rfl
      simp only [St.args] at this
      omega
    rw [e]
    have hl' : (xs.length : Int) < 0 ∨ (¬ (xs.length : Int) < 0 ∧ 8 < (xs.length : Int)) := by omega
    clear e hl
    rcases hl' with hl | ⟨hl, hl2⟩
    all_goals (try (exfalso; omega))
    all_goals
      go_enter Tryz.func89, Tryz.ntmps89
      go_wp2_with fail
      refine (refRow_any _ _).mono ?_
      rintro r w1 ⟨rfl, rfl⟩
      simp only [refRow]
      go_wp2_with fail
      go_ret
      exact ⟨rfl, (bl w).al _⟩
set_option maxRecDepth 20000 in
set_option maxHeartbeats 4000000 in
theorem refHead_9 (n : Int) (s : Bytes) (t : Int) (c : Bytes) (xs : List Ex) (bs es : List St) (v : Value) (w : World) (hv : St.Val w (.mk 9 n s t c xs bs es) v) :
    Calls Tryz.prog 89 #[v] w fun r w' => r = .returned (.bool (headM (.mk 9 n s t c xs bs es))) ∧ Below w.heap.size w w' := by
  obtain ⟨pa, pb, pe, ca, cb, ce, rfl, hw, ha, -, -⟩ := hv
  simp only [St.kind, St.no, St.name, St.typ, St.callee, St.args, St.body, St.els] at *
  have hsl := hw.s
  have hcl := hw.c
  have hlen : xs.length ≤ 9223372036854775807 := Nat.le_trans hw.la hw.ca
  have hlenb : bs.length ≤ 9223372036854775807 := Nat.le_trans hw.lb hw.cb
  have hlene : es.length ≤ 9223372036854775807 := Nat.le_trans hw.le hw.ce
  have HNS := hide fun W => refName_any s W hsl
  have HNC := hide fun W => refName_any c W hcl
  have HA := hide ha
  have hcs := stCells_alloc w (.mk 9 n s t c xs bs es) (.slice pa xs.length ca) (.slice pb bs.length cb) (.slice pe es.length ce) 42
  simp only [St.kind, St.no, St.name, St.typ, St.callee, St.args, St.body, St.els] at hcs
  have HCS := hide hcs
  clear hw hsl hcl ha hcs
  by_cases hl : 1 ≤ (xs.length : Int) ∧ (xs.length : Int) ≤ 1
  · obtain ⟨hl1, hl2⟩ := hl
    go_enter Tryz.func89, Tryz.ntmps89
    go_wp2_with fail
    refine (refRow_any _ _).mono ?_
    rintro r w1 ⟨rfl, rfl⟩
    simp only [refRow]
    go_wp2_with fail
    go_loopw [7] (fun i wr => ∃ k : Nat, k ≤ xs.length ∧ i = .int .i64 k ∧ Hid (∀ e ∈ xs.take k, exOk e = true) ∧ Below (w.alloc (.cells #[.int .i64 9, .int .i64 n, .string ⟨s.toArray⟩, .int .i64 t, .string ⟨c.toArray⟩, .slice pa xs.length ca, .slice pb bs.length cb, .slice pe es.length ce] 42)).heap.size (w.alloc (.cells #[.int .i64 9, .int .i64 n, .string ⟨s.toArray⟩, .int .i64 t, .string ⟨c.toArray⟩, .slice pa xs.length ca, .slice pb bs.length cb, .slice pe es.length ce] 42)) wr) (fun i _ => xs.length - (intOf i).toNat)
    case atStart => exact ⟨0, Nat.zero_le _, rfl, by simp [Hid], bl _⟩
    case round =>
      obtain ⟨k, hk, rfl, hall, hb⟩ := hrel
      have hbw := ((bl w).al _).tr hb
      have hcs := HCS.out.has (has_below hb)
      obtain ⟨c0, c1, c2, c3, c4, c5, c6, c7⟩ := hcs
      simp only [Nat.zero_add] at c0 c1 c2 c3 c4 c5 c6 c7
      have hzl := cell_lt c0
      simp only at hzl
      by_cases hlt : k < xs.length
      · first
        | (exfalso; omega)
        | skip
        all_goals
          obtain ⟨b, o, rfl⟩ := HA.out.addr (by omega)
          obtain ⟨a', cap', d0, d1, d2, d3, d4, hw', hr'⟩ := ((HA.out.get k hlt).keep hbw (Nat.le_refl _)).val
          have HE := hide (Ex.Val.mk hw' hr')
          have hbl := cell_lt d0
          simp only at hbl
          clear hw' hr'
          by_cases hz : depthM 20 xs[k] = 0
          · have HC := hide (refExpr_any xs[k] _ wr HE.out)
            rw [if_pos hz] at HC
            go_wp2_with fail
            refine HC.out.mono ?_
            rintro r w2 ⟨rfl, hb2⟩
            go_wp2_with fail
            go_ret
            refine ⟨ret_bool ?_, hbw.tr hb2⟩
            have : xs.all exOk = false := by
              rw [List.all_eq_false]
              exact ⟨xs[k], List.getElem_mem hlt, by simp [exOk, hz]⟩
            simp [headM, St.kind, rowOf, St.args, this]
          · have HC := hide (refExpr_any xs[k] _ wr HE.out)
            rw [if_neg hz] at HC
            have HT := hide (List.take_succ_eq_append_getElem hlt)
            go_wp2_with fail
            refine HC.out.mono ?_
            rintro r w2 ⟨rfl, hb2⟩
            go_wp2_with fail
            go_roundw
            case rel =>
              refine ⟨k + 1, by omega, by go_num, ?_, hb.tr hb2⟩
              intro e he
              rw [HT.out, List.mem_append, List.mem_singleton] at he
              rcases he with he | rfl
              · exact hall e he
              · exact exOk_iff.2 hz
            case measure => simp [intOf]; omega
      · obtain rfl : k = xs.length := by omega
        have HALL : Hid (xs.all exOk = true) := hide (by rw [List.all_eq_true]; intro e he; exact hall e (by simpa using he))
        have HNS' := hide (HNS.out)
        have hl4 : 1 ≤ xs.length := by omega
        have hl5 : xs.length ≤ 1 := by omega
        have HL4 := hide hl4
        have HL5 := hide hl5
        clear hall hl4 hl5
        generalize hns : nameOk s = ns at *
        generalize hnc : nameOk c = nc at *
        have HNSE := hide hns
        have HNCE := hide hnc
        clear hns hnc
        rcases s with _ | ⟨x, xt⟩ <;> rcases c with _ | ⟨y, ys⟩
        all_goals
          go_wp2_with (first | (go_at_call 57; (with_reducible refine (HNS.out _).mono ?_); rintro r w2 ⟨rfl, hb2⟩; obtain ⟨hc2, _⟩ := bcell hb2; have hzl := Nat.lt_of_lt_of_le hzl hb2.size; have hbw := hbw.tr hb2) | (go_at_call 57; (with_reducible refine (HNC.out _).mono ?_); rintro r w2 ⟨rfl, hb2⟩; obtain ⟨hc2, _⟩ := bcell hb2; have hzl := Nat.lt_of_lt_of_le hzl hb2.size; have hbw := hbw.tr hb2) | (go_at_call 58; (with_reducible refine (refTyp_any t _).mono ?_); rintro r w2 ⟨rfl, rfl⟩))
          all_goals
            go_ret
            refine ⟨ret_bool ?_, by first | exact hbw | exact hbw.tr ‹_›⟩
            have q1 := HNSE.out
            have q2 := HNCE.out
            have q3 := HALL.out
            have q4 := HL4.out
            have q5 := HL5.out
            have q6 : nameOk [] = false := rfl
            (try (rw [q6] at q1; subst q1))
            (try (rw [q6] at q2; subst q2))
            (try have g := (show t ≠ 0 from by simpa using (by assumption : (t != 0) = true)))
            (try have g := (show t = 0 from by simpa using (by assumption : (t != 0) = false)))
            simp [headM, St.kind, St.name, St.typ, St.callee, St.args, St.body, St.els, rowOf, fldM, namedM, cast_beq0, *]
            all_goals (intros; simp_all)
  · have e : headM (.mk 9 n s t c xs bs es) = false := by
      rw [Bool.eq_false_iff]
      intro hh
      have := headM_len hh rfl
      simp only [St.args] at this
      omega
    rw [e]
    have hl' : (xs.length : Int) < 1 ∨ (¬ (xs.length : Int) < 1 ∧ 1 < (xs.length : Int)) := by omega
    clear e hl
    rcases hl' with hl | ⟨hl, hl2⟩
    all_goals (try (exfalso; omega))
    all_goals
      go_enter Tryz.func89, Tryz.ntmps89
      go_wp2_with fail
      refine (refRow_any _ _).mono ?_
      rintro r w1 ⟨rfl, rfl⟩
      simp only [refRow]
      go_wp2_with fail
      go_ret
      exact ⟨rfl, (bl w).al _⟩
set_option maxRecDepth 20000 in
set_option maxHeartbeats 4000000 in
theorem refHead_10 (n : Int) (s : Bytes) (t : Int) (c : Bytes) (xs : List Ex) (bs es : List St) (v : Value) (w : World) (hv : St.Val w (.mk 10 n s t c xs bs es) v) :
    Calls Tryz.prog 89 #[v] w fun r w' => r = .returned (.bool (headM (.mk 10 n s t c xs bs es))) ∧ Below w.heap.size w w' := by
  obtain ⟨pa, pb, pe, ca, cb, ce, rfl, hw, ha, -, -⟩ := hv
  simp only [St.kind, St.no, St.name, St.typ, St.callee, St.args, St.body, St.els] at *
  have hsl := hw.s
  have hcl := hw.c
  have hlen : xs.length ≤ 9223372036854775807 := Nat.le_trans hw.la hw.ca
  have hlenb : bs.length ≤ 9223372036854775807 := Nat.le_trans hw.lb hw.cb
  have hlene : es.length ≤ 9223372036854775807 := Nat.le_trans hw.le hw.ce
  have HNS := hide fun W => refName_any s W hsl
  have HNC := hide fun W => refName_any c W hcl
  have HA := hide ha
  have hcs := stCells_alloc w (.mk 10 n s t c xs bs es) (.slice pa xs.length ca) (.slice pb bs.length cb) (.slice pe es.length ce) 42
  simp only [St.kind, St.no, St.name, St.typ, St.callee, St.args, St.body, St.els] at hcs
  have HCS := hide hcs
  clear hw hsl hcl ha hcs
  by_cases hl : 1 ≤ (xs.length : Int) ∧ (xs.length : Int) ≤ 1
  · obtain ⟨hl1, hl2⟩ := hl
    go_enter Tryz.func89, Tryz.ntmps89
    go_wp2_with fail
    refine (refRow_any _ _).mono ?_
    rintro r w1 ⟨rfl, rfl⟩
    simp only [refRow]
    go_wp2_with fail
    go_loopw [7] (fun i wr => ∃ k : Nat, k ≤ xs.length ∧ i = .int .i64 k ∧ Hid (∀ e ∈ xs.take k, exOk e = true) ∧ Below (w.alloc (.cells #[.int .i64 10, .int .i64 n, .string ⟨s.toArray⟩, .int .i64 t, .string ⟨c.toArray⟩, .slice pa xs.length ca, .slice pb bs.length cb, .slice pe es.length ce] 42)).heap.size (w.alloc (.cells #[.int .i64 10, .int .i64 n, .string ⟨s.toArray⟩, .int .i64 t, .string ⟨c.toArray⟩, .slice pa xs.length ca, .slice pb bs.length cb, .slice pe es.length ce] 42)) wr) (fun i _ => xs.length - (intOf i).toNat)
    case atStart => exact ⟨0, Nat.zero_le _, rfl, by simp [Hid], bl _⟩
    case round =>
      obtain ⟨k, hk, rfl, hall, hb⟩ := hrel
      have hbw := ((bl w).al _).tr hb
      have hcs := HCS.out.has (has_below hb)
      obtain ⟨c0, c1, c2, c3, c4, c5, c6, c7⟩ := hcs
      simp only [Nat.zero_add] at c0 c1 c2 c3 c4 c5 c6 c7
      have hzl := cell_lt c0
      simp only at hzl
      by_cases hlt : k < xs.length
      · first
        | (exfalso; omega)
        | skip
        all_goals
          obtain ⟨b, o, rfl⟩ := HA.out.addr (by omega)
          obtain ⟨a', cap', d0, d1, d2, d3, d4, hw', hr'⟩ := ((HA.out.get k hlt).keep hbw (Nat.le_refl _)).val
          have HE := hide (Ex.Val.mk hw' hr')
          have hbl := cell_lt d0
          simp only at hbl
          clear hw' hr'
          by_cases hz : depthM 20 xs[k] = 0
          · have HC := hide (refExpr_any xs[k] _ wr HE.out)
            rw [if_pos hz] at HC
            go_wp2_with fail
            refine HC.out.mono ?_
            rintro r w2 ⟨rfl, hb2⟩
            go_wp2_with fail
            go_ret
            refine ⟨ret_bool ?_, hbw.tr hb2⟩
            have : xs.all exOk = false := by
              rw [List.all_eq_false]
              exact ⟨xs[k], List.getElem_mem hlt, by simp [exOk, hz]⟩
            simp [headM, St.kind, rowOf, St.args, this]
          · have HC := hide (refExpr_any xs[k] _ wr HE.out)
            rw [if_neg hz] at HC
            have HT := hide (List.take_succ_eq_append_getElem hlt)
            go_wp2_with fail
            refine HC.out.mono ?_
            rintro r w2 ⟨rfl, hb2⟩
            go_wp2_with fail
            go_roundw
            case rel =>
              refine ⟨k + 1, by omega, by go_num, ?_, hb.tr hb2⟩
              intro e he
              rw [HT.out, List.mem_append, List.mem_singleton] at he
              rcases he with he | rfl
              · exact hall e he
              · exact exOk_iff.2 hz
            case measure => simp [intOf]; omega
      · obtain rfl : k = xs.length := by omega
        have HALL : Hid (xs.all exOk = true) := hide (by rw [List.all_eq_true]; intro e he; exact hall e (by simpa using he))
        have HNS' := hide (HNS.out)
        have hl4 : 1 ≤ xs.length := by omega
        have hl5 : xs.length ≤ 1 := by omega
        have HL4 := hide hl4
        have HL5 := hide hl5
        clear hall hl4 hl5
        generalize hns : nameOk s = ns at *
        generalize hnc : nameOk c = nc at *
        have HNSE := hide hns
        have HNCE := hide hnc
        clear hns hnc
        rcases s with _ | ⟨x, xt⟩ <;> rcases c with _ | ⟨y, ys⟩
        all_goals
          go_wp2_with (first | (go_at_call 57; (with_reducible refine (HNS.out _).mono ?_); rintro r w2 ⟨rfl, hb2⟩; obtain ⟨hc2, _⟩ := bcell hb2; have hzl := Nat.lt_of_lt_of_le hzl hb2.size; have hbw := hbw.tr hb2) | (go_at_call 57; (with_reducible refine (HNC.out _).mono ?_); rintro r w2 ⟨rfl, hb2⟩; obtain ⟨hc2, _⟩ := bcell hb2; have hzl := Nat.lt_of_lt_of_le hzl hb2.size; have hbw := hbw.tr hb2) | (go_at_call 58; (with_reducible refine (refTyp_any t _).mono ?_); rintro r w2 ⟨rfl, rfl⟩))
          all_goals
            go_ret
            refine ⟨ret_bool ?_, by first | exact hbw | exact hbw.tr ‹_›⟩
            have q1 := HNSE.out
            have q2 := HNCE.out
            have q3 := HALL.out
            have q4 := HL4.out
            have q5 := HL5.out
            have q6 : nameOk [] = false := rfl
            (try (rw [q6] at q1; subst q1))
            (try (rw [q6] at q2; subst q2))
            (try have g := (show t ≠ 0 from by simpa using (by assumption : (t != 0) = true)))
            (try have g := (show t = 0 from by simpa using (by assumption : (t != 0) = false)))
            simp [headM, St.kind, St.name, St.typ, St.callee, St.args, St.body, St.els, rowOf, fldM, namedM, cast_beq0, *]
            all_goals (intros; simp_all)
  · have e : headM (.mk 10 n s t c xs bs es) = false := by
      rw [Bool.eq_false_iff]
      intro hh
      have := headM_len hh rfl
      simp only [St.args] at this
      omega
    rw [e]
    have hl' : (xs.length : Int) < 1 ∨ (¬ (xs.length : Int) < 1 ∧ 1 < (xs.length : Int)) := by omega
    clear e hl
    rcases hl' with hl | ⟨hl, hl2⟩
    all_goals (try (exfalso; omega))
    all_goals
      go_enter Tryz.func89, Tryz.ntmps89
      go_wp2_with fail
      refine (refRow_any _ _).mono ?_
      rintro r w1 ⟨rfl, rfl⟩
      simp only [refRow]
      go_wp2_with fail
      go_ret
      exact ⟨rfl, (bl w).al _⟩
end Go.Proofs.YtgeleppmhhodiaaGreatDoor
