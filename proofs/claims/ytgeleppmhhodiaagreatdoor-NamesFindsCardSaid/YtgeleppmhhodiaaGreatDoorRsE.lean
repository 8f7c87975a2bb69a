/- rewindref03.Func answers as the shape says, for functions in memory. -/
import Derived.Test.YtgeleppmhhodiaaGreatDoorRsD
namespace Go.Proofs.YtgeleppmhhodiaaGreatDoor
open Go Go.RowKit
set_option linter.unusedSimpArgs false
set_option linter.unusedVariables false
set_option linter.unnecessarySimpa false
theorem fnCells_alloc (w : World) (v0 v1 v2 v3 v4 : Value) (t : TypeId) : (w.alloc (.cells #[v0, v1, v2, v3, v4] t)).cell? ⟨w.heap.size, 0, none⟩ = some v0 ∧ (w.alloc (.cells #[v0, v1, v2, v3, v4] t)).cell? ⟨w.heap.size, 1, none⟩ = some v1 ∧ (w.alloc (.cells #[v0, v1, v2, v3, v4] t)).cell? ⟨w.heap.size, 2, none⟩ = some v2 ∧
    (w.alloc (.cells #[v0, v1, v2, v3, v4] t)).cell? ⟨w.heap.size, 3, none⟩ = some v3 ∧ (w.alloc (.cells #[v0, v1, v2, v3, v4] t)).cell? ⟨w.heap.size, 4, none⟩ = some v4 :=
  ⟨cell_of_list _ [v0, v1, v2, v3, v4] t 0 _ rfl, cell_of_list _ [v0, v1, v2, v3, v4] t 1 _ rfl, cell_of_list _ [v0, v1, v2, v3, v4] t 2 _ rfl, cell_of_list _ [v0, v1, v2, v3, v4] t 3 _ rfl, cell_of_list _ [v0, v1, v2, v3, v4] t 4 _ rfl⟩
set_option maxRecDepth 20000 in
set_option maxHeartbeats 8000000 in
theorem refFunc_any (f : Fn) (v : Value) (w : World) (hv : Fn.Val w f v) :
    Calls Tryz.prog 48 #[v] w fun r w' => r = .returned (.bool (fnOk f)) ∧ Below w.heap.size w w' := by
  obtain ⟨pp, pb, cp, cb, rfl, hw, hp, hr⟩ := hv
  have hlen : f.params.length ≤ 9223372036854775807 := Nat.le_trans hp.len hp.cap
  have hsl := hw.s
  have HNM := hide fun W => refName_any f.name W hsl
  have hlb : f.body.length ≤ maxLen := Nat.le_trans hw.lb hw.cb
  have HSZ := hide fun (W : World) (hW : Below w.heap.size w W) => refSize_any f.body pb cb W (hr.keep hW (Nat.le_refl _)) hlb
  have HPS := hide hp
  have HTY := hide fun W => refTyp_any f.result W
  clear hw hp hr hsl hlb
  cases hq : nameOk f.name
  · rw [hq] at HNM
    have HQN := hide hq
    clear hq
    go_enter Tryz.func48, Tryz.ntmps48
    go_wp2_with fail
    refine (HNM.out _).mono ?_
    rintro r w1 ⟨rfl, hb1⟩
    obtain ⟨hc1, _⟩ := bcell hb1
    have hz1 : w.heap.size < w1.heap.size := by have := hb1.size; simp at this; omega
    go_wp2_with fail
    go_ret
    refine ⟨ret_bool ?_, ((bl w).al _).tr hb1⟩
    have q := HQN.out
    simp only [fnOk, q, Bool.false_and]
  · rw [hq] at HNM
    have HQN := hide hq
    clear hq
    by_cases hl : (f.params.length : Int) ≤ 8
    · have HL : Hid (f.params.length ≤ 8) := hide (by omega)
      by_cases hres : f.result = 0
      · have HRES : Hid ((decide (f.result = 0) || typedM f.result) = true) := hide (by simp [hres])
        by_cases hs : wellM 20 f.body = true ∧ (cntL f.body : Int) ≤ 200
        · have e : sizeR 20 200 f.body = (cntL f.body : Nat) := by unfold sizeR; rw [if_pos hs]
          rw [e] at HSZ
          have HS := hide hs
          clear e hs
          go_enter Tryz.func48, Tryz.ntmps48
          go_wp2_with fail
          refine (HNM.out _).mono ?_
          rintro r w1 ⟨rfl, hb1⟩
          obtain ⟨hc1, _⟩ := bcell hb1
          have hz1 : w.heap.size < w1.heap.size := by have := hb1.size; simp at this; omega
          skip
          go_wp2_with fail
          (with_reducible refine (HSZ.out _ (((bl w).al _).tr hb1)).mono ?_)
          rintro r w3 ⟨rfl, hb3⟩
          obtain ⟨hc3, _⟩ := bcell hb3
          have hz3 : w.heap.size < w3.heap.size := by have := hb3.size; omega
          have hbx : Below w.heap.size w w3 := (((bl w).al _).tr hb1).tr hb3
          have cB : w3.cell? ⟨w.heap.size, 1, none⟩ = some (.slice pp f.params.length cp) := by (rw [hc3 _ _ hz1, hc1 _ _ (by simp)]; go_simp)
          have HCB := hide cB
          go_wp2_with fail
          clear hc1 hc3 cB
          go_loopw [3] (fun i wr => ∃ k : Nat, k ≤ f.params.length ∧ i = .int .i64 k ∧ Hid (∀ p ∈ f.params.take k, pmOk p = true) ∧ Below w3.heap.size w3 wr) (fun i _ => f.params.length - (intOf i).toNat)
          case atStart => exact ⟨0, Nat.zero_le _, rfl, by simp [Hid], bl _⟩
          case round =>
            obtain ⟨k, hk, rfl, hall, hb⟩ := hrel
            have cB := cell_keep HCB.out hb (Nat.le_refl _)
            have hzl := cell_lt cB
            simp only at hzl
            have hbw := hbx.tr hb
            by_cases hlt : k < f.params.length
            · obtain ⟨b, o, rfl⟩ := HPS.out.addr (by omega)
              obtain ⟨d0, d1⟩ := HPS.out.at_ b o rfl k hlt
              have d0 := cell_keep d0 hbw (Nat.le_refl _)
              have d1 := cell_keep d1 hbw (Nat.le_refl _)
              have hbl := cell_lt d0
              simp only at hbl
              have hpn := (HPS.out.wf _ (List.getElem_mem hlt)).1
              have HPN := hide fun W => refName_any f.params[k].name W hpn
              have HT := hide (List.take_succ_eq_append_getElem hlt)
              have HMEM := hide (List.getElem_mem hlt)
              clear hpn
              cases hpq : nameOk f.params[k].name
              · have HF : Hid (f.params.all pmOk = false) := hide (by rw [List.all_eq_false]; exact ⟨_, HMEM.out, by simp [pmOk, hpq]⟩)
                rw [hpq] at HPN
                clear hpq
                go_wp2_with fail
                (with_reducible refine (HPN.out _).mono ?_)
                rintro r w4 ⟨rfl, hb4⟩
                go_wp2_with fail
                go_ret
                refine ⟨ret_bool ?_, hbw.tr hb4⟩
                have := HF.out
                simp [fnOk, this]
              · rw [hpq] at HPN
                cases hpt : typedM f.params[k].typ
                · have HF : Hid (f.params.all pmOk = false) := hide (by rw [List.all_eq_false]; exact ⟨_, HMEM.out, by simp [pmOk, hpt]⟩)
                  have HPT := hide fun W => refTyp_any f.params[k].typ W
                  rw [hpt] at HPT
                  clear hpq hpt
                  go_wp2_with fail
                  (with_reducible refine (HPN.out _).mono ?_)
                  rintro r w4 ⟨rfl, hb4⟩
                  obtain ⟨hc4, _⟩ := bcell hb4
                  go_wp2_with fail
                  (with_reducible refine (HPT.out _).mono ?_)
                  rintro r w5 ⟨rfl, rfl⟩
                  go_wp2_with fail
                  go_ret
                  refine ⟨ret_bool ?_, hbw.tr hb4⟩
                  have := HF.out
                  simp [fnOk, this]
                · have HOK : Hid (pmOk f.params[k] = true) := hide (by simp [pmOk, hpq, hpt])
                  have HPT := hide fun W => refTyp_any f.params[k].typ W
                  rw [hpt] at HPT
                  clear hpq hpt
                  go_wp2_with fail
                  (with_reducible refine (HPN.out _).mono ?_)
                  rintro r w4 ⟨rfl, hb4⟩
                  obtain ⟨hc4, _⟩ := bcell hb4
                  go_wp2_with fail
                  (with_reducible refine (HPT.out _).mono ?_)
                  rintro r w5 ⟨rfl, rfl⟩
                  go_wp2_with fail
                  go_roundw
                  case rel =>
                    refine ⟨k + 1, by omega, by go_num, ?_, hb.tr hb4⟩
                    intro p hp
                    rw [HT.out, List.mem_append, List.mem_singleton] at hp
                    rcases hp with hp | rfl
                    · exact hall p hp
                    · exact HOK.out
                  case measure => simp [intOf]; omega
            · obtain rfl : k = f.params.length := by omega
              have HF : Hid (f.params.all pmOk = true) := hide (by rw [List.all_eq_true]; intro p hp; exact hall p (by simpa using hp))
              go_wp2_with fail
              go_ret
              refine ⟨ret_bool ?_, hbw⟩
              have q1 := HF.out
              have q2 := HS.out
              have q3 := HQN.out
              have q4 := HL.out
              have q5 := HRES.out
              have q6 : cntL f.body ≤ 200 := by omega
              simp only [fnOk, q1, q2.1, q3, q5, decide_eq_true q4, decide_eq_true q6, Bool.and_self]
        · have e : sizeR 20 200 f.body = -1 := by unfold sizeR; rw [if_neg hs]
          rw [e] at HSZ
          have HS : Hid ((wellM 20 f.body && decide (cntL f.body ≤ 200)) = false) := hide (by
            rw [Bool.eq_false_iff]
            intro h
            simp only [Bool.and_eq_true, decide_eq_true_eq] at h
            exact hs ⟨h.1, by omega⟩)
          clear e hs
          go_enter Tryz.func48, Tryz.ntmps48
          go_wp2_with fail
          refine (HNM.out _).mono ?_
          rintro r w1 ⟨rfl, hb1⟩
          obtain ⟨hc1, _⟩ := bcell hb1
          have hz1 : w.heap.size < w1.heap.size := by have := hb1.size; simp at this; omega
          skip
          go_wp2_with fail
          (with_reducible refine (HSZ.out _ (((bl w).al _).tr hb1)).mono ?_)
          rintro r w3 ⟨rfl, hb3⟩
          obtain ⟨hc3, _⟩ := bcell hb3
          have hz3 : w.heap.size < w3.heap.size := by have := hb3.size; omega
          go_wp2_with fail
          go_ret
          refine ⟨ret_bool ?_, (((bl w).al _).tr hb1).tr hb3⟩
          have q := HS.out
          simp only [fnOk, q, Bool.and_false]
      · have hres' : (f.result != 0) = true := by simpa using hres
        cases hty : typedM f.result
        · rw [hty] at HTY
          have HRES : Hid ((decide (f.result = 0) || typedM f.result) = false) := hide (by simp [hres, hty])
          clear hres hty
          go_enter Tryz.func48, Tryz.ntmps48
          go_wp2_with fail
          refine (HNM.out _).mono ?_
          rintro r w1 ⟨rfl, hb1⟩
          obtain ⟨hc1, _⟩ := bcell hb1
          have hz1 : w.heap.size < w1.heap.size := by have := hb1.size; simp at this; omega
          go_wp2_with fail
          (with_reducible refine (HTY.out _).mono ?_)
          rintro r w2 ⟨rfl, rfl⟩
          go_wp2_with fail
          go_ret
          refine ⟨ret_bool ?_, ((bl w).al _).tr hb1⟩
          have q := HRES.out
          simp only [fnOk, q, Bool.and_false, Bool.false_and]
        · rw [hty] at HTY
          have HRES : Hid ((decide (f.result = 0) || typedM f.result) = true) := hide (by simp [hres, hty])
          clear hres hty
          by_cases hs : wellM 20 f.body = true ∧ (cntL f.body : Int) ≤ 200
          · have e : sizeR 20 200 f.body = (cntL f.body : Nat) := by unfold sizeR; rw [if_pos hs]
            rw [e] at HSZ
            have HS := hide hs
            clear e hs
            go_enter Tryz.func48, Tryz.ntmps48
            go_wp2_with fail
            refine (HNM.out _).mono ?_
            rintro r w1 ⟨rfl, hb1⟩
            obtain ⟨hc1, _⟩ := bcell hb1
            have hz1 : w.heap.size < w1.heap.size := by have := hb1.size; simp at this; omega
            (go_wp2_with fail; (with_reducible refine (HTY.out _).mono ?_); rintro r w2 ⟨rfl, rfl⟩)
            go_wp2_with fail
            (with_reducible refine (HSZ.out _ (((bl w).al _).tr hb1)).mono ?_)
            rintro r w3 ⟨rfl, hb3⟩
            obtain ⟨hc3, _⟩ := bcell hb3
            have hz3 : w.heap.size < w3.heap.size := by have := hb3.size; omega
            have hbx : Below w.heap.size w w3 := (((bl w).al _).tr hb1).tr hb3
            have cB : w3.cell? ⟨w.heap.size, 1, none⟩ = some (.slice pp f.params.length cp) := by (rw [hc3 _ _ hz1, hc1 _ _ (by simp)]; go_simp)
            have HCB := hide cB
            go_wp2_with fail
            clear hc1 hc3 cB
            go_loopw [3] (fun i wr => ∃ k : Nat, k ≤ f.params.length ∧ i = .int .i64 k ∧ Hid (∀ p ∈ f.params.take k, pmOk p = true) ∧ Below w3.heap.size w3 wr) (fun i _ => f.params.length - (intOf i).toNat)
            case atStart => exact ⟨0, Nat.zero_le _, rfl, by simp [Hid], bl _⟩
            case round =>
              obtain ⟨k, hk, rfl, hall, hb⟩ := hrel
              have cB := cell_keep HCB.out hb (Nat.le_refl _)
              have hzl := cell_lt cB
              simp only at hzl
              have hbw := hbx.tr hb
              by_cases hlt : k < f.params.length
              · obtain ⟨b, o, rfl⟩ := HPS.out.addr (by omega)
                obtain ⟨d0, d1⟩ := HPS.out.at_ b o rfl k hlt
                have d0 := cell_keep d0 hbw (Nat.le_refl _)
                have d1 := cell_keep d1 hbw (Nat.le_refl _)
                have hbl := cell_lt d0
                simp only at hbl
                have hpn := (HPS.out.wf _ (List.getElem_mem hlt)).1
                have HPN := hide fun W => refName_any f.params[k].name W hpn
                have HT := hide (List.take_succ_eq_append_getElem hlt)
                have HMEM := hide (List.getElem_mem hlt)
                clear hpn
                cases hpq : nameOk f.params[k].name
                · have HF : Hid (f.params.all pmOk = false) := hide (by rw [List.all_eq_false]; exact ⟨_, HMEM.out, by simp [pmOk, hpq]⟩)
                  rw [hpq] at HPN
                  clear hpq
                  go_wp2_with fail
                  (with_reducible refine (HPN.out _).mono ?_)
                  rintro r w4 ⟨rfl, hb4⟩
                  go_wp2_with fail
                  go_ret
                  refine ⟨ret_bool ?_, hbw.tr hb4⟩
                  have := HF.out
                  simp [fnOk, this]
                · rw [hpq] at HPN
                  cases hpt : typedM f.params[k].typ
                  · have HF : Hid (f.params.all pmOk = false) := hide (by rw [List.all_eq_false]; exact ⟨_, HMEM.out, by simp [pmOk, hpt]⟩)
                    have HPT := hide fun W => refTyp_any f.params[k].typ W
                    rw [hpt] at HPT
                    clear hpq hpt
                    go_wp2_with fail
                    (with_reducible refine (HPN.out _).mono ?_)
                    rintro r w4 ⟨rfl, hb4⟩
                    obtain ⟨hc4, _⟩ := bcell hb4
                    go_wp2_with fail
                    (with_reducible refine (HPT.out _).mono ?_)
                    rintro r w5 ⟨rfl, rfl⟩
                    go_wp2_with fail
                    go_ret
                    refine ⟨ret_bool ?_, hbw.tr hb4⟩
                    have := HF.out
                    simp [fnOk, this]
                  · have HOK : Hid (pmOk f.params[k] = true) := hide (by simp [pmOk, hpq, hpt])
                    have HPT := hide fun W => refTyp_any f.params[k].typ W
                    rw [hpt] at HPT
                    clear hpq hpt
                    go_wp2_with fail
                    (with_reducible refine (HPN.out _).mono ?_)
                    rintro r w4 ⟨rfl, hb4⟩
                    obtain ⟨hc4, _⟩ := bcell hb4
                    go_wp2_with fail
                    (with_reducible refine (HPT.out _).mono ?_)
                    rintro r w5 ⟨rfl, rfl⟩
                    go_wp2_with fail
                    go_roundw
                    case rel =>
                      refine ⟨k + 1, by omega, by go_num, ?_, hb.tr hb4⟩
                      intro p hp
                      rw [HT.out, List.mem_append, List.mem_singleton] at hp
                      rcases hp with hp | rfl
                      · exact hall p hp
                      · exact HOK.out
                    case measure => simp [intOf]; omega
              · obtain rfl : k = f.params.length := by omega
                have HF : Hid (f.params.all pmOk = true) := hide (by rw [List.all_eq_true]; intro p hp; exact hall p (by simpa using hp))
                go_wp2_with fail
                go_ret
                refine ⟨ret_bool ?_, hbw⟩
                have q1 := HF.out
                have q2 := HS.out
                have q3 := HQN.out
                have q4 := HL.out
                have q5 := HRES.out
                have q6 : cntL f.body ≤ 200 := by omega
                simp only [fnOk, q1, q2.1, q3, q5, decide_eq_true q4, decide_eq_true q6, Bool.and_self]
          · have e : sizeR 20 200 f.body = -1 := by unfold sizeR; rw [if_neg hs]
            rw [e] at HSZ
            have HS : Hid ((wellM 20 f.body && decide (cntL f.body ≤ 200)) = false) := hide (by
              rw [Bool.eq_false_iff]
              intro h
              simp only [Bool.and_eq_true, decide_eq_true_eq] at h
              exact hs ⟨h.1, by omega⟩)
            clear e hs
            go_enter Tryz.func48, Tryz.ntmps48
            go_wp2_with fail
            refine (HNM.out _).mono ?_
            rintro r w1 ⟨rfl, hb1⟩
            obtain ⟨hc1, _⟩ := bcell hb1
            have hz1 : w.heap.size < w1.heap.size := by have := hb1.size; simp at this; omega
            (go_wp2_with fail; (with_reducible refine (HTY.out _).mono ?_); rintro r w2 ⟨rfl, rfl⟩)
            go_wp2_with fail
            (with_reducible refine (HSZ.out _ (((bl w).al _).tr hb1)).mono ?_)
            rintro r w3 ⟨rfl, hb3⟩
            obtain ⟨hc3, _⟩ := bcell hb3
            have hz3 : w.heap.size < w3.heap.size := by have := hb3.size; omega
            go_wp2_with fail
            go_ret
            refine ⟨ret_bool ?_, (((bl w).al _).tr hb1).tr hb3⟩
            have q := HS.out
            simp only [fnOk, q, Bool.and_false]
    · have HL : Hid (decide (f.params.length ≤ 8) = false) := hide (by simp; omega)
      have hl' : (8 : Int) < (f.params.length : Int) := by omega
      go_enter Tryz.func48, Tryz.ntmps48
      go_wp2_with fail
      refine (HNM.out _).mono ?_
      rintro r w1 ⟨rfl, hb1⟩
      obtain ⟨hc1, _⟩ := bcell hb1
      have hz1 : w.heap.size < w1.heap.size := by have := hb1.size; simp at this; omega
      go_wp2_with fail
      go_ret
      refine ⟨ret_bool ?_, ((bl w).al _).tr hb1⟩
      have q := HL.out
      simp only [fnOk, q, Bool.and_false, Bool.false_and]
end Go.Proofs.YtgeleppmhhodiaaGreatDoor
