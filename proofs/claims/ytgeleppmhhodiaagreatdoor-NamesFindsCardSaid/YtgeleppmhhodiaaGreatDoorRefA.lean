/- rewindref03.Name answers nameOk for every string. -/
import Derived.Test.YtgeleppmhhodiaaGreatDoorShA
namespace Go.Proofs.YtgeleppmhhodiaaGreatDoor
open Go Go.RowKit
set_option linter.unusedSimpArgs false
set_option linter.unusedVariables false
set_option linter.unnecessarySimpa false
def letterM (c : UInt8) : Bool := (decide (65 ≤ c.toNat) && decide (c.toNat ≤ 90)) || (decide (97 ≤ c.toNat) && decide (c.toNat ≤ 122))
def digitM (c : UInt8) : Bool := decide (48 ≤ c.toNat) && decide (c.toNat ≤ 57)
theorem letters_all : ∀ n : Fin 256, letters.contains (UInt8.ofNat n.val) = letterM (UInt8.ofNat n.val) := by decide +kernel
theorem later_all : ∀ n : Fin 256, later.contains (UInt8.ofNat n.val) = (letterM (UInt8.ofNat n.val) || digitM (UInt8.ofNat n.val) || UInt8.ofNat n.val == 95) := by decide +kernel
theorem letters_eq (c : UInt8) : letters.contains c = letterM c := by
  have h := letters_all ⟨c.toNat, c.toNat_lt⟩
  simpa only [UInt8.ofNat_toNat] using h
theorem later_eq (c : UInt8) : later.contains c = (letterM c || digitM c || c == 95) := by
  have h := later_all ⟨c.toNat, c.toNat_lt⟩
  simpa only [UInt8.ofNat_toNat] using h
theorem letter_any (c : UInt8) (w : World) : Calls Tryz.prog 75 #[.int .u8 c.toNat] w fun e w' => e = .returned (.bool (letterM c)) ∧ w = w' := by
  unfold letterM
  generalize c.toNat = n
  have hc : n < 65 ∨ (65 ≤ n ∧ n ≤ 90) ∨ (90 < n ∧ n < 97) ∨ (97 ≤ n ∧ n ≤ 122) ∨ 122 < n := by omega
  rcases hc with h | h | h | h | h
  all_goals
    go_enter Tryz.func75, Tryz.ntmps75
    go_wp2
    go_ret
    refine ⟨ret_bool ?_, rfl⟩
    first
      | (rw [Bool.eq_iff_iff]; done)
      | (rw [Bool.eq_iff_iff]; simp; done)
      | (rw [Bool.eq_iff_iff]; simp; omega)
theorem digit_any (c : UInt8) (w : World) : Calls Tryz.prog 76 #[.int .u8 c.toNat] w fun e w' => e = .returned (.bool (digitM c)) ∧ w = w' := by
  unfold digitM
  generalize c.toNat = n
  have hc : n < 48 ∨ (48 ≤ n ∧ n ≤ 57) ∨ 57 < n := by omega
  rcases hc with h | h | h
  all_goals
    go_enter Tryz.func76, Tryz.ntmps76
    go_wp2
    go_ret
    refine ⟨ret_bool ?_, rfl⟩
    first
      | (rw [Bool.eq_iff_iff]; done)
      | (rw [Bool.eq_iff_iff]; simp; done)
      | (rw [Bool.eq_iff_iff]; simp; omega)
set_option maxHeartbeats 400000 in
theorem Keywords_any (w : World) : Calls Tryz.prog 77 #[] w fun e w' => e = .returned (.slice (some ⟨w.heap.size, 0, none⟩) 15 15) ∧ w' = w.alloc (.cells (kwords.map fun l => Value.string ⟨l.toArray⟩).toArray 9) := by
  go_enter Tryz.func77, Tryz.ntmps77
  go_wp2
  go_ret
  exact ⟨rfl, rfl⟩
def okc (c : UInt8) : Bool := letterM c || digitM c || c == 95
theorem nameOk_cons (c : UInt8) (t : Bytes) : nameOk (c :: t) = (decide (t.length + 1 ≤ 16) && letterM c && (c :: t).all okc && !kwords.contains (c :: t)) := by
  have e : later.contains = okc := funext later_eq
  unfold nameOk
  rw [e, List.headD_cons, letters_eq]
  simp
set_option maxHeartbeats 1000000 in
theorem refName_any (s : Bytes) (w : World) (hs : s.length ≤ maxLen) : Calls Tryz.prog 57 #[.string ⟨s.toArray⟩] w fun e w' => e = .returned (.bool (nameOk s)) ∧ Below w.heap.size w w' := by
  unfold maxLen at hs
  cases s with
  | nil =>
    go_enter Tryz.func57, Tryz.ntmps57
    go_wp2
    go_ret
    exact ⟨rfl, bl w⟩
  | cons c t =>
    rw [nameOk_cons]
    have hl0 : (c :: t).length = t.length + 1 := rfl
    rw [hl0] at hs
    by_cases hl : (t.length : Int) + 1 ≤ 16
    · have hl' : decide (t.length + 1 ≤ 16) = true := by simpa using (by omega : t.length + 1 ≤ 16)
      rw [hl']
      have h1 := fun w => letter_any c w
      cases hq : letterM c
      all_goals
        rw [hq] at h1
        clear hl'
      · go_enter Tryz.func57, Tryz.ntmps57
        go_wp2_with fail
        refine (h1 _).mono ?_
        rintro e w1 ⟨rfl, rfl⟩
        go_wp2_with fail
        go_ret
        exact ⟨ret_bool (by simp), bl w⟩
      · go_enter Tryz.func57, Tryz.ntmps57
        go_wp2_with fail
        refine (h1 _).mono ?_
        rintro e w1 ⟨rfl, rfl⟩
        have hz16 : (c :: t).length ≤ 16 := by rw [hl0]; omega
        go_wp2_with fail
        generalize Value.int IntKind.u8 ((UInt8.toNat _ : Nat) : Int) = v0
        generalize hz : c :: t = z at *
        have HZ := hide hz
        clear h1 hl0 hs hl hz
        go_loop [3] (fun i => ∃ k : Nat, k ≤ z.length ∧ i = .int .i64 k ∧ Hid ((z.take k).all okc = true)) (fun i => z.length - (intOf i).toNat)
        case atStart => exact ⟨0, Nat.zero_le _, rfl, by simp [Hid]⟩
        case round =>
          obtain ⟨k, hk, rfl, hn⟩ := hrel
          by_cases hlt : k < z.length
          · have ha := fun w => letter_any z[k] w
            have hd := fun w => digit_any z[k] w
            have HO : Hid (okc z[k] = (letterM z[k] || digitM z[k] || z[k] == 95)) := hide rfl
            cases hq1 : letterM z[k]
            all_goals
              rw [hq1] at ha HO
              clear hq1
            · cases hq2 : digitM z[k]
              all_goals
                rw [hq2] at hd HO
                clear hq2
              · go_wp2_with fail
                refine (ha _).mono ?_
                rintro e w1 ⟨rfl, rfl⟩
                go_wp2_with fail
                refine (hd _).mono ?_
                rintro e w1 ⟨rfl, rfl⟩
                go_wp2_with fail
                · have hx : ((z[k].toNat : Int) != 95) = true := by
                    first
                      | (rename_i hx; exact hx)
                      | (rename_i hx _; exact hx)
                  go_ret
                  refine ⟨ret_bool ?_, bl w⟩
                  have hy : (z[k] == 95) = false := by
                    rw [beq_eq_false_iff_ne]
                    intro e
                    rw [e] at hx
                    cases hx
                  have ho := HO.out
                  rw [hy] at ho
                  have ha : z.all okc = false := by
                    rw [List.all_eq_false]
                    exact ⟨z[k], List.getElem_mem hlt, by simpa using ho⟩
                  rw [← HZ.out] at ha
                  rw [ha]
                  simp
                · have hx : ((z[k].toNat : Int) != 95) = false := by
                    first
                      | (rename_i hx; exact hx)
                      | (rename_i hx _; exact hx)
                  have hy : (z[k] == 95) = true := by
                    have h9 : z[k].toNat = 95 := by simp at hx; omega
                    rw [beq_iff_eq]
                    exact UInt8.toNat_inj.1 (by rw [h9]; rfl)
                  rw [hy] at HO
                  refine ⟨⟨k + 1, by omega, by go_num, ?_⟩, by simp [intOf]; omega⟩
                  show _ = true
                  rw [List.take_succ_eq_append_getElem hlt, List.all_append, hn.out]
                  simpa using HO.out
              · go_wp2_with fail
                refine (ha _).mono ?_
                rintro e w1 ⟨rfl, rfl⟩
                go_wp2_with fail
                refine (hd _).mono ?_
                rintro e w1 ⟨rfl, rfl⟩
                go_wp2_with fail
                refine ⟨⟨k + 1, by omega, by go_num, ?_⟩, by simp [intOf]; omega⟩
                show _ = true
                rw [List.take_succ_eq_append_getElem hlt, List.all_append, hn.out]
                simpa using HO.out
            · go_wp2_with fail
              refine (ha _).mono ?_
              rintro e w1 ⟨rfl, rfl⟩
              go_wp2_with fail
              refine ⟨⟨k + 1, by omega, by go_num, ?_⟩, by simp [intOf]; omega⟩
              show _ = true
              rw [List.take_succ_eq_append_getElem hlt, List.all_append, hn.out]
              simpa using HO.out
          · obtain rfl : k = z.length := by omega
            have hall : z.all okc = true := by have := hn.out; rwa [List.take_length] at this
            have HALL := hide hall
            clear hall hn hk hlt
            go_wp2_with fail
            refine (Keywords_any _).mono ?_
            rintro e w1 ⟨rfl, rfl⟩
            have HC : Hid (∀ (j : Nat) (h : j < kwords.length), (w.alloc (.cells (kwords.map fun l => Value.string ⟨l.toArray⟩).toArray 9)).cell? ⟨w.heap.size, j, none⟩ = some (.string ⟨(kwords[j]).toArray⟩)) := hide fun j h => cell_of_list _ _ _ _ _ (by simp [h])
            have hb1 := (bl w).al (.cells (kwords.map fun l => Value.string ⟨l.toArray⟩).toArray 9)
            have hsz : w.heap.size < (w.alloc (.cells (kwords.map fun l => Value.string ⟨l.toArray⟩).toArray 9)).heap.size := by simp
            generalize w.alloc (.cells (kwords.map fun l => Value.string ⟨l.toArray⟩).toArray 9) = w1 at *
            go_wp2_with fail
            go_loop [5] (fun i => ∃ k : Nat, k ≤ 15 ∧ i = .int .i64 k ∧ Hid (∀ (j : Nat) (h : j < kwords.length), j < k → kwords[j] ≠ z)) (fun i => 15 - (intOf i).toNat)
            case atStart => exact ⟨0, Nat.zero_le _, rfl, fun j _ hj => absurd hj (Nat.not_lt_zero _)⟩
            case round =>
              obtain ⟨k, hk, rfl, hn⟩ := hrel
              by_cases hlt : k < 15
              · have hlt' : k < kwords.length := hlt
                have hc := HC.out k hlt'
                cases hq : kwords[k] == z
                all_goals
                  have HQ := hide hq
                · go_wp2_with fail
                  refine ⟨⟨k + 1, by omega, by go_num, fun j h hj => ?_⟩, by simp [intOf]; omega⟩
                  by_cases e : j = k
                  · subst e; simpa using HQ.out
                  · exact hn j h (by omega)
                · go_wp2_with fail
                  · go_ret
                    refine ⟨ret_bool ?_, hb1⟩
                    have hm : z ∈ kwords := by
                      have h2 : kwords[k] = z := by simpa using HQ.out
                      rw [← h2]
                      exact List.getElem_mem hlt'
                    rw [← HZ.out] at hm
                    simp [hm]
              · obtain rfl : k = 15 := by omega
                go_wp2_with fail
                go_ret
                refine ⟨ret_bool ?_, hb1⟩
                have hm : z ∉ kwords := by
                  rw [List.mem_iff_getElem]
                  rintro ⟨j, hj, e⟩
                  exact hn.out j hj hj e
                have ha := HALL.out
                rw [← HZ.out, List.all_cons] at ha
                rw [← HZ.out] at hm
                rw [ha]
                simp [hm]
    · go_enter Tryz.func57, Tryz.ntmps57
      go_wp2
      go_ret
      refine ⟨ret_bool ?_, bl w⟩
      have h2 : ¬ t.length + 1 ≤ 16 := by omega
      simp
      intro h; omega
end Go.Proofs.YtgeleppmhhodiaaGreatDoor
