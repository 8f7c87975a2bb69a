/- shape.fits answers fitsM for every expression of bounded lengths, where the table of blanks is laid. -/
import Derived.Test.YtccgpmncpemmdaaDoorShA
namespace Go.Proofs.YtccgpmncpemmdaaDoor
open Go Go.RowKit
set_option linter.unusedSimpArgs false
set_option linter.unusedVariables false
set_option linter.unnecessarySimpa false
set_option maxHeartbeats 400000 in
theorem parts_any (w : World) : Calls Tryd.prog 95 #[] w fun e w' => e = .returned (.slice (some ⟨w.heap.size, 0, none⟩) 8 8) ∧ w' = w.alloc (.cells #[
    .bool false, .int .i64 0, .int .i64 0, .int .i64 0, .int .i64 0,
    .bool false, .int .i64 0, .int .i64 0, .int .i64 (-1), .int .i64 0,
    .bool false, .int .i64 0, .int .i64 0, .int .i64 1, .int .i64 0,
    .bool true, .int .i64 0, .int .i64 0, .int .i64 0, .int .i64 0,
    .bool false, .int .i64 14, .int .i64 15, .int .i64 0, .int .i64 1,
    .bool false, .int .i64 1, .int .i64 13, .int .i64 0, .int .i64 2,
    .bool true, .int .i64 0, .int .i64 0, .int .i64 0, .int .i64 1,
    .bool true, .int .i64 0, .int .i64 0, .int .i64 0, .int .i64 0] 165) := by
  go_enter Tryd.func95, Tryd.ntmps95
  go_wp2
  go_ret
  exact ⟨rfl, rfl⟩
/-- What the fields of an expression have to be, by its kind. -/
def partOf (k : Int) : Option (Bool × Int × Int × Int × Nat) :=
  if k = 1 then some (false, 0, 0, -1, 0) else if k = 2 then some (false, 0, 0, 1, 0) else if k = 3 then some (true, 0, 0, 0, 0) else if k = 4 then some (false, 14, 15, 0, 1)
  else if k = 5 then some (false, 1, 13, 0, 2) else if k = 6 then some (true, 0, 0, 0, 1) else if k = 7 then some (true, 0, 0, 0, 0) else none
def fitsM (k o n : Int) (s : Bytes) (len : Nat) : Bool :=
  match partOf k with
  | none => false
  | some (nm, least, most, num, args) => (nm == !s.isEmpty) && (!nm || nameOk s) && decide (least ≤ o) && decide (o ≤ most) && decide (0 ≤ n) && (decide (num < 0) || decide (n ≤ num)) && decide (len = args)
set_option maxHeartbeats 1000000 in
theorem fits_any (k o n : Int) (s : Bytes) (a : Option Addr) (len cap : Nat) (w : World) (hT : Tab w) (hs : s.length ≤ maxLen) (hl : len ≤ maxLen) :
    Calls Tryd.prog 90 #[.agg #[.int .i64 k, .int .i64 o, .int .i64 n, .string ⟨s.toArray⟩, .slice a len cap]] w fun e w' => e = .returned (.bool (fitsM k o n s len)) ∧ Below w.heap.size w w' := by
  have HS := hide hs
  have hl' : len ≤ 9223372036854775807 := hl
  clear hs hl
  by_cases hk : 1 ≤ k ∧ k ≤ 7
  · have hcases : k = 1 ∨ k = 2 ∨ k = 3 ∨ k = 4 ∨ k = 5 ∨ k = 6 ∨ k = 7 := by omega
    clear hk
    have hN : ∀ W, Tab W → Calls Tryd.prog 50 #[.string ⟨s.toArray⟩] W fun e w' => e = .returned (.bool (nameOk s)) ∧ Below W.heap.size W w' := fun W h => name_any s W h HS.out
    have HT := hide hT
    clear hT
    rcases hcases with rfl | rfl | rfl | rfl | rfl | rfl | rfl
    · clear hN
      match s with
      | [] =>
        go_enter Tryd.func90, Tryd.ntmps90
        go_wp2_with (go_at_call 95; refine (parts_any _).mono ?_; rintro e w' ⟨rfl, rfl⟩)
        all_goals
          go_ret
          refine ⟨ret_bool ?_, (((bl w).al _).al _).al _⟩
          simp [fitsM, partOf]
          try first | omega | (rw [Bool.eq_iff_iff]; simp; omega)
      | c :: t =>
        go_enter Tryd.func90, Tryd.ntmps90
        go_wp2_with (go_at_call 95; refine (parts_any _).mono ?_; rintro e w' ⟨rfl, rfl⟩)
        go_ret
        exact ⟨ret_bool rfl, (((bl w).al _).al _).al _⟩
    · clear hN
      match s with
      | [] =>
        go_enter Tryd.func90, Tryd.ntmps90
        go_wp2_with (go_at_call 95; refine (parts_any _).mono ?_; rintro e w' ⟨rfl, rfl⟩)
        all_goals
          go_ret
          refine ⟨ret_bool ?_, (((bl w).al _).al _).al _⟩
          simp [fitsM, partOf]
          try first | omega | (rw [Bool.eq_iff_iff]; simp; omega)
      | c :: t =>
        go_enter Tryd.func90, Tryd.ntmps90
        go_wp2_with (go_at_call 95; refine (parts_any _).mono ?_; rintro e w' ⟨rfl, rfl⟩)
        go_ret
        exact ⟨ret_bool rfl, (((bl w).al _).al _).al _⟩
    · match s with
      | [] =>
        clear hN
        go_enter Tryd.func90, Tryd.ntmps90
        go_wp2_with (go_at_call 95; refine (parts_any _).mono ?_; rintro e w' ⟨rfl, rfl⟩)
        go_ret
        exact ⟨ret_bool rfl, (((bl w).al _).al _).al _⟩
      | c :: t =>
        cases hq : nameOk (c :: t)
        all_goals
          simp only [hq] at hN
          have HQ := hide hq
          clear hq
          go_enter Tryd.func90, Tryd.ntmps90
          go_wp2_with (first | (go_at_call 95; refine (parts_any _).mono ?_; rintro e w' ⟨rfl, rfl⟩) | (go_at_call 50; refine (hN _ (HT.out.below ((((bl w).al _).al _).al _))).mono ?_; rintro e w1 ⟨rfl, hb⟩; obtain ⟨hc, hf⟩ := bcell hb))
          all_goals
            go_ret
            refine ⟨ret_bool ?_, ((((bl w).al _).al _).al _).tr hb⟩
            have hq := HQ.out
            simp [fitsM, partOf, hq]
            try first | omega | (rw [Bool.eq_iff_iff]; simp; omega)
    · clear hN
      match s with
      | [] =>
        go_enter Tryd.func90, Tryd.ntmps90
        go_wp2_with (go_at_call 95; refine (parts_any _).mono ?_; rintro e w' ⟨rfl, rfl⟩)
        all_goals
          go_ret
          refine ⟨ret_bool ?_, (((bl w).al _).al _).al _⟩
          simp [fitsM, partOf]
          try first | omega | (rw [Bool.eq_iff_iff]; simp; omega)
      | c :: t =>
        go_enter Tryd.func90, Tryd.ntmps90
        go_wp2_with (go_at_call 95; refine (parts_any _).mono ?_; rintro e w' ⟨rfl, rfl⟩)
        go_ret
        exact ⟨ret_bool rfl, (((bl w).al _).al _).al _⟩
    · clear hN
      match s with
      | [] =>
        go_enter Tryd.func90, Tryd.ntmps90
        go_wp2_with (go_at_call 95; refine (parts_any _).mono ?_; rintro e w' ⟨rfl, rfl⟩)
        all_goals
          go_ret
          refine ⟨ret_bool ?_, (((bl w).al _).al _).al _⟩
          simp [fitsM, partOf]
          try first | omega | (rw [Bool.eq_iff_iff]; simp; omega)
      | c :: t =>
        go_enter Tryd.func90, Tryd.ntmps90
        go_wp2_with (go_at_call 95; refine (parts_any _).mono ?_; rintro e w' ⟨rfl, rfl⟩)
        go_ret
        exact ⟨ret_bool rfl, (((bl w).al _).al _).al _⟩
    · match s with
      | [] =>
        clear hN
        go_enter Tryd.func90, Tryd.ntmps90
        go_wp2_with (go_at_call 95; refine (parts_any _).mono ?_; rintro e w' ⟨rfl, rfl⟩)
        go_ret
        exact ⟨ret_bool rfl, (((bl w).al _).al _).al _⟩
      | c :: t =>
        cases hq : nameOk (c :: t)
        all_goals
          simp only [hq] at hN
          have HQ := hide hq
          clear hq
          go_enter Tryd.func90, Tryd.ntmps90
          go_wp2_with (first | (go_at_call 95; refine (parts_any _).mono ?_; rintro e w' ⟨rfl, rfl⟩) | (go_at_call 50; refine (hN _ (HT.out.below ((((bl w).al _).al _).al _))).mono ?_; rintro e w1 ⟨rfl, hb⟩; obtain ⟨hc, hf⟩ := bcell hb))
          all_goals
            go_ret
            refine ⟨ret_bool ?_, ((((bl w).al _).al _).al _).tr hb⟩
            have hq := HQ.out
            simp [fitsM, partOf, hq]
            try first | omega | (rw [Bool.eq_iff_iff]; simp; omega)
    · match s with
      | [] =>
        clear hN
        go_enter Tryd.func90, Tryd.ntmps90
        go_wp2_with (go_at_call 95; refine (parts_any _).mono ?_; rintro e w' ⟨rfl, rfl⟩)
        go_ret
        exact ⟨ret_bool rfl, (((bl w).al _).al _).al _⟩
      | c :: t =>
        cases hq : nameOk (c :: t)
        all_goals
          simp only [hq] at hN
          have HQ := hide hq
          clear hq
          go_enter Tryd.func90, Tryd.ntmps90
          go_wp2_with (first | (go_at_call 95; refine (parts_any _).mono ?_; rintro e w' ⟨rfl, rfl⟩) | (go_at_call 50; refine (hN _ (HT.out.below ((((bl w).al _).al _).al _))).mono ?_; rintro e w1 ⟨rfl, hb⟩; obtain ⟨hc, hf⟩ := bcell hb))
          all_goals
            go_ret
            refine ⟨ret_bool ?_, ((((bl w).al _).al _).al _).tr hb⟩
            have hq := HQ.out
            simp [fitsM, partOf, hq]
            try first | omega | (rw [Bool.eq_iff_iff]; simp; omega)
  · have hm : fitsM k o n s len = false := by
      have h : partOf k = none := by unfold partOf; repeat (rw [if_neg (by omega)])
      simp [fitsM, h]
    rw [hm]
    clear hm
    have hk' : k < 1 ∨ 8 ≤ k := by omega
    clear hk
    rcases hk' with hk | hk
    all_goals
      go_enter Tryd.func90, Tryd.ntmps90
      go_wp2_with (go_at_call 95; refine (parts_any _).mono ?_; rintro e w' ⟨rfl, rfl⟩)
      go_ret
      exact ⟨rfl, ((bl w).al _).al _⟩
end Go.Proofs.YtccgpmncpemmdaaDoor
