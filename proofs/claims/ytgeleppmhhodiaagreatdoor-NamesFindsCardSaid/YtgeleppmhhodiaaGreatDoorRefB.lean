/- rewindref03.fields answers fieldsM for all fields of an expression, and fitsM follows from it. -/
import Derived.Test.YtgeleppmhhodiaaGreatDoorRefA
import Derived.Test.YtgeleppmhhodiaaGreatDoorShC
import Derived.BigQuiet
import Derived.Deep.QuietTactic
import Derived.Deep.RegionWith
import Derived.Deep.RegionHeld3
namespace Go.Proofs.YtgeleppmhhodiaaGreatDoor
open Go Go.RowKit
set_option linter.unusedSimpArgs false
set_option linter.unusedVariables false
set_option linter.unnecessarySimpa false
theorem below_drewQ {B : Nat} {a w : World} (h : Below B a w) (n : Nat) : Below B a (w.drewN n) := ⟨h.os, h.tape, h.output, h.size, h.block⟩
theorem retIB {a b : Int} {c d : Bool} (h : a = b) (k : c = d) : Ending.returned (.tuple #[.int .i64 a, .bool c]) = .returned (.tuple #[.int .i64 b, .bool d]) := by rw [h, k]
/-- How many parts an expression has to have by its kind, and whether its other fields are right. -/
def fieldsM (k o n : Int) (s : Bytes) : Int × Bool :=
  if k = 1 then (0, decide (0 ≤ n) && decide (o = 0) && s.isEmpty) else if k = 2 then (0, (decide (n = 0) || decide (n = 1)) && decide (o = 0) && s.isEmpty) else if k = 3 ∨ k = 7 then (0, nameOk s && decide (o = 0) && decide (n = 0))
  else if k = 4 then (1, (decide (o = 14) || decide (o = 15)) && decide (n = 0) && s.isEmpty) else if k = 5 then (2, decide (1 ≤ o) && decide (o ≤ 13) && decide (n = 0) && s.isEmpty) else if k = 6 then (1, nameOk s && decide (o = 0) && decide (n = 0)) else (0, false)
theorem fields_fits (k o n : Int) (s : Bytes) (len : Nat) : fitsM k o n s len = ((fieldsM k o n s).2 && decide ((fieldsM k o n s).1 = (len : Int))) := by
  have hn : nameOk [] = false := rfl
  by_cases h1 : k = 1
  · subst h1; cases s <;> simp [fitsM, partOf, fieldsM] <;> (try (rw [Bool.eq_iff_iff]; simp; try omega))
  by_cases h2 : k = 2
  · subst h2; cases s <;> simp [fitsM, partOf, fieldsM] <;> (try (rw [Bool.eq_iff_iff]; simp; try omega))
  by_cases h3 : k = 3
  · subst h3; cases s <;> simp [fitsM, partOf, fieldsM, hn] <;> (generalize nameOk _ = q; rw [Bool.eq_iff_iff]; simp; cases q <;> simp <;> omega)
  by_cases h4 : k = 4
  · subst h4; cases s <;> simp [fitsM, partOf, fieldsM] <;> (try (rw [Bool.eq_iff_iff]; simp; try omega))
  by_cases h5 : k = 5
  · subst h5; cases s <;> simp [fitsM, partOf, fieldsM] <;> (try (rw [Bool.eq_iff_iff]; simp; try omega))
  by_cases h6 : k = 6
  · subst h6; cases s <;> simp [fitsM, partOf, fieldsM, hn] <;> (generalize nameOk _ = q; rw [Bool.eq_iff_iff]; simp; cases q <;> simp <;> omega)
  by_cases h7 : k = 7
  · subst h7; cases s <;> simp [fitsM, partOf, fieldsM, hn] <;> (generalize nameOk _ = q; rw [Bool.eq_iff_iff]; simp; cases q <;> simp <;> omega)
  simp [fitsM, partOf, fieldsM, h1, h2, h3, h4, h5, h6, h7]
set_option maxHeartbeats 2000000 in
theorem fields_any (k o n : Int) (s : Bytes) (a : Option Addr) (len cap : Nat) (w : World) (hs : s.length ≤ maxLen) :
    Calls Tryz.prog 104 #[.agg #[.int .i64 k, .int .i64 o, .int .i64 n, .string ⟨s.toArray⟩, .slice a len cap]] w fun e w' => e = .returned (.tuple #[.int .i64 (fieldsM k o n s).1, .bool (fieldsM k o n s).2]) ∧ Below w.heap.size w w' := by
  have hN := fun w => refName_any s w hs
  clear hs
  by_cases k1 : k = 1
  · subst k1
    rw [show fieldsM 1 o n s = (0, decide (0 ≤ n) && decide (o = 0) && s.isEmpty) from rfl]
    clear hN
    have h2 : decide (0 ≤ n) = true ∨ decide (0 ≤ n) = false := by cases decide (0 ≤ n) <;> simp
    have h3 : (o == 0) = true ∨ (o == 0) = false := by cases (o == 0) <;> simp
    rcases h2 with h2 | h2
    all_goals
      rcases h3 with h3 | h3
      all_goals
        cases s
        all_goals
          go_enter Tryz.func104, Tryz.ntmps104
          go_wp2_with fail
          go_quiet (fail)
          go_wp2_with fail
          go_ret2
          refine ⟨retIB rfl ?_, ?_⟩
          · simp only [beq_iff_eq, beq_eq_false_iff_ne, decide_eq_true_eq, decide_eq_false_iff_not] at h2 h3
            try simp [*]
            try omega
          · exact below_drewQ ((bl w).al _) _
  by_cases k2 : k = 2
  · subst k2
    rw [show fieldsM 2 o n s = (0, (decide (n = 0) || decide (n = 1)) && decide (o = 0) && s.isEmpty) from rfl]
    clear hN
    have h2 : (n == 0) = true ∨ (n == 0) = false := by cases (n == 0) <;> simp
    have h3 : (n == 1) = true ∨ (n == 1) = false := by cases (n == 1) <;> simp
    have h4 : (o == 0) = true ∨ (o == 0) = false := by cases (o == 0) <;> simp
    rcases h2 with h2 | h2
    all_goals
      rcases h3 with h3 | h3
      all_goals
        rcases h4 with h4 | h4
        all_goals
          cases s
          all_goals
            go_enter Tryz.func104, Tryz.ntmps104
            go_wp2_with fail
            go_quiet (fail)
            go_wp2_with fail
            go_ret2
            refine ⟨retIB rfl ?_, ?_⟩
            · simp only [beq_iff_eq, beq_eq_false_iff_ne] at h2 h3 h4
              try simp [*]
              try omega
            · exact below_drewQ ((bl w).al _) _
  by_cases k3 : k = 3
  · subst k3
    rw [show fieldsM 3 o n s = (0, nameOk s && decide (o = 0) && decide (n = 0)) from rfl]
    generalize nameOk s = q at *
    cases q
    · go_enter Tryz.func104, Tryz.ntmps104
      go_wp2_with fail
      have hA : (w.alloc (.cells #[.int .i64 3, .int .i64 o, .int .i64 n, .string ⟨s.toArray⟩, .slice a len cap] 68)).cell? ⟨w.heap.size, 1, none⟩ = some (.int .i64 o) := by go_simp
      have hB : (w.alloc (.cells #[.int .i64 3, .int .i64 o, .int .i64 n, .string ⟨s.toArray⟩, .slice a len cap] 68)).cell? ⟨w.heap.size, 2, none⟩ = some (.int .i64 n) := by go_simp
      have hC : (w.alloc (.cells #[.int .i64 3, .int .i64 o, .int .i64 n, .string ⟨s.toArray⟩, .slice a len cap] 68)).cell? ⟨w.heap.size, 3, none⟩ = some (.string ⟨s.toArray⟩) := by go_simp
      have hbW := (bl w).al (.cells #[.int .i64 3, .int .i64 o, .int .i64 n, .string ⟨s.toArray⟩, .slice a len cap] 68)
      generalize w.alloc (.cells #[.int .i64 3, .int .i64 o, .int .i64 n, .string ⟨s.toArray⟩, .slice a len cap] 68) = W at *
      first
        | go_region_with (go_at_call 57; refine (hN _).mono ?_; rintro r w2 ⟨rfl, hb⟩; have hA2 := cell_keep (w := W.drew) hA hb (Nat.le_refl _); have hB2 := cell_keep (w := W.drew) hB hb (Nat.le_refl _))
        | fail
      all_goals
        go_wp2_with fail
        go_ret2
        refine ⟨retIB rfl ?_, hbW.dr.tr hb⟩
        simp
    · have h2 : (o == 0) = true ∨ (o == 0) = false := by cases (o == 0) <;> simp
      have h3 : (n == 0) = true ∨ (n == 0) = false := by cases (n == 0) <;> simp
      rcases h2 with h2 | h2
      · rcases h3 with h3 | h3
        all_goals
          go_enter Tryz.func104, Tryz.ntmps104
          go_wp2_with fail
          have hA : (w.alloc (.cells #[.int .i64 3, .int .i64 o, .int .i64 n, .string ⟨s.toArray⟩, .slice a len cap] 68)).cell? ⟨w.heap.size, 1, none⟩ = some (.int .i64 o) := by go_simp
          have hB : (w.alloc (.cells #[.int .i64 3, .int .i64 o, .int .i64 n, .string ⟨s.toArray⟩, .slice a len cap] 68)).cell? ⟨w.heap.size, 2, none⟩ = some (.int .i64 n) := by go_simp
          have hC : (w.alloc (.cells #[.int .i64 3, .int .i64 o, .int .i64 n, .string ⟨s.toArray⟩, .slice a len cap] 68)).cell? ⟨w.heap.size, 3, none⟩ = some (.string ⟨s.toArray⟩) := by go_simp
          have hbW := (bl w).al (.cells #[.int .i64 3, .int .i64 o, .int .i64 n, .string ⟨s.toArray⟩, .slice a len cap] 68)
          generalize w.alloc (.cells #[.int .i64 3, .int .i64 o, .int .i64 n, .string ⟨s.toArray⟩, .slice a len cap] 68) = W at *
          go_region_held3 (fun w' => w'.cell? ⟨w.heap.size, 1, none⟩ = some (.int .i64 o) ∧ w'.cell? ⟨w.heap.size, 2, none⟩ = some (.int .i64 n) ∧ w'.cell? ⟨w.heap.size, 3, none⟩ = some (.string ⟨s.toArray⟩))
            (first | exact ⟨cell_keep (w := W.drew) hA hb (Nat.le_refl _), cell_keep (w := W.drew) hB hb (Nat.le_refl _), cell_keep (w := W.drew) hC hb (Nat.le_refl _)⟩ | go_keep)
            (first | (go_at_call 57; refine (hN _).mono ?_; rintro r w2 ⟨rfl, hb⟩))
          go_wp2_with fail
          go_ret2
          refine ⟨retIB rfl ?_, hbW.dr.tr hb⟩
          simp only [beq_iff_eq, beq_eq_false_iff_ne] at h2 h3
          simp [*]
      · clear h3
        go_enter Tryz.func104, Tryz.ntmps104
        go_wp2_with fail
        have hA : (w.alloc (.cells #[.int .i64 3, .int .i64 o, .int .i64 n, .string ⟨s.toArray⟩, .slice a len cap] 68)).cell? ⟨w.heap.size, 1, none⟩ = some (.int .i64 o) := by go_simp
        have hB : (w.alloc (.cells #[.int .i64 3, .int .i64 o, .int .i64 n, .string ⟨s.toArray⟩, .slice a len cap] 68)).cell? ⟨w.heap.size, 2, none⟩ = some (.int .i64 n) := by go_simp
        have hC : (w.alloc (.cells #[.int .i64 3, .int .i64 o, .int .i64 n, .string ⟨s.toArray⟩, .slice a len cap] 68)).cell? ⟨w.heap.size, 3, none⟩ = some (.string ⟨s.toArray⟩) := by go_simp
        have hbW := (bl w).al (.cells #[.int .i64 3, .int .i64 o, .int .i64 n, .string ⟨s.toArray⟩, .slice a len cap] 68)
        generalize w.alloc (.cells #[.int .i64 3, .int .i64 o, .int .i64 n, .string ⟨s.toArray⟩, .slice a len cap] 68) = W at *
        first
          | go_region_with (go_at_call 57; refine (hN _).mono ?_; rintro r w2 ⟨rfl, hb⟩; have hA2 := cell_keep (w := W.drew) hA hb (Nat.le_refl _); have hB2 := cell_keep (w := W.drew) hB hb (Nat.le_refl _))
          | fail
        all_goals
          go_wp2_with fail
          go_ret2
          refine ⟨retIB rfl ?_, hbW.dr.tr hb⟩
          simp only [beq_eq_false_iff_ne] at h2
          simp [*]
  by_cases k4 : k = 4
  · subst k4
    rw [show fieldsM 4 o n s = (1, (decide (o = 14) || decide (o = 15)) && decide (n = 0) && s.isEmpty) from rfl]
    clear hN
    have h2 : (o == 14) = true ∨ (o == 14) = false := by cases (o == 14) <;> simp
    have h3 : (o == 15) = true ∨ (o == 15) = false := by cases (o == 15) <;> simp
    have h4 : (n == 0) = true ∨ (n == 0) = false := by cases (n == 0) <;> simp
    rcases h2 with h2 | h2
    all_goals
      rcases h3 with h3 | h3
      all_goals
        rcases h4 with h4 | h4
        all_goals
          cases s
          all_goals
            go_enter Tryz.func104, Tryz.ntmps104
            go_wp2_with fail
            go_quiet (fail)
            go_wp2_with fail
            go_ret2
            refine ⟨retIB rfl ?_, ?_⟩
            · simp only [beq_iff_eq, beq_eq_false_iff_ne] at h2 h3 h4
              try simp [*]
              try omega
            · exact below_drewQ ((bl w).al _) _
  by_cases k5 : k = 5
  · subst k5
    rw [show fieldsM 5 o n s = (2, decide (1 ≤ o) && decide (o ≤ 13) && decide (n = 0) && s.isEmpty) from rfl]
    clear hN
    have h2 : decide (1 ≤ o) = true ∨ decide (1 ≤ o) = false := by cases decide (1 ≤ o) <;> simp
    have h3 : decide (o ≤ 13) = true ∨ decide (o ≤ 13) = false := by cases decide (o ≤ 13) <;> simp
    have h4 : (n == 0) = true ∨ (n == 0) = false := by cases (n == 0) <;> simp
    rcases h2 with h2 | h2
    all_goals
      rcases h3 with h3 | h3
      all_goals
        rcases h4 with h4 | h4
        all_goals
          cases s
          all_goals
            go_enter Tryz.func104, Tryz.ntmps104
            go_wp2_with fail
            go_quiet (fail)
            go_wp2_with fail
            go_ret2
            refine ⟨retIB rfl ?_, ?_⟩
            · simp only [beq_iff_eq, beq_eq_false_iff_ne, decide_eq_true_eq, decide_eq_false_iff_not] at h2 h3 h4
              try simp [*]
              try omega
            · exact below_drewQ ((bl w).al _) _
  by_cases k6 : k = 6
  · subst k6
    rw [show fieldsM 6 o n s = (1, nameOk s && decide (o = 0) && decide (n = 0)) from rfl]
    generalize nameOk s = q at *
    cases q
    · go_enter Tryz.func104, Tryz.ntmps104
      go_wp2_with fail
      have hA : (w.alloc (.cells #[.int .i64 6, .int .i64 o, .int .i64 n, .string ⟨s.toArray⟩, .slice a len cap] 68)).cell? ⟨w.heap.size, 1, none⟩ = some (.int .i64 o) := by go_simp
      have hB : (w.alloc (.cells #[.int .i64 6, .int .i64 o, .int .i64 n, .string ⟨s.toArray⟩, .slice a len cap] 68)).cell? ⟨w.heap.size, 2, none⟩ = some (.int .i64 n) := by go_simp
      have hC : (w.alloc (.cells #[.int .i64 6, .int .i64 o, .int .i64 n, .string ⟨s.toArray⟩, .slice a len cap] 68)).cell? ⟨w.heap.size, 3, none⟩ = some (.string ⟨s.toArray⟩) := by go_simp
      have hbW := (bl w).al (.cells #[.int .i64 6, .int .i64 o, .int .i64 n, .string ⟨s.toArray⟩, .slice a len cap] 68)
      generalize w.alloc (.cells #[.int .i64 6, .int .i64 o, .int .i64 n, .string ⟨s.toArray⟩, .slice a len cap] 68) = W at *
      first
        | go_region_with (go_at_call 57; refine (hN _).mono ?_; rintro r w2 ⟨rfl, hb⟩; have hA2 := cell_keep (w := W.drew) hA hb (Nat.le_refl _); have hB2 := cell_keep (w := W.drew) hB hb (Nat.le_refl _))
        | fail
      all_goals
        go_wp2_with fail
        go_ret2
        refine ⟨retIB rfl ?_, hbW.dr.tr hb⟩
        simp
    · have h2 : (o == 0) = true ∨ (o == 0) = false := by cases (o == 0) <;> simp
      have h3 : (n == 0) = true ∨ (n == 0) = false := by cases (n == 0) <;> simp
      rcases h2 with h2 | h2
      · rcases h3 with h3 | h3
        all_goals
          go_enter Tryz.func104, Tryz.ntmps104
          go_wp2_with fail
          have hA : (w.alloc (.cells #[.int .i64 6, .int .i64 o, .int .i64 n, .string ⟨s.toArray⟩, .slice a len cap] 68)).cell? ⟨w.heap.size, 1, none⟩ = some (.int .i64 o) := by go_simp
          have hB : (w.alloc (.cells #[.int .i64 6, .int .i64 o, .int .i64 n, .string ⟨s.toArray⟩, .slice a len cap] 68)).cell? ⟨w.heap.size, 2, none⟩ = some (.int .i64 n) := by go_simp
          have hC : (w.alloc (.cells #[.int .i64 6, .int .i64 o, .int .i64 n, .string ⟨s.toArray⟩, .slice a len cap] 68)).cell? ⟨w.heap.size, 3, none⟩ = some (.string ⟨s.toArray⟩) := by go_simp
          have hbW := (bl w).al (.cells #[.int .i64 6, .int .i64 o, .int .i64 n, .string ⟨s.toArray⟩, .slice a len cap] 68)
          generalize w.alloc (.cells #[.int .i64 6, .int .i64 o, .int .i64 n, .string ⟨s.toArray⟩, .slice a len cap] 68) = W at *
          go_region_held3 (fun w' => w'.cell? ⟨w.heap.size, 1, none⟩ = some (.int .i64 o) ∧ w'.cell? ⟨w.heap.size, 2, none⟩ = some (.int .i64 n) ∧ w'.cell? ⟨w.heap.size, 3, none⟩ = some (.string ⟨s.toArray⟩))
            (first | exact ⟨cell_keep (w := W.drew) hA hb (Nat.le_refl _), cell_keep (w := W.drew) hB hb (Nat.le_refl _), cell_keep (w := W.drew) hC hb (Nat.le_refl _)⟩ | go_keep)
            (first | (go_at_call 57; refine (hN _).mono ?_; rintro r w2 ⟨rfl, hb⟩))
          go_wp2_with fail
          go_ret2
          refine ⟨retIB rfl ?_, hbW.dr.tr hb⟩
          simp only [beq_iff_eq, beq_eq_false_iff_ne] at h2 h3
          simp [*]
      · clear h3
        go_enter Tryz.func104, Tryz.ntmps104
        go_wp2_with fail
        have hA : (w.alloc (.cells #[.int .i64 6, .int .i64 o, .int .i64 n, .string ⟨s.toArray⟩, .slice a len cap] 68)).cell? ⟨w.heap.size, 1, none⟩ = some (.int .i64 o) := by go_simp
        have hB : (w.alloc (.cells #[.int .i64 6, .int .i64 o, .int .i64 n, .string ⟨s.toArray⟩, .slice a len cap] 68)).cell? ⟨w.heap.size, 2, none⟩ = some (.int .i64 n) := by go_simp
        have hC : (w.alloc (.cells #[.int .i64 6, .int .i64 o, .int .i64 n, .string ⟨s.toArray⟩, .slice a len cap] 68)).cell? ⟨w.heap.size, 3, none⟩ = some (.string ⟨s.toArray⟩) := by go_simp
        have hbW := (bl w).al (.cells #[.int .i64 6, .int .i64 o, .int .i64 n, .string ⟨s.toArray⟩, .slice a len cap] 68)
        generalize w.alloc (.cells #[.int .i64 6, .int .i64 o, .int .i64 n, .string ⟨s.toArray⟩, .slice a len cap] 68) = W at *
        first
          | go_region_with (go_at_call 57; refine (hN _).mono ?_; rintro r w2 ⟨rfl, hb⟩; have hA2 := cell_keep (w := W.drew) hA hb (Nat.le_refl _); have hB2 := cell_keep (w := W.drew) hB hb (Nat.le_refl _))
          | fail
        all_goals
          go_wp2_with fail
          go_ret2
          refine ⟨retIB rfl ?_, hbW.dr.tr hb⟩
          simp only [beq_eq_false_iff_ne] at h2
          simp [*]
  by_cases k7 : k = 7
  · subst k7
    rw [show fieldsM 7 o n s = (0, nameOk s && decide (o = 0) && decide (n = 0)) from rfl]
    generalize nameOk s = q at *
    cases q
    · go_enter Tryz.func104, Tryz.ntmps104
      go_wp2_with fail
      have hA : (w.alloc (.cells #[.int .i64 7, .int .i64 o, .int .i64 n, .string ⟨s.toArray⟩, .slice a len cap] 68)).cell? ⟨w.heap.size, 1, none⟩ = some (.int .i64 o) := by go_simp
      have hB : (w.alloc (.cells #[.int .i64 7, .int .i64 o, .int .i64 n, .string ⟨s.toArray⟩, .slice a len cap] 68)).cell? ⟨w.heap.size, 2, none⟩ = some (.int .i64 n) := by go_simp
      have hC : (w.alloc (.cells #[.int .i64 7, .int .i64 o, .int .i64 n, .string ⟨s.toArray⟩, .slice a len cap] 68)).cell? ⟨w.heap.size, 3, none⟩ = some (.string ⟨s.toArray⟩) := by go_simp
      have hbW := (bl w).al (.cells #[.int .i64 7, .int .i64 o, .int .i64 n, .string ⟨s.toArray⟩, .slice a len cap] 68)
      generalize w.alloc (.cells #[.int .i64 7, .int .i64 o, .int .i64 n, .string ⟨s.toArray⟩, .slice a len cap] 68) = W at *
      first
        | go_region_with (go_at_call 57; refine (hN _).mono ?_; rintro r w2 ⟨rfl, hb⟩; have hA2 := cell_keep (w := W.drew) hA hb (Nat.le_refl _); have hB2 := cell_keep (w := W.drew) hB hb (Nat.le_refl _))
        | fail
      all_goals
        go_wp2_with fail
        go_ret2
        refine ⟨retIB rfl ?_, hbW.dr.tr hb⟩
        simp
    · have h2 : (o == 0) = true ∨ (o == 0) = false := by cases (o == 0) <;> simp
      have h3 : (n == 0) = true ∨ (n == 0) = false := by cases (n == 0) <;> simp
      rcases h2 with h2 | h2
      · rcases h3 with h3 | h3
        all_goals
          go_enter Tryz.func104, Tryz.ntmps104
          go_wp2_with fail
          have hA : (w.alloc (.cells #[.int .i64 7, .int .i64 o, .int .i64 n, .string ⟨s.toArray⟩, .slice a len cap] 68)).cell? ⟨w.heap.size, 1, none⟩ = some (.int .i64 o) := by go_simp
          have hB : (w.alloc (.cells #[.int .i64 7, .int .i64 o, .int .i64 n, .string ⟨s.toArray⟩, .slice a len cap] 68)).cell? ⟨w.heap.size, 2, none⟩ = some (.int .i64 n) := by go_simp
          have hC : (w.alloc (.cells #[.int .i64 7, .int .i64 o, .int .i64 n, .string ⟨s.toArray⟩, .slice a len cap] 68)).cell? ⟨w.heap.size, 3, none⟩ = some (.string ⟨s.toArray⟩) := by go_simp
          have hbW := (bl w).al (.cells #[.int .i64 7, .int .i64 o, .int .i64 n, .string ⟨s.toArray⟩, .slice a len cap] 68)
          generalize w.alloc (.cells #[.int .i64 7, .int .i64 o, .int .i64 n, .string ⟨s.toArray⟩, .slice a len cap] 68) = W at *
          go_region_held3 (fun w' => w'.cell? ⟨w.heap.size, 1, none⟩ = some (.int .i64 o) ∧ w'.cell? ⟨w.heap.size, 2, none⟩ = some (.int .i64 n) ∧ w'.cell? ⟨w.heap.size, 3, none⟩ = some (.string ⟨s.toArray⟩))
            (first | exact ⟨cell_keep (w := W.drew) hA hb (Nat.le_refl _), cell_keep (w := W.drew) hB hb (Nat.le_refl _), cell_keep (w := W.drew) hC hb (Nat.le_refl _)⟩ | go_keep)
            (first | (go_at_call 57; refine (hN _).mono ?_; rintro r w2 ⟨rfl, hb⟩))
          go_wp2_with fail
          go_ret2
          refine ⟨retIB rfl ?_, hbW.dr.tr hb⟩
          simp only [beq_iff_eq, beq_eq_false_iff_ne] at h2 h3
          simp [*]
      · clear h3
        go_enter Tryz.func104, Tryz.ntmps104
        go_wp2_with fail
        have hA : (w.alloc (.cells #[.int .i64 7, .int .i64 o, .int .i64 n, .string ⟨s.toArray⟩, .slice a len cap] 68)).cell? ⟨w.heap.size, 1, none⟩ = some (.int .i64 o) := by go_simp
        have hB : (w.alloc (.cells #[.int .i64 7, .int .i64 o, .int .i64 n, .string ⟨s.toArray⟩, .slice a len cap] 68)).cell? ⟨w.heap.size, 2, none⟩ = some (.int .i64 n) := by go_simp
        have hC : (w.alloc (.cells #[.int .i64 7, .int .i64 o, .int .i64 n, .string ⟨s.toArray⟩, .slice a len cap] 68)).cell? ⟨w.heap.size, 3, none⟩ = some (.string ⟨s.toArray⟩) := by go_simp
        have hbW := (bl w).al (.cells #[.int .i64 7, .int .i64 o, .int .i64 n, .string ⟨s.toArray⟩, .slice a len cap] 68)
        generalize w.alloc (.cells #[.int .i64 7, .int .i64 o, .int .i64 n, .string ⟨s.toArray⟩, .slice a len cap] 68) = W at *
        first
          | go_region_with (go_at_call 57; refine (hN _).mono ?_; rintro r w2 ⟨rfl, hb⟩; have hA2 := cell_keep (w := W.drew) hA hb (Nat.le_refl _); have hB2 := cell_keep (w := W.drew) hB hb (Nat.le_refl _))
          | fail
        all_goals
          go_wp2_with fail
          go_ret2
          refine ⟨retIB rfl ?_, hbW.dr.tr hb⟩
          simp only [beq_eq_false_iff_ne] at h2
          simp [*]
  rw [show fieldsM k o n s = (0, false) by unfold fieldsM; repeat rw [if_neg (by omega)]]
  clear hN
  go_enter Tryz.func104, Tryz.ntmps104
  go_wp2_with fail
  go_ret2
  exact ⟨rfl, (bl w).al _⟩
end Go.Proofs.YtgeleppmhhodiaaGreatDoor
