/- The walk of TypesTable: it returns true in every world in which the table of blanks is laid. -/
import Derived.Test.YtfpikakgaghdbaaDoorTyG
namespace Go.Proofs.YtfpikakgaghdbaaDoor
open Go Go.RowKit
theorem tab_eq (a b : Int) (w : World) : Calls Tryd.prog 10 #[.int .i64 6, .int .i64 a, .int .i64 b] w fun e w' => e = .returned (.tuple #[.int .i64 (binaryT 6 a b).1, .int .i64 (binaryT 6 a b).2]) ∧ Below w.heap.size w w' := by
  have := binary_any 6 a b w
  rwa [binaryM_eq] at this
theorem tab_ne (a b : Int) (w : World) : Calls Tryd.prog 10 #[.int .i64 7, .int .i64 a, .int .i64 b] w fun e w' => e = .returned (.tuple #[.int .i64 (binaryT 7 a b).1, .int .i64 (binaryT 7 a b).2]) ∧ Below w.heap.size w w' := by
  have := binary_any 7 a b w
  rwa [binaryM_eq] at this
set_option maxRecDepth 100000 in
set_option maxHeartbeats 4000000 in
theorem tabA (o n a b : Int) (hn : n = o % 18 - 1) (ho : 0 ≤ o ∧ o ≤ 255) (g14 : (n == 14) = false) (g15 : (n == 15) = false) (hr : n ≤ 0) (w : World) (hT : Tab w)
    (h1 : ∀ w, Calls Tryd.prog 8 #[.int .i64 n, .int .i64 a] w fun e w' => e = .returned (.tuple #[.int .i64 0, .int .i64 2]) ∧ Below w.heap.size w w')
    (h2 : ∀ w, Calls Tryd.prog 10 #[.int .i64 n, .int .i64 a, .int .i64 b] w fun e w' => e = .returned (.tuple #[.int .i64 0, .int .i64 2]) ∧ Below w.heap.size w w') :
    Calls Tryd.prog 6 #[.int .u8 o, .int .i64 a, .int .i64 b] w fun r w' => r = .returned (.bool true) ∧ Below w.heap.size w w' := by
  have H6 := hide tab_eq
  have H7 := hide tab_ne
  have H5 := hide works_any
  have HT := hide hT
  clear hT
  have H1 := hide h1
  have H2 := hide h2
  clear h1 h2
  go_enter Tryd.func6, Tryd.ntmps6
  go_wp2_with fail
  rw [← hn]
  clear hn
  refine (H1.out _).mono ?_
  rintro r w1 ⟨rfl, hb1⟩
  go_wp2_with fail
  refine (H2.out _).mono ?_
  rintro r w2 ⟨rfl, hb2⟩
  have hb := hb1.tr hb2
  clear hb1 hb2
  go_wp2_with fail
  go_loopw [14] (fun i wr => ∃ k : Nat, k ≤ 2 ∧ i = .int .i64 (k + 1) ∧ Below w.heap.size w wr) (fun i _ => 3 - (intOf i).toNat)
  case atStart => exact ⟨0, by omega, rfl, hb⟩
  case round =>
    obtain ⟨k, hk, rfl, hbr⟩ := hrel
    have hk3 : k = 0 ∨ k = 1 ∨ k = 2 := by omega
    rcases hk3 with rfl | rfl | rfl
    · go_wp2_with fail
      refine (H6.out 1 1 _).mono ?_
      rintro r w3 ⟨rfl, hb3⟩
      go_wp2_with fail
      refine (H7.out 1 1 _).mono ?_
      rintro r w4 ⟨rfl, hb4⟩
      go_wp2_with fail
      exact ⟨⟨1, by omega, by go_num, (hbr.tr hb3).tr hb4⟩, by simp [intOf]⟩
    · go_wp2_with fail
      refine (H6.out 2 2 _).mono ?_
      rintro r w3 ⟨rfl, hb3⟩
      go_wp2_with fail
      refine (H7.out 2 2 _).mono ?_
      rintro r w4 ⟨rfl, hb4⟩
      go_wp2_with fail
      exact ⟨⟨2, by omega, by go_num, (hbr.tr hb3).tr hb4⟩, by simp [intOf]⟩
    · go_wp2_with fail
      refine (H5.out _ (HT.out.below hbr)).mono ?_
      rintro r w5 ⟨rfl, hb5⟩
      go_wp2_with fail
      go_ret
      exact ⟨rfl, hbr.tr hb5⟩
set_option maxRecDepth 100000 in
set_option maxHeartbeats 4000000 in
theorem tabB (o n a b : Int) (hn : n = o % 18 - 1) (ho : 0 ≤ o ∧ o ≤ 255) (g14 : (n == 14) = false) (g15 : (n == 15) = false) (hr : 16 ≤ n) (w : World) (hT : Tab w)
    (h1 : ∀ w, Calls Tryd.prog 8 #[.int .i64 n, .int .i64 a] w fun e w' => e = .returned (.tuple #[.int .i64 0, .int .i64 2]) ∧ Below w.heap.size w w')
    (h2 : ∀ w, Calls Tryd.prog 10 #[.int .i64 n, .int .i64 a, .int .i64 b] w fun e w' => e = .returned (.tuple #[.int .i64 0, .int .i64 2]) ∧ Below w.heap.size w w') :
    Calls Tryd.prog 6 #[.int .u8 o, .int .i64 a, .int .i64 b] w fun r w' => r = .returned (.bool true) ∧ Below w.heap.size w w' := by
  have H6 := hide tab_eq
  have H7 := hide tab_ne
  have H5 := hide works_any
  have HT := hide hT
  clear hT
  have H1 := hide h1
  have H2 := hide h2
  clear h1 h2
  go_enter Tryd.func6, Tryd.ntmps6
  go_wp2_with fail
  rw [← hn]
  clear hn
  refine (H1.out _).mono ?_
  rintro r w1 ⟨rfl, hb1⟩
  go_wp2_with fail
  refine (H2.out _).mono ?_
  rintro r w2 ⟨rfl, hb2⟩
  have hb := hb1.tr hb2
  clear hb1 hb2
  go_wp2_with fail
  go_loopw [14] (fun i wr => ∃ k : Nat, k ≤ 2 ∧ i = .int .i64 (k + 1) ∧ Below w.heap.size w wr) (fun i _ => 3 - (intOf i).toNat)
  case atStart => exact ⟨0, by omega, rfl, hb⟩
  case round =>
    obtain ⟨k, hk, rfl, hbr⟩ := hrel
    have hk3 : k = 0 ∨ k = 1 ∨ k = 2 := by omega
    rcases hk3 with rfl | rfl | rfl
    · go_wp2_with fail
      refine (H6.out 1 1 _).mono ?_
      rintro r w3 ⟨rfl, hb3⟩
      go_wp2_with fail
      refine (H7.out 1 1 _).mono ?_
      rintro r w4 ⟨rfl, hb4⟩
      go_wp2_with fail
      exact ⟨⟨1, by omega, by go_num, (hbr.tr hb3).tr hb4⟩, by simp [intOf]⟩
    · go_wp2_with fail
      refine (H6.out 2 2 _).mono ?_
      rintro r w3 ⟨rfl, hb3⟩
      go_wp2_with fail
      refine (H7.out 2 2 _).mono ?_
      rintro r w4 ⟨rfl, hb4⟩
      go_wp2_with fail
      exact ⟨⟨2, by omega, by go_num, (hbr.tr hb3).tr hb4⟩, by simp [intOf]⟩
    · go_wp2_with fail
      refine (H5.out _ (HT.out.below hbr)).mono ?_
      rintro r w5 ⟨rfl, hb5⟩
      go_wp2_with fail
      go_ret
      exact ⟨rfl, hbr.tr hb5⟩
set_option maxRecDepth 100000 in
set_option maxHeartbeats 4000000 in
theorem tabC (o b : Int) (hn : 14 = o % 18 - 1) (ho : 0 ≤ o ∧ o ≤ 255) (w : World) (hT : Tab w)
    (h1 : ∀ w, Calls Tryd.prog 8 #[.int .i64 14, .int .i64 1] w fun e w' => e = .returned (.tuple #[.int .i64 1, .int .i64 0]) ∧ Below w.heap.size w w')
    (h2 : ∀ w, Calls Tryd.prog 10 #[.int .i64 14, .int .i64 1, .int .i64 b] w fun e w' => e = .returned (.tuple #[.int .i64 0, .int .i64 2]) ∧ Below w.heap.size w w') :
    Calls Tryd.prog 6 #[.int .u8 o, .int .i64 1, .int .i64 b] w fun r w' => r = .returned (.bool true) ∧ Below w.heap.size w w' := by
  have H6 := hide tab_eq
  have H7 := hide tab_ne
  have H5 := hide works_any
  have HT := hide hT
  clear hT
  have H1 := hide h1
  have H2 := hide h2
  clear h1 h2
  go_enter Tryd.func6, Tryd.ntmps6
  go_wp2_with fail
  rw [← hn]
  clear hn
  refine (H1.out _).mono ?_
  rintro r w1 ⟨rfl, hb1⟩
  go_wp2_with fail
  refine (H2.out _).mono ?_
  rintro r w2 ⟨rfl, hb2⟩
  have hb := hb1.tr hb2
  clear hb1 hb2
  go_wp2_with fail
  go_loopw [14] (fun i wr => ∃ k : Nat, k ≤ 2 ∧ i = .int .i64 (k + 1) ∧ Below w.heap.size w wr) (fun i _ => 3 - (intOf i).toNat)
  case atStart => exact ⟨0, by omega, rfl, hb⟩
  case round =>
    obtain ⟨k, hk, rfl, hbr⟩ := hrel
    have hk3 : k = 0 ∨ k = 1 ∨ k = 2 := by omega
    rcases hk3 with rfl | rfl | rfl
    · go_wp2_with fail
      refine (H6.out 1 1 _).mono ?_
      rintro r w3 ⟨rfl, hb3⟩
      go_wp2_with fail
      refine (H7.out 1 1 _).mono ?_
      rintro r w4 ⟨rfl, hb4⟩
      go_wp2_with fail
      exact ⟨⟨1, by omega, by go_num, (hbr.tr hb3).tr hb4⟩, by simp [intOf]⟩
    · go_wp2_with fail
      refine (H6.out 2 2 _).mono ?_
      rintro r w3 ⟨rfl, hb3⟩
      go_wp2_with fail
      refine (H7.out 2 2 _).mono ?_
      rintro r w4 ⟨rfl, hb4⟩
      go_wp2_with fail
      exact ⟨⟨2, by omega, by go_num, (hbr.tr hb3).tr hb4⟩, by simp [intOf]⟩
    · go_wp2_with fail
      refine (H5.out _ (HT.out.below hbr)).mono ?_
      rintro r w5 ⟨rfl, hb5⟩
      go_wp2_with fail
      go_ret
      exact ⟨rfl, hbr.tr hb5⟩
set_option maxRecDepth 100000 in
set_option maxHeartbeats 4000000 in
theorem tabD (o a b : Int) (hn : 14 = o % 18 - 1) (ho : 0 ≤ o ∧ o ≤ 255) (w : World) (hT : Tab w)
    (h1 : ∀ w, Calls Tryd.prog 8 #[.int .i64 14, .int .i64 a] w fun e w' => e = .returned (.tuple #[.int .i64 0, .int .i64 12]) ∧ Below w.heap.size w w')
    (h2 : ∀ w, Calls Tryd.prog 10 #[.int .i64 14, .int .i64 a, .int .i64 b] w fun e w' => e = .returned (.tuple #[.int .i64 0, .int .i64 2]) ∧ Below w.heap.size w w') :
    Calls Tryd.prog 6 #[.int .u8 o, .int .i64 a, .int .i64 b] w fun r w' => r = .returned (.bool true) ∧ Below w.heap.size w w' := by
  have H6 := hide tab_eq
  have H7 := hide tab_ne
  have H5 := hide works_any
  have HT := hide hT
  clear hT
  have H1 := hide h1
  have H2 := hide h2
  clear h1 h2
  go_enter Tryd.func6, Tryd.ntmps6
  go_wp2_with fail
  rw [← hn]
  clear hn
  refine (H1.out _).mono ?_
  rintro r w1 ⟨rfl, hb1⟩
  go_wp2_with fail
  refine (H2.out _).mono ?_
  rintro r w2 ⟨rfl, hb2⟩
  have hb := hb1.tr hb2
  clear hb1 hb2
  go_wp2_with fail
  go_loopw [14] (fun i wr => ∃ k : Nat, k ≤ 2 ∧ i = .int .i64 (k + 1) ∧ Below w.heap.size w wr) (fun i _ => 3 - (intOf i).toNat)
  case atStart => exact ⟨0, by omega, rfl, hb⟩
  case round =>
    obtain ⟨k, hk, rfl, hbr⟩ := hrel
    have hk3 : k = 0 ∨ k = 1 ∨ k = 2 := by omega
    rcases hk3 with rfl | rfl | rfl
    · go_wp2_with fail
      refine (H6.out 1 1 _).mono ?_
      rintro r w3 ⟨rfl, hb3⟩
      go_wp2_with fail
      refine (H7.out 1 1 _).mono ?_
      rintro r w4 ⟨rfl, hb4⟩
      go_wp2_with fail
      exact ⟨⟨1, by omega, by go_num, (hbr.tr hb3).tr hb4⟩, by simp [intOf]⟩
    · go_wp2_with fail
      refine (H6.out 2 2 _).mono ?_
      rintro r w3 ⟨rfl, hb3⟩
      go_wp2_with fail
      refine (H7.out 2 2 _).mono ?_
      rintro r w4 ⟨rfl, hb4⟩
      go_wp2_with fail
      exact ⟨⟨2, by omega, by go_num, (hbr.tr hb3).tr hb4⟩, by simp [intOf]⟩
    · go_wp2_with fail
      refine (H5.out _ (HT.out.below hbr)).mono ?_
      rintro r w5 ⟨rfl, hb5⟩
      go_wp2_with fail
      go_ret
      exact ⟨rfl, hbr.tr hb5⟩
set_option maxRecDepth 100000 in
set_option maxHeartbeats 4000000 in
theorem tabE (o b : Int) (hn : 15 = o % 18 - 1) (ho : 0 ≤ o ∧ o ≤ 255) (w : World) (hT : Tab w)
    (h1 : ∀ w, Calls Tryd.prog 8 #[.int .i64 15, .int .i64 2] w fun e w' => e = .returned (.tuple #[.int .i64 2, .int .i64 0]) ∧ Below w.heap.size w w')
    (h2 : ∀ w, Calls Tryd.prog 10 #[.int .i64 15, .int .i64 2, .int .i64 b] w fun e w' => e = .returned (.tuple #[.int .i64 0, .int .i64 2]) ∧ Below w.heap.size w w') :
    Calls Tryd.prog 6 #[.int .u8 o, .int .i64 2, .int .i64 b] w fun r w' => r = .returned (.bool true) ∧ Below w.heap.size w w' := by
  have H6 := hide tab_eq
  have H7 := hide tab_ne
  have H5 := hide works_any
  have HT := hide hT
  clear hT
  have H1 := hide h1
  have H2 := hide h2
  clear h1 h2
  go_enter Tryd.func6, Tryd.ntmps6
  go_wp2_with fail
  rw [← hn]
  clear hn
  refine (H1.out _).mono ?_
  rintro r w1 ⟨rfl, hb1⟩
  go_wp2_with fail
  refine (H2.out _).mono ?_
  rintro r w2 ⟨rfl, hb2⟩
  have hb := hb1.tr hb2
  clear hb1 hb2
  go_wp2_with fail
  go_loopw [14] (fun i wr => ∃ k : Nat, k ≤ 2 ∧ i = .int .i64 (k + 1) ∧ Below w.heap.size w wr) (fun i _ => 3 - (intOf i).toNat)
  case atStart => exact ⟨0, by omega, rfl, hb⟩
  case round =>
    obtain ⟨k, hk, rfl, hbr⟩ := hrel
    have hk3 : k = 0 ∨ k = 1 ∨ k = 2 := by omega
    rcases hk3 with rfl | rfl | rfl
    · go_wp2_with fail
      refine (H6.out 1 1 _).mono ?_
      rintro r w3 ⟨rfl, hb3⟩
      go_wp2_with fail
      refine (H7.out 1 1 _).mono ?_
      rintro r w4 ⟨rfl, hb4⟩
      go_wp2_with fail
      exact ⟨⟨1, by omega, by go_num, (hbr.tr hb3).tr hb4⟩, by simp [intOf]⟩
    · go_wp2_with fail
      refine (H6.out 2 2 _).mono ?_
      rintro r w3 ⟨rfl, hb3⟩
      go_wp2_with fail
      refine (H7.out 2 2 _).mono ?_
      rintro r w4 ⟨rfl, hb4⟩
      go_wp2_with fail
      exact ⟨⟨2, by omega, by go_num, (hbr.tr hb3).tr hb4⟩, by simp [intOf]⟩
    · go_wp2_with fail
      refine (H5.out _ (HT.out.below hbr)).mono ?_
      rintro r w5 ⟨rfl, hb5⟩
      go_wp2_with fail
      go_ret
      exact ⟨rfl, hbr.tr hb5⟩
set_option maxRecDepth 100000 in
set_option maxHeartbeats 4000000 in
theorem tabF (o a b : Int) (hn : 15 = o % 18 - 1) (ho : 0 ≤ o ∧ o ≤ 255) (w : World) (hT : Tab w)
    (h1 : ∀ w, Calls Tryd.prog 8 #[.int .i64 15, .int .i64 a] w fun e w' => e = .returned (.tuple #[.int .i64 0, .int .i64 12]) ∧ Below w.heap.size w w')
    (h2 : ∀ w, Calls Tryd.prog 10 #[.int .i64 15, .int .i64 a, .int .i64 b] w fun e w' => e = .returned (.tuple #[.int .i64 0, .int .i64 2]) ∧ Below w.heap.size w w') :
    Calls Tryd.prog 6 #[.int .u8 o, .int .i64 a, .int .i64 b] w fun r w' => r = .returned (.bool true) ∧ Below w.heap.size w w' := by
  have H6 := hide tab_eq
  have H7 := hide tab_ne
  have H5 := hide works_any
  have HT := hide hT
  clear hT
  have H1 := hide h1
  have H2 := hide h2
  clear h1 h2
  go_enter Tryd.func6, Tryd.ntmps6
  go_wp2_with fail
  rw [← hn]
  clear hn
  refine (H1.out _).mono ?_
  rintro r w1 ⟨rfl, hb1⟩
  go_wp2_with fail
  refine (H2.out _).mono ?_
  rintro r w2 ⟨rfl, hb2⟩
  have hb := hb1.tr hb2
  clear hb1 hb2
  go_wp2_with fail
  go_loopw [14] (fun i wr => ∃ k : Nat, k ≤ 2 ∧ i = .int .i64 (k + 1) ∧ Below w.heap.size w wr) (fun i _ => 3 - (intOf i).toNat)
  case atStart => exact ⟨0, by omega, rfl, hb⟩
  case round =>
    obtain ⟨k, hk, rfl, hbr⟩ := hrel
    have hk3 : k = 0 ∨ k = 1 ∨ k = 2 := by omega
    rcases hk3 with rfl | rfl | rfl
    · go_wp2_with fail
      refine (H6.out 1 1 _).mono ?_
      rintro r w3 ⟨rfl, hb3⟩
      go_wp2_with fail
      refine (H7.out 1 1 _).mono ?_
      rintro r w4 ⟨rfl, hb4⟩
      go_wp2_with fail
      exact ⟨⟨1, by omega, by go_num, (hbr.tr hb3).tr hb4⟩, by simp [intOf]⟩
    · go_wp2_with fail
      refine (H6.out 2 2 _).mono ?_
      rintro r w3 ⟨rfl, hb3⟩
      go_wp2_with fail
      refine (H7.out 2 2 _).mono ?_
      rintro r w4 ⟨rfl, hb4⟩
      go_wp2_with fail
      exact ⟨⟨2, by omega, by go_num, (hbr.tr hb3).tr hb4⟩, by simp [intOf]⟩
    · go_wp2_with fail
      refine (H5.out _ (HT.out.below hbr)).mono ?_
      rintro r w5 ⟨rfl, hb5⟩
      go_wp2_with fail
      go_ret
      exact ⟨rfl, hbr.tr hb5⟩
set_option maxRecDepth 100000 in
set_option maxHeartbeats 4000000 in
theorem tabG (o n : Int) (hn : n = o % 18 - 1) (ho : 0 ≤ o ∧ o ≤ 255) (g14 : (n == 14) = false) (g15 : (n == 15) = false) (hr : 1 ≤ n) (hr2 : n ≤ 5) (g13 : decide (n ≤ 13) = true) (w : World) (hT : Tab w)
    (h1 : ∀ w, Calls Tryd.prog 8 #[.int .i64 n, .int .i64 1] w fun e w' => e = .returned (.tuple #[.int .i64 0, .int .i64 2]) ∧ Below w.heap.size w w')
    (h2 : ∀ w, Calls Tryd.prog 10 #[.int .i64 n, .int .i64 1, .int .i64 1] w fun e w' => e = .returned (.tuple #[.int .i64 1, .int .i64 0]) ∧ Below w.heap.size w w') :
    Calls Tryd.prog 6 #[.int .u8 o, .int .i64 1, .int .i64 1] w fun r w' => r = .returned (.bool true) ∧ Below w.heap.size w w' := by
  have H6 := hide tab_eq
  have H7 := hide tab_ne
  have H5 := hide works_any
  have HT := hide hT
  clear hT
  have H1 := hide h1
  have H2 := hide h2
  clear h1 h2
  go_enter Tryd.func6, Tryd.ntmps6
  go_wp2_with fail
  rw [← hn]
  clear hn
  refine (H1.out _).mono ?_
  rintro r w1 ⟨rfl, hb1⟩
  go_wp2_with fail
  refine (H2.out _).mono ?_
  rintro r w2 ⟨rfl, hb2⟩
  have hb := hb1.tr hb2
  clear hb1 hb2
  go_wp2_with fail
  go_loopw [14] (fun i wr => ∃ k : Nat, k ≤ 2 ∧ i = .int .i64 (k + 1) ∧ Below w.heap.size w wr) (fun i _ => 3 - (intOf i).toNat)
  case atStart => exact ⟨0, by omega, rfl, hb⟩
  case round =>
    obtain ⟨k, hk, rfl, hbr⟩ := hrel
    have hk3 : k = 0 ∨ k = 1 ∨ k = 2 := by omega
    rcases hk3 with rfl | rfl | rfl
    · go_wp2_with fail
      refine (H6.out 1 1 _).mono ?_
      rintro r w3 ⟨rfl, hb3⟩
      go_wp2_with fail
      refine (H7.out 1 1 _).mono ?_
      rintro r w4 ⟨rfl, hb4⟩
      go_wp2_with fail
      exact ⟨⟨1, by omega, by go_num, (hbr.tr hb3).tr hb4⟩, by simp [intOf]⟩
    · go_wp2_with fail
      refine (H6.out 2 2 _).mono ?_
      rintro r w3 ⟨rfl, hb3⟩
      go_wp2_with fail
      refine (H7.out 2 2 _).mono ?_
      rintro r w4 ⟨rfl, hb4⟩
      go_wp2_with fail
      exact ⟨⟨2, by omega, by go_num, (hbr.tr hb3).tr hb4⟩, by simp [intOf]⟩
    · go_wp2_with fail
      refine (H5.out _ (HT.out.below hbr)).mono ?_
      rintro r w5 ⟨rfl, hb5⟩
      go_wp2_with fail
      go_ret
      exact ⟨rfl, hbr.tr hb5⟩
set_option maxRecDepth 100000 in
set_option maxHeartbeats 4000000 in
theorem tabH (o n a b : Int) (hn : n = o % 18 - 1) (ho : 0 ≤ o ∧ o ≤ 255) (g14 : (n == 14) = false) (g15 : (n == 15) = false) (hr : 1 ≤ n) (hr2 : n ≤ 13) (w : World) (hT : Tab w)
    (h1 : ∀ w, Calls Tryd.prog 8 #[.int .i64 n, .int .i64 a] w fun e w' => e = .returned (.tuple #[.int .i64 0, .int .i64 2]) ∧ Below w.heap.size w w')
    (h2 : ∀ w, Calls Tryd.prog 10 #[.int .i64 n, .int .i64 a, .int .i64 b] w fun e w' => e = .returned (.tuple #[.int .i64 0, .int .i64 12]) ∧ Below w.heap.size w w') :
    Calls Tryd.prog 6 #[.int .u8 o, .int .i64 a, .int .i64 b] w fun r w' => r = .returned (.bool true) ∧ Below w.heap.size w w' := by
  have H6 := hide tab_eq
  have H7 := hide tab_ne
  have H5 := hide works_any
  have HT := hide hT
  clear hT
  have H1 := hide h1
  have H2 := hide h2
  clear h1 h2
  go_enter Tryd.func6, Tryd.ntmps6
  go_wp2_with fail
  rw [← hn]
  clear hn
  refine (H1.out _).mono ?_
  rintro r w1 ⟨rfl, hb1⟩
  go_wp2_with fail
  refine (H2.out _).mono ?_
  rintro r w2 ⟨rfl, hb2⟩
  have hb := hb1.tr hb2
  clear hb1 hb2
  go_wp2_with fail
  go_loopw [14] (fun i wr => ∃ k : Nat, k ≤ 2 ∧ i = .int .i64 (k + 1) ∧ Below w.heap.size w wr) (fun i _ => 3 - (intOf i).toNat)
  case atStart => exact ⟨0, by omega, rfl, hb⟩
  case round =>
    obtain ⟨k, hk, rfl, hbr⟩ := hrel
    have hk3 : k = 0 ∨ k = 1 ∨ k = 2 := by omega
    rcases hk3 with rfl | rfl | rfl
    · go_wp2_with fail
      refine (H6.out 1 1 _).mono ?_
      rintro r w3 ⟨rfl, hb3⟩
      go_wp2_with fail
      refine (H7.out 1 1 _).mono ?_
      rintro r w4 ⟨rfl, hb4⟩
      go_wp2_with fail
      exact ⟨⟨1, by omega, by go_num, (hbr.tr hb3).tr hb4⟩, by simp [intOf]⟩
    · go_wp2_with fail
      refine (H6.out 2 2 _).mono ?_
      rintro r w3 ⟨rfl, hb3⟩
      go_wp2_with fail
      refine (H7.out 2 2 _).mono ?_
      rintro r w4 ⟨rfl, hb4⟩
      go_wp2_with fail
      exact ⟨⟨2, by omega, by go_num, (hbr.tr hb3).tr hb4⟩, by simp [intOf]⟩
    · go_wp2_with fail
      refine (H5.out _ (HT.out.below hbr)).mono ?_
      rintro r w5 ⟨rfl, hb5⟩
      go_wp2_with fail
      go_ret
      exact ⟨rfl, hbr.tr hb5⟩
set_option maxRecDepth 100000 in
set_option maxHeartbeats 4000000 in
theorem tabI (o n : Int) (hn : n = o % 18 - 1) (ho : 0 ≤ o ∧ o ≤ 255) (g14 : (n == 14) = false) (g15 : (n == 15) = false) (hr : 6 ≤ n) (hr2 : n ≤ 7) (g13 : decide (n ≤ 13) = true) (w : World) (hT : Tab w)
    (h1 : ∀ w, Calls Tryd.prog 8 #[.int .i64 n, .int .i64 1] w fun e w' => e = .returned (.tuple #[.int .i64 0, .int .i64 2]) ∧ Below w.heap.size w w')
    (h2 : ∀ w, Calls Tryd.prog 10 #[.int .i64 n, .int .i64 1, .int .i64 1] w fun e w' => e = .returned (.tuple #[.int .i64 2, .int .i64 0]) ∧ Below w.heap.size w w') :
    Calls Tryd.prog 6 #[.int .u8 o, .int .i64 1, .int .i64 1] w fun r w' => r = .returned (.bool true) ∧ Below w.heap.size w w' := by
  have H6 := hide tab_eq
  have H7 := hide tab_ne
  have H5 := hide works_any
  have HT := hide hT
  clear hT
  have H1 := hide h1
  have H2 := hide h2
  clear h1 h2
  go_enter Tryd.func6, Tryd.ntmps6
  go_wp2_with fail
  rw [← hn]
  clear hn
  refine (H1.out _).mono ?_
  rintro r w1 ⟨rfl, hb1⟩
  go_wp2_with fail
  refine (H2.out _).mono ?_
  rintro r w2 ⟨rfl, hb2⟩
  have hb := hb1.tr hb2
  clear hb1 hb2
  go_wp2_with fail
  go_loopw [14] (fun i wr => ∃ k : Nat, k ≤ 2 ∧ i = .int .i64 (k + 1) ∧ Below w.heap.size w wr) (fun i _ => 3 - (intOf i).toNat)
  case atStart => exact ⟨0, by omega, rfl, hb⟩
  case round =>
    obtain ⟨k, hk, rfl, hbr⟩ := hrel
    have hk3 : k = 0 ∨ k = 1 ∨ k = 2 := by omega
    rcases hk3 with rfl | rfl | rfl
    · go_wp2_with fail
      refine (H6.out 1 1 _).mono ?_
      rintro r w3 ⟨rfl, hb3⟩
      go_wp2_with fail
      refine (H7.out 1 1 _).mono ?_
      rintro r w4 ⟨rfl, hb4⟩
      go_wp2_with fail
      exact ⟨⟨1, by omega, by go_num, (hbr.tr hb3).tr hb4⟩, by simp [intOf]⟩
    · go_wp2_with fail
      refine (H6.out 2 2 _).mono ?_
      rintro r w3 ⟨rfl, hb3⟩
      go_wp2_with fail
      refine (H7.out 2 2 _).mono ?_
      rintro r w4 ⟨rfl, hb4⟩
      go_wp2_with fail
      exact ⟨⟨2, by omega, by go_num, (hbr.tr hb3).tr hb4⟩, by simp [intOf]⟩
    · go_wp2_with fail
      refine (H5.out _ (HT.out.below hbr)).mono ?_
      rintro r w5 ⟨rfl, hb5⟩
      go_wp2_with fail
      go_ret
      exact ⟨rfl, hbr.tr hb5⟩
set_option maxRecDepth 100000 in
set_option maxHeartbeats 4000000 in
theorem tabL (o n : Int) (hn : n = o % 18 - 1) (ho : 0 ≤ o ∧ o ≤ 255) (g14 : (n == 14) = false) (g15 : (n == 15) = false) (hr : 8 ≤ n) (hr2 : n ≤ 11) (g13 : decide (n ≤ 13) = true) (w : World) (hT : Tab w)
    (h1 : ∀ w, Calls Tryd.prog 8 #[.int .i64 n, .int .i64 1] w fun e w' => e = .returned (.tuple #[.int .i64 0, .int .i64 2]) ∧ Below w.heap.size w w')
    (h2 : ∀ w, Calls Tryd.prog 10 #[.int .i64 n, .int .i64 1, .int .i64 1] w fun e w' => e = .returned (.tuple #[.int .i64 2, .int .i64 0]) ∧ Below w.heap.size w w') :
    Calls Tryd.prog 6 #[.int .u8 o, .int .i64 1, .int .i64 1] w fun r w' => r = .returned (.bool true) ∧ Below w.heap.size w w' := by
  have H6 := hide tab_eq
  have H7 := hide tab_ne
  have H5 := hide works_any
  have HT := hide hT
  clear hT
  have H1 := hide h1
  have H2 := hide h2
  clear h1 h2
  go_enter Tryd.func6, Tryd.ntmps6
  go_wp2_with fail
  rw [← hn]
  clear hn
  refine (H1.out _).mono ?_
  rintro r w1 ⟨rfl, hb1⟩
  go_wp2_with fail
  refine (H2.out _).mono ?_
  rintro r w2 ⟨rfl, hb2⟩
  have hb := hb1.tr hb2
  clear hb1 hb2
  go_wp2_with fail
  go_loopw [14] (fun i wr => ∃ k : Nat, k ≤ 2 ∧ i = .int .i64 (k + 1) ∧ Below w.heap.size w wr) (fun i _ => 3 - (intOf i).toNat)
  case atStart => exact ⟨0, by omega, rfl, hb⟩
  case round =>
    obtain ⟨k, hk, rfl, hbr⟩ := hrel
    have hk3 : k = 0 ∨ k = 1 ∨ k = 2 := by omega
    rcases hk3 with rfl | rfl | rfl
    · go_wp2_with fail
      refine (H6.out 1 1 _).mono ?_
      rintro r w3 ⟨rfl, hb3⟩
      go_wp2_with fail
      refine (H7.out 1 1 _).mono ?_
      rintro r w4 ⟨rfl, hb4⟩
      go_wp2_with fail
      exact ⟨⟨1, by omega, by go_num, (hbr.tr hb3).tr hb4⟩, by simp [intOf]⟩
    · go_wp2_with fail
      refine (H6.out 2 2 _).mono ?_
      rintro r w3 ⟨rfl, hb3⟩
      go_wp2_with fail
      refine (H7.out 2 2 _).mono ?_
      rintro r w4 ⟨rfl, hb4⟩
      go_wp2_with fail
      exact ⟨⟨2, by omega, by go_num, (hbr.tr hb3).tr hb4⟩, by simp [intOf]⟩
    · go_wp2_with fail
      refine (H5.out _ (HT.out.below hbr)).mono ?_
      rintro r w5 ⟨rfl, hb5⟩
      go_wp2_with fail
      go_ret
      exact ⟨rfl, hbr.tr hb5⟩
set_option maxRecDepth 100000 in
set_option maxHeartbeats 4000000 in
theorem tabJ (o n : Int) (hn : n = o % 18 - 1) (ho : 0 ≤ o ∧ o ≤ 255) (g14 : (n == 14) = false) (g15 : (n == 15) = false) (hr : 6 ≤ n) (hr2 : n ≤ 7) (g13 : decide (n ≤ 13) = true) (w : World) (hT : Tab w)
    (h1 : ∀ w, Calls Tryd.prog 8 #[.int .i64 n, .int .i64 2] w fun e w' => e = .returned (.tuple #[.int .i64 0, .int .i64 2]) ∧ Below w.heap.size w w')
    (h2 : ∀ w, Calls Tryd.prog 10 #[.int .i64 n, .int .i64 2, .int .i64 2] w fun e w' => e = .returned (.tuple #[.int .i64 2, .int .i64 0]) ∧ Below w.heap.size w w') :
    Calls Tryd.prog 6 #[.int .u8 o, .int .i64 2, .int .i64 2] w fun r w' => r = .returned (.bool true) ∧ Below w.heap.size w w' := by
  have H6 := hide tab_eq
  have H7 := hide tab_ne
  have H5 := hide works_any
  have HT := hide hT
  clear hT
  have H1 := hide h1
  have H2 := hide h2
  clear h1 h2
  go_enter Tryd.func6, Tryd.ntmps6
  go_wp2_with fail
  rw [← hn]
  clear hn
  refine (H1.out _).mono ?_
  rintro r w1 ⟨rfl, hb1⟩
  go_wp2_with fail
  refine (H2.out _).mono ?_
  rintro r w2 ⟨rfl, hb2⟩
  have hb := hb1.tr hb2
  clear hb1 hb2
  go_wp2_with fail
  go_loopw [14] (fun i wr => ∃ k : Nat, k ≤ 2 ∧ i = .int .i64 (k + 1) ∧ Below w.heap.size w wr) (fun i _ => 3 - (intOf i).toNat)
  case atStart => exact ⟨0, by omega, rfl, hb⟩
  case round =>
    obtain ⟨k, hk, rfl, hbr⟩ := hrel
    have hk3 : k = 0 ∨ k = 1 ∨ k = 2 := by omega
    rcases hk3 with rfl | rfl | rfl
    · go_wp2_with fail
      refine (H6.out 1 1 _).mono ?_
      rintro r w3 ⟨rfl, hb3⟩
      go_wp2_with fail
      refine (H7.out 1 1 _).mono ?_
      rintro r w4 ⟨rfl, hb4⟩
      go_wp2_with fail
      exact ⟨⟨1, by omega, by go_num, (hbr.tr hb3).tr hb4⟩, by simp [intOf]⟩
    · go_wp2_with fail
      refine (H6.out 2 2 _).mono ?_
      rintro r w3 ⟨rfl, hb3⟩
      go_wp2_with fail
      refine (H7.out 2 2 _).mono ?_
      rintro r w4 ⟨rfl, hb4⟩
      go_wp2_with fail
      exact ⟨⟨2, by omega, by go_num, (hbr.tr hb3).tr hb4⟩, by simp [intOf]⟩
    · go_wp2_with fail
      refine (H5.out _ (HT.out.below hbr)).mono ?_
      rintro r w5 ⟨rfl, hb5⟩
      go_wp2_with fail
      go_ret
      exact ⟨rfl, hbr.tr hb5⟩
set_option maxRecDepth 100000 in
set_option maxHeartbeats 4000000 in
theorem tabK (o n : Int) (hn : n = o % 18 - 1) (ho : 0 ≤ o ∧ o ≤ 255) (g14 : (n == 14) = false) (g15 : (n == 15) = false) (hr : 12 ≤ n) (hr2 : n ≤ 13) (w : World) (hT : Tab w)
    (h1 : ∀ w, Calls Tryd.prog 8 #[.int .i64 n, .int .i64 2] w fun e w' => e = .returned (.tuple #[.int .i64 0, .int .i64 2]) ∧ Below w.heap.size w w')
    (h2 : ∀ w, Calls Tryd.prog 10 #[.int .i64 n, .int .i64 2, .int .i64 2] w fun e w' => e = .returned (.tuple #[.int .i64 2, .int .i64 0]) ∧ Below w.heap.size w w') :
    Calls Tryd.prog 6 #[.int .u8 o, .int .i64 2, .int .i64 2] w fun r w' => r = .returned (.bool true) ∧ Below w.heap.size w w' := by
  have H6 := hide tab_eq
  have H7 := hide tab_ne
  have H5 := hide works_any
  have HT := hide hT
  clear hT
  have H1 := hide h1
  have H2 := hide h2
  clear h1 h2
  go_enter Tryd.func6, Tryd.ntmps6
  go_wp2_with fail
  rw [← hn]
  clear hn
  refine (H1.out _).mono ?_
  rintro r w1 ⟨rfl, hb1⟩
  go_wp2_with fail
  refine (H2.out _).mono ?_
  rintro r w2 ⟨rfl, hb2⟩
  have hb := hb1.tr hb2
  clear hb1 hb2
  go_wp2_with fail
  go_loopw [14] (fun i wr => ∃ k : Nat, k ≤ 2 ∧ i = .int .i64 (k + 1) ∧ Below w.heap.size w wr) (fun i _ => 3 - (intOf i).toNat)
  case atStart => exact ⟨0, by omega, rfl, hb⟩
  case round =>
    obtain ⟨k, hk, rfl, hbr⟩ := hrel
    have hk3 : k = 0 ∨ k = 1 ∨ k = 2 := by omega
    rcases hk3 with rfl | rfl | rfl
    · go_wp2_with fail
      refine (H6.out 1 1 _).mono ?_
      rintro r w3 ⟨rfl, hb3⟩
      go_wp2_with fail
      refine (H7.out 1 1 _).mono ?_
      rintro r w4 ⟨rfl, hb4⟩
      go_wp2_with fail
      exact ⟨⟨1, by omega, by go_num, (hbr.tr hb3).tr hb4⟩, by simp [intOf]⟩
    · go_wp2_with fail
      refine (H6.out 2 2 _).mono ?_
      rintro r w3 ⟨rfl, hb3⟩
      go_wp2_with fail
      refine (H7.out 2 2 _).mono ?_
      rintro r w4 ⟨rfl, hb4⟩
      go_wp2_with fail
      exact ⟨⟨2, by omega, by go_num, (hbr.tr hb3).tr hb4⟩, by simp [intOf]⟩
    · go_wp2_with fail
      refine (H5.out _ (HT.out.below hbr)).mono ?_
      rintro r w5 ⟨rfl, hb5⟩
      go_wp2_with fail
      go_ret
      exact ⟨rfl, hbr.tr hb5⟩
theorem TypesTable_any (o a b : Int) (ho : 0 ≤ o ∧ o ≤ 255) (w : World) (hT : Tab w) : Calls Tryd.prog 6 #[.int .u8 o, .int .i64 a, .int .i64 b] w fun r w' => r = .returned (.bool true) ∧ Below w.heap.size w w' := by
  obtain ⟨n, hn⟩ : ∃ n, n = o % 18 - 1 := ⟨_, rfl⟩
  have h1 := unary_any n a
  have h2 := binary_any n a b
  rw [unaryM_eq] at h1
  rw [binaryM_eq] at h2
  have hn1 : -1 ≤ n ∧ n ≤ 16 := by omega
  by_cases e14 : n = 14
  · subst e14
    rw [show binaryT 14 a b = (0, 2) by unfold binaryT; rw [if_pos (by omega)]] at h2
    by_cases ha : a = 1
    · subst ha
      exact tabC o b hn ho w hT h1 h2
    · rw [show unaryT 14 a = (0, 12) by unfold unaryT; rw [if_pos rfl, if_neg ha]] at h1
      exact tabD o a b hn ho w hT h1 h2
  by_cases e15 : n = 15
  · subst e15
    rw [show binaryT 15 a b = (0, 2) by unfold binaryT; rw [if_pos (by omega)]] at h2
    by_cases ha : a = 2
    · subst ha
      exact tabE o b hn ho w hT h1 h2
    · rw [show unaryT 15 a = (0, 12) by unfold unaryT; rw [if_neg (by omega), if_pos rfl, if_neg ha]] at h1
      exact tabF o a b hn ho w hT h1 h2
  have g14 : (n == 14) = false := by simpa using e14
  have g15 : (n == 15) = false := by simpa using e15
  rw [show unaryT n a = (0, 2) by unfold unaryT; repeat rw [if_neg (by omega)]] at h1
  by_cases l0 : n ≤ 0
  · rw [show binaryT n a b = (0, 2) by unfold binaryT; rw [if_pos (by omega)]] at h2
    exact tabA o n a b hn ho g14 g15 l0 w hT h1 h2
  by_cases l16 : 16 ≤ n
  · rw [show binaryT n a b = (0, 2) by unfold binaryT; rw [if_pos (by omega)]] at h2
    exact tabB o n a b hn ho g14 g15 l16 w hT h1 h2
  by_cases h11 : a = 1 ∧ b = 1
  · obtain ⟨rfl, rfl⟩ := h11
    by_cases l5 : n ≤ 5
    · rw [show binaryT n 1 1 = (1, 0) by unfold binaryT; rw [if_neg (by omega), if_pos (by omega)]] at h2
      exact tabG o n hn ho g14 g15 (by omega) l5 (by simp; omega) w hT h1 h2
    by_cases l11 : n ≤ 11
    · rw [show binaryT n 1 1 = (2, 0) by unfold binaryT; rw [if_neg (by omega), if_neg (by omega), if_pos (by omega)]] at h2
      by_cases l8 : n ≤ 7
      · exact tabI o n hn ho g14 g15 (by omega) l8 (by simp; omega) w hT h1 h2
      exact tabL o n hn ho g14 g15 (by omega) l11 (by simp; omega) w hT h1 h2
    rw [show binaryT n 1 1 = (0, 12) by unfold binaryT; rw [if_neg (by omega), if_neg (by omega), if_neg (by omega)]] at h2
    exact tabH o n 1 1 hn ho g14 g15 (by omega) (by omega) w hT h1 h2
  by_cases h22 : a = 2 ∧ b = 2
  · obtain ⟨rfl, rfl⟩ := h22
    by_cases l7 : 6 ≤ n ∧ n ≤ 7
    · rw [show binaryT n 2 2 = (2, 0) by unfold binaryT; rw [if_neg (by omega), if_neg (by omega), if_pos (by omega)]] at h2
      exact tabJ o n hn ho g14 g15 l7.1 l7.2 (by simp; omega) w hT h1 h2
    by_cases l12 : 12 ≤ n
    · rw [show binaryT n 2 2 = (2, 0) by unfold binaryT; rw [if_neg (by omega), if_neg (by omega), if_pos (by omega)]] at h2
      exact tabK o n hn ho g14 g15 l12 (by omega) w hT h1 h2
    rw [show binaryT n 2 2 = (0, 12) by unfold binaryT; rw [if_neg (by omega), if_neg (by omega), if_neg (by omega)]] at h2
    exact tabH o n 2 2 hn ho g14 g15 (by omega) (by omega) w hT h1 h2
  rw [show binaryT n a b = (0, 12) by unfold binaryT; rw [if_neg (by omega), if_neg (by omega), if_neg (by omega)]] at h2
  exact tabH o n a b hn ho g14 g15 (by omega) (by omega) w hT h1 h2
end Go.Proofs.YtfpikakgaghdbaaDoor
