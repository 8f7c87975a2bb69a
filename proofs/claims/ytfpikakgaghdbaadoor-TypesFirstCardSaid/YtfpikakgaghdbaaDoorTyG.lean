/- rewindlaw11.works returns true in every world in which the table of blanks is laid. -/
import Derived.Test.YtfpikakgaghdbaaDoorTyG0
namespace Go.Proofs.YtfpikakgaghdbaaDoor
open Go Go.RowKit
set_option linter.unusedSimpArgs false
set_option linter.unusedVariables false
set_option linter.unnecessarySimpa false
set_option maxRecDepth 100000 in
set_option maxHeartbeats 8000000 in
theorem works_any (w : World) (hT : Tab w) : Calls Tryd.prog 12 #[] w fun r w' => r = .returned (.bool true) ∧ Below w.heap.size w w' := by
  have HT := hide hT
  clear hT
  go_enter Tryd.func12, Tryd.ntmps12
  go_wp2_with fail
  refine (vars_any _).mono ?_
  rintro r w1 ⟨rfl, rfl⟩
  have HL := hide (Vrs.alloc w exVars 47 _ exVars_wf (by decide) rfl)
  have hw0 := (bl w).al (.cells (exVars.flatMap Vr.cells).toArray 47)
  generalize w.alloc (.cells (exVars.flatMap Vr.cells).toArray 47) = w1 at *
  go_wp2_with fail
  have c0 : (w1.alloc (.cells #[.int .i64 7, .int .i64 0, .int .i64 0, .string ⟨#[97]⟩, .slice none 0 0] 36)).cell? ⟨w1.heap.size, 0, none⟩ = some (.int .i64 7) := by go_simp
  have c1 : (w1.alloc (.cells #[.int .i64 7, .int .i64 0, .int .i64 0, .string ⟨#[97]⟩, .slice none 0 0] 36)).cell? ⟨w1.heap.size, 1, none⟩ = some (.int .i64 0) := by go_simp
  have c2 : (w1.alloc (.cells #[.int .i64 7, .int .i64 0, .int .i64 0, .string ⟨#[97]⟩, .slice none 0 0] 36)).cell? ⟨w1.heap.size, 2, none⟩ = some (.int .i64 0) := by go_simp
  have c3 : (w1.alloc (.cells #[.int .i64 7, .int .i64 0, .int .i64 0, .string ⟨#[97]⟩, .slice none 0 0] 36)).cell? ⟨w1.heap.size, 3, none⟩ = some (.string ⟨#[97]⟩) := by go_simp
  have c4 : (w1.alloc (.cells #[.int .i64 7, .int .i64 0, .int .i64 0, .string ⟨#[97]⟩, .slice none 0 0] 36)).cell? ⟨w1.heap.size, 4, none⟩ = some (.slice none 0 0) := by go_simp
  have hw1 := hw0.al (.cells #[.int .i64 7, .int .i64 0, .int .i64 0, .string ⟨#[97]⟩, .slice none 0 0] 36)
  have HL := hide (HL.out.keep ((bl w1).al (.cells #[.int .i64 7, .int .i64 0, .int .i64 0, .string ⟨#[97]⟩, .slice none 0 0] 36)) (Nat.le_refl _))
  have hn1 : w1.heap.size < (w1.alloc (.cells #[.int .i64 7, .int .i64 0, .int .i64 0, .string ⟨#[97]⟩, .slice none 0 0] 36)).heap.size := by simp
  generalize w1.alloc (.cells #[.int .i64 7, .int .i64 0, .int .i64 0, .string ⟨#[97]⟩, .slice none 0 0] 36) = W at *
  generalize w1.heap.size = n1 at *
  have HBW : Below W.drew.heap.size W.drew W.drew := bl _
  have HB : Bag W.drew [(.mk 7 0 0 [97] [], .agg #[.int .i64 7, .int .i64 0, .int .i64 0, .string ⟨#[97]⟩, .slice none 0 0])] :=
    (Bag.nil _).cons (bl _) ⟨none, 0, rfl, ⟨i64_small (by decide), i64_small (by decide), i64_small (by decide), by decide, Nat.le_refl _, Nat.zero_le _⟩, trivial⟩
  go_region_held3 (fun w' => n1 < w'.heap.size ∧ w'.cell? ⟨n1, 0, none⟩ = some (.int .i64 7) ∧ w'.cell? ⟨n1, 1, none⟩ = some (.int .i64 0) ∧ w'.cell? ⟨n1, 2, none⟩ = some (.int .i64 0) ∧ w'.cell? ⟨n1, 3, none⟩ = some (.string ⟨#[97]⟩) ∧ w'.cell? ⟨n1, 4, none⟩ = some (.slice none 0 0))
    (first | (go_split_ands; exact ⟨by have := hb.size; omega, cell_keep (by assumption) hb (Nat.le_refl _), cell_keep (by assumption) hb (Nat.le_refl _), cell_keep (by assumption) hb (Nat.le_refl _), cell_keep (by assumption) hb (Nat.le_refl _), cell_keep (by assumption) hb (Nat.le_refl _)⟩) | (go_split_ands; exact ⟨by rw [World.size_alloc]; omega, cell_keep (by assumption) ((bl _).al _) (Nat.le_refl _), cell_keep (by assumption) ((bl _).al _) (Nat.le_refl _), cell_keep (by assumption) ((bl _).al _) (Nat.le_refl _), cell_keep (by assumption) ((bl _).al _) (Nat.le_refl _), cell_keep (by assumption) ((bl _).al _) (Nat.le_refl _)⟩) | go_keep)
    (first | (go_at_call 31; refine (name_any' _ _ (by decide)).mono ?_; rintro r w1 ⟨⟨v, rfl, hv⟩, hb⟩; have HB := HB.cons hb hv; have HBW := HBW.tr hb; obtain ⟨a, cap, rfl, hw, hr⟩ := hv; clear hw hr)
           | (go_at_call 32; refine (num_any _ _ (i64_small (by decide))).mono ?_; rintro r w1 ⟨⟨v, rfl, hv⟩, hb⟩; have HB := HB.cons hb hv; have HBW := HBW.tr hb; obtain ⟨a, cap, rfl, hw, hr⟩ := hv; clear hw hr)
           | (go_at_call 17; refine (binary_any' _ _ _ _ _ _ (i64_small (by decide)) (HB.get (by repeat (first | exact List.Mem.head _ | refine List.Mem.tail _ ?_))) (HB.get (by repeat (first | exact List.Mem.head _ | refine List.Mem.tail _ ?_)))).mono ?_; rintro r w1 ⟨⟨v, rfl, hv⟩, hb⟩; have HB := HB.cons hb hv; have HBW := HBW.tr hb; obtain ⟨a, cap, rfl, hw, hr⟩ := hv; clear hw hr)
           | (go_at_call 18; refine (index_any' _ _ _ _ (by decide) (HB.get (by repeat (first | exact List.Mem.head _ | refine List.Mem.tail _ ?_)))).mono ?_; rintro r w1 ⟨⟨v, rfl, hv⟩, hb⟩; have HB := HB.cons hb hv; have HBW := HBW.tr hb; obtain ⟨a, cap, rfl, hw, hr⟩ := hv; clear hw hr))
  go_wp2_with fail
  refine cut_world (fun W' => Tests W' tests w1.heap.size ∧ Below W.drew.heap.size W.drew W') ⟨?_, HBW.al _⟩ ?_
  · refine tests_alloc w1 [(Ex.mk 5 1 0 [] [.mk 3 0 0 [120] [], .mk 7 0 0 [97] []], _, _, 1, 0), (Ex.mk 5 12 0 [] [.mk 5 8 0 [] [.mk 6 0 0 [97] [.mk 3 0 0 [120] []], .mk 1 0 2 [] []], .mk 3 0 0 [98] []], _, _, 2, 0), (Ex.mk 3 0 0 [121] [], _, _, 0, 11), (Ex.mk 5 1 0 [] [.mk 3 0 0 [98] [], .mk 3 0 0 [122] []], _, _, 0, 11), (Ex.mk 5 1 0 [] [.mk 3 0 0 [98] [], .mk 3 0 0 [120] []], _, _, 0, 12), (Ex.mk 6 0 0 [120] [.mk 3 0 0 [121] []], _, _, 0, 11), (Ex.mk 6 0 0 [120] [.mk 3 0 0 [98] []], _, _, 0, 12), (Ex.mk 6 0 0 [97] [.mk 3 0 0 [98] []], _, _, 0, 12), (Ex.mk 7 0 0 [120] [], _, _, 0, 12), (Ex.mk 0 0 0 [] [], _, _, 0, 2)] _ tests rfl ?_
    exact List.forall_mem_cons.2 ⟨HB.get (by repeat (first | exact List.Mem.head _ | refine List.Mem.tail _ ?_)), List.forall_mem_cons.2 ⟨HB.get (by repeat (first | exact List.Mem.head _ | refine List.Mem.tail _ ?_)), List.forall_mem_cons.2 ⟨HB.get (by repeat (first | exact List.Mem.head _ | refine List.Mem.tail _ ?_)), List.forall_mem_cons.2 ⟨HB.get (by repeat (first | exact List.Mem.head _ | refine List.Mem.tail _ ?_)), List.forall_mem_cons.2 ⟨HB.get (by repeat (first | exact List.Mem.head _ | refine List.Mem.tail _ ?_)), List.forall_mem_cons.2 ⟨HB.get (by repeat (first | exact List.Mem.head _ | refine List.Mem.tail _ ?_)), List.forall_mem_cons.2 ⟨HB.get (by repeat (first | exact List.Mem.head _ | refine List.Mem.tail _ ?_)), List.forall_mem_cons.2 ⟨HB.get (by repeat (first | exact List.Mem.head _ | refine List.Mem.tail _ ?_)), List.forall_mem_cons.2 ⟨val_plain _ 7 [120] (i64_small (by decide)) (by decide), List.forall_mem_cons.2 ⟨val_plain _ 0 [] (i64_small (by decide)) (by decide), (fun _ h => nomatch h)⟩⟩⟩⟩⟩⟩⟩⟩⟩⟩
  clear HB HBW hb
  rintro W2 ⟨hT2, hW2⟩
  have HT2 := hide hT2
  clear hT2
  generalize w1.heap.size = nA at *
  have hbase : Below w.heap.size w W2 := (hw1.dr).tr hW2
  have HL := hide (HL.out.keep ((bl W).dr.tr hW2) (Nat.le_refl _))
  go_loopw [54] (fun i wr => ∃ k : Nat, k ≤ 10 ∧ i = .int .i64 k ∧ Below W2.heap.size W2 wr) (fun i _ => 10 - (intOf i).toNat)
  case atStart => exact ⟨0, Nat.zero_le _, rfl, bl _⟩
  case round =>
    obtain ⟨k, hk, rfl, hbr⟩ := hrel
    by_cases hlt : k < 10
    · obtain ⟨h1, c5, c6⟩ := (HT2.out.keep hbr) k hlt
      obtain ⟨a', cap', c0, c1, c2, c3, c4, hw', hr'⟩ := h1.val
      have hres := tests_ok tests[k] (List.getElem_mem hlt)
      have HE := hide (Ex.Val.mk hw' hr')
      clear hw' hr' h1
      have hof := fun W (hW : Below wr.heap.size wr W) => Of_any exVars 1 (some ⟨w.heap.size, 0, none⟩) 4 tests[k].1 _ W (HL.out.keep (hbr.tr hW) (Nat.le_refl _)) (HE.out.keep hW (Nat.le_refl _)) (HT.out.below ((hbase.tr hbr).tr hW))
      rw [hres] at hof
      have HOF := hide hof
      clear hof hres
      generalize tests[k].1 = ek at *
      generalize tests[k].2 = rk at *
      obtain ⟨tk, fk⟩ := rk
      go_wp2_with fail
      refine (HOF.out _ ((bl wr).al _)).mono ?_
      rintro r w3 ⟨rfl, hb3⟩
      obtain ⟨hc3, _⟩ := bcell hb3
      go_wp2_with fail
      go_roundw
      case rel => exact ⟨k + 1, by omega, by go_num, (hbr.al _).tr hb3⟩
      case measure => simp [intOf]; omega
    · obtain rfl : k = 10 := by omega
      have hbase := hbase.tr hbr
      have HL := hide (HL.out.keep hbr (Nat.le_refl _))
      clear hbr HT2 hW2
      go_wp2_with fail
      refine (binary_any 1 1 1 _).mono ?_
      rw [show binaryM 1 1 1 = (1, 0) from by decide]
      rintro r w3 ⟨rfl, hb3⟩
      have hbase := hbase.tr hb3
      have HL := hide (HL.out.keep hb3 (Nat.le_refl _))
      go_wp2_with fail
      refine (binary_any 6 3 3 _).mono ?_
      rw [show binaryM 6 3 3 = (0, 12) from by decide]
      rintro r w4 ⟨rfl, hb4⟩
      have hbase := hbase.tr hb4
      have HL := hide (HL.out.keep hb4 (Nat.le_refl _))
      go_wp2_with fail
      refine (binary_any 14 1 1 _).mono ?_
      rw [show binaryM 14 1 1 = (0, 2) from by decide]
      rintro r w5 ⟨rfl, hb5⟩
      have hbase := hbase.tr hb5
      have HL := hide (HL.out.keep hb5 (Nat.le_refl _))
      go_wp2_with fail
      refine (unary_any 14 2 _).mono ?_
      rw [show unaryM 14 2 = (0, 12) from by decide]
      rintro r w6 ⟨rfl, hb6⟩
      have hbase := hbase.tr hb6
      have HL := hide (HL.out.keep hb6 (Nat.le_refl _))
      have HB := Bag.nil w6
      have HBW : Below w6.heap.size w6 w6 := bl _
      clear hb3 hb4 hb5 hb6
      go_wp2_with fail
      refine (name_any' [120] _ (by decide)).mono ?_
      rintro r w1 ⟨⟨v, rfl, hv⟩, hb⟩; have HB := HB.cons hb hv; have HBW := HBW.tr hb; obtain ⟨a, cap, rfl, hw, hr⟩ := hv; clear hw hr
      go_wp2_with fail
      refine (name_any' [121] _ (by decide)).mono ?_
      rintro r w1 ⟨⟨v, rfl, hv⟩, hb⟩; have HB := HB.cons hb hv; have HBW := HBW.tr hb; obtain ⟨a, cap, rfl, hw, hr⟩ := hv; clear hw hr
      go_wp2_with fail
      refine (index_any' [97] _ _ _ (by decide) (HB.get (by repeat (first | exact List.Mem.head _ | refine List.Mem.tail _ ?_)))).mono ?_
      rintro r w1 ⟨⟨v, rfl, hv⟩, hb⟩; have HB := HB.cons hb hv; have HBW := HBW.tr hb; obtain ⟨a, cap, rfl, hw, hr⟩ := hv; clear hw hr
      go_wp2_with fail
      refine (name_any' [122] _ (by decide)).mono ?_
      rintro r w1 ⟨⟨v, rfl, hv⟩, hb⟩; have HB := HB.cons hb hv; have HBW := HBW.tr hb; obtain ⟨a, cap, rfl, hw, hr⟩ := hv; clear hw hr
      go_wp2_with fail
      refine (binary_any' 3 _ _ _ _ _ (i64_small (by decide)) (HB.get (by repeat (first | exact List.Mem.head _ | refine List.Mem.tail _ ?_))) (HB.get (by repeat (first | exact List.Mem.head _ | refine List.Mem.tail _ ?_)))).mono ?_
      rintro r w1 ⟨⟨v, rfl, hv⟩, hb⟩; have HB := HB.cons hb hv; have HBW := HBW.tr hb; obtain ⟨a, cap, rfl, hw, hr⟩ := hv; clear hw hr
      go_wp2_with fail
      refine (binary_any' 1 _ _ _ _ _ (i64_small (by decide)) (HB.get (by repeat (first | exact List.Mem.head _ | refine List.Mem.tail _ ?_))) (HB.get (by repeat (first | exact List.Mem.head _ | refine List.Mem.tail _ ?_)))).mono ?_
      rintro r w1 ⟨⟨v, rfl, hv⟩, hb⟩; have HB := HB.cons hb hv; have HBW := HBW.tr hb; obtain ⟨a, cap, rfl, hw, hr⟩ := hv; clear hw hr
      have hbase := hbase.tr HBW
      have HL := hide (HL.out.keep HBW (Nat.le_refl _))
      go_wp2_with fail
      refine (Uses_any exVars _ 4 _ _ _ HL.out (HB.get (by repeat (first | exact List.Mem.head _ | refine List.Mem.tail _ ?_))) (HT.out.below hbase) (by decide)).mono ?_
      rw [uses_ok]
      rintro r w7 ⟨⟨ua, ucap, rfl, hu⟩, hb7⟩
      have hbase := hbase.tr hb7
      have HU := hide hu
      clear hu hb7
      go_wp2_with fail
      refine (equal_ints [0, 2, 3] [0, 2, 3] _ _ _ 3 _ (HU.out.keep ((bl w7).al _) (Nat.le_refl _)) (Ints.alloc w7 [0, 2, 3] _ _ (by decide) rfl)).mono ?_
      rintro r w8 ⟨rfl, hb8⟩
      go_wp2_with fail
      go_ret
      exact ⟨rfl, (hbase.al _).tr hb8⟩
end Go.Proofs.YtfpikakgaghdbaaDoor
