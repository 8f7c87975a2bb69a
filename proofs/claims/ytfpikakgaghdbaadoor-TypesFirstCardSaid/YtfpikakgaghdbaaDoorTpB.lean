/- rewindlaw11.list answers the variables of a draft: the walk. -/
import Derived.Test.YtfpikakgaghdbaaDoorTpA
import Derived.BigQuiet
import Derived.Deep.QuietTactic
namespace Go.Proofs.YtfpikakgaghdbaaDoor
open Go Go.RowKit
set_option linter.unusedSimpArgs false
set_option linter.unusedVariables false
set_option linter.unnecessarySimpa false
theorem tmod_nat (a b : Nat) : Int.tmod (a : Int) (b : Int) = ((a % b : Nat) : Int) := rfl
/-- The cells of a variable, as the program reckons them. -/
theorem vr_cells (k : Nat) (d : Dc) (t : List UInt8) (ht : nm5[k]! = t) (h1 : d.t ≤ 255) (h2 : d.f ≤ 255) (h3 : d.u ≤ 255) (hk : k ≤ 4) (hw : t.length ≤ 100) (W : World) :
    VrC W (dcV k d) [.string ⟨t.toArray⟩, .int .i64 (IntKind.i64.wrap (1 + IntKind.i64.wrap (Int.tmod (d.t : Int) 3))), .int .i64 (k : Nat), .int .i64 (IntKind.i64.wrap (Int.tmod (d.f : Int) 8)), .int .i64 (IntKind.i64.wrap (Int.tmod (d.u : Int) 16))] := by
  have e3 : Int.tmod (d.t : Int) 3 = ((d.t % 3 : Nat) : Int) := tmod_nat d.t 3
  have e8 : Int.tmod (d.f : Int) 8 = ((d.f % 8 : Nat) : Int) := tmod_nat d.f 8
  have e16 : Int.tmod (d.u : Int) 16 = ((d.u % 16 : Nat) : Int) := tmod_nat d.u 16
  rw [e3, e8, e16, IntWalk.i64_in ((d.t % 3 : Nat) : Int) (by omega), IntWalk.i64_in ((d.f % 8 : Nat) : Int) (by omega), IntWalk.i64_in ((d.u % 16 : Nat) : Int) (by omega), IntWalk.i64_in _ (by omega)]
  subst ht
  refine ⟨rfl, ?_, (show I64 (1 + ((d.t % 3 : Nat) : Int)) by unfold I64; omega), (show I64 (k : Int) by unfold I64; omega), (show I64 ((d.f % 8 : Nat) : Int) by unfold I64; omega), (show I64 ((d.u % 16 : Nat) : Int) by unfold I64; omega)⟩
  unfold maxLen
  exact Nat.le_trans hw (by decide)
theorem three_grown {wr w6 : World} {x y z : Value} {t : TypeId} {B C : Obj} {k : Option Nat} {base : Nat} (hg : (((wr.alloc (.cells #[x, y, z] t)).alloc B).alloc C).drew.grownBy w6 k) (hk : ∀ g, k = some g → base ≤ g ∧ g < wr.heap.size) :
    w6.cell? ⟨wr.heap.size, 0, none⟩ = some x ∧ w6.cell? ⟨wr.heap.size, 1, none⟩ = some y ∧ w6.cell? ⟨wr.heap.size, 2, none⟩ = some z := by
  have h1 : w6.heap[wr.heap.size]? = some (.cells #[x, y, z] t) := by
    refine (hg.block _ (show wr.heap.size < (((wr.alloc (.cells #[x, y, z] t)).alloc B).alloc C).heap.size by simp; omega) (fun e => by have := hk _ e.symm; omega)).trans ?_
    show (((wr.alloc (.cells #[x, y, z] t)).alloc B).alloc C).heap[wr.heap.size]? = _
    rw [Below.heap_alloc _ _ _ (by simp; omega), Below.heap_alloc _ _ _ (by simp)]
    show (wr.heap.push _)[wr.heap.size]? = _
    simp
  exact ⟨cell_at (j := 0) h1 rfl, cell_at (j := 1) h1 rfl, cell_at (j := 2) h1 rfl⟩
set_option maxRecDepth 20000 in
set_option maxHeartbeats 4000000 in
theorem list_any (l : List Dc) (a : Option Addr) (cap : Nat) (w : World) (hl : Dcs w l a cap) :
    Calls Tryd.prog 13 #[.slice a l.length cap] w fun r w' => Hid (∃ a' cap', r = .returned (.slice a' (varsD l).length cap') ∧ Vrs w' (varsD l) a' cap') ∧ Below w.heap.size w w' := by
  obtain ⟨i0, hi, hz0, hz1, hz2⟩ := info_parts info_vr
  have hlen : l.length ≤ 9223372036854775807 := Nat.le_trans hl.len hl.cap
  have hlc := hl.len
  have hcm : cap ≤ 9223372036854775807 := hl.cap
  have haddr := hl.addr
  have HL := hide hl
  clear hl
  obtain ⟨n, hn⟩ : ∃ n, n = min l.length 5 := ⟨_, rfl⟩
  have hnn : (min (l.length : Int) 5).toNat = n := by omega
  have hn5 : n ≤ 5 := by omega
  have hnl : n ≤ l.length := by omega
  have HV : Hid (varsD l = listM l n) := hide (by rw [varsD, hn])
  clear hn
  go_enter Tryd.func13, Tryd.ntmps13
  go_wp2_with fail
  go_loopw [3, 12] (fun x i wr => ∃ (k : Nat) (v : Value), v = x ∧ k ≤ n ∧ i = .int .i64 k ∧ OwnL wr w.heap.size 47 5 VrC [] v (listM l k) ∧ Below w.heap.size w wr) (fun _ i _ => n - (intOf i).toNat)
  case atStart => exact ⟨0, _, rfl, Nat.zero_le _, rfl, OwnL.nil _ _ _ _ _ _, bl _⟩
  case round =>
    obtain ⟨k, v, rfl, hk, rfl, hown, hb⟩ := hrel
    obtain ⟨va0, vc0, rfl, -, -⟩ := hown.slice
    have HOWN := hide hown
    clear hown
    by_cases hlt : k < n
    · obtain ⟨b, o, rfl⟩ := HL.out.addr (by omega)
      obtain ⟨⟨ht1, ht2, ht3⟩, c0, c1, c2⟩ := HL.out.at_ b o rfl k (by omega)
      have c0 := cell_keep c0 hb (Nat.le_refl _)
      have c1 := cell_keep c1 hb (Nat.le_refl _)
      have c2 := cell_keep c2 hb (Nat.le_refl _)
      have hbb := cell_lt c0
      simp only at hbb
      have HD := hide (show l[k]? = some l[k] by simp)
      generalize l[k] = d at *
      go_wp2_with fail
      have hk5 : k = 0 ∨ k = 1 ∨ k = 2 ∨ k = 3 ∨ k = 4 := by omega
      rcases hk5 with rfl | rfl | rfl | rfl | rfl
      · have hll : (listM l 0).length = 0 := listM_len l 0 (by omega)
        have hml : (listM l 0).length + 1 ≤ maxLen := by unfold maxLen; omega
        have hmb : ((listM l 0).length + 1) * 48 ≤ 140737488355328 := by omega
        have HVR := hide (vr_cells 0 d [97] rfl ht1 ht2 ht3 (by decide) (by decide))
        have HONE := hide fun (x y z : Int) (t : List UInt8) => (show ∀ u ∈ [Value.string ⟨t.toArray⟩, .int .i64 x, .int .i64 (0 : Nat), .int .i64 y, .int .i64 z], u.oneCell' = true by simp [Value.oneCell'])
        have HSZ := hide fun (A B C : Obj) => (show w.heap.size ≤ (((wr.alloc A).alloc B).alloc C).heap.size by have := hb.size; simp; omega)
        have HSS := hide fun (A B : Obj) => (show wr.heap.size + 1 + 1 = ((wr.alloc A).alloc B).heap.size by simp)
        have HST : Hid (listM l (0 + 1) = listM l 0 ++ [dcV 0 d]) := hide (by have h := HD.out; show (match l[0]? with | some d => listM l 0 ++ [dcV 0 d] | none => listM l 0) = _; rw [h])
        have HOWN : Hid (OwnL wr w.heap.size 47 5 VrC [] (.slice va0 0 vc0) (listM l 0)) := hide (by have h := HOWN.out; rw [hll] at h; exact h)
        have HOW := hide fun (A B C : Obj) => HOWN.out.below VrC.mono ((((bl wr).al A).al B).al C)
        refine wp_region_noPanic ?_
        refine wp_region_held_drew (S := (fun w' => w'.cell? ⟨wr.heap.size, 0, none⟩ = some (.int .u8 (d.t : Nat)) ∧ w'.cell? ⟨wr.heap.size, 1, none⟩ = some (.int .u8 (d.f : Nat)) ∧ w'.cell? ⟨wr.heap.size, 2, none⟩ = some (.int .u8 (d.u : Nat)))) (by kernel_rfl) ?_ (fun hHeld => ?_)
        · ((try dsimp only); first | done | (first | exact ⟨z0, z1, z2⟩ | go_keep))
        refine wpAnyH_take (i := 0) (v := ?_) rfl (by kernel_rfl) (by kernel_rfl) (by kernel_rfl) (fun _ _ _ h => h) (Or.inl ⟨by rfl, ?_⟩) (by assumption) ?_
        rotate_left 1
        · ((intro w hSw; (try dsimp only at hSw); go_simp) <;> with_reducible rfl)
        try simp only [Act.put, List.setIfInBounds_toArray, List.set_cons_zero, List.set_cons_succ]
        refine wpAnyH_take (i := 2) (v := ?_) rfl (by kernel_rfl) (by kernel_rfl) (by kernel_rfl) (fun _ _ _ h => h) (Or.inl ⟨by rfl, ?_⟩) (by assumption) ?_
        rotate_left 1
        · ((intro w hSw; (try dsimp only at hSw); go_simp) <;> with_reducible rfl)
        try simp only [Act.put, List.setIfInBounds_toArray, List.set_cons_zero, List.set_cons_succ]
        refine wpAnyH_take (i := 5) (v := ?_) rfl (by kernel_rfl) (by kernel_rfl) (by kernel_rfl) (fun _ _ _ h => h) (Or.inl ⟨by rfl, ?_⟩) (by assumption) ?_
        rotate_left 1
        · ((intro w hSw; (try dsimp only at hSw); go_simp) <;> with_reducible rfl)
        try simp only [Act.put, List.setIfInBounds_toArray, List.set_cons_zero, List.set_cons_succ]
        refine wpAnyH_take (i := 6) (v := ?_) rfl (by kernel_rfl) (by kernel_rfl) (by kernel_rfl) (fun _ _ _ h => h) (Or.inl ⟨by rfl, ?_⟩) (by assumption) ?_
        rotate_left 1
        · ((intro w hSw; (try dsimp only at hSw); go_simp) <;> with_reducible rfl)
        try simp only [Act.put, List.setIfInBounds_toArray, List.set_cons_zero, List.set_cons_succ]
        refine wpAnyH_take (i := 7) (v := ?_) rfl (by kernel_rfl) (by kernel_rfl) (by kernel_rfl) (fun _ _ _ h => h) (Or.inl ⟨by rfl, ?_⟩) (by assumption) ?_
        rotate_left 1
        · ((intro w hSw; (try dsimp only at hSw); go_simp) <;> with_reducible rfl)
        try simp only [Act.put, List.setIfInBounds_toArray, List.set_cons_zero, List.set_cons_succ]
        refine wpAnyH_take (i := 8) (v := ?_) rfl (by kernel_rfl) (by kernel_rfl) (by kernel_rfl) (fun _ _ _ h => h) (Or.inl ⟨by rfl, ?_⟩) (by assumption) ?_
        rotate_left 1
        · ((intro w hSw; (try dsimp only at hSw); go_simp) <;> with_reducible rfl)
        try simp only [Act.put, List.setIfInBounds_toArray, List.set_cons_zero, List.set_cons_succ]
        refine wpAnyH_take (i := 9) (v := ?_) rfl (by kernel_rfl) (by kernel_rfl) (by kernel_rfl) (fun _ _ _ h => h) (Or.inl ⟨by rfl, ?_⟩) (by assumption) ?_
        rotate_left 1
        · ((intro w hSw; (try dsimp only at hSw); go_simp) <;> with_reducible rfl)
        try simp only [Act.put, List.setIfInBounds_toArray, List.set_cons_zero, List.set_cons_succ]
        refine wpAnyH_take (i := 10) (v := ?_) rfl (by kernel_rfl) (by kernel_rfl) (by kernel_rfl) (fun _ _ _ h => h) (Or.inl ⟨by rfl, ?_⟩) (by assumption) ?_
        rotate_left 1
        · ((intro w hSw; (try dsimp only at hSw); go_simp) <;> with_reducible rfl)
        try simp only [Act.put, List.setIfInBounds_toArray, List.set_cons_zero, List.set_cons_succ]
        refine wpAnyH_take (i := 11) (v := ?_) rfl (by kernel_rfl) (by kernel_rfl) (by kernel_rfl) (fun _ _ _ h => h) (Or.inl ⟨by rfl, ?_⟩) (by assumption) ?_
        rotate_left 1
        · ((intro w hSw; (try dsimp only at hSw); go_simp) <;> with_reducible rfl)
        try simp only [Act.put, List.setIfInBounds_toArray, List.set_cons_zero, List.set_cons_succ]
        refine wpAnyH_take (i := 12) (v := ?_) rfl (by kernel_rfl) (by kernel_rfl) (by kernel_rfl) (fun _ _ _ h => h) (Or.inl ⟨by rfl, ?_⟩) (by assumption) ?_
        rotate_left 1
        · ((intro w hSw; (try dsimp only at hSw); go_simp) <;> with_reducible rfl)
        try simp only [Act.put, List.setIfInBounds_toArray, List.set_cons_zero, List.set_cons_succ]
        refine wpAnyH_take (i := 13) (v := ?_) rfl (by kernel_rfl) (by kernel_rfl) (by kernel_rfl) (fun _ _ _ h => h) (Or.inl ⟨by rfl, ?_⟩) (by assumption) ?_
        rotate_left 1
        · ((intro w hSw; (try dsimp only at hSw); go_simp) <;> with_reducible rfl)
        try simp only [Act.put, List.setIfInBounds_toArray, List.set_cons_zero, List.set_cons_succ]
        refine wpAnyH_take (i := 14) (v := ?_) rfl (by kernel_rfl) (by kernel_rfl) (by kernel_rfl) (fun _ _ _ h => h) (Or.inl ⟨by rfl, ?_⟩) (by assumption) ?_
        rotate_left 1
        · ((intro w hSw; (try dsimp only at hSw); go_simp) <;> with_reducible rfl)
        try simp only [Act.put, List.setIfInBounds_toArray, List.set_cons_zero, List.set_cons_succ]
        refine wpAnyH_take (i := 15) (v := ?_) rfl (by kernel_rfl) (by kernel_rfl) (by kernel_rfl) (fun _ _ _ h => h) (Or.inl ⟨by rfl, ?_⟩) (by assumption) ?_
        rotate_left 1
        · ((intro w hSw; (try dsimp only at hSw); go_simp) <;> with_reducible rfl)
        try simp only [Act.put, List.setIfInBounds_toArray, List.set_cons_zero, List.set_cons_succ]
        refine wpAnyH_take (i := 16) (v := ?_) rfl (by kernel_rfl) (by kernel_rfl) (by kernel_rfl) (fun _ _ _ h => h) (Or.inl ⟨by rfl, ?_⟩) (by assumption) ?_
        rotate_left 1
        · ((intro w hSw; (try dsimp only at hSw); go_simp) <;> with_reducible rfl)
        try simp only [Act.put, List.setIfInBounds_toArray, List.set_cons_zero, List.set_cons_succ]
        refine wpAnyH_take (i := 17) (v := ?_) rfl (by kernel_rfl) (by kernel_rfl) (by kernel_rfl) (fun _ _ _ h => h) (Or.inl ⟨by rfl, ?_⟩) (by assumption) ?_
        rotate_left 1
        · ((intro w hSw; (try dsimp only at hSw); go_simp) <;> with_reducible rfl)
        try simp only [Act.put, List.setIfInBounds_toArray, List.set_cons_zero, List.set_cons_succ]
        refine wpAnyH_take (i := 18) (v := ?_) rfl (by kernel_rfl) (by kernel_rfl) (by kernel_rfl) (fun _ _ _ h => h) (Or.inl ⟨by rfl, ?_⟩) (by assumption) ?_
        rotate_left 1
        · ((intro w hSw; (try dsimp only at hSw); go_simp) <;> with_reducible rfl)
        try simp only [Act.put, List.setIfInBounds_toArray, List.set_cons_zero, List.set_cons_succ]
        refine wpAnyH_ready (rs := [1]) (by kernel_rfl) (by simp) ?_
        refine AllReadyH.cons rfl (fun K hK => ?_) AllReadyH.nil
        go_simp
        refine hK.out _ _ ?_ (fun hHeld => ?_)
        · ((try dsimp only); first | done | (first | exact ⟨z0, z1, z2⟩ | go_keep))
        clear hK K
        try simp only [Act.put, List.setIfInBounds_toArray, List.set_cons_zero, List.set_cons_succ]
        refine wpAnyH_take (i := 3) (v := ?_) rfl (by kernel_rfl) (by kernel_rfl) (by kernel_rfl) (fun _ _ _ h => h) (Or.inl ⟨by rfl, ?_⟩) (by assumption) ?_
        rotate_left 1
        · ((intro w hSw; (try dsimp only at hSw); go_simp) <;> with_reducible rfl)
        try simp only [Act.put, List.setIfInBounds_toArray, List.set_cons_zero, List.set_cons_succ]
        refine wpAnyH_ready (rs := [4]) (by kernel_rfl) (by simp) ?_
        refine AllReadyH.cons rfl (fun K hK => ?_) AllReadyH.nil
        go_simp
        refine hK.out _ _ ?_ (fun hHeld => ?_)
        · ((try dsimp only); first | done | (first | exact ⟨z0, z1, z2⟩ | go_keep))
        clear hK K
        try simp only [Act.put, List.setIfInBounds_toArray, List.set_cons_zero, List.set_cons_succ]
        refine wpAnyH_take (i := 19) (v := ?_) rfl (by kernel_rfl) (by kernel_rfl) (by kernel_rfl) (fun _ _ _ h => h) (Or.inl ⟨by rfl, ?_⟩) (by assumption) ?_
        rotate_left 1
        · ((intro w hSw; (try dsimp only at hSw); go_simp) <;> with_reducible rfl)
        try simp only [Act.put, List.setIfInBounds_toArray, List.set_cons_zero, List.set_cons_succ]
        refine wpAnyH_ready (rs := [20]) (by kernel_rfl) (by simp) ?_
        refine AllReadyH.cons rfl (fun K hK => ?_) AllReadyH.nil
        go_simp
        refine hK.out _ _ ?_ (fun hHeld => ?_)
        · ((try dsimp only); first | done | (first | exact ⟨z0, z1, z2⟩ | go_keep))
        clear hK K
        try simp only [Act.put, List.setIfInBounds_toArray, List.set_cons_zero, List.set_cons_succ]
        refine wpAnyH_ready (rs := [21]) (by kernel_rfl) (by simp) ?_
        refine AllReadyH.cons rfl (fun K hK => ?_) AllReadyH.nil
        (refine step_push _ (by rfl) _ _ 31 (by rfl) w.heap.size 47 i0 _ 5 48 Tryd.underlying31 hi hz0 hz1 hz2 (by rfl) (Nat.succ_pos _) VrC VrC.mono [] (.slice va0 0 vc0) (listM l 0) (by rfl) (HOW.out _ _ _) ⟨wr.heap.size + 1 + 1, 0, none⟩ 1 _ (dcV 0 d) (by rfl) (by rfl) (news_row _ _ _ _ (HSS.out _ _)) (HONE.out _ _ _ [97]) (HVR.out _) hml hmb (HSZ.out _ _ _) ?_; intro v' w6 hown6 hgrow; (have hz := three_grown hgrow HOWN.out.lt); (obtain ⟨z0, z1, z2⟩ := hz); (obtain ⟨va, vcap, rfl, -, -⟩ := hown6.slice); (have HOWN6 := hide hown6); (clear hown6))
        refine hK.out _ _ ?_ (fun hHeld => ?_)
        · ((try dsimp only); first | done | (first | exact ⟨z0, z1, z2⟩ | go_keep))
        clear hK K
        try simp only [Act.put, List.setIfInBounds_toArray, List.set_cons_zero, List.set_cons_succ]
        refine wpAnyH_take (i := 22) (v := ?_) rfl (by kernel_rfl) (by kernel_rfl) (by kernel_rfl) (fun _ _ _ h => h) (Or.inl ⟨by rfl, ?_⟩) (by assumption) ?_
        rotate_left 1
        · ((intro w hSw; (try dsimp only at hSw); go_simp) <;> with_reducible rfl)
        try simp only [Act.put, List.setIfInBounds_toArray, List.set_cons_zero, List.set_cons_succ]
        refine wpAnyH_done (by kernel_rfl) ?_ _
        refine NoPanic.normal ?_
        all_goals
          go_wp2_with fail
          go_roundw
          case rel =>
            refine ⟨0 + 1, .slice va ((listM l 0) ++ [dcV 0 d]).length vcap, ?_, by omega, by go_num, ?_, ?_⟩
            · first | rfl | (simp [hll]; done)
            · rw [HST.out]; exact HOWN6.out
            · exact ((((hb.al _).al _).al _).dr).grown hgrow (by have := hb.size; simp; omega) (fun g hg => (HOWN.out.lt g hg).1)
          case measure => simp [intOf]; omega
      · have hll : (listM l 1).length = 1 := listM_len l 1 (by omega)
        have hml : (listM l 1).length + 1 ≤ maxLen := by unfold maxLen; omega
        have hmb : ((listM l 1).length + 1) * 48 ≤ 140737488355328 := by omega
        have HVR := hide (vr_cells 1 d [98] rfl ht1 ht2 ht3 (by decide) (by decide))
        have HONE := hide fun (x y z : Int) (t : List UInt8) => (show ∀ u ∈ [Value.string ⟨t.toArray⟩, .int .i64 x, .int .i64 (1 : Nat), .int .i64 y, .int .i64 z], u.oneCell' = true by simp [Value.oneCell'])
        have HSZ := hide fun (A B C : Obj) => (show w.heap.size ≤ (((wr.alloc A).alloc B).alloc C).heap.size by have := hb.size; simp; omega)
        have HSS := hide fun (A B : Obj) => (show wr.heap.size + 1 + 1 = ((wr.alloc A).alloc B).heap.size by simp)
        have HST : Hid (listM l (1 + 1) = listM l 1 ++ [dcV 1 d]) := hide (by have h := HD.out; show (match l[1]? with | some d => listM l 1 ++ [dcV 1 d] | none => listM l 1) = _; rw [h])
        have HOWN : Hid (OwnL wr w.heap.size 47 5 VrC [] (.slice va0 1 vc0) (listM l 1)) := hide (by have h := HOWN.out; rw [hll] at h; exact h)
        have HOW := hide fun (A B C : Obj) => HOWN.out.below VrC.mono ((((bl wr).al A).al B).al C)
        refine wp_region_noPanic ?_
        refine wp_region_held_drew (S := (fun w' => w'.cell? ⟨wr.heap.size, 0, none⟩ = some (.int .u8 (d.t : Nat)) ∧ w'.cell? ⟨wr.heap.size, 1, none⟩ = some (.int .u8 (d.f : Nat)) ∧ w'.cell? ⟨wr.heap.size, 2, none⟩ = some (.int .u8 (d.u : Nat)))) (by kernel_rfl) ?_ (fun hHeld => ?_)
        · ((try dsimp only); first | done | (first | exact ⟨z0, z1, z2⟩ | go_keep))
        refine wpAnyH_take (i := 0) (v := ?_) rfl (by kernel_rfl) (by kernel_rfl) (by kernel_rfl) (fun _ _ _ h => h) (Or.inl ⟨by rfl, ?_⟩) (by assumption) ?_
        rotate_left 1
        · ((intro w hSw; (try dsimp only at hSw); go_simp) <;> with_reducible rfl)
        try simp only [Act.put, List.setIfInBounds_toArray, List.set_cons_zero, List.set_cons_succ]
        refine wpAnyH_take (i := 2) (v := ?_) rfl (by kernel_rfl) (by kernel_rfl) (by kernel_rfl) (fun _ _ _ h => h) (Or.inl ⟨by rfl, ?_⟩) (by assumption) ?_
        rotate_left 1
        · ((intro w hSw; (try dsimp only at hSw); go_simp) <;> with_reducible rfl)
        try simp only [Act.put, List.setIfInBounds_toArray, List.set_cons_zero, List.set_cons_succ]
        refine wpAnyH_take (i := 5) (v := ?_) rfl (by kernel_rfl) (by kernel_rfl) (by kernel_rfl) (fun _ _ _ h => h) (Or.inl ⟨by rfl, ?_⟩) (by assumption) ?_
        rotate_left 1
        · ((intro w hSw; (try dsimp only at hSw); go_simp) <;> with_reducible rfl)
        try simp only [Act.put, List.setIfInBounds_toArray, List.set_cons_zero, List.set_cons_succ]
        refine wpAnyH_take (i := 6) (v := ?_) rfl (by kernel_rfl) (by kernel_rfl) (by kernel_rfl) (fun _ _ _ h => h) (Or.inl ⟨by rfl, ?_⟩) (by assumption) ?_
        rotate_left 1
        · ((intro w hSw; (try dsimp only at hSw); go_simp) <;> with_reducible rfl)
        try simp only [Act.put, List.setIfInBounds_toArray, List.set_cons_zero, List.set_cons_succ]
        refine wpAnyH_take (i := 7) (v := ?_) rfl (by kernel_rfl) (by kernel_rfl) (by kernel_rfl) (fun _ _ _ h => h) (Or.inl ⟨by rfl, ?_⟩) (by assumption) ?_
        rotate_left 1
        · ((intro w hSw; (try dsimp only at hSw); go_simp) <;> with_reducible rfl)
        try simp only [Act.put, List.setIfInBounds_toArray, List.set_cons_zero, List.set_cons_succ]
        refine wpAnyH_take (i := 8) (v := ?_) rfl (by kernel_rfl) (by kernel_rfl) (by kernel_rfl) (fun _ _ _ h => h) (Or.inl ⟨by rfl, ?_⟩) (by assumption) ?_
        rotate_left 1
        · ((intro w hSw; (try dsimp only at hSw); go_simp) <;> with_reducible rfl)
        try simp only [Act.put, List.setIfInBounds_toArray, List.set_cons_zero, List.set_cons_succ]
        refine wpAnyH_take (i := 9) (v := ?_) rfl (by kernel_rfl) (by kernel_rfl) (by kernel_rfl) (fun _ _ _ h => h) (Or.inl ⟨by rfl, ?_⟩) (by assumption) ?_
        rotate_left 1
        · ((intro w hSw; (try dsimp only at hSw); go_simp) <;> with_reducible rfl)
        try simp only [Act.put, List.setIfInBounds_toArray, List.set_cons_zero, List.set_cons_succ]
        refine wpAnyH_take (i := 10) (v := ?_) rfl (by kernel_rfl) (by kernel_rfl) (by kernel_rfl) (fun _ _ _ h => h) (Or.inl ⟨by rfl, ?_⟩) (by assumption) ?_
        rotate_left 1
        · ((intro w hSw; (try dsimp only at hSw); go_simp) <;> with_reducible rfl)
        try simp only [Act.put, List.setIfInBounds_toArray, List.set_cons_zero, List.set_cons_succ]
        refine wpAnyH_take (i := 11) (v := ?_) rfl (by kernel_rfl) (by kernel_rfl) (by kernel_rfl) (fun _ _ _ h => h) (Or.inl ⟨by rfl, ?_⟩) (by assumption) ?_
        rotate_left 1
        · ((intro w hSw; (try dsimp only at hSw); go_simp) <;> with_reducible rfl)
        try simp only [Act.put, List.setIfInBounds_toArray, List.set_cons_zero, List.set_cons_succ]
        refine wpAnyH_take (i := 12) (v := ?_) rfl (by kernel_rfl) (by kernel_rfl) (by kernel_rfl) (fun _ _ _ h => h) (Or.inl ⟨by rfl, ?_⟩) (by assumption) ?_
        rotate_left 1
        · ((intro w hSw; (try dsimp only at hSw); go_simp) <;> with_reducible rfl)
        try simp only [Act.put, List.setIfInBounds_toArray, List.set_cons_zero, List.set_cons_succ]
        refine wpAnyH_take (i := 13) (v := ?_) rfl (by kernel_rfl) (by kernel_rfl) (by kernel_rfl) (fun _ _ _ h => h) (Or.inl ⟨by rfl, ?_⟩) (by assumption) ?_
        rotate_left 1
        · ((intro w hSw; (try dsimp only at hSw); go_simp) <;> with_reducible rfl)
        try simp only [Act.put, List.setIfInBounds_toArray, List.set_cons_zero, List.set_cons_succ]
        refine wpAnyH_take (i := 14) (v := ?_) rfl (by kernel_rfl) (by kernel_rfl) (by kernel_rfl) (fun _ _ _ h => h) (Or.inl ⟨by rfl, ?_⟩) (by assumption) ?_
        rotate_left 1
        · ((intro w hSw; (try dsimp only at hSw); go_simp) <;> with_reducible rfl)
        try simp only [Act.put, List.setIfInBounds_toArray, List.set_cons_zero, List.set_cons_succ]
        refine wpAnyH_take (i := 15) (v := ?_) rfl (by kernel_rfl) (by kernel_rfl) (by kernel_rfl) (fun _ _ _ h => h) (Or.inl ⟨by rfl, ?_⟩) (by assumption) ?_
        rotate_left 1
        · ((intro w hSw; (try dsimp only at hSw); go_simp) <;> with_reducible rfl)
        try simp only [Act.put, List.setIfInBounds_toArray, List.set_cons_zero, List.set_cons_succ]
        refine wpAnyH_take (i := 16) (v := ?_) rfl (by kernel_rfl) (by kernel_rfl) (by kernel_rfl) (fun _ _ _ h => h) (Or.inl ⟨by rfl, ?_⟩) (by assumption) ?_
        rotate_left 1
        · ((intro w hSw; (try dsimp only at hSw); go_simp) <;> with_reducible rfl)
        try simp only [Act.put, List.setIfInBounds_toArray, List.set_cons_zero, List.set_cons_succ]
        refine wpAnyH_take (i := 17) (v := ?_) rfl (by kernel_rfl) (by kernel_rfl) (by kernel_rfl) (fun _ _ _ h => h) (Or.inl ⟨by rfl, ?_⟩) (by assumption) ?_
        rotate_left 1
        · ((intro w hSw; (try dsimp only at hSw); go_simp) <;> with_reducible rfl)
        try simp only [Act.put, List.setIfInBounds_toArray, List.set_cons_zero, List.set_cons_succ]
        refine wpAnyH_take (i := 18) (v := ?_) rfl (by kernel_rfl) (by kernel_rfl) (by kernel_rfl) (fun _ _ _ h => h) (Or.inl ⟨by rfl, ?_⟩) (by assumption) ?_
        rotate_left 1
        · ((intro w hSw; (try dsimp only at hSw); go_simp) <;> with_reducible rfl)
        try simp only [Act.put, List.setIfInBounds_toArray, List.set_cons_zero, List.set_cons_succ]
        refine wpAnyH_ready (rs := [1]) (by kernel_rfl) (by simp) ?_
        refine AllReadyH.cons rfl (fun K hK => ?_) AllReadyH.nil
        go_simp
        refine hK.out _ _ ?_ (fun hHeld => ?_)
        · ((try dsimp only); first | done | (first | exact ⟨z0, z1, z2⟩ | go_keep))
        clear hK K
        try simp only [Act.put, List.setIfInBounds_toArray, List.set_cons_zero, List.set_cons_succ]
        refine wpAnyH_take (i := 3) (v := ?_) rfl (by kernel_rfl) (by kernel_rfl) (by kernel_rfl) (fun _ _ _ h => h) (Or.inl ⟨by rfl, ?_⟩) (by assumption) ?_
        rotate_left 1
        · ((intro w hSw; (try dsimp only at hSw); go_simp) <;> with_reducible rfl)
        try simp only [Act.put, List.setIfInBounds_toArray, List.set_cons_zero, List.set_cons_succ]
        refine wpAnyH_ready (rs := [4]) (by kernel_rfl) (by simp) ?_
        refine AllReadyH.cons rfl (fun K hK => ?_) AllReadyH.nil
        go_simp
        refine hK.out _ _ ?_ (fun hHeld => ?_)
        · ((try dsimp only); first | done | (first | exact ⟨z0, z1, z2⟩ | go_keep))
        clear hK K
        try simp only [Act.put, List.setIfInBounds_toArray, List.set_cons_zero, List.set_cons_succ]
        refine wpAnyH_take (i := 19) (v := ?_) rfl (by kernel_rfl) (by kernel_rfl) (by kernel_rfl) (fun _ _ _ h => h) (Or.inl ⟨by rfl, ?_⟩) (by assumption) ?_
        rotate_left 1
        · ((intro w hSw; (try dsimp only at hSw); go_simp) <;> with_reducible rfl)
        try simp only [Act.put, List.setIfInBounds_toArray, List.set_cons_zero, List.set_cons_succ]
        refine wpAnyH_ready (rs := [20]) (by kernel_rfl) (by simp) ?_
        refine AllReadyH.cons rfl (fun K hK => ?_) AllReadyH.nil
        go_simp
        refine hK.out _ _ ?_ (fun hHeld => ?_)
        · ((try dsimp only); first | done | (first | exact ⟨z0, z1, z2⟩ | go_keep))
        clear hK K
        try simp only [Act.put, List.setIfInBounds_toArray, List.set_cons_zero, List.set_cons_succ]
        refine wpAnyH_ready (rs := [21]) (by kernel_rfl) (by simp) ?_
        refine AllReadyH.cons rfl (fun K hK => ?_) AllReadyH.nil
        (refine step_push _ (by rfl) _ _ 31 (by rfl) w.heap.size 47 i0 _ 5 48 Tryd.underlying31 hi hz0 hz1 hz2 (by rfl) (Nat.succ_pos _) VrC VrC.mono [] (.slice va0 1 vc0) (listM l 1) (by rfl) (HOW.out _ _ _) ⟨wr.heap.size + 1 + 1, 0, none⟩ 1 _ (dcV 1 d) (by rfl) (by rfl) (news_row _ _ _ _ (HSS.out _ _)) (HONE.out _ _ _ [98]) (HVR.out _) hml hmb (HSZ.out _ _ _) ?_; intro v' w6 hown6 hgrow; (have hz := three_grown hgrow HOWN.out.lt); (obtain ⟨z0, z1, z2⟩ := hz); (obtain ⟨va, vcap, rfl, -, -⟩ := hown6.slice); (have HOWN6 := hide hown6); (clear hown6))
        refine hK.out _ _ ?_ (fun hHeld => ?_)
        · ((try dsimp only); first | done | (first | exact ⟨z0, z1, z2⟩ | go_keep))
        clear hK K
        try simp only [Act.put, List.setIfInBounds_toArray, List.set_cons_zero, List.set_cons_succ]
        refine wpAnyH_take (i := 22) (v := ?_) rfl (by kernel_rfl) (by kernel_rfl) (by kernel_rfl) (fun _ _ _ h => h) (Or.inl ⟨by rfl, ?_⟩) (by assumption) ?_
        rotate_left 1
        · ((intro w hSw; (try dsimp only at hSw); go_simp) <;> with_reducible rfl)
        try simp only [Act.put, List.setIfInBounds_toArray, List.set_cons_zero, List.set_cons_succ]
        refine wpAnyH_done (by kernel_rfl) ?_ _
        refine NoPanic.normal ?_
        all_goals
          go_wp2_with fail
          go_roundw
          case rel =>
            refine ⟨1 + 1, .slice va ((listM l 1) ++ [dcV 1 d]).length vcap, ?_, by omega, by go_num, ?_, ?_⟩
            · first | rfl | (simp [hll]; done)
            · rw [HST.out]; exact HOWN6.out
            · exact ((((hb.al _).al _).al _).dr).grown hgrow (by have := hb.size; simp; omega) (fun g hg => (HOWN.out.lt g hg).1)
          case measure => simp [intOf]; omega
      · have hll : (listM l 2).length = 2 := listM_len l 2 (by omega)
        have hml : (listM l 2).length + 1 ≤ maxLen := by unfold maxLen; omega
        have hmb : ((listM l 2).length + 1) * 48 ≤ 140737488355328 := by omega
        have HVR := hide (vr_cells 2 d [99] rfl ht1 ht2 ht3 (by decide) (by decide))
        have HONE := hide fun (x y z : Int) (t : List UInt8) => (show ∀ u ∈ [Value.string ⟨t.toArray⟩, .int .i64 x, .int .i64 (2 : Nat), .int .i64 y, .int .i64 z], u.oneCell' = true by simp [Value.oneCell'])
        have HSZ := hide fun (A B C : Obj) => (show w.heap.size ≤ (((wr.alloc A).alloc B).alloc C).heap.size by have := hb.size; simp; omega)
        have HSS := hide fun (A B : Obj) => (show wr.heap.size + 1 + 1 = ((wr.alloc A).alloc B).heap.size by simp)
        have HST : Hid (listM l (2 + 1) = listM l 2 ++ [dcV 2 d]) := hide (by have h := HD.out; show (match l[2]? with | some d => listM l 2 ++ [dcV 2 d] | none => listM l 2) = _; rw [h])
        have HOWN : Hid (OwnL wr w.heap.size 47 5 VrC [] (.slice va0 2 vc0) (listM l 2)) := hide (by have h := HOWN.out; rw [hll] at h; exact h)
        have HOW := hide fun (A B C : Obj) => HOWN.out.below VrC.mono ((((bl wr).al A).al B).al C)
        refine wp_region_noPanic ?_
        refine wp_region_held_drew (S := (fun w' => w'.cell? ⟨wr.heap.size, 0, none⟩ = some (.int .u8 (d.t : Nat)) ∧ w'.cell? ⟨wr.heap.size, 1, none⟩ = some (.int .u8 (d.f : Nat)) ∧ w'.cell? ⟨wr.heap.size, 2, none⟩ = some (.int .u8 (d.u : Nat)))) (by kernel_rfl) ?_ (fun hHeld => ?_)
        · ((try dsimp only); first | done | (first | exact ⟨z0, z1, z2⟩ | go_keep))
        refine wpAnyH_take (i := 0) (v := ?_) rfl (by kernel_rfl) (by kernel_rfl) (by kernel_rfl) (fun _ _ _ h => h) (Or.inl ⟨by rfl, ?_⟩) (by assumption) ?_
        rotate_left 1
        · ((intro w hSw; (try dsimp only at hSw); go_simp) <;> with_reducible rfl)
        try simp only [Act.put, List.setIfInBounds_toArray, List.set_cons_zero, List.set_cons_succ]
        refine wpAnyH_take (i := 2) (v := ?_) rfl (by kernel_rfl) (by kernel_rfl) (by kernel_rfl) (fun _ _ _ h => h) (Or.inl ⟨by rfl, ?_⟩) (by assumption) ?_
        rotate_left 1
        · ((intro w hSw; (try dsimp only at hSw); go_simp) <;> with_reducible rfl)
        try simp only [Act.put, List.setIfInBounds_toArray, List.set_cons_zero, List.set_cons_succ]
        refine wpAnyH_take (i := 5) (v := ?_) rfl (by kernel_rfl) (by kernel_rfl) (by kernel_rfl) (fun _ _ _ h => h) (Or.inl ⟨by rfl, ?_⟩) (by assumption) ?_
        rotate_left 1
        · ((intro w hSw; (try dsimp only at hSw); go_simp) <;> with_reducible rfl)
        try simp only [Act.put, List.setIfInBounds_toArray, List.set_cons_zero, List.set_cons_succ]
        refine wpAnyH_take (i := 6) (v := ?_) rfl (by kernel_rfl) (by kernel_rfl) (by kernel_rfl) (fun _ _ _ h => h) (Or.inl ⟨by rfl, ?_⟩) (by assumption) ?_
        rotate_left 1
        · ((intro w hSw; (try dsimp only at hSw); go_simp) <;> with_reducible rfl)
        try simp only [Act.put, List.setIfInBounds_toArray, List.set_cons_zero, List.set_cons_succ]
        refine wpAnyH_take (i := 7) (v := ?_) rfl (by kernel_rfl) (by kernel_rfl) (by kernel_rfl) (fun _ _ _ h => h) (Or.inl ⟨by rfl, ?_⟩) (by assumption) ?_
        rotate_left 1
        · ((intro w hSw; (try dsimp only at hSw); go_simp) <;> with_reducible rfl)
        try simp only [Act.put, List.setIfInBounds_toArray, List.set_cons_zero, List.set_cons_succ]
        refine wpAnyH_take (i := 8) (v := ?_) rfl (by kernel_rfl) (by kernel_rfl) (by kernel_rfl) (fun _ _ _ h => h) (Or.inl ⟨by rfl, ?_⟩) (by assumption) ?_
        rotate_left 1
        · ((intro w hSw; (try dsimp only at hSw); go_simp) <;> with_reducible rfl)
        try simp only [Act.put, List.setIfInBounds_toArray, List.set_cons_zero, List.set_cons_succ]
        refine wpAnyH_take (i := 9) (v := ?_) rfl (by kernel_rfl) (by kernel_rfl) (by kernel_rfl) (fun _ _ _ h => h) (Or.inl ⟨by rfl, ?_⟩) (by assumption) ?_
        rotate_left 1
        · ((intro w hSw; (try dsimp only at hSw); go_simp) <;> with_reducible rfl)
        try simp only [Act.put, List.setIfInBounds_toArray, List.set_cons_zero, List.set_cons_succ]
        refine wpAnyH_take (i := 10) (v := ?_) rfl (by kernel_rfl) (by kernel_rfl) (by kernel_rfl) (fun _ _ _ h => h) (Or.inl ⟨by rfl, ?_⟩) (by assumption) ?_
        rotate_left 1
        · ((intro w hSw; (try dsimp only at hSw); go_simp) <;> with_reducible rfl)
        try simp only [Act.put, List.setIfInBounds_toArray, List.set_cons_zero, List.set_cons_succ]
        refine wpAnyH_take (i := 11) (v := ?_) rfl (by kernel_rfl) (by kernel_rfl) (by kernel_rfl) (fun _ _ _ h => h) (Or.inl ⟨by rfl, ?_⟩) (by assumption) ?_
        rotate_left 1
        · ((intro w hSw; (try dsimp only at hSw); go_simp) <;> with_reducible rfl)
        try simp only [Act.put, List.setIfInBounds_toArray, List.set_cons_zero, List.set_cons_succ]
        refine wpAnyH_take (i := 12) (v := ?_) rfl (by kernel_rfl) (by kernel_rfl) (by kernel_rfl) (fun _ _ _ h => h) (Or.inl ⟨by rfl, ?_⟩) (by assumption) ?_
        rotate_left 1
        · ((intro w hSw; (try dsimp only at hSw); go_simp) <;> with_reducible rfl)
        try simp only [Act.put, List.setIfInBounds_toArray, List.set_cons_zero, List.set_cons_succ]
        refine wpAnyH_take (i := 13) (v := ?_) rfl (by kernel_rfl) (by kernel_rfl) (by kernel_rfl) (fun _ _ _ h => h) (Or.inl ⟨by rfl, ?_⟩) (by assumption) ?_
        rotate_left 1
        · ((intro w hSw; (try dsimp only at hSw); go_simp) <;> with_reducible rfl)
        try simp only [Act.put, List.setIfInBounds_toArray, List.set_cons_zero, List.set_cons_succ]
        refine wpAnyH_take (i := 14) (v := ?_) rfl (by kernel_rfl) (by kernel_rfl) (by kernel_rfl) (fun _ _ _ h => h) (Or.inl ⟨by rfl, ?_⟩) (by assumption) ?_
        rotate_left 1
        · ((intro w hSw; (try dsimp only at hSw); go_simp) <;> with_reducible rfl)
        try simp only [Act.put, List.setIfInBounds_toArray, List.set_cons_zero, List.set_cons_succ]
        refine wpAnyH_take (i := 15) (v := ?_) rfl (by kernel_rfl) (by kernel_rfl) (by kernel_rfl) (fun _ _ _ h => h) (Or.inl ⟨by rfl, ?_⟩) (by assumption) ?_
        rotate_left 1
        · ((intro w hSw; (try dsimp only at hSw); go_simp) <;> with_reducible rfl)
        try simp only [Act.put, List.setIfInBounds_toArray, List.set_cons_zero, List.set_cons_succ]
        refine wpAnyH_take (i := 16) (v := ?_) rfl (by kernel_rfl) (by kernel_rfl) (by kernel_rfl) (fun _ _ _ h => h) (Or.inl ⟨by rfl, ?_⟩) (by assumption) ?_
        rotate_left 1
        · ((intro w hSw; (try dsimp only at hSw); go_simp) <;> with_reducible rfl)
        try simp only [Act.put, List.setIfInBounds_toArray, List.set_cons_zero, List.set_cons_succ]
        refine wpAnyH_take (i := 17) (v := ?_) rfl (by kernel_rfl) (by kernel_rfl) (by kernel_rfl) (fun _ _ _ h => h) (Or.inl ⟨by rfl, ?_⟩) (by assumption) ?_
        rotate_left 1
        · ((intro w hSw; (try dsimp only at hSw); go_simp) <;> with_reducible rfl)
        try simp only [Act.put, List.setIfInBounds_toArray, List.set_cons_zero, List.set_cons_succ]
        refine wpAnyH_take (i := 18) (v := ?_) rfl (by kernel_rfl) (by kernel_rfl) (by kernel_rfl) (fun _ _ _ h => h) (Or.inl ⟨by rfl, ?_⟩) (by assumption) ?_
        rotate_left 1
        · ((intro w hSw; (try dsimp only at hSw); go_simp) <;> with_reducible rfl)
        try simp only [Act.put, List.setIfInBounds_toArray, List.set_cons_zero, List.set_cons_succ]
        refine wpAnyH_ready (rs := [1]) (by kernel_rfl) (by simp) ?_
        refine AllReadyH.cons rfl (fun K hK => ?_) AllReadyH.nil
        go_simp
        refine hK.out _ _ ?_ (fun hHeld => ?_)
        · ((try dsimp only); first | done | (first | exact ⟨z0, z1, z2⟩ | go_keep))
        clear hK K
        try simp only [Act.put, List.setIfInBounds_toArray, List.set_cons_zero, List.set_cons_succ]
        refine wpAnyH_take (i := 3) (v := ?_) rfl (by kernel_rfl) (by kernel_rfl) (by kernel_rfl) (fun _ _ _ h => h) (Or.inl ⟨by rfl, ?_⟩) (by assumption) ?_
        rotate_left 1
        · ((intro w hSw; (try dsimp only at hSw); go_simp) <;> with_reducible rfl)
        try simp only [Act.put, List.setIfInBounds_toArray, List.set_cons_zero, List.set_cons_succ]
        refine wpAnyH_ready (rs := [4]) (by kernel_rfl) (by simp) ?_
        refine AllReadyH.cons rfl (fun K hK => ?_) AllReadyH.nil
        go_simp
        refine hK.out _ _ ?_ (fun hHeld => ?_)
        · ((try dsimp only); first | done | (first | exact ⟨z0, z1, z2⟩ | go_keep))
        clear hK K
        try simp only [Act.put, List.setIfInBounds_toArray, List.set_cons_zero, List.set_cons_succ]
        refine wpAnyH_take (i := 19) (v := ?_) rfl (by kernel_rfl) (by kernel_rfl) (by kernel_rfl) (fun _ _ _ h => h) (Or.inl ⟨by rfl, ?_⟩) (by assumption) ?_
        rotate_left 1
        · ((intro w hSw; (try dsimp only at hSw); go_simp) <;> with_reducible rfl)
        try simp only [Act.put, List.setIfInBounds_toArray, List.set_cons_zero, List.set_cons_succ]
        refine wpAnyH_ready (rs := [20]) (by kernel_rfl) (by simp) ?_
        refine AllReadyH.cons rfl (fun K hK => ?_) AllReadyH.nil
        go_simp
        refine hK.out _ _ ?_ (fun hHeld => ?_)
        · ((try dsimp only); first | done | (first | exact ⟨z0, z1, z2⟩ | go_keep))
        clear hK K
        try simp only [Act.put, List.setIfInBounds_toArray, List.set_cons_zero, List.set_cons_succ]
        refine wpAnyH_ready (rs := [21]) (by kernel_rfl) (by simp) ?_
        refine AllReadyH.cons rfl (fun K hK => ?_) AllReadyH.nil
        (refine step_push _ (by rfl) _ _ 31 (by rfl) w.heap.size 47 i0 _ 5 48 Tryd.underlying31 hi hz0 hz1 hz2 (by rfl) (Nat.succ_pos _) VrC VrC.mono [] (.slice va0 2 vc0) (listM l 2) (by rfl) (HOW.out _ _ _) ⟨wr.heap.size + 1 + 1, 0, none⟩ 1 _ (dcV 2 d) (by rfl) (by rfl) (news_row _ _ _ _ (HSS.out _ _)) (HONE.out _ _ _ [99]) (HVR.out _) hml hmb (HSZ.out _ _ _) ?_; intro v' w6 hown6 hgrow; (have hz := three_grown hgrow HOWN.out.lt); (obtain ⟨z0, z1, z2⟩ := hz); (obtain ⟨va, vcap, rfl, -, -⟩ := hown6.slice); (have HOWN6 := hide hown6); (clear hown6))
        refine hK.out _ _ ?_ (fun hHeld => ?_)
        · ((try dsimp only); first | done | (first | exact ⟨z0, z1, z2⟩ | go_keep))
        clear hK K
        try simp only [Act.put, List.setIfInBounds_toArray, List.set_cons_zero, List.set_cons_succ]
        refine wpAnyH_take (i := 22) (v := ?_) rfl (by kernel_rfl) (by kernel_rfl) (by kernel_rfl) (fun _ _ _ h => h) (Or.inl ⟨by rfl, ?_⟩) (by assumption) ?_
        rotate_left 1
        · ((intro w hSw; (try dsimp only at hSw); go_simp) <;> with_reducible rfl)
        try simp only [Act.put, List.setIfInBounds_toArray, List.set_cons_zero, List.set_cons_succ]
        refine wpAnyH_done (by kernel_rfl) ?_ _
        refine NoPanic.normal ?_
        all_goals
          go_wp2_with fail
          go_roundw
          case rel =>
            refine ⟨2 + 1, .slice va ((listM l 2) ++ [dcV 2 d]).length vcap, ?_, by omega, by go_num, ?_, ?_⟩
            · first | rfl | (simp [hll]; done)
            · rw [HST.out]; exact HOWN6.out
            · exact ((((hb.al _).al _).al _).dr).grown hgrow (by have := hb.size; simp; omega) (fun g hg => (HOWN.out.lt g hg).1)
          case measure => simp [intOf]; omega
      · have hll : (listM l 3).length = 3 := listM_len l 3 (by omega)
        have hml : (listM l 3).length + 1 ≤ maxLen := by unfold maxLen; omega
        have hmb : ((listM l 3).length + 1) * 48 ≤ 140737488355328 := by omega
        have HVR := hide (vr_cells 3 d [110] rfl ht1 ht2 ht3 (by decide) (by decide))
        have HONE := hide fun (x y z : Int) (t : List UInt8) => (show ∀ u ∈ [Value.string ⟨t.toArray⟩, .int .i64 x, .int .i64 (3 : Nat), .int .i64 y, .int .i64 z], u.oneCell' = true by simp [Value.oneCell'])
        have HSZ := hide fun (A B C : Obj) => (show w.heap.size ≤ (((wr.alloc A).alloc B).alloc C).heap.size by have := hb.size; simp; omega)
        have HSS := hide fun (A B : Obj) => (show wr.heap.size + 1 + 1 = ((wr.alloc A).alloc B).heap.size by simp)
        have HST : Hid (listM l (3 + 1) = listM l 3 ++ [dcV 3 d]) := hide (by have h := HD.out; show (match l[3]? with | some d => listM l 3 ++ [dcV 3 d] | none => listM l 3) = _; rw [h])
        have HOWN : Hid (OwnL wr w.heap.size 47 5 VrC [] (.slice va0 3 vc0) (listM l 3)) := hide (by have h := HOWN.out; rw [hll] at h; exact h)
        have HOW := hide fun (A B C : Obj) => HOWN.out.below VrC.mono ((((bl wr).al A).al B).al C)
        refine wp_region_noPanic ?_
        refine wp_region_held_drew (S := (fun w' => w'.cell? ⟨wr.heap.size, 0, none⟩ = some (.int .u8 (d.t : Nat)) ∧ w'.cell? ⟨wr.heap.size, 1, none⟩ = some (.int .u8 (d.f : Nat)) ∧ w'.cell? ⟨wr.heap.size, 2, none⟩ = some (.int .u8 (d.u : Nat)))) (by kernel_rfl) ?_ (fun hHeld => ?_)
        · ((try dsimp only); first | done | (first | exact ⟨z0, z1, z2⟩ | go_keep))
        refine wpAnyH_take (i := 0) (v := ?_) rfl (by kernel_rfl) (by kernel_rfl) (by kernel_rfl) (fun _ _ _ h => h) (Or.inl ⟨by rfl, ?_⟩) (by assumption) ?_
        rotate_left 1
        · ((intro w hSw; (try dsimp only at hSw); go_simp) <;> with_reducible rfl)
        try simp only [Act.put, List.setIfInBounds_toArray, List.set_cons_zero, List.set_cons_succ]
        refine wpAnyH_take (i := 2) (v := ?_) rfl (by kernel_rfl) (by kernel_rfl) (by kernel_rfl) (fun _ _ _ h => h) (Or.inl ⟨by rfl, ?_⟩) (by assumption) ?_
        rotate_left 1
        · ((intro w hSw; (try dsimp only at hSw); go_simp) <;> with_reducible rfl)
        try simp only [Act.put, List.setIfInBounds_toArray, List.set_cons_zero, List.set_cons_succ]
        refine wpAnyH_take (i := 5) (v := ?_) rfl (by kernel_rfl) (by kernel_rfl) (by kernel_rfl) (fun _ _ _ h => h) (Or.inl ⟨by rfl, ?_⟩) (by assumption) ?_
        rotate_left 1
        · ((intro w hSw; (try dsimp only at hSw); go_simp) <;> with_reducible rfl)
        try simp only [Act.put, List.setIfInBounds_toArray, List.set_cons_zero, List.set_cons_succ]
        refine wpAnyH_take (i := 6) (v := ?_) rfl (by kernel_rfl) (by kernel_rfl) (by kernel_rfl) (fun _ _ _ h => h) (Or.inl ⟨by rfl, ?_⟩) (by assumption) ?_
        rotate_left 1
        · ((intro w hSw; (try dsimp only at hSw); go_simp) <;> with_reducible rfl)
        try simp only [Act.put, List.setIfInBounds_toArray, List.set_cons_zero, List.set_cons_succ]
        refine wpAnyH_take (i := 7) (v := ?_) rfl (by kernel_rfl) (by kernel_rfl) (by kernel_rfl) (fun _ _ _ h => h) (Or.inl ⟨by rfl, ?_⟩) (by assumption) ?_
        rotate_left 1
        · ((intro w hSw; (try dsimp only at hSw); go_simp) <;> with_reducible rfl)
        try simp only [Act.put, List.setIfInBounds_toArray, List.set_cons_zero, List.set_cons_succ]
        refine wpAnyH_take (i := 8) (v := ?_) rfl (by kernel_rfl) (by kernel_rfl) (by kernel_rfl) (fun _ _ _ h => h) (Or.inl ⟨by rfl, ?_⟩) (by assumption) ?_
        rotate_left 1
        · ((intro w hSw; (try dsimp only at hSw); go_simp) <;> with_reducible rfl)
        try simp only [Act.put, List.setIfInBounds_toArray, List.set_cons_zero, List.set_cons_succ]
        refine wpAnyH_take (i := 9) (v := ?_) rfl (by kernel_rfl) (by kernel_rfl) (by kernel_rfl) (fun _ _ _ h => h) (Or.inl ⟨by rfl, ?_⟩) (by assumption) ?_
        rotate_left 1
        · ((intro w hSw; (try dsimp only at hSw); go_simp) <;> with_reducible rfl)
        try simp only [Act.put, List.setIfInBounds_toArray, List.set_cons_zero, List.set_cons_succ]
        refine wpAnyH_take (i := 10) (v := ?_) rfl (by kernel_rfl) (by kernel_rfl) (by kernel_rfl) (fun _ _ _ h => h) (Or.inl ⟨by rfl, ?_⟩) (by assumption) ?_
        rotate_left 1
        · ((intro w hSw; (try dsimp only at hSw); go_simp) <;> with_reducible rfl)
        try simp only [Act.put, List.setIfInBounds_toArray, List.set_cons_zero, List.set_cons_succ]
        refine wpAnyH_take (i := 11) (v := ?_) rfl (by kernel_rfl) (by kernel_rfl) (by kernel_rfl) (fun _ _ _ h => h) (Or.inl ⟨by rfl, ?_⟩) (by assumption) ?_
        rotate_left 1
        · ((intro w hSw; (try dsimp only at hSw); go_simp) <;> with_reducible rfl)
        try simp only [Act.put, List.setIfInBounds_toArray, List.set_cons_zero, List.set_cons_succ]
        refine wpAnyH_take (i := 12) (v := ?_) rfl (by kernel_rfl) (by kernel_rfl) (by kernel_rfl) (fun _ _ _ h => h) (Or.inl ⟨by rfl, ?_⟩) (by assumption) ?_
        rotate_left 1
        · ((intro w hSw; (try dsimp only at hSw); go_simp) <;> with_reducible rfl)
        try simp only [Act.put, List.setIfInBounds_toArray, List.set_cons_zero, List.set_cons_succ]
        refine wpAnyH_take (i := 13) (v := ?_) rfl (by kernel_rfl) (by kernel_rfl) (by kernel_rfl) (fun _ _ _ h => h) (Or.inl ⟨by rfl, ?_⟩) (by assumption) ?_
        rotate_left 1
        · ((intro w hSw; (try dsimp only at hSw); go_simp) <;> with_reducible rfl)
        try simp only [Act.put, List.setIfInBounds_toArray, List.set_cons_zero, List.set_cons_succ]
        refine wpAnyH_take (i := 14) (v := ?_) rfl (by kernel_rfl) (by kernel_rfl) (by kernel_rfl) (fun _ _ _ h => h) (Or.inl ⟨by rfl, ?_⟩) (by assumption) ?_
        rotate_left 1
        · ((intro w hSw; (try dsimp only at hSw); go_simp) <;> with_reducible rfl)
        try simp only [Act.put, List.setIfInBounds_toArray, List.set_cons_zero, List.set_cons_succ]
        refine wpAnyH_take (i := 15) (v := ?_) rfl (by kernel_rfl) (by kernel_rfl) (by kernel_rfl) (fun _ _ _ h => h) (Or.inl ⟨by rfl, ?_⟩) (by assumption) ?_
        rotate_left 1
        · ((intro w hSw; (try dsimp only at hSw); go_simp) <;> with_reducible rfl)
        try simp only [Act.put, List.setIfInBounds_toArray, List.set_cons_zero, List.set_cons_succ]
        refine wpAnyH_take (i := 16) (v := ?_) rfl (by kernel_rfl) (by kernel_rfl) (by kernel_rfl) (fun _ _ _ h => h) (Or.inl ⟨by rfl, ?_⟩) (by assumption) ?_
        rotate_left 1
        · ((intro w hSw; (try dsimp only at hSw); go_simp) <;> with_reducible rfl)
        try simp only [Act.put, List.setIfInBounds_toArray, List.set_cons_zero, List.set_cons_succ]
        refine wpAnyH_take (i := 17) (v := ?_) rfl (by kernel_rfl) (by kernel_rfl) (by kernel_rfl) (fun _ _ _ h => h) (Or.inl ⟨by rfl, ?_⟩) (by assumption) ?_
        rotate_left 1
        · ((intro w hSw; (try dsimp only at hSw); go_simp) <;> with_reducible rfl)
        try simp only [Act.put, List.setIfInBounds_toArray, List.set_cons_zero, List.set_cons_succ]
        refine wpAnyH_take (i := 18) (v := ?_) rfl (by kernel_rfl) (by kernel_rfl) (by kernel_rfl) (fun _ _ _ h => h) (Or.inl ⟨by rfl, ?_⟩) (by assumption) ?_
        rotate_left 1
        · ((intro w hSw; (try dsimp only at hSw); go_simp) <;> with_reducible rfl)
        try simp only [Act.put, List.setIfInBounds_toArray, List.set_cons_zero, List.set_cons_succ]
        refine wpAnyH_ready (rs := [1]) (by kernel_rfl) (by simp) ?_
        refine AllReadyH.cons rfl (fun K hK => ?_) AllReadyH.nil
        go_simp
        refine hK.out _ _ ?_ (fun hHeld => ?_)
        · ((try dsimp only); first | done | (first | exact ⟨z0, z1, z2⟩ | go_keep))
        clear hK K
        try simp only [Act.put, List.setIfInBounds_toArray, List.set_cons_zero, List.set_cons_succ]
        refine wpAnyH_take (i := 3) (v := ?_) rfl (by kernel_rfl) (by kernel_rfl) (by kernel_rfl) (fun _ _ _ h => h) (Or.inl ⟨by rfl, ?_⟩) (by assumption) ?_
        rotate_left 1
        · ((intro w hSw; (try dsimp only at hSw); go_simp) <;> with_reducible rfl)
        try simp only [Act.put, List.setIfInBounds_toArray, List.set_cons_zero, List.set_cons_succ]
        refine wpAnyH_ready (rs := [4]) (by kernel_rfl) (by simp) ?_
        refine AllReadyH.cons rfl (fun K hK => ?_) AllReadyH.nil
        go_simp
        refine hK.out _ _ ?_ (fun hHeld => ?_)
        · ((try dsimp only); first | done | (first | exact ⟨z0, z1, z2⟩ | go_keep))
        clear hK K
        try simp only [Act.put, List.setIfInBounds_toArray, List.set_cons_zero, List.set_cons_succ]
        refine wpAnyH_take (i := 19) (v := ?_) rfl (by kernel_rfl) (by kernel_rfl) (by kernel_rfl) (fun _ _ _ h => h) (Or.inl ⟨by rfl, ?_⟩) (by assumption) ?_
        rotate_left 1
        · ((intro w hSw; (try dsimp only at hSw); go_simp) <;> with_reducible rfl)
        try simp only [Act.put, List.setIfInBounds_toArray, List.set_cons_zero, List.set_cons_succ]
        refine wpAnyH_ready (rs := [20]) (by kernel_rfl) (by simp) ?_
        refine AllReadyH.cons rfl (fun K hK => ?_) AllReadyH.nil
        go_simp
        refine hK.out _ _ ?_ (fun hHeld => ?_)
        · ((try dsimp only); first | done | (first | exact ⟨z0, z1, z2⟩ | go_keep))
        clear hK K
        try simp only [Act.put, List.setIfInBounds_toArray, List.set_cons_zero, List.set_cons_succ]
        refine wpAnyH_ready (rs := [21]) (by kernel_rfl) (by simp) ?_
        refine AllReadyH.cons rfl (fun K hK => ?_) AllReadyH.nil
        (refine step_push _ (by rfl) _ _ 31 (by rfl) w.heap.size 47 i0 _ 5 48 Tryd.underlying31 hi hz0 hz1 hz2 (by rfl) (Nat.succ_pos _) VrC VrC.mono [] (.slice va0 3 vc0) (listM l 3) (by rfl) (HOW.out _ _ _) ⟨wr.heap.size + 1 + 1, 0, none⟩ 1 _ (dcV 3 d) (by rfl) (by rfl) (news_row _ _ _ _ (HSS.out _ _)) (HONE.out _ _ _ [110]) (HVR.out _) hml hmb (HSZ.out _ _ _) ?_; intro v' w6 hown6 hgrow; (have hz := three_grown hgrow HOWN.out.lt); (obtain ⟨z0, z1, z2⟩ := hz); (obtain ⟨va, vcap, rfl, -, -⟩ := hown6.slice); (have HOWN6 := hide hown6); (clear hown6))
        refine hK.out _ _ ?_ (fun hHeld => ?_)
        · ((try dsimp only); first | done | (first | exact ⟨z0, z1, z2⟩ | go_keep))
        clear hK K
        try simp only [Act.put, List.setIfInBounds_toArray, List.set_cons_zero, List.set_cons_succ]
        refine wpAnyH_take (i := 22) (v := ?_) rfl (by kernel_rfl) (by kernel_rfl) (by kernel_rfl) (fun _ _ _ h => h) (Or.inl ⟨by rfl, ?_⟩) (by assumption) ?_
        rotate_left 1
        · ((intro w hSw; (try dsimp only at hSw); go_simp) <;> with_reducible rfl)
        try simp only [Act.put, List.setIfInBounds_toArray, List.set_cons_zero, List.set_cons_succ]
        refine wpAnyH_done (by kernel_rfl) ?_ _
        refine NoPanic.normal ?_
        all_goals
          go_wp2_with fail
          go_roundw
          case rel =>
            refine ⟨3 + 1, .slice va ((listM l 3) ++ [dcV 3 d]).length vcap, ?_, by omega, by go_num, ?_, ?_⟩
            · first | rfl | (simp [hll]; done)
            · rw [HST.out]; exact HOWN6.out
            · exact ((((hb.al _).al _).al _).dr).grown hgrow (by have := hb.size; simp; omega) (fun g hg => (HOWN.out.lt g hg).1)
          case measure => simp [intOf]; omega
      · have hll : (listM l 4).length = 4 := listM_len l 4 (by omega)
        have hml : (listM l 4).length + 1 ≤ maxLen := by unfold maxLen; omega
        have hmb : ((listM l 4).length + 1) * 48 ≤ 140737488355328 := by omega
        have HVR := hide (vr_cells 4 d [120, 95, 49] rfl ht1 ht2 ht3 (by decide) (by decide))
        have HONE := hide fun (x y z : Int) (t : List UInt8) => (show ∀ u ∈ [Value.string ⟨t.toArray⟩, .int .i64 x, .int .i64 (4 : Nat), .int .i64 y, .int .i64 z], u.oneCell' = true by simp [Value.oneCell'])
        have HSZ := hide fun (A B C : Obj) => (show w.heap.size ≤ (((wr.alloc A).alloc B).alloc C).heap.size by have := hb.size; simp; omega)
        have HSS := hide fun (A B : Obj) => (show wr.heap.size + 1 + 1 = ((wr.alloc A).alloc B).heap.size by simp)
        have HST : Hid (listM l (4 + 1) = listM l 4 ++ [dcV 4 d]) := hide (by have h := HD.out; show (match l[4]? with | some d => listM l 4 ++ [dcV 4 d] | none => listM l 4) = _; rw [h])
        have HOWN : Hid (OwnL wr w.heap.size 47 5 VrC [] (.slice va0 4 vc0) (listM l 4)) := hide (by have h := HOWN.out; rw [hll] at h; exact h)
        have HOW := hide fun (A B C : Obj) => HOWN.out.below VrC.mono ((((bl wr).al A).al B).al C)
        refine wp_region_noPanic ?_
        refine wp_region_held_drew (S := (fun w' => w'.cell? ⟨wr.heap.size, 0, none⟩ = some (.int .u8 (d.t : Nat)) ∧ w'.cell? ⟨wr.heap.size, 1, none⟩ = some (.int .u8 (d.f : Nat)) ∧ w'.cell? ⟨wr.heap.size, 2, none⟩ = some (.int .u8 (d.u : Nat)))) (by kernel_rfl) ?_ (fun hHeld => ?_)
        · ((try dsimp only); first | done | (first | exact ⟨z0, z1, z2⟩ | go_keep))
        refine wpAnyH_take (i := 0) (v := ?_) rfl (by kernel_rfl) (by kernel_rfl) (by kernel_rfl) (fun _ _ _ h => h) (Or.inl ⟨by rfl, ?_⟩) (by assumption) ?_
        rotate_left 1
        · ((intro w hSw; (try dsimp only at hSw); go_simp) <;> with_reducible rfl)
        try simp only [Act.put, List.setIfInBounds_toArray, List.set_cons_zero, List.set_cons_succ]
        refine wpAnyH_take (i := 2) (v := ?_) rfl (by kernel_rfl) (by kernel_rfl) (by kernel_rfl) (fun _ _ _ h => h) (Or.inl ⟨by rfl, ?_⟩) (by assumption) ?_
        rotate_left 1
        · ((intro w hSw; (try dsimp only at hSw); go_simp) <;> with_reducible rfl)
        try simp only [Act.put, List.setIfInBounds_toArray, List.set_cons_zero, List.set_cons_succ]
        refine wpAnyH_take (i := 5) (v := ?_) rfl (by kernel_rfl) (by kernel_rfl) (by kernel_rfl) (fun _ _ _ h => h) (Or.inl ⟨by rfl, ?_⟩) (by assumption) ?_
        rotate_left 1
        · ((intro w hSw; (try dsimp only at hSw); go_simp) <;> with_reducible rfl)
        try simp only [Act.put, List.setIfInBounds_toArray, List.set_cons_zero, List.set_cons_succ]
        refine wpAnyH_take (i := 6) (v := ?_) rfl (by kernel_rfl) (by kernel_rfl) (by kernel_rfl) (fun _ _ _ h => h) (Or.inl ⟨by rfl, ?_⟩) (by assumption) ?_
        rotate_left 1
        · ((intro w hSw; (try dsimp only at hSw); go_simp) <;> with_reducible rfl)
        try simp only [Act.put, List.setIfInBounds_toArray, List.set_cons_zero, List.set_cons_succ]
        refine wpAnyH_take (i := 7) (v := ?_) rfl (by kernel_rfl) (by kernel_rfl) (by kernel_rfl) (fun _ _ _ h => h) (Or.inl ⟨by rfl, ?_⟩) (by assumption) ?_
        rotate_left 1
        · ((intro w hSw; (try dsimp only at hSw); go_simp) <;> with_reducible rfl)
        try simp only [Act.put, List.setIfInBounds_toArray, List.set_cons_zero, List.set_cons_succ]
        refine wpAnyH_take (i := 8) (v := ?_) rfl (by kernel_rfl) (by kernel_rfl) (by kernel_rfl) (fun _ _ _ h => h) (Or.inl ⟨by rfl, ?_⟩) (by assumption) ?_
        rotate_left 1
        · ((intro w hSw; (try dsimp only at hSw); go_simp) <;> with_reducible rfl)
        try simp only [Act.put, List.setIfInBounds_toArray, List.set_cons_zero, List.set_cons_succ]
        refine wpAnyH_take (i := 9) (v := ?_) rfl (by kernel_rfl) (by kernel_rfl) (by kernel_rfl) (fun _ _ _ h => h) (Or.inl ⟨by rfl, ?_⟩) (by assumption) ?_
        rotate_left 1
        · ((intro w hSw; (try dsimp only at hSw); go_simp) <;> with_reducible rfl)
        try simp only [Act.put, List.setIfInBounds_toArray, List.set_cons_zero, List.set_cons_succ]
        refine wpAnyH_take (i := 10) (v := ?_) rfl (by kernel_rfl) (by kernel_rfl) (by kernel_rfl) (fun _ _ _ h => h) (Or.inl ⟨by rfl, ?_⟩) (by assumption) ?_
        rotate_left 1
        · ((intro w hSw; (try dsimp only at hSw); go_simp) <;> with_reducible rfl)
        try simp only [Act.put, List.setIfInBounds_toArray, List.set_cons_zero, List.set_cons_succ]
        refine wpAnyH_take (i := 11) (v := ?_) rfl (by kernel_rfl) (by kernel_rfl) (by kernel_rfl) (fun _ _ _ h => h) (Or.inl ⟨by rfl, ?_⟩) (by assumption) ?_
        rotate_left 1
        · ((intro w hSw; (try dsimp only at hSw); go_simp) <;> with_reducible rfl)
        try simp only [Act.put, List.setIfInBounds_toArray, List.set_cons_zero, List.set_cons_succ]
        refine wpAnyH_take (i := 12) (v := ?_) rfl (by kernel_rfl) (by kernel_rfl) (by kernel_rfl) (fun _ _ _ h => h) (Or.inl ⟨by rfl, ?_⟩) (by assumption) ?_
        rotate_left 1
        · ((intro w hSw; (try dsimp only at hSw); go_simp) <;> with_reducible rfl)
        try simp only [Act.put, List.setIfInBounds_toArray, List.set_cons_zero, List.set_cons_succ]
        refine wpAnyH_take (i := 13) (v := ?_) rfl (by kernel_rfl) (by kernel_rfl) (by kernel_rfl) (fun _ _ _ h => h) (Or.inl ⟨by rfl, ?_⟩) (by assumption) ?_
        rotate_left 1
        · ((intro w hSw; (try dsimp only at hSw); go_simp) <;> with_reducible rfl)
        try simp only [Act.put, List.setIfInBounds_toArray, List.set_cons_zero, List.set_cons_succ]
        refine wpAnyH_take (i := 14) (v := ?_) rfl (by kernel_rfl) (by kernel_rfl) (by kernel_rfl) (fun _ _ _ h => h) (Or.inl ⟨by rfl, ?_⟩) (by assumption) ?_
        rotate_left 1
        · ((intro w hSw; (try dsimp only at hSw); go_simp) <;> with_reducible rfl)
        try simp only [Act.put, List.setIfInBounds_toArray, List.set_cons_zero, List.set_cons_succ]
        refine wpAnyH_take (i := 15) (v := ?_) rfl (by kernel_rfl) (by kernel_rfl) (by kernel_rfl) (fun _ _ _ h => h) (Or.inl ⟨by rfl, ?_⟩) (by assumption) ?_
        rotate_left 1
        · ((intro w hSw; (try dsimp only at hSw); go_simp) <;> with_reducible rfl)
        try simp only [Act.put, List.setIfInBounds_toArray, List.set_cons_zero, List.set_cons_succ]
        refine wpAnyH_take (i := 16) (v := ?_) rfl (by kernel_rfl) (by kernel_rfl) (by kernel_rfl) (fun _ _ _ h => h) (Or.inl ⟨by rfl, ?_⟩) (by assumption) ?_
        rotate_left 1
        · ((intro w hSw; (try dsimp only at hSw); go_simp) <;> with_reducible rfl)
        try simp only [Act.put, List.setIfInBounds_toArray, List.set_cons_zero, List.set_cons_succ]
        refine wpAnyH_take (i := 17) (v := ?_) rfl (by kernel_rfl) (by kernel_rfl) (by kernel_rfl) (fun _ _ _ h => h) (Or.inl ⟨by rfl, ?_⟩) (by assumption) ?_
        rotate_left 1
        · ((intro w hSw; (try dsimp only at hSw); go_simp) <;> with_reducible rfl)
        try simp only [Act.put, List.setIfInBounds_toArray, List.set_cons_zero, List.set_cons_succ]
        refine wpAnyH_take (i := 18) (v := ?_) rfl (by kernel_rfl) (by kernel_rfl) (by kernel_rfl) (fun _ _ _ h => h) (Or.inl ⟨by rfl, ?_⟩) (by assumption) ?_
        rotate_left 1
        · ((intro w hSw; (try dsimp only at hSw); go_simp) <;> with_reducible rfl)
        try simp only [Act.put, List.setIfInBounds_toArray, List.set_cons_zero, List.set_cons_succ]
        refine wpAnyH_ready (rs := [1]) (by kernel_rfl) (by simp) ?_
        refine AllReadyH.cons rfl (fun K hK => ?_) AllReadyH.nil
        go_simp
        refine hK.out _ _ ?_ (fun hHeld => ?_)
        · ((try dsimp only); first | done | (first | exact ⟨z0, z1, z2⟩ | go_keep))
        clear hK K
        try simp only [Act.put, List.setIfInBounds_toArray, List.set_cons_zero, List.set_cons_succ]
        refine wpAnyH_take (i := 3) (v := ?_) rfl (by kernel_rfl) (by kernel_rfl) (by kernel_rfl) (fun _ _ _ h => h) (Or.inl ⟨by rfl, ?_⟩) (by assumption) ?_
        rotate_left 1
        · ((intro w hSw; (try dsimp only at hSw); go_simp) <;> with_reducible rfl)
        try simp only [Act.put, List.setIfInBounds_toArray, List.set_cons_zero, List.set_cons_succ]
        refine wpAnyH_ready (rs := [4]) (by kernel_rfl) (by simp) ?_
        refine AllReadyH.cons rfl (fun K hK => ?_) AllReadyH.nil
        go_simp
        refine hK.out _ _ ?_ (fun hHeld => ?_)
        · ((try dsimp only); first | done | (first | exact ⟨z0, z1, z2⟩ | go_keep))
        clear hK K
        try simp only [Act.put, List.setIfInBounds_toArray, List.set_cons_zero, List.set_cons_succ]
        refine wpAnyH_take (i := 19) (v := ?_) rfl (by kernel_rfl) (by kernel_rfl) (by kernel_rfl) (fun _ _ _ h => h) (Or.inl ⟨by rfl, ?_⟩) (by assumption) ?_
        rotate_left 1
        · ((intro w hSw; (try dsimp only at hSw); go_simp) <;> with_reducible rfl)
        try simp only [Act.put, List.setIfInBounds_toArray, List.set_cons_zero, List.set_cons_succ]
        refine wpAnyH_ready (rs := [20]) (by kernel_rfl) (by simp) ?_
        refine AllReadyH.cons rfl (fun K hK => ?_) AllReadyH.nil
        go_simp
        refine hK.out _ _ ?_ (fun hHeld => ?_)
        · ((try dsimp only); first | done | (first | exact ⟨z0, z1, z2⟩ | go_keep))
        clear hK K
        try simp only [Act.put, List.setIfInBounds_toArray, List.set_cons_zero, List.set_cons_succ]
        refine wpAnyH_ready (rs := [21]) (by kernel_rfl) (by simp) ?_
        refine AllReadyH.cons rfl (fun K hK => ?_) AllReadyH.nil
        (refine step_push _ (by rfl) _ _ 31 (by rfl) w.heap.size 47 i0 _ 5 48 Tryd.underlying31 hi hz0 hz1 hz2 (by rfl) (Nat.succ_pos _) VrC VrC.mono [] (.slice va0 4 vc0) (listM l 4) (by rfl) (HOW.out _ _ _) ⟨wr.heap.size + 1 + 1, 0, none⟩ 1 _ (dcV 4 d) (by rfl) (by rfl) (news_row _ _ _ _ (HSS.out _ _)) (HONE.out _ _ _ [120, 95, 49]) (HVR.out _) hml hmb (HSZ.out _ _ _) ?_; intro v' w6 hown6 hgrow; (have hz := three_grown hgrow HOWN.out.lt); (obtain ⟨z0, z1, z2⟩ := hz); (obtain ⟨va, vcap, rfl, -, -⟩ := hown6.slice); (have HOWN6 := hide hown6); (clear hown6))
        refine hK.out _ _ ?_ (fun hHeld => ?_)
        · ((try dsimp only); first | done | (first | exact ⟨z0, z1, z2⟩ | go_keep))
        clear hK K
        try simp only [Act.put, List.setIfInBounds_toArray, List.set_cons_zero, List.set_cons_succ]
        refine wpAnyH_take (i := 22) (v := ?_) rfl (by kernel_rfl) (by kernel_rfl) (by kernel_rfl) (fun _ _ _ h => h) (Or.inl ⟨by rfl, ?_⟩) (by assumption) ?_
        rotate_left 1
        · ((intro w hSw; (try dsimp only at hSw); go_simp) <;> with_reducible rfl)
        try simp only [Act.put, List.setIfInBounds_toArray, List.set_cons_zero, List.set_cons_succ]
        refine wpAnyH_done (by kernel_rfl) ?_ _
        refine NoPanic.normal ?_
        all_goals
          go_wp2_with fail
          go_roundw
          case rel =>
            refine ⟨4 + 1, .slice va ((listM l 4) ++ [dcV 4 d]).length vcap, ?_, by omega, by go_num, ?_, ?_⟩
            · first | rfl | (simp [hll]; done)
            · rw [HST.out]; exact HOWN6.out
            · exact ((((hb.al _).al _).al _).dr).grown hgrow (by have := hb.size; simp; omega) (fun g hg => (HOWN.out.lt g hg).1)
          case measure => simp [intOf]; omega
    · obtain rfl : k = n := by omega
      obtain ⟨aa, ac, e, hvrs⟩ := HOWN.out.vrs
      simp only [Value.slice.injEq, true_and] at e
      obtain ⟨rfl, rfl⟩ := e
      have HVRS := hide hvrs
      clear hvrs
      go_wp2_with fail
      go_ret
      rw [HV.out]
      exact ⟨hide ⟨_, _, rfl, HVRS.out⟩, hb⟩
end Go.Proofs.YtfpikakgaghdbaaDoor
