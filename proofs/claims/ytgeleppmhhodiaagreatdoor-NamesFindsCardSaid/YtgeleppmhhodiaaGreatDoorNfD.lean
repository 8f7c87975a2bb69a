/- rewindref10.Of answers namesM for every function: the walk. -/
import Derived.Test.YtgeleppmhhodiaaGreatDoorNfC
import Derived.Test.YtgeleppmhhodiaaGreatDoorNmD
import Derived.Test.YtgeleppmhhodiaaGreatDoorRqE
namespace Go.Proofs.YtgeleppmhhodiaaGreatDoor
open Go Go.RowKit
set_option linter.unusedSimpArgs false
set_option linter.unusedVariables false
set_option linter.unnecessarySimpa false
theorem goV_step {all : List Vr} {i : Nat} (h : goV [] all = goV (all.take i) (all.drop i)) (hi : i < all.length) (h1 : hasN (all.take i) all[i].name = false) (h2 : i < 50) : goV [] all = goV (all.take (i + 1)) (all.drop (i + 1)) := by
  rw [h, List.drop_eq_getElem_cons hi, goV_ok h1 (by rw [List.length_take]; omega), ← List.take_succ_eq_append_getElem hi]
theorem goV_step_dup {all : List Vr} {i : Nat} (h : goV [] all = goV (all.take i) (all.drop i)) (hi : i < all.length) (h1 : hasN (all.take i) all[i].name = true) : goV [] all = ([], all[i].no, 11) := by
  rw [h, List.drop_eq_getElem_cons hi, goV_dup h1]
theorem goV_step_many {all : List Vr} {i : Nat} (h : goV [] all = goV (all.take i) (all.drop i)) (hi : i < all.length) (h1 : hasN (all.take i) all[i].name = false) (h2 : 50 ≤ i) : goV [] all = ([], all[i].no, 10) := by
  rw [h, List.drop_eq_getElem_cons hi, goV_many h1 (by rw [List.length_take]; omega)]
theorem hasN_yes {all : List Vr} {i k : Nat} (hk : k < i) (hi : i < all.length) (h : (all[k]'(by omega)).name = all[i].name) : hasN (all.take i) all[i].name = true := by
  unfold hasN
  rw [List.any_eq_true]
  exact ⟨all[k]'(by omega), List.mem_take_iff_getElem.2 ⟨k, by omega, rfl⟩, by simpa using h⟩
theorem hasN_no {all : List Vr} {i : Nat} (hi : i < all.length) (h : ∀ k (hk : k < i), (all[k]'(by omega)).name ≠ all[i].name) : hasN (all.take i) all[i].name = false := by
  unfold hasN
  rw [List.any_eq_false]
  intro v hv
  obtain ⟨k, hk, rfl⟩ := List.mem_take_iff_getElem.1 hv
  simpa using h k (by omega)
def nmAll (f : Fn) : List Vr := f.params.map (pmV f) ++ declL f.body (f.count + 1)
theorem namesM_all {f : Fn} (h : checkM [f] = 0) : namesM f = goV [] (nmAll f) := by rw [namesM, if_pos h, decl_law h, nmAll]
/-- The loops over the names: what they answer. -/
theorem nm_fail (e : Int) (n : Int) (w w' : World) (f : Fn) (hN : namesM f = ([], n, e)) (hb : Below w.heap.size w w') : OfPost f w (.returned (.tuple #[.slice none 0 0, .int .i64 n, .int .i64 e])) w' :=
  ⟨⟨none, 0, by rw [hN]; rfl, by rw [hN]; exact ⟨Nat.le_refl _, Nat.zero_le _, by simp, by simp, fun b o e => by cases e⟩⟩, hb⟩
set_option maxRecDepth 20000 in
set_option maxHeartbeats 8000000 in
theorem refOf_any (f : Fn) (v : Value) (w : World) (hv : f.Val w v) : Calls Tryz.prog 7 #[v] w (OfPost f w) := by
  obtain ⟨pp, pb, cp, cb, rfl, hw, hp, hr⟩ := hv
  have hc := refCheck_any [f] (some ⟨w.heap.size + 1, 0, none⟩) 1 ((w.alloc (.cells #[.string ⟨f.name.toArray⟩, .slice pp f.params.length cp, .int .i64 f.result, .slice pb f.body.length cb, .int .i64 f.count] 25)).alloc (.cells #[.string ⟨f.name.toArray⟩, .slice pp f.params.length cp, .int .i64 f.result, .slice pb f.body.length cb, .int .i64 f.count] 25))
    (fns_new (cut5 (⟨pp, pb, cp, cb, rfl, hw, hp.has (has_below ((bl w).al _)), hr.has (has_below ((bl w).al _))⟩ : FnC (w.alloc (.cells #[.string ⟨f.name.toArray⟩, .slice pp f.params.length cp, .int .i64 f.result, .slice pb f.body.length cb, .int .i64 f.count] 25)) f _) cutN) 25 _ 1 (by simp) (by simp) (by unfold maxLen; omega))
  by_cases hck : checkM [f] = 0
  · obtain ⟨hcl, hcc, hno⟩ := check_body hck
    have hp8 : f.params.length ≤ 8 := by
      have := (check_one hck).1
      simp only [fnOk, Bool.and_eq_true, decide_eq_true_eq] at this
      exact this.1.1.1.2
    rw [hck] at hc
    have HC := hide hc
    have HNM := hide (namesM_all hck)
    have hcn1 : 0 ≤ f.count := by omega
    have hcn2 : f.count ≤ 200 := by omega
    have HD := hide fun (W : World) (hW : Below w.heap.size w W) => declared_any (cntL f.body) f.body (f.count + 1) pb cb W (Nat.le_refl _) hcl (fun n hn => no_bound hck hn) (by unfold I64; omega) hw.lb hw.cb (hr.keep hW (Nat.le_refl _))
    have hdl := declL_len f.body (f.count + 1)
    have HPM := hide hp
    have m1 : IntKind.i64.wrap (f.count + 1) = f.count + 1 := IntWalk.i64_in _ (by omega)
    have hpl : f.params.length ≤ 9223372036854775807 := by omega
    obtain ⟨i0, hi, hz0, hz1, hz2⟩ := info_parts info_rvr
    clear hc hck hcc hno hw hp hr
    go_enter Tryz.func7, Tryz.ntmps7
    go_wp2_with fail
    refine HC.out.mono ?_
    rintro r w1 ⟨rfl, hb⟩
    have hbx : w1.heap[w.heap.size]? = some (.cells #[.string ⟨f.name.toArray⟩, .slice pp f.params.length cp, .int .i64 f.result, .slice pb f.body.length cb, .int .i64 f.count] 25 (0, 0)) := by
      rw [hb.block _ (by simp <;> omega), Below.heap_alloc _ _ _ (by simp)]
      exact heap_alloc_new w _
    have HX0 := hide hbx
    have HB0 := hide ((((bl w).al _).al _).tr hb)
    clear hb hbx HC
    go_wp2_with fail
    go_loopw [5, 6] (fun sv i wr => ∃ (k : Nat) (va : Option Addr) (vc : Nat), k ≤ f.params.length ∧ i = .int .i64 k ∧ sv = .slice va k vc ∧ Hid (OwnL wr w.heap.size 37 5 VrC [] (.slice va k vc) ((f.params.take k).map (pmV f))) ∧ Hid (wr.heap[w.heap.size]? = some (.cells #[.string ⟨f.name.toArray⟩, .slice pp f.params.length cp, .int .i64 f.result, .slice pb f.body.length cb, .int .i64 f.count] 25 (0, 0))) ∧ Hid (Below w.heap.size w wr)) (fun _ i _ => f.params.length - (intOf i).toNat)
    case atStart => exact ⟨0, none, 0, Nat.zero_le _, rfl, rfl, hide (OwnL.nil _ _ _ _ _ _), HX0, HB0⟩
    case round =>
      obtain ⟨k, va, vc, hk, rfl, rfl, HO, HX, HB⟩ := hrel
      have x1 := cell_at (j := 1) HX.out rfl
      have x3 := cell_at (j := 3) HX.out rfl
      have x4 := cell_at (j := 4) HX.out rfl
      have hxl := (Array.getElem?_eq_some_iff.1 HX.out).1
      have HNB := hide (own_other' HO.out HX.out (by decide))
      by_cases hlt : k < f.params.length
      · obtain ⟨b, o, hpa⟩ := HPM.out.addr (by omega)
        subst hpa
        have hbw := cell_lt (HPM.out.at_ b o rfl k hlt).1
        simp only at hbw
        obtain ⟨q0, q1⟩ := (HPM.out.has (has_below HB.out)).at_ b o rfl k hlt
        have hbl := cell_lt q0
        simp only at hbl
        have hpw := HPM.out.wf _ (List.getElem_mem hlt)
        have hll : ((f.params.take k).map (pmV f)).length = k := by simp; omega
        have HO2 := hide ((HO.out.al VrC.mono (.cells #[.string ⟨f.params[k].name.toArray⟩, .int .i64 f.params[k].typ, .int .i64 (-1), .int .i64 0, .int .i64 (f.count + 1)] 37)).below VrC.mono (bl (wr.alloc (.cells #[.string ⟨f.params[k].name.toArray⟩, .int .i64 f.params[k].typ, .int .i64 (-1), .int .i64 0, .int .i64 (f.count + 1)] 37))).dr)
        have HNW := hide (news_row wr [.string ⟨f.params[k].name.toArray⟩, .int .i64 f.params[k].typ, .int .i64 (-1), .int .i64 0, .int .i64 (f.count + 1)] 37 wr.heap.size rfl)
        have HML : Hid (((f.params.take k).map (pmV f)).length + 1 ≤ maxLen) := hide (by rw [hll]; unfold maxLen; omega)
        have HMB : Hid ((((f.params.take k).map (pmV f)).length + 1) * 48 ≤ 140737488355328) := hide (by rw [hll]; omega)
        have HSZ : Hid (w.heap.size ≤ (wr.alloc (.cells #[.string ⟨f.params[k].name.toArray⟩, .int .i64 f.params[k].typ, .int .i64 (-1), .int .i64 0, .int .i64 (f.count + 1)] 37)).drew.heap.size) := hide (by have := HB.out.size; show _ ≤ (wr.alloc _).heap.size; simp; omega)
        have HVC : Hid (∀ W, VrC W (pmV f f.params[k]) [.string ⟨f.params[k].name.toArray⟩, .int .i64 f.params[k].typ, .int .i64 (-1), .int .i64 0, .int .i64 (f.count + 1)]) := hide (fun _ => ⟨rfl, hpw.1, hpw.2, (by simp only [pmV]; unfold I64; omega), (by simp only [pmV]; unfold I64; omega), (by simp only [pmV]; unfold I64; omega)⟩)
        have HLEN : Hid (((f.params.take k).map (pmV f) ++ [pmV f f.params[k]]).length = k + 1) := hide (by rw [List.length_append, hll]; rfl)
        have HTK : Hid ((f.params.take (k + 1)).map (pmV f) = (f.params.take k).map (pmV f) ++ [pmV f f.params[k]]) := hide (by rw [List.take_succ_eq_append_getElem hlt, List.map_append]; rfl)
        have HBA := hide (((bl wr).al (.cells #[.string ⟨f.params[k].name.toArray⟩, .int .i64 f.params[k].typ, .int .i64 (-1), .int .i64 0, .int .i64 (f.count + 1)] 37)).dr)
        have HQ := hide (HPM.out.at_ b o rfl k hlt)
        have hk0 : (0 : Int) ≤ (k : Int) := by omega
        have hk9 : (k : Int) < (f.params.length : Int) := by omega
        clear hll hpw
        go_wp2_with fail
        refine wp_region_held_drew (S := fun W => W.cell? ⟨w.heap.size, 1, none⟩ = some (.slice (some ⟨b, o, none⟩) f.params.length cp) ∧ W.cell? ⟨w.heap.size, 4, none⟩ = some (.int .i64 f.count) ∧ W.cell? ⟨b, o + k * 2, none⟩ = some (.string ⟨f.params[k].name.toArray⟩) ∧ W.cell? ⟨b, o + k * 2 + 1, none⟩ = some (.int .i64 f.params[k].typ)) (by kernel_rfl) ⟨x1, x4, q0, q1⟩ (fun hHeld => ?_)
        refine wpAnyH_take (i := 0) (v := ?_) (by simp only [List.getElem?_toArray, List.getElem?_cons_succ, List.getElem?_cons_zero]; rfl) (by kernel_rfl) (by kernel_rfl) (by kernel_rfl) (by exact fun _ _ _ h => h) (Or.inl ⟨by rfl, ?_⟩) (by assumption) ?_
        rotate_left 1
        · ((intro w hSw; (try dsimp only at hSw); go_simp) <;> with_reducible rfl)
        try simp only [Act.put, List.setIfInBounds_toArray, List.set_cons_zero, List.set_cons_succ]
        refine wpAnyH_take (i := 1) (v := ?_) (by simp only [List.getElem?_toArray, List.getElem?_cons_succ, List.getElem?_cons_zero]; rfl) (by kernel_rfl) (by kernel_rfl) (by kernel_rfl) (by exact fun _ _ _ h => h) (Or.inl ⟨by rfl, ?_⟩) (by assumption) ?_
        rotate_left 1
        · ((intro w hSw; (try dsimp only at hSw); go_simp) <;> with_reducible rfl)
        try simp only [Act.put, List.setIfInBounds_toArray, List.set_cons_zero, List.set_cons_succ]
        refine wpAnyH_take (i := 2) (v := ?_) (by simp only [List.getElem?_toArray, List.getElem?_cons_succ, List.getElem?_cons_zero]; rfl) (by kernel_rfl) (by kernel_rfl) (by kernel_rfl) (by exact fun _ _ _ h => h) (Or.inl ⟨by rfl, ?_⟩) (by assumption) ?_
        rotate_left 1
        · ((intro w hSw; (try dsimp only at hSw); go_simp) <;> with_reducible rfl)
        try simp only [Act.put, List.setIfInBounds_toArray, List.set_cons_zero, List.set_cons_succ]
        refine wpAnyH_take (i := 3) (v := ?_) (by simp only [List.getElem?_toArray, List.getElem?_cons_succ, List.getElem?_cons_zero]; rfl) (by kernel_rfl) (by kernel_rfl) (by kernel_rfl) (by exact fun _ _ _ h => h) (Or.inl ⟨by rfl, ?_⟩) (by assumption) ?_
        rotate_left 1
        · ((intro w hSw; (try dsimp only at hSw); go_simp) <;> with_reducible rfl)
        try simp only [Act.put, List.setIfInBounds_toArray, List.set_cons_zero, List.set_cons_succ]
        refine wpAnyH_take (i := 4) (v := ?_) (by simp only [List.getElem?_toArray, List.getElem?_cons_succ, List.getElem?_cons_zero]; rfl) (by kernel_rfl) (by kernel_rfl) (by kernel_rfl) (by exact fun _ _ _ h => h) (Or.inl ⟨by rfl, ?_⟩) (by assumption) ?_
        rotate_left 1
        · ((intro w hSw; (try dsimp only at hSw); go_simp) <;> with_reducible rfl)
        try simp only [Act.put, List.setIfInBounds_toArray, List.set_cons_zero, List.set_cons_succ]
        refine wpAnyH_take (i := 5) (v := ?_) (by simp only [List.getElem?_toArray, List.getElem?_cons_succ, List.getElem?_cons_zero]; rfl) (by kernel_rfl) (by kernel_rfl) (by kernel_rfl) (by exact fun _ _ _ h => h) (Or.inl ⟨by rfl, ?_⟩) (by assumption) ?_
        rotate_left 1
        · ((intro w hSw; (try dsimp only at hSw); go_simp) <;> with_reducible rfl)
        try simp only [Act.put, List.setIfInBounds_toArray, List.set_cons_zero, List.set_cons_succ]
        refine wpAnyH_take (i := 6) (v := ?_) (by simp only [List.getElem?_toArray, List.getElem?_cons_succ, List.getElem?_cons_zero]; rfl) (by kernel_rfl) (by kernel_rfl) (by kernel_rfl) (by exact fun _ _ _ h => h) (Or.inl ⟨by rfl, ?_⟩) (by assumption) ?_
        rotate_left 1
        · ((intro w hSw; (try dsimp only at hSw); go_simp) <;> with_reducible rfl)
        try simp only [Act.put, List.setIfInBounds_toArray, List.set_cons_zero, List.set_cons_succ]
        refine wpAnyH_take (i := 7) (v := ?_) (by simp only [List.getElem?_toArray, List.getElem?_cons_succ, List.getElem?_cons_zero]; rfl) (by kernel_rfl) (by kernel_rfl) (by kernel_rfl) (by exact fun _ _ _ h => h) (Or.inl ⟨by rfl, ?_⟩) (by assumption) ?_
        rotate_left 1
        · ((intro w hSw; (try dsimp only at hSw); go_simp) <;> with_reducible rfl)
        try simp only [Act.put, List.setIfInBounds_toArray, List.set_cons_zero, List.set_cons_succ]
        refine wpAnyH_take (i := 8) (v := ?_) (by simp only [List.getElem?_toArray, List.getElem?_cons_succ, List.getElem?_cons_zero]; rfl) (by kernel_rfl) (by kernel_rfl) (by kernel_rfl) (by exact fun _ _ _ h => h) (Or.inl ⟨by rfl, ?_⟩) (by assumption) ?_
        rotate_left 1
        · ((intro w hSw; (try dsimp only at hSw); go_simp) <;> with_reducible rfl)
        try simp only [Act.put, List.setIfInBounds_toArray, List.set_cons_zero, List.set_cons_succ]
        refine wpAnyH_take (i := 9) (v := ?_) (by simp only [List.getElem?_toArray, List.getElem?_cons_succ, List.getElem?_cons_zero]; rfl) (by kernel_rfl) (by kernel_rfl) (by kernel_rfl) (by exact fun _ _ _ h => h) (Or.inl ⟨by rfl, ?_⟩) (by assumption) ?_
        rotate_left 1
        · ((intro w hSw; (try dsimp only at hSw); go_simp) <;> with_reducible rfl)
        try simp only [Act.put, List.setIfInBounds_toArray, List.set_cons_zero, List.set_cons_succ]
        refine wpAnyH_take (i := 10) (v := ?_) (by simp only [List.getElem?_toArray, List.getElem?_cons_succ, List.getElem?_cons_zero]; rfl) (by kernel_rfl) (by kernel_rfl) (by kernel_rfl) (by exact fun _ _ _ h => h) (Or.inl ⟨by rfl, ?_⟩) (by assumption) ?_
        rotate_left 1
        · ((intro w hSw; (try dsimp only at hSw); go_simp) <;> with_reducible rfl)
        try simp only [Act.put, List.setIfInBounds_toArray, List.set_cons_zero, List.set_cons_succ]
        refine wpAnyH_take (i := 11) (v := ?_) (by simp only [List.getElem?_toArray, List.getElem?_cons_succ, List.getElem?_cons_zero]; rfl) (by kernel_rfl) (by kernel_rfl) (by kernel_rfl) (by exact fun _ _ _ h => h) (Or.inl ⟨by rfl, ?_⟩) (by assumption) ?_
        rotate_left 1
        · ((intro w hSw; (try dsimp only at hSw); go_simp) <;> with_reducible rfl)
        try simp only [Act.put, List.setIfInBounds_toArray, List.set_cons_zero, List.set_cons_succ]
        refine wpAnyH_take (i := 12) (v := ?_) (by simp only [List.getElem?_toArray, List.getElem?_cons_succ, List.getElem?_cons_zero]; rfl) (by kernel_rfl) (by kernel_rfl) (by kernel_rfl) (by exact fun _ _ _ h => h) (Or.inl ⟨by rfl, ?_⟩) (by assumption) ?_
        rotate_left 1
        · ((intro w hSw; (try dsimp only at hSw); go_simp) <;> with_reducible rfl)
        try simp only [Act.put, List.setIfInBounds_toArray, List.set_cons_zero, List.set_cons_succ]
        refine wpAnyH_take (i := 13) (v := ?_) (by simp only [List.getElem?_toArray, List.getElem?_cons_succ, List.getElem?_cons_zero]; rfl) (by kernel_rfl) (by kernel_rfl) (by kernel_rfl) (by exact fun _ _ _ h => h) (Or.inl ⟨by rfl, ?_⟩) (by assumption) ?_
        rotate_left 1
        · ((intro w hSw; (try dsimp only at hSw); go_simp) <;> with_reducible rfl)
        try simp only [Act.put, List.setIfInBounds_toArray, List.set_cons_zero, List.set_cons_succ]
        refine wpAnyH_take (i := 14) (v := ?_) (by simp only [List.getElem?_toArray, List.getElem?_cons_succ, List.getElem?_cons_zero]; rfl) (by kernel_rfl) (by kernel_rfl) (by kernel_rfl) (by exact fun _ _ _ h => h) (Or.inl ⟨by rfl, ?_⟩) (by assumption) ?_
        rotate_left 1
        · ((intro w hSw; (try dsimp only at hSw); go_simp) <;> with_reducible rfl)
        try simp only [Act.put, List.setIfInBounds_toArray, List.set_cons_zero, List.set_cons_succ]
        refine wpAnyH_take (i := 15) (v := ?_) (by simp only [List.getElem?_toArray, List.getElem?_cons_succ, List.getElem?_cons_zero]; rfl) (by kernel_rfl) (by kernel_rfl) (by kernel_rfl) (by exact fun _ _ _ h => h) (Or.inl ⟨by rfl, ?_⟩) (by assumption) ?_
        rotate_left 1
        · ((intro w hSw; (try dsimp only at hSw); go_simp) <;> with_reducible rfl)
        try simp only [Act.put, List.setIfInBounds_toArray, List.set_cons_zero, List.set_cons_succ]
        refine wpAnyH_take (i := 16) (v := ?_) (by simp only [List.getElem?_toArray, List.getElem?_cons_succ, List.getElem?_cons_zero]; rfl) (by kernel_rfl) (by kernel_rfl) (by kernel_rfl) (by exact fun _ _ _ h => h) (Or.inl ⟨by rfl, ?_⟩) (by assumption) ?_
        rotate_left 1
        · ((intro w hSw; (try dsimp only at hSw); go_simp) <;> with_reducible rfl)
        try simp only [Act.put, List.setIfInBounds_toArray, List.set_cons_zero, List.set_cons_succ]
        refine wpAnyH_ready (rs := [17]) (by kernel_rfl) (by simp) ?_
        refine AllReadyH.cons rfl (fun K hK => ?_) AllReadyH.nil
        go_simp
        refine hK.out _ _ ⟨cell_keep x1 HBA.out (Nat.le_refl _), cell_keep x4 HBA.out (Nat.le_refl _), cell_keep q0 HBA.out (Nat.le_refl _), cell_keep q1 HBA.out (Nat.le_refl _)⟩ (fun hHeld => ?_)
        clear hK K
        try simp only [Act.put, List.setIfInBounds_toArray, List.set_cons_zero, List.set_cons_succ]
        refine wpAnyH_ready (rs := [18]) (by kernel_rfl) (by simp) ?_
        refine AllReadyH.cons rfl (fun K hK => ?_) AllReadyH.nil
        refine step_push _ (by rfl) _ _ 33 (by rfl) w.heap.size 37 i0 _ 5 48 Tryz.underlying33 hi hz0 hz1 hz2 (by rfl) (Nat.succ_pos _) VrC VrC.mono [] (.slice va k vc) _ (by rfl) HO2.out ⟨wr.heap.size, 0, none⟩ 1 [.string ⟨f.params[k].name.toArray⟩, .int .i64 f.params[k].typ, .int .i64 (-1), .int .i64 0, .int .i64 (f.count + 1)] (pmV f f.params[k]) (by rfl) (by rfl) HNW.out (by simp [Value.oneCell']) (HVC.out _) HML.out HMB.out HSZ.out ?_
        intro v' w6 hown6 hgrow
        obtain ⟨va6, vc6, he6, -, -⟩ := hown6.slice
        rw [HLEN.out] at he6
        have hx6 := (hgrow.block _ (Nat.lt_of_lt_of_le hxl HBA.out.size) (fun e => HNB.out _ e.symm rfl)).trans ((HBA.out.block _ hxl).trans HX.out)
        have HB6 := hide ((HB.out.tr HBA.out).grown hgrow (HB.out.tr HBA.out).size (fun g hg => (HO.out.lt g hg).1))
        have HO6 := hide hown6
        have HX6 := hide hx6
        subst he6
        refine hK.out _ _ ⟨cell_at (j := 1) hx6 rfl, cell_at (j := 4) hx6 rfl, cell_keep HQ.out.1 HB6.out (Nat.le_refl _), cell_keep HQ.out.2 HB6.out (Nat.le_refl _)⟩ (fun hHeld => ?_)
        clear hK K hown6 hgrow hx6
        try simp only [Act.put, List.setIfInBounds_toArray, List.set_cons_zero, List.set_cons_succ]
        refine wpAnyH_take (i := 19) (v := ?_) (by simp only [List.getElem?_toArray, List.getElem?_cons_succ, List.getElem?_cons_zero]; rfl) (by kernel_rfl) (by kernel_rfl) (by kernel_rfl) (by exact fun _ _ _ h => h) (Or.inl ⟨by rfl, ?_⟩) (by assumption) ?_
        rotate_left 1
        · ((intro w hSw; (try dsimp only at hSw); go_simp) <;> with_reducible rfl)
        try simp only [Act.put, List.setIfInBounds_toArray, List.set_cons_zero, List.set_cons_succ]
        refine wpAnyH_done (by kernel_rfl) ?_ _
        clear hHeld
        go_wp2_with fail
        go_roundw
        case rel => exact ⟨k + 1, _, _, by omega, by go_num, rfl, hide (by rw [HTK.out]; exact HO6.out), HX6, HB6⟩
        case measure => simp [intOf]; omega
      · obtain rfl : k = f.params.length := by omega
        have HO0 := HO.out
        rw [List.take_length] at HO0
        obtain ⟨L0, hL0⟩ : ∃ L0, L0 = f.params.map (pmV f) := ⟨_, rfl⟩
        have hl0 : L0.length = f.params.length := by rw [hL0, List.length_map]
        rw [← hL0] at HO0
        have HO0 := hide HO0
        have HL0 := hide hL0
        have hdl : (declL f.body (f.count + 1)).length ≤ 200 := Nat.le_trans hdl hcl
        have HSUM : Hid (L0.length + (declL f.body (f.count + 1)).length ≤ 208) := hide (by omega)
        clear HO hL0 hdl
        go_wp2_with fail
        refine (HD.out _ HB.out).mono ?_
        rintro r w4 ⟨⟨ra, rc, rfl, hro⟩, hb4⟩
        have HB4 := hide (HB.out.tr hb4)
        obtain ⟨xs', hown, hcut⟩ := hro
        obtain ⟨pa', cap', he, hnil, hcell⟩ := own_src hown
        simp only [Value.slice.injEq, true_and] at he
        obtain ⟨rfl, rfl⟩ := he
        have hsum := HSUM.out
        rw [← hl0] at HO0
        have HOW := hide (HO0.out.below VrC.mono hb4)
        have HCE := hide hcell
        have HNI : Hid (ra = none → declL f.body (f.count + 1) = [] ∧ rc = 0) := hide (fun e => ⟨List.eq_nil_of_length_eq_zero (hnil e).1, (hnil e).2⟩)
        have HON := hide (vr_one (vr_cut (w' := w4) hcut))
        have HCU : Hid (∀ W, Cut 5 (VrC W) (declL f.body (f.count + 1)) xs') := hide (fun W => vr_cut hcut)
        have HMA : Hid (L0.length + (declL f.body (f.count + 1)).length ≤ maxLen) := hide (by unfold maxLen; omega)
        have HMB : Hid ((L0.length + (declL f.body (f.count + 1)).length) * 48 ≤ 140737488355328) := hide (by omega)
        have hall : L0 ++ declL f.body (f.count + 1) = nmAll f := by rw [HL0.out, nmAll]
        have HAL := hide hall
        have hal : (nmAll f).length ≤ 208 := by rw [← hall, List.length_append]; exact hsum
        clear hnil hcell hcut hown hb4 hsum hall HX x1 x3 x4 hxl HNB HO0
        go_wp2_with (at_builtin; refine wpList_pushes _ rfl _ _ 33 rfl w.heap.size 37 i0 _ 5 48 Tryz.underlying33 hi hz0 hz1 hz2 rfl (by decide) VrC VrC.mono [] _ L0 (by rw [← hl0]; rfl) HOW.out ra rc xs' (declL f.body (f.count + 1)) rfl HNI.out HCE.out HON.out (HCU.out _) HMA.out HMB.out HB4.out.size ?_; intro v' w6 hown6 hgrow; rw [HAL.out] at hown6; obtain ⟨va6, vc6, rfl, hvs⟩ := hown6.vrs; have HVS := hide hvs; have HB6 := hide (HB4.out.grown hgrow HB4.out.size (fun g hg => (HOW.out.lt g hg).1)); clear hown6 hgrow hvs)
        have HNM2 : Hid (namesM f = goV [] (nmAll f)) := HNM
        clear HAL HNM HOW HCE HNI HON HCU HMA HMB HL0 HSUM HB HB4 HD HPM HX0 HB0 hi hz0 hz1 hz2 hl0 hpl m1 hdl
        generalize nmAll f = all at *
        have hal9 : all.length ≤ 9223372036854775807 := by omega
        go_loopw [7] (fun i wr => ∃ k n : Nat, k ≤ all.length ∧ i = .int .i64 k ∧ Hid (goV [] all = goV (all.take k) (all.drop k)) ∧ Hid (wr = w6.drewN n)) (fun i _ => all.length - (intOf i).toNat)
        case atStart => exact ⟨0, 0, Nat.zero_le _, rfl, hide (by simp), hide rfl⟩
        case round =>
          obtain ⟨k, nn, hk, rfl, HGV, HWR⟩ := hrel
          by_cases hlt : k < all.length
          · obtain ⟨b, o, rfl⟩ := HVS.out.addr (by omega)
            obtain ⟨vk, hvk⟩ : ∃ v, v = all[k] := ⟨_, rfl⟩
            have hck := HVS.out.at_ b o rfl k hlt
            rw [← hvk] at hck
            have HCK := hide hck
            have HVK := hide hvk
            clear hck hvk
            go_wp2_with fail
            go_loopw [8] (fun j wr => ∃ i n : Nat, i ≤ k ∧ j = .int .i64 i ∧ Hid (∀ m (hm : m < i) (hm2 : m < all.length), all[m].name ≠ vk.name) ∧ Hid (wr = w6.drewN n)) (fun j _ => k - (intOf j).toNat)
            case atStart => exact ⟨0, nn, Nat.zero_le _, rfl, hide (fun m hm => absurd hm (Nat.not_lt_zero _)), HWR⟩
            case round =>
              obtain ⟨i, n2, hik, rfl, HNE, HWX⟩ := hrel
              by_cases hlt2 : i < k
              · obtain ⟨vi, hvi⟩ : ∃ v, v = all[i]'(by omega) := ⟨_, rfl⟩
                have hci := HVS.out.at_ b o rfl i (by omega)
                rw [← hvi] at hci
                have HVI := hide hvi
                have c0 : wr.cell? ⟨b, o + k * 5, none⟩ = some (.string ⟨vk.name.toArray⟩) := by rw [HWX.out]; exact HCK.out.1
                have c2 : wr.cell? ⟨b, o + k * 5 + 2, none⟩ = some (.int .i64 vk.no) := by rw [HWX.out]; exact HCK.out.2.2.1
                have d0 : wr.cell? ⟨b, o + i * 5, none⟩ = some (.string ⟨vi.name.toArray⟩) := by rw [HWX.out]; exact hci.1
                have hbl := cell_lt c0
                simp only at hbl
                have hc1 : (0 : Int) ≤ (i : Int) := by omega
                have hc2 : (i : Int) < (all.length : Int) := by omega
                have hc3 : (0 : Int) ≤ (k : Int) := by omega
                have hc4 : (k : Int) < (all.length : Int) := by omega
                clear hci hvi
                cases q : vi.name == vk.name
                · have HQ : Hid (vi.name ≠ vk.name) := hide (by simpa using q)
                  go_wp2_with fail
                  go_quiet (fail)
                  go_wp2_with fail
                  go_roundw
                  case rel =>
                    refine ⟨i + 1, _, by omega, by go_num, hide fun m hm hm2 => ?_, hide (by rw [HWX.out, World.drewN_drewN])⟩
                    by_cases e : m = i
                    · subst e
                      rw [← HVI.out]
                      exact HQ.out
                    · exact HNE.out m (by omega) hm2
                  case measure => simp [intOf]; omega
                · have HE : Hid (namesM f = ([], vk.no, 11)) := hide (by
                    rw [HNM2.out, HVK.out]
                    exact goV_step_dup HGV.out hlt (hasN_yes hlt2 hlt (by rw [← HVI.out, ← HVK.out]; simpa using q)))
                  go_wp2_with fail
                  go_quiet (fail)
                  go_wp2_with fail
                  go_quiet (fail)
                  go_wp2_with fail
                  refine bodyPost_ret (v := .tuple #[.slice none 0 0, .int .i64 vk.no, .int .i64 11]) (by simp [results, Tryz.results7, go_sem]) rfl ?_
                  refine nm_fail _ _ _ _ _ HE.out ?_
                  rw [HWX.out, World.drewN_drewN, World.drewN_drewN]
                  exact below_dq HB6.out _
              · obtain rfl : i = k := by omega
                have hno : hasN (all.take i) all[i].name = false := hasN_no hlt (fun m hm => by rw [← HVK.out]; exact HNE.out m hm (by omega))
                have c2 : wr.cell? ⟨b, o + i * 5 + 2, none⟩ = some (.int .i64 vk.no) := by rw [HWX.out]; exact HCK.out.2.2.1
                have hbl := cell_lt c2
                simp only at hbl
                have hc3 : (0 : Int) ≤ (i : Int) := by omega
                have hc4 : (i : Int) < (all.length : Int) := by omega
                by_cases h50 : (50 : Int) ≤ (i : Int)
                · have HE : Hid (namesM f = ([], vk.no, 10)) := hide (by
                    rw [HNM2.out, HVK.out]
                    exact goV_step_many HGV.out hlt hno (by omega))
                  clear hno
                  go_wp2_with fail
                  go_quiet (fail)
                  go_wp2_with fail
                  refine bodyPost_ret (v := .tuple #[.slice none 0 0, .int .i64 vk.no, .int .i64 10]) (by simp [results, Tryz.results7, go_sem]) rfl ?_
                  refine nm_fail _ _ _ _ _ HE.out ?_
                  rw [HWX.out, World.drewN_drewN]
                  exact below_dq HB6.out _
                · have HGS := hide (goV_step HGV.out hlt hno (by omega))
                  clear hno
                  go_wp2_with fail
                  go_roundw
                  case rel => exact ⟨i + 1, _, by omega, by go_num, HGS, HWX⟩
                  case measure => simp [intOf]; omega
          · obtain rfl : k = all.length := by omega
            have HE : Hid (namesM f = (all, 0, 0)) := hide (by
              rw [HNM2.out, HGV.out, List.drop_length, List.take_length]
              rfl)
            go_wp2_with fail
            refine bodyPost_ret (v := .tuple #[.slice va6 all.length vc6, .int .i64 0, .int .i64 0]) (by simp [results, Tryz.results7, go_sem]) rfl ?_
            rw [HWR.out]
            refine ⟨⟨va6, vc6, by rw [HE.out], ?_⟩, below_dq HB6.out _⟩
            rw [HE.out]
            exact ⟨HVS.out.len, HVS.out.cap, HVS.out.wf, HVS.out.addr, HVS.out.at_⟩
  · have hck2 : checkM [f] = 2 := check_two hck
    have hN : namesM f = ([], 0, 2) := by rw [namesM, if_neg hck]
    rw [hck2] at hc
    have HC := hide hc
    have HN := hide hN
    clear hc hck hck2 hN hw hp hr
    go_enter Tryz.func7, Tryz.ntmps7
    go_wp2_with fail
    refine HC.out.mono ?_
    rintro r w1 ⟨rfl, hb⟩
    have HB0 := hide ((((bl w).al _).al _).tr hb)
    clear hb HC
    go_wp2_with fail
    refine bodyPost_ret (v := .tuple #[.slice none 0 0, .int .i64 0, .int .i64 2]) (by simp [results, Tryz.results7, go_sem]) rfl ?_
    exact nm_fail _ _ _ _ _ HN.out HB0.out
end Go.Proofs.YtgeleppmhhodiaaGreatDoor
