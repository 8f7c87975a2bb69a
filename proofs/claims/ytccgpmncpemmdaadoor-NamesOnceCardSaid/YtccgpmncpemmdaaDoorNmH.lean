/- rewindlaw10.example. -/
import Derived.Test.YtccgpmncpemmdaaDoorNmG
import Derived.Test.YtccgpmncpemmdaaDoorSpG
import Derived.Deep.DeepCutAuto
import Derived.Deep.RegionHeld3
namespace Go.Proofs.YtccgpmncpemmdaaDoor
open Go Go.RowKit
set_option linter.unusedSimpArgs false
set_option linter.unusedVariables false
set_option linter.unnecessarySimpa false
/-- Behind region 2. -/
structure NxA (Wa : World) (B : Nat) (wx : World) (n : Nat) : Prop where
  b : Below Wa.heap.size Wa wx
  le : Wa.heap.size ≤ n
  h : ∃ na, wx.heap[n]? = some (.cells #[.int .i64 9, .int .i64 1, .string ⟨#[]⟩, .int .i64 0, .string ⟨#[]⟩, .slice (some ⟨na, 0, none⟩) 1 1, .slice none 0 0, .slice none 0 0] 62 (0, 0)) ∧ Ex.Row (av [n, B] wx) [nxLess] (some ⟨na, 0, none⟩)
theorem lt_al (W : World) (o : Obj) : W.heap.size < (W.alloc o).heap.size := by rw [World.size_alloc]; exact Nat.lt_succ_self _
/-- A new row is stored in a field of block n. -/
theorem row_step {wc w6 : World} {n j : Nat} {L : List Nat} {l : List St} {xs : List Value} {C : Array Value} {t : TypeId} {z : Nat × Nat} {v : Value} (hn : wc.heap[n]? = some (.cells C t z)) (hb : Below wc.heap.size wc w6) (hnL : n ∈ L) (hL : ∀ g ∈ L, g < w6.heap.size)
    (hcut : Cut 8 (StC (av L w6)) l xs) : ((w6.setCell ⟨n, j, none⟩ v).alloc (.cells xs.toArray 62)).heap[n]? = some (.cells (C.setIfInBounds j v) t z) ∧ St.Row (av L ((w6.setCell ⟨n, j, none⟩ v).alloc (.cells xs.toArray 62))) l (some ⟨w6.heap.size, 0, none⟩) ∧
      Kept [n] wc ((w6.setCell ⟨n, j, none⟩ v).alloc (.cells xs.toArray 62)) := by
  have h6 := (hb.block _ (Array.getElem?_eq_some_iff.1 hn).1).trans hn
  have hk : Kept [n] w6 (w6.setCell ⟨n, j, none⟩ v) := (Kept.refl _ _).set (g := n) (.inl (by simp)) j v
  have h7 := heap_set h6 (i := j) v
  have hb7 := (bl (w6.setCell ⟨n, j, none⟩ v)).al (.cells xs.toArray 62)
  have hkL := has_kept (hk.sub (m := L) fun g hg => .inl (by rw [List.mem_singleton] at hg; subst hg; exact hnL))
  refine ⟨(hb7.block _ (Array.getElem?_eq_some_iff.1 h7).1).trans h7, ?_, ((kept_below hb).tr hk).tr (kept_below hb7)⟩
  have hs : (w6.setCell ⟨n, j, none⟩ v).heap.size = w6.heap.size := by simp
  exact sts_newL (hcut.mono fun a c h => StC.mono _ _ _ _ hkL h) 62 _ hs.symm (fun g hg => by rw [hs]; exact hL g hg)
theorem sLf_c (w : World) (k no t : Int) (s : Bytes) (hk : -1000 ≤ k ∧ k ≤ 1000) (ho : -1000 ≤ no ∧ no ≤ 1000) (hn : -1000 ≤ t ∧ t ≤ 1000) (hs : s.length ≤ 100) : StC w (.mk k no s t [] [] [] []) [.int .i64 k, .int .i64 no, .string ⟨s.toArray⟩, .int .i64 t, .string ⟨#[]⟩, .slice none 0 0, .slice none 0 0, .slice none 0 0] :=
  ⟨none, none, none, 0, 0, 0, rfl, ⟨i64_l k hk, i64_l no ho, Nat.le_trans hs (by unfold maxLen; omega), i64_l t hn, Nat.zero_le _, Nat.le_refl _, Nat.zero_le _, Nat.le_refl _, Nat.zero_le _, Nat.le_refl _, Nat.zero_le _⟩, trivial, trivial, trivial⟩
theorem sWi_c {w : World} {e : Ex} {nd : Nat} (h : Ex.Row w [e] (some ⟨nd, 0, none⟩)) (k no t : Int) (s : Bytes) (hk : -1000 ≤ k ∧ k ≤ 1000) (ho : -1000 ≤ no ∧ no ≤ 1000) (hn : -1000 ≤ t ∧ t ≤ 1000) (hs : s.length ≤ 100) : StC w (.mk k no s t [] [e] [] []) [.int .i64 k, .int .i64 no, .string ⟨s.toArray⟩, .int .i64 t, .string ⟨#[]⟩, .slice (some ⟨nd, 0, none⟩) 1 1, .slice none 0 0, .slice none 0 0] :=
  ⟨some ⟨nd, 0, none⟩, none, none, 1, 0, 0, rfl, ⟨i64_l k hk, i64_l no ho, Nat.le_trans hs (by unfold maxLen; omega), i64_l t hn, Nat.zero_le _, Nat.le_refl _, by unfold maxLen; omega, Nat.le_refl _, Nat.zero_le _, Nat.le_refl _, Nat.zero_le _⟩, h, trivial, trivial⟩
theorem wpAnyH_gen {P : Program} {ops : Array Oper} {Q : Exit → Act → World → Prop} {md : Region.Mode} {S : World → Prop} {f : Nat} {listed : Array Bool} {a : Act} {w : World} {R : World → Prop} (hR : R w) (h : ∀ Wf, R Wf → wpAnyH P md ops Q S f listed a Wf) : wpAnyH P md ops Q S f listed a w := h w hR
theorem sts_heap {W : World} {L : List Nat} {n : Nat} {t : TypeId} {z : Nat × Nat} {l : List St} {xs : List Value} (hh : W.heap[n]? = some (.cells xs.toArray t z)) (hn : n ∉ L) (h : Cut 8 (StC (av L W)) l xs) : St.Row (av L W) l (some ⟨n, 0, none⟩) := by
  refine St.Row.of fun i hi => ?_
  obtain ⟨c, ⟨pa, pb, pe, ca, cb, ce, rfl, hw, h1, h2, h3⟩, _, hx⟩ := h.get i hi
  have key : ∀ (j : Nat) (v : Value), j < 8 → [Value.int .i64 l[i].kind, .int .i64 l[i].no, .string ⟨l[i].name.toArray⟩, .int .i64 l[i].typ, .string ⟨l[i].callee.toArray⟩, .slice pa l[i].args.length ca, .slice pb l[i].body.length cb, .slice pe l[i].els.length ce][j]? = some v → (av L W).cell? ⟨n, 0 + i * 8 + j, none⟩ = some v := fun j v hj hv => by
    rw [Nat.zero_add]
    exact av_mk (cell_at hh (by simpa using (hx j hj).trans hv)) hn
  exact St.At.of ⟨key 0 _ (by omega) rfl, key 1 _ (by omega) rfl, key 2 _ (by omega) rfl, key 3 _ (by omega) rfl, key 4 _ (by omega) rfl, key 5 _ (by omega) rfl, key 6 _ (by omega) rfl, key 7 _ (by omega) rfl⟩ hw h1 h2 h3
/-- Before the result is stored. -/
structure F7 (W6 : World) (L : List Nat) (Wf : World) (np nq nd na kb ke kc kg : Nat) : Prop where
  b : Below W6.heap.size W6 Wf
  p : Wf.heap[np]? = some (.cells #[.string ⟨#[97]⟩, .int .i64 1, .string ⟨#[98]⟩, .int .i64 3] 58 (0, 0))
  lp : W6.heap.size ≤ np
  q : Wf.heap[nq]? = some (.cells [.int .i64 1, .int .i64 0, .string ⟨#[99]⟩, .int .i64 1, .string ⟨#[]⟩, .slice none 0 0, .slice none 0 0, .slice none 0 0, .int .i64 9, .int .i64 1, .string ⟨#[]⟩, .int .i64 0, .string ⟨#[]⟩, .slice (some ⟨na, 0, none⟩) 1 1, .slice (some ⟨kb, 0, none⟩) 2 2, .slice (some ⟨ke, 0, none⟩) 1 1, .int .i64 10, .int .i64 5, .string ⟨#[]⟩, .int .i64 0, .string ⟨#[]⟩, .slice (some ⟨kc, 0, none⟩) 1 1, .slice (some ⟨kg, 0, none⟩) 2 2, .slice none 0 0, .int .i64 6, .int .i64 8, .string ⟨#[]⟩, .int .i64 0, .string ⟨#[]⟩, .slice (some ⟨nd, 0, none⟩) 1 1, .slice none 0 0, .slice none 0 0].toArray 62 (0, 0))
  lq : W6.heap.size ≤ nq
  r : Ex.Row (av (nq :: L) Wf) [.mk 3 0 0 [99] []] (some ⟨nd, 0, none⟩)
  ne : np ≠ nq
def NxPost (w : World) (r : Ending) (w' : World) : Prop :=
  (∃ np nq, r = .returned (.agg #[.string ⟨#[102]⟩, .slice (some ⟨np, 0, none⟩) 2 2, .int .i64 0, .slice (some ⟨nq, 0, none⟩) 4 4, .int .i64 9]) ∧ Pms (av [nq] w') nxF.params (some ⟨np, 0, none⟩) 2 ∧ OwnL w' w.heap.size 62 8 StC [] (.slice (some ⟨nq, 0, none⟩) 4 4) nxF.body) ∧ Below w.heap.size w w'
set_option maxRecDepth 100000 in
set_option maxHeartbeats 8000000 in
theorem example_any (w : World) : Calls Tryd.prog 25 #[] w (NxPost w) := by
  have HV1 := hide fun W => variable_any ⟨#[99]⟩ W
  have HS := hide stmt_any
  have HV := hide variable_any
  have HN := hide num_any
  have HN1 := hide fun W => num_any 1 W
  have HS9 := hide fun W => stmt_any 9 1 0 ⟨#[]⟩ W
  have HWI0 := hide fun (L : List Nat) (k no t : Int) (s : ByteArray) (e : Ex) (ek eo en : Int) (es : ByteArray) (ea : Option Addr) (el ec : Nat) (W : World) => with_any L k no t s e ek eo en es ea el ec W
  unfold eLf at HV1 HN1 HV HN
  unfold sLf at HS9 HWI0 HS
  go_enter Tryd.func25, Tryd.ntmps25
  go_upto_region 2 with (first | (go_at_call 38; (with_reducible refine (HV1.out _).mono ?_); rintro r w1 ⟨rfl, hb1⟩) | (go_at_call 36; (with_reducible refine (HN1.out _).mono ?_); rintro r w2 ⟨rfl, hb2⟩))
  obtain ⟨Wa, hWa⟩ : ∃ Wa, Wa = ((w2.alloc (.cells #[.int .i64 3, .int .i64 0, .int .i64 0, .string ⟨#[99]⟩, .slice none 0 0, .int .i64 1, .int .i64 0, .int .i64 1, .string ⟨#[]⟩, .slice none 0 0] 91)).alloc (.cells #[.int .i64 5, .int .i64 8, .int .i64 0, .string ⟨#[]⟩, .slice (some ⟨w2.heap.size, 0, none⟩) 2 2] 91)) := ⟨_, rfl⟩
  rw [← hWa]
  have hB2 : Below (w.alloc (.cells #[.string ⟨#[]⟩, .slice none 0 0, .int .i64 0, .slice none 0 0, .int .i64 0] 42)).heap.size (w.alloc (.cells #[.string ⟨#[]⟩, .slice none 0 0, .int .i64 0, .slice none 0 0, .int .i64 0] 42)) w2 := hb1.tr hb2
  have hBa : Below w2.heap.size w2 Wa := by rw [hWa]; exact ((bl w2).al _).al _
  have hrow : Ex.Row (av [w.heap.size] (w2.alloc (.cells #[.int .i64 3, .int .i64 0, .int .i64 0, .string ⟨#[99]⟩, .slice none 0 0, .int .i64 1, .int .i64 0, .int .i64 1, .string ⟨#[]⟩, .slice none 0 0] 91))) [.mk 3 0 0 [99] [], .mk 1 0 1 [] []] (some ⟨w2.heap.size, 0, none⟩) :=
    exs_newL (cut5 (ex_leaf' _ 3 0 0 [99] (by omega) (by omega) (by omega) (by simp)) (cut5 (ex_leaf' _ 1 0 1 [] (by omega) (by omega) (by omega) (by simp)) cutN)) 91 _ rfl (fun g hg => by
      have := hB2.size
      simp at this hg
      omega)
  have hless : Ex.Val (av [w.heap.size] Wa) nxLess (.agg #[.int .i64 5, .int .i64 8, .int .i64 0, .string ⟨#[]⟩, .slice (some ⟨w2.heap.size, 0, none⟩) 2 2]) := by
    refine ⟨some ⟨w2.heap.size, 0, none⟩, 2, rfl, ⟨i64_l 5 (by omega), i64_l 8 (by omega), i64_l 0 (by omega), Nat.zero_le _, Nat.le_refl _, by unfold maxLen; omega⟩, hrow.has ?_⟩
    rw [hWa]
    exact has_av_below ((bl _).al _)
  have hbox : Wa.heap[w2.heap.size + 1]? = some (.cells #[.int .i64 5, .int .i64 8, .int .i64 0, .string ⟨#[]⟩, .slice (some ⟨w2.heap.size, 0, none⟩) 2 2] 91 (0, 0)) := by
    rw [hWa]
    have := heap_alloc_new (w2.alloc (.cells #[.int .i64 3, .int .i64 0, .int .i64 0, .string ⟨#[99]⟩, .slice none 0 0, .int .i64 1, .int .i64 0, .int .i64 1, .string ⟨#[]⟩, .slice none 0 0] 91)) (.cells #[.int .i64 5, .int .i64 8, .int .i64 0, .string ⟨#[]⟩, .slice (some ⟨w2.heap.size, 0, none⟩) 2 2] 91)
    simpa using this
  have hsa : Wa.heap.size = w2.heap.size + 2 := by rw [hWa]; simp
  have hBW : Below (w.alloc (.cells #[.string ⟨#[]⟩, .slice none 0 0, .int .i64 0, .slice none 0 0, .int .i64 0] 42)).heap.size (w.alloc (.cells #[.string ⟨#[]⟩, .slice none 0 0, .int .i64 0, .slice none 0 0, .int .i64 0] 42)) Wa := hB2.tr hBa
  have hwl : w.heap.size < Wa.heap.size := by have := hBW.size; simp at this; omega
  have v0 := cell_at (j := 0) hbox rfl
  have v1 := cell_at (j := 1) hbox rfl
  have v2 := cell_at (j := 2) hbox rfl
  have v3 := cell_at (j := 3) hbox rfl
  have v4 := cell_at (j := 4) hbox rfl
  have HS5 : Hid (∀ W, Below Wa.heap.size Wa W → W.cell? ⟨w2.heap.size + 1, 0, none⟩ = some (.int .i64 5) ∧ W.cell? ⟨w2.heap.size + 1, 1, none⟩ = some (.int .i64 8) ∧ W.cell? ⟨w2.heap.size + 1, 2, none⟩ = some (.int .i64 0) ∧ W.cell? ⟨w2.heap.size + 1, 3, none⟩ = some (.string ⟨#[]⟩) ∧ W.cell? ⟨w2.heap.size + 1, 4, none⟩ = some (.slice (some ⟨w2.heap.size, 0, none⟩) 2 2)) := hide fun W hW => ⟨cell_keep v0 hW (Nat.le_refl _), cell_keep v1 hW (Nat.le_refl _), cell_keep v2 hW (Nat.le_refl _), cell_keep v3 hW (Nat.le_refl _), cell_keep v4 hW (Nat.le_refl _)⟩
  have HWI := hide fun (W : World) (hW : Below Wa.heap.size Wa W) => HWI0.out [w.heap.size] 9 1 0 ⟨#[]⟩ nxLess 5 8 0 ⟨#[]⟩ (some ⟨w2.heap.size, 0, none⟩) 2 2 W (fun g hg => by simp at hg; subst hg; exact Nat.lt_of_lt_of_le hwl hW.size) (hless.has (has_av_below hW))
  have HWI2 := hide fun (W : World) (n : Nat) (hW : Below Wa.heap.size Wa W) (hn : Wa.heap.size ≤ n) (hnW : n < W.heap.size) => HWI0.out [n, w.heap.size] 9 1 0 ⟨#[]⟩ nxLess 5 8 0 ⟨#[]⟩ (some ⟨w2.heap.size, 0, none⟩) 2 2 W (fun g hg => by
    simp only [List.mem_cons, List.not_mem_nil, or_false] at hg
    rcases hg with rfl | rfl
    · exact hnW
    · exact Nat.lt_of_lt_of_le hwl hW.size) (hless.has (has_one hW n hn))
  have hS0 := HS5.out Wa.drew (bl Wa).dr
  have HBW := hide hBW
  have HSA := hide hsa
  clear hsa hWa hb1 hb2 hB2 hBa hrow hless hbox hBW v0 v1 v2 v3 v4
  go_cut [0, 2] (fun z s wx => ∃ n : Nat, z = .pointer (some ⟨w.heap.size, 0, none⟩) ∧ s = .pointer (some ⟨n, 0, none⟩) ∧ Hid (NxA Wa w.heap.size wx n))
  case first =>
    refine wp_region_held_drew (S := fun W => W.cell? ⟨w2.heap.size + 1, 0, none⟩ = some (.int .i64 5) ∧ W.cell? ⟨w2.heap.size + 1, 1, none⟩ = some (.int .i64 8) ∧ W.cell? ⟨w2.heap.size + 1, 2, none⟩ = some (.int .i64 0) ∧ W.cell? ⟨w2.heap.size + 1, 3, none⟩ = some (.string ⟨#[]⟩) ∧ W.cell? ⟨w2.heap.size + 1, 4, none⟩ = some (.slice (some ⟨w2.heap.size, 0, none⟩) 2 2)) (by kernel_rfl) hS0 (fun hHeld => ?_)
    refine wpAnyH_take (i := 1) (v := ?_) (by simp only [List.getElem?_toArray, List.getElem?_cons_succ, List.getElem?_cons_zero]; rfl) (by kernel_rfl) (by kernel_rfl) (by kernel_rfl) (by exact fun _ _ _ h => h) (Or.inl ⟨by rfl, ?_⟩) (by assumption) ?_
    rotate_left 1
    · ((intro w hSw; (try dsimp only at hSw); go_simp) <;> with_reducible rfl)
    try simp only [Act.put, List.setIfInBounds_toArray, List.set_cons_zero, List.set_cons_succ]
    refine wpAnyH_ready (rs := [0, 3]) (by kernel_rfl) (by simp) ?_
    refine AllReadyH.cons rfl (fun K hK => ?_) (AllReadyH.cons rfl (fun K hK => ?_) AllReadyH.nil)
    · go_simp
      refine (HS9.out _).mono ?_
      rintro r w3 ⟨rfl, hb3⟩
      have hB3 := (bl Wa).dr.tr hb3
      refine hK.out _ _ (HS5.out _ hB3) (fun hHeld => ?_)
      clear hK K
      try simp only [Act.put, List.setIfInBounds_toArray, List.set_cons_zero, List.set_cons_succ]
      refine wpAnyH_ready (rs := [2, 3]) (by kernel_rfl) (by simp) ?_
      refine AllReadyH.cons rfl (fun K hK => ?_) (AllReadyH.cons rfl (fun K hK => ?_) AllReadyH.nil)
      · go_simp
        refine (HWI.out _ hB3).mono ?_
        rintro r w4 ⟨⟨na, rfl, hna⟩, hb4⟩
        have hB4 := hB3.tr hb4
        refine hK.out _ _ (HS5.out _ hB4) (fun hHeld => ?_)
        clear hK K
        try simp only [Act.put, List.setIfInBounds_toArray, List.set_cons_zero, List.set_cons_succ]
        refine wpAnyH_ready (rs := [3]) (by kernel_rfl) (by simp) ?_
        refine AllReadyH.cons rfl (fun K hK => ?_) AllReadyH.nil
        go_simp
        refine hK.out _ _ (HS5.out _ (hB4.al _)) (fun hHeld => ?_)
        clear hK K
        try simp only [Act.put, List.setIfInBounds_toArray, List.set_cons_zero, List.set_cons_succ]
        refine wpAnyH_ready (rs := [4]) (by kernel_rfl) (by simp) ?_
        refine AllReadyH.cons rfl (fun K hK => ?_) AllReadyH.nil
        go_simp
        refine hK.out _ _ (HS5.out _ (hB4.al _)) (fun hHeld => ?_)
        clear hK K
        try simp only [Act.put, List.setIfInBounds_toArray, List.set_cons_zero, List.set_cons_succ]
        refine wpAnyH_done (by kernel_rfl) ?_ _
        go_wp2_with fail
        go_meet
        exact ⟨_, rfl, rfl, hide ⟨hB4.al _, hB4.size, na, heap_alloc_new _ _, hna.has (has_one ((bl w4).al _) _ (Nat.le_refl _))⟩⟩
      · go_simp
        refine hK.out _ _ (HS5.out _ (hB3.al _)) (fun hHeld => ?_)
        clear hK K
        try simp only [Act.put, List.setIfInBounds_toArray, List.set_cons_zero, List.set_cons_succ]
        refine wpAnyH_ready (rs := [2]) (by kernel_rfl) (by simp) ?_
        refine AllReadyH.cons rfl (fun K hK => ?_) AllReadyH.nil
        go_simp
        have hle : Wa.heap.size ≤ w3.heap.size := hB3.size
        refine (HWI2.out _ w3.heap.size (hB3.al _) hle (lt_al _ _)).mono ?_
        rintro r w4 ⟨⟨na, rfl, hna⟩, hb4⟩
        have hB4 := (hB3.al _).tr hb4
        have hz : w4.heap[w3.heap.size]? = some (.cells #[.int .i64 0, .int .i64 0, .string ⟨#[]⟩, .int .i64 0, .string ⟨#[]⟩, .slice none 0 0, .slice none 0 0, .slice none 0 0] 62 (0, 0)) := (hb4.block _ (lt_al w3 _)).trans (heap_alloc_new w3 _)
        have hz5 : w3.heap.size < w4.heap.size := (Array.getElem?_eq_some_iff.1 hz).1
        obtain ⟨hc4, hf4⟩ := bcell hb4
        have hfin : ∀ wx, Kept [w3.heap.size] w4 wx → Below Wa.heap.size Wa wx ∧ Ex.Row (av [w3.heap.size, w.heap.size] wx) [nxLess] (some ⟨na, 0, none⟩) := fun wx hk => ⟨hk.below hB4 (fun g hg => by rw [List.mem_singleton] at hg; subst hg; exact hle), hna.has (has_kept (hk.sub fun g hg => .inl (by rw [List.mem_singleton] at hg; simp [hg])))⟩
        have HF := hide hfin
        have HZ := hide hz
        refine hK.out _ _ (HS5.out _ hB4) (fun hHeld => ?_)
        clear hK K hz hfin hna
        try simp only [Act.put, List.setIfInBounds_toArray, List.set_cons_zero, List.set_cons_succ]
        refine wpAnyH_ready (rs := [4]) (by kernel_rfl) (by simp) ?_
        refine AllReadyH.cons rfl (fun K hK => ?_) AllReadyH.nil
        go_simp
        have hk8 := hide (((((((((Kept.refl [w3.heap.size] w4).set (g := w3.heap.size) (.inl (by simp)) 0 (.int .i64 9)).set (g := w3.heap.size) (.inl (by simp)) 1 (.int .i64 1)).set (g := w3.heap.size) (.inl (by simp)) 2 (.string ⟨#[]⟩)).set (g := w3.heap.size) (.inl (by simp)) 3 (.int .i64 0)).set (g := w3.heap.size) (.inl (by simp)) 4 (.string ⟨#[]⟩)).set (g := w3.heap.size) (.inl (by simp)) 5 (.slice (some ⟨na, 0, none⟩) 1 1)).set (g := w3.heap.size) (.inl (by simp)) 6 (.slice none 0 0)).set (g := w3.heap.size) (.inl (by simp)) 7 (.slice none 0 0))
        have h8 := hide (heap_set (i := 7) (heap_set (i := 6) (heap_set (i := 5) (heap_set (i := 4) (heap_set (i := 3) (heap_set (i := 2) (heap_set (i := 1) (heap_set (i := 0) HZ.out (.int .i64 9)) (.int .i64 1)) (.string ⟨#[]⟩)) (.int .i64 0)) (.string ⟨#[]⟩)) (.slice (some ⟨na, 0, none⟩) 1 1)) (.slice none 0 0)) (.slice none 0 0))
        refine hK.out _ _ (HS5.out _ (HF.out _ hk8.out).1) (fun hHeld => ?_)
        clear hK K
        try simp only [Act.put, List.setIfInBounds_toArray, List.set_cons_zero, List.set_cons_succ]
        refine wpAnyH_done (by kernel_rfl) ?_ _
        go_wp2_with fail
        go_meet
        exact ⟨_, rfl, rfl, hide ⟨(HF.out _ hk8.out).1, hle, na, by simpa using h8.out, (HF.out _ hk8.out).2⟩⟩
    · go_simp
      refine hK.out _ _ (HS5.out _ ((bl Wa).dr.al _)) (fun hHeld => ?_)
      clear hK K
      try simp only [Act.put, List.setIfInBounds_toArray, List.set_cons_zero, List.set_cons_succ]
      refine wpAnyH_ready (rs := [0]) (by kernel_rfl) (by simp) ?_
      refine AllReadyH.cons rfl (fun K hK => ?_) AllReadyH.nil
      go_simp
      refine (HS9.out _).mono ?_
      rintro r w3 ⟨rfl, hb3⟩
      have hB3 := ((bl Wa).dr.al _).tr hb3
      refine hK.out _ _ (HS5.out _ hB3) (fun hHeld => ?_)
      clear hK K
      try simp only [Act.put, List.setIfInBounds_toArray, List.set_cons_zero, List.set_cons_succ]
      refine wpAnyH_ready (rs := [2]) (by kernel_rfl) (by simp) ?_
      refine AllReadyH.cons rfl (fun K hK => ?_) AllReadyH.nil
      go_simp
      have hle : Wa.heap.size ≤ Wa.heap.size := Nat.le_refl _
      refine (HWI2.out _ Wa.heap.size hB3 hle (Nat.lt_of_lt_of_le (lt_al Wa _) hb3.size)).mono ?_
      rintro r w4 ⟨⟨na, rfl, hna⟩, hb4⟩
      have hB4 := hB3.tr hb4
      have hb4 := hb3.tr hb4
      have hz : w4.heap[Wa.heap.size]? = some (.cells #[.int .i64 0, .int .i64 0, .string ⟨#[]⟩, .int .i64 0, .string ⟨#[]⟩, .slice none 0 0, .slice none 0 0, .slice none 0 0] 62 (0, 0)) := (hb4.block _ (lt_al Wa _)).trans (heap_alloc_new Wa _)
      have hz5 : Wa.heap.size < w4.heap.size := (Array.getElem?_eq_some_iff.1 hz).1
      obtain ⟨hc4, hf4⟩ := bcell hb4
      have hfin : ∀ wx, Kept [Wa.heap.size] w4 wx → Below Wa.heap.size Wa wx ∧ Ex.Row (av [Wa.heap.size, w.heap.size] wx) [nxLess] (some ⟨na, 0, none⟩) := fun wx hk => ⟨hk.below hB4 (fun g hg => by rw [List.mem_singleton] at hg; subst hg; exact hle), hna.has (has_kept (hk.sub fun g hg => .inl (by rw [List.mem_singleton] at hg; simp [hg])))⟩
      have HF := hide hfin
      have HZ := hide hz
      refine hK.out _ _ (HS5.out _ hB4) (fun hHeld => ?_)
      clear hK K hz hfin hna
      try simp only [Act.put, List.setIfInBounds_toArray, List.set_cons_zero, List.set_cons_succ]
      refine wpAnyH_ready (rs := [4]) (by kernel_rfl) (by simp) ?_
      refine AllReadyH.cons rfl (fun K hK => ?_) AllReadyH.nil
      go_simp
      have hk8 := hide (((((((((Kept.refl [Wa.heap.size] w4).set (g := Wa.heap.size) (.inl (by simp)) 0 (.int .i64 9)).set (g := Wa.heap.size) (.inl (by simp)) 1 (.int .i64 1)).set (g := Wa.heap.size) (.inl (by simp)) 2 (.string ⟨#[]⟩)).set (g := Wa.heap.size) (.inl (by simp)) 3 (.int .i64 0)).set (g := Wa.heap.size) (.inl (by simp)) 4 (.string ⟨#[]⟩)).set (g := Wa.heap.size) (.inl (by simp)) 5 (.slice (some ⟨na, 0, none⟩) 1 1)).set (g := Wa.heap.size) (.inl (by simp)) 6 (.slice none 0 0)).set (g := Wa.heap.size) (.inl (by simp)) 7 (.slice none 0 0))
      have h8 := hide (heap_set (i := 7) (heap_set (i := 6) (heap_set (i := 5) (heap_set (i := 4) (heap_set (i := 3) (heap_set (i := 2) (heap_set (i := 1) (heap_set (i := 0) HZ.out (.int .i64 9)) (.int .i64 1)) (.string ⟨#[]⟩)) (.int .i64 0)) (.string ⟨#[]⟩)) (.slice (some ⟨na, 0, none⟩) 1 1)) (.slice none 0 0)) (.slice none 0 0))
      refine hK.out _ _ (HS5.out _ (HF.out _ hk8.out).1) (fun hHeld => ?_)
      clear hK K
      try simp only [Act.put, List.setIfInBounds_toArray, List.set_cons_zero, List.set_cons_succ]
      refine wpAnyH_done (by kernel_rfl) ?_ _
      go_wp2_with fail
      go_meet
      exact ⟨_, rfl, rfl, hide ⟨(HF.out _ hk8.out).1, hle, na, by simpa using h8.out, (HF.out _ hk8.out).2⟩⟩
  case rest =>
    obtain ⟨n, rfl, rfl, HA⟩ := hcut
    obtain ⟨hab, hnle, na, hnh, hnr⟩ := HA.out
    have hBx : Below (w.alloc (.cells #[.string ⟨#[]⟩, .slice none 0 0, .int .i64 0, .slice none 0 0, .int .i64 0] 42)).heap.size (w.alloc (.cells #[.string ⟨#[]⟩, .slice none 0 0, .int .i64 0, .slice none 0 0, .int .i64 0] 42)) wc := HBW.out.tr hab
    have hbx : wc.heap[w.heap.size]? = some (.cells #[.string ⟨#[]⟩, .slice none 0 0, .int .i64 0, .slice none 0 0, .int .i64 0] 42 (0, 0)) := (hBx.block _ (by simp)).trans (heap_alloc_new _ _)
    have HBX := hide hbx
    have HB := hide (((bl w).al _).tr hBx)
    have HNH := hide hnh
    have HNR := hide hnr
    have hnw : w.heap.size < n := Nat.lt_of_lt_of_le hwl hnle
    have hnl : n < wc.heap.size := (Array.getElem?_eq_some_iff.1 hnh).1
    clear HS5 HWI HWI2 hS0 HBW HSA hwl HA hab hnle hnh hnr hBx hbx
    have hL := fun (W : World) (hW : Below wc.heap.size wc W) (g : Nat) (hg : g ∈ [n, w.heap.size]) => (show g < W.heap.size by
      have h1 := hW.size
      simp only [List.mem_cons, List.not_mem_nil, or_false] at hg
      rcases hg with rfl | rfl <;> omega)
    have HL := hide hL
    have HWI := hide fun (W : World) (hW : Below wc.heap.size wc W) => HWI0.out [n, w.heap.size] 6 3 0 ⟨#[]⟩ (.mk 3 0 0 [100] []) 3 0 0 ⟨#[100]⟩ none 0 0 W (HL.out W hW) (ex_leaf _ 3 0 0 [100] (i64_l _ (by omega)) (i64_l _ (by omega)) (i64_l _ (by omega)) (by unfold maxLen; simp))
    have hB := Below.refl wc.heap.size wc
    clear hL
    go_upto_region 4 with (first | (go_at_call 24; (with_reducible refine (HS.out _ _ _ _ _).mono ?_); rintro r w3 ⟨rfl, hb3⟩; replace hB := hB.tr hb3; clear hb3) | (go_at_call 38; (with_reducible refine (HV.out _ _).mono ?_); rintro r w3 ⟨rfl, hb3⟩; replace hB := hB.tr hb3; clear hb3) | (go_at_call 36; (with_reducible refine (HN.out _ _).mono ?_); rintro r w3 ⟨rfl, hb3⟩; replace hB := hB.tr hb3; clear hb3) | (go_at_call 37; (with_reducible refine (HWI.out _ hB).mono ?_); rintro r w6 ⟨⟨nd, rfl, hrow⟩, hb6⟩; replace hB := hB.tr hb6; have hz6 := free_at (j := 6) ((hB.block _ hnl).trans HNH.out); have hy6 := cell_at (j := 6) ((hB.block _ hnl).trans HNH.out) rfl; have hn6 : n < w6.heap.size := Nat.lt_of_lt_of_le hnl hB.size; have hn7 : ¬ n = w6.heap.size := Nat.ne_of_lt hn6; have hn8 : ¬ w6.heap.size = n := Nat.ne_of_gt hn6; clear hb6))
    obtain ⟨W3, hW3⟩ : ∃ W3, W3 = ((w6.setCell ⟨n, 6, none⟩ (.slice (some ⟨w6.heap.size, 0, none⟩) 2 2)).alloc (.cells #[.int .i64 1, .int .i64 2, .string ⟨#[100]⟩, .int .i64 2, .string ⟨#[]⟩, .slice none 0 0, .slice none 0 0, .slice none 0 0, .int .i64 6, .int .i64 3, .string ⟨#[]⟩, .int .i64 0, .string ⟨#[]⟩, .slice (some ⟨nd, 0, none⟩) 1 1, .slice none 0 0, .slice none 0 0] 62)) := ⟨_, rfl⟩
    rw [← hW3]
    have hst := row_step (j := 6) (v := .slice (some ⟨w6.heap.size, 0, none⟩) 2 2) HNH.out hB (L := [n, w.heap.size]) (by simp) (HL.out _ hB) (l := nxB)
      (cut8 (sLf_c _ 1 2 2 [100] (by omega) (by omega) (by omega) (by simp)) (cut8 (sWi_c hrow 6 3 0 [] (by omega) (by omega) (by omega) (by simp)) cutN))
    rw [← hW3] at hst
    obtain ⟨hh, hr, hk⟩ := hst
    have hkL := has_kept (hk.sub (m := [n, w.heap.size]) fun g hg => .inl (by rw [List.mem_singleton] at hg; subst hg; simp))
    replace HNR := hide (HNR.out.has hkL)
    replace HB := hide (hk.below HB.out (fun g hg => by rw [List.mem_singleton] at hg; subst hg; exact Nat.le_of_lt hnw))
    replace HBX := hide (hk.heap (by rw [List.mem_singleton]; omega) HBX.out)
    replace hnl : n < W3.heap.size := (Array.getElem?_eq_some_iff.1 hh).1
    have HNB := hide hr
    replace HNH := hide (show W3.heap[n]? = some (.cells #[.int .i64 9, .int .i64 1, .string ⟨#[]⟩, .int .i64 0, .string ⟨#[]⟩, .slice (some ⟨na, 0, none⟩) 1 1, .slice (some ⟨w6.heap.size, 0, none⟩) 2 2, .slice none 0 0] 62 (0, 0)) from hh)
    clear hh hr hk hkL hW3 HWI hB hz6 hy6 hn6 hn7 hn8 hrow HL
    generalize w6.heap.size = kb at *
    have HL := hide fun (W : World) (hW : Below W3.heap.size W3 W) (g : Nat) (hg : g ∈ [n, w.heap.size]) => (show g < W.heap.size by
      have h1 := hW.size
      simp only [List.mem_cons, List.not_mem_nil, or_false] at hg
      rcases hg with rfl | rfl <;> omega)
    have hB := Below.refl W3.heap.size W3
    have HWI := hide fun (W : World) (hW : Below W3.heap.size W3 W) => HWI0.out [n, w.heap.size] 1 4 1 ⟨#[101]⟩ (.mk 1 0 2 [] []) 1 0 2 ⟨#[]⟩ none 0 0 W (HL.out W hW) (ex_leaf _ 1 0 2 [] (i64_l _ (by omega)) (i64_l _ (by omega)) (i64_l _ (by omega)) (by unfold maxLen; simp))
    go_upto_region 5 with (first | (go_at_call 24; (with_reducible refine (HS.out _ _ _ _ _).mono ?_); rintro r w3 ⟨rfl, hb3⟩; replace hB := hB.tr hb3; clear hb3) | (go_at_call 38; (with_reducible refine (HV.out _ _).mono ?_); rintro r w3 ⟨rfl, hb3⟩; replace hB := hB.tr hb3; clear hb3) | (go_at_call 36; (with_reducible refine (HN.out _ _).mono ?_); rintro r w3 ⟨rfl, hb3⟩; replace hB := hB.tr hb3; clear hb3) | (go_at_call 37; (with_reducible refine (HWI.out _ hB).mono ?_); rintro r w6 ⟨⟨nd, rfl, hrow⟩, hb6⟩; replace hB := hB.tr hb6; have hz6 := free_at (j := 7) ((hB.block _ hnl).trans HNH.out); have hy6 := cell_at (j := 7) ((hB.block _ hnl).trans HNH.out) rfl; have hn6 : n < w6.heap.size := Nat.lt_of_lt_of_le hnl hB.size; have hn7 : ¬ n = w6.heap.size := Nat.ne_of_lt hn6; have hn8 : ¬ w6.heap.size = n := Nat.ne_of_gt hn6; clear hb6))
    obtain ⟨W4, hW4⟩ : ∃ W4, W4 = ((w6.setCell ⟨n, 7, none⟩ (.slice (some ⟨w6.heap.size, 0, none⟩) 1 1)).alloc (.cells #[.int .i64 1, .int .i64 4, .string ⟨#[101]⟩, .int .i64 1, .string ⟨#[]⟩, .slice (some ⟨nd, 0, none⟩) 1 1, .slice none 0 0, .slice none 0 0] 62)) := ⟨_, rfl⟩
    rw [← hW4]
    have hst := row_step (j := 7) (v := .slice (some ⟨w6.heap.size, 0, none⟩) 1 1) HNH.out hB (L := [n, w.heap.size]) (by simp) (HL.out _ hB) (l := nxE)
      (cut8 (sWi_c hrow 1 4 1 [101] (by omega) (by omega) (by omega) (by simp)) cutN)
    rw [← hW4] at hst
    obtain ⟨hh, hr, hk⟩ := hst
    have hkL := has_kept (hk.sub (m := [n, w.heap.size]) fun g hg => .inl (by rw [List.mem_singleton] at hg; subst hg; simp))
    replace HNR := hide (HNR.out.has hkL)
    replace HB := hide (hk.below HB.out (fun g hg => by rw [List.mem_singleton] at hg; subst hg; exact Nat.le_of_lt hnw))
    replace HBX := hide (hk.heap (by rw [List.mem_singleton]; omega) HBX.out)
    replace hnl : n < W4.heap.size := (Array.getElem?_eq_some_iff.1 hh).1
    replace HNB := hide (HNB.out.has hkL)
    have HNE := hide hr
    replace HNH := hide (show W4.heap[n]? = some (.cells #[.int .i64 9, .int .i64 1, .string ⟨#[]⟩, .int .i64 0, .string ⟨#[]⟩, .slice (some ⟨na, 0, none⟩) 1 1, .slice (some ⟨kb, 0, none⟩) 2 2, .slice (some ⟨w6.heap.size, 0, none⟩) 1 1] 62 (0, 0)) from hh)
    clear hh hr hk hkL hW4 HWI hB hz6 hy6 hn6 hn7 hn8 hrow HL
    generalize w6.heap.size = ke at *
    have HL := hide fun (W : World) (hW : Below W4.heap.size W4 W) (g : Nat) (hg : g ∈ [n, w.heap.size]) => (show g < W.heap.size by
      have h1 := hW.size
      simp only [List.mem_cons, List.not_mem_nil, or_false] at hg
      rcases hg with rfl | rfl <;> omega)
    have hB := Below.refl W4.heap.size W4
    have HWI := hide fun (W : World) (hW : Below W4.heap.size W4 W) => HWI0.out [n, w.heap.size] 10 5 0 ⟨#[]⟩ (.mk 2 0 1 [] []) 2 0 1 ⟨#[]⟩ none 0 0 W (HL.out W hW) (ex_leaf _ 2 0 1 [] (i64_l _ (by omega)) (i64_l _ (by omega)) (i64_l _ (by omega)) (by unfold maxLen; simp))
    go_upto_region 6 with (first | (go_at_call 24; (with_reducible refine (HS.out _ _ _ _ _).mono ?_); rintro r w3 ⟨rfl, hb3⟩; replace hB := hB.tr hb3; clear hb3) | (go_at_call 38; (with_reducible refine (HV.out _ _).mono ?_); rintro r w3 ⟨rfl, hb3⟩; replace hB := hB.tr hb3; clear hb3) | (go_at_call 36; (with_reducible refine (HN.out _ _).mono ?_); rintro r w3 ⟨rfl, hb3⟩; replace hB := hB.tr hb3; clear hb3) | (go_at_call 37; (with_reducible refine (HWI.out _ hB).mono ?_); rintro r w6 ⟨⟨nd, rfl, hrow⟩, hb6⟩; replace hB := hB.tr hb6; clear hb6))
    obtain ⟨W5, hW5⟩ : ∃ W5, W5 = w6.alloc (.cells #[.int .i64 10, .int .i64 5, .string ⟨#[]⟩, .int .i64 0, .string ⟨#[]⟩, .slice (some ⟨nd, 0, none⟩) 1 1, .slice none 0 0, .slice none 0 0] 62) := ⟨_, rfl⟩
    rw [← hW5]
    have hb7 : Below W4.heap.size W4 W5 := by rw [hW5]; exact hB.al _
    have hh : W5.heap[w6.heap.size]? = some (.cells #[.int .i64 10, .int .i64 5, .string ⟨#[]⟩, .int .i64 0, .string ⟨#[]⟩, .slice (some ⟨nd, 0, none⟩) 1 1, .slice none 0 0, .slice none 0 0] 62 (0, 0)) := by rw [hW5]; exact heap_alloc_new _ _
    have hb67 : Below w6.heap.size w6 W5 := by rw [hW5]; exact (bl w6).al _
    have hone : Has (av [n, w.heap.size] w6) (av [w6.heap.size, n, w.heap.size] W5) := has_one hb67 _ (Nat.le_refl _)
    have hone4 := (has_av_below (l := [n, w.heap.size]) hB).tr hone
    replace HNR := hide (HNR.out.has hone4)
    replace HNB := hide (HNB.out.has hone4)
    replace HNE := hide (HNE.out.has hone4)
    have HMR := hide (hrow.has hone)
    replace HB := hide (HB.out.tr hb7)
    replace HBX := hide ((hb7.block _ (Nat.lt_trans hnw hnl)).trans HBX.out)
    replace HNH := hide ((hb7.block _ hnl).trans HNH.out)
    have HMH := hide hh
    have hml : w6.heap.size < W5.heap.size := (Array.getElem?_eq_some_iff.1 hh).1
    have hnm : n < w6.heap.size := Nat.lt_of_lt_of_le hnl hB.size
    have HE5 : Hid (∃ x, x = nd) := hide ⟨_, rfl⟩
    clear hW5 hb7 hh hb67 hone hone4 hrow hB HWI HL hnl
    generalize w6.heap.size = m at *
    have HL := hide fun (W : World) (hW : Below W5.heap.size W5 W) (g : Nat) (hg : g ∈ [m, n, w.heap.size]) => (show g < W.heap.size by
      have h1 := hW.size
      simp only [List.mem_cons, List.not_mem_nil, or_false] at hg
      rcases hg with rfl | rfl | rfl <;> omega)
    have hB := Below.refl W5.heap.size W5
    obtain ⟨kc, hkc⟩ : ∃ kc, kc = nd := ⟨_, rfl⟩
    rw [← hkc] at HMR HMH ⊢
    have HWI := hide fun (W : World) (hW : Below W5.heap.size W5 W) => HWI0.out [m, n, w.heap.size] 2 7 0 ⟨#[103]⟩ (.mk 1 0 1 [] []) 1 0 1 ⟨#[]⟩ none 0 0 W (HL.out W hW) (ex_leaf _ 1 0 1 [] (i64_l _ (by omega)) (i64_l _ (by omega)) (i64_l _ (by omega)) (by unfold maxLen; simp))
    clear hkc
    go_upto_region 7 with (first | (go_at_call 24; (with_reducible refine (HS.out _ _ _ _ _).mono ?_); rintro r w3 ⟨rfl, hb3⟩; replace hB := hB.tr hb3; clear hb3) | (go_at_call 38; (with_reducible refine (HV.out _ _).mono ?_); rintro r w3 ⟨rfl, hb3⟩; replace hB := hB.tr hb3; clear hb3) | (go_at_call 36; (with_reducible refine (HN.out _ _).mono ?_); rintro r w3 ⟨rfl, hb3⟩; replace hB := hB.tr hb3; clear hb3) | (go_at_call 37; (with_reducible refine (HWI.out _ hB).mono ?_); rintro r w6 ⟨⟨nd, rfl, hrow⟩, hb6⟩; replace hB := hB.tr hb6; have hz6 := free_at (j := 6) ((hB.block _ hml).trans HMH.out); have hy6 := cell_at (j := 6) ((hB.block _ hml).trans HMH.out) rfl; have hn6 : m < w6.heap.size := Nat.lt_of_lt_of_le hml hB.size; have hn7 : ¬ m = w6.heap.size := Nat.ne_of_lt hn6; have hn8 : ¬ w6.heap.size = m := Nat.ne_of_gt hn6; clear hb6))
    obtain ⟨W6, hW6⟩ : ∃ W6, W6 = ((w6.setCell ⟨m, 6, none⟩ (.slice (some ⟨w6.heap.size, 0, none⟩) 2 2)).alloc (.cells #[.int .i64 1, .int .i64 6, .string ⟨#[103]⟩, .int .i64 1, .string ⟨#[]⟩, .slice none 0 0, .slice none 0 0, .slice none 0 0, .int .i64 2, .int .i64 7, .string ⟨#[103]⟩, .int .i64 0, .string ⟨#[]⟩, .slice (some ⟨nd, 0, none⟩) 1 1, .slice none 0 0, .slice none 0 0] 62)) := ⟨_, rfl⟩
    rw [← hW6]
    have hst := row_step (j := 6) (v := .slice (some ⟨w6.heap.size, 0, none⟩) 2 2) HMH.out hB (L := [m, n, w.heap.size]) (by simp) (HL.out _ hB) (l := nxG)
      (cut8 (sLf_c _ 1 6 1 [103] (by omega) (by omega) (by omega) (by simp)) (cut8 (sWi_c hrow 2 7 0 [103] (by omega) (by omega) (by omega) (by simp)) cutN))
    rw [← hW6] at hst
    obtain ⟨hh, hr, hk⟩ := hst
    have hkL := has_kept (hk.sub (m := [m, n, w.heap.size]) fun g hg => .inl (by rw [List.mem_singleton] at hg; subst hg; simp))
    replace HNR := hide (HNR.out.has hkL)
    replace HNB := hide (HNB.out.has hkL)
    replace HNE := hide (HNE.out.has hkL)
    replace HMR := hide (HMR.out.has hkL)
    have HMB := hide hr
    replace HB := hide (hk.below HB.out (fun g hg => by rw [List.mem_singleton] at hg; subst hg; omega))
    replace HBX := hide (hk.heap (by rw [List.mem_singleton]; omega) HBX.out)
    replace HNH := hide (hk.heap (by rw [List.mem_singleton]; omega) HNH.out)
    replace HMH := hide (show W6.heap[m]? = some (.cells #[.int .i64 10, .int .i64 5, .string ⟨#[]⟩, .int .i64 0, .string ⟨#[]⟩, .slice (some ⟨kc, 0, none⟩) 1 1, .slice (some ⟨w6.heap.size, 0, none⟩) 2 2, .slice none 0 0] 62 (0, 0)) from hh)
    replace hml : m < W6.heap.size := (Array.getElem?_eq_some_iff.1 hh).1
    clear hh hr hk hkL hW6 HWI hB hz6 hy6 hn6 hn7 hn8 hrow HL
    generalize w6.heap.size = kg at *
    have HFIN : Hid (∀ (Wf W' : World) (np nq nd : Nat), F7 W6 [m, n, w.heap.size] Wf np nq nd na kb ke kc kg → Kept [w.heap.size] Wf W' → NxPost w (.returned (.agg #[.string ⟨#[102]⟩, .slice (some ⟨np, 0, none⟩) 2 2, .int .i64 0, .slice (some ⟨nq, 0, none⟩) 4 4, .int .i64 9])) W') := hide (by
      intro Wf W' np nq nd hf hk
      obtain ⟨f1, f2, f3, f4, f5, f6, f7⟩ := hf
      have hb := hk.below (HB.out.tr f1) (fun g hg => by rw [List.mem_singleton] at hg; subst hg; exact Nat.le_refl _)
      have hnl6 := (Array.getElem?_eq_some_iff.1 HNH.out).1
      refine ⟨⟨np, nq, rfl, ?_⟩, hb⟩
      have hh : Has (av (nq :: [m, n, w.heap.size]) Wf) (av [nq] W') := (has_kept (hk.sub fun g hg => .inl (by rw [List.mem_singleton] at hg; subst hg; simp))).tr (has_sub (fun g hg => by rw [List.mem_singleton] at hg; subst hg; simp))
      have h6 := has_one (L := [m, n, w.heap.size]) f1 nq f5
      have hno : np ∉ nq :: [m, n, w.heap.size] := by
        simp only [List.mem_cons, List.not_mem_nil, or_false]
        omega
      have hp : Pms (av (nq :: [m, n, w.heap.size]) Wf) [⟨[97], 1⟩, ⟨[98], 3⟩] (some ⟨np, 0, none⟩) 2 := by
        have q0 := av_mk (cell_at (j := 0) f2 rfl) hno
        have q1 := av_mk (cell_at (j := 1) f2 rfl) hno
        have q2 := av_mk (cell_at (j := 2) f2 rfl) hno
        have q3 := av_mk (cell_at (j := 3) f2 rfl) hno
        refine ⟨Nat.le_refl _, by unfold maxLen; omega, fun _ => ⟨_, _, rfl⟩, fun b o e i hi => ?_, ?_⟩
        · simp only [Option.some.injEq, Addr.mk.injEq, and_true] at e
          obtain ⟨rfl, rfl⟩ := e
          simp only [List.length_cons, List.length_nil] at hi
          match i, hi with
          | 0, _ => exact ⟨q0, q1⟩
          | 1, _ => exact ⟨q2, q3⟩
        · intro p hp
          simp only [List.mem_cons, List.not_mem_nil, or_false] at hp
          rcases hp with rfl | rfl
          · exact ⟨by unfold maxLen; simp, i64_l 1 (by omega)⟩
          · exact ⟨by unfold maxLen; simp, i64_l 3 (by omega)⟩
      have hcut := show Cut 8 (StC (av (nq :: [m, n, w.heap.size]) Wf)) nxF.body _ from
        (cut8 (sLf_c _ 1 0 1 [99] (by omega) (by omega) (by omega) (by simp)) (cut8
          ⟨some ⟨na, 0, none⟩, some ⟨kb, 0, none⟩, some ⟨ke, 0, none⟩, 1, 2, 1, rfl, ⟨i64_l 9 (by omega), i64_l 1 (by omega), Nat.zero_le _, i64_l 0 (by omega), Nat.zero_le _, Nat.le_refl _, by unfold maxLen; omega, Nat.le_refl _, by unfold maxLen; omega, Nat.le_refl _, by unfold maxLen; omega⟩, HNR.out.has h6, HNB.out.has h6, HNE.out.has h6⟩ (cut8
          ⟨some ⟨kc, 0, none⟩, some ⟨kg, 0, none⟩, none, 1, 2, 0, rfl, ⟨i64_l 10 (by omega), i64_l 5 (by omega), Nat.zero_le _, i64_l 0 (by omega), Nat.zero_le _, Nat.le_refl _, by unfold maxLen; omega, Nat.le_refl _, by unfold maxLen; omega, Nat.le_refl _, Nat.zero_le _⟩, HMR.out.has h6, HMB.out.has h6, trivial⟩ (cut8
          (sWi_c f6 6 8 0 [] (by omega) (by omega) (by omega) (by simp)) cutN))))
      refine ⟨hp.has hh, _, ⟨?_, .inr ⟨nq, 4, _, rfl, by omega, hk.heap (by rw [List.mem_singleton]; omega) f4, Nat.le_refl _, by unfold maxLen; omega, rfl, rfl⟩⟩, hcut.mono fun a c h => StC.mono _ _ _ _ hh h⟩
      rfl)
    have HSB : Hid (∀ W, Below W6.heap.size W6 W → W.heap[n]? = some (.cells #[.int .i64 9, .int .i64 1, .string ⟨#[]⟩, .int .i64 0, .string ⟨#[]⟩, .slice (some ⟨na, 0, none⟩) 1 1, .slice (some ⟨kb, 0, none⟩) 2 2, .slice (some ⟨ke, 0, none⟩) 1 1] 62 (0, 0)) ∧ W.heap[m]? = some (.cells #[.int .i64 10, .int .i64 5, .string ⟨#[]⟩, .int .i64 0, .string ⟨#[]⟩, .slice (some ⟨kc, 0, none⟩) 1 1, .slice (some ⟨kg, 0, none⟩) 2 2, .slice none 0 0] 62 (0, 0))) := hide fun W hW => ⟨(hW.block _ (Array.getElem?_eq_some_iff.1 HNH.out).1).trans HNH.out, (hW.block _ hml).trans HMH.out⟩
    have HBB : Hid (∀ W, Below W6.heap.size W6 W → W.heap[w.heap.size]? = some (.cells #[.string ⟨#[]⟩, .slice none 0 0, .int .i64 0, .slice none 0 0, .int .i64 0] 42 (0, 0))) := hide fun W hW => (hW.block _ (Array.getElem?_eq_some_iff.1 HBX.out).1).trans HBX.out
    have HWI := hide fun (W : World) (hW : Below W6.heap.size W6 W) => HWI0.out [m, n, w.heap.size] 6 8 0 ⟨#[]⟩ (.mk 3 0 0 [99] []) 3 0 0 ⟨#[99]⟩ none 0 0 W (fun g hg => by
      have h1 := hW.size
      have h2 := (Array.getElem?_eq_some_iff.1 HNH.out).1
      have h3 := (Array.getElem?_eq_some_iff.1 HBX.out).1
      simp only [List.mem_cons, List.not_mem_nil, or_false] at hg
      rcases hg with rfl | rfl | rfl <;> omega) (ex_leaf _ 3 0 0 [99] (i64_l _ (by omega)) (i64_l _ (by omega)) (i64_l _ (by omega)) (by unfold maxLen; simp))
    have hS0 := HSB.out W6.drew (bl W6).dr
    have hB : Below W6.heap.size W6 W6.drew := (bl W6).dr
    clear HNR HNB HNE HMR HMB HNH HMH HBX HB HS9 HV1 HN1 HN HE5
    refine wp_region_held_drew (S := fun W => W.heap[n]? = some (.cells #[.int .i64 9, .int .i64 1, .string ⟨#[]⟩, .int .i64 0, .string ⟨#[]⟩, .slice (some ⟨na, 0, none⟩) 1 1, .slice (some ⟨kb, 0, none⟩) 2 2, .slice (some ⟨ke, 0, none⟩) 1 1] 62 (0, 0)) ∧ W.heap[m]? = some (.cells #[.int .i64 10, .int .i64 5, .string ⟨#[]⟩, .int .i64 0, .string ⟨#[]⟩, .slice (some ⟨kc, 0, none⟩) 1 1, .slice (some ⟨kg, 0, none⟩) 2 2, .slice none 0 0] 62 (0, 0))) (by kernel_rfl) hS0 (fun hHeld => ?_)
    refine wpAnyH_take (i := 0) (v := ?_) (by simp only [List.getElem?_toArray, List.getElem?_cons_succ, List.getElem?_cons_zero]; rfl) (by kernel_rfl) (by kernel_rfl) (by kernel_rfl) (by exact fun _ _ _ h => h) (Or.inl ⟨by rfl, ?_⟩) (by assumption) ?_
    rotate_left 1
    · ((intro w hSw; (try dsimp only at hSw); go_simp) <;> with_reducible rfl)
    try simp only [Act.put, List.setIfInBounds_toArray, List.set_cons_zero, List.set_cons_succ]
    refine wpAnyH_take (i := 1) (v := ?_) (by simp only [List.getElem?_toArray, List.getElem?_cons_succ, List.getElem?_cons_zero]; rfl) (by kernel_rfl) (by kernel_rfl) (by kernel_rfl) (by exact fun _ _ _ h => h) (Or.inl ⟨by rfl, ?_⟩) (by assumption) ?_
    rotate_left 1
    · ((intro w hSw; (try dsimp only at hSw); go_simp) <;> with_reducible rfl)
    try simp only [Act.put, List.setIfInBounds_toArray, List.set_cons_zero, List.set_cons_succ]
    refine wpAnyH_take (i := 4) (v := ?_) (by simp only [List.getElem?_toArray, List.getElem?_cons_succ, List.getElem?_cons_zero]; rfl) (by kernel_rfl) (by kernel_rfl) (by kernel_rfl) (by exact fun _ _ _ h => h) (Or.inl ⟨by rfl, ?_⟩) (by assumption) ?_
    rotate_left 1
    · ((intro w hSw; (try dsimp only at hSw); obtain ⟨hx, hy⟩ := hSw; have x0 := cell_at (j := 0) hx rfl; have x1 := cell_at (j := 1) hx rfl; have x2 := cell_at (j := 2) hx rfl; have x3 := cell_at (j := 3) hx rfl; have x4 := cell_at (j := 4) hx rfl; have x5 := cell_at (j := 5) hx rfl; have x6 := cell_at (j := 6) hx rfl; have x7 := cell_at (j := 7) hx rfl; have y0 := cell_at (j := 0) hy rfl; have y1 := cell_at (j := 1) hy rfl; have y2 := cell_at (j := 2) hy rfl; have y3 := cell_at (j := 3) hy rfl; have y4 := cell_at (j := 4) hy rfl; have y5 := cell_at (j := 5) hy rfl; have y6 := cell_at (j := 6) hy rfl; have y7 := cell_at (j := 7) hy rfl; clear hx hy; go_simp) <;> with_reducible rfl)
    try simp only [Act.put, List.setIfInBounds_toArray, List.set_cons_zero, List.set_cons_succ]
    refine wpAnyH_take (i := 5) (v := ?_) (by simp only [List.getElem?_toArray, List.getElem?_cons_succ, List.getElem?_cons_zero]; rfl) (by kernel_rfl) (by kernel_rfl) (by kernel_rfl) (by exact fun _ _ _ h => h) (Or.inl ⟨by rfl, ?_⟩) (by assumption) ?_
    rotate_left 1
    · ((intro w hSw; (try dsimp only at hSw); obtain ⟨hx, hy⟩ := hSw; have x0 := cell_at (j := 0) hx rfl; have x1 := cell_at (j := 1) hx rfl; have x2 := cell_at (j := 2) hx rfl; have x3 := cell_at (j := 3) hx rfl; have x4 := cell_at (j := 4) hx rfl; have x5 := cell_at (j := 5) hx rfl; have x6 := cell_at (j := 6) hx rfl; have x7 := cell_at (j := 7) hx rfl; have y0 := cell_at (j := 0) hy rfl; have y1 := cell_at (j := 1) hy rfl; have y2 := cell_at (j := 2) hy rfl; have y3 := cell_at (j := 3) hy rfl; have y4 := cell_at (j := 4) hy rfl; have y5 := cell_at (j := 5) hy rfl; have y6 := cell_at (j := 6) hy rfl; have y7 := cell_at (j := 7) hy rfl; clear hx hy; go_simp) <;> with_reducible rfl)
    try simp only [Act.put, List.setIfInBounds_toArray, List.set_cons_zero, List.set_cons_succ]
    refine wpAnyH_ready (rs := [2, 3]) (by kernel_rfl) (by simp) ?_
    refine AllReadyH.cons rfl (fun K hK => ?_) (AllReadyH.cons rfl (fun K hK => ?_) AllReadyH.nil)
    all_goals go_simp
    · replace hB : Below W6.heap.size W6 (W6.alloc (.cells #[.string ⟨#[97]⟩, .int .i64 1, .string ⟨#[98]⟩, .int .i64 3] 58)).drew := ((bl W6).al _).dr
      have hlp := Nat.le_refl W6.heap.size
      have hp : (W6.alloc (.cells #[.string ⟨#[97]⟩, .int .i64 1, .string ⟨#[98]⟩, .int .i64 3] 58)).drew.heap[W6.heap.size]? = some (.cells #[.string ⟨#[97]⟩, .int .i64 1, .string ⟨#[98]⟩, .int .i64 3] 58 (0, 0)) := heap_alloc_new W6 _
      refine hK.out _ _ (HSB.out _ hB) (fun hHeld => ?_)
      clear hK K
      try simp only [Act.put, List.setIfInBounds_toArray, List.set_cons_zero, List.set_cons_succ]
      refine wpAnyH_ready (rs := [3]) (by kernel_rfl) (by simp) ?_
      refine AllReadyH.cons rfl (fun K hK => ?_) AllReadyH.nil
      go_simp
      refine (HS.out _ _ _ _ _).mono ?_
      rintro r wA ⟨rfl, hb3⟩
      replace hB := hB.tr hb3
      try replace hp := (hb3.block _ (Array.getElem?_eq_some_iff.1 hp).1).trans hp
      clear hb3
      refine hK.out _ _ (HSB.out _ hB) (fun hHeld => ?_)
      clear hK K
      try simp only [Act.put, List.setIfInBounds_toArray, List.set_cons_zero, List.set_cons_succ]
      refine wpAnyH_ready (rs := [6]) (by kernel_rfl) (by simp) ?_
      refine AllReadyH.cons rfl (fun K hK => ?_) AllReadyH.nil
      go_simp
      refine (HS.out _ _ _ _ _).mono ?_
      rintro r wB ⟨rfl, hb3⟩
      replace hB := hB.tr hb3
      try replace hp := (hb3.block _ (Array.getElem?_eq_some_iff.1 hp).1).trans hp
      clear hb3
      refine hK.out _ _ (HSB.out _ hB) (fun hHeld => ?_)
      clear hK K
      try simp only [Act.put, List.setIfInBounds_toArray, List.set_cons_zero, List.set_cons_succ]
      refine wpAnyH_ready (rs := [7]) (by kernel_rfl) (by simp) ?_
      refine AllReadyH.cons rfl (fun K hK => ?_) AllReadyH.nil
      go_simp
      refine (HV.out _ _).mono ?_
      rintro r wC ⟨rfl, hb3⟩
      replace hB := hB.tr hb3
      try replace hp := (hb3.block _ (Array.getElem?_eq_some_iff.1 hp).1).trans hp
      clear hb3
      refine hK.out _ _ (HSB.out _ hB) (fun hHeld => ?_)
      clear hK K
      try simp only [Act.put, List.setIfInBounds_toArray, List.set_cons_zero, List.set_cons_succ]
      refine wpAnyH_ready (rs := [8]) (by kernel_rfl) (by simp) ?_
      refine AllReadyH.cons rfl (fun K hK => ?_) AllReadyH.nil
      go_simp
      refine (HWI.out _ hB).mono ?_
      rintro r wD ⟨⟨nd, rfl, hrow⟩, hb3⟩
      replace hB := hB.tr hb3
      try replace hp := (hb3.block _ (Array.getElem?_eq_some_iff.1 hp).1).trans hp
      clear hb3
      refine hK.out _ _ (HSB.out _ hB) (fun hHeld => ?_)
      clear hK K
      try simp only [Act.put, List.setIfInBounds_toArray, List.set_cons_zero, List.set_cons_succ]
      refine wpAnyH_ready (rs := [9]) (by kernel_rfl) (by simp) ?_
      refine AllReadyH.cons rfl (fun K hK => ?_) AllReadyH.nil
      go_simp
      have hlq := hB.size
      have hq := heap_alloc_new wD (.cells #[.int .i64 1, .int .i64 0, .string ⟨#[99]⟩, .int .i64 1, .string ⟨#[]⟩, .slice none 0 0, .slice none 0 0, .slice none 0 0, .int .i64 9, .int .i64 1, .string ⟨#[]⟩, .int .i64 0, .string ⟨#[]⟩, .slice (some ⟨na, 0, none⟩) 1 1, .slice (some ⟨kb, 0, none⟩) 2 2, .slice (some ⟨ke, 0, none⟩) 1 1, .int .i64 10, .int .i64 5, .string ⟨#[]⟩, .int .i64 0, .string ⟨#[]⟩, .slice (some ⟨kc, 0, none⟩) 1 1, .slice (some ⟨kg, 0, none⟩) 2 2, .slice none 0 0, .int .i64 6, .int .i64 8, .string ⟨#[]⟩, .int .i64 0, .string ⟨#[]⟩, .slice (some ⟨nd, 0, none⟩) 1 1, .slice none 0 0, .slice none 0 0] 62)
      try have hlt9 := (Array.getElem?_eq_some_iff.1 hp).1
      try replace hp := (Below.heap_alloc wD (.cells #[.int .i64 1, .int .i64 0, .string ⟨#[99]⟩, .int .i64 1, .string ⟨#[]⟩, .slice none 0 0, .slice none 0 0, .slice none 0 0, .int .i64 9, .int .i64 1, .string ⟨#[]⟩, .int .i64 0, .string ⟨#[]⟩, .slice (some ⟨na, 0, none⟩) 1 1, .slice (some ⟨kb, 0, none⟩) 2 2, .slice (some ⟨ke, 0, none⟩) 1 1, .int .i64 10, .int .i64 5, .string ⟨#[]⟩, .int .i64 0, .string ⟨#[]⟩, .slice (some ⟨kc, 0, none⟩) 1 1, .slice (some ⟨kg, 0, none⟩) 2 2, .slice none 0 0, .int .i64 6, .int .i64 8, .string ⟨#[]⟩, .int .i64 0, .string ⟨#[]⟩, .slice (some ⟨nd, 0, none⟩) 1 1, .slice none 0 0, .slice none 0 0] 62) _ (Array.getElem?_eq_some_iff.1 hp).1).trans hp
      replace hrow := hrow.has (has_one ((bl wD).al (.cells #[.int .i64 1, .int .i64 0, .string ⟨#[99]⟩, .int .i64 1, .string ⟨#[]⟩, .slice none 0 0, .slice none 0 0, .slice none 0 0, .int .i64 9, .int .i64 1, .string ⟨#[]⟩, .int .i64 0, .string ⟨#[]⟩, .slice (some ⟨na, 0, none⟩) 1 1, .slice (some ⟨kb, 0, none⟩) 2 2, .slice (some ⟨ke, 0, none⟩) 1 1, .int .i64 10, .int .i64 5, .string ⟨#[]⟩, .int .i64 0, .string ⟨#[]⟩, .slice (some ⟨kc, 0, none⟩) 1 1, .slice (some ⟨kg, 0, none⟩) 2 2, .slice none 0 0, .int .i64 6, .int .i64 8, .string ⟨#[]⟩, .int .i64 0, .string ⟨#[]⟩, .slice (some ⟨nd, 0, none⟩) 1 1, .slice none 0 0, .slice none 0 0] 62)) _ (Nat.le_refl _))
      replace hB := hB.al (.cells #[.int .i64 1, .int .i64 0, .string ⟨#[99]⟩, .int .i64 1, .string ⟨#[]⟩, .slice none 0 0, .slice none 0 0, .slice none 0 0, .int .i64 9, .int .i64 1, .string ⟨#[]⟩, .int .i64 0, .string ⟨#[]⟩, .slice (some ⟨na, 0, none⟩) 1 1, .slice (some ⟨kb, 0, none⟩) 2 2, .slice (some ⟨ke, 0, none⟩) 1 1, .int .i64 10, .int .i64 5, .string ⟨#[]⟩, .int .i64 0, .string ⟨#[]⟩, .slice (some ⟨kc, 0, none⟩) 1 1, .slice (some ⟨kg, 0, none⟩) 2 2, .slice none 0 0, .int .i64 6, .int .i64 8, .string ⟨#[]⟩, .int .i64 0, .string ⟨#[]⟩, .slice (some ⟨nd, 0, none⟩) 1 1, .slice none 0 0, .slice none 0 0] 62)
      refine hK.out _ _ (HSB.out _ hB) (fun hHeld => ?_)
      clear hK K
      try simp only [Act.put, List.setIfInBounds_toArray, List.set_cons_zero, List.set_cons_succ]
      refine wpAnyH_gen (R := fun W => F7 W6 [m, n, w.heap.size] W _ _ nd na kb ke kc kg) ⟨hB, hp, hlp, hq, hlq, hrow, by omega⟩ ?_
      intro Wf hF
      have hB := hF.b
      have hz := HBB.out Wf hB
      have hS := HSB.out Wf hB
      have HF := hide hF
      have z0 := cell_at (j := 0) hz rfl
      have z1 := cell_at (j := 1) hz rfl
      have z2 := cell_at (j := 2) hz rfl
      have z3 := cell_at (j := 3) hz rfl
      have z4 := cell_at (j := 4) hz rfl
      have y0 := free_at (j := 0) hz
      have y1 := free_at (j := 1) hz
      have y2 := free_at (j := 2) hz
      have y3 := free_at (j := 3) hz
      have y4 := free_at (j := 4) hz
      have hzl := (Array.getElem?_eq_some_iff.1 hz).1
      have HZ := hide hz
      clear hF hB hz hp hq hrow
      refine wpAnyH_take (i := 10) (v := ?_) (by simp only [List.getElem?_toArray, List.getElem?_cons_succ, List.getElem?_cons_zero]; rfl) (by kernel_rfl) (by kernel_rfl) (by kernel_rfl) (by exact fun _ _ _ h => h) (Or.inl ⟨by rfl, ?_⟩) (by assumption) ?_
      rotate_left 1
      · ((intro w hSw; (try dsimp only at hSw); go_simp) <;> with_reducible rfl)
      try simp only [Act.put, List.setIfInBounds_toArray, List.set_cons_zero, List.set_cons_succ]
      refine wpAnyH_ready (rs := [11]) (by kernel_rfl) (by simp) ?_
      refine AllReadyH.cons rfl (fun K hK => ?_) AllReadyH.nil
      go_simp
      have hk5 := hide ((((((Kept.refl [w.heap.size] Wf).set (g := w.heap.size) (.inl (by simp)) 0 (.string ⟨#[102]⟩)).set (g := w.heap.size) (.inl (by simp)) 1 (.slice (some ⟨W6.heap.size, 0, none⟩) 2 2)).set (g := w.heap.size) (.inl (by simp)) 2 (.int .i64 0)).set (g := w.heap.size) (.inl (by simp)) 3 (.slice (some ⟨wD.heap.size, 0, none⟩) 4 4)).set (g := w.heap.size) (.inl (by simp)) 4 (.int .i64 9))
      have h5 := hide (heap_set (i := 4) (heap_set (i := 3) (heap_set (i := 2) (heap_set (i := 1) (heap_set (i := 0) HZ.out (.string ⟨#[102]⟩)) (.slice (some ⟨W6.heap.size, 0, none⟩) 2 2)) (.int .i64 0)) (.slice (some ⟨wD.heap.size, 0, none⟩) 4 4)) (.int .i64 9))
      have HFF := hide (HFIN.out _ _ _ _ _ HF.out hk5.out)
      have hs8 := hide (And.intro (hk5.out.heap (by rw [List.mem_singleton]; omega) hS.1) (hk5.out.heap (by rw [List.mem_singleton]; omega) hS.2))
      clear hS z0 z1 z2 z3 z4 y0 y1 y2 y3 y4
      refine hK.out _ _ ?_ (fun hHeld => ?_)
      · exact hs8.out
      clear hK K
      try simp only [Act.put, List.setIfInBounds_toArray, List.set_cons_zero, List.set_cons_succ]
      refine wpAnyH_done (by kernel_rfl) ?_ _
      go_wp2_with fail
      have e0 := cell_at (j := 0) h5.out rfl
      have e1 := cell_at (j := 1) h5.out rfl
      have e2 := cell_at (j := 2) h5.out rfl
      have e3 := cell_at (j := 3) h5.out rfl
      have e4 := cell_at (j := 4) h5.out rfl
      refine bodyPost_ret (v := .agg #[.string ⟨#[102]⟩, .slice (some ⟨W6.heap.size, 0, none⟩) 2 2, .int .i64 0, .slice (some ⟨wD.heap.size, 0, none⟩) 4 4, .int .i64 9]) ?_ rfl HFF.out
      simp [results, Tryd.results25, go_sem, e0, e1, e2, e3, e4]
    · refine (HS.out _ _ _ _ _).mono ?_
      rintro r wA ⟨rfl, hb3⟩
      replace hB := hB.tr hb3
      try replace hp := (hb3.block _ (Array.getElem?_eq_some_iff.1 hp).1).trans hp
      clear hb3
      refine hK.out _ _ (HSB.out _ hB) (fun hHeld => ?_)
      clear hK K
      try simp only [Act.put, List.setIfInBounds_toArray, List.set_cons_zero, List.set_cons_succ]
      refine wpAnyH_ready (rs := [2, 6]) (by kernel_rfl) (by simp) ?_
      refine AllReadyH.cons rfl (fun K hK => ?_) (AllReadyH.cons rfl (fun K hK => ?_) AllReadyH.nil)
      all_goals go_simp
      · have hlp := hB.size
        have hp := heap_alloc_new wA (.cells #[.string ⟨#[97]⟩, .int .i64 1, .string ⟨#[98]⟩, .int .i64 3] 58)
        try have hrow' := hrow.has (has_av_below ((bl wA).al (.cells #[.string ⟨#[97]⟩, .int .i64 1, .string ⟨#[98]⟩, .int .i64 3] 58)))
        try clear hrow
        try have hrow := hrow'
        try clear hrow'
        replace hB := hB.al (.cells #[.string ⟨#[97]⟩, .int .i64 1, .string ⟨#[98]⟩, .int .i64 3] 58)
        refine hK.out _ _ (HSB.out _ hB) (fun hHeld => ?_)
        clear hK K
        try simp only [Act.put, List.setIfInBounds_toArray, List.set_cons_zero, List.set_cons_succ]
        refine wpAnyH_ready (rs := [6]) (by kernel_rfl) (by simp) ?_
        refine AllReadyH.cons rfl (fun K hK => ?_) AllReadyH.nil
        go_simp
        refine (HS.out _ _ _ _ _).mono ?_
        rintro r wB ⟨rfl, hb3⟩
        replace hB := hB.tr hb3
        try replace hp := (hb3.block _ (Array.getElem?_eq_some_iff.1 hp).1).trans hp
        clear hb3
        refine hK.out _ _ (HSB.out _ hB) (fun hHeld => ?_)
        clear hK K
        try simp only [Act.put, List.setIfInBounds_toArray, List.set_cons_zero, List.set_cons_succ]
        refine wpAnyH_ready (rs := [7]) (by kernel_rfl) (by simp) ?_
        refine AllReadyH.cons rfl (fun K hK => ?_) AllReadyH.nil
        go_simp
        refine (HV.out _ _).mono ?_
        rintro r wC ⟨rfl, hb3⟩
        replace hB := hB.tr hb3
        try replace hp := (hb3.block _ (Array.getElem?_eq_some_iff.1 hp).1).trans hp
        clear hb3
        refine hK.out _ _ (HSB.out _ hB) (fun hHeld => ?_)
        clear hK K
        try simp only [Act.put, List.setIfInBounds_toArray, List.set_cons_zero, List.set_cons_succ]
        refine wpAnyH_ready (rs := [8]) (by kernel_rfl) (by simp) ?_
        refine AllReadyH.cons rfl (fun K hK => ?_) AllReadyH.nil
        go_simp
        refine (HWI.out _ hB).mono ?_
        rintro r wD ⟨⟨nd, rfl, hrow⟩, hb3⟩
        replace hB := hB.tr hb3
        try replace hp := (hb3.block _ (Array.getElem?_eq_some_iff.1 hp).1).trans hp
        clear hb3
        refine hK.out _ _ (HSB.out _ hB) (fun hHeld => ?_)
        clear hK K
        try simp only [Act.put, List.setIfInBounds_toArray, List.set_cons_zero, List.set_cons_succ]
        refine wpAnyH_ready (rs := [9]) (by kernel_rfl) (by simp) ?_
        refine AllReadyH.cons rfl (fun K hK => ?_) AllReadyH.nil
        go_simp
        have hlq := hB.size
        have hq := heap_alloc_new wD (.cells #[.int .i64 1, .int .i64 0, .string ⟨#[99]⟩, .int .i64 1, .string ⟨#[]⟩, .slice none 0 0, .slice none 0 0, .slice none 0 0, .int .i64 9, .int .i64 1, .string ⟨#[]⟩, .int .i64 0, .string ⟨#[]⟩, .slice (some ⟨na, 0, none⟩) 1 1, .slice (some ⟨kb, 0, none⟩) 2 2, .slice (some ⟨ke, 0, none⟩) 1 1, .int .i64 10, .int .i64 5, .string ⟨#[]⟩, .int .i64 0, .string ⟨#[]⟩, .slice (some ⟨kc, 0, none⟩) 1 1, .slice (some ⟨kg, 0, none⟩) 2 2, .slice none 0 0, .int .i64 6, .int .i64 8, .string ⟨#[]⟩, .int .i64 0, .string ⟨#[]⟩, .slice (some ⟨nd, 0, none⟩) 1 1, .slice none 0 0, .slice none 0 0] 62)
        try have hlt9 := (Array.getElem?_eq_some_iff.1 hp).1
        try replace hp := (Below.heap_alloc wD (.cells #[.int .i64 1, .int .i64 0, .string ⟨#[99]⟩, .int .i64 1, .string ⟨#[]⟩, .slice none 0 0, .slice none 0 0, .slice none 0 0, .int .i64 9, .int .i64 1, .string ⟨#[]⟩, .int .i64 0, .string ⟨#[]⟩, .slice (some ⟨na, 0, none⟩) 1 1, .slice (some ⟨kb, 0, none⟩) 2 2, .slice (some ⟨ke, 0, none⟩) 1 1, .int .i64 10, .int .i64 5, .string ⟨#[]⟩, .int .i64 0, .string ⟨#[]⟩, .slice (some ⟨kc, 0, none⟩) 1 1, .slice (some ⟨kg, 0, none⟩) 2 2, .slice none 0 0, .int .i64 6, .int .i64 8, .string ⟨#[]⟩, .int .i64 0, .string ⟨#[]⟩, .slice (some ⟨nd, 0, none⟩) 1 1, .slice none 0 0, .slice none 0 0] 62) _ (Array.getElem?_eq_some_iff.1 hp).1).trans hp
        replace hrow := hrow.has (has_one ((bl wD).al (.cells #[.int .i64 1, .int .i64 0, .string ⟨#[99]⟩, .int .i64 1, .string ⟨#[]⟩, .slice none 0 0, .slice none 0 0, .slice none 0 0, .int .i64 9, .int .i64 1, .string ⟨#[]⟩, .int .i64 0, .string ⟨#[]⟩, .slice (some ⟨na, 0, none⟩) 1 1, .slice (some ⟨kb, 0, none⟩) 2 2, .slice (some ⟨ke, 0, none⟩) 1 1, .int .i64 10, .int .i64 5, .string ⟨#[]⟩, .int .i64 0, .string ⟨#[]⟩, .slice (some ⟨kc, 0, none⟩) 1 1, .slice (some ⟨kg, 0, none⟩) 2 2, .slice none 0 0, .int .i64 6, .int .i64 8, .string ⟨#[]⟩, .int .i64 0, .string ⟨#[]⟩, .slice (some ⟨nd, 0, none⟩) 1 1, .slice none 0 0, .slice none 0 0] 62)) _ (Nat.le_refl _))
        replace hB := hB.al (.cells #[.int .i64 1, .int .i64 0, .string ⟨#[99]⟩, .int .i64 1, .string ⟨#[]⟩, .slice none 0 0, .slice none 0 0, .slice none 0 0, .int .i64 9, .int .i64 1, .string ⟨#[]⟩, .int .i64 0, .string ⟨#[]⟩, .slice (some ⟨na, 0, none⟩) 1 1, .slice (some ⟨kb, 0, none⟩) 2 2, .slice (some ⟨ke, 0, none⟩) 1 1, .int .i64 10, .int .i64 5, .string ⟨#[]⟩, .int .i64 0, .string ⟨#[]⟩, .slice (some ⟨kc, 0, none⟩) 1 1, .slice (some ⟨kg, 0, none⟩) 2 2, .slice none 0 0, .int .i64 6, .int .i64 8, .string ⟨#[]⟩, .int .i64 0, .string ⟨#[]⟩, .slice (some ⟨nd, 0, none⟩) 1 1, .slice none 0 0, .slice none 0 0] 62)
        refine hK.out _ _ (HSB.out _ hB) (fun hHeld => ?_)
        clear hK K
        try simp only [Act.put, List.setIfInBounds_toArray, List.set_cons_zero, List.set_cons_succ]
        refine wpAnyH_gen (R := fun W => F7 W6 [m, n, w.heap.size] W _ _ nd na kb ke kc kg) ⟨hB, hp, hlp, hq, hlq, hrow, by omega⟩ ?_
        intro Wf hF
        have hB := hF.b
        have hz := HBB.out Wf hB
        have hS := HSB.out Wf hB
        have HF := hide hF
        have z0 := cell_at (j := 0) hz rfl
        have z1 := cell_at (j := 1) hz rfl
        have z2 := cell_at (j := 2) hz rfl
        have z3 := cell_at (j := 3) hz rfl
        have z4 := cell_at (j := 4) hz rfl
        have y0 := free_at (j := 0) hz
        have y1 := free_at (j := 1) hz
        have y2 := free_at (j := 2) hz
        have y3 := free_at (j := 3) hz
        have y4 := free_at (j := 4) hz
        have hzl := (Array.getElem?_eq_some_iff.1 hz).1
        have HZ := hide hz
        clear hF hB hz hp hq hrow
        refine wpAnyH_take (i := 10) (v := ?_) (by simp only [List.getElem?_toArray, List.getElem?_cons_succ, List.getElem?_cons_zero]; rfl) (by kernel_rfl) (by kernel_rfl) (by kernel_rfl) (by exact fun _ _ _ h => h) (Or.inl ⟨by rfl, ?_⟩) (by assumption) ?_
        rotate_left 1
        · ((intro w hSw; (try dsimp only at hSw); go_simp) <;> with_reducible rfl)
        try simp only [Act.put, List.setIfInBounds_toArray, List.set_cons_zero, List.set_cons_succ]
        refine wpAnyH_ready (rs := [11]) (by kernel_rfl) (by simp) ?_
        refine AllReadyH.cons rfl (fun K hK => ?_) AllReadyH.nil
        go_simp
        have hk5 := hide ((((((Kept.refl [w.heap.size] Wf).set (g := w.heap.size) (.inl (by simp)) 0 (.string ⟨#[102]⟩)).set (g := w.heap.size) (.inl (by simp)) 1 (.slice (some ⟨wA.heap.size, 0, none⟩) 2 2)).set (g := w.heap.size) (.inl (by simp)) 2 (.int .i64 0)).set (g := w.heap.size) (.inl (by simp)) 3 (.slice (some ⟨wD.heap.size, 0, none⟩) 4 4)).set (g := w.heap.size) (.inl (by simp)) 4 (.int .i64 9))
        have h5 := hide (heap_set (i := 4) (heap_set (i := 3) (heap_set (i := 2) (heap_set (i := 1) (heap_set (i := 0) HZ.out (.string ⟨#[102]⟩)) (.slice (some ⟨wA.heap.size, 0, none⟩) 2 2)) (.int .i64 0)) (.slice (some ⟨wD.heap.size, 0, none⟩) 4 4)) (.int .i64 9))
        have HFF := hide (HFIN.out _ _ _ _ _ HF.out hk5.out)
        have hs8 := hide (And.intro (hk5.out.heap (by rw [List.mem_singleton]; omega) hS.1) (hk5.out.heap (by rw [List.mem_singleton]; omega) hS.2))
        clear hS z0 z1 z2 z3 z4 y0 y1 y2 y3 y4
        refine hK.out _ _ ?_ (fun hHeld => ?_)
        · exact hs8.out
        clear hK K
        try simp only [Act.put, List.setIfInBounds_toArray, List.set_cons_zero, List.set_cons_succ]
        refine wpAnyH_done (by kernel_rfl) ?_ _
        go_wp2_with fail
        have e0 := cell_at (j := 0) h5.out rfl
        have e1 := cell_at (j := 1) h5.out rfl
        have e2 := cell_at (j := 2) h5.out rfl
        have e3 := cell_at (j := 3) h5.out rfl
        have e4 := cell_at (j := 4) h5.out rfl
        refine bodyPost_ret (v := .agg #[.string ⟨#[102]⟩, .slice (some ⟨wA.heap.size, 0, none⟩) 2 2, .int .i64 0, .slice (some ⟨wD.heap.size, 0, none⟩) 4 4, .int .i64 9]) ?_ rfl HFF.out
        simp [results, Tryd.results25, go_sem, e0, e1, e2, e3, e4]
      · refine (HS.out _ _ _ _ _).mono ?_
        rintro r wB ⟨rfl, hb3⟩
        replace hB := hB.tr hb3
        try replace hp := (hb3.block _ (Array.getElem?_eq_some_iff.1 hp).1).trans hp
        clear hb3
        refine hK.out _ _ (HSB.out _ hB) (fun hHeld => ?_)
        clear hK K
        try simp only [Act.put, List.setIfInBounds_toArray, List.set_cons_zero, List.set_cons_succ]
        refine wpAnyH_ready (rs := [2, 7]) (by kernel_rfl) (by simp) ?_
        refine AllReadyH.cons rfl (fun K hK => ?_) (AllReadyH.cons rfl (fun K hK => ?_) AllReadyH.nil)
        all_goals go_simp
        · have hlp := hB.size
          have hp := heap_alloc_new wB (.cells #[.string ⟨#[97]⟩, .int .i64 1, .string ⟨#[98]⟩, .int .i64 3] 58)
          try have hrow' := hrow.has (has_av_below ((bl wB).al (.cells #[.string ⟨#[97]⟩, .int .i64 1, .string ⟨#[98]⟩, .int .i64 3] 58)))
          try clear hrow
          try have hrow := hrow'
          try clear hrow'
          replace hB := hB.al (.cells #[.string ⟨#[97]⟩, .int .i64 1, .string ⟨#[98]⟩, .int .i64 3] 58)
          refine hK.out _ _ (HSB.out _ hB) (fun hHeld => ?_)
          clear hK K
          try simp only [Act.put, List.setIfInBounds_toArray, List.set_cons_zero, List.set_cons_succ]
          refine wpAnyH_ready (rs := [7]) (by kernel_rfl) (by simp) ?_
          refine AllReadyH.cons rfl (fun K hK => ?_) AllReadyH.nil
          go_simp
          refine (HV.out _ _).mono ?_
          rintro r wC ⟨rfl, hb3⟩
          replace hB := hB.tr hb3
          try replace hp := (hb3.block _ (Array.getElem?_eq_some_iff.1 hp).1).trans hp
          clear hb3
          refine hK.out _ _ (HSB.out _ hB) (fun hHeld => ?_)
          clear hK K
          try simp only [Act.put, List.setIfInBounds_toArray, List.set_cons_zero, List.set_cons_succ]
          refine wpAnyH_ready (rs := [8]) (by kernel_rfl) (by simp) ?_
          refine AllReadyH.cons rfl (fun K hK => ?_) AllReadyH.nil
          go_simp
          refine (HWI.out _ hB).mono ?_
          rintro r wD ⟨⟨nd, rfl, hrow⟩, hb3⟩
          replace hB := hB.tr hb3
          try replace hp := (hb3.block _ (Array.getElem?_eq_some_iff.1 hp).1).trans hp
          clear hb3
          refine hK.out _ _ (HSB.out _ hB) (fun hHeld => ?_)
          clear hK K
          try simp only [Act.put, List.setIfInBounds_toArray, List.set_cons_zero, List.set_cons_succ]
          refine wpAnyH_ready (rs := [9]) (by kernel_rfl) (by simp) ?_
          refine AllReadyH.cons rfl (fun K hK => ?_) AllReadyH.nil
          go_simp
          have hlq := hB.size
          have hq := heap_alloc_new wD (.cells #[.int .i64 1, .int .i64 0, .string ⟨#[99]⟩, .int .i64 1, .string ⟨#[]⟩, .slice none 0 0, .slice none 0 0, .slice none 0 0, .int .i64 9, .int .i64 1, .string ⟨#[]⟩, .int .i64 0, .string ⟨#[]⟩, .slice (some ⟨na, 0, none⟩) 1 1, .slice (some ⟨kb, 0, none⟩) 2 2, .slice (some ⟨ke, 0, none⟩) 1 1, .int .i64 10, .int .i64 5, .string ⟨#[]⟩, .int .i64 0, .string ⟨#[]⟩, .slice (some ⟨kc, 0, none⟩) 1 1, .slice (some ⟨kg, 0, none⟩) 2 2, .slice none 0 0, .int .i64 6, .int .i64 8, .string ⟨#[]⟩, .int .i64 0, .string ⟨#[]⟩, .slice (some ⟨nd, 0, none⟩) 1 1, .slice none 0 0, .slice none 0 0] 62)
          try have hlt9 := (Array.getElem?_eq_some_iff.1 hp).1
          try replace hp := (Below.heap_alloc wD (.cells #[.int .i64 1, .int .i64 0, .string ⟨#[99]⟩, .int .i64 1, .string ⟨#[]⟩, .slice none 0 0, .slice none 0 0, .slice none 0 0, .int .i64 9, .int .i64 1, .string ⟨#[]⟩, .int .i64 0, .string ⟨#[]⟩, .slice (some ⟨na, 0, none⟩) 1 1, .slice (some ⟨kb, 0, none⟩) 2 2, .slice (some ⟨ke, 0, none⟩) 1 1, .int .i64 10, .int .i64 5, .string ⟨#[]⟩, .int .i64 0, .string ⟨#[]⟩, .slice (some ⟨kc, 0, none⟩) 1 1, .slice (some ⟨kg, 0, none⟩) 2 2, .slice none 0 0, .int .i64 6, .int .i64 8, .string ⟨#[]⟩, .int .i64 0, .string ⟨#[]⟩, .slice (some ⟨nd, 0, none⟩) 1 1, .slice none 0 0, .slice none 0 0] 62) _ (Array.getElem?_eq_some_iff.1 hp).1).trans hp
          replace hrow := hrow.has (has_one ((bl wD).al (.cells #[.int .i64 1, .int .i64 0, .string ⟨#[99]⟩, .int .i64 1, .string ⟨#[]⟩, .slice none 0 0, .slice none 0 0, .slice none 0 0, .int .i64 9, .int .i64 1, .string ⟨#[]⟩, .int .i64 0, .string ⟨#[]⟩, .slice (some ⟨na, 0, none⟩) 1 1, .slice (some ⟨kb, 0, none⟩) 2 2, .slice (some ⟨ke, 0, none⟩) 1 1, .int .i64 10, .int .i64 5, .string ⟨#[]⟩, .int .i64 0, .string ⟨#[]⟩, .slice (some ⟨kc, 0, none⟩) 1 1, .slice (some ⟨kg, 0, none⟩) 2 2, .slice none 0 0, .int .i64 6, .int .i64 8, .string ⟨#[]⟩, .int .i64 0, .string ⟨#[]⟩, .slice (some ⟨nd, 0, none⟩) 1 1, .slice none 0 0, .slice none 0 0] 62)) _ (Nat.le_refl _))
          replace hB := hB.al (.cells #[.int .i64 1, .int .i64 0, .string ⟨#[99]⟩, .int .i64 1, .string ⟨#[]⟩, .slice none 0 0, .slice none 0 0, .slice none 0 0, .int .i64 9, .int .i64 1, .string ⟨#[]⟩, .int .i64 0, .string ⟨#[]⟩, .slice (some ⟨na, 0, none⟩) 1 1, .slice (some ⟨kb, 0, none⟩) 2 2, .slice (some ⟨ke, 0, none⟩) 1 1, .int .i64 10, .int .i64 5, .string ⟨#[]⟩, .int .i64 0, .string ⟨#[]⟩, .slice (some ⟨kc, 0, none⟩) 1 1, .slice (some ⟨kg, 0, none⟩) 2 2, .slice none 0 0, .int .i64 6, .int .i64 8, .string ⟨#[]⟩, .int .i64 0, .string ⟨#[]⟩, .slice (some ⟨nd, 0, none⟩) 1 1, .slice none 0 0, .slice none 0 0] 62)
          refine hK.out _ _ (HSB.out _ hB) (fun hHeld => ?_)
          clear hK K
          try simp only [Act.put, List.setIfInBounds_toArray, List.set_cons_zero, List.set_cons_succ]
          refine wpAnyH_gen (R := fun W => F7 W6 [m, n, w.heap.size] W _ _ nd na kb ke kc kg) ⟨hB, hp, hlp, hq, hlq, hrow, by omega⟩ ?_
          intro Wf hF
          have hB := hF.b
          have hz := HBB.out Wf hB
          have hS := HSB.out Wf hB
          have HF := hide hF
          have z0 := cell_at (j := 0) hz rfl
          have z1 := cell_at (j := 1) hz rfl
          have z2 := cell_at (j := 2) hz rfl
          have z3 := cell_at (j := 3) hz rfl
          have z4 := cell_at (j := 4) hz rfl
          have y0 := free_at (j := 0) hz
          have y1 := free_at (j := 1) hz
          have y2 := free_at (j := 2) hz
          have y3 := free_at (j := 3) hz
          have y4 := free_at (j := 4) hz
          have hzl := (Array.getElem?_eq_some_iff.1 hz).1
          have HZ := hide hz
          clear hF hB hz hp hq hrow
          refine wpAnyH_take (i := 10) (v := ?_) (by simp only [List.getElem?_toArray, List.getElem?_cons_succ, List.getElem?_cons_zero]; rfl) (by kernel_rfl) (by kernel_rfl) (by kernel_rfl) (by exact fun _ _ _ h => h) (Or.inl ⟨by rfl, ?_⟩) (by assumption) ?_
          rotate_left 1
          · ((intro w hSw; (try dsimp only at hSw); go_simp) <;> with_reducible rfl)
          try simp only [Act.put, List.setIfInBounds_toArray, List.set_cons_zero, List.set_cons_succ]
          refine wpAnyH_ready (rs := [11]) (by kernel_rfl) (by simp) ?_
          refine AllReadyH.cons rfl (fun K hK => ?_) AllReadyH.nil
          go_simp
          have hk5 := hide ((((((Kept.refl [w.heap.size] Wf).set (g := w.heap.size) (.inl (by simp)) 0 (.string ⟨#[102]⟩)).set (g := w.heap.size) (.inl (by simp)) 1 (.slice (some ⟨wB.heap.size, 0, none⟩) 2 2)).set (g := w.heap.size) (.inl (by simp)) 2 (.int .i64 0)).set (g := w.heap.size) (.inl (by simp)) 3 (.slice (some ⟨wD.heap.size, 0, none⟩) 4 4)).set (g := w.heap.size) (.inl (by simp)) 4 (.int .i64 9))
          have h5 := hide (heap_set (i := 4) (heap_set (i := 3) (heap_set (i := 2) (heap_set (i := 1) (heap_set (i := 0) HZ.out (.string ⟨#[102]⟩)) (.slice (some ⟨wB.heap.size, 0, none⟩) 2 2)) (.int .i64 0)) (.slice (some ⟨wD.heap.size, 0, none⟩) 4 4)) (.int .i64 9))
          have HFF := hide (HFIN.out _ _ _ _ _ HF.out hk5.out)
          have hs8 := hide (And.intro (hk5.out.heap (by rw [List.mem_singleton]; omega) hS.1) (hk5.out.heap (by rw [List.mem_singleton]; omega) hS.2))
          clear hS z0 z1 z2 z3 z4 y0 y1 y2 y3 y4
          refine hK.out _ _ ?_ (fun hHeld => ?_)
          · exact hs8.out
          clear hK K
          try simp only [Act.put, List.setIfInBounds_toArray, List.set_cons_zero, List.set_cons_succ]
          refine wpAnyH_done (by kernel_rfl) ?_ _
          go_wp2_with fail
          have e0 := cell_at (j := 0) h5.out rfl
          have e1 := cell_at (j := 1) h5.out rfl
          have e2 := cell_at (j := 2) h5.out rfl
          have e3 := cell_at (j := 3) h5.out rfl
          have e4 := cell_at (j := 4) h5.out rfl
          refine bodyPost_ret (v := .agg #[.string ⟨#[102]⟩, .slice (some ⟨wB.heap.size, 0, none⟩) 2 2, .int .i64 0, .slice (some ⟨wD.heap.size, 0, none⟩) 4 4, .int .i64 9]) ?_ rfl HFF.out
          simp [results, Tryd.results25, go_sem, e0, e1, e2, e3, e4]
        · refine (HV.out _ _).mono ?_
          rintro r wC ⟨rfl, hb3⟩
          replace hB := hB.tr hb3
          try replace hp := (hb3.block _ (Array.getElem?_eq_some_iff.1 hp).1).trans hp
          clear hb3
          refine hK.out _ _ (HSB.out _ hB) (fun hHeld => ?_)
          clear hK K
          try simp only [Act.put, List.setIfInBounds_toArray, List.set_cons_zero, List.set_cons_succ]
          refine wpAnyH_ready (rs := [2, 8]) (by kernel_rfl) (by simp) ?_
          refine AllReadyH.cons rfl (fun K hK => ?_) (AllReadyH.cons rfl (fun K hK => ?_) AllReadyH.nil)
          all_goals go_simp
          · have hlp := hB.size
            have hp := heap_alloc_new wC (.cells #[.string ⟨#[97]⟩, .int .i64 1, .string ⟨#[98]⟩, .int .i64 3] 58)
            try have hrow' := hrow.has (has_av_below ((bl wC).al (.cells #[.string ⟨#[97]⟩, .int .i64 1, .string ⟨#[98]⟩, .int .i64 3] 58)))
            try clear hrow
            try have hrow := hrow'
            try clear hrow'
            replace hB := hB.al (.cells #[.string ⟨#[97]⟩, .int .i64 1, .string ⟨#[98]⟩, .int .i64 3] 58)
            refine hK.out _ _ (HSB.out _ hB) (fun hHeld => ?_)
            clear hK K
            try simp only [Act.put, List.setIfInBounds_toArray, List.set_cons_zero, List.set_cons_succ]
            refine wpAnyH_ready (rs := [8]) (by kernel_rfl) (by simp) ?_
            refine AllReadyH.cons rfl (fun K hK => ?_) AllReadyH.nil
            go_simp
            refine (HWI.out _ hB).mono ?_
            rintro r wD ⟨⟨nd, rfl, hrow⟩, hb3⟩
            replace hB := hB.tr hb3
            try replace hp := (hb3.block _ (Array.getElem?_eq_some_iff.1 hp).1).trans hp
            clear hb3
            refine hK.out _ _ (HSB.out _ hB) (fun hHeld => ?_)
            clear hK K
            try simp only [Act.put, List.setIfInBounds_toArray, List.set_cons_zero, List.set_cons_succ]
            refine wpAnyH_ready (rs := [9]) (by kernel_rfl) (by simp) ?_
            refine AllReadyH.cons rfl (fun K hK => ?_) AllReadyH.nil
            go_simp
            have hlq := hB.size
            have hq := heap_alloc_new wD (.cells #[.int .i64 1, .int .i64 0, .string ⟨#[99]⟩, .int .i64 1, .string ⟨#[]⟩, .slice none 0 0, .slice none 0 0, .slice none 0 0, .int .i64 9, .int .i64 1, .string ⟨#[]⟩, .int .i64 0, .string ⟨#[]⟩, .slice (some ⟨na, 0, none⟩) 1 1, .slice (some ⟨kb, 0, none⟩) 2 2, .slice (some ⟨ke, 0, none⟩) 1 1, .int .i64 10, .int .i64 5, .string ⟨#[]⟩, .int .i64 0, .string ⟨#[]⟩, .slice (some ⟨kc, 0, none⟩) 1 1, .slice (some ⟨kg, 0, none⟩) 2 2, .slice none 0 0, .int .i64 6, .int .i64 8, .string ⟨#[]⟩, .int .i64 0, .string ⟨#[]⟩, .slice (some ⟨nd, 0, none⟩) 1 1, .slice none 0 0, .slice none 0 0] 62)
            try have hlt9 := (Array.getElem?_eq_some_iff.1 hp).1
            try replace hp := (Below.heap_alloc wD (.cells #[.int .i64 1, .int .i64 0, .string ⟨#[99]⟩, .int .i64 1, .string ⟨#[]⟩, .slice none 0 0, .slice none 0 0, .slice none 0 0, .int .i64 9, .int .i64 1, .string ⟨#[]⟩, .int .i64 0, .string ⟨#[]⟩, .slice (some ⟨na, 0, none⟩) 1 1, .slice (some ⟨kb, 0, none⟩) 2 2, .slice (some ⟨ke, 0, none⟩) 1 1, .int .i64 10, .int .i64 5, .string ⟨#[]⟩, .int .i64 0, .string ⟨#[]⟩, .slice (some ⟨kc, 0, none⟩) 1 1, .slice (some ⟨kg, 0, none⟩) 2 2, .slice none 0 0, .int .i64 6, .int .i64 8, .string ⟨#[]⟩, .int .i64 0, .string ⟨#[]⟩, .slice (some ⟨nd, 0, none⟩) 1 1, .slice none 0 0, .slice none 0 0] 62) _ (Array.getElem?_eq_some_iff.1 hp).1).trans hp
            replace hrow := hrow.has (has_one ((bl wD).al (.cells #[.int .i64 1, .int .i64 0, .string ⟨#[99]⟩, .int .i64 1, .string ⟨#[]⟩, .slice none 0 0, .slice none 0 0, .slice none 0 0, .int .i64 9, .int .i64 1, .string ⟨#[]⟩, .int .i64 0, .string ⟨#[]⟩, .slice (some ⟨na, 0, none⟩) 1 1, .slice (some ⟨kb, 0, none⟩) 2 2, .slice (some ⟨ke, 0, none⟩) 1 1, .int .i64 10, .int .i64 5, .string ⟨#[]⟩, .int .i64 0, .string ⟨#[]⟩, .slice (some ⟨kc, 0, none⟩) 1 1, .slice (some ⟨kg, 0, none⟩) 2 2, .slice none 0 0, .int .i64 6, .int .i64 8, .string ⟨#[]⟩, .int .i64 0, .string ⟨#[]⟩, .slice (some ⟨nd, 0, none⟩) 1 1, .slice none 0 0, .slice none 0 0] 62)) _ (Nat.le_refl _))
            replace hB := hB.al (.cells #[.int .i64 1, .int .i64 0, .string ⟨#[99]⟩, .int .i64 1, .string ⟨#[]⟩, .slice none 0 0, .slice none 0 0, .slice none 0 0, .int .i64 9, .int .i64 1, .string ⟨#[]⟩, .int .i64 0, .string ⟨#[]⟩, .slice (some ⟨na, 0, none⟩) 1 1, .slice (some ⟨kb, 0, none⟩) 2 2, .slice (some ⟨ke, 0, none⟩) 1 1, .int .i64 10, .int .i64 5, .string ⟨#[]⟩, .int .i64 0, .string ⟨#[]⟩, .slice (some ⟨kc, 0, none⟩) 1 1, .slice (some ⟨kg, 0, none⟩) 2 2, .slice none 0 0, .int .i64 6, .int .i64 8, .string ⟨#[]⟩, .int .i64 0, .string ⟨#[]⟩, .slice (some ⟨nd, 0, none⟩) 1 1, .slice none 0 0, .slice none 0 0] 62)
            refine hK.out _ _ (HSB.out _ hB) (fun hHeld => ?_)
            clear hK K
            try simp only [Act.put, List.setIfInBounds_toArray, List.set_cons_zero, List.set_cons_succ]
            refine wpAnyH_gen (R := fun W => F7 W6 [m, n, w.heap.size] W _ _ nd na kb ke kc kg) ⟨hB, hp, hlp, hq, hlq, hrow, by omega⟩ ?_
            intro Wf hF
            have hB := hF.b
            have hz := HBB.out Wf hB
            have hS := HSB.out Wf hB
            have HF := hide hF
            have z0 := cell_at (j := 0) hz rfl
            have z1 := cell_at (j := 1) hz rfl
            have z2 := cell_at (j := 2) hz rfl
            have z3 := cell_at (j := 3) hz rfl
            have z4 := cell_at (j := 4) hz rfl
            have y0 := free_at (j := 0) hz
            have y1 := free_at (j := 1) hz
            have y2 := free_at (j := 2) hz
            have y3 := free_at (j := 3) hz
            have y4 := free_at (j := 4) hz
            have hzl := (Array.getElem?_eq_some_iff.1 hz).1
            have HZ := hide hz
            clear hF hB hz hp hq hrow
            refine wpAnyH_take (i := 10) (v := ?_) (by simp only [List.getElem?_toArray, List.getElem?_cons_succ, List.getElem?_cons_zero]; rfl) (by kernel_rfl) (by kernel_rfl) (by kernel_rfl) (by exact fun _ _ _ h => h) (Or.inl ⟨by rfl, ?_⟩) (by assumption) ?_
            rotate_left 1
            · ((intro w hSw; (try dsimp only at hSw); go_simp) <;> with_reducible rfl)
            try simp only [Act.put, List.setIfInBounds_toArray, List.set_cons_zero, List.set_cons_succ]
            refine wpAnyH_ready (rs := [11]) (by kernel_rfl) (by simp) ?_
            refine AllReadyH.cons rfl (fun K hK => ?_) AllReadyH.nil
            go_simp
            have hk5 := hide ((((((Kept.refl [w.heap.size] Wf).set (g := w.heap.size) (.inl (by simp)) 0 (.string ⟨#[102]⟩)).set (g := w.heap.size) (.inl (by simp)) 1 (.slice (some ⟨wC.heap.size, 0, none⟩) 2 2)).set (g := w.heap.size) (.inl (by simp)) 2 (.int .i64 0)).set (g := w.heap.size) (.inl (by simp)) 3 (.slice (some ⟨wD.heap.size, 0, none⟩) 4 4)).set (g := w.heap.size) (.inl (by simp)) 4 (.int .i64 9))
            have h5 := hide (heap_set (i := 4) (heap_set (i := 3) (heap_set (i := 2) (heap_set (i := 1) (heap_set (i := 0) HZ.out (.string ⟨#[102]⟩)) (.slice (some ⟨wC.heap.size, 0, none⟩) 2 2)) (.int .i64 0)) (.slice (some ⟨wD.heap.size, 0, none⟩) 4 4)) (.int .i64 9))
            have HFF := hide (HFIN.out _ _ _ _ _ HF.out hk5.out)
            have hs8 := hide (And.intro (hk5.out.heap (by rw [List.mem_singleton]; omega) hS.1) (hk5.out.heap (by rw [List.mem_singleton]; omega) hS.2))
            clear hS z0 z1 z2 z3 z4 y0 y1 y2 y3 y4
            refine hK.out _ _ ?_ (fun hHeld => ?_)
            · exact hs8.out
            clear hK K
            try simp only [Act.put, List.setIfInBounds_toArray, List.set_cons_zero, List.set_cons_succ]
            refine wpAnyH_done (by kernel_rfl) ?_ _
            go_wp2_with fail
            have e0 := cell_at (j := 0) h5.out rfl
            have e1 := cell_at (j := 1) h5.out rfl
            have e2 := cell_at (j := 2) h5.out rfl
            have e3 := cell_at (j := 3) h5.out rfl
            have e4 := cell_at (j := 4) h5.out rfl
            refine bodyPost_ret (v := .agg #[.string ⟨#[102]⟩, .slice (some ⟨wC.heap.size, 0, none⟩) 2 2, .int .i64 0, .slice (some ⟨wD.heap.size, 0, none⟩) 4 4, .int .i64 9]) ?_ rfl HFF.out
            simp [results, Tryd.results25, go_sem, e0, e1, e2, e3, e4]
          · refine (HWI.out _ hB).mono ?_
            rintro r wD ⟨⟨nd, rfl, hrow⟩, hb3⟩
            replace hB := hB.tr hb3
            try replace hp := (hb3.block _ (Array.getElem?_eq_some_iff.1 hp).1).trans hp
            clear hb3
            refine hK.out _ _ (HSB.out _ hB) (fun hHeld => ?_)
            clear hK K
            try simp only [Act.put, List.setIfInBounds_toArray, List.set_cons_zero, List.set_cons_succ]
            refine wpAnyH_ready (rs := [2, 9]) (by kernel_rfl) (by simp) ?_
            refine AllReadyH.cons rfl (fun K hK => ?_) (AllReadyH.cons rfl (fun K hK => ?_) AllReadyH.nil)
            all_goals go_simp
            · have hlp := hB.size
              have hp := heap_alloc_new wD (.cells #[.string ⟨#[97]⟩, .int .i64 1, .string ⟨#[98]⟩, .int .i64 3] 58)
              try have hrow' := hrow.has (has_av_below ((bl wD).al (.cells #[.string ⟨#[97]⟩, .int .i64 1, .string ⟨#[98]⟩, .int .i64 3] 58)))
              try clear hrow
              try have hrow := hrow'
              try clear hrow'
              replace hB := hB.al (.cells #[.string ⟨#[97]⟩, .int .i64 1, .string ⟨#[98]⟩, .int .i64 3] 58)
              refine hK.out _ _ (HSB.out _ hB) (fun hHeld => ?_)
              clear hK K
              try simp only [Act.put, List.setIfInBounds_toArray, List.set_cons_zero, List.set_cons_succ]
              refine wpAnyH_ready (rs := [9]) (by kernel_rfl) (by simp) ?_
              refine AllReadyH.cons rfl (fun K hK => ?_) AllReadyH.nil
              go_simp
              have hlq : W6.heap.size ≤ wD.heap.size + 1 := by have := hB.size; simp at this; omega
              have hq : ((wD.alloc (.cells #[.string ⟨#[97]⟩, .int .i64 1, .string ⟨#[98]⟩, .int .i64 3] 58)).alloc (.cells #[.int .i64 1, .int .i64 0, .string ⟨#[99]⟩, .int .i64 1, .string ⟨#[]⟩, .slice none 0 0, .slice none 0 0, .slice none 0 0, .int .i64 9, .int .i64 1, .string ⟨#[]⟩, .int .i64 0, .string ⟨#[]⟩, .slice (some ⟨na, 0, none⟩) 1 1, .slice (some ⟨kb, 0, none⟩) 2 2, .slice (some ⟨ke, 0, none⟩) 1 1, .int .i64 10, .int .i64 5, .string ⟨#[]⟩, .int .i64 0, .string ⟨#[]⟩, .slice (some ⟨kc, 0, none⟩) 1 1, .slice (some ⟨kg, 0, none⟩) 2 2, .slice none 0 0, .int .i64 6, .int .i64 8, .string ⟨#[]⟩, .int .i64 0, .string ⟨#[]⟩, .slice (some ⟨nd, 0, none⟩) 1 1, .slice none 0 0, .slice none 0 0] 62)).heap[wD.heap.size + 1]? = some (.cells #[.int .i64 1, .int .i64 0, .string ⟨#[99]⟩, .int .i64 1, .string ⟨#[]⟩, .slice none 0 0, .slice none 0 0, .slice none 0 0, .int .i64 9, .int .i64 1, .string ⟨#[]⟩, .int .i64 0, .string ⟨#[]⟩, .slice (some ⟨na, 0, none⟩) 1 1, .slice (some ⟨kb, 0, none⟩) 2 2, .slice (some ⟨ke, 0, none⟩) 1 1, .int .i64 10, .int .i64 5, .string ⟨#[]⟩, .int .i64 0, .string ⟨#[]⟩, .slice (some ⟨kc, 0, none⟩) 1 1, .slice (some ⟨kg, 0, none⟩) 2 2, .slice none 0 0, .int .i64 6, .int .i64 8, .string ⟨#[]⟩, .int .i64 0, .string ⟨#[]⟩, .slice (some ⟨nd, 0, none⟩) 1 1, .slice none 0 0, .slice none 0 0] 62 (0, 0)) := by
                have := heap_alloc_new (wD.alloc (.cells #[.string ⟨#[97]⟩, .int .i64 1, .string ⟨#[98]⟩, .int .i64 3] 58)) (.cells #[.int .i64 1, .int .i64 0, .string ⟨#[99]⟩, .int .i64 1, .string ⟨#[]⟩, .slice none 0 0, .slice none 0 0, .slice none 0 0, .int .i64 9, .int .i64 1, .string ⟨#[]⟩, .int .i64 0, .string ⟨#[]⟩, .slice (some ⟨na, 0, none⟩) 1 1, .slice (some ⟨kb, 0, none⟩) 2 2, .slice (some ⟨ke, 0, none⟩) 1 1, .int .i64 10, .int .i64 5, .string ⟨#[]⟩, .int .i64 0, .string ⟨#[]⟩, .slice (some ⟨kc, 0, none⟩) 1 1, .slice (some ⟨kg, 0, none⟩) 2 2, .slice none 0 0, .int .i64 6, .int .i64 8, .string ⟨#[]⟩, .int .i64 0, .string ⟨#[]⟩, .slice (some ⟨nd, 0, none⟩) 1 1, .slice none 0 0, .slice none 0 0] 62)
                rwa [World.size_alloc] at this
              replace hp := (Below.heap_alloc (wD.alloc (.cells #[.string ⟨#[97]⟩, .int .i64 1, .string ⟨#[98]⟩, .int .i64 3] 58)) (.cells #[.int .i64 1, .int .i64 0, .string ⟨#[99]⟩, .int .i64 1, .string ⟨#[]⟩, .slice none 0 0, .slice none 0 0, .slice none 0 0, .int .i64 9, .int .i64 1, .string ⟨#[]⟩, .int .i64 0, .string ⟨#[]⟩, .slice (some ⟨na, 0, none⟩) 1 1, .slice (some ⟨kb, 0, none⟩) 2 2, .slice (some ⟨ke, 0, none⟩) 1 1, .int .i64 10, .int .i64 5, .string ⟨#[]⟩, .int .i64 0, .string ⟨#[]⟩, .slice (some ⟨kc, 0, none⟩) 1 1, .slice (some ⟨kg, 0, none⟩) 2 2, .slice none 0 0, .int .i64 6, .int .i64 8, .string ⟨#[]⟩, .int .i64 0, .string ⟨#[]⟩, .slice (some ⟨nd, 0, none⟩) 1 1, .slice none 0 0, .slice none 0 0] 62) _ (Array.getElem?_eq_some_iff.1 hp).1).trans hp
              replace hrow := hrow.has (has_one ((bl (wD.alloc (.cells #[.string ⟨#[97]⟩, .int .i64 1, .string ⟨#[98]⟩, .int .i64 3] 58))).al (.cells #[.int .i64 1, .int .i64 0, .string ⟨#[99]⟩, .int .i64 1, .string ⟨#[]⟩, .slice none 0 0, .slice none 0 0, .slice none 0 0, .int .i64 9, .int .i64 1, .string ⟨#[]⟩, .int .i64 0, .string ⟨#[]⟩, .slice (some ⟨na, 0, none⟩) 1 1, .slice (some ⟨kb, 0, none⟩) 2 2, .slice (some ⟨ke, 0, none⟩) 1 1, .int .i64 10, .int .i64 5, .string ⟨#[]⟩, .int .i64 0, .string ⟨#[]⟩, .slice (some ⟨kc, 0, none⟩) 1 1, .slice (some ⟨kg, 0, none⟩) 2 2, .slice none 0 0, .int .i64 6, .int .i64 8, .string ⟨#[]⟩, .int .i64 0, .string ⟨#[]⟩, .slice (some ⟨nd, 0, none⟩) 1 1, .slice none 0 0, .slice none 0 0] 62)) (wD.heap.size + 1) (by simp))
              replace hB := hB.al (.cells #[.int .i64 1, .int .i64 0, .string ⟨#[99]⟩, .int .i64 1, .string ⟨#[]⟩, .slice none 0 0, .slice none 0 0, .slice none 0 0, .int .i64 9, .int .i64 1, .string ⟨#[]⟩, .int .i64 0, .string ⟨#[]⟩, .slice (some ⟨na, 0, none⟩) 1 1, .slice (some ⟨kb, 0, none⟩) 2 2, .slice (some ⟨ke, 0, none⟩) 1 1, .int .i64 10, .int .i64 5, .string ⟨#[]⟩, .int .i64 0, .string ⟨#[]⟩, .slice (some ⟨kc, 0, none⟩) 1 1, .slice (some ⟨kg, 0, none⟩) 2 2, .slice none 0 0, .int .i64 6, .int .i64 8, .string ⟨#[]⟩, .int .i64 0, .string ⟨#[]⟩, .slice (some ⟨nd, 0, none⟩) 1 1, .slice none 0 0, .slice none 0 0] 62)
              refine hK.out _ _ (HSB.out _ hB) (fun hHeld => ?_)
              clear hK K
              try simp only [Act.put, List.setIfInBounds_toArray, List.set_cons_zero, List.set_cons_succ]
              refine wpAnyH_gen (R := fun W => F7 W6 [m, n, w.heap.size] W _ _ nd na kb ke kc kg) ⟨hB, hp, hlp, hq, hlq, hrow, by omega⟩ ?_
              intro Wf hF
              have hB := hF.b
              have hz := HBB.out Wf hB
              have hS := HSB.out Wf hB
              have HF := hide hF
              have z0 := cell_at (j := 0) hz rfl
              have z1 := cell_at (j := 1) hz rfl
              have z2 := cell_at (j := 2) hz rfl
              have z3 := cell_at (j := 3) hz rfl
              have z4 := cell_at (j := 4) hz rfl
              have y0 := free_at (j := 0) hz
              have y1 := free_at (j := 1) hz
              have y2 := free_at (j := 2) hz
              have y3 := free_at (j := 3) hz
              have y4 := free_at (j := 4) hz
              have hzl := (Array.getElem?_eq_some_iff.1 hz).1
              have HZ := hide hz
              clear hF hB hz hp hq hrow
              refine wpAnyH_take (i := 10) (v := ?_) (by simp only [List.getElem?_toArray, List.getElem?_cons_succ, List.getElem?_cons_zero]; rfl) (by kernel_rfl) (by kernel_rfl) (by kernel_rfl) (by exact fun _ _ _ h => h) (Or.inl ⟨by rfl, ?_⟩) (by assumption) ?_
              rotate_left 1
              · ((intro w hSw; (try dsimp only at hSw); go_simp) <;> with_reducible rfl)
              try simp only [Act.put, List.setIfInBounds_toArray, List.set_cons_zero, List.set_cons_succ]
              refine wpAnyH_ready (rs := [11]) (by kernel_rfl) (by simp) ?_
              refine AllReadyH.cons rfl (fun K hK => ?_) AllReadyH.nil
              go_simp
              have hk5 := hide ((((((Kept.refl [w.heap.size] Wf).set (g := w.heap.size) (.inl (by simp)) 0 (.string ⟨#[102]⟩)).set (g := w.heap.size) (.inl (by simp)) 1 (.slice (some ⟨wD.heap.size, 0, none⟩) 2 2)).set (g := w.heap.size) (.inl (by simp)) 2 (.int .i64 0)).set (g := w.heap.size) (.inl (by simp)) 3 (.slice (some ⟨wD.heap.size + 1, 0, none⟩) 4 4)).set (g := w.heap.size) (.inl (by simp)) 4 (.int .i64 9))
              have h5 := hide (heap_set (i := 4) (heap_set (i := 3) (heap_set (i := 2) (heap_set (i := 1) (heap_set (i := 0) HZ.out (.string ⟨#[102]⟩)) (.slice (some ⟨wD.heap.size, 0, none⟩) 2 2)) (.int .i64 0)) (.slice (some ⟨wD.heap.size + 1, 0, none⟩) 4 4)) (.int .i64 9))
              have HFF := hide (HFIN.out _ _ _ _ _ HF.out hk5.out)
              have hs8 := hide (And.intro (hk5.out.heap (by rw [List.mem_singleton]; omega) hS.1) (hk5.out.heap (by rw [List.mem_singleton]; omega) hS.2))
              clear hS z0 z1 z2 z3 z4 y0 y1 y2 y3 y4
              refine hK.out _ _ ?_ (fun hHeld => ?_)
              · exact hs8.out
              clear hK K
              try simp only [Act.put, List.setIfInBounds_toArray, List.set_cons_zero, List.set_cons_succ]
              refine wpAnyH_done (by kernel_rfl) ?_ _
              go_wp2_with fail
              have e0 := cell_at (j := 0) h5.out rfl
              have e1 := cell_at (j := 1) h5.out rfl
              have e2 := cell_at (j := 2) h5.out rfl
              have e3 := cell_at (j := 3) h5.out rfl
              have e4 := cell_at (j := 4) h5.out rfl
              refine bodyPost_ret (v := .agg #[.string ⟨#[102]⟩, .slice (some ⟨wD.heap.size, 0, none⟩) 2 2, .int .i64 0, .slice (some ⟨wD.heap.size + 1, 0, none⟩) 4 4, .int .i64 9]) ?_ rfl HFF.out
              simp [results, Tryd.results25, go_sem, e0, e1, e2, e3, e4]
            · have hlq := hB.size
              have hq := heap_alloc_new wD (.cells #[.int .i64 1, .int .i64 0, .string ⟨#[99]⟩, .int .i64 1, .string ⟨#[]⟩, .slice none 0 0, .slice none 0 0, .slice none 0 0, .int .i64 9, .int .i64 1, .string ⟨#[]⟩, .int .i64 0, .string ⟨#[]⟩, .slice (some ⟨na, 0, none⟩) 1 1, .slice (some ⟨kb, 0, none⟩) 2 2, .slice (some ⟨ke, 0, none⟩) 1 1, .int .i64 10, .int .i64 5, .string ⟨#[]⟩, .int .i64 0, .string ⟨#[]⟩, .slice (some ⟨kc, 0, none⟩) 1 1, .slice (some ⟨kg, 0, none⟩) 2 2, .slice none 0 0, .int .i64 6, .int .i64 8, .string ⟨#[]⟩, .int .i64 0, .string ⟨#[]⟩, .slice (some ⟨nd, 0, none⟩) 1 1, .slice none 0 0, .slice none 0 0] 62)
              try have hlt9 := (Array.getElem?_eq_some_iff.1 hp).1
              try replace hp := (Below.heap_alloc wD (.cells #[.int .i64 1, .int .i64 0, .string ⟨#[99]⟩, .int .i64 1, .string ⟨#[]⟩, .slice none 0 0, .slice none 0 0, .slice none 0 0, .int .i64 9, .int .i64 1, .string ⟨#[]⟩, .int .i64 0, .string ⟨#[]⟩, .slice (some ⟨na, 0, none⟩) 1 1, .slice (some ⟨kb, 0, none⟩) 2 2, .slice (some ⟨ke, 0, none⟩) 1 1, .int .i64 10, .int .i64 5, .string ⟨#[]⟩, .int .i64 0, .string ⟨#[]⟩, .slice (some ⟨kc, 0, none⟩) 1 1, .slice (some ⟨kg, 0, none⟩) 2 2, .slice none 0 0, .int .i64 6, .int .i64 8, .string ⟨#[]⟩, .int .i64 0, .string ⟨#[]⟩, .slice (some ⟨nd, 0, none⟩) 1 1, .slice none 0 0, .slice none 0 0] 62) _ (Array.getElem?_eq_some_iff.1 hp).1).trans hp
              replace hrow := hrow.has (has_one ((bl wD).al (.cells #[.int .i64 1, .int .i64 0, .string ⟨#[99]⟩, .int .i64 1, .string ⟨#[]⟩, .slice none 0 0, .slice none 0 0, .slice none 0 0, .int .i64 9, .int .i64 1, .string ⟨#[]⟩, .int .i64 0, .string ⟨#[]⟩, .slice (some ⟨na, 0, none⟩) 1 1, .slice (some ⟨kb, 0, none⟩) 2 2, .slice (some ⟨ke, 0, none⟩) 1 1, .int .i64 10, .int .i64 5, .string ⟨#[]⟩, .int .i64 0, .string ⟨#[]⟩, .slice (some ⟨kc, 0, none⟩) 1 1, .slice (some ⟨kg, 0, none⟩) 2 2, .slice none 0 0, .int .i64 6, .int .i64 8, .string ⟨#[]⟩, .int .i64 0, .string ⟨#[]⟩, .slice (some ⟨nd, 0, none⟩) 1 1, .slice none 0 0, .slice none 0 0] 62)) _ (Nat.le_refl _))
              replace hB := hB.al (.cells #[.int .i64 1, .int .i64 0, .string ⟨#[99]⟩, .int .i64 1, .string ⟨#[]⟩, .slice none 0 0, .slice none 0 0, .slice none 0 0, .int .i64 9, .int .i64 1, .string ⟨#[]⟩, .int .i64 0, .string ⟨#[]⟩, .slice (some ⟨na, 0, none⟩) 1 1, .slice (some ⟨kb, 0, none⟩) 2 2, .slice (some ⟨ke, 0, none⟩) 1 1, .int .i64 10, .int .i64 5, .string ⟨#[]⟩, .int .i64 0, .string ⟨#[]⟩, .slice (some ⟨kc, 0, none⟩) 1 1, .slice (some ⟨kg, 0, none⟩) 2 2, .slice none 0 0, .int .i64 6, .int .i64 8, .string ⟨#[]⟩, .int .i64 0, .string ⟨#[]⟩, .slice (some ⟨nd, 0, none⟩) 1 1, .slice none 0 0, .slice none 0 0] 62)
              refine hK.out _ _ (HSB.out _ hB) (fun hHeld => ?_)
              clear hK K
              try simp only [Act.put, List.setIfInBounds_toArray, List.set_cons_zero, List.set_cons_succ]
              refine wpAnyH_ready (rs := [2]) (by kernel_rfl) (by simp) ?_
              refine AllReadyH.cons rfl (fun K hK => ?_) AllReadyH.nil
              go_simp
              have hlp : W6.heap.size ≤ wD.heap.size + 1 := by have := hB.size; simp at this; omega
              have hp : ((wD.alloc (.cells #[.int .i64 1, .int .i64 0, .string ⟨#[99]⟩, .int .i64 1, .string ⟨#[]⟩, .slice none 0 0, .slice none 0 0, .slice none 0 0, .int .i64 9, .int .i64 1, .string ⟨#[]⟩, .int .i64 0, .string ⟨#[]⟩, .slice (some ⟨na, 0, none⟩) 1 1, .slice (some ⟨kb, 0, none⟩) 2 2, .slice (some ⟨ke, 0, none⟩) 1 1, .int .i64 10, .int .i64 5, .string ⟨#[]⟩, .int .i64 0, .string ⟨#[]⟩, .slice (some ⟨kc, 0, none⟩) 1 1, .slice (some ⟨kg, 0, none⟩) 2 2, .slice none 0 0, .int .i64 6, .int .i64 8, .string ⟨#[]⟩, .int .i64 0, .string ⟨#[]⟩, .slice (some ⟨nd, 0, none⟩) 1 1, .slice none 0 0, .slice none 0 0] 62)).alloc (.cells #[.string ⟨#[97]⟩, .int .i64 1, .string ⟨#[98]⟩, .int .i64 3] 58)).heap[wD.heap.size + 1]? = some (.cells #[.string ⟨#[97]⟩, .int .i64 1, .string ⟨#[98]⟩, .int .i64 3] 58 (0, 0)) := by
                have := heap_alloc_new (wD.alloc (.cells #[.int .i64 1, .int .i64 0, .string ⟨#[99]⟩, .int .i64 1, .string ⟨#[]⟩, .slice none 0 0, .slice none 0 0, .slice none 0 0, .int .i64 9, .int .i64 1, .string ⟨#[]⟩, .int .i64 0, .string ⟨#[]⟩, .slice (some ⟨na, 0, none⟩) 1 1, .slice (some ⟨kb, 0, none⟩) 2 2, .slice (some ⟨ke, 0, none⟩) 1 1, .int .i64 10, .int .i64 5, .string ⟨#[]⟩, .int .i64 0, .string ⟨#[]⟩, .slice (some ⟨kc, 0, none⟩) 1 1, .slice (some ⟨kg, 0, none⟩) 2 2, .slice none 0 0, .int .i64 6, .int .i64 8, .string ⟨#[]⟩, .int .i64 0, .string ⟨#[]⟩, .slice (some ⟨nd, 0, none⟩) 1 1, .slice none 0 0, .slice none 0 0] 62)) (.cells #[.string ⟨#[97]⟩, .int .i64 1, .string ⟨#[98]⟩, .int .i64 3] 58)
                rwa [World.size_alloc] at this
              replace hq := (Below.heap_alloc _ (.cells #[.string ⟨#[97]⟩, .int .i64 1, .string ⟨#[98]⟩, .int .i64 3] 58) _ (Array.getElem?_eq_some_iff.1 hq).1).trans hq
              replace hrow := hrow.has (has_av_below ((bl (wD.alloc (.cells #[.int .i64 1, .int .i64 0, .string ⟨#[99]⟩, .int .i64 1, .string ⟨#[]⟩, .slice none 0 0, .slice none 0 0, .slice none 0 0, .int .i64 9, .int .i64 1, .string ⟨#[]⟩, .int .i64 0, .string ⟨#[]⟩, .slice (some ⟨na, 0, none⟩) 1 1, .slice (some ⟨kb, 0, none⟩) 2 2, .slice (some ⟨ke, 0, none⟩) 1 1, .int .i64 10, .int .i64 5, .string ⟨#[]⟩, .int .i64 0, .string ⟨#[]⟩, .slice (some ⟨kc, 0, none⟩) 1 1, .slice (some ⟨kg, 0, none⟩) 2 2, .slice none 0 0, .int .i64 6, .int .i64 8, .string ⟨#[]⟩, .int .i64 0, .string ⟨#[]⟩, .slice (some ⟨nd, 0, none⟩) 1 1, .slice none 0 0, .slice none 0 0] 62))).al (.cells #[.string ⟨#[97]⟩, .int .i64 1, .string ⟨#[98]⟩, .int .i64 3] 58)))
              replace hB := hB.al (.cells #[.string ⟨#[97]⟩, .int .i64 1, .string ⟨#[98]⟩, .int .i64 3] 58)
              refine hK.out _ _ (HSB.out _ hB) (fun hHeld => ?_)
              clear hK K
              try simp only [Act.put, List.setIfInBounds_toArray, List.set_cons_zero, List.set_cons_succ]
              refine wpAnyH_gen (R := fun W => F7 W6 [m, n, w.heap.size] W _ _ nd na kb ke kc kg) ⟨hB, hp, hlp, hq, hlq, hrow, by omega⟩ ?_
              intro Wf hF
              have hB := hF.b
              have hz := HBB.out Wf hB
              have hS := HSB.out Wf hB
              have HF := hide hF
              have z0 := cell_at (j := 0) hz rfl
              have z1 := cell_at (j := 1) hz rfl
              have z2 := cell_at (j := 2) hz rfl
              have z3 := cell_at (j := 3) hz rfl
              have z4 := cell_at (j := 4) hz rfl
              have y0 := free_at (j := 0) hz
              have y1 := free_at (j := 1) hz
              have y2 := free_at (j := 2) hz
              have y3 := free_at (j := 3) hz
              have y4 := free_at (j := 4) hz
              have hzl := (Array.getElem?_eq_some_iff.1 hz).1
              have HZ := hide hz
              clear hF hB hz hp hq hrow
              refine wpAnyH_take (i := 10) (v := ?_) (by simp only [List.getElem?_toArray, List.getElem?_cons_succ, List.getElem?_cons_zero]; rfl) (by kernel_rfl) (by kernel_rfl) (by kernel_rfl) (by exact fun _ _ _ h => h) (Or.inl ⟨by rfl, ?_⟩) (by assumption) ?_
              rotate_left 1
              · ((intro w hSw; (try dsimp only at hSw); go_simp) <;> with_reducible rfl)
              try simp only [Act.put, List.setIfInBounds_toArray, List.set_cons_zero, List.set_cons_succ]
              refine wpAnyH_ready (rs := [11]) (by kernel_rfl) (by simp) ?_
              refine AllReadyH.cons rfl (fun K hK => ?_) AllReadyH.nil
              go_simp
              have hk5 := hide ((((((Kept.refl [w.heap.size] Wf).set (g := w.heap.size) (.inl (by simp)) 0 (.string ⟨#[102]⟩)).set (g := w.heap.size) (.inl (by simp)) 1 (.slice (some ⟨wD.heap.size + 1, 0, none⟩) 2 2)).set (g := w.heap.size) (.inl (by simp)) 2 (.int .i64 0)).set (g := w.heap.size) (.inl (by simp)) 3 (.slice (some ⟨wD.heap.size, 0, none⟩) 4 4)).set (g := w.heap.size) (.inl (by simp)) 4 (.int .i64 9))
              have h5 := hide (heap_set (i := 4) (heap_set (i := 3) (heap_set (i := 2) (heap_set (i := 1) (heap_set (i := 0) HZ.out (.string ⟨#[102]⟩)) (.slice (some ⟨wD.heap.size + 1, 0, none⟩) 2 2)) (.int .i64 0)) (.slice (some ⟨wD.heap.size, 0, none⟩) 4 4)) (.int .i64 9))
              have HFF := hide (HFIN.out _ _ _ _ _ HF.out hk5.out)
              have hs8 := hide (And.intro (hk5.out.heap (by rw [List.mem_singleton]; omega) hS.1) (hk5.out.heap (by rw [List.mem_singleton]; omega) hS.2))
              clear hS z0 z1 z2 z3 z4 y0 y1 y2 y3 y4
              refine hK.out _ _ ?_ (fun hHeld => ?_)
              · exact hs8.out
              clear hK K
              try simp only [Act.put, List.setIfInBounds_toArray, List.set_cons_zero, List.set_cons_succ]
              refine wpAnyH_done (by kernel_rfl) ?_ _
              go_wp2_with fail
              have e0 := cell_at (j := 0) h5.out rfl
              have e1 := cell_at (j := 1) h5.out rfl
              have e2 := cell_at (j := 2) h5.out rfl
              have e3 := cell_at (j := 3) h5.out rfl
              have e4 := cell_at (j := 4) h5.out rfl
              refine bodyPost_ret (v := .agg #[.string ⟨#[102]⟩, .slice (some ⟨wD.heap.size + 1, 0, none⟩) 2 2, .int .i64 0, .slice (some ⟨wD.heap.size, 0, none⟩) 4 4, .int .i64 9]) ?_ rfl HFF.out
              simp [results, Tryd.results25, go_sem, e0, e1, e2, e3, e4]
end Go.Proofs.YtccgpmncpemmdaaDoor
