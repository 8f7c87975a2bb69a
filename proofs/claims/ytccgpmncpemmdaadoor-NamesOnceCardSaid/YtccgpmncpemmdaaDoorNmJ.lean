/- rewindlaw10.works: the examples of chapter 10 hold. -/
import Derived.Test.YtccgpmncpemmdaaDoorNmI
import Derived.Test.YtccgpmncpemmdaaDoorNmH
import Derived.BigQuiet
import Derived.Deep.QuietTactic
import Derived.Deep.DeepCutAuto
import Derived.Deep.RegionHeld3
namespace Go.Proofs.YtccgpmncpemmdaaDoor
open Go Go.RowKit
set_option linter.unusedSimpArgs false
set_option linter.unusedVariables false
set_option linter.unnecessarySimpa false
theorem nx_val {w' : World} {np nq base : Nat} (hp : Pms (av [nq] w') nxF.params (some ⟨np, 0, none⟩) 2) (ho : OwnL w' base 62 8 StC [] (.slice (some ⟨nq, 0, none⟩) 4 4) nxF.body) :
    nxF.Val w' (.agg #[.string ⟨#[102]⟩, .slice (some ⟨np, 0, none⟩) 2 2, .int .i64 0, .slice (some ⟨nq, 0, none⟩) 4 4, .int .i64 9]) := by
  obtain ⟨a, cap, he, hr, h1, h2⟩ := ho.sts (by simp)
  simp only [Value.slice.injEq] at he
  obtain ⟨rfl, -, rfl⟩ := he
  exact ⟨_, _, 2, 4, rfl, ⟨by unfold maxLen; simp [nxF], i64_l 0 (by omega), Nat.le_refl _, by unfold maxLen; omega, i64_l 9 (by omega)⟩, hp.has has_av, hr.has has_av⟩
theorem OwnL.ban1 {α : Type} {w : World} {base sz : Nat} {t : TypeId} {V : World → α → List Value → Prop} {v : Value} {l : List α} (hm : Mono V) (h : OwnL w base t sz V [] v l) (o : Obj) : OwnL (w.alloc o) base t sz V [w.heap.size] v l := by
  obtain ⟨xs, hown, hcut⟩ := h
  have hlt := hown.lt
  refine ⟨xs, ⟨hown.1, ?_⟩, hcut.mono fun a c hv => hm _ _ _ _ (fun b o' u hu => ?_) hv⟩
  · rcases hown.2 with hn | ⟨g, cap, cur, rfl, hbg, hgg, rest⟩
    · exact .inl hn
    · exact .inr ⟨g, cap, cur, rfl, hbg, (Below.heap_alloc _ _ _ (Array.getElem?_eq_some_iff.1 hgg).1).trans hgg, rest⟩
  · obtain ⟨h1, h2⟩ := av_cell.1 hu
    have h3 := cell_lt h2
    simp only at h3
    refine av_cell.2 ⟨?_, cell_keep h2 ((bl w).al o) (Nat.le_refl _)⟩
    rw [List.mem_append, List.mem_singleton]
    rintro (e | e)
    · exact h1 (List.mem_append.2 (.inl e))
    · omega
theorem OwnL.sts2 {w : World} {base : Nat} {t : TypeId} {ban : List Nat} {v : Value} {l : List St} (h : OwnL w base t 8 StC ban v l) (hb : ∀ g, v.ownBlock = some g → g ∉ ban) : ∃ a cap, v = .slice a l.length cap ∧ St.Row (av ban w) l a ∧ l.length ≤ cap ∧ cap ≤ maxLen := by
  have h0 := h
  rcases h.form with ⟨rfl, rfl⟩ | ⟨g, cap, rfl, hbg, _, h1, h2⟩
  · exact ⟨none, 0, rfl, by simp only [St.Row], Nat.le_refl _, Nat.zero_le _⟩
  · refine ⟨_, cap, rfl, St.Row.of fun i hi => ?_, h1, h2⟩
    obtain ⟨_, _, c, ⟨pa, pb, pe, ca, cb, ce, rfl, hw, hr1, hr2, hr3⟩, _, _, hcell⟩ := h0.get StC.mono rfl i hi
    have hg : g ∉ ban := hb g rfl
    rw [Nat.zero_add]
    exact St.At.of ⟨av_mk (hcell 0 _ rfl) hg, av_mk (hcell 1 _ rfl) hg, av_mk (hcell 2 _ rfl) hg, av_mk (hcell 3 _ rfl) hg, av_mk (hcell 4 _ rfl) hg, av_mk (hcell 5 _ rfl) hg, av_mk (hcell 6 _ rfl) hg, av_mk (hcell 7 _ rfl) hg⟩ hw hr1 hr2 hr3
theorem OwnL.other {α : Type} {w : World} {base sz b : Nat} {t t' : TypeId} {V : World → α → List Value → Prop} {ban : List Nat} {v : Value} {l : List α} {C : Array Value} {z : Nat × Nat} (h : OwnL w base t sz V ban v l) (hx : w.heap[b]? = some (.cells C t' z)) (htt : t ≠ t') : ∀ g, v.ownBlock = some g → g ∉ [b] := by
  obtain ⟨xs, hown, _⟩ := h
  intro g hg hm
  rw [List.mem_singleton] at hm
  subst hm
  rcases hown.2 with ⟨rfl, _⟩ | ⟨g', cap, cur, rfl, _, hgg, _⟩
  · cases hg
  · simp only [Value.ownBlock, Option.some.injEq] at hg
    subst hg
    rw [hx] at hgg
    simp only [Option.some.injEq, Obj.cells.injEq] at hgg
    exact htt hgg.2.1.symm
/-- Behind region 15. -/
structure NxR (w wx : World) (a : Option Addr) (cap np bx : Nat) : Prop where
  b : Below w.heap.size w wx
  v : Vrs wx nxV a cap
  x : ∃ va vc, wx.heap[bx]? = some (.cells #[.string ⟨#[102]⟩, .slice (some ⟨np, 0, none⟩) 2 2, .int .i64 0, .slice va 5 vc, .int .i64 9] 42 (0, 0)) ∧ St.Row (av [bx] wx) (nxF.body ++ [nxS]) va ∧ 5 ≤ vc ∧ vc ≤ maxLen
  p : Pms (av [bx] wx) nxF.params (some ⟨np, 0, none⟩) 2
  v4 : w.heap.size ≤ bx → Vrs (wx.setCell ⟨bx, 4, none⟩ (.int .i64 10)) nxV a cap
def VarsPost (a0 : Nat) (l : List Vr) (n e : Int) (w : World) (r : Ending) (w' : World) : Prop := (∃ a cap, r = .returned (.tuple #[.slice a a0 cap, .int .i64 n, .int .i64 e]) ∧ Vrs w' l a cap) ∧ Below w.heap.size w w'
theorem of_nx (v : Value) (w : World) (hv : nxF.Val w v) (hT : Tab w) : Calls Tryd.prog 19 #[v] w (VarsPost 6 nxV 0 0 w) := by
  have h := of_any nxF v w hv hT
  unfold OfPost at h
  rw [nx_names] at h
  exact h
theorem of_nx2 (v : Value) (w : World) (hv : nxF2.Val w v) (hT : Tab w) : Calls Tryd.prog 19 #[v] w (VarsPost 0 [] 9 11 w) := by
  have h := of_any nxF2 v w hv hT
  unfold OfPost at h
  rw [nx_names2] at h
  exact h
def PairPost (i : Int) (b : Bool) (w : World) (r : Ending) (w' : World) : Prop := r = .returned (.tuple #[.int .i64 i, .bool b]) ∧ Below w.heap.size w w'
theorem find_nx (a : Option Addr) (cap : Nat) (w : World) (hl : Vrs w nxV a cap) : Calls Tryd.prog 11 #[.slice a 6 cap, .string ⟨#[100]⟩] w (PairPost 3 true w) := by
  have h := find_any nxV a cap [100] w hl
  rw [nx_find] at h
  exact h
theorem find_nx2 (a : Option Addr) (cap : Nat) (w : World) (hl : Vrs w nxV a cap) : Calls Tryd.prog 11 #[.slice a 6 cap, .string ⟨#[120]⟩] w (PairPost 0 false w) := by
  have h := find_any nxV a cap [120] w hl
  rw [nx_find2] at h
  exact h
theorem seen_nx (a : Option Addr) (cap : Nat) (w : World) (hl : Vrs w nxV a cap) : Calls Tryd.prog 13 #[.slice a 6 cap, .string ⟨#[100]⟩, .int .i64 3] w (PairPost 3 true w) := by
  have h := seen_any nxV a cap [100] 3 w hl
  rw [nx_seen] at h
  exact h
theorem seen_nx2 (a : Option Addr) (cap : Nat) (w : World) (hl : Vrs w nxV a cap) : Calls Tryd.prog 13 #[.slice a 6 cap, .string ⟨#[100]⟩, .int .i64 4] w (PairPost 0 false w) := by
  have h := seen_any nxV a cap [100] 4 w hl
  rw [nx_seen2] at h
  exact h
def InsPost (n : Nat) (l : List Int) (w : World) (r : Ending) (w' : World) : Prop := (∃ a cap, r = .returned (.slice a n cap) ∧ Ints w' l a cap) ∧ Below w.heap.size w w'
theorem in_nx3 (a : Option Addr) (cap : Nat) (w : World) (hl : Vrs w nxV a cap) : Calls Tryd.prog 16 #[.slice a 6 cap, .int .i64 3] w (InsPost 4 [0, 1, 2, 3] w) := by
  have h := in_any nxV a cap 3 w hl (by decide)
  rw [nx_in3] at h
  exact h
theorem in_nx7 (a : Option Addr) (cap : Nat) (w : World) (hl : Vrs w nxV a cap) : Calls Tryd.prog 16 #[.slice a 6 cap, .int .i64 7] w (InsPost 4 [0, 1, 2, 5] w) := by
  have h := in_any nxV a cap 7 w hl (by decide)
  rw [nx_in7] at h
  exact h
theorem in_nx10 (a : Option Addr) (cap : Nat) (w : World) (hl : Vrs w nxV a cap) : Calls Tryd.prog 16 #[.slice a 6 cap, .int .i64 10] w (InsPost 0 [] w) := by
  have h := in_any nxV a cap 10 w hl (by decide)
  rw [nx_in10] at h
  exact h
theorem want_vrs (w : World) : Vrs (w.alloc (.cells #[.string ⟨#[97]⟩, .int .i64 1, .int .i64 (-1), .int .i64 0, .int .i64 10, .string ⟨#[98]⟩, .int .i64 3, .int .i64 (-1), .int .i64 0, .int .i64 10, .string ⟨#[99]⟩, .int .i64 1, .int .i64 0, .int .i64 1, .int .i64 10, .string ⟨#[100]⟩, .int .i64 2, .int .i64 2, .int .i64 3, .int .i64 4, .string ⟨#[101]⟩, .int .i64 1, .int .i64 4, .int .i64 5, .int .i64 5, .string ⟨#[103]⟩, .int .i64 1, .int .i64 6, .int .i64 7, .int .i64 8] 50)) nxV (some ⟨w.heap.size, 0, none⟩) 6 := by
  have key := fun (j : Nat) (v : Value) h => cell_of_list w [.string ⟨#[97]⟩, .int .i64 1, .int .i64 (-1), .int .i64 0, .int .i64 10, .string ⟨#[98]⟩, .int .i64 3, .int .i64 (-1), .int .i64 0, .int .i64 10, .string ⟨#[99]⟩, .int .i64 1, .int .i64 0, .int .i64 1, .int .i64 10, .string ⟨#[100]⟩, .int .i64 2, .int .i64 2, .int .i64 3, .int .i64 4, .string ⟨#[101]⟩, .int .i64 1, .int .i64 4, .int .i64 5, .int .i64 5, .string ⟨#[103]⟩, .int .i64 1, .int .i64 6, .int .i64 7, .int .i64 8] 50 j v h
  refine ⟨Nat.le_refl _, by unfold maxLen; omega, ?_, fun _ => ⟨_, _, rfl⟩, fun b o e i hi => ?_⟩
  · intro v hv
    simp only [nxV, List.mem_cons, List.not_mem_nil, or_false] at hv
    rcases hv with rfl | rfl | rfl | rfl | rfl | rfl <;> exact ⟨by unfold maxLen; simp, i64_l _ (by simp only; omega), i64_l _ (by simp only; omega), i64_l _ (by simp only; omega), i64_l _ (by simp only; omega)⟩
  · simp only [Option.some.injEq, Addr.mk.injEq, and_true] at e
    obtain ⟨rfl, rfl⟩ := e
    match i, hi with
    | 0, _ => exact ⟨key 0 _ rfl, key 1 _ rfl, key 2 _ rfl, key 3 _ rfl, key 4 _ rfl⟩
    | 1, _ => exact ⟨key 5 _ rfl, key 6 _ rfl, key 7 _ rfl, key 8 _ rfl, key 9 _ rfl⟩
    | 2, _ => exact ⟨key 10 _ rfl, key 11 _ rfl, key 12 _ rfl, key 13 _ rfl, key 14 _ rfl⟩
    | 3, _ => exact ⟨key 15 _ rfl, key 16 _ rfl, key 17 _ rfl, key 18 _ rfl, key 19 _ rfl⟩
    | 4, _ => exact ⟨key 20 _ rfl, key 21 _ rfl, key 22 _ rfl, key 23 _ rfl, key 24 _ rfl⟩
    | 5, _ => exact ⟨key 25 _ rfl, key 26 _ rfl, key 27 _ rfl, key 28 _ rfl, key 29 _ rfl⟩
set_option maxRecDepth 100000 in
set_option maxHeartbeats 8000000 in
theorem works10_any (w : World) (hT : Tab w) : Calls Tryd.prog 9 #[] w fun r w' => r = .returned (.bool true) ∧ Below w.heap.size w w' := by
  have HT := hide hT
  clear hT
  go_enter Tryd.func9, Tryd.ntmps9
  go_wp2_with fail
  refine (example_any _).mono ?_
  rintro r w1 ⟨⟨np, nq, rfl, hp, ho⟩, hb⟩
  have HF := hide (nx_val hp ho)
  have HW := hide hb
  clear hp ho hb
  go_wp2_with fail
  refine (of_nx _ _ HF.out (HT.out.below HW.out)).mono ?_
  rintro r w2 ⟨⟨a, cap, rfl, hv⟩, hb⟩
  have HW := hide ((HW.out.tr hb).al (.cells #[.string ⟨#[97]⟩, .int .i64 1, .int .i64 (-1), .int .i64 0, .int .i64 10, .string ⟨#[98]⟩, .int .i64 3, .int .i64 (-1), .int .i64 0, .int .i64 10, .string ⟨#[99]⟩, .int .i64 1, .int .i64 0, .int .i64 1, .int .i64 10, .string ⟨#[100]⟩, .int .i64 2, .int .i64 2, .int .i64 3, .int .i64 4, .string ⟨#[101]⟩, .int .i64 1, .int .i64 4, .int .i64 5, .int .i64 5, .string ⟨#[103]⟩, .int .i64 1, .int .i64 6, .int .i64 7, .int .i64 8] 50))
  have HV := hide (hv.keep ((bl w2).al (.cells #[.string ⟨#[97]⟩, .int .i64 1, .int .i64 (-1), .int .i64 0, .int .i64 10, .string ⟨#[98]⟩, .int .i64 3, .int .i64 (-1), .int .i64 0, .int .i64 10, .string ⟨#[99]⟩, .int .i64 1, .int .i64 0, .int .i64 1, .int .i64 10, .string ⟨#[100]⟩, .int .i64 2, .int .i64 2, .int .i64 3, .int .i64 4, .string ⟨#[101]⟩, .int .i64 1, .int .i64 4, .int .i64 5, .int .i64 5, .string ⟨#[103]⟩, .int .i64 1, .int .i64 6, .int .i64 7, .int .i64 8] 50)) (Nat.le_refl _))
  have HG := hide (want_vrs w2)
  clear hv hb HF
  go_wp2_with fail
  obtain ⟨W3, hW3⟩ : ∃ W3, W3 = w2.alloc (.cells #[.string ⟨#[97]⟩, .int .i64 1, .int .i64 (-1), .int .i64 0, .int .i64 10, .string ⟨#[98]⟩, .int .i64 3, .int .i64 (-1), .int .i64 0, .int .i64 10, .string ⟨#[99]⟩, .int .i64 1, .int .i64 0, .int .i64 1, .int .i64 10, .string ⟨#[100]⟩, .int .i64 2, .int .i64 2, .int .i64 3, .int .i64 4, .string ⟨#[101]⟩, .int .i64 1, .int .i64 4, .int .i64 5, .int .i64 5, .string ⟨#[103]⟩, .int .i64 1, .int .i64 6, .int .i64 7, .int .i64 8] 50) := ⟨_, rfl⟩
  obtain ⟨n3, hn3⟩ : ∃ n3, n3 = w2.heap.size := ⟨_, rfl⟩
  rw [← hW3] at HW HV HG ⊢
  rw [← hn3] at HG ⊢
  clear hW3 hn3
  go_loopw [5] (fun i wr => ∃ k n : Nat, k ≤ 6 ∧ i = .int .i64 k ∧ Hid (wr = W3.drewN n)) (fun i _ => 6 - (intOf i).toNat)
  case atStart => exact ⟨0, 0, Nat.zero_le _, rfl, hide rfl⟩
  case round =>
    obtain ⟨k, nn, hk, rfl, HWR⟩ := hrel
    by_cases hlt : k < 6
    · obtain ⟨b, o, rfl⟩ := HV.out.addr (by decide)
      have HV' := hide (show Vrs wr nxV _ _ by rw [HWR.out]; exact ⟨HV.out.len, HV.out.cap, HV.out.wf, HV.out.addr, HV.out.at_⟩)
      have HG' := hide (show Vrs wr nxV _ _ by rw [HWR.out]; exact ⟨HG.out.len, HG.out.cap, HG.out.wf, HG.out.addr, HG.out.at_⟩)
      obtain ⟨c0, c1, c2, c3, c4⟩ := HV'.out.at_ b o rfl k hlt
      obtain ⟨d0, d1, d2, d3, d4⟩ := HG'.out.at_ n3 0 rfl k hlt
      rw [Nat.zero_add] at d0 d1 d2 d3 d4
      generalize nxV[k] = v at *
      have hbl := cell_lt c0
      have hbl2 := cell_lt d0
      simp only at hbl hbl2
      have hc6 : (0 : Int) ≤ (k : Int) := by omega
      have hc7 : (k : Int) < 6 := by omega
      go_wp2_with fail
      go_quiet (fail)
      go_wp2_with fail
      go_roundw
      case rel => exact ⟨k + 1, _, by omega, by go_num, hide (by rw [HWR.out, World.drewN_drewN])⟩
      case measure => simp [intOf]; omega
    · obtain rfl : k = 6 := by omega
      have hwb : Below W3.heap.size W3 wr := by rw [HWR.out]; exact ⟨rfl, rfl, rfl, Nat.le_refl _, fun _ _ => rfl⟩
      replace HW := hide (HW.out.tr hwb)
      replace HV := hide (HV.out.keep hwb (Nat.le_refl _))
      clear hwb HWR HG
      go_wp2_with fail
      refine (find_nx _ _ _ HV.out).mono ?_
      rintro r w4 ⟨rfl, hb⟩
      have HW := hide (HW.out.tr hb)
      have HV := hide (HV.out.keep hb (Nat.le_refl _))
      clear hb
      go_wp2_with fail
      refine (seen_nx _ _ _ HV.out).mono ?_
      rintro r w5 ⟨rfl, hb⟩
      have HW := hide (HW.out.tr hb)
      have HV := hide (HV.out.keep hb (Nat.le_refl _))
      clear hb
      go_wp2_with fail
      refine (seen_nx2 _ _ _ HV.out).mono ?_
      rintro r w6 ⟨rfl, hb⟩
      have HW := hide (HW.out.tr hb)
      have HV := hide (HV.out.keep hb (Nat.le_refl _))
      clear hb
      go_wp2_with fail
      refine (find_nx2 _ _ _ HV.out).mono ?_
      rintro r w7 ⟨rfl, hb⟩
      have HW := hide (HW.out.tr hb)
      have HV := hide (HV.out.keep hb (Nat.le_refl _))
      clear hb
      go_wp2_with fail
      have HW7 := hide HW.out
      have HV7 := hide HV.out
      refine (example_any _).mono ?_
      rintro r w8 ⟨⟨np, nq, rfl, hp, ho⟩, hb⟩
      have HB78 := hide hb
      have HNQ := hide (ho.lt nq rfl)
      have HP := hide hp
      have HO := hide ho
      clear hp ho
      replace HW := hide (HW.out.tr hb)
      replace HV := hide (HV.out.keep hb (Nat.le_refl _))
      clear hb
      go_upto_region 15 with fail
      obtain ⟨i0, hi, hz0, hz1, hz2⟩ := info_parts info_st
      have hbx : (w8.alloc (.cells #[.string ⟨#[102]⟩, .slice (some ⟨np, 0, none⟩) 2 2, .int .i64 0, .slice (some ⟨nq, 0, none⟩) 4 4, .int .i64 9] 42)).heap[w8.heap.size]? = some (.cells #[.string ⟨#[102]⟩, .slice (some ⟨np, 0, none⟩) 2 2, .int .i64 0, .slice (some ⟨nq, 0, none⟩) 4 4, .int .i64 9] 42 (0, 0)) := heap_alloc_new _ _
      have HBX := hide hbx
      have HO1 := hide (OwnL.ban1 StC.mono HO.out (.cells #[.string ⟨#[102]⟩, .slice (some ⟨np, 0, none⟩) 2 2, .int .i64 0, .slice (some ⟨nq, 0, none⟩) 4 4, .int .i64 9] 42))
      have HW8 := hide (HW.out.al (.cells #[.string ⟨#[102]⟩, .slice (some ⟨np, 0, none⟩) 2 2, .int .i64 0, .slice (some ⟨nq, 0, none⟩) 4 4, .int .i64 9] 42))
      have HV8 := hide (HV.out.keep ((bl w8).al (.cells #[.string ⟨#[102]⟩, .slice (some ⟨np, 0, none⟩) 2 2, .int .i64 0, .slice (some ⟨nq, 0, none⟩) 4 4, .int .i64 9] 42)) (Nat.le_refl _))
      have hwl : w.heap.size ≤ w8.heap.size := HW.out.size
      have HPP : Hid (Pms (av [nq, w8.heap.size] (w8.alloc (.cells #[.string ⟨#[102]⟩, .slice (some ⟨np, 0, none⟩) 2 2, .int .i64 0, .slice (some ⟨nq, 0, none⟩) 4 4, .int .i64 9] 42))) nxF.params (some ⟨np, 0, none⟩) 2) := hide (HP.out.has ((has_one (L := [nq]) ((bl w8).al (.cells #[.string ⟨#[102]⟩, .slice (some ⟨np, 0, none⟩) 2 2, .int .i64 0, .slice (some ⟨nq, 0, none⟩) 4 4, .int .i64 9] 42)) _ (Nat.le_refl _)).tr (has_sub (by simp))))
      have h78 : w7.heap.size ≤ w8.heap.size := HB78.out.size
      clear hbx
      go_cut [0, 14] (fun z p wx => p = .pointer (some ⟨w8.heap.size, 0, none⟩) ∧ Hid (NxR w wx a cap np w8.heap.size))
      case first =>
        refine wp_region_held_drew (S := fun _ => True) (by kernel_rfl) trivial (fun hHeld => ?_)
        refine wpAnyH_take (i := 0) (v := ?_) (by simp only [List.getElem?_toArray, List.getElem?_cons_succ, List.getElem?_cons_zero]; rfl) (by kernel_rfl) (by kernel_rfl) (by kernel_rfl) (by exact fun _ _ _ h => h) (Or.inl ⟨by rfl, ?_⟩) (by assumption) ?_
        rotate_left 1
        · ((intro w hSw; (try dsimp only at hSw); go_simp) <;> with_reducible rfl)
        try simp only [Act.put, List.setIfInBounds_toArray, List.set_cons_zero, List.set_cons_succ]
        refine wpAnyH_ready (rs := [1, 2]) (by kernel_rfl) (by simp) ?_
        refine AllReadyH.cons rfl (fun K hK => ?_) (AllReadyH.cons rfl (fun K hK => ?_) AllReadyH.nil)
        all_goals go_simp
        · refine hK.out _ _ trivial (fun hHeld => ?_)
          clear hK K
          try simp only [Act.put, List.setIfInBounds_toArray, List.set_cons_zero, List.set_cons_succ]
          refine wpAnyH_ready (rs := [2]) (by kernel_rfl) (by simp) ?_
          refine AllReadyH.cons rfl (fun K hK => ?_) AllReadyH.nil
          go_simp
          refine (stmt_any 1 9 1 ⟨#[97]⟩ _).mono ?_
          unfold sLf
          rintro r w9 ⟨rfl, hb9⟩
          have hb9 : Below (w8.alloc (.cells #[.string ⟨#[102]⟩, .slice (some ⟨np, 0, none⟩) 2 2, .int .i64 0, .slice (some ⟨nq, 0, none⟩) 4 4, .int .i64 9] 42)).heap.size (w8.alloc (.cells #[.string ⟨#[102]⟩, .slice (some ⟨np, 0, none⟩) 2 2, .int .i64 0, .slice (some ⟨nq, 0, none⟩) 4 4, .int .i64 9] 42)) w9 := (bl (w8.alloc (.cells #[.string ⟨#[102]⟩, .slice (some ⟨np, 0, none⟩) 2 2, .int .i64 0, .slice (some ⟨nq, 0, none⟩) 4 4, .int .i64 9] 42))).dr.tr hb9
          have hx9 := (hb9.block _ (by simp)).trans HBX.out
          have x3 := cell_at (j := 3) hx9 rfl
          have HO2 := hide ((HO1.out.below StC.mono hb9).al StC.mono (.cells #[.int .i64 1, .int .i64 9, .string ⟨#[97]⟩, .int .i64 1, .string ⟨#[]⟩, .slice none 0 0, .slice none 0 0, .slice none 0 0] 62))
          have HNW := hide (news_row w9 [.int .i64 1, .int .i64 9, .string ⟨#[97]⟩, .int .i64 1, .string ⟨#[]⟩, .slice none 0 0, .slice none 0 0, .slice none 0 0] 62 w9.heap.size rfl)
          have HB9 := hide (hb9.al (.cells #[.int .i64 1, .int .i64 9, .string ⟨#[97]⟩, .int .i64 1, .string ⟨#[]⟩, .slice none 0 0, .slice none 0 0, .slice none 0 0] 62))
          have hl9 : w8.heap.size < w9.heap.size := (Array.getElem?_eq_some_iff.1 hx9).1
          have hn9 : ¬ w8.heap.size = w9.heap.size := Nat.ne_of_lt hl9
          have hl9' : w8.heap.size < w9.heap.size + 1 := Nat.lt_succ_of_lt hl9
          have HX9 := hide ((Below.heap_alloc w9 (.cells #[.int .i64 1, .int .i64 9, .string ⟨#[97]⟩, .int .i64 1, .string ⟨#[]⟩, .slice none 0 0, .slice none 0 0, .slice none 0 0] 62) _ hl9).trans hx9)
          have HSZ : Hid (w7.heap.size ≤ (w9.alloc (.cells #[.int .i64 1, .int .i64 9, .string ⟨#[97]⟩, .int .i64 1, .string ⟨#[]⟩, .slice none 0 0, .slice none 0 0, .slice none 0 0] 62)).heap.size) := hide (by rw [World.size_alloc]; omega)
          clear hb9 hx9
          refine hK.out _ _ trivial (fun hHeld => ?_)
          clear hK K
          try simp only [Act.put, List.setIfInBounds_toArray, List.set_cons_zero, List.set_cons_succ]
          refine wpAnyH_ready (rs := [3]) (by kernel_rfl) (by simp) ?_
          refine AllReadyH.cons rfl (fun K hK => ?_) AllReadyH.nil
          go_simp
          refine hK.out _ _ trivial (fun hHeld => ?_)
          clear hK K
          try simp only [Act.put, List.setIfInBounds_toArray, List.set_cons_zero, List.set_cons_succ]
          refine wpAnyH_ready (rs := [4]) (by kernel_rfl) (by simp) ?_
          refine AllReadyH.cons rfl (fun K hK => ?_) AllReadyH.nil
          refine step_push _ (by rfl) _ _ 40 (by rfl) w7.heap.size 62 i0 _ 8 128 Tryd.underlying40 hi hz0 hz1 hz2 (by rfl) (Nat.succ_pos _) StC StC.mono [w8.heap.size] (.slice (some ⟨nq, 0, none⟩) 4 4) nxF.body (by rfl) HO2.out ⟨w9.heap.size, 0, none⟩ 1 [.int .i64 1, .int .i64 9, .string ⟨#[97]⟩, .int .i64 1, .string ⟨#[]⟩, .slice none 0 0, .slice none 0 0, .slice none 0 0] nxS (by rfl) (by rfl) HNW.out (by simp [Value.oneCell']) (sLf_c _ 1 9 1 [97] (by omega) (by omega) (by omega) (by simp)) (by unfold maxLen; simp [nxF]) (by simp [nxF]) HSZ.out ?_
          intro v' w6 hown6 hgrow
          have hnq := HNQ.out
          have h6 := (hgrow.block _ (Array.getElem?_eq_some_iff.1 HX9.out).1 (by simp only [Value.ownBlock, ne_eq, Option.some.injEq]; omega)).trans HX9.out
          obtain ⟨va, vc, he, hr, h51, h52⟩ := hown6.sts2 (hown6.other h6 (by decide))
          have he : v' = .slice va 5 vc := he
          subst he
          have x36 := cell_at (j := 3) h6 rfl
          have f36 := free_at (j := 3) h6
          have hl6 := (Array.getElem?_eq_some_iff.1 h6).1
          have hk : Kept [nq, w8.heap.size] (w8.alloc (.cells #[.string ⟨#[102]⟩, .slice (some ⟨np, 0, none⟩) 2 2, .int .i64 0, .slice (some ⟨nq, 0, none⟩) 4 4, .int .i64 9] 42)) (w6.setCell ⟨w8.heap.size, 3, none⟩ (.slice va 5 vc)) := ((kept_below HB9.out).grown hgrow (fun g e => by cases e; exact .inl (by simp))).set (g := w8.heap.size) (.inl (by simp)) 3 _
          have hb7 : Below w7.heap.size w7 (w6.setCell ⟨w8.heap.size, 3, none⟩ (.slice va 5 vc)) := hk.below ((HB78.out.al (.cells #[.string ⟨#[102]⟩, .slice (some ⟨np, 0, none⟩) 2 2, .int .i64 0, .slice (some ⟨nq, 0, none⟩) 4 4, .int .i64 9] 42))) (fun g hg => by
            simp only [List.mem_cons, List.not_mem_nil, or_false] at hg
            omega)
          have HFIN : Hid (NxR w (w6.setCell ⟨w8.heap.size, 3, none⟩ (.slice va 5 vc)) a cap np w8.heap.size) := hide
            ⟨HW7.out.tr hb7, HV7.out.keep hb7 (Nat.le_refl _), ⟨va, vc, by simpa using heap_set (i := 3) h6 (.slice va 5 vc), hr.has (has_kept ((Kept.refl _ w6).set (g := w8.heap.size) (.inl (by simp)) 3 _)), h51, h52⟩, HPP.out.has ((has_kept hk).tr (has_sub (by simp))), fun _ => HV7.out.keep (hb7.setCell h78 _) (Nat.le_refl _)⟩
          clear hown6 hgrow h6 hr hk hb7
          refine hK.out _ _ trivial (fun hHeld => ?_)
          clear hK K
          try simp only [Act.put, List.setIfInBounds_toArray, List.set_cons_zero, List.set_cons_succ]
          refine wpAnyH_take (i := 5) (v := ?_) (by simp only [List.getElem?_toArray, List.getElem?_cons_succ, List.getElem?_cons_zero]; rfl) (by kernel_rfl) (by kernel_rfl) (by kernel_rfl) (by exact fun _ _ _ h => h) (Or.inl ⟨by rfl, ?_⟩) (by assumption) ?_
          rotate_left 1
          · ((intro w hSw; (try dsimp only at hSw); go_simp) <;> with_reducible rfl)
          try simp only [Act.put, List.setIfInBounds_toArray, List.set_cons_zero, List.set_cons_succ]
          refine wpAnyH_ready (rs := [6]) (by kernel_rfl) (by simp) ?_
          refine AllReadyH.cons rfl (fun K hK => ?_) AllReadyH.nil
          go_simp
          refine hK.out _ _ trivial (fun hHeld => ?_)
          clear hK K
          try simp only [Act.put, List.setIfInBounds_toArray, List.set_cons_zero, List.set_cons_succ]
          refine wpAnyH_done (by kernel_rfl) ?_ _
          go_wp2_with fail
          go_meet
          exact ⟨rfl, HFIN⟩
        · refine (stmt_any 1 9 1 ⟨#[97]⟩ _).mono ?_
          unfold sLf
          rintro r w9 ⟨rfl, hb9⟩
          have hb9 : Below (w8.alloc (.cells #[.string ⟨#[102]⟩, .slice (some ⟨np, 0, none⟩) 2 2, .int .i64 0, .slice (some ⟨nq, 0, none⟩) 4 4, .int .i64 9] 42)).heap.size (w8.alloc (.cells #[.string ⟨#[102]⟩, .slice (some ⟨np, 0, none⟩) 2 2, .int .i64 0, .slice (some ⟨nq, 0, none⟩) 4 4, .int .i64 9] 42)) w9 := (bl (w8.alloc (.cells #[.string ⟨#[102]⟩, .slice (some ⟨np, 0, none⟩) 2 2, .int .i64 0, .slice (some ⟨nq, 0, none⟩) 4 4, .int .i64 9] 42))).dr.tr hb9
          have hx9 := (hb9.block _ (by simp)).trans HBX.out
          have x3 := cell_at (j := 3) hx9 rfl
          have HO2 := hide ((HO1.out.below StC.mono hb9).al StC.mono (.cells #[.int .i64 1, .int .i64 9, .string ⟨#[97]⟩, .int .i64 1, .string ⟨#[]⟩, .slice none 0 0, .slice none 0 0, .slice none 0 0] 62))
          have HNW := hide (news_row w9 [.int .i64 1, .int .i64 9, .string ⟨#[97]⟩, .int .i64 1, .string ⟨#[]⟩, .slice none 0 0, .slice none 0 0, .slice none 0 0] 62 w9.heap.size rfl)
          have HB9 := hide (hb9.al (.cells #[.int .i64 1, .int .i64 9, .string ⟨#[97]⟩, .int .i64 1, .string ⟨#[]⟩, .slice none 0 0, .slice none 0 0, .slice none 0 0] 62))
          have hl9 : w8.heap.size < w9.heap.size := (Array.getElem?_eq_some_iff.1 hx9).1
          have hn9 : ¬ w8.heap.size = w9.heap.size := Nat.ne_of_lt hl9
          have hl9' : w8.heap.size < w9.heap.size + 1 := Nat.lt_succ_of_lt hl9
          have HX9 := hide ((Below.heap_alloc w9 (.cells #[.int .i64 1, .int .i64 9, .string ⟨#[97]⟩, .int .i64 1, .string ⟨#[]⟩, .slice none 0 0, .slice none 0 0, .slice none 0 0] 62) _ hl9).trans hx9)
          have HSZ : Hid (w7.heap.size ≤ (w9.alloc (.cells #[.int .i64 1, .int .i64 9, .string ⟨#[97]⟩, .int .i64 1, .string ⟨#[]⟩, .slice none 0 0, .slice none 0 0, .slice none 0 0] 62)).heap.size) := hide (by rw [World.size_alloc]; omega)
          clear hb9 hx9
          refine hK.out _ _ trivial (fun hHeld => ?_)
          clear hK K
          try simp only [Act.put, List.setIfInBounds_toArray, List.set_cons_zero, List.set_cons_succ]
          refine wpAnyH_ready (rs := [1, 3]) (by kernel_rfl) (by simp) ?_
          refine AllReadyH.cons rfl (fun K hK => ?_) (AllReadyH.cons rfl (fun K hK => ?_) AllReadyH.nil)
          all_goals go_simp
          · refine hK.out _ _ trivial (fun hHeld => ?_)
            clear hK K
            try simp only [Act.put, List.setIfInBounds_toArray, List.set_cons_zero, List.set_cons_succ]
            refine wpAnyH_ready (rs := [3]) (by kernel_rfl) (by simp) ?_
            refine AllReadyH.cons rfl (fun K hK => ?_) AllReadyH.nil
            go_simp
            refine hK.out _ _ trivial (fun hHeld => ?_)
            clear hK K
            try simp only [Act.put, List.setIfInBounds_toArray, List.set_cons_zero, List.set_cons_succ]
            refine wpAnyH_ready (rs := [4]) (by kernel_rfl) (by simp) ?_
            refine AllReadyH.cons rfl (fun K hK => ?_) AllReadyH.nil
            refine step_push _ (by rfl) _ _ 40 (by rfl) w7.heap.size 62 i0 _ 8 128 Tryd.underlying40 hi hz0 hz1 hz2 (by rfl) (Nat.succ_pos _) StC StC.mono [w8.heap.size] (.slice (some ⟨nq, 0, none⟩) 4 4) nxF.body (by rfl) HO2.out ⟨w9.heap.size, 0, none⟩ 1 [.int .i64 1, .int .i64 9, .string ⟨#[97]⟩, .int .i64 1, .string ⟨#[]⟩, .slice none 0 0, .slice none 0 0, .slice none 0 0] nxS (by rfl) (by rfl) HNW.out (by simp [Value.oneCell']) (sLf_c _ 1 9 1 [97] (by omega) (by omega) (by omega) (by simp)) (by unfold maxLen; simp [nxF]) (by simp [nxF]) HSZ.out ?_
            intro v' w6 hown6 hgrow
            have hnq := HNQ.out
            have h6 := (hgrow.block _ (Array.getElem?_eq_some_iff.1 HX9.out).1 (by simp only [Value.ownBlock, ne_eq, Option.some.injEq]; omega)).trans HX9.out
            obtain ⟨va, vc, he, hr, h51, h52⟩ := hown6.sts2 (hown6.other h6 (by decide))
            have he : v' = .slice va 5 vc := he
            subst he
            have x36 := cell_at (j := 3) h6 rfl
            have f36 := free_at (j := 3) h6
            have hl6 := (Array.getElem?_eq_some_iff.1 h6).1
            have hk : Kept [nq, w8.heap.size] (w8.alloc (.cells #[.string ⟨#[102]⟩, .slice (some ⟨np, 0, none⟩) 2 2, .int .i64 0, .slice (some ⟨nq, 0, none⟩) 4 4, .int .i64 9] 42)) (w6.setCell ⟨w8.heap.size, 3, none⟩ (.slice va 5 vc)) := ((kept_below HB9.out).grown hgrow (fun g e => by cases e; exact .inl (by simp))).set (g := w8.heap.size) (.inl (by simp)) 3 _
            have hb7 : Below w7.heap.size w7 (w6.setCell ⟨w8.heap.size, 3, none⟩ (.slice va 5 vc)) := hk.below ((HB78.out.al (.cells #[.string ⟨#[102]⟩, .slice (some ⟨np, 0, none⟩) 2 2, .int .i64 0, .slice (some ⟨nq, 0, none⟩) 4 4, .int .i64 9] 42))) (fun g hg => by
              simp only [List.mem_cons, List.not_mem_nil, or_false] at hg
              omega)
            have HFIN : Hid (NxR w (w6.setCell ⟨w8.heap.size, 3, none⟩ (.slice va 5 vc)) a cap np w8.heap.size) := hide
              ⟨HW7.out.tr hb7, HV7.out.keep hb7 (Nat.le_refl _), ⟨va, vc, by simpa using heap_set (i := 3) h6 (.slice va 5 vc), hr.has (has_kept ((Kept.refl _ w6).set (g := w8.heap.size) (.inl (by simp)) 3 _)), h51, h52⟩, HPP.out.has ((has_kept hk).tr (has_sub (by simp))), fun _ => HV7.out.keep (hb7.setCell h78 _) (Nat.le_refl _)⟩
            clear hown6 hgrow h6 hr hk hb7
            refine hK.out _ _ trivial (fun hHeld => ?_)
            clear hK K
            try simp only [Act.put, List.setIfInBounds_toArray, List.set_cons_zero, List.set_cons_succ]
            refine wpAnyH_take (i := 5) (v := ?_) (by simp only [List.getElem?_toArray, List.getElem?_cons_succ, List.getElem?_cons_zero]; rfl) (by kernel_rfl) (by kernel_rfl) (by kernel_rfl) (by exact fun _ _ _ h => h) (Or.inl ⟨by rfl, ?_⟩) (by assumption) ?_
            rotate_left 1
            · ((intro w hSw; (try dsimp only at hSw); go_simp) <;> with_reducible rfl)
            try simp only [Act.put, List.setIfInBounds_toArray, List.set_cons_zero, List.set_cons_succ]
            refine wpAnyH_ready (rs := [6]) (by kernel_rfl) (by simp) ?_
            refine AllReadyH.cons rfl (fun K hK => ?_) AllReadyH.nil
            go_simp
            refine hK.out _ _ trivial (fun hHeld => ?_)
            clear hK K
            try simp only [Act.put, List.setIfInBounds_toArray, List.set_cons_zero, List.set_cons_succ]
            refine wpAnyH_done (by kernel_rfl) ?_ _
            go_wp2_with fail
            go_meet
            exact ⟨rfl, HFIN⟩
          · refine hK.out _ _ trivial (fun hHeld => ?_)
            clear hK K
            try simp only [Act.put, List.setIfInBounds_toArray, List.set_cons_zero, List.set_cons_succ]
            refine wpAnyH_ready (rs := [1]) (by kernel_rfl) (by simp) ?_
            refine AllReadyH.cons rfl (fun K hK => ?_) AllReadyH.nil
            go_simp
            refine hK.out _ _ trivial (fun hHeld => ?_)
            clear hK K
            try simp only [Act.put, List.setIfInBounds_toArray, List.set_cons_zero, List.set_cons_succ]
            refine wpAnyH_ready (rs := [4]) (by kernel_rfl) (by simp) ?_
            refine AllReadyH.cons rfl (fun K hK => ?_) AllReadyH.nil
            refine step_push _ (by rfl) _ _ 40 (by rfl) w7.heap.size 62 i0 _ 8 128 Tryd.underlying40 hi hz0 hz1 hz2 (by rfl) (Nat.succ_pos _) StC StC.mono [w8.heap.size] (.slice (some ⟨nq, 0, none⟩) 4 4) nxF.body (by rfl) HO2.out ⟨w9.heap.size, 0, none⟩ 1 [.int .i64 1, .int .i64 9, .string ⟨#[97]⟩, .int .i64 1, .string ⟨#[]⟩, .slice none 0 0, .slice none 0 0, .slice none 0 0] nxS (by rfl) (by rfl) HNW.out (by simp [Value.oneCell']) (sLf_c _ 1 9 1 [97] (by omega) (by omega) (by omega) (by simp)) (by unfold maxLen; simp [nxF]) (by simp [nxF]) HSZ.out ?_
            intro v' w6 hown6 hgrow
            have hnq := HNQ.out
            have h6 := (hgrow.block _ (Array.getElem?_eq_some_iff.1 HX9.out).1 (by simp only [Value.ownBlock, ne_eq, Option.some.injEq]; omega)).trans HX9.out
            obtain ⟨va, vc, he, hr, h51, h52⟩ := hown6.sts2 (hown6.other h6 (by decide))
            have he : v' = .slice va 5 vc := he
            subst he
            have x36 := cell_at (j := 3) h6 rfl
            have f36 := free_at (j := 3) h6
            have hl6 := (Array.getElem?_eq_some_iff.1 h6).1
            have hk : Kept [nq, w8.heap.size] (w8.alloc (.cells #[.string ⟨#[102]⟩, .slice (some ⟨np, 0, none⟩) 2 2, .int .i64 0, .slice (some ⟨nq, 0, none⟩) 4 4, .int .i64 9] 42)) (w6.setCell ⟨w8.heap.size, 3, none⟩ (.slice va 5 vc)) := ((kept_below HB9.out).grown hgrow (fun g e => by cases e; exact .inl (by simp))).set (g := w8.heap.size) (.inl (by simp)) 3 _
            have hb7 : Below w7.heap.size w7 (w6.setCell ⟨w8.heap.size, 3, none⟩ (.slice va 5 vc)) := hk.below ((HB78.out.al (.cells #[.string ⟨#[102]⟩, .slice (some ⟨np, 0, none⟩) 2 2, .int .i64 0, .slice (some ⟨nq, 0, none⟩) 4 4, .int .i64 9] 42))) (fun g hg => by
              simp only [List.mem_cons, List.not_mem_nil, or_false] at hg
              omega)
            have HFIN : Hid (NxR w (w6.setCell ⟨w8.heap.size, 3, none⟩ (.slice va 5 vc)) a cap np w8.heap.size) := hide
              ⟨HW7.out.tr hb7, HV7.out.keep hb7 (Nat.le_refl _), ⟨va, vc, by simpa using heap_set (i := 3) h6 (.slice va 5 vc), hr.has (has_kept ((Kept.refl _ w6).set (g := w8.heap.size) (.inl (by simp)) 3 _)), h51, h52⟩, HPP.out.has ((has_kept hk).tr (has_sub (by simp))), fun _ => HV7.out.keep (hb7.setCell h78 _) (Nat.le_refl _)⟩
            clear hown6 hgrow h6 hr hk hb7
            refine hK.out _ _ trivial (fun hHeld => ?_)
            clear hK K
            try simp only [Act.put, List.setIfInBounds_toArray, List.set_cons_zero, List.set_cons_succ]
            refine wpAnyH_take (i := 5) (v := ?_) (by simp only [List.getElem?_toArray, List.getElem?_cons_succ, List.getElem?_cons_zero]; rfl) (by kernel_rfl) (by kernel_rfl) (by kernel_rfl) (by exact fun _ _ _ h => h) (Or.inl ⟨by rfl, ?_⟩) (by assumption) ?_
            rotate_left 1
            · ((intro w hSw; (try dsimp only at hSw); go_simp) <;> with_reducible rfl)
            try simp only [Act.put, List.setIfInBounds_toArray, List.set_cons_zero, List.set_cons_succ]
            refine wpAnyH_ready (rs := [6]) (by kernel_rfl) (by simp) ?_
            refine AllReadyH.cons rfl (fun K hK => ?_) AllReadyH.nil
            go_simp
            refine hK.out _ _ trivial (fun hHeld => ?_)
            clear hK K
            try simp only [Act.put, List.setIfInBounds_toArray, List.set_cons_zero, List.set_cons_succ]
            refine wpAnyH_done (by kernel_rfl) ?_ _
            go_wp2_with fail
            go_meet
            exact ⟨rfl, HFIN⟩
      case rest =>
        obtain ⟨rfl, HR⟩ := hcut
        obtain ⟨hb, hv, ⟨va, vc, hx, hr, h51, h52⟩, hp⟩ := HR.out
        have x0 := cell_at (j := 0) hx rfl
        have x1 := cell_at (j := 1) hx rfl
        have x2 := cell_at (j := 2) hx rfl
        have x3 := cell_at (j := 3) hx rfl
        have x4 := cell_at (j := 4) hx rfl
        have f4 := free_at (j := 4) hx
        have hxl := (Array.getElem?_eq_some_iff.1 hx).1
        have hk : Kept [w8.heap.size] wc (wc.setCell ⟨w8.heap.size, 4, none⟩ (.int .i64 10)) := (Kept.refl _ wc).set (g := w8.heap.size) (.inl (by simp)) 4 _
        have hh := (has_kept hk).tr has_av
        have HF : Hid (nxF2.Val (wc.setCell ⟨w8.heap.size, 4, none⟩ (.int .i64 10)) (.agg #[.string ⟨#[102]⟩, .slice (some ⟨np, 0, none⟩) 2 2, .int .i64 0, .slice va 5 vc, .int .i64 10])) := hide
          ⟨_, _, 2, vc, rfl, ⟨by unfold maxLen; simp [nxF2], i64_l 0 (by omega), h51, h52, i64_l 10 (by omega)⟩, hp.has hh, hr.has hh⟩
        have hb7 : Below wc.heap.size wc wc := Below.refl _ _
        have HWc : Hid (Below w.heap.size w (wc.setCell ⟨w8.heap.size, 4, none⟩ (.int .i64 10))) := hide (hk.below hb (fun g hg => by rw [List.mem_singleton] at hg; omega))
        have HVc : Hid (Vrs (wc.setCell ⟨w8.heap.size, 4, none⟩ (.int .i64 10)) nxV a cap) := hide (HR.out.v4 hwl)
        clear HR hb hv hx hr hp hk hh hb7 HW HV HP HO HO1 HW8 HV8 HPP HBX
        go_wp2_with fail
        refine (of_nx2 _ _ HF.out (HT.out.below HWc.out)).mono ?_
        rintro r w10 ⟨⟨a', cap', rfl, -⟩, hb⟩
        have HW := hide (HWc.out.tr hb)
        have HV := hide (HVc.out.keep hb (Nat.le_refl _))
        clear hb HF HWc HVc x0 x1 x2 x3 x4 f4 hxl
        go_wp2_with fail
        refine (in_nx3 _ _ _ HV.out).mono ?_
        rintro r w11 ⟨⟨a3, cap3, rfl, hi3⟩, hb⟩
        have HW := hide (HW.out.tr hb)
        have HV := hide (HV.out.keep hb (Nat.le_refl _))
        have HB1 := hide ((bl w11).al (.cells #[.int .i64 0, .int .i64 1, .int .i64 2, .int .i64 3] 3))
        have HI := hide (hi3.keep HB1.out (Nat.le_refl _))
        have HJ := hide (Ints.alloc w11 [0, 1, 2, 3] 3 _ (by decide) rfl)
        clear hb hi3
        go_wp2_with fail
        refine (ints_self [0, 1, 2, 3] _ _ _ _ _ HI.out HJ.out).mono ?_
        rintro r w12 ⟨rfl, hb⟩
        have HV := hide (HV.out.keep (HB1.out.tr hb) (Nat.le_refl _))
        have HW := hide (HW.out.tr (HB1.out.tr hb))
        clear hb HI HJ HB1
        go_wp2_with fail
        refine (in_nx7 _ _ _ HV.out).mono ?_
        rintro r w11 ⟨⟨a3, cap3, rfl, hi3⟩, hb⟩
        have HW := hide (HW.out.tr hb)
        have HV := hide (HV.out.keep hb (Nat.le_refl _))
        have HB1 := hide ((bl w11).al (.cells #[.int .i64 0, .int .i64 1, .int .i64 2, .int .i64 5] 3))
        have HI := hide (hi3.keep HB1.out (Nat.le_refl _))
        have HJ := hide (Ints.alloc w11 [0, 1, 2, 5] 3 _ (by decide) rfl)
        clear hb hi3
        go_wp2_with fail
        refine (ints_self [0, 1, 2, 5] _ _ _ _ _ HI.out HJ.out).mono ?_
        rintro r w12 ⟨rfl, hb⟩
        have HV := hide (HV.out.keep (HB1.out.tr hb) (Nat.le_refl _))
        have HW := hide (HW.out.tr (HB1.out.tr hb))
        clear hb HI HJ HB1
        go_wp2_with fail
        refine (in_nx10 _ _ _ HV.out).mono ?_
        rintro r w13 ⟨⟨a4, cap4, rfl, -⟩, hb⟩
        have HW := hide (HW.out.tr hb)
        clear hb HV
        go_wp2_with fail
        go_ret
        exact ⟨rfl, HW.out⟩
end Go.Proofs.YtccgpmncpemmdaaDoor
