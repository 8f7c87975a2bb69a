/- The source of a draft: stmt and block answer the model's, in new memory, and change only the source's own cells. -/
import Derived.Test.YtnkmbddjekepkaaGreatDoorMkF
namespace Go.Proofs.YtnkmbddjekepkaaGreatDoor
open Go Go.RowKit
set_option linter.unusedSimpArgs false
set_option linter.unusedVariables false
set_option linter.unnecessarySimpa false
theorem sstmt_any (sb left : Nat) (L : List Nat) (ht : Nat) (htb : ht ≤ 100) (w : World) (p : Nat) (h : Src w sb L p left) (blk : Sd → List St × Sd)
    (HB : Hid (∀ (q : Sd) (W : World), Src W sb L q.1 q.2 → Calls Tryz.prog 43 #[.pointer (some ⟨sb, 0, none⟩), .int .i64 ht] W (BlkPost W sb L (blk q)))) :
    Calls Tryz.prog 61 #[.pointer (some ⟨sb, 0, none⟩), .int .i64 ((ht : Int) + 1)] w (StPost w sb L (stmtD L blk (p, left))) := by
  have hk := nextD_lt L (n := 10) p (by omega)
  obtain ⟨k, p1, hq⟩ : ∃ k p1, nextD L 10 p = (k, p1) := ⟨_, _, rfl⟩
  rw [hq] at hk
  simp only at hk
  have hcast : ((ht + 1 : Nat) : Int) = (ht : Int) + 1 := by omega
  rw [← hcast]
  by_cases h0 : k = 0
  · exact sstmt_var sb left L _ w p h k p1 hq blk h0
  by_cases h1 : k = 1
  · exact sstmt_set2 sb left L _ w p h k p1 hq blk h1
  by_cases h2 : k = 2
  · exact sstmt_store sb left L _ w p h k p1 hq blk h2
  by_cases h3 : k = 3
  · exact sstmt_set4 sb left L _ w p h k p1 hq blk h3
  by_cases h4 : k = 4
  · exact sstmt_read sb left L _ w p h k p1 hq blk h4
  by_cases h5 : k = 5
  · exact sstmt_print sb left L _ w p h k p1 hq blk h5
  by_cases h6 : k = 6
  · have hc := nextD_lt L (n := 3) p1 (by omega)
    obtain ⟨c, p2, hq3⟩ : ∃ c p2, nextD L 3 p1 = (c, p2) := ⟨_, _, rfl⟩
    have hb := nextD_lt L (n := 2) (exprsD L (nextD L 3 p2).1 (nextD L 3 p2).2).2 (by omega)
    obtain ⟨b, p5, hq5⟩ : ∃ b p5, nextD L 2 (exprsD L (nextD L 3 p2).1 (nextD L 3 p2).2).2 = (b, p5) := ⟨_, _, rfl⟩
    rw [hq3] at hc
    rw [hq5] at hb
    simp only at hc hb
    have hc' : c = 0 ∨ c = 1 ∨ c = 2 := by omega
    have hb' : b = 0 ∨ b = 1 := by omega
    rcases hc' with hc' | hc' | hc' <;> rcases hb' with hb' | hb'
    · exact sstmt_call00 sb left L ht htb w p h k p1 hq blk h6 c p2 hq3 hc' b p5 hq5 hb'
    · exact sstmt_call01 sb left L ht htb w p h k p1 hq blk h6 c p2 hq3 hc' b p5 hq5 hb'
    · exact sstmt_call10 sb left L ht htb w p h k p1 hq blk h6 c p2 hq3 hc' b p5 hq5 hb'
    · exact sstmt_call11 sb left L ht htb w p h k p1 hq blk h6 c p2 hq3 hc' b p5 hq5 hb'
    · exact sstmt_call20 sb left L ht htb w p h k p1 hq blk h6 c p2 hq3 hc' b p5 hq5 hb'
    · exact sstmt_call21 sb left L ht htb w p h k p1 hq blk h6 c p2 hq3 hc' b p5 hq5 hb'
  by_cases h7 : k = 7
  · exact sstmt_return sb left L _ w p h k p1 hq blk h7
  by_cases h8 : k = 8
  · exact sstmt_if sb left L ht htb w p h k p1 hq blk h8 HB
  · exact sstmt_while sb left L ht htb w p h k p1 hq blk (by omega) HB
theorem roundsD_step {st : Sd → St × Sd} {k : Nat} {q : Sd} {l : List St} {p lf : Nat} (h : roundsD st k q = (l, p, lf)) (hl : lf ≠ 0) : roundsD st (k + 1) q = (l ++ [(st (p, lf - 1)).1], (st (p, lf - 1)).2) := by
  rw [roundsD, h]
  simp [hl]
theorem roundsD_stop {st : Sd → St × Sd} {k : Nat} {q : Sd} {l : List St} {p : Nat} (h : roundsD st k q = (l, p, 0)) : ∀ n, roundsD st (k + n) q = (l, p, 0)
  | 0 => h
  | n + 1 => by
    have := roundsD_stop h n
    rw [← Nat.add_assoc, roundsD, this]
    simp
theorem Src.c2 {w : World} {sb p left : Nat} {L : List Nat} (h : Src w sb L p left) : w.cell? ⟨sb, 2, none⟩ = some (.int .i64 left) ∧ w.frozen? ⟨sb, 2, none⟩ = false := by
  obtain ⟨a, cap, hs, _⟩ := h
  exact ⟨cell_at hs rfl, free_at hs⟩
set_option maxRecDepth 20000 in
set_option maxHeartbeats 2000000 in
theorem sblock_zero (sb : Nat) (L : List Nat) (q : Sd) (w : World) (h : Src w sb L q.1 q.2) :
    Calls Tryz.prog 43 #[.pointer (some ⟨sb, 0, none⟩), .int .i64 0] w (BlkPost w sb L (blockD L 0 q)) := by
  have HN := hide fun (W : World) (hW : Src W sb L q.1 q.2) => next_any sb q.2 4 q.1 L W hW (by omega) (by omega)
  have HSRC := hide h
  have hsb := h.lt
  clear h
  obtain ⟨n, p1, hq⟩ : ∃ n p1, nextD L 4 q.1 = (n, p1) := ⟨_, _, rfl⟩
  have hn := nextD_lt L (n := 4) q.1 (by omega)
  rw [hq] at hn HN
  have e : blockD L 0 q = ([], p1, q.2) := by rw [blockD, hq]
  rw [e]
  clear e hq
  go_enter Tryz.func43, Tryz.ntmps43
  go_wp2_with fail
  refine (HN.out _ HSRC.out).mono ?_
  rintro r w2 ⟨rfl, HS, hK⟩
  go_wp2_with fail
  go_loopw [5, 8] (fun v i wr => v = .slice none 0 0 ∧ i = .int .i64 0 ∧ w2 = wr) (fun _ i _ => n - (intOf i).toNat)
  case atStart => exact ⟨rfl, rfl, rfl⟩
  case round =>
    obtain ⟨rfl, rfl, rfl⟩ := hrel
    have hc2 := HS.c2
    obtain ⟨hc2, hf2⟩ := hc2
    rcases Nat.eq_zero_or_pos n with rfl | hn0
    · go_wp2_with fail
      go_ret
      exact ⟨⟨_, rfl, OwnL.nil _ _ _ _ _ _⟩, HS, hK⟩
    · have hn1 : (0 : Int) < (n : Int) := by omega
      rcases Nat.eq_zero_or_pos q.2 with hz | hz
      · rw [hz] at hc2
        go_wp2_with fail
        go_ret
        exact ⟨⟨_, rfl, OwnL.nil _ _ _ _ _ _⟩, HS, hK⟩
      · have hz1 : (((q.2 : Nat) : Int) == 0) = false := by simp; omega
        go_wp2_with fail
        go_ret
        exact ⟨⟨_, rfl, OwnL.nil _ _ _ _ _ _⟩, HS, hK⟩
set_option maxRecDepth 20000 in
set_option maxHeartbeats 4000000 in
theorem sblock_succ (sb : Nat) (L : List Nat) (ht : Nat) (htb : (ht : Int) ≤ 100) (q : Sd) (w : World) (h : Src w sb L q.1 q.2)
    (HB : Hid (∀ (q : Sd) (W : World), Src W sb L q.1 q.2 → Calls Tryz.prog 43 #[.pointer (some ⟨sb, 0, none⟩), .int .i64 ht] W (BlkPost W sb L (blockD L ht q)))) :
    Calls Tryz.prog 43 #[.pointer (some ⟨sb, 0, none⟩), .int .i64 ((ht : Int) + 1)] w (BlkPost w sb L (blockD L (ht + 1) q)) := by
  obtain ⟨i0, hi, hz0, hz1, hz2⟩ := info_parts info_st
  have HN := hide fun (W : World) (hW : Src W sb L q.1 q.2) => next_any sb q.2 4 q.1 L W hW (by omega) (by omega)
  have HST := hide fun (p left : Nat) (W : World) (hW : Src W sb L p left) => sstmt_any sb left L ht (by omega) W p hW (blockD L ht) HB
  have HSRC := hide h
  have hsb := h.lt
  clear h HB
  obtain ⟨n, p1, hq⟩ : ∃ n p1, nextD L 4 q.1 = (n, p1) := ⟨_, _, rfl⟩
  have hn := nextD_lt L (n := 4) q.1 (by omega)
  rw [hq] at hn HN
  have e : blockD L (ht + 1) q = roundsD (stmtD L (blockD L ht)) n (p1, q.2) := by rw [blockD, hq]
  rw [e]
  clear e hq
  obtain ⟨st, hst⟩ : ∃ st, st = stmtD L (blockD L ht) := ⟨_, rfl⟩
  rw [← hst] at HST ⊢
  clear hst
  obtain ⟨qq, hqq⟩ : ∃ qq : Sd, qq = (p1, q.2) := ⟨_, rfl⟩
  have HQQ := hide (show roundsD st 0 qq = ([], p1, q.2) by rw [hqq]; rfl)
  rw [← hqq]
  clear hqq
  go_enter Tryz.func43, Tryz.ntmps43
  go_wp2_with fail
  refine (HN.out _ HSRC.out).mono ?_
  rintro r w2 ⟨rfl, HS, hK⟩
  go_wp2_with fail
  go_loopw [5, 8] (fun v i wr => ∃ (k : Nat) (l : List St) (p' lf : Nat), k ≤ n ∧ i = .int .i64 k ∧ Hid (roundsD st k qq = (l, p', lf)) ∧ l.length ≤ k ∧ OwnL wr w.heap.size 84 8 StC (List.range w.heap.size) v l ∧ Src wr sb L p' lf ∧ Kept [sb] w wr) (fun _ i _ => n - (intOf i).toNat)
  case atStart => exact ⟨0, [], p1, q.2, Nat.zero_le _, rfl, HQQ, Nat.le_refl _, OwnL.nil _ _ _ _ _ _, HS, hK⟩
  case round =>
    obtain ⟨k, l, p', lf, hk, rfl, HR, hl, hown, hs, hKr⟩ := hrel
    have HOWN := hide hown
    obtain ⟨hc2, hf2⟩ := hs.c2
    have hlfb := hs.ple.2.2
    clear hown
    by_cases hlt : k < n
    · rcases Nat.eq_zero_or_pos lf with rfl | hlf
      · have HSTOP := hide (roundsD_stop HR.out (n - k))
        rw [show k + (n - k) = n by omega] at HSTOP
        go_wp2_with fail
        go_ret
        rw [HSTOP.out]
        exact ⟨⟨_, rfl, HOWN.out⟩, hs, hKr⟩
      · have hlf1 : ((lf : Int) == 0) = false := by simp; omega
        have hlf2 : (1 : Int) ≤ (lf : Int) := by omega
        have hht : ¬ ((ht : Int) + 1 < 1) := by omega
        have HSTEP := hide (roundsD_step HR.out (by omega))
        have hs1 := hs.set (p' := p') (left' := lf - 1) (.int .i64 ((lf : Int) - 1)) (.inr ⟨rfl, by rw [show (lf : Int) - 1 = ((lf - 1 : Nat) : Int) by omega], rfl, by omega⟩)
        have HS1 := hide hs1
        have hkset := hide ((Kept.refl [sb] wr).set (g := sb) (i := 2) (u := .int .i64 ((lf : Int) - 1)) (.inl (by simp)))
        have HOWN1 := hide (HOWN.out.kept StC.mono hkset.out (by simpa using hsb))
        clear hs1
        go_wp2_with fail
        (with_reducible refine (HST.out _ _ _ HS1.out).mono ?_)
        rintro r w3 ⟨⟨x, rfl, hx⟩, hs2, hK2⟩
        obtain ⟨pa, pb, pe, ca, cb, ce, rfl, hw, ha, hb, he⟩ := hx
        have hav := own_avoid HOWN1.out (Nat.le_refl _) (fun g hg => by have := List.mem_range.1 hg; have := hKr.size; simp [World.setCell]; omega)
        have HV := hide (fun o => (⟨pa, pb, pe, ca, cb, ce, rfl, hw, ha.has ((has_nw_av hav).tr (has_av_below ((bl w3).al o))), hb.has ((has_nw_av hav).tr (has_av_below ((bl w3).al o))), he.has ((has_nw_av hav).tr (has_av_below ((bl w3).al o)))⟩ : StC (av _ (w3.alloc o)) _ _))
        have HOWN2 := hide (HOWN1.out.kept StC.mono hK2 (by simpa using hsb))
        have hw3 := hK2.size
        have hw0 := hKr.size
        have hKk := hide ((hKr.tr hkset.out).tr hK2)
        clear hw ha hb he hav hK2
        go_wp2_with (at_builtin; refine wpList_push _ rfl _ _ 28 rfl w.heap.size 84 i0 _ 8 128 Tryz.underlying28 hi hz0 hz1 hz2 rfl (by decide) StC StC.mono (List.range w.heap.size) _ l rfl (HOWN2.out.al StC.mono _) ⟨w3.heap.size, 0, none⟩ 1 _ (st (p', lf - 1)).1 rfl rfl (news_row _ _ _ _ rfl) (by simp [Value.oneCell']) (HV.out _) (by unfold maxLen; omega) (by omega) (by simp [World.setCell] at hw3; simp; omega) ?_; intro v' w4 hown3 hgrow)
        have hbk := fun k hk => (HOWN.out.lt k hk).1
        go_roundw
        case rel =>
          refine ⟨k + 1, _, _, _, by omega, by go_num, HSTEP, by simp; omega, hown3, (hs2.al _).grown hgrow (fun k hk => Nat.lt_of_lt_of_le hsb (hbk k hk)), (hKk.out.al _).grown hgrow (fun k hk => .inr (hbk k hk))⟩
        case measure => simp [intOf]; omega
    · obtain rfl : k = n := by omega
      go_wp2_with fail
      go_ret
      rw [HR.out]
      exact ⟨⟨_, rfl, HOWN.out⟩, hs, hKr⟩
theorem sblock_any (sb : Nat) (L : List Nat) : ∀ (ht : Nat), ht ≤ 100 → ∀ (q : Sd) (W : World), Src W sb L q.1 q.2 → Calls Tryz.prog 43 #[.pointer (some ⟨sb, 0, none⟩), .int .i64 ht] W (BlkPost W sb L (blockD L ht q))
  | 0, _, q, W, h => sblock_zero sb L q W h
  | ht + 1, hb, q, W, h => by
    have := sblock_succ sb L ht (by omega) q W h (hide (sblock_any sb L ht (by omega)))
    rw [show ((ht + 1 : Nat) : Int) = (ht : Int) + 1 by omega]
    exact this
end Go.Proofs.YtnkmbddjekepkaaGreatDoor
