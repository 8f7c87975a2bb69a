/- The source of a draft: exprs answers the model's expressions, in new memory, and changes only the source's own cells. -/
import Derived.Test.YtnkmbddjekepkaaGreatDoorMkC
namespace Go.Proofs.YtnkmbddjekepkaaGreatDoor
open Go Go.RowKit
set_option linter.unusedSimpArgs false
set_option linter.unusedVariables false
set_option linter.unnecessarySimpa false
/-- What a part of the source answers of expressions. -/
def ExsPost (w : World) (sb : Nat) (L : List Nat) (left : Nat) (q : List Ex × Nat) (r : Ending) (w' : World) : Prop :=
  (∃ v, r = .returned v ∧ OwnL w' w.heap.size 110 5 ExC (List.range w.heap.size) v q.1) ∧ Src w' sb L q.2 left ∧ Kept [sb] w w'
theorem sexpr3_any (sb left : Nat) (L : List Nat) (w : World) (p : Nat) (h : Src w sb L p left) : Calls Tryz.prog 97 #[.pointer (some ⟨sb, 0, none⟩), .int .i64 3] w (ExPost w sb L left (exprD L 3 p)) :=
  sexpr_any sb left L 3 (by omega) (by omega) w p h
set_option maxRecDepth 20000 in
set_option maxHeartbeats 2000000 in
theorem sexprs_any (sb left : Nat) (L : List Nat) (n : Nat) (hn : n ≤ 10) (w : World) (p : Nat) (h : Src w sb L p left) :
    Calls Tryz.prog 81 #[.pointer (some ⟨sb, 0, none⟩), .int .i64 n] w (ExsPost w sb L left (exprsD L n p)) := by
  obtain ⟨i0, hi, hz0, hz1, hz2⟩ := info_parts info_ex
  have HE := hide fun (p : Nat) (W : World) (hW : Src W sb L p left) => sexpr3_any sb left L W p hW
  have hsb := h.lt
  have HSRC := hide h
  clear h
  go_enter Tryz.func81, Tryz.ntmps81
  go_wp2_with fail
  go_loopw [5, 7] (fun v i wr => ∃ k : Nat, k ≤ n ∧ i = .int .i64 k ∧ OwnL wr w.heap.size 110 5 ExC (List.range w.heap.size) v (exprsD L k p).1 ∧ Src wr sb L (exprsD L k p).2 left ∧ Kept [sb] w wr) (fun _ i _ => n - (intOf i).toNat)
  case atStart => exact ⟨0, Nat.zero_le _, rfl, OwnL.nil _ _ _ _ _ _, HSRC.out, Kept.refl _ _⟩
  case round =>
    obtain ⟨k, hk, rfl, hown, hs, hK⟩ := hrel
    have HOWN := hide hown
    clear hown
    by_cases hlt : k < n
    · have hl9 : (exprsD L k p).1.length + 1 ≤ 20 := by rw [exprsD_len]; omega
      have HST := hide (show exprsD L (k + 1) p = ((exprsD L k p).1 ++ [(exprD L 3 (exprsD L k p).2).1], (exprD L 3 (exprsD L k p).2).2) from rfl)
      go_wp2_with fail
      (with_reducible refine (HE.out _ _ hs).mono ?_)
      rintro r w2 ⟨⟨x, rfl, hx⟩, hs2, hK2⟩
      obtain ⟨ea, ecap, rfl, hew, her⟩ := hx
      have HOWN2 := hide (HOWN.out.kept ExC.mono hK2 (by simpa using hsb))
      have hav := own_avoid HOWN.out (Nat.le_refl _) (fun g hg => by have := List.mem_range.1 hg; have := hK.size; omega)
      have HV := hide (fun o => (⟨ea, ecap, rfl, hew, her.has ((has_nw_av hav).tr (has_av_below ((bl w2).al o)))⟩ : ExC (av _ (w2.alloc o)) _ _))
      have hw2 := hK2.size
      have hw0 := hK.size
      clear hew her hav
      go_wp2_with (at_builtin; refine wpList_push _ rfl _ _ 82 rfl w.heap.size 110 i0 _ 5 64 Tryz.underlying82 hi hz0 hz1 hz2 rfl (by decide) ExC ExC.mono (List.range w.heap.size) _ (exprsD L k p).1 rfl (HOWN2.out.al ExC.mono _) ⟨w2.heap.size, 0, none⟩ 1 _ (exprD L 3 (exprsD L k p).2).1 rfl rfl (news_row _ _ _ _ rfl) (by simp [Value.oneCell']) (HV.out _) (by unfold maxLen; omega) (by omega) (by simp; omega) ?_; intro v' w3 hown3 hgrow)
      have hbk := fun k hk => (HOWN.out.lt k hk).1
      go_roundw
      case rel =>
        refine ⟨k + 1, by omega, by go_num, ?_, ?_, ((hK.tr hK2).al _).grown hgrow (fun k hk => .inr (hbk k hk))⟩
        · rw [HST.out]; exact hown3
        · rw [HST.out]; exact (hs2.al _).grown hgrow (fun k hk => Nat.lt_of_lt_of_le hsb (hbk k hk))
      case measure => simp [intOf]; omega
    · obtain rfl : k = n := by omega
      go_wp2_with fail
      go_ret
      exact ⟨⟨_, rfl, HOWN.out⟩, hs, hK⟩
end Go.Proofs.YtnkmbddjekepkaaGreatDoor
