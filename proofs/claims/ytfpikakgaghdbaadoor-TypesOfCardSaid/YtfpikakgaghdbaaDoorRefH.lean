/- slices.Clone and slices.Equal on lists of variables in memory. -/
import Derived.Test.YtfpikakgaghdbaaDoorRefG
import Derived.Laws.Cover3
import Derived.BigQuiet
import Derived.Deep.QuietTactic
namespace Go.Proofs.YtfpikakgaghdbaaDoor
open Go Go.RowKit
theorem vrs_cell {w : World} {l : List Vr} {ad : Addr} {cap : Nat} (h : Vrs w l (some ad) cap) : ∀ (j : Nat) (u : Value), (l.flatMap Vr.cells')[j]? = some u → w.cell? (ad.add j) = some u := by
  intro j u hu
  have hj : j < l.length * 5 := by
    rw [← vr_cells_len]
    exact (List.getElem?_eq_some_iff.1 hu).1
  obtain ⟨b, o, e⟩ := h.addr (by omega)
  cases e
  have hi : j / 5 < l.length := by omega
  obtain ⟨c0, c1, c2, c3, c4⟩ := h.at_ b o rfl (j / 5) hi
  rw [Addr.add_lit]
  have hr : j = j / 5 * 5 + j % 5 := by omega
  have h5 : j % 5 < 5 := by omega
  have key := vr_cells_get l (j / 5) (j % 5)
  generalize j % 5 = r at *
  generalize j / 5 = q at *
  subst hr
  have hr5 : r = 0 ∨ r = 1 ∨ r = 2 ∨ r = 3 ∨ r = 4 := by omega
  rcases hr5 with rfl | rfl | rfl | rfl | rfl
  · rw [key _ hi rfl (by omega)] at hu; cases hu; exact c0
  · rw [key _ hi rfl (by omega)] at hu; cases hu; exact c1
  · rw [key _ hi rfl (by omega)] at hu; cases hu; exact c2
  · rw [key _ hi rfl (by omega)] at hu; cases hu; exact c3
  · rw [key _ hi rfl (by omega)] at hu; cases hu; exact c4
theorem eql_nil_vars (a : Option Addr) (l c : Nat) (w : World) : (binOp .eql 31 (.slice a l c) (.slice none 0 0)).run Tryd.prog w = .ok (.bool a.isNone) w := by
  simp only [binOp]
  simp [run_equal_slice_nil w 31 47 a l c Tryd.underlying31]
set_option maxRecDepth 20000 in
set_option maxHeartbeats 2000000 in
theorem cloneVars_any (l : List Vr) (a : Option Addr) (cap : Nat) (w : World) (hl : Vrs w l a cap) (hsm : l.length ≤ 60) :
    Calls Tryd.prog 20 #[.slice a l.length cap] w fun e w' => Hid (∃ a' cap', e = .returned (.slice a' l.length cap') ∧ Vrs w' l a' cap') ∧ Below w.heap.size w w' := by
  obtain ⟨i0, hi, hz0, hz1, hz2⟩ := info_parts info_var
  cases a with
  | none =>
    have h0 : l = [] := by
      cases l with
      | nil => rfl
      | cons v l => obtain ⟨b, o, h⟩ := hl.addr (by simp); cases h
    subst h0
    clear hl hsm
    go_enter Tryd.func20, Tryd.ntmps20
    have heq := eql_nil_vars none 0 cap w
    simp only [Option.isNone_none] at heq
    go_wp2_with fail
    go_ret
    exact ⟨⟨none, 0, rfl, ⟨Nat.le_refl _, by unfold maxLen; omega, by simp, by simp, fun b o e => by cases e⟩⟩, bl w⟩
  | some ad =>
    have HL := hide hl
    clear hl
    go_enter Tryd.func20, Tryd.ntmps20
    have heq := eql_nil_vars (some ad) l.length cap w
    simp only [Option.isNone_some] at heq
    have HC := hide (vrs_cell HL.out)
    have HO : (w.alloc (.cells #[] 47)).ownsRow w.heap.size 47 5 (.slice (some ⟨w.heap.size, 0, none⟩) 0 0) 0 [] :=
      ⟨rfl, .inr ⟨w.heap.size, 0, #[], rfl, Nat.le_refl _, by show (w.heap.push _)[w.heap.size]? = _; simp, Nat.le_refl _, Nat.zero_le _, rfl, rfl⟩⟩
    have HOW := hide HO
    have HLEN := hide (vr_cells_len l)
    have HONE : Hid (∀ u ∈ l.flatMap Vr.cells', u.oneCell' = true) := hide (by
      intro u hu
      obtain ⟨v, _, hv⟩ := List.mem_flatMap.1 hu
      simp only [Vr.cells', List.mem_cons, List.not_mem_nil, or_false] at hv
      rcases hv with rfl | rfl | rfl | rfl | rfl <;> rfl)
    clear HO
    go_wp2_with (at_builtin; refine wpList_append_own _ rfl _ _ 31 rfl w.heap.size 47 i0 (.agg #[.string ⟨#[]⟩, .int .i64 0, .int .i64 0, .int .i64 0, .int .i64 0]) 5 48 Tryd.underlying31 hi hz0 hz1 hz2 rfl (by decide) _ 0 [] rfl HOW.out ad l.length cap (l.flatMap Vr.cells') rfl HLEN.out (fun j u h => cell_keep (HC.out j u h) ((bl w).al _) (Nat.le_refl _)) HONE.out (by unfold maxLen; omega) (by omega) (by simp) ?_; intro v' w3 hown' hgrow _)
    have hb3 : Below w.heap.size w w3 := ((bl w).al _).grown hgrow (by simp) (fun j hj => by have := (HOW.out.lt j hj).1; omega)
    go_ret
    simp only [Nat.zero_add, List.nil_append] at hown'
    obtain ⟨a', cap', rfl, hv⟩ := own_vrs rfl HL.out.wf hown'
    exact ⟨⟨a', cap', rfl, hv⟩, hb3⟩
set_option maxHeartbeats 2000000 in
theorem equalVars_any (l : List Vr) (a a' : Option Addr) (cap cap' : Nat) (w : World) (hl : Vrs w l a cap) (hl' : Vrs w l a' cap') :
    Calls Tryd.prog 26 #[.slice a l.length cap, .slice a' l.length cap'] w fun e w' => e = .returned (.bool true) ∧ Below w.heap.size w w' := by
  have hlen : l.length ≤ 9223372036854775807 := Nat.le_trans hl.len hl.cap
  have HL := hide hl
  have HL' := hide hl'
  clear hl hl'
  go_enter Tryd.func26, Tryd.ntmps26
  go_wp2_with fail
  go_loopw [13] (fun i wr => ∃ k : Nat, k ≤ l.length ∧ i = .int .i64 k ∧ Below w.heap.size w wr) (fun i _ => l.length - (intOf i).toNat)
  case atStart => exact ⟨0, Nat.zero_le _, rfl, bl _⟩
  case round =>
    obtain ⟨k, hk, rfl, hb⟩ := hrel
    by_cases hlt : k < l.length
    · obtain ⟨b, o, rfl⟩ := HL.out.addr (by omega)
      obtain ⟨b', o', rfl⟩ := HL'.out.addr (by omega)
      obtain ⟨c0, c1, c2, c3, c4⟩ := (HL.out.at_ b o rfl k hlt).keep hb (Nat.le_refl _)
      obtain ⟨d0, d1, d2, d3, d4⟩ := (HL'.out.at_ b' o' rfl k hlt).keep hb (Nat.le_refl _)
      have hlt1 : (k : Int) < (l.length : Int) := by omega
      go_wp2_with fail
      go_quiet (fail)
      go_wp2_with fail
      go_roundw
      case rel => exact ⟨k + 1, by omega, by go_num, below_drewN hb _⟩
      case measure => simp [intOf]; omega
    · obtain rfl : k = l.length := by omega
      go_wp2_with fail
      go_ret
      exact ⟨rfl, hb⟩
end Go.Proofs.YtfpikakgaghdbaaDoor
