/- shape.clone answers a row of its own with equal expressions. -/
import Derived.Test.YthpmecbekpmijaaGreatDoorSpJ
namespace Go.Proofs.YthpmecbekpmijaaGreatDoor
open Go Go.RowKit
set_option linter.unusedSimpArgs false
set_option linter.unusedVariables false
set_option linter.unnecessarySimpa false
/-- The five cells of an expression. -/
structure ExCells (w : World) (b o : Nat) (e : Ex) (va : Value) : Prop where
  c0 : w.cell? ⟨b, o, none⟩ = some (.int .i64 e.kind)
  c1 : w.cell? ⟨b, o + 1, none⟩ = some (.int .i64 e.op)
  c2 : w.cell? ⟨b, o + 2, none⟩ = some (.int .i64 e.num)
  c3 : w.cell? ⟨b, o + 3, none⟩ = some (.string ⟨e.name.toArray⟩)
  c4 : w.cell? ⟨b, o + 4, none⟩ = some va
theorem ExCells.has {w w' : World} {b o : Nat} {e : Ex} {va : Value} (h : ExCells w b o e va) (hh : ∀ j v, o ≤ j → j < o + 5 → w.cell? ⟨b, j, none⟩ = some v → w'.cell? ⟨b, j, none⟩ = some v) : ExCells w' b o e va :=
  ⟨hh _ _ (by omega) (by omega) h.c0, hh _ _ (by omega) (by omega) h.c1, hh _ _ (by omega) (by omega) h.c2, hh _ _ (by omega) (by omega) h.c3, hh _ _ (by omega) (by omega) h.c4⟩
theorem ExCells.at {w : World} {b o : Nat} {e : Ex} {a : Option Addr} {cap : Nat} (h : ExCells w b o e (.slice a e.args.length cap)) (hw : ExWf e.kind e.op e.num e.name e.args.length cap) (hr : Ex.Row w e.args a) : Ex.At w e b o := by
  cases e
  simp only [Ex.At]
  exact ⟨a, cap, h.c0, h.c1, h.c2, h.c3, h.c4, hw, hr⟩
theorem set_other {w : World} {g i j : Nat} {u v : Value} (h : w.cell? ⟨g, j, none⟩ = some v) (hj : j ≠ i) : (w.setCell ⟨g, i, none⟩ u).cell? ⟨g, j, none⟩ = some v := by
  exact (World.cell?_setCell_other w ⟨g, i, none⟩ ⟨g, j, none⟩ u (by simp only [ne_eq, Addr.mk.injEq, and_true, true_and]; exact fun e => hj e.symm)).trans h
theorem set_same {w : World} {g i : Nat} {u v : Value} (h : w.cell? ⟨g, i, none⟩ = some v) : (w.setCell ⟨g, i, none⟩ u).cell? ⟨g, i, none⟩ = some u := World.cell?_setCell_same w ⟨g, i, none⟩ u h
/-- The row in block g: the first k expressions with rows of their own, the others as they were. -/
def CloAt (wr : World) (g k : Nat) (l : List Ex) : Prop :=
  ∀ (i : Nat) (h : i < l.length), ∃ (a : Option Addr) (c : Nat), ExCells wr g (i * 5) l[i] (.slice a l[i].args.length c) ∧ ExWf l[i].kind l[i].op l[i].num l[i].name l[i].args.length c ∧ (i < k → Ex.Row (onl (g + 1) wr.heap.size wr) l[i].args a) ∧ (k ≤ i → Ex.Row (av [g] wr) l[i].args a)
theorem stay_of_kept {l : List Nat} {lo hi : Nat} {w w' : World} (h : Kept l w w') (hl : ∀ g ∈ l, g < lo) : Stay lo hi w w' := Stay.of h fun g hg => .inl (hl g hg)
theorem has_onl_kept {l : List Nat} {lo : Nat} {w w' : World} (h : Kept l w w') (hl : ∀ g ∈ l, g < lo) : Has (onl lo w.heap.size w) (onl lo w'.heap.size w') :=
  (has_stay (stay_of_kept h hl)).tr (has_onl_sub (Nat.le_refl _) h.size)
theorem CloAt.step {wr w2 : World} {g k : Nat} {l : List Ex} (h : CloAt wr g k l) (hlt : k < l.length) (hb : Below wr.heap.size wr w2) (hg : g < wr.heap.size) {a' : Option Addr} {cap' lo : Nat} (hlo : g + 1 ≤ lo) (hr : Ex.Row (onl lo w2.heap.size w2) l[k].args a')
    (h1 : l[k].args.length ≤ cap') (h2 : cap' ≤ maxLen) : CloAt (w2.setCell ⟨g, k * 5 + 4, none⟩ (.slice a' l[k].args.length cap')) g (k + 1) l := by
  have hK : Kept [g] wr (w2.setCell ⟨g, k * 5 + 4, none⟩ (.slice a' l[k].args.length cap')) := ((kept_below (l := []) hb).sub (m := [g]) (by simp)).set (.inl (by simp)) _ _
  have hK2 : Kept [g] w2 (w2.setCell ⟨g, k * 5 + 4, none⟩ (.slice a' l[k].args.length cap')) := (Kept.refl [g] w2).set (.inl (by simp)) _ _
  intro i hi
  obtain ⟨a, c, hc, hw, hr1, hr2⟩ := h i hi
  by_cases e : i = k
  · subst e
    have hc2 : ExCells w2 g (i * 5) l[i] (.slice a l[i].args.length c) := hc.has fun j v _ _ hv => cell_keep hv hb (Nat.le_refl _)
    refine ⟨a', cap', ⟨set_other hc2.c0 (by omega), set_other hc2.c1 (by omega), set_other hc2.c2 (by omega), set_other hc2.c3 (by omega), set_same hc2.c4⟩, ⟨hw.k, hw.o, hw.n, hw.s, h1, h2⟩, fun _ => ?_, fun h => absurd h (by omega)⟩
    exact hr.has ((has_onl_sub hlo (Nat.le_refl _)).tr (has_onl_kept hK2 (by simp)))
  · refine ⟨a, c, hc.has fun j v h1 h2 hv => set_other (cell_keep hv hb (Nat.le_refl _)) (by omega), hw, fun h => ?_, fun h => ?_⟩
    · exact (hr1 (by omega)).has (has_onl_kept hK (by simp))
    · exact (hr2 (by omega)).has (has_kept hK)
theorem CloAt.row {wr : World} {g k lo : Nat} {l : List Ex} (h : CloAt wr g l.length l) (hg : lo ≤ g) (hgl : g < wr.heap.size) : Ex.Row (onl lo wr.heap.size wr) l (some ⟨g, 0, none⟩) := by
  refine Ex.Row.of fun i hi => ?_
  obtain ⟨a, c, hc, hw, hr, _⟩ := h i hi
  rw [Nat.zero_add]
  have hh : ExCells (onl lo wr.heap.size wr) g (i * 5) l[i] (.slice a l[i].args.length c) := hc.has fun j v _ _ hv => onl_cell.2 ⟨⟨hg, hgl⟩, hv⟩
  exact hh.at hw ((hr hi).has (has_onl_sub (by omega) (Nat.le_refl _)))
/-- What clone answers. -/
def CloPost (w : World) (l : List Ex) (r : Ending) (w' : World) : Prop :=
  (∃ (a : Option Addr) (cap : Nat), r = .returned (.slice a l.length cap) ∧ l.length ≤ cap ∧ cap ≤ maxLen ∧ Ex.Row (onl w.heap.size w'.heap.size w') l a) ∧ Below w.heap.size w w'
theorem CloAt.of {w : World} {base : Nat} {v : Value} {l : List Ex} (h : OwnL w base 27 5 ExC [] v l) {g cap : Nat} (hv : v = .slice (some ⟨g, 0, none⟩) l.length cap) : CloAt w g 0 l := by
  intro i hi
  obtain ⟨_, _, c, _, hx, _, hc⟩ := h.get ExC.mono hv i hi
  obtain ⟨a, cp, rfl, hw, hr⟩ := hx
  exact ⟨a, cp, ⟨by simpa using hc 0 _ rfl, hc 1 _ rfl, hc 2 _ rfl, hc 3 _ rfl, hc 4 _ rfl⟩, hw, fun h => absurd h (Nat.not_lt_zero _), fun _ => hr⟩
/-- The block of a slice of the call's own. -/
theorem OwnL.block {α : Type} {w : World} {base sz : Nat} {t : TypeId} {V : World → α → List Value → Prop} {ban : List Nat} {v : Value} {l : List α} (h : OwnL w base t sz V ban v l) : v = .slice none 0 0 ∧ l = [] ∨ ∃ g cap C, v = .slice (some ⟨g, 0, none⟩) l.length cap ∧ base ≤ g ∧ g < w.heap.size ∧ w.heap[g]? = some (.cells C t (0, 0)) ∧ l.length ≤ cap ∧ cap ≤ maxLen := by
  obtain ⟨xs, hown, hcut⟩ := h
  rcases hown.2 with ⟨rfl, h0⟩ | ⟨g, cap, cur, rfl, hbg, hgg, h1, h2, _⟩
  · exact .inl ⟨rfl, List.eq_nil_of_length_eq_zero h0⟩
  · exact .inr ⟨g, cap, cur, rfl, hbg, (Array.getElem?_eq_some_iff.1 hgg).1, hgg, h1, h2⟩
set_option maxRecDepth 20000 in
set_option maxHeartbeats 4000000 in
theorem clone_any : ∀ (m : Nat) (l : List Ex) (a : Option Addr) (cap : Nat) (w : World), (∀ e ∈ l, depthM m e ≠ 0) → l.length ≤ 1000 → Ex.Row w l a → Calls Tryz.prog 78 #[.slice a l.length cap] w (CloPost w l) := by
  intro m
  induction m with
  | zero =>
    intro l a cap w hd hl hr
    have hC := clone_exs l a cap w hr (by omega)
    obtain rfl : l = [] := by
      rcases l with _ | ⟨x, l⟩
      · rfl
      · exact absurd rfl (hd x (by simp))
    have HC := hide hC
    clear hC hd hl hr
    go_enter Tryz.func78, Tryz.ntmps78
    go_wp2_with fail
    refine HC.out.mono ?_
    rintro r w1 ⟨⟨v, rfl, hown⟩, hb⟩
    obtain ⟨a', cap', rfl, h1, h2⟩ := hown.slice
    clear hown
    go_wp2_with fail
    go_loopw [4, 10] (fun _ i wr => i = .int .i64 0 ∧ w1 = wr) (fun _ _ _ => 0)
    case atStart => exact ⟨rfl, rfl⟩
    case round =>
      obtain ⟨rfl, rfl⟩ := hrel
      go_wp2_with fail
      go_ret
      exact ⟨⟨a', cap', rfl, h1, h2, by simp only [Ex.Row]⟩, hb⟩
  | succ m ih =>
    intro l a cap w hd hl hr
    have hC := clone_exs l a cap w hr (by omega)
    have HC := hide hC
    have HD := hide hd
    have IH := hide ih
    have hl2 : l.length ≤ 1000 := hl
    clear hC hd hr ih
    go_enter Tryz.func78, Tryz.ntmps78
    go_wp2_with fail
    (with_reducible refine HC.out.mono ?_)
    rintro r w1 ⟨⟨v, rfl, hown⟩, hb⟩
    rcases hown.block with ⟨rfl, rfl⟩ | ⟨g, cap', C, hv, hg0, hg1, hgC, h1, h2⟩
    · clear hown
      go_wp2_with fail
      go_loopw [4, 10] (fun _ i wr => i = .int .i64 0 ∧ w1 = wr) (fun _ _ _ => 0)
      case atStart => exact ⟨rfl, rfl⟩
      case round =>
        obtain ⟨rfl, rfl⟩ := hrel
        go_wp2_with fail
        go_ret
        exact ⟨⟨none, 0, rfl, Nat.le_refl _, Nat.zero_le _, by simp only [Ex.Row]⟩, hb⟩
    · have HCA := hide (CloAt.of hown hv)
      subst hv
      have HGC := hide hgC
      have HH1 := hide h1
      have HH2 := hide h2
      clear hown hgC h1 h2
      go_wp2_with fail
      go_loopw [4, 10] (fun _ i wr => ∃ k : Nat, k ≤ l.length ∧ i = .int .i64 k ∧ Hid (CloAt wr g k l) ∧ Hid (∃ C, wr.heap[g]? = some (.cells C 27 (0, 0))) ∧ Below w.heap.size w wr) (fun _ i _ => l.length - (intOf i).toNat)
      case atStart => exact ⟨0, Nat.zero_le _, rfl, HCA.out, ⟨C, HGC.out⟩, hb⟩
      case round =>
        obtain ⟨k, hk, rfl, HA, HG, hbr⟩ := hrel
        obtain ⟨D, hD⟩ := HG.out
        have hgl := (Array.getElem?_eq_some_iff.1 hD).1
        have HGD := hide hD
        clear hD
        by_cases hlt : k < l.length
        · obtain ⟨ax, cx, hcs, hw, _, hrow⟩ := HA.out k hlt
          obtain ⟨c0, c1, c2, c3, c4⟩ := hcs
          obtain ⟨hf, hkd⟩ := depthM_kids (HD.out _ (List.getElem_mem hlt))
          have hal := fits_args hf
          have HIH := hide fun (W : World) (hW : Below wr.heap.size wr W) => IH.out l[k].args ax cx W hkd (by omega) (((hrow (Nat.le_refl _)).has has_av).has (has_below hW))
          clear hrow hf hkd hw
          go_wp2_with fail
          (with_reducible refine (HIH.out _ ((bl wr).al _)).mono ?_)
          rintro r w2 ⟨⟨a2, cap2, rfl, q1, q2, q3⟩, hb2⟩
          have hB2 := ((bl wr).al (.cells #[.int .i64 l[k].kind, .int .i64 l[k].op, .int .i64 l[k].num, .string ⟨l[k].name.toArray⟩, .slice ax l[k].args.length cx] 27)).tr hb2
          have HD2 := hide ((hB2.block g hgl).trans HGD.out)
          have d4 := cell_keep c4 hB2 (Nat.le_refl _)
          have y4 := free_at (j := k * 5 + 4) HD2.out
          have HST := hide (HA.out.step hlt hB2 hgl (by simp; omega) q3 q1 q2)
          have hgl2 := Nat.lt_of_lt_of_le hgl hB2.size
          clear q3 hb2 c0 c1 c2 c3 c4
          go_wp2_with fail
          go_roundw
          case rel =>
            exact ⟨k + 1, by omega, by go_num, HST.out, ⟨_, heap_set HD2.out _⟩, (hbr.tr hB2).setCell hg0 _⟩
          case measure => simp [intOf]; omega
        · obtain rfl : k = l.length := by omega
          have HROW := hide (HA.out.row (k := 0) hg0 hgl)
          go_wp2_with fail
          go_ret
          exact ⟨⟨_, cap', rfl, HH1.out, HH2.out, HROW.out⟩, hbr⟩
end Go.Proofs.YthpmecbekpmijaaGreatDoor
