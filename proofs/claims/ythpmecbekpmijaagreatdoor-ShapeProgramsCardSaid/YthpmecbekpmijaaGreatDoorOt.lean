/- Statements in rows of the call's own, block by block: what may be numbered in place. -/
import Derived.Test.YthpmecbekpmijaaGreatDoorEq
import Derived.Test.YthpmecbekpmijaaGreatDoorFrm
namespace Go.Proofs.YthpmecbekpmijaaGreatDoor
open Go Go.RowKit
set_option linter.unusedSimpArgs false
set_option linter.unusedVariables false
set_option linter.unnecessarySimpa false
/-- The world with the blocks from lo up to hi alone. -/
def onl (lo hi : Nat) (w : World) : World := { w with heap := w.heap.mapIdx fun i o => if lo ≤ i ∧ i < hi then o else .cells #[] 0 (0, 0) }
theorem onl_cell {lo hi : Nat} {w : World} {b o : Nat} {v : Value} : (onl lo hi w).cell? ⟨b, o, none⟩ = some v ↔ (lo ≤ b ∧ b < hi) ∧ w.cell? ⟨b, o, none⟩ = some v := by
  unfold World.cell? onl
  simp only [Array.getElem?_mapIdx]
  cases h : w.heap[b]? with
  | none => simp
  | some x =>
    by_cases hb : lo ≤ b ∧ b < hi
    · simp [hb]
    · simp [hb]
theorem has_onl {lo hi : Nat} {w : World} : Has (onl lo hi w) w := fun _ _ _ h => (onl_cell.1 h).2
/-- The blocks from lo up to hi are as they were. -/
def Stay (lo hi : Nat) (w w' : World) : Prop := ∀ b, lo ≤ b → b < hi → b < w.heap.size → w'.heap[b]? = w.heap[b]?
theorem Stay.sub {lo hi lo' hi' : Nat} {w w' : World} (h : Stay lo hi w w') (h1 : lo ≤ lo') (h2 : hi' ≤ hi) : Stay lo' hi' w w' := fun b hb hb' hs => h b (by omega) (by omega) hs
theorem Stay.of {l : List Nat} {lo hi : Nat} {w w' : World} (h : Kept l w w') (hl : ∀ g ∈ l, g < lo ∨ hi ≤ g) : Stay lo hi w w' := fun b hb hb' hs => h.block b hs fun hg => by have := hl b hg; omega
theorem cell_block {w w' : World} {b o : Nat} (h : w'.heap[b]? = w.heap[b]?) : w'.cell? ⟨b, o, none⟩ = w.cell? ⟨b, o, none⟩ := by
  unfold World.cell?
  rw [h]
theorem has_stay {lo hi : Nat} {w w' : World} (h : Stay lo hi w w') : Has (onl lo hi w) (onl lo hi w') := fun b o v hv => by
  obtain ⟨h1, h2⟩ := onl_cell.1 hv
  exact onl_cell.2 ⟨h1, (cell_block (h b h1.1 h1.2 (cell_lt h2))).trans h2⟩
mutual
/-- The statement number i of the row in block g; what hangs on it lies in the blocks from lo up to hi. -/
def St.Own (w : World) : St → Nat → Nat → Nat → Nat → Prop
  | .mk k n s t c xs bs es, g, i, lo, hi => ∃ (pa pb pe : Option Addr) (ca cb ce m1 m2 : Nat), StCells w g (i * 8) k n s t c (.slice pa xs.length ca) (.slice pb bs.length cb) (.slice pe es.length ce) ∧
      StWf k n s t c xs.length ca bs.length cb es.length ce ∧ lo ≤ m1 ∧ m1 ≤ m2 ∧ m2 ≤ hi ∧ Ex.Row (onl lo m1 w) xs pa ∧ rowOwn w bs pb m1 m2 ∧ rowOwn w es pe m2 hi
/-- The statements from number i on of the row in block g. -/
def elsOwn (w : World) : List St → Nat → Nat → Nat → Nat → Prop
  | [], _, _, lo, hi => lo ≤ hi
  | s :: l, g, i, lo, hi => ∃ m, lo ≤ m ∧ m ≤ hi ∧ St.Own w s g i lo m ∧ elsOwn w l g (i + 1) m hi
/-- A row of statements, and all that hangs on it, in the blocks from lo up to hi. -/
def rowOwn (w : World) : List St → Option Addr → Nat → Nat → Prop
  | [], _, lo, hi => lo ≤ hi
  | s :: l, a, lo, hi => ∃ (g m : Nat) (C : Array Value) (t : TypeId), a = some ⟨g, 0, none⟩ ∧ lo ≤ g ∧ g < hi ∧ w.heap[g]? = some (.cells C t (0, 0)) ∧ g + 1 ≤ m ∧ m ≤ hi ∧ St.Own w s g 0 (g + 1) m ∧ elsOwn w l g 1 m hi
end
/-- The cells of a row from one statement up to another are as they were. -/
def Cells (g i n : Nat) (w w' : World) : Prop := ∀ (j : Nat) (v : Value), i * 8 ≤ j → j < n * 8 → w.cell? ⟨g, j, none⟩ = some v → w'.cell? ⟨g, j, none⟩ = some v
theorem StCells.keep {w w' : World} {g i : Nat} {k n : Int} {s : Bytes} {t : Int} {c : Bytes} {va vb ve : Value} (h : StCells w g (i * 8) k n s t c va vb ve) (hc : Cells g i (i + 1) w w') : StCells w' g (i * 8) k n s t c va vb ve :=
  ⟨hc _ _ (by omega) (by omega) h.c0, hc _ _ (by omega) (by omega) h.c1, hc _ _ (by omega) (by omega) h.c2, hc _ _ (by omega) (by omega) h.c3, hc _ _ (by omega) (by omega) h.c4, hc _ _ (by omega) (by omega) h.c5, hc _ _ (by omega) (by omega) h.c6, hc _ _ (by omega) (by omega) h.c7⟩
theorem Cells.sub {g i n i' n' : Nat} {w w' : World} (h : Cells g i n w w') (h1 : i ≤ i') (h2 : n' ≤ n) : Cells g i' n' w w' := fun j v hj hn hv => h j v (by omega) (by omega) hv
theorem Cells.of {g i n : Nat} {w w' : World} (h : w'.heap[g]? = w.heap[g]?) : Cells g i n w w' := fun _ _ _ _ hv => (cell_block h).trans hv
mutual
theorem St.Own.le {w : World} : ∀ {s : St} {g i lo hi : Nat}, St.Own w s g i lo hi → lo ≤ hi
  | .mk k n s t c xs bs es, g, i, lo, hi, h => by
    simp only [St.Own] at h
    obtain ⟨pa, pb, pe, ca, cb, ce, m1, m2, _, _, h1, h2, h3, _⟩ := h
    omega
theorem rowOwn.le {w : World} : ∀ {l : List St} {a : Option Addr} {lo hi : Nat}, rowOwn w l a lo hi → lo ≤ hi
  | [], _, _, _, h => by simpa only [rowOwn] using h
  | s :: l, a, lo, hi, h => by
    simp only [rowOwn] at h
    obtain ⟨g, m, C, t, _, h1, h2, _⟩ := h
    omega
end
mutual
theorem St.Own.stay {w w' : World} : ∀ {s : St} {g i lo hi : Nat}, St.Own w s g i lo hi → Cells g i (i + 1) w w' → Stay lo hi w w' → St.Own w' s g i lo hi
  | .mk k n s t c xs bs es, g, i, lo, hi, h, hc, hs => by
    simp only [St.Own] at h ⊢
    obtain ⟨pa, pb, pe, ca, cb, ce, m1, m2, h0, hw, h1, h2, h3, hx, hb, he⟩ := h
    exact ⟨pa, pb, pe, ca, cb, ce, m1, m2, h0.keep hc, hw, h1, h2, h3, hx.has (has_stay (hs.sub (Nat.le_refl _) (by omega))), rowOwn.stay hb (hs.sub h1 h3), rowOwn.stay he (hs.sub (by omega) (Nat.le_refl _))⟩
theorem elsOwn.stay {w w' : World} : ∀ {l : List St} {g i lo hi : Nat}, elsOwn w l g i lo hi → Cells g i (i + l.length) w w' → Stay lo hi w w' → elsOwn w' l g i lo hi
  | [], _, _, _, _, h, _, _ => by simpa only [elsOwn] using h
  | s :: l, g, i, lo, hi, h, hc, hs => by
    simp only [elsOwn] at h ⊢
    obtain ⟨m, h1, h2, ho, hl⟩ := h
    exact ⟨m, h1, h2, ho.stay (hc.sub (Nat.le_refl _) (by simp only [List.length_cons]; omega)) (hs.sub (Nat.le_refl _) h2), elsOwn.stay hl (hc.sub (by omega) (by simp only [List.length_cons]; omega)) (hs.sub h1 (Nat.le_refl _))⟩
theorem rowOwn.stay {w w' : World} : ∀ {l : List St} {a : Option Addr} {lo hi : Nat}, rowOwn w l a lo hi → Stay lo hi w w' → rowOwn w' l a lo hi
  | [], _, _, _, h, _ => by simpa only [rowOwn] using h
  | s :: l, a, lo, hi, h, hs => by
    simp only [rowOwn] at h ⊢
    obtain ⟨g, m, C, t, ha, h1, h2, hg, h3, h4, ho, hl⟩ := h
    have hb : w'.heap[g]? = w.heap[g]? := hs g h1 h2 (Array.getElem?_eq_some_iff.1 hg).1
    exact ⟨g, m, C, t, ha, h1, h2, hb.trans hg, h3, h4, ho.stay (Cells.of hb) (hs.sub (by omega) h4), elsOwn.stay hl (Cells.of hb) (hs.sub (by omega) (Nat.le_refl _))⟩
end
theorem elsOwn.le {w : World} : ∀ {l : List St} {g i lo hi : Nat}, elsOwn w l g i lo hi → lo ≤ hi
  | [], _, _, _, _, h => by simpa only [elsOwn] using h
  | s :: l, g, i, lo, hi, h => by
    simp only [elsOwn] at h
    obtain ⟨m, h1, h2, _⟩ := h
    omega
theorem elsOwn.wide {w : World} : ∀ {l : List St} {g i lo hi hi' : Nat}, elsOwn w l g i lo hi → hi ≤ hi' → elsOwn w l g i lo hi'
  | [], _, _, _, _, _, h, h2 => by simp only [elsOwn] at h ⊢; omega
  | s :: l, g, i, lo, hi, hi', h, h2 => by
    simp only [elsOwn] at h ⊢
    obtain ⟨m, h1, h3, ho, hl⟩ := h
    exact ⟨m, h1, by omega, ho, hl.wide h2⟩
theorem elsOwn.snoc {w : World} {s : St} : ∀ {l : List St} {g i lo m hi : Nat}, elsOwn w l g i lo m → St.Own w s g (i + l.length) m hi → elsOwn w (l ++ [s]) g i lo hi
  | [], g, i, lo, m, hi, h, ho => by
    simp only [elsOwn, List.nil_append] at h ⊢
    have hl := ho.le
    have hs : ∀ {lo m}, lo ≤ m → St.Own w s g (i + ([] : List St).length) m hi → St.Own w s g i lo hi := by
      intro lo m hlm ho
      cases s with
      | mk k n s t c xs bs es =>
        simp only [St.Own, List.length_nil, Nat.add_zero] at ho ⊢
        obtain ⟨pa, pb, pe, ca, cb, ce, m1, m2, h0, hw, h1, h2, h3, hx, hb, he⟩ := ho
        exact ⟨pa, pb, pe, ca, cb, ce, m1, m2, h0, hw, by omega, h2, h3, hx.has (fun b o v hv => by
          obtain ⟨q1, q2⟩ := onl_cell.1 hv
          exact onl_cell.2 ⟨⟨by omega, q1.2⟩, q2⟩), hb, he⟩
    exact ⟨hi, by omega, Nat.le_refl _, hs h ho, Nat.le_refl _⟩
  | a :: l, g, i, lo, m, hi, h, ho => by
    simp only [elsOwn, List.cons_append] at h ⊢
    obtain ⟨m', h1, h2, h3, h4⟩ := h
    have hl := ho.le
    exact ⟨m', h1, by omega, h3, h4.snoc (by rw [show i + 1 + l.length = i + (a :: l).length by simp only [List.length_cons]; omega]; exact ho)⟩
theorem rowOwn.wide {w : World} : ∀ {l : List St} {a : Option Addr} {lo hi lo' hi' : Nat}, rowOwn w l a lo hi → lo' ≤ lo → hi ≤ hi' → rowOwn w l a lo' hi'
  | [], _, _, _, _, _, h, h1, h2 => by simp only [rowOwn] at h ⊢; omega
  | s :: l, a, lo, hi, lo', hi', h, h1, h2 => by
    simp only [rowOwn] at h ⊢
    obtain ⟨g, m, C, t, ha, q1, q2, hg, q3, q4, ho, hl⟩ := h
    exact ⟨g, m, C, t, ha, by omega, by omega, hg, q3, by omega, ho, hl.wide h2⟩
theorem rowOwn.of {w : World} {l : List St} {g lo hi : Nat} {C : Array Value} {t : TypeId} (hg : w.heap[g]? = some (.cells C t (0, 0))) (h1 : lo ≤ g) (h2 : g < hi) (h : elsOwn w l g 0 (g + 1) hi) : rowOwn w l (some ⟨g, 0, none⟩) lo hi := by
  cases l with
  | nil => simp only [rowOwn]; omega
  | cons s l =>
    simp only [elsOwn] at h
    obtain ⟨m, q1, q2, ho, hl⟩ := h
    simp only [rowOwn]
    exact ⟨g, m, C, t, rfl, h1, h2, hg, q1, q2, ho, hl⟩
theorem has_onl_sub {lo hi lo' hi' : Nat} {w : World} (h1 : lo' ≤ lo) (h2 : hi ≤ hi') : Has (onl lo hi w) (onl lo' hi' w) := fun b o v hv => by
  obtain ⟨q1, q2⟩ := onl_cell.1 hv
  exact onl_cell.2 ⟨⟨by omega, by omega⟩, q2⟩
theorem has_to_onl {lo hi : Nat} {w w' : World} (h : Has w w') (hl : ∀ b o v, w.cell? ⟨b, o, none⟩ = some v → lo ≤ b ∧ b < hi) : Has w (onl lo hi w') := fun b o v hv => onl_cell.2 ⟨hl b o v hv, h b o v hv⟩
mutual
/-- What is the call's own can be read. -/
theorem St.Own.at {w : World} : ∀ {s : St} {g i lo hi : Nat}, St.Own w s g i lo hi → St.At w s g (i * 8)
  | .mk k n s t c xs bs es, g, i, lo, hi, h => by
    simp only [St.Own] at h
    obtain ⟨pa, pb, pe, ca, cb, ce, m1, m2, h0, hw, _, _, _, hx, hb, he⟩ := h
    simp only [St.At]
    exact ⟨pa, pb, pe, ca, cb, ce, h0, hw, hx.has has_onl, rowOwn.row hb, rowOwn.row he⟩
theorem elsOwn.row {w : World} : ∀ {l : List St} {g i lo hi : Nat}, elsOwn w l g i lo hi → St.Row w l (some ⟨g, i * 8, none⟩)
  | [], _, _, _, _, _ => by simp only [St.Row]
  | s :: l, g, i, lo, hi, h => by
    simp only [elsOwn] at h
    obtain ⟨m, _, _, ho, hl⟩ := h
    simp only [St.Row]
    refine ⟨g, i * 8, rfl, ho.at, ?_⟩
    have := elsOwn.row hl
    rwa [show (i + 1) * 8 = i * 8 + 8 by omega] at this
theorem rowOwn.row {w : World} : ∀ {l : List St} {a : Option Addr} {lo hi : Nat}, rowOwn w l a lo hi → St.Row w l a
  | [], _, _, _, _ => by simp only [St.Row]
  | s :: l, a, lo, hi, h => by
    simp only [rowOwn] at h
    obtain ⟨g, m, C, t, ha, _, _, _, _, _, ho, hl⟩ := h
    simp only [St.Row]
    refine ⟨g, 0, ha, by have := ho.at; simpa using this, ?_⟩
    have := elsOwn.row hl
    simpa using this
end
end Go.Proofs.YthpmecbekpmijaaGreatDoor
