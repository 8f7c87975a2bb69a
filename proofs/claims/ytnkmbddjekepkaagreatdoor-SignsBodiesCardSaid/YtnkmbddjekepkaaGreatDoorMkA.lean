/- The source of a draft: rewindlaw03.source.next and name answer as the model says, and change only the source's own cells. -/
import Derived.Test.YtnkmbddjekepkaaGreatDoorMd0
import Derived.Test.YtnkmbddjekepkaaGreatDoorNw
import Derived.BigQuiet
import Derived.Deep.QuietTactic
namespace Go.Proofs.YtnkmbddjekepkaaGreatDoor
open Go Go.RowKit
set_option linter.unusedSimpArgs false
set_option linter.unusedVariables false
set_option linter.unnecessarySimpa false
/-- The source lies in block sb: its numbers, where it is, and how many statements are left. -/
def Src (w : World) (sb : Nat) (L : List Nat) (p left : Nat) : Prop :=
  ∃ (a : Option Addr) (cap : Nat), w.heap[sb]? = some (.cells #[.slice a L.length cap, .int .i64 p, .int .i64 left] 66 (0, 0)) ∧ p ≤ L.length ∧ (L.length ≤ 300 ∧ left ≤ 100) ∧
  (0 < L.length → ∃ b o, a = some ⟨b, o, none⟩ ∧ b < sb ∧ ∀ i, i < L.length → L[i]! ≤ 255 ∧ w.cell? ⟨b, o + i, none⟩ = some (.int .u8 (L[i]! : Nat)))
theorem Src.lt {w : World} {sb p left : Nat} {L : List Nat} (h : Src w sb L p left) : sb < w.heap.size := by
  obtain ⟨a, cap, hs, _⟩ := h
  exact (Array.getElem?_eq_some_iff.1 hs).1
theorem Src.keep {w w' : World} {sb p left : Nat} {L : List Nat} {l : List Nat} (h : Src w sb L p left) (hk : Kept l w w') (hl : ∀ g ∈ l, sb < g) : Src w' sb L p left := by
  obtain ⟨a, cap, hs, hp, hl3, hel⟩ := h
  refine ⟨a, cap, hk.heap (fun hg => by have := hl _ hg; omega) hs, hp, hl3, fun h0 => ?_⟩
  obtain ⟨b, o, h1, h2, h3⟩ := hel h0
  exact ⟨b, o, h1, h2, fun i hi => ⟨(h3 i hi).1, hk.cell (fun hg => by have := hl _ hg; omega) (h3 i hi).2⟩⟩
theorem Src.below {w w' : World} {sb p left : Nat} {L : List Nat} (h : Src w sb L p left) (hb : Below w.heap.size w w') : Src w' sb L p left := h.keep (l := []) (kept_below hb) (by simp)
theorem Src.al {w : World} {sb p left : Nat} {L : List Nat} (h : Src w sb L p left) (o : Obj) : Src (w.alloc o) sb L p left := h.below ((bl w).al o)
theorem Src.setNew {w : World} {sb p left : Nat} {L : List Nat} (h : Src w sb L p left) {g : Nat} (hg : sb < g) (i : Nat) (v : Value) : Src (w.setCell ⟨g, i, none⟩ v) sb L p left :=
  h.keep (l := [g]) ((Kept.refl _ w).set (.inl (by simp)) i v) (by simpa using hg)
/-- A cell of the source is written: where it is, or how many are left. -/
theorem Src.set {w : World} {sb p left p' left' i : Nat} {L : List Nat} (h : Src w sb L p left) (u : Value) (hu : (i = 1 ∧ u = .int .i64 p' ∧ left' = left ∧ p' ≤ L.length) ∨ (i = 2 ∧ u = .int .i64 left' ∧ p' = p ∧ left' ≤ 100)) : Src (w.setCell ⟨sb, i, none⟩ u) sb L p' left' := by
  obtain ⟨a, cap, hs, hp, hl3, hel⟩ := h
  refine ⟨a, cap, ?_, ?_, ⟨hl3.1, ?_⟩, fun h0 => ?_⟩
  · simp only [World.setCell, Array.getElem?_modify]
    rw [hs]
    rcases hu with ⟨rfl, rfl, rfl, _⟩ | ⟨rfl, rfl, rfl, _⟩ <;> simp
  · rcases hu with ⟨_, _, _, h⟩ | ⟨_, _, rfl, _⟩
    · exact h
    · exact hp
  · rcases hu with ⟨_, _, rfl, _⟩ | ⟨_, _, _, h⟩
    · exact hl3.2
    · exact h
  · obtain ⟨b, o, h1, h2, h3⟩ := hel h0
    exact ⟨b, o, h1, h2, fun j hj => ⟨(h3 j hj).1, ((Kept.refl [sb] w).set (.inl (by simp)) i u).cell (by simp; omega) (h3 j hj).2⟩⟩
theorem Src.ple {w : World} {sb p left : Nat} {L : List Nat} (h : Src w sb L p left) : p ≤ L.length ∧ L.length ≤ 300 ∧ left ≤ 100 := by
  obtain ⟨a, cap, hs, hp, hl3, hel⟩ := h
  exact ⟨hp, hl3.1, hl3.2⟩
set_option maxHeartbeats 2000000 in
theorem next_any (sb left n p : Nat) (L : List Nat) (w : World) (h : Src w sb L p left) (hn : 0 < n) (hn2 : n ≤ 1000) :
    Calls Tryz.prog 26 #[.pointer (some ⟨sb, 0, none⟩), .int .i64 n] w fun r w' => r = .returned (.int .i64 (nextD L n p).1) ∧ Src w' sb L (nextD L n p).2 left ∧ Kept [sb] w w' := by
  have hH := h
  obtain ⟨a, cap, hs, hp, hl, hel⟩ := h
  have hlt := (Array.getElem?_eq_some_iff.1 hs).1
  have c0 := cell_at (j := 0) hs rfl
  have c1 := cell_at (j := 1) hs rfl
  have f1 : w.frozen? ⟨sb, 1, none⟩ = false := free_at hs
  have HEL := hide hel
  have HSRC := hide hH
  clear hs hel hH
  by_cases hpl : (L.length : Int) ≤ (p : Int)
  · have e : nextD L n p = (0, p) := by unfold nextD; rw [if_neg (by omega)]
    rw [e]
    clear e
    go_enter Tryz.func26, Tryz.ntmps26
    go_wp2_with fail
    go_quiet (fail)
    go_wp2_with fail
    go_ret
    refine ⟨rfl, ?_, (Kept.refl _ w).dn _⟩
    exact HSRC.out.below (below_dq (bl w) _)
  · obtain ⟨b, o, rfl, hb, hx⟩ := HEL.out (by omega)
    obtain ⟨hx1, hx2⟩ := hx p (by omega)
    have e : nextD L n p = (L[p]! % n, p + 1) := by unfold nextD; rw [if_pos (by omega)]
    rw [e]
    clear e HEL hx
    generalize L[p]! = x at *
    have hbl := cell_lt hx2
    simp only at hbl
    go_enter Tryz.func26, Tryz.ntmps26
    go_wp2_with fail
    go_quiet (fail)
    go_wp2_with fail
    go_quiet (fail)
    go_wp2_with fail
    go_ret
    refine ⟨ret_int' (by simp), ?_, (((Kept.refl _ w).dn _).set (.inl (by simp)) _ _).dn _⟩
    have h1 : ∀ m, Src (w.drewN m) sb L p left := fun m => HSRC.out.below (below_dq (bl w) m)
    exact ((h1 _).set (p' := p + 1) (left' := left) _ (.inl ⟨rfl, by go_num, rfl, by omega⟩)).below (below_dq (bl _) _)
theorem nm5_get (k : Nat) (hk : k < 5) : nm5[k]? = some nm5[k]! := by rw [sget (zs := nm5) hk]; exact List.getElem?_eq_getElem hk
set_option maxHeartbeats 1000000 in
theorem sname_any (sb left p : Nat) (L : List Nat) (w : World) (h : Src w sb L p left) :
    Calls Tryz.prog 42 #[.pointer (some ⟨sb, 0, none⟩)] w fun r w' => r = .returned (.string ⟨(nameD L p).1.toArray⟩) ∧ Src w' sb L (nameD L p).2 left ∧ Kept [sb] w w' := by
  have hnext := fun (W : World) (hW : Below w.heap.size w W) => next_any sb left 5 p L W (h.below hW) (by omega) (by omega)
  have hsb := h.lt
  have hk5 := nextD_lt L (n := 5) p (by omega)
  have hcl : (w.alloc (.cells (nm5.map fun s => Value.string ⟨s.toArray⟩).toArray 9)).cell? ⟨w.heap.size, (nextD L 5 p).1, none⟩ = some (.string ⟨(nm5[(nextD L 5 p).1]!).toArray⟩) := cell_of_list _ _ _ _ _ (by rw [List.getElem?_map, nm5_get _ hk5]; rfl)
  unfold nameD
  simp only
  generalize nextD L 5 p = q at *
  obtain ⟨k, p1⟩ := q
  simp only at hk5 hcl hnext ⊢
  generalize nm5[k]! = s at *
  have HC := hide hcl
  have HN := hide hnext
  clear hcl hnext h
  have hk5' : (k : Int) < 5 := by omega
  go_enter Tryz.func42, Tryz.ntmps42
  go_wp2_with fail
  refine (HN.out _ ((bl w).al _)).mono ?_
  rintro r w2 ⟨rfl, HS, hK⟩
  have hc := hK.cell (by simp; omega) HC.out
  go_wp2_with fail
  go_ret
  exact ⟨rfl, HS, ((Kept.refl _ w).al _).tr hK⟩
end Go.Proofs.YtnkmbddjekepkaaGreatDoor
