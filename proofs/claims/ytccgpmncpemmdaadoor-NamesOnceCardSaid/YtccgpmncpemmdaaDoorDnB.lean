/- The reader of a draft of layer 10: byte and word answer as the model says, and change only the reader's own cells. -/
import Derived.Test.YtccgpmncpemmdaaDoorDnA
import Derived.Test.YtccgpmncpemmdaaDoorNw
import Derived.Test.YtccgpmncpemmdaaDoorBy
import Derived.BigQuiet
import Derived.Deep.QuietTactic
namespace Go.Proofs.YtccgpmncpemmdaaDoor
open Go Go.RowKit
set_option linter.unusedSimpArgs false
set_option linter.unusedVariables false
set_option linter.unnecessarySimpa false
/-- The reader lies in block sb: its bytes, where it is, and the number of the next statement. -/
def Rdr (w : World) (sb : Nat) (L : List Nat) (p nx : Nat) : Prop :=
  ∃ (a : Option Addr) (cap : Nat), w.heap[sb]? = some (.cells #[.slice a L.length cap, .int .i64 p, .int .i64 nx] 74 (0, 0)) ∧ p ≤ L.length ∧ (L.length ≤ maxLen ∧ nx ≤ 100) ∧
  (0 < L.length → ∃ b o, a = some ⟨b, o, none⟩ ∧ b < sb ∧ ∀ i, i < L.length → L[i]! ≤ 255 ∧ w.cell? ⟨b, o + i, none⟩ = some (.int .u8 (L[i]! : Nat)))
theorem Rdr.lt {w : World} {sb p nx : Nat} {L : List Nat} (h : Rdr w sb L p nx) : sb < w.heap.size := by
  obtain ⟨a, cap, hs, _⟩ := h
  exact (Array.getElem?_eq_some_iff.1 hs).1
theorem Rdr.keep {w w' : World} {sb p nx : Nat} {L : List Nat} {l : List Nat} (h : Rdr w sb L p nx) (hk : Kept l w w') (hl : ∀ g ∈ l, sb < g) : Rdr w' sb L p nx := by
  obtain ⟨a, cap, hs, hp, hl3, hel⟩ := h
  refine ⟨a, cap, hk.heap (fun hg => by have := hl _ hg; omega) hs, hp, hl3, fun h0 => ?_⟩
  obtain ⟨b, o, h1, h2, h3⟩ := hel h0
  exact ⟨b, o, h1, h2, fun i hi => ⟨(h3 i hi).1, hk.cell (fun hg => by have := hl _ hg; omega) (h3 i hi).2⟩⟩
theorem Rdr.below {w w' : World} {sb p nx : Nat} {L : List Nat} (h : Rdr w sb L p nx) (hb : Below w.heap.size w w') : Rdr w' sb L p nx := h.keep (l := []) (kept_below hb) (by simp)
theorem Rdr.al {w : World} {sb p nx : Nat} {L : List Nat} (h : Rdr w sb L p nx) (o : Obj) : Rdr (w.alloc o) sb L p nx := h.below ((bl w).al o)
theorem Rdr.setNew {w : World} {sb p nx : Nat} {L : List Nat} (h : Rdr w sb L p nx) {g : Nat} (hg : sb < g) (i : Nat) (v : Value) : Rdr (w.setCell ⟨g, i, none⟩ v) sb L p nx :=
  h.keep (l := [g]) ((Kept.refl _ w).set (.inl (by simp)) i v) (by simpa using hg)
theorem Rdr.grown {w w' : World} {sb p nx : Nat} {L : List Nat} {row : Option Nat} (h : Rdr w sb L p nx) (hg : w.grownBy w' row) (hr : ∀ k, row = some k → sb < k) : Rdr w' sb L p nx :=
  h.keep (l := row.toList) ((Kept.refl _ w).grown hg fun k hk => .inl (by simp [hk])) (fun g hg => hr g (by simpa using hg))
/-- A cell of the reader is written: where it is, or the number of the next statement. -/
theorem Rdr.set {w : World} {sb p nx p' nx' i : Nat} {L : List Nat} (h : Rdr w sb L p nx) (u : Value) (hu : (i = 1 ∧ u = .int .i64 p' ∧ nx' = nx ∧ p' ≤ L.length) ∨ (i = 2 ∧ u = .int .i64 nx' ∧ p' = p ∧ nx' ≤ 100)) : Rdr (w.setCell ⟨sb, i, none⟩ u) sb L p' nx' := by
  obtain ⟨a, cap, hs, hp, hl3, hel⟩ := h
  refine ⟨a, cap, ?_, ?_, ⟨hl3.1, ?_⟩, fun h0 => ?_⟩
  · simp only [World.setCell, Array.getElem?_modify]
    rw [hs]
    rcases hu with ⟨rfl, rfl, rfl, _⟩ | ⟨rfl, rfl, rfl, _⟩ <;> simp
  · rcases hu with ⟨_, _, _, h⟩ | ⟨_, _, rfl, _⟩
    · exact h
    · exact hp
  · rcases hu with ⟨_, _, rfl, _⟩ | ⟨_, _, _, h⟩
    · exact hl3.2
    · exact h
  · obtain ⟨b, o, h1, h2, h3⟩ := hel h0
    exact ⟨b, o, h1, h2, fun j hj => ⟨(h3 j hj).1, ((Kept.refl [sb] w).set (.inl (by simp)) i u).cell (by simp; omega) (h3 j hj).2⟩⟩
theorem Rdr.ple {w : World} {sb p nx : Nat} {L : List Nat} (h : Rdr w sb L p nx) : p ≤ L.length ∧ L.length ≤ maxLen ∧ nx ≤ 100 := by
  obtain ⟨a, cap, hs, hp, hl3, hel⟩ := h
  exact ⟨hp, hl3.1, hl3.2⟩
theorem Rdr.byte_le {w : World} {sb p nx : Nat} {L : List Nat} (h : Rdr w sb L p nx) (q : Nat) : (rbN L q).1 ≤ 255 := by
  obtain ⟨a, cap, hs, hp, hl3, hel⟩ := h
  unfold rbN
  split
  · rename_i hq
    obtain ⟨b, o, _, _, h3⟩ := hel (by omega)
    exact (h3 q hq).1
  · exact Nat.zero_le _
set_option maxHeartbeats 2000000 in
theorem byte_any (sb nx p : Nat) (L : List Nat) (w : World) (h : Rdr w sb L p nx) :
    Calls Tryd.prog 40 #[.pointer (some ⟨sb, 0, none⟩)] w fun r w' => r = .returned (.int .u8 (rbN L p).1) ∧ Rdr w' sb L (rbN L p).2 nx ∧ Kept [sb] w w' := by
  have hH := h
  obtain ⟨a, cap, hs, hp, hl, hel⟩ := h
  have hlt := (Array.getElem?_eq_some_iff.1 hs).1
  have c0 := cell_at (j := 0) hs rfl
  have c1 := cell_at (j := 1) hs rfl
  have f1 : w.frozen? ⟨sb, 1, none⟩ = false := free_at hs
  have hl1 : L.length ≤ 9223372036854775807 := hl.1
  have HEL := hide hel
  have HSRC := hide hH
  clear hs hel hH hl
  by_cases hpl : (L.length : Int) ≤ (p : Int)
  · have e : rbN L p = (0, p) := by unfold rbN; rw [if_neg (by omega)]
    rw [e]
    clear e
    go_enter Tryd.func40, Tryd.ntmps40
    go_wp2_with fail
    go_quiet (fail)
    go_wp2_with fail
    go_ret
    refine ⟨rfl, ?_, (Kept.refl _ w).dn _⟩
    exact HSRC.out.below (below_dq (bl w) _)
  · obtain ⟨b, o, rfl, hb, hx⟩ := HEL.out (by omega)
    obtain ⟨hx1, hx2⟩ := hx p (by omega)
    have e : rbN L p = (L[p]!, p + 1) := by unfold rbN; rw [if_pos (by omega)]
    rw [e]
    clear e HEL hx
    generalize L[p]! = x at *
    have hbl := cell_lt hx2
    simp only at hbl
    go_enter Tryd.func40, Tryd.ntmps40
    go_wp2_with fail
    go_quiet (fail)
    go_wp2_with fail
    go_quiet (fail)
    go_wp2_with fail
    go_ret
    refine ⟨ret_int' (by simp), ?_, (((Kept.refl _ w).dn _).set (.inl (by simp)) _ _).dn _⟩
    have h1 : ∀ m, Rdr (w.drewN m) sb L p nx := fun m => HSRC.out.below (below_dq (bl w) m)
    exact ((h1 _).set (p' := p + 1) (nx' := nx) _ (.inl ⟨rfl, by go_num, rfl, by omega⟩)).below (below_dq (bl _) _)
set_option maxHeartbeats 400000 in
theorem word_any (b : Nat) (hb : b ≤ 255) (w : World) : Calls Tryd.prog 30 #[.int .u8 b] w fun r w' => r = .returned (.string ⟨(wdN b).toArray⟩) ∧ Below w.heap.size w w' := by
  obtain ⟨c, hc⟩ : ∃ c, c = UInt8.ofNat (97 + b % 24) := ⟨_, rfl⟩
  have hcv := conv1 w w.heap.size (97 + (b : Int) % 24) (97 + b % 24) c hc (by simp) rfl
  have HE : Hid (wdN b = [c]) := hide (by rw [hc]; rfl)
  clear hc
  go_enter Tryd.func30, Tryd.ntmps30
  go_wp2_with fail
  go_ret
  refine ⟨by rw [HE.out]; rfl, (bl w).al _⟩
end Go.Proofs.YtccgpmncpemmdaaDoor
