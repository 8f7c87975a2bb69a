/- signs.Find, signs.Call, and the document's. -/
import Derived.Test.YtnkmbddjekepkaaDoorSgB
namespace Go.Proofs.YtnkmbddjekepkaaDoor
open Go Go.RowKit
set_option linter.unusedSimpArgs false
set_option linter.unusedVariables false
set_option linter.unnecessarySimpa false
theorem cut_ints {W : World} : ∀ l : List Int, Cut 1 (InC W) l (l.map (Value.int .i64))
  | [] => rfl
  | a :: l => ⟨[.int .i64 a], l.map (Value.int .i64), by simp, rfl, rfl, cut_ints l⟩
theorem row_ints {w : World} {base n : Nat} {t : TypeId} {v : Value} {l : List Int} (h : w.ownsRow base t 1 v l.length (l.map (Value.int .i64))) (hn : n ≤ base) : ∃ a cap, v = .slice a l.length cap ∧ Ints (nw n w) l a cap := by
  obtain ⟨a, cap, h1, h2⟩ := OwnL.ints (ban := List.range n) (w := w) (base := base) (t := t) (v := v) (l := l) ⟨_, h, cut_ints l⟩ (fun g hg => by have := List.mem_range.1 hg; omega)
  exact ⟨a, cap, h1, h2⟩
theorem cloneInts_any (l : List Int) (a : Option Addr) (ca : Nat) (w : World) (hl : Ints w l a ca) (hn : l.length ≤ 100000) :
    Calls Tryd.prog 27 #[.slice a l.length ca] w fun e w' => (∃ a' c', e = .returned (.slice a' l.length c') ∧ Ints (nw w.heap.size w') l a' c') ∧ Below w.heap.size w w' := by
  cases a with
  | none =>
    obtain rfl : l = [] := by
      cases l with
      | nil => rfl
      | cons x l => obtain ⟨_, _, h⟩ := hl.addr (by simp); cases h
    refine (Tryd.slices_Clone_int_nil _ _ w).mono ?_
    rintro e w' ⟨rfl, rfl⟩
    exact ⟨⟨none, 0, rfl, Ints.nil _⟩, bl _⟩
  | some ad =>
    by_cases h0 : 0 < l.length
    · obtain ⟨b, o, h⟩ := hl.addr h0
      cases h
      refine (Tryd.slices_Clone_int b o l.length ca l w (Nat.le_refl _) (by omega) hl.getD).mono ?_
      rintro e w' ⟨v', rfl, h1, _, h3⟩
      rw [List.take_length] at h1
      obtain ⟨a', c', rfl, h4⟩ := row_ints h1 (Nat.le_refl _)
      exact ⟨⟨a', c', rfl, h4⟩, h3⟩
    · obtain rfl : l = [] := List.eq_nil_of_length_eq_zero (by omega)
      refine (Tryd.slices_Clone_int_zero ad ca w).mono ?_
      rintro e w' ⟨v', rfl, h1, _, h3⟩
      obtain ⟨a', c', rfl, h4⟩ := row_ints (l := []) h1 (Nat.le_refl _)
      exact ⟨⟨a', c', rfl, h4⟩, h3⟩
/-- The place of the first signature for which p holds; -1. -/
def idxSg (l : List Sg) (n : Bytes) : Int := match l.findIdx? (fun s => decide (s.name = n)) with | some i => (i : Nat) | none => -1
theorem idxSg_none {l : List Sg} {n : Bytes} (h : ∀ s ∈ l, (s.name == n) = false) : idxSg l n = -1 ∧ findSg l n = none := by
  have h2 : l.findIdx? (fun s => decide (s.name = n)) = none := by
    rw [List.findIdx?_eq_none_iff]
    intro v hv
    simpa using h v hv
  refine ⟨by simp [idxSg, h2], ?_⟩
  unfold findSg
  rw [List.find?_eq_none]
  intro v hv
  simpa using h v hv
theorem idxSg_some {l : List Sg} {n : Bytes} {k : Nat} (hk : k < l.length) (hq : (l[k].name == n) = true) (h : ∀ s ∈ l.take k, (s.name == n) = false) : idxSg l n = (k : Nat) ∧ findSg l n = some l[k] := by
  have hq' : l[k].name = n := by simpa using hq
  have hj : ∀ j (hj : j < k), ¬ (l[j]'(by omega)).name = n := fun j hj => by
    simpa using h (l[j]'(by omega)) (List.mem_take_iff_getElem.2 ⟨j, by omega, rfl⟩)
  have h2 : l.findIdx? (fun s => decide (s.name = n)) = some k := by
    rw [List.findIdx?_eq_some_iff_getElem]
    exact ⟨hk, by simpa using hq', fun j hjk => by simpa using hj j hjk⟩
  refine ⟨by simp [idxSg, h2], ?_⟩
  unfold findSg
  rw [List.find?_eq_some_iff_getElem]
  exact ⟨by simpa using hq', k, hk, rfl, fun j hjk => by simpa using hj j hjk⟩
theorem find12_1_any (s : Sg) (v : Value) (n : Bytes) (bn : Nat) (w : World) (hs : s.Val w v) (hn : w.cell? ⟨bn, 0, none⟩ = some (.string ⟨n.toArray⟩)) :
    Calls Tryd.prog 26 #[v, .pointer (some ⟨bn, 0, none⟩)] w fun e w' => e = .returned (.bool (s.name == n)) ∧ Below w.heap.size w w' := by
  obtain ⟨a, ca, rfl, hi⟩ := hs
  have hbn : bn < w.heap.size := cell_lt hn
  clear hi
  go_enter Tryd.func26, Tryd.ntmps26
  go_wp2
  go_ret
  exact ⟨ret_bool (by simp), (bl w).al _⟩
theorem take_no12 {l : List Sg} {n : Bytes} {k : Nat} (hlt : k < l.length) (hn : ∀ v ∈ l.take k, (v.name == n) = false) (h : (l[k].name == n) = false) : ∀ v ∈ l.take (k + 1), (v.name == n) = false := by
  intro v hv
  rw [List.take_succ_eq_append_getElem hlt, List.mem_append, List.mem_singleton] at hv
  rcases hv with hv | rfl
  · exact hn v hv
  · exact h
set_option maxHeartbeats 1000000 in
theorem indexSgs_any (l : List Sg) (n : Bytes) (bn : Nat) (a : Option Addr) (cap : Nat) (w : World) (hl : Sgs w l a cap) (hc : w.cell? ⟨bn, 0, none⟩ = some (.string ⟨n.toArray⟩)) :
    Calls Tryd.prog 25 #[.slice a l.length cap, .func (.func 26) #[] #[.pointer (some ⟨bn, 0, none⟩)]] w fun e w' => e = .returned (.int .i64 (idxSg l n)) ∧ Below w.heap.size w w' := by
  have hlen : l.length ≤ 9223372036854775807 := Nat.le_trans hl.len hl.cap
  have eg : ∀ args w, (callFunc 26 args).run Tryd.prog w = .ok (.enter 26 args) w := fun _ _ => by kernel_rfl
  have HL := hide hl
  have HC := hide hc
  clear hl hc
  go_enter Tryd.func25, Tryd.ntmps25
  go_wp2
  go_loopw [5, 8] (fun _ i wr => ∃ k : Nat, k ≤ l.length ∧ i = .int .i64 k ∧ Hid (∀ v ∈ l.take k, (v.name == n) = false) ∧ Below w.heap.size w wr) (fun _ i _ => l.length - (intOf i).toNat)
  case atStart => exact ⟨0, Nat.zero_le _, rfl, by simp [Hid], bl _⟩
  case round =>
    obtain ⟨k, hk, rfl, hn, hb⟩ := hrel
    by_cases hlt : k < l.length
    · obtain ⟨b, o, rfl⟩ := HL.out.addr (by omega)
      obtain ⟨pa, pc, c0, c1, c2, hi⟩ := (HL.out.at_ b o rfl k hlt).has (has_below hb)
      have h1 := find12_1_any l[k] (.agg #[.string ⟨l[k].name.toArray⟩, .slice pa l[k].pars.length pc, .int .i64 l[k].res]) n bn wr ⟨pa, pc, rfl, hi⟩ (cell_keep HC.out hb (Nat.le_refl _))
      clear hi
      cases hq : l[k].name == n
      all_goals
        simp only [hq] at h1
        have HQ := hide hq
        clear hq
      · go_wp2_with (go_at_fn 26; refine h1.mono ?_; rintro e w1 ⟨rfl, hb1⟩)
        go_roundw
        case rel => exact ⟨k + 1, by omega, by go_num, take_no12 hlt hn HQ.out, hb.tr hb1⟩
        case measure => simp [intOf]; omega
      · go_wp2_with (go_at_fn 26; refine h1.mono ?_; rintro e w1 ⟨rfl, hb1⟩)
        go_ret
        exact ⟨ret_int (idxSg_some hlt HQ.out hn).1.symm, hb.tr hb1⟩
    · obtain rfl : k = l.length := by omega
      have h2 := (idxSg_none (l := l) (n := n) (by have := hn.out; rwa [List.take_length] at this)).1
      go_wp2
      go_ret
      exact ⟨ret_int h2.symm, hb⟩
/-- What Find answers. -/
def FoundPost (o : Option Sg) (w : World) (r : Ending) (w' : World) : Prop := (∃ v, r = .returned (.tuple #[v, .bool o.isSome]) ∧ (o.getD noSg).Val w' v) ∧ Below w.heap.size w w'
theorem noSg_val (w : World) : noSg.Val w (.agg #[.string ⟨#[]⟩, .slice none 0 0, .int .i64 0]) := ⟨none, 0, rfl, Ints.nil _⟩
theorem idxSg_cases (l : List Sg) (n : Bytes) : (idxSg l n = -1 ∧ findSg l n = none) ∨ ∃ k, ∃ h : k < l.length, idxSg l n = (k : Nat) ∧ findSg l n = some l[k] := by
  by_cases h : ∃ k, ∃ h : k < l.length, (l[k].name == n) = true ∧ ∀ s ∈ l.take k, (s.name == n) = false
  · obtain ⟨k, hk, h1, h2⟩ := h
    exact .inr ⟨k, hk, idxSg_some hk h1 h2⟩
  · refine .inl (idxSg_none ?_)
    have : ∀ k, k ≤ l.length → ∀ s ∈ l.take k, (s.name == n) = false := by
      intro k
      induction k with
      | zero => intro _ s hs; simp at hs
      | succ k ih =>
        intro hk
        refine take_no12 (by omega) (ih (by omega)) ?_
        cases hq : (l[k]'(by omega)).name == n
        · rfl
        · exact absurd ⟨k, by omega, hq, ih (by omega)⟩ h
    intro s hs
    exact this l.length (Nat.le_refl _) s (by rw [List.take_length]; exact hs)
end Go.Proofs.YtnkmbddjekepkaaDoor
