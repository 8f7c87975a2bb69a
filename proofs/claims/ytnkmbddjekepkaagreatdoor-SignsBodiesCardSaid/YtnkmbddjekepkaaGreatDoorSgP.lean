/- The examples of chapter 12: rewindlaw12.works answers true, where the tables are laid. -/
import Derived.Test.YtnkmbddjekepkaaGreatDoorSgA
import Derived.Test.YtnkmbddjekepkaaGreatDoorShel2
import Derived.BigQuiet
import Derived.Deep.QuietTactic
import Derived.Test.YtnkmbddjekepkaaGreatDoorOw2
import Derived.Test.YtnkmbddjekepkaaGreatDoorMp
import Derived.Test.YtnkmbddjekepkaaGreatDoorSpG
import Derived.Test.YtnkmbddjekepkaaGreatDoorRefA
import Derived.Lib.Join
import Derived.Deep.RegionWith
/- Equal lists of numbers; equal signatures; the word of a type. -/
namespace Go.Proofs.YtnkmbddjekepkaaGreatDoor
open Go Go.RowKit
set_option linter.unusedSimpArgs false
set_option linter.unusedVariables false
set_option linter.unnecessarySimpa false
abbrev DqPost (w : World) (b : Bool) (r : Ending) (w' : World) : Prop := r = .returned (.bool b) ∧ ∃ n, w' = w.drewN n
theorem dq_below {w w' : World} (h : ∃ n, w' = w.drewN n) : Below w.heap.size w w' := by
  obtain ⟨n, rfl⟩ := h
  exact below_dq (bl w) n
theorem bne_no' {α : Type} [BEq α] {a b : α} (h : (a == b) = false) : (a != b) = true := by simp [bne, h]
theorem bne_yes' {α : Type} [BEq α] {a b : α} (h : (a == b) = true) : (a != b) = false := by simp [bne, h]
theorem Ints.getD {w : World} {l : List Int} {b o cap : Nat} (h : Ints w l (some ⟨b, o, none⟩) cap) : ∀ j, j < l.length → w.cell? ⟨b, o + j, none⟩ = some (.int .i64 (l.getD j 0)) := by
  intro j hj
  rw [h.at_ b o rfl j hj]
  simp [List.getD, hj]
theorem equalInts_any (l m : List Int) (a c : Option Addr) (ca cc : Nat) (w : World) (hl : Ints w l a ca) (hm : Ints w m c cc) :
    Calls Tryz.prog 35 #[.slice a l.length ca, .slice c m.length cc] w (DqPost w (decide (l = m))) := by
  have h1 : l.length ≤ 9223372036854775807 := Nat.le_trans hl.len hl.cap
  have h2 : m.length ≤ 9223372036854775807 := Nat.le_trans hm.len hm.cap
  by_cases hlm : l.length = m.length
  · by_cases h0 : 0 < l.length
    · obtain ⟨b1, o1, rfl⟩ := hl.addr h0
      obtain ⟨b2, o2, rfl⟩ := hm.addr (by omega)
      refine (Tryz.slices_Equal_int b1 o1 l.length ca b2 o2 m.length cc l m w (Nat.le_refl _) (Nat.le_refl _) h1 h2 hl.getD hm.getD).mono ?_
      rintro e w' ⟨rfl, hq⟩
      refine ⟨?_, hq⟩
      rw [List.take_length, List.take_length]
      exact ret_bool (by rw [Bool.eq_iff_iff]; simp)
    · obtain rfl : l = [] := List.eq_nil_of_length_eq_zero (by omega)
      obtain rfl : m = [] := List.eq_nil_of_length_eq_zero (by simpa using hlm.symm)
      refine (Tryz.slices_Equal_int_empty a c ca 0 cc w (Nat.zero_le _)).mono ?_
      rintro e w' ⟨rfl, rfl⟩
      exact ⟨rfl, 0, rfl⟩
  · refine (Tryz.slices_Equal_int_lens a c l.length ca m.length cc w hlm).mono ?_
    rintro e w' ⟨rfl, rfl⟩
    exact ⟨by rw [decide_eq_false (fun e => hlm (by rw [e]))], 0, rfl⟩
set_option maxHeartbeats 1000000 in
theorem refInts_any (l m : List Int) (a c : Option Addr) (ca cc : Nat) (w : World) (hl : Ints w l a ca) (hm : Ints w m c cc) :
    Calls Tryz.prog 41 #[.slice a l.length ca, .slice c m.length cc] w (DqPost w (decide (l = m))) := by
  have h1 : l.length ≤ 9223372036854775807 := Nat.le_trans hl.len hl.cap
  have h2 : m.length ≤ 9223372036854775807 := Nat.le_trans hm.len hm.cap
  have HL := hide hl
  have HM := hide hm
  clear hl hm
  by_cases hlm : l.length = m.length
  · have g1 : ((l.length : Int) != (m.length : Int)) = false := by simp [bne, hlm]
    have HLM := hide hlm
    clear hlm
    go_enter Tryz.func41, Tryz.ntmps41
    go_wp2_with fail
    go_loopw [5] (fun i wr => ∃ k n : Nat, k ≤ l.length ∧ i = .int .i64 k ∧ Hid (l.take k = m.take k) ∧ Hid (wr = w.drewN n)) (fun i _ => l.length - (intOf i).toNat)
    case atStart => exact ⟨0, 0, Nat.zero_le _, rfl, hide (by simp), hide rfl⟩
    case round =>
      obtain ⟨k, nn, hk, rfl, hall, HWR⟩ := hrel
      by_cases hlt : k < l.length
      · have hlt' : k < m.length := by have := HLM.out; omega
        obtain ⟨b, o, rfl⟩ := HL.out.addr (by omega)
        obtain ⟨b', o', rfl⟩ := HM.out.addr (by omega)
        have c0 : wr.cell? ⟨b, o + k, none⟩ = some (.int .i64 l[k]) := by rw [HWR.out]; exact HL.out.at_ b o rfl k hlt
        have d0 : wr.cell? ⟨b', o' + k, none⟩ = some (.int .i64 m[k]) := by rw [HWR.out]; exact HM.out.at_ b' o' rfl k hlt'
        have hbl1 := cell_lt c0
        have hbl2 := cell_lt d0
        simp only at hbl1 hbl2
        have hc6 : (0 : Int) ≤ (k : Int) := by omega
        have hc7 : (k : Int) < (l.length : Int) := by omega
        have hc8 : (k : Int) < (m.length : Int) := by omega
        cases q1 : l[k] == m[k]
        · have g2 := bne_no' q1
          have HE : Hid (decide (l = m) = false) := hide (decide_eq_false fun e => by subst e; simp at q1)
          clear q1
          go_wp2_with fail
          go_quiet (fail)
          go_wp2_with fail
          go_ret
          exact ⟨ret_bool HE.out.symm, _, by rw [HWR.out, World.drewN_drewN]⟩
        · have g2 := bne_yes' q1
          have HE : Hid (l[k] = m[k]) := hide (by simpa using q1)
          clear q1
          go_wp2_with fail
          go_quiet (fail)
          go_wp2_with fail
          go_roundw
          case rel => exact ⟨k + 1, _, by omega, by go_num, hide (by rw [List.take_succ_eq_append_getElem hlt, List.take_succ_eq_append_getElem hlt', hall.out, HE.out]), hide (by rw [HWR.out, World.drewN_drewN])⟩
          case measure => simp [intOf]; omega
      · obtain rfl : k = l.length := by omega
        have HE : Hid (decide (l = m) = true) := hide (decide_eq_true (by have := hall.out; rwa [List.take_length, HLM.out, List.take_length] at this))
        go_wp2_with fail
        go_ret
        exact ⟨ret_bool HE.out.symm, _, HWR.out⟩
  · have g1 : ((l.length : Int) != (m.length : Int)) = true := by simp [bne]; omega
    have HE : Hid (decide (l = m) = false) := hide (decide_eq_false fun e => hlm (by rw [e]))
    clear hlm
    go_enter Tryz.func41, Tryz.ntmps41
    go_wp2_with fail
    go_ret
    exact ⟨ret_bool HE.out.symm, 0, rfl⟩
set_option maxHeartbeats 1000000 in
theorem same_any (s t : Sg) (v u : Value) (w : World) (hs : s.Val w v) (ht : t.Val w u) : Calls Tryz.prog 21 #[v, u] w fun r w' => r = .returned (.bool (sameSg s t)) ∧ Below w.heap.size w w' := by
  obtain ⟨a, ca, rfl, hi⟩ := hs
  obtain ⟨c, cc, rfl, hj⟩ := ht
  have h1 := hide fun (W : World) (hW : Below w.heap.size w W) => equalInts_any s.pars t.pars a c ca cc W (hi.keep hW (Nat.le_refl _)) (hj.keep hW (Nat.le_refl _))
  clear hi hj
  cases q1 : s.name == t.name
  · have HE : Hid (sameSg s t = false) := hide (by unfold sameSg; rw [decide_eq_false (by simpa using q1)]; rfl)
    clear h1
    go_enter Tryz.func21, Tryz.ntmps21
    go_wp2_with fail
    go_ret
    exact ⟨ret_bool (by rw [HE.out]), ((bl w).al _).al _⟩
  cases q2 : decide (s.pars = t.pars)
  · have HE : Hid (sameSg s t = false) := hide (by unfold sameSg; rw [q2]; simp)
    rw [q2] at h1
    clear q2
    go_enter Tryz.func21, Tryz.ntmps21
    go_wp2_with (go_at_call 35; refine (h1.out _ (((bl w).al _).al _)).mono ?_; rintro r w1 ⟨rfl, nq, rfl⟩)
    go_ret
    exact ⟨ret_bool (by rw [HE.out]), below_dq (((bl w).al _).al _) _⟩
  rw [q2] at h1
  cases q3 : s.res == t.res
  all_goals
    have HE : Hid (sameSg s t = (s.res == t.res)) := hide (by unfold sameSg; rw [q2, decide_eq_true (by simpa using q1)]; rw [Bool.eq_iff_iff]; simp)
    clear q2
    go_enter Tryz.func21, Tryz.ntmps21
    go_wp2_with (go_at_call 35; refine (h1.out _ (((bl w).al _).al _)).mono ?_; rintro r w1 ⟨rfl, nq, rfl⟩)
    go_ret
    exact ⟨ret_bool (by rw [HE.out, q3]), below_dq (((bl w).al _).al _) _⟩
set_option maxHeartbeats 1000000 in
theorem refSame_any (s t : Sg) (v u : Value) (w : World) (hs : s.Val w v) (ht : t.Val w u) : Calls Tryz.prog 25 #[v, u] w fun r w' => r = .returned (.bool (sameSg s t)) ∧ Below w.heap.size w w' := by
  obtain ⟨a, ca, rfl, hi⟩ := hs
  obtain ⟨c, cc, rfl, hj⟩ := ht
  have h1 := hide fun (W : World) (hW : Below w.heap.size w W) => refInts_any s.pars t.pars a c ca cc W (hi.keep hW (Nat.le_refl _)) (hj.keep hW (Nat.le_refl _))
  clear hi hj
  cases q1 : s.name == t.name
  · have HE : Hid (sameSg s t = false) := hide (by unfold sameSg; rw [decide_eq_false (by simpa using q1)]; rfl)
    clear h1
    go_enter Tryz.func25, Tryz.ntmps25
    go_wp2_with fail
    go_ret
    exact ⟨ret_bool (by rw [HE.out]), ((bl w).al _).al _⟩
  cases q2 : decide (s.pars = t.pars)
  · have HE : Hid (sameSg s t = false) := hide (by unfold sameSg; rw [q2]; simp)
    rw [q2] at h1
    clear q2
    go_enter Tryz.func25, Tryz.ntmps25
    go_wp2_with (go_at_call 41; refine (h1.out _ (((bl w).al _).al _)).mono ?_; rintro r w1 ⟨rfl, nq, rfl⟩)
    go_ret
    exact ⟨ret_bool (by rw [HE.out]), below_dq (((bl w).al _).al _) _⟩
  rw [q2] at h1
  cases q3 : s.res == t.res
  all_goals
    have HE : Hid (sameSg s t = (s.res == t.res)) := hide (by unfold sameSg; rw [q2, decide_eq_true (by simpa using q1)]; rw [Bool.eq_iff_iff]; simp)
    clear q2
    go_enter Tryz.func25, Tryz.ntmps25
    go_wp2_with (go_at_call 41; refine (h1.out _ (((bl w).al _).al _)).mono ?_; rintro r w1 ⟨rfl, nq, rfl⟩)
    go_ret
    exact ⟨ret_bool (by rw [HE.out, q3]), below_dq (((bl w).al _).al _) _⟩
end Go.Proofs.YtnkmbddjekepkaaGreatDoor
/- signs.Find, signs.Call, and the document's. -/
namespace Go.Proofs.YtnkmbddjekepkaaGreatDoor
open Go Go.RowKit
set_option linter.unusedSimpArgs false
set_option linter.unusedVariables false
set_option linter.unnecessarySimpa false
theorem cut_ints {W : World} : ∀ l : List Int, Cut 1 (InC W) l (l.map (Value.int .i64))
  | [] => rfl
  | a :: l => ⟨[.int .i64 a], l.map (Value.int .i64), by simp, rfl, rfl, cut_ints l⟩
theorem row_ints {w : World} {base n : Nat} {t : TypeId} {v : Value} {l : List Int} (h : w.ownsRow base t 1 v l.length (l.map (Value.int .i64))) (hn : n ≤ base) : ∃ a cap, v = .slice a l.length cap ∧ Ints (nw n w) l a cap := by
  obtain ⟨a, cap, h1, h2⟩ := OwnL.ints (ban := List.range n) (w := w) (base := base) (t := t) (v := v) (l := l) ⟨_, h, cut_ints l⟩ (fun g hg => by have := List.mem_range.1 hg; omega)
  exact ⟨a, cap, h1, h2⟩
theorem cloneInts_any (l : List Int) (a : Option Addr) (ca : Nat) (w : World) (hl : Ints w l a ca) (hn : l.length ≤ 100000) :
    Calls Tryz.prog 31 #[.slice a l.length ca] w fun e w' => (∃ a' c', e = .returned (.slice a' l.length c') ∧ Ints (nw w.heap.size w') l a' c') ∧ Below w.heap.size w w' := by
  cases a with
  | none =>
    obtain rfl : l = [] := by
      cases l with
      | nil => rfl
      | cons x l => obtain ⟨_, _, h⟩ := hl.addr (by simp); cases h
    refine (Tryz.slices_Clone_int_nil _ _ w).mono ?_
    rintro e w' ⟨rfl, rfl⟩
    exact ⟨⟨none, 0, rfl, Ints.nil _⟩, bl _⟩
  | some ad =>
    by_cases h0 : 0 < l.length
    · obtain ⟨b, o, h⟩ := hl.addr h0
      cases h
      refine (Tryz.slices_Clone_int b o l.length ca l w (Nat.le_refl _) (by omega) hl.getD).mono ?_
      rintro e w' ⟨v', rfl, h1, _, h3⟩
      rw [List.take_length] at h1
      obtain ⟨a', c', rfl, h4⟩ := row_ints h1 (Nat.le_refl _)
      exact ⟨⟨a', c', rfl, h4⟩, h3⟩
    · obtain rfl : l = [] := List.eq_nil_of_length_eq_zero (by omega)
      refine (Tryz.slices_Clone_int_zero ad ca w).mono ?_
      rintro e w' ⟨v', rfl, h1, _, h3⟩
      obtain ⟨a', c', rfl, h4⟩ := row_ints (l := []) h1 (Nat.le_refl _)
      exact ⟨⟨a', c', rfl, h4⟩, h3⟩
/-- The place of the first signature for which p holds; -1. -/
def idxSg (l : List Sg) (n : Bytes) : Int := match l.findIdx? (fun s => decide (s.name = n)) with | some i => (i : Nat) | none => -1
theorem idxSg_none {l : List Sg} {n : Bytes} (h : ∀ s ∈ l, (s.name == n) = false) : idxSg l n = -1 ∧ findSg l n = none := by
  have h2 : l.findIdx? (fun s => decide (s.name = n)) = none := by
    rw [List.findIdx?_eq_none_iff]
    intro v hv
    simpa using h v hv
  refine ⟨by simp [idxSg, h2], ?_⟩
  unfold findSg
  rw [List.find?_eq_none]
  intro v hv
  simpa using h v hv
theorem idxSg_some {l : List Sg} {n : Bytes} {k : Nat} (hk : k < l.length) (hq : (l[k].name == n) = true) (h : ∀ s ∈ l.take k, (s.name == n) = false) : idxSg l n = (k : Nat) ∧ findSg l n = some l[k] := by
  have hq' : l[k].name = n := by simpa using hq
  have hj : ∀ j (hj : j < k), ¬ (l[j]'(by omega)).name = n := fun j hj => by
    simpa using h (l[j]'(by omega)) (List.mem_take_iff_getElem.2 ⟨j, by omega, rfl⟩)
  have h2 : l.findIdx? (fun s => decide (s.name = n)) = some k := by
    rw [List.findIdx?_eq_some_iff_getElem]
    exact ⟨hk, by simpa using hq', fun j hjk => by simpa using hj j hjk⟩
  refine ⟨by simp [idxSg, h2], ?_⟩
  unfold findSg
  rw [List.find?_eq_some_iff_getElem]
  exact ⟨by simpa using hq', k, hk, rfl, fun j hjk => by simpa using hj j hjk⟩
theorem find12_1_any (s : Sg) (v : Value) (n : Bytes) (bn : Nat) (w : World) (hs : s.Val w v) (hn : w.cell? ⟨bn, 0, none⟩ = some (.string ⟨n.toArray⟩)) :
    Calls Tryz.prog 30 #[v, .pointer (some ⟨bn, 0, none⟩)] w fun e w' => e = .returned (.bool (s.name == n)) ∧ Below w.heap.size w w' := by
  obtain ⟨a, ca, rfl, hi⟩ := hs
  have hbn : bn < w.heap.size := cell_lt hn
  clear hi
  go_enter Tryz.func30, Tryz.ntmps30
  go_wp2
  go_ret
  exact ⟨ret_bool (by simp), (bl w).al _⟩
theorem take_no12 {l : List Sg} {n : Bytes} {k : Nat} (hlt : k < l.length) (hn : ∀ v ∈ l.take k, (v.name == n) = false) (h : (l[k].name == n) = false) : ∀ v ∈ l.take (k + 1), (v.name == n) = false := by
  intro v hv
  rw [List.take_succ_eq_append_getElem hlt, List.mem_append, List.mem_singleton] at hv
  rcases hv with hv | rfl
  · exact hn v hv
  · exact h
set_option maxHeartbeats 1000000 in
theorem indexSgs_any (l : List Sg) (n : Bytes) (bn : Nat) (a : Option Addr) (cap : Nat) (w : World) (hl : Sgs w l a cap) (hc : w.cell? ⟨bn, 0, none⟩ = some (.string ⟨n.toArray⟩)) :
    Calls Tryz.prog 29 #[.slice a l.length cap, .func (.func 30) #[] #[.pointer (some ⟨bn, 0, none⟩)]] w fun e w' => e = .returned (.int .i64 (idxSg l n)) ∧ Below w.heap.size w w' := by
  have hlen : l.length ≤ 9223372036854775807 := Nat.le_trans hl.len hl.cap
  have eg : ∀ args w, (callFunc 30 args).run Tryz.prog w = .ok (.enter 30 args) w := fun _ _ => by kernel_rfl
  have HL := hide hl
  have HC := hide hc
  clear hl hc
  go_enter Tryz.func29, Tryz.ntmps29
  go_wp2
  go_loopw [5, 8] (fun _ i wr => ∃ k : Nat, k ≤ l.length ∧ i = .int .i64 k ∧ Hid (∀ v ∈ l.take k, (v.name == n) = false) ∧ Below w.heap.size w wr) (fun _ i _ => l.length - (intOf i).toNat)
  case atStart => exact ⟨0, Nat.zero_le _, rfl, by simp [Hid], bl _⟩
  case round =>
    obtain ⟨k, hk, rfl, hn, hb⟩ := hrel
    by_cases hlt : k < l.length
    · obtain ⟨b, o, rfl⟩ := HL.out.addr (by omega)
      obtain ⟨pa, pc, c0, c1, c2, hi⟩ := (HL.out.at_ b o rfl k hlt).has (has_below hb)
      have h1 := find12_1_any l[k] (.agg #[.string ⟨l[k].name.toArray⟩, .slice pa l[k].pars.length pc, .int .i64 l[k].res]) n bn wr ⟨pa, pc, rfl, hi⟩ (cell_keep HC.out hb (Nat.le_refl _))
      clear hi
      cases hq : l[k].name == n
      all_goals
        simp only [hq] at h1
        have HQ := hide hq
        clear hq
      · go_wp2_with (go_at_fn 30; refine h1.mono ?_; rintro e w1 ⟨rfl, hb1⟩)
        go_roundw
        case rel => exact ⟨k + 1, by omega, by go_num, take_no12 hlt hn HQ.out, hb.tr hb1⟩
        case measure => simp [intOf]; omega
      · go_wp2_with (go_at_fn 30; refine h1.mono ?_; rintro e w1 ⟨rfl, hb1⟩)
        go_ret
        exact ⟨ret_int (idxSg_some hlt HQ.out hn).1.symm, hb.tr hb1⟩
    · obtain rfl : k = l.length := by omega
      have h2 := (idxSg_none (l := l) (n := n) (by have := hn.out; rwa [List.take_length] at this)).1
      go_wp2
      go_ret
      exact ⟨ret_int h2.symm, hb⟩
/-- What Find answers. -/
def FoundPost (o : Option Sg) (w : World) (r : Ending) (w' : World) : Prop := (∃ v, r = .returned (.tuple #[v, .bool o.isSome]) ∧ (o.getD noSg).Val w' v) ∧ Below w.heap.size w w'
theorem noSg_val (w : World) : noSg.Val w (.agg #[.string ⟨#[]⟩, .slice none 0 0, .int .i64 0]) := ⟨none, 0, rfl, Ints.nil _⟩
theorem idxSg_cases (l : List Sg) (n : Bytes) : (idxSg l n = -1 ∧ findSg l n = none) ∨ ∃ k, ∃ h : k < l.length, idxSg l n = (k : Nat) ∧ findSg l n = some l[k] := by
  by_cases h : ∃ k, ∃ h : k < l.length, (l[k].name == n) = true ∧ ∀ s ∈ l.take k, (s.name == n) = false
  · obtain ⟨k, hk, h1, h2⟩ := h
    exact .inr ⟨k, hk, idxSg_some hk h1 h2⟩
  · refine .inl (idxSg_none ?_)
    have : ∀ k, k ≤ l.length → ∀ s ∈ l.take k, (s.name == n) = false := by
      intro k
      induction k with
      | zero => intro _ s hs; simp at hs
      | succ k ih =>
        intro hk
        refine take_no12 (by omega) (ih (by omega)) ?_
        cases hq : (l[k]'(by omega)).name == n
        · rfl
        · exact absurd ⟨k, by omega, hq, ih (by omega)⟩ h
    intro s hs
    exact this l.length (Nat.le_refl _) s (by rw [List.take_length]; exact hs)
end Go.Proofs.YtnkmbddjekepkaaGreatDoor
/- signs.Find and signs.Call, and the document's. -/
namespace Go.Proofs.YtnkmbddjekepkaaGreatDoor
open Go Go.RowKit
set_option linter.unusedSimpArgs false
set_option linter.unusedVariables false
set_option linter.unnecessarySimpa false
set_option maxHeartbeats 2000000 in
theorem find12_any (l : List Sg) (n : Bytes) (a : Option Addr) (cap : Nat) (w : World) (hl : Sgs w l a cap) (hs : ∀ s ∈ l, s.pars.length ≤ 100000) :
    Calls Tryz.prog 15 #[.slice a l.length cap, .string ⟨n.toArray⟩] w (FoundPost (findSg l n) w) := by
  have h1 := hide fun (W : World) (hW : Below w.heap.size w W) (bn : Nat) (hc : W.cell? ⟨bn, 0, none⟩ = some (.string ⟨n.toArray⟩)) => indexSgs_any l n bn a cap W (hl.keep hW (Nat.le_refl _)) hc
  have HL := hide hl
  have HS := hide hs
  clear hl hs
  rcases idxSg_cases l n with ⟨h2, h3⟩ | ⟨k, hk, h2, h3⟩
  · have H3 := hide h3
    clear h3
    rw [h2] at h1
    clear h2
    go_enter Tryz.func15, Tryz.ntmps15
    go_wp2_with fail
    refine (h1.out _ (((bl w).al _).al _) w.heap.size ?_).mono ?_
    · go_simp
    rintro r w1 ⟨rfl, hb1⟩
    obtain ⟨hc1, hf1⟩ := bcell hb1
    have hB := (((bl w).al _).al _).tr hb1
    clear hb1
    go_wp2_with fail
    refine bodyPost_ret (v := .tuple #[.agg #[.string ⟨#[]⟩, .slice none 0 0, .int .i64 0], .bool false]) (by simp [results, Tryz.results15, go_sem, hc1]) rfl ⟨⟨_, by rw [H3.out]; rfl, by rw [H3.out]; exact noSg_val _⟩, ((hB.setCell (by simp) _).setCell (by simp) _).setCell (by simp) _⟩
  · have H3 := hide h3
    clear h3
    rw [h2] at h1
    clear h2
    go_enter Tryz.func15, Tryz.ntmps15
    go_wp2_with fail
    refine (h1.out _ (((bl w).al _).al _) w.heap.size ?_).mono ?_
    · go_simp
    rintro r w1 ⟨rfl, hb1⟩
    obtain ⟨b, o, rfl⟩ := HL.out.addr (by omega)
    obtain ⟨hc1, hf1⟩ := bcell hb1
    have hB := (((bl w).al _).al _).tr hb1
    have hz1 := hb1.size
    simp only [World.size_alloc] at hz1
    clear hb1
    obtain ⟨pa, pc, c0, c1, c2, hi⟩ := (HL.out.at_ b o rfl k hk).has (has_below hB)
    have HI := hide hi
    clear hi
    go_wp2_with fail
    refine (cloneInts_any l[k].pars pa pc _ (HI.out.keep ((bl w1).al _) (Nat.le_refl _)) (HS.out _ (List.getElem_mem hk))).mono ?_
    rintro r w2 ⟨⟨a', c', rfl, hi2⟩, hb2⟩
    have HI2 := hide hi2
    clear hi2
    obtain ⟨hc2, hf2⟩ := bcell hb2
    have hB2 := (hB.al _).tr hb2
    have hz2 := hb2.size
    simp only [World.size_alloc] at hz2
    clear hb2
    have hn1 : ¬ w1.heap.size = w.heap.size + 1 := by omega
    have hn2 : ¬ w.heap.size + 1 = w1.heap.size := by omega
    have hn3 : w.heap.size + 1 < w1.heap.size := by omega
    have hn4 : w.heap.size + 1 < w1.heap.size + 1 := by omega
    have hn5 : w.heap.size + 1 < w.heap.size + 1 + 1 := by omega
    go_wp2_with fail
    refine bodyPost_ret (v := .tuple #[.agg #[.string ⟨l[k].name.toArray⟩, .slice a' l[k].pars.length c', .int .i64 l[k].res], .bool true]) (by simp [results, Tryz.results15, go_sem, hc1, hc2, hn1, hn2, hn3, hn4, hn5]) rfl ⟨⟨_, by rw [H3.out]; rfl, ?_⟩, (((hB2.setCell (by simp; omega) _).setCell (by simp) _).setCell (by simp) _).setCell (by simp) _⟩
    rw [H3.out]
    refine ⟨a', c', rfl, HI2.out.has ?_⟩
    have hK : Kept [w1.heap.size, w.heap.size + 1] w2 ((((w2.setCell ⟨w1.heap.size, 1, none⟩ (.slice a' l[k].pars.length c')).setCell ⟨w.heap.size + 1, 0, none⟩ (.string ⟨l[k].name.toArray⟩)).setCell ⟨w.heap.size + 1, 1, none⟩ (.slice a' l[k].pars.length c')).setCell ⟨w.heap.size + 1, 2, none⟩ (.int .i64 l[k].res)) :=
      ((((Kept.refl _ w2).set (.inl (by simp)) _ _).set (.inl (by simp)) _ _).set (.inl (by simp)) _ _).set (.inl (by simp)) _ _
    refine Has.tr (has_nw_kept hK ?_) has_nw
    intro g hg
    simp only [List.mem_cons, List.not_mem_nil, or_false] at hg
    simp only [World.size_alloc]
    omega
end Go.Proofs.YtnkmbddjekepkaaGreatDoor
/- signs.Call, and the document's Find and Call. -/
namespace Go.Proofs.YtnkmbddjekepkaaGreatDoor
open Go Go.RowKit
set_option linter.unusedSimpArgs false
set_option linter.unusedVariables false
set_option linter.unnecessarySimpa false
set_option maxHeartbeats 1000000 in
theorem refFind12_any (l : List Sg) (n : Bytes) (a : Option Addr) (cap : Nat) (w : World) (hl : Sgs w l a cap) :
    Calls Tryz.prog 23 #[.slice a l.length cap, .string ⟨n.toArray⟩] w (FoundPost (findSg l n) w) := by
  have hlen : l.length ≤ 9223372036854775807 := Nat.le_trans hl.len hl.cap
  have HL := hide hl
  clear hl
  go_enter Tryz.func23, Tryz.ntmps23
  go_wp2_with fail
  go_loopw [6] (fun i wr => ∃ k : Nat, k ≤ l.length ∧ i = .int .i64 k ∧ Hid (∀ v ∈ l.take k, (v.name == n) = false) ∧ wr = w.alloc (.cells #[.string ⟨#[]⟩, .slice none 0 0, .int .i64 0] 59)) (fun i _ => l.length - (intOf i).toNat)
  case atStart => exact ⟨0, Nat.zero_le _, rfl, by simp [Hid], rfl⟩
  case round =>
    obtain ⟨k, hk, rfl, hn, rfl⟩ := hrel
    by_cases hlt : k < l.length
    · obtain ⟨b, o, rfl⟩ := HL.out.addr (by omega)
      obtain ⟨pa, pc, c0, c1, c2, hi⟩ := HL.out.at_ b o rfl k hlt
      have hbl := cell_lt c0
      simp only at hbl
      have HI := hide hi
      clear hi
      cases hq : l[k].name == n
      · have HP : Hid ((l[k].name == n) = false) := hide hq
        go_wp2_with fail
        go_roundw
        case rel => exact ⟨k + 1, by omega, by go_num, take_no12 hlt hn HP.out, trivial⟩
        case measure => simp [intOf]; omega
      · have HE := hide (idxSg_some hlt hq hn.out).2
        clear hn
        go_wp2_with fail
        refine bodyPost_ret (v := .tuple #[.agg #[.string ⟨l[k].name.toArray⟩, .slice pa l[k].pars.length pc, .int .i64 l[k].res], .bool true]) (by simp [results, Tryz.results23, go_sem]) rfl ⟨⟨_, by rw [HE.out]; rfl, ?_⟩, (bl w).al _⟩
        rw [HE.out]
        exact ⟨pa, pc, rfl, HI.out.keep ((bl w).al _) (Nat.le_refl _)⟩
    · obtain rfl : k = l.length := by omega
      have HE := hide (idxSg_none (l := l) (n := n) (by have := hn.out; rwa [List.take_length] at this)).2
      go_wp2_with fail
      refine bodyPost_ret (v := .tuple #[.agg #[.string ⟨#[]⟩, .slice none 0 0, .int .i64 0], .bool false]) (by simp [results, Tryz.results23, go_sem]) rfl ⟨⟨_, by rw [HE.out]; rfl, by rw [HE.out]; exact noSg_val _⟩, (bl w).al _⟩
set_option maxHeartbeats 2000000 in
theorem call12_any (l : List Sg) (n : Bytes) (args : List Int) (target : Int) (a b : Option Addr) (cap cb : Nat) (w : World) (hl : Sgs w l a cap) (hs : ∀ s ∈ l, s.pars.length ≤ 100000) (hb : Ints w args b cb) :
    Calls Tryz.prog 17 #[.slice a l.length cap, .string ⟨n.toArray⟩, .slice b args.length cb, .int .i64 target] w fun r w' => r = .returned (.int .i64 (callM l n args target)) ∧ Below w.heap.size w w' := by
  have h1 := hide fun (W : World) (hW : Below w.heap.size w W) => find12_any l n a cap W (hl.keep hW (Nat.le_refl _)) hs
  have ha := hide hb
  clear hl hs hb
  cases ho : findSg l n with
  | none =>
    have HE : Hid (callM l n args target = 11) := hide (by simp [callM, ho])
    rw [ho] at h1
    clear ho
    go_enter Tryz.func17, Tryz.ntmps17
    go_wp2_with fail
    refine (h1.out _ (bl w)).mono ?_
    rintro r w1 ⟨⟨v, rfl, ⟨pa, pc, rfl, hi⟩⟩, hb1⟩
    have HI := hide hi
    have hai := hide (ha.out.keep hb1 (Nat.le_refl _))
    clear hi
    have hB := hb1
    go_wp2_with fail
    go_ret
    exact ⟨ret_int HE.out.symm, hB.al _⟩
  | some s =>
    rw [ho] at h1
    cases q2 : decide (s.pars = args)
    · have HE : Hid (callM l n args target = 12) := hide (by simp only [callM, ho]; rw [if_pos (.inl (by simpa using q2))])
      clear ho
      go_enter Tryz.func17, Tryz.ntmps17
      go_wp2_with fail
      refine (h1.out _ (bl w)).mono ?_
      rintro r w1 ⟨⟨v, rfl, ⟨pa, pc, rfl, hi⟩⟩, hb1⟩
      have HI := hide hi
      have hai := hide (ha.out.keep hb1 (Nat.le_refl _))
      clear hi
      have hB := hb1
      go_wp2_with fail
      refine (equalInts_any s.pars args pa b pc cb _ (HI.out.keep ((bl w1).al _) (Nat.le_refl _)) (hai.out.keep ((bl w1).al _) (Nat.le_refl _))).mono ?_
      rintro r w2 ⟨rfl, nq, rfl⟩
      rw [q2]
      go_wp2_with fail
      go_ret
      exact ⟨ret_int HE.out.symm, below_dq (hB.al _) _⟩
    cases q3 : target == 0
    · have g3 : (target != 0) = true := bne_no' q3
      cases q4 : target == s.res
      · have g4 : (target != s.res) = true := bne_no' q4
        have HE : Hid (callM l n args target = 12) := hide (by simp only [callM, ho]; rw [if_pos (.inr ⟨by simpa using q3, by simpa using q4⟩)])
        clear ho q3 q4
        go_enter Tryz.func17, Tryz.ntmps17
        go_wp2_with fail
        refine (h1.out _ (bl w)).mono ?_
        rintro r w1 ⟨⟨v, rfl, ⟨pa, pc, rfl, hi⟩⟩, hb1⟩
        have HI := hide hi
        have hai := hide (ha.out.keep hb1 (Nat.le_refl _))
        clear hi
        have hB := hb1
        go_wp2_with fail
        refine (equalInts_any s.pars args pa b pc cb _ (HI.out.keep ((bl w1).al _) (Nat.le_refl _)) (hai.out.keep ((bl w1).al _) (Nat.le_refl _))).mono ?_
        rintro r w2 ⟨rfl, nq, rfl⟩
        rw [q2]
        go_wp2_with fail
        go_ret
        exact ⟨ret_int HE.out.symm, below_dq (hB.al _) _⟩
      · have g4 : (target != s.res) = false := bne_yes' q4
        have HE : Hid (callM l n args target = 0) := hide (by simp only [callM, ho]; rw [if_neg (fun h => h.elim (fun h => h (by simpa using q2)) (fun h => h.2 (by simpa using q4)))])
        clear ho q3 q4
        go_enter Tryz.func17, Tryz.ntmps17
        go_wp2_with fail
        refine (h1.out _ (bl w)).mono ?_
        rintro r w1 ⟨⟨v, rfl, ⟨pa, pc, rfl, hi⟩⟩, hb1⟩
        have HI := hide hi
        have hai := hide (ha.out.keep hb1 (Nat.le_refl _))
        clear hi
        have hB := hb1
        go_wp2_with fail
        refine (equalInts_any s.pars args pa b pc cb _ (HI.out.keep ((bl w1).al _) (Nat.le_refl _)) (hai.out.keep ((bl w1).al _) (Nat.le_refl _))).mono ?_
        rintro r w2 ⟨rfl, nq, rfl⟩
        rw [q2]
        go_wp2_with fail
        go_ret
        exact ⟨ret_int HE.out.symm, below_dq (hB.al _) _⟩
    · have g3 : (target != 0) = false := bne_yes' q3
      have HE : Hid (callM l n args target = 0) := hide (by simp only [callM, ho]; rw [if_neg (fun h => h.elim (fun h => h (by simpa using q2)) (fun h => h.1 (by simpa using q3)))])
      clear ho q3
      go_enter Tryz.func17, Tryz.ntmps17
      go_wp2_with fail
      refine (h1.out _ (bl w)).mono ?_
      rintro r w1 ⟨⟨v, rfl, ⟨pa, pc, rfl, hi⟩⟩, hb1⟩
      have HI := hide hi
      have hai := hide (ha.out.keep hb1 (Nat.le_refl _))
      clear hi
      have hB := hb1
      go_wp2_with fail
      refine (equalInts_any s.pars args pa b pc cb _ (HI.out.keep ((bl w1).al _) (Nat.le_refl _)) (hai.out.keep ((bl w1).al _) (Nat.le_refl _))).mono ?_
      rintro r w2 ⟨rfl, nq, rfl⟩
      rw [q2]
      go_wp2_with fail
      go_ret
      exact ⟨ret_int HE.out.symm, below_dq (hB.al _) _⟩
end Go.Proofs.YtnkmbddjekepkaaGreatDoor
/- Types and their words; the signature of a function. -/
namespace Go.Proofs.YtnkmbddjekepkaaGreatDoor
open Go Go.RowKit
set_option linter.unusedSimpArgs false
set_option linter.unusedVariables false
set_option linter.unnecessarySimpa false
theorem typed12_any (t : Int) (w : World) : Calls Tryz.prog 33 #[.int .i64 t] w fun r w' => r = .returned (.bool (typedB t)) ∧ w' = w := by
  by_cases h1 : 0 < t
  · by_cases h2 : t < 4
    · have HE : Hid (typedB t = true) := hide (by simp [typedB, h1, h2])
      go_enter Tryz.func33, Tryz.ntmps33
      go_wp2_with fail
      go_ret
      exact ⟨ret_bool (by rw [HE.out]), rfl⟩
    · have HE : Hid (typedB t = false) := hide (by simp [typedB, h2])
      go_enter Tryz.func33, Tryz.ntmps33
      go_wp2_with fail
      go_ret
      exact ⟨ret_bool (by rw [HE.out]), rfl⟩
  · have HE : Hid (typedB t = false) := hide (by simp [typedB, h1])
    go_enter Tryz.func33, Tryz.ntmps33
    go_wp2_with fail
    go_ret
    exact ⟨ret_bool (by rw [HE.out]), rfl⟩
theorem ret_string {a b : Bytes} (h : a = b) : Ending.returned (.string ⟨a.toArray⟩) = .returned (.string ⟨b.toArray⟩) := by rw [h]
/-- The words of types are laid. -/
def Words (w : World) : Prop := ∀ t : Nat, t < 4 → w.cell? ⟨0, t, none⟩ = some (.string ⟨(wordB t).toArray⟩)
theorem Words.below {w w' : World} (h : Words w) (hb : Below w.heap.size w w') : Words w' := fun t ht => cell_keep (h t ht) hb (Nat.le_refl _)
theorem own_ints {w : World} {base n : Nat} {t : TypeId} {ban : List Nat} {v : Value} {l : List Int} (h : OwnL w base t 1 InC ban v l) (hn : n ≤ base) : ∃ a cap, v = .slice a l.length cap ∧ Ints (nw n w) l a cap := by
  obtain ⟨xs, h1, h2⟩ := h
  exact OwnL.ints (ban := List.range n) (w := w) (base := base) (t := t) (v := v) (l := l) ⟨xs, h1, h2.mono fun _ _ h => h⟩ (fun g hg => by have := List.mem_range.1 hg; omega)
set_option maxRecDepth 20000 in
set_option maxHeartbeats 4000000 in
theorem of12_any (f : Fn) (v : Value) (w : World) (hv : f.Val w v) (hn : f.params.length ≤ 100000) :
    Calls Tryz.prog 20 #[v] w fun r w' => (∃ u, r = .returned u ∧ (sgOf f).Val (nw w.heap.size w') u) ∧ Below w.heap.size w w' := by
  obtain ⟨pp, pb, cp, cb, rfl, hfw, hp, hr⟩ := hv
  have HP := hide hp
  obtain ⟨i0, hi, hz0, hz1, hz2⟩ := info_parts info_in
  have HB0 : Hid (Below w.heap.size w (((w.alloc (.cells #[.string ⟨f.name.toArray⟩, .slice pp f.params.length cp, .int .i64 f.result, .slice pb f.body.length cb, .int .i64 f.count] 30)).alloc (.cells #[.string ⟨#[]⟩, .slice none 0 0, .int .i64 0] 49)).alloc (.cells #[.string ⟨f.name.toArray⟩, .slice none 0 0, .int .i64 f.result] 49))) := hide ((((bl w).al _).al _).al _)
  have HX0 : Hid ((((w.alloc (.cells #[.string ⟨f.name.toArray⟩, .slice pp f.params.length cp, .int .i64 f.result, .slice pb f.body.length cb, .int .i64 f.count] 30)).alloc (.cells #[.string ⟨#[]⟩, .slice none 0 0, .int .i64 0] 49)).alloc (.cells #[.string ⟨f.name.toArray⟩, .slice none 0 0, .int .i64 f.result] 49)).heap[w.heap.size + 1 + 1]? = some (.cells #[.string ⟨f.name.toArray⟩, .slice none 0 0, .int .i64 f.result] 49 (0, 0))) := hide (by
    have := heap_alloc_new ((w.alloc (.cells #[.string ⟨f.name.toArray⟩, .slice pp f.params.length cp, .int .i64 f.result, .slice pb f.body.length cb, .int .i64 f.count] 30)).alloc (.cells #[.string ⟨#[]⟩, .slice none 0 0, .int .i64 0] 49)) (.cells #[.string ⟨f.name.toArray⟩, .slice none 0 0, .int .i64 f.result] 49)
    simpa using this)
  have HR0 : Hid ((((w.alloc (.cells #[.string ⟨f.name.toArray⟩, .slice pp f.params.length cp, .int .i64 f.result, .slice pb f.body.length cb, .int .i64 f.count] 30)).alloc (.cells #[.string ⟨#[]⟩, .slice none 0 0, .int .i64 0] 49)).alloc (.cells #[.string ⟨f.name.toArray⟩, .slice none 0 0, .int .i64 f.result] 49)).heap[w.heap.size + 1]? = some (.cells #[.string ⟨#[]⟩, .slice none 0 0, .int .i64 0] 49 (0, 0))) := hide (by
    rw [Below.heap_alloc _ _ _ (by simp)]
    have := heap_alloc_new (w.alloc (.cells #[.string ⟨f.name.toArray⟩, .slice pp f.params.length cp, .int .i64 f.result, .slice pb f.body.length cb, .int .i64 f.count] 30)) (.cells #[.string ⟨#[]⟩, .slice none 0 0, .int .i64 0] 49)
    simpa using this)
  clear hp hr
  go_enter Tryz.func20, Tryz.ntmps20
  go_wp2_with fail
  go_loopw [14] (fun i wr => ∃ (k : Nat) (va : Option Addr) (vc : Nat), k ≤ f.params.length ∧ i = .int .i64 k ∧ Hid (wr.heap[w.heap.size + 1 + 1]? = some (.cells #[.string ⟨f.name.toArray⟩, .slice va k vc, .int .i64 f.result] 49 (0, 0))) ∧
    Hid (OwnL wr (w.heap.size + 3) 3 1 InC [w.heap.size + 1 + 1] (.slice va k vc) ((f.params.take k).map (·.typ))) ∧ Hid (Below w.heap.size w wr) ∧ w.heap.size + 3 ≤ wr.heap.size ∧ Hid (wr.heap[w.heap.size + 1]? = some (.cells #[.string ⟨#[]⟩, .slice none 0 0, .int .i64 0] 49 (0, 0)))) (fun i _ => f.params.length - (intOf i).toNat)
  case atStart => exact ⟨0, none, 0, Nat.zero_le _, rfl, HX0, hide (OwnL.nil _ _ _ _ _ _), HB0, by simp, HR0⟩
  case round =>
    obtain ⟨k, va, vc, hk, rfl, HX, HO, HB, hws, HR⟩ := hrel
    have x0 := cell_at (j := 0) HX.out rfl
    have x1 := cell_at (j := 1) HX.out rfl
    have x2 := cell_at (j := 2) HX.out rfl
    have y1 := free_at (j := 1) HX.out
    have hsl : w.heap.size + 1 + 1 < wr.heap.size := by omega
    by_cases hlt : k < f.params.length
    · obtain ⟨b, o, rfl⟩ := HP.out.addr (by omega)
      obtain ⟨c0, c1⟩ := (HP.out.has (has_below HB.out)).at_ b o rfl k hlt
      have hbl := cell_lt c0
      simp only at hbl
      have HTK : Hid ((f.params.take (k + 1)).map (·.typ) = (f.params.take k).map (·.typ) ++ [f.params[k].typ]) := hide (by rw [List.take_succ_eq_append_getElem hlt, List.map_append]; rfl)
      have hll : ((f.params.take k).map (·.typ)).length = k := by simp; omega
      have HLL := hide hll
      have HO2 : Hid (OwnL ((wr.alloc (.cells #[.string ⟨f.params[k].name.toArray⟩, .int .i64 f.params[k].typ] 72)).alloc (.cells #[.int .i64 f.params[k].typ] 3)) (w.heap.size + 3) 3 1 InC [w.heap.size + 1 + 1] (.slice va k vc) ((f.params.take k).map (·.typ))) := hide ((HO.out.al InC.mono _).al InC.mono _)
      have HB2 := hide ((HB.out.al (.cells #[.string ⟨f.params[k].name.toArray⟩, .int .i64 f.params[k].typ] 72)).al (.cells #[.int .i64 f.params[k].typ] 3))
      have HX2 := hide ((Below.heap_alloc _ (.cells #[.int .i64 f.params[k].typ] 3) _ (by simp; omega)).trans ((Below.heap_alloc _ (.cells #[.string ⟨f.params[k].name.toArray⟩, .int .i64 f.params[k].typ] 72) _ hsl).trans HX.out))
      have HMA : Hid (((f.params.take k).map (·.typ)).length + 1 ≤ maxLen) := hide (by rw [hll]; unfold maxLen; omega)
      have HMB : Hid ((((f.params.take k).map (·.typ)).length + 1) * 8 ≤ 140737488355328) := hide (by rw [hll]; omega)
      have HNW := hide (news_row (wr.alloc (.cells #[.string ⟨f.params[k].name.toArray⟩, .int .i64 f.params[k].typ] 72)) [.int .i64 f.params[k].typ] 3 (wr.heap.size + 1) (by simp))
      have HBS : Hid (w.heap.size + 3 ≤ ((wr.alloc (.cells #[.string ⟨f.params[k].name.toArray⟩, .int .i64 f.params[k].typ] 72)).alloc (.cells #[.int .i64 f.params[k].typ] 3)).heap.size) := hide (by simp; omega)
      have HLEN : Hid (((f.params.take k).map (·.typ) ++ [f.params[k].typ]).length = k + 1) := hide (by rw [List.length_append, hll]; rfl)
      have HR2 := hide ((Below.heap_alloc _ (.cells #[.int .i64 f.params[k].typ] 3) (w.heap.size + 1) (by simp; omega)).trans ((Below.heap_alloc _ (.cells #[.string ⟨f.params[k].name.toArray⟩, .int .i64 f.params[k].typ] 72) _ (by omega)).trans HR.out))
      clear hll
      go_wp2_with (at_builtin; refine wpList_push _ rfl _ _ 47 rfl (w.heap.size + 3) 3 i0 _ 1 8 Tryz.underlying47 hi hz0 hz1 hz2 rfl (by decide) InC InC.mono [w.heap.size + 1 + 1] _ _ rfl HO2.out ⟨wr.heap.size + 1, 0, none⟩ 1 [.int .i64 f.params[k].typ] f.params[k].typ rfl rfl HNW.out (by simp [Value.oneCell']) rfl HMA.out HMB.out HBS.out ?_; intro v2 w2 hown2 hgrow2; obtain ⟨va2, vc2, he2, -, -⟩ := hown2.slice; rw [HLEN.out] at he2; subst he2; have HR3 := hide ((hgrow2.block _ (by simp; omega) (fun e => by have := (HO.out.lt _ e.symm).1; omega)).trans HR2.out); have HX3 := hide ((hgrow2.block _ (by simp; omega) (fun e => by have := (HO.out.lt _ e.symm).1; omega)).trans HX2.out); have HB3 := hide (HB2.out.grown hgrow2 HB2.out.size (fun g hg => by have := (HO.out.lt g hg).1; omega)); have HO3 := hide hown2; have hs2 := hgrow2.size; have x3 := cell_at (j := 1) HX3.out rfl; have y3 := free_at (j := 1) HX3.out; clear hgrow2 hown2)
      have hsz2 : wr.heap.size + 1 + 1 ≤ w2.heap.size := by simpa using hs2
      go_roundw
      case rel =>
        refine ⟨k + 1, va2, vc2, by omega, by go_num, ?_, ?_, hide (HB3.out.setCell (by simp only; omega) _), by simp [World.setCell]; omega, ?_⟩
        · have := heap_set (i := 1) HX3.out (.slice va2 (k + 1) vc2)
          simpa [Hid] using this
        · have h7 := HO3.out.kept InC.mono ((Kept.refl [w.heap.size + 1 + 1] w2).set (g := w.heap.size + 1 + 1) (.inl (by simp)) 1 (.slice va2 (k + 1) vc2)) (by simp)
          rw [HTK.out]
          exact h7
        · exact (Below.heap_setCell _ _ _ _ (by simp only; omega)).trans HR3.out
      case measure => simp [intOf]; omega
    · obtain rfl : k = f.params.length := by omega
      have r0 := cell_at (j := 0) HR.out rfl
      have r1 := cell_at (j := 1) HR.out rfl
      have r2 := cell_at (j := 2) HR.out rfl
      have z0 := free_at (j := 0) HR.out
      have z1 := free_at (j := 1) HR.out
      have z2 := free_at (j := 2) HR.out
      have hrl : w.heap.size + 1 < wr.heap.size := by omega
      go_wp2_with fail
      refine bodyPost_ret (v := .agg #[.string ⟨f.name.toArray⟩, .slice va f.params.length vc, .int .i64 f.result]) (by simp [results, Tryz.results20, go_sem, r0, r1, r2]) rfl ⟨⟨_, rfl, ?_⟩, ((HB.out.setCell (by simp) _).setCell (by simp) _).setCell (by simp) _⟩
      have ho := HO.out
      rw [List.take_length] at ho
      obtain ⟨a', c', he, hi'⟩ := own_ints ho (Nat.le_refl _)
      rw [List.length_map] at he
      cases he
      have hK : Kept [w.heap.size + 1] wr (((wr.setCell ⟨w.heap.size + 1, 0, none⟩ (.string ⟨f.name.toArray⟩)).setCell ⟨w.heap.size + 1, 1, none⟩ (.slice va f.params.length vc)).setCell ⟨w.heap.size + 1, 2, none⟩ (.int .i64 f.result)) :=
        (((Kept.refl _ wr).set (.inl (by simp)) _ _).set (.inl (by simp)) _ _).set (.inl (by simp)) _ _
      refine ⟨va, vc, by simp [sgOf], (hi'.has (has_nw_kept hK (by simp))).has (has_nws (by omega))⟩
end Go.Proofs.YtnkmbddjekepkaaGreatDoor
/- The signatures of a program: what the loop of signs.Of holds, in plain words. -/
namespace Go.Proofs.YtnkmbddjekepkaaGreatDoor
open Go Go.RowKit
set_option linter.unusedSimpArgs false
set_option linter.unusedVariables false
set_option linter.unnecessarySimpa false
/-- A signature, and where its parameters lie. -/
structure Sa where
  s : Sg
  a : Option Addr
  cap : Nat
def Sa.val (x : Sa) : Value := .agg #[.string ⟨x.s.name.toArray⟩, .slice x.a x.s.pars.length x.cap, .int .i64 x.s.res]
def Sa.pair (x : Sa) : Bytes × Value := (x.s.name, x.val)
/-- Its cells. -/
def SaC (w : World) (x : Sa) (c : List Value) : Prop := c = [.string ⟨x.s.name.toArray⟩, .slice x.a x.s.pars.length x.cap, .int .i64 x.s.res] ∧ x.s.wf ∧ Ints w x.s.pars x.a x.cap
theorem SaC.mono : Mono SaC := fun _ _ _ _ hh ⟨h1, h2, h3⟩ => ⟨h1, h2, h3.has hh⟩
theorem SaC.one {W : World} {x : Sa} {c : List Value} (h : SaC W x c) : ∀ u ∈ c, u.oneCell' = true := by
  obtain ⟨rfl, _⟩ := h
  simp [Value.oneCell']
theorem cut_sa {sz : Nat} {W : World} : ∀ {l : List Sa} {xs : List Value}, Cut sz (SaC W) l xs → Cut sz (SgC W) (l.map (·.s)) xs
  | [], _, h => h
  | x :: l, xs, h => by
    obtain ⟨c, r, rfl, hc, ⟨h1, h2, h3⟩, hr⟩ := h
    exact ⟨c, r, rfl, hc, ⟨x.a, x.cap, h1, h2, h3⟩, cut_sa hr⟩
theorem OwnL.sas {w : World} {base : Nat} {t : TypeId} {ban : List Nat} {v : Value} {l : List Sa} (h : OwnL w base t 3 SaC ban v l) : OwnL w base t 3 SgC ban v (l.map (·.s)) := by
  obtain ⟨xs, h1, h2⟩ := h
  exact ⟨xs, by rw [List.length_map]; exact h1, cut_sa h2⟩
/-- The first one with a name. -/
def findSa (l : List Sa) (n : Bytes) : Option Sa := l.find? fun x => decide (x.s.name = n)
/-- What the map holds is what the list holds. -/
def MapSa (l : List Sa) : Prop := ∀ n, mapAt (l.map Sa.pair) n = (findSa l n).map Sa.val
theorem MapSa.nil : MapSa [] := fun _ => rfl
theorem MapSa.snoc {l : List Sa} (h : MapSa l) {x : Sa} (hx : (mapAt (l.map Sa.pair) x.s.name).isSome = false) : MapSa (l ++ [x]) := by
  intro n
  rw [List.map_append]
  show mapAt (l.map Sa.pair ++ [(x.s.name, x.val)]) n = _
  rw [mapAt_snoc]
  have e : findSa (l ++ [x]) n = (findSa l n).or (if x.s.name = n then some x else none) := by
    unfold findSa
    rw [List.find?_append]
    congr 1
    by_cases hn : x.s.name = n <;> simp [hn]
  rw [e]
  by_cases hn : x.s.name = n
  · subst hn
    rw [h] at hx
    have h0 : findSa l x.s.name = none := by simpa using hx
    simp [h0]
  · rw [if_neg hn, if_neg hn, h n]
    simp
theorem findSa_sg (l : List Sa) (n : Bytes) : (findSa l n).map (·.s) = findSg (l.map (·.s)) n := by
  unfold findSa findSg
  rw [List.find?_map]
  rfl
theorem mapSa_some {l : List Sa} (h : MapSa l) (n : Bytes) : (mapAt (l.map Sa.pair) n).isSome = decide (n ∈ l.map (·.s.name)) := by
  rw [h n]
  unfold findSa
  rw [Bool.eq_iff_iff]
  simp
/-- The step of the search for a name that stands twice. -/
theorem dup_step {l : List Fn} {k : Nat} (hk : k < l.length) (seen : List Bytes) : dupFrom seen (l.drop k) k = if l[k].name ∈ seen then some k else dupFrom (seen ++ [l[k].name]) (l.drop (k + 1)) (k + 1) := by
  rw [List.drop_eq_getElem_cons hk]
  rfl
/-- What signs.Of answers. -/
def signsOfM (l : List Fn) : List Sg × Int × Int := if checkM l = 0 then signsM l else ([], 0, 2)
def SignsPost (o : List Sg × Int × Int) (w : World) (r : Ending) (w' : World) : Prop :=
  (∃ a cap, r = .returned (.tuple #[.slice a o.1.length cap, .int .i64 o.2.1, .int .i64 o.2.2]) ∧ Sgs w' o.1 a cap) ∧ Below w.heap.size w w'
theorem check_ok {l : List Fn} (h : checkM l = 0) : l.length ≤ 20 ∧ ∀ f ∈ l, f.params.length ≤ 8 := by
  unfold checkM at h
  split at h
  · rename_i h1
    refine ⟨h1.1, fun f hf => ?_⟩
    have h2 := (h1.2 f hf).1
    simp only [fnOk, Bool.and_eq_true, decide_eq_true_eq] at h2
    exact h2.1.1.1.2
  · cases h
end Go.Proofs.YtnkmbddjekepkaaGreatDoor
/- signs.Of. -/
namespace Go.Proofs.YtnkmbddjekepkaaGreatDoor
open Go Go.RowKit
set_option linter.unusedSimpArgs false
set_option linter.unusedVariables false
set_option linter.unnecessarySimpa false
theorem info_sg : (Tryz.prog.info? 49).map (fun i => (i.zero, i.size, i.bytes)) = some (some (.agg #[.string ⟨#[]⟩, .slice none 0 0, .int .i64 0]), 3, 48) := by kernel_rfl
theorem zero_sg (w : World) : (zeroValue 49).run Tryz.prog w = .ok (.agg #[.string ⟨#[]⟩, .slice none 0 0, .int .i64 0]) w := by kernel_rfl
set_option maxRecDepth 20000 in
set_option maxHeartbeats 4000000 in
theorem signsOf_any (l : List Fn) (a : Option Addr) (cap : Nat) (w : World) (hl : Fns w l a cap) (hT : Tab w) :
    Calls Tryz.prog 7 #[.agg #[.slice a l.length cap]] w (SignsPost (signsOfM l) w) := by
  have h1 := hide fun (W : World) (hW : Below w.heap.size w W) => check_any l a cap W (hl.keep hW (Nat.le_refl _)) (hT.below hW)
  have HL := hide hl
  have hmm := @run_makeMap Tryz.prog
  obtain ⟨i0, hi, hz0, hz1, hz2⟩ := info_parts info_sg
  clear hl hT
  by_cases hc : checkM l = 0
  · have HE : Hid (signsOfM l = signsM l) := hide (by unfold signsOfM; rw [if_pos hc])
    obtain ⟨hl20, hp8⟩ := check_ok hc
    have HP8 := hide hp8
    rw [hc] at h1
    clear hc hp8
    go_enter Tryz.func7, Tryz.ntmps7
    go_wp2_with fail
    refine (h1.out _ ((bl w).al _)).mono ?_
    rintro r w1 ⟨rfl, hb1⟩
    have hc1 : w1.cell? ⟨w.heap.size, 0, none⟩ = some (.slice a l.length cap) := by rw [(bcell hb1).1 _ _ (by simp)]; go_simp
    have hlt1 : w.heap.size < w1.heap.size := cell_lt hc1
    have hB := ((bl w).al _).tr hb1
    have HB0 : Hid (Below w.heap.size w (w1.alloc (.map #[] 0))) := hide (hB.al _)
    have HM0 : Hid (NMap (w1.alloc (.map #[] 0)) 9 w1.heap.size (([] : List Sa).map Sa.pair)) := hide (NMap.made w1 _)
    clear hb1
    go_wp2_with fail
    go_loopw [6, 24] (fun lv i wr => ∃ (k : Nat) (va : Option Addr) (vc : Nat) (xs : List Sa), k ≤ l.length ∧ i = .int .i64 k ∧ lv = .slice va k vc ∧ Hid (xs.map (·.s) = (l.take k).map sgOf) ∧ Hid (MapSa xs) ∧ Hid (dupFrom [] l 0 = dupFrom (xs.map (·.s.name)) (l.drop k) k) ∧
      Hid (OwnL wr (w1.heap.size + 1) 49 3 SaC [w1.heap.size] (.slice va k vc) xs) ∧ Hid (NMap wr 9 w1.heap.size (xs.map Sa.pair)) ∧ Hid (Below w.heap.size w wr) ∧ w1.heap.size + 1 ≤ wr.heap.size) (fun _ i _ => l.length - (intOf i).toNat)
    case atStart => exact ⟨0, none, 0, [], Nat.zero_le _, rfl, rfl, hide rfl, hide MapSa.nil, hide rfl, hide (OwnL.nil _ _ _ _ _ _), HM0, HB0, by simp⟩
    case round =>
      obtain ⟨k, va, vc, xs, hk, rfl, rfl, HXS, HMS, HD, HO, HM, HB, hws⟩ := hrel
      have hxl : xs.length = k := by have := congrArg List.length HXS.out; simp at this; omega
      by_cases hlt : k < l.length
      · obtain ⟨b, o, rfl⟩ := HL.out.addr (by omega)
        have hfv := (HL.out.at_ b o rfl k hlt).has (has_below HB.out)
        obtain ⟨pp, pb, cp, cb, c0, c1, c2, c3, c4, hfw, hps, hrow⟩ := hfv
        have hbl := cell_lt c0
        simp only at hbl
        have HFV := hide fun (W : World) (hW : Below wr.heap.size wr W) => of12_any l[k] _ W (⟨pp, pb, cp, cb, rfl, hfw, hps.has (has_below hW), hrow.has (has_below hW)⟩ : Fn.Val W l[k] _) (by have := HP8.out _ (List.getElem_mem hlt); omega)
        have HFW := hide hfw
        have HPM := hide hps.wf
        clear hfw hps hrow
        have hnl : l[k].name.length ≤ maxLen := HFW.out.s
        cases hf : findSa xs l[k].name with
        | none =>
          have HMV : Hid (mapAt (xs.map Sa.pair) l[k].name = none) := hide (by rw [HMS.out, hf]; rfl)
          clear hf
          go_wp2_with (at_lookup; refine wpList_nmap_ok _ rfl _ _ rfl Tryz.underlying9 Tryz.underlying56 (zero_sg _) (xs.map Sa.pair) rfl (HM.out.keep ((bl wr).al _) (by omega)) l[k].name rfl hnl ?_; rw [HMV.out]; simp only [Option.getD_none, Option.isSome_none])
          (with_reducible refine (HFV.out _ (((bl wr).al _).al _)).mono ?_)
          rintro r w2 ⟨⟨u, rfl, hu⟩, hb2⟩
          obtain ⟨s, hs⟩ : ∃ s, s = sgOf l[k] := ⟨_, rfl⟩
          rw [← hs] at hu
          have HS := hide hs
          clear hs
          obtain ⟨ua, uc, rfl, hui⟩ := hu
          have hzb := hb2.size
          simp only [World.size_alloc] at hzb
          have hcn : w2.cell? ⟨wr.heap.size, 0, none⟩ = some (.string ⟨l[k].name.toArray⟩) := by rw [(bcell hb2).1 _ _ (by simp; omega)]; go_simp
          have hln : wr.heap.size < w2.heap.size := by omega
          have HM2 : Hid (NMap (w2.alloc (.cells #[.string ⟨s.name.toArray⟩, .slice ua s.pars.length uc, .int .i64 s.res] 49)) 9 w1.heap.size (xs.map Sa.pair)) := hide (((HM.out.keep (((bl wr).al _).al _) (by omega)).keep hb2 (by simp; omega)).keep ((bl w2).al _) (by omega))
          have HO2 : Hid (OwnL (w2.alloc (.cells #[.string ⟨s.name.toArray⟩, .slice ua s.pars.length uc, .int .i64 s.res] 49)) (w1.heap.size + 1) 49 3 SaC [w1.heap.size] (.slice va k vc) xs) := hide ((((HO.out.al SaC.mono _).al SaC.mono _).below SaC.mono hb2).al SaC.mono _)
          have HX2 := hide (heap_alloc_new w2 (.cells #[.string ⟨s.name.toArray⟩, .slice ua s.pars.length uc, .int .i64 s.res] 49))
          have HB2 := hide ((((HB.out.al (.cells #[.string ⟨l[k].name.toArray⟩, .slice pp l[k].params.length cp, .int .i64 l[k].result, .slice pb l[k].body.length cb, .int .i64 l[k].count] 30)).al (.cells #[.string ⟨#[]⟩, .slice none 0 0, .int .i64 0] 49)).tr hb2).al (.cells #[.string ⟨s.name.toArray⟩, .slice ua s.pars.length uc, .int .i64 s.res] 49))
          have HUI := hide hui
          have hll : (xs.map Sa.pair).length < maxLen := by rw [List.length_map, hxl]; unfold maxLen; omega
          have hsw : s.wf := by
            rw [HS.out]
            refine ⟨hnl, HFW.out.r, fun p hp => ?_⟩
            obtain ⟨q, hq, rfl⟩ := List.mem_map.1 hp
            exact (HPM.out q hq).2
          have hsn : s.name = l[k].name := by rw [HS.out]; rfl
          have HSN := hide hsn
          have HALL : Hid (∀ w3, NMap w3 9 w1.heap.size (xs.map Sa.pair ++ [(l[k].name, Sa.val ⟨s, ua, uc⟩)]) → (w2.alloc (.cells #[.string ⟨s.name.toArray⟩, .slice ua s.pars.length uc, .int .i64 s.res] 49)).grownBy w3 (some w1.heap.size) →
              OwnL (w3.alloc (.cells #[.string ⟨s.name.toArray⟩, .slice ua s.pars.length uc, .int .i64 s.res] 49)) (w1.heap.size + 1) 49 3 SaC [w1.heap.size] (.slice va k vc) xs ∧ SaC (av ((Value.slice va k vc).ownBlock.toList ++ [w1.heap.size]) (w3.alloc (.cells #[.string ⟨s.name.toArray⟩, .slice ua s.pars.length uc, .int .i64 s.res] 49))) ⟨s, ua, uc⟩ [.string ⟨s.name.toArray⟩, .slice ua s.pars.length uc, .int .i64 s.res] ∧
              Below w.heap.size w (w3.alloc (.cells #[.string ⟨s.name.toArray⟩, .slice ua s.pars.length uc, .int .i64 s.res] 49)) ∧ NMap (w3.alloc (.cells #[.string ⟨s.name.toArray⟩, .slice ua s.pars.length uc, .int .i64 s.res] 49)) 9 w1.heap.size ((xs ++ [(⟨s, ua, uc⟩ : Sa)]).map Sa.pair) ∧ w1.heap.size + 1 ≤ (w3.alloc (.cells #[.string ⟨s.name.toArray⟩, .slice ua s.pars.length uc, .int .i64 s.res] 49)).heap.size ∧ w3.heap[w2.heap.size]? = some (.cells #[.string ⟨s.name.toArray⟩, .slice ua s.pars.length uc, .int .i64 s.res] 49 (0, 0))) := hide (by
            intro w3 hm3 hg3
            have hs3 := hg3.size
            simp only [World.size_alloc] at hs3
            have hK3 : Kept [w1.heap.size] (w2.alloc (.cells #[.string ⟨s.name.toArray⟩, .slice ua s.pars.length uc, .int .i64 s.res] 49)) w3 := (Kept.refl _ _).grown hg3 (fun g e => by cases e; exact .inl (by simp))
            refine ⟨(HO2.out.kept SaC.mono hK3 (by simp)).al SaC.mono _, ⟨rfl, hsw, ?_⟩, ?_, ?_, by simp; omega, (hg3.block _ (by simp) (fun e => by simp at e; omega)).trans HX2.out⟩
            · refine HUI.out.has ?_
              refine (has_nw_below ((bl w2).al (.cells #[.string ⟨s.name.toArray⟩, .slice ua s.pars.length uc, .int .i64 s.res] 49))).tr ((has_nw_kept hK3 (by simp; omega)).tr ((has_nw_below ((bl w3).al _)).tr (has_nw_av ?_)))
              intro g hg
              simp only [List.mem_append, Option.mem_toList, List.mem_cons, List.not_mem_nil, or_false] at hg
              simp only [World.size_alloc]
              rcases hg with hg | rfl
              · have := (HO.out.lt g hg).2; omega
              · omega
            · exact (HB2.out.grown hg3 HB2.out.size (fun g e => by cases e; exact hB.size)).al _
            · rw [List.map_append]
              have := hm3.keep ((bl w3).al (.cells #[.string ⟨s.name.toArray⟩, .slice ua s.pars.length uc, .int .i64 s.res] 49)) (by omega)
              rw [← HSN.out] at this
              exact this)
          have HLL : Hid (xs.length + 1 ≤ maxLen) := hide (by rw [hxl]; unfold maxLen; omega)
          have HLB : Hid ((xs.length + 1) * 48 ≤ 140737488355328) := hide (by rw [hxl]; omega)
          have HXL := hide hxl
          clear hui hb2 hsw hsn
          go_wp2_with (first | (at_mapUpdate; refine wpList_nmap_set _ rfl _ _ _ rfl Tryz.underlying9 Tryz.underlying56 (xs.map Sa.pair) rfl HM2.out hll l[k].name _ rfl rfl hnl ?_; intro w3 hm3 hg3; obtain ⟨ho3, hv3, hB3, hM3, hs3, hX3⟩ := HALL.out w3 hm3 hg3; have x30 := cell_at (j := 0) hX3 rfl; have x31 := cell_at (j := 1) hX3 rfl; have x32 := cell_at (j := 2) hX3 rfl; have HO3 := hide ho3; have HV3 := hide hv3; have HB3 := hide hB3; have HM3 := hide hM3; have HN3 := hide (news_row w3 [.string ⟨s.name.toArray⟩, .slice ua s.pars.length uc, .int .i64 s.res] 49 w3.heap.size rfl); clear hm3 hg3 ho3 hv3 hB3 hM3 hX3) | (at_builtin; refine wpList_push _ rfl _ _ 31 rfl (w1.heap.size + 1) 49 i0 _ 3 48 Tryz.underlying31 hi hz0 hz1 hz2 rfl (by decide) SaC SaC.mono [w1.heap.size] _ xs rfl HO3.out ⟨w3.heap.size, 0, none⟩ 1 [.string ⟨s.name.toArray⟩, .slice ua s.pars.length uc, .int .i64 s.res] ⟨s, ua, uc⟩ rfl rfl HN3.out (by simp [Value.oneCell']) HV3.out HLL.out HLB.out hs3 ?_; intro v4 w4 hown4 hgrow4; obtain ⟨va4, vc4, he4, -, -⟩ := hown4.slice; rw [List.length_append, HXL.out] at he4; subst he4))
          refine ⟨⟨k + 1, va4, vc4, xs ++ [(⟨s, ua, uc⟩ : Sa)], by omega, by go_num, rfl, hide ?_, hide (MapSa.snoc HMS.out (by show (mapAt _ s.name).isSome = false; rw [HSN.out, HMV.out]; rfl)), hide ?_, hide hown4, hide (World.ownsMap.kept HM3.out hgrow4 (fun e => by have := (HO3.out.lt _ e.symm).1; omega)), hide (HB3.out.grown hgrow4 HB3.out.size (fun g hg => by have := (HO3.out.lt g hg).1; have := hB.size; omega)), Nat.le_trans hs3 hgrow4.size⟩, by simp [intOf]; omega⟩
          · rw [List.map_append, HXS.out, List.take_succ_eq_append_getElem hlt, List.map_append]
            show _ ++ [s] = _ ++ [sgOf l[k]]
            rw [HS.out]
          · rw [HD.out, dup_step hlt, if_neg, List.map_append]
            · show _ = dupFrom (_ ++ [s.name]) _ _
              rw [HSN.out]
            · have h3 := mapSa_some HMS.out l[k].name
              rw [HMV.out] at h3
              simpa using h3.symm
        | some x =>
          have HMV : Hid (mapAt (xs.map Sa.pair) l[k].name = some x.val) := hide (by rw [HMS.out, hf]; rfl)
          have HE2 : Hid (signsM l = ([], ((k : Nat) : Int), 11)) := hide (by
            have h3 := mapSa_some HMS.out l[k].name
            rw [HMV.out] at h3
            unfold signsM
            rw [HD.out, dup_step hlt, if_pos (by simpa using h3.symm)])
          clear hf
          go_wp2_with (at_lookup; refine wpList_nmap_ok _ rfl _ _ rfl Tryz.underlying9 Tryz.underlying56 (zero_sg _) (xs.map Sa.pair) rfl (HM.out.keep ((bl wr).al _) (by omega)) l[k].name rfl hnl ?_; rw [HMV.out]; simp only [Option.getD_some, Option.isSome_some, Sa.val])
          refine bodyPost_ret (v := .tuple #[.slice none 0 0, .int .i64 (k : Nat), .int .i64 11]) (by simp [results, Tryz.results7, go_sem]) rfl ?_
          rw [HE.out, HE2.out]
          exact ⟨⟨none, 0, rfl, Sgs.nil _⟩, (HB.out.al _).al _⟩
      · obtain rfl : k = l.length := by omega
        have hxs : xs.map (·.s) = l.map sgOf := by have := HXS.out; rwa [List.take_length] at this
        have hdn : dupFrom [] l 0 = none := by rw [HD.out, List.drop_length]; rfl
        have hfm := findSa_sg xs mainB
        rw [hxs] at hfm
        cases hf : findSa xs mainB with
        | none =>
          have HMV : Hid (mapAt (xs.map Sa.pair) mainB = none) := hide (by rw [HMS.out, hf]; rfl)
          have HE2 : Hid (signsM l = ([], -1, 15)) := hide (by
            unfold signsM mainOk
            rw [hdn, ← hfm, hf]
            rfl)
          clear hf hfm hxs hdn
          go_wp2_with (at_lookup; refine wpList_nmap_ok _ rfl _ _ rfl Tryz.underlying9 Tryz.underlying56 (zero_sg _) (xs.map Sa.pair) rfl HM.out mainB rfl (by decide) ?_; rw [HMV.out]; simp only [Option.getD_none, Option.isSome_none])
          refine bodyPost_ret (v := .tuple #[.slice none 0 0, .int .i64 (-1), .int .i64 15]) (by simp [results, Tryz.results7, go_sem]) rfl ?_
          rw [HE.out, HE2.out]
          exact ⟨⟨none, 0, rfl, Sgs.nil _⟩, HB.out.al _⟩
        | some x =>
          have HMV : Hid (mapAt (xs.map Sa.pair) mainB = some x.val) := hide (by rw [HMS.out, hf]; rfl)
          have hxm : x ∈ xs := List.mem_of_find?_eq_some hf
          have hxn : x.s.name = mainB := by simpa using List.find?_some hf
          have hxi : Ints wr x.s.pars x.a x.cap := by
            obtain ⟨ys, _, hcut⟩ := HO.out
            obtain ⟨i, hi', rfl⟩ := List.mem_iff_getElem.1 hxm
            obtain ⟨c, hc, _⟩ := hcut.get i hi'
            exact hc.2.2.has has_av
          have hsame : sameSg x.s ⟨mainB, [], 0⟩ = mainOk l := by
            unfold mainOk
            rw [← hfm, hf]
            simp [sameSg, hxn]
          have HSM := hide fun (W : World) (hW : Below wr.heap.size wr W) => same_any x.s ⟨mainB, [], 0⟩ _ _ W ⟨x.a, x.cap, rfl, hxi.keep hW (Nat.le_refl _)⟩ ⟨none, 0, rfl, Ints.nil _⟩
          rw [hsame] at HSM
          clear hf hfm hxm hxn hxi hsame
          cases hmo : mainOk l
          · have HE2 : Hid (signsM l = ([], -1, 15)) := hide (by unfold signsM; rw [hdn, hmo]; rfl)
            rw [hmo] at HSM
            clear hdn hmo hxs
            go_wp2_with (first | (at_lookup; refine wpList_nmap_ok _ rfl _ _ rfl Tryz.underlying9 Tryz.underlying56 (zero_sg _) (xs.map Sa.pair) rfl HM.out mainB rfl (by decide) ?_; rw [HMV.out]; simp only [Option.getD_some, Option.isSome_some, Sa.val]) | (go_at_call 21; refine (HSM.out _ ((bl wr).al _)).mono ?_; rintro r w2 ⟨rfl, hb2⟩))
            refine bodyPost_ret (v := .tuple #[.slice none 0 0, .int .i64 (-1), .int .i64 15]) (by simp [results, Tryz.results7, go_sem]) rfl ?_
            rw [HE.out, HE2.out]
            exact ⟨⟨none, 0, rfl, Sgs.nil _⟩, (HB.out.al _).tr hb2⟩
          · have HE2 : Hid (signsM l = (l.map sgOf, 0, 0)) := hide (by unfold signsM; rw [hdn, hmo]; rfl)
            rw [hmo] at HSM
            clear hdn hmo
            have HXX := hide hxs
            clear hxs
            go_wp2_with (first | (at_lookup; refine wpList_nmap_ok _ rfl _ _ rfl Tryz.underlying9 Tryz.underlying56 (zero_sg _) (xs.map Sa.pair) rfl HM.out mainB rfl (by decide) ?_; rw [HMV.out]; simp only [Option.getD_some, Option.isSome_some, Sa.val]) | (go_at_call 21; refine (HSM.out _ ((bl wr).al _)).mono ?_; rintro r w2 ⟨rfl, hb2⟩))
            refine bodyPost_ret (v := .tuple #[.slice va l.length vc, .int .i64 0, .int .i64 0]) (by simp [results, Tryz.results7, go_sem]) rfl ?_
            rw [HE.out, HE2.out]
            obtain ⟨a', c', he, hsg⟩ := OwnL.sgs (OwnL.sas HO.out) (by simp)
            rw [HXX.out, List.length_map] at he
            cases he
            rw [HXX.out] at hsg
            exact ⟨⟨va, vc, by simp, (hsg.has has_av).keep (((bl wr).al _).tr hb2) (Nat.le_refl _)⟩, (HB.out.al _).tr hb2⟩
  · have HE : Hid (signsOfM l = ([], 0, 2)) := hide (by unfold signsOfM; rw [if_neg hc])
    have h2 : checkM l = 2 := by
      unfold checkM at hc ⊢
      split at hc
      · exact absurd rfl hc
      · rename_i h; rw [if_neg h]
    rw [h2] at h1
    clear hc h2
    go_enter Tryz.func7, Tryz.ntmps7
    go_wp2_with fail
    refine (h1.out _ ((bl w).al _)).mono ?_
    rintro r w1 ⟨rfl, hb1⟩
    have hB := ((bl w).al _).tr hb1
    clear hb1
    go_wp2_with fail
    refine bodyPost_ret (v := .tuple #[.slice none 0 0, .int .i64 0, .int .i64 2]) (by simp [results, Tryz.results7, go_sem]) rfl ?_
    rw [HE.out]
    exact ⟨⟨none, 0, rfl, Sgs.nil _⟩, hB⟩
end Go.Proofs.YtnkmbddjekepkaaGreatDoor
/- rewindlaw12.refs, few, and the functions of its examples. -/
namespace Go.Proofs.YtnkmbddjekepkaaGreatDoor
open Go Go.RowKit
set_option linter.unusedSimpArgs false
set_option linter.unusedVariables false
set_option linter.unnecessarySimpa false
def fewSg (l : List Sg) : Bool := decide (l.length ≤ 20) && l.all fun s => decide (s.pars.length ≤ 30) && decide (s.name.length ≤ 100)
theorem info_rsg : (Tryz.prog.info? 59).map (fun i => (i.zero, i.size, i.bytes)) = some (some (.agg #[.string ⟨#[]⟩, .slice none 0 0, .int .i64 0]), 3, 48) := by kernel_rfl
set_option maxRecDepth 20000 in
set_option maxHeartbeats 2000000 in
theorem refs12_any (l : List Sg) (a : Option Addr) (cap : Nat) (w : World) (hl : Sgs w l a cap) (hn : l.length ≤ 100000) :
    Calls Tryz.prog 10 #[.slice a l.length cap] w fun r w' => (∃ a' c', r = .returned (.slice a' l.length c') ∧ Sgs w' l a' c') ∧ Below w.heap.size w w' := by
  have hlen : l.length ≤ 9223372036854775807 := Nat.le_trans hl.len hl.cap
  have HL := hide hl
  obtain ⟨i0, hi, hz0, hz1, hz2⟩ := info_parts info_rsg
  clear hl
  go_enter Tryz.func10, Tryz.ntmps10
  go_wp2_with fail
  go_loopw [3, 4] (fun lv i wr => ∃ (k : Nat) (va : Option Addr) (vc : Nat), k ≤ l.length ∧ i = .int .i64 k ∧ lv = .slice va k vc ∧ Hid (OwnL wr w.heap.size 59 3 SgC [] (.slice va k vc) (l.take k)) ∧ Hid (Below w.heap.size w wr)) (fun _ i _ => l.length - (intOf i).toNat)
  case atStart => exact ⟨0, none, 0, Nat.zero_le _, rfl, rfl, hide (OwnL.nil _ _ _ _ _ _), bl _⟩
  case round =>
    obtain ⟨k, va, vc, hk, rfl, rfl, HO, HB⟩ := hrel
    by_cases hlt : k < l.length
    · obtain ⟨b, o, rfl⟩ := HL.out.addr (by omega)
      obtain ⟨pa, pc, c0, c1, c2, hi0⟩ := HL.out.at_ b o rfl k hlt
      have c0 := cell_keep c0 HB.out (Nat.le_refl _)
      have c1 := cell_keep c1 HB.out (Nat.le_refl _)
      have c2 := cell_keep c2 HB.out (Nat.le_refl _)
      have hbl := cell_lt c0
      simp only at hbl
      have hll : (l.take k).length = k := by simp; omega
      have HO2 := hide (HO.out.al SgC.mono (.cells #[.string ⟨l[k].name.toArray⟩, .slice pa l[k].pars.length pc, .int .i64 l[k].res] 59))
      have HB2 := hide (HB.out.al (.cells #[.string ⟨l[k].name.toArray⟩, .slice pa l[k].pars.length pc, .int .i64 l[k].res] 59))
      have HV2 : Hid (SgC (av ((Value.slice va k vc).ownBlock.toList ++ []) (wr.alloc (.cells #[.string ⟨l[k].name.toArray⟩, .slice pa l[k].pars.length pc, .int .i64 l[k].res] 59))) l[k] [.string ⟨l[k].name.toArray⟩, .slice pa l[k].pars.length pc, .int .i64 l[k].res]) := hide ⟨pa, pc, rfl, HL.out.wf _ (List.getElem_mem hlt), hi0.has ((has_new (fun g hg => by
        simp only [List.append_nil, Option.mem_toList] at hg
        exact (HO.out.lt g hg).1)).tr (has_av_below HB2.out))⟩
      have HMA : Hid ((l.take k).length + 1 ≤ maxLen) := hide (by rw [hll]; unfold maxLen; omega)
      have HMB : Hid (((l.take k).length + 1) * 48 ≤ 140737488355328) := hide (by rw [hll]; omega)
      have HNW := hide (news_row wr [.string ⟨l[k].name.toArray⟩, .slice pa l[k].pars.length pc, .int .i64 l[k].res] 59 wr.heap.size rfl)
      have HLEN : Hid ((l.take k ++ [l[k]]).length = k + 1) := hide (by rw [List.length_append, hll]; rfl)
      clear hll hi0
      go_wp2_with (at_builtin; refine wpList_push _ rfl _ _ 35 rfl w.heap.size 59 i0 _ 3 48 Tryz.underlying35 hi hz0 hz1 hz2 rfl (by decide) SgC SgC.mono [] _ (l.take k) rfl HO2.out ⟨wr.heap.size, 0, none⟩ 1 [.string ⟨l[k].name.toArray⟩, .slice pa l[k].pars.length pc, .int .i64 l[k].res] l[k] rfl rfl HNW.out (by simp [Value.oneCell']) HV2.out HMA.out HMB.out HB2.out.size ?_; intro v2 w2 hown2 hgrow2; obtain ⟨va2, vc2, he2, -, -⟩ := hown2.slice; rw [HLEN.out] at he2; subst he2)
      go_roundw
      case rel => exact ⟨k + 1, va2, vc2, by omega, by go_num, rfl, hide (by rw [List.take_succ_eq_append_getElem hlt]; exact hown2), HB2.out.grown hgrow2 HB2.out.size (fun g hg => (HO.out.lt g hg).1)⟩
      case measure => simp [intOf]; omega
    · obtain rfl : k = l.length := by omega
      go_wp2_with fail
      go_ret
      have ho := HO.out
      rw [List.take_length] at ho
      obtain ⟨a', c', he, hs⟩ := ho.sgs (by simp)
      cases he
      exact ⟨⟨va, vc, rfl, hs.has has_av⟩, HB.out⟩
end Go.Proofs.YtnkmbddjekepkaaGreatDoor
/- The functions of rewindlaw12's examples. -/
namespace Go.Proofs.YtnkmbddjekepkaaGreatDoor
open Go Go.RowKit
set_option linter.unusedSimpArgs false
set_option linter.unusedVariables false
set_option linter.unnecessarySimpa false
def effF : Fn := ⟨[102], [⟨[97], 1⟩, ⟨[98], 3⟩], 2, [], 0⟩
def mainF : Fn := ⟨mainB, [], 0, [], 0⟩
theorem mains12_any (w : World) : Calls Tryz.prog 14 #[] w fun r w' => r = .returned (.agg #[.string ⟨mainB.toArray⟩, .slice none 0 0, .int .i64 0, .slice none 0 0, .int .i64 0]) ∧ Below w.heap.size w w' := by
  go_enter Tryz.func14, Tryz.ntmps14
  go_wp2_with fail
  exact bodyPost_ret (v := .agg #[.string ⟨mainB.toArray⟩, .slice none 0 0, .int .i64 0, .slice none 0 0, .int .i64 0]) (by simp [results, Tryz.results14, go_sem, mainB]) rfl ⟨rfl, (bl w).al _⟩
set_option maxHeartbeats 1000000 in
theorem effs12_any (w : World) : Calls Tryz.prog 13 #[] w fun r w' => r = .returned (.agg #[.string ⟨#[102]⟩, .slice (some ⟨w.heap.size + 1, 0, none⟩) 2 2, .int .i64 2, .slice none 0 0, .int .i64 0]) ∧ Below w.heap.size w w' ∧
    w'.heap[w.heap.size + 1]? = some (.cells #[.string ⟨#[97]⟩, .int .i64 1, .string ⟨#[98]⟩, .int .i64 3] 72 (0, 0)) := by
  go_enter Tryz.func13, Tryz.ntmps13
  go_wp2_with fail
  refine bodyPost_ret (v := .agg #[.string ⟨#[102]⟩, .slice (some ⟨w.heap.size + 1, 0, none⟩) 2 2, .int .i64 2, .slice none 0 0, .int .i64 0]) (by simp [results, Tryz.results13, go_sem]) rfl ⟨rfl, ((bl w).al _).al _, ?_⟩
  have := heap_alloc_new (w.alloc (.cells #[.string ⟨#[102]⟩, .slice (some ⟨w.heap.size + 1, 0, none⟩) 2 2, .int .i64 2, .slice none 0 0, .int .i64 0] 30)) (.cells #[.string ⟨#[97]⟩, .int .i64 1, .string ⟨#[98]⟩, .int .i64 3] 72)
  simpa using this
set_option maxHeartbeats 1000000 in
theorem two12_any (a : Option Addr) (n cap : Nat) (w : World) : Calls Tryz.prog 12 #[.slice a n cap] w fun r w' => r = .returned (.agg #[.slice a n cap]) ∧ Below w.heap.size w w' := by
  go_enter Tryz.func12, Tryz.ntmps12
  go_wp2_with fail
  exact bodyPost_ret (v := .agg #[.slice a n cap]) (by simp [results, Tryz.results12, go_sem]) rfl ⟨rfl, (bl w).al _⟩
/-- The parameters of the example lie where they were laid. -/
theorem eff_pms {w : World} {g : Nat} (h : w.heap[g]? = some (.cells #[.string ⟨#[97]⟩, .int .i64 1, .string ⟨#[98]⟩, .int .i64 3] 72 (0, 0))) : Pms w effF.params (some ⟨g, 0, none⟩) 2 := by
  refine ⟨Nat.le_refl _, by decide, fun _ => ⟨_, _, rfl⟩, fun b o e i hi => ?_, ?_⟩
  · cases e
    rcases i with _ | _ | i
    · exact ⟨cell_at (j := 0) h rfl, cell_at (j := 1) h rfl⟩
    · exact ⟨cell_at (j := 2) h rfl, cell_at (j := 3) h rfl⟩
    · exact absurd hi (by simp [effF])
  · intro p hp
    simp only [effF, List.mem_cons, List.not_mem_nil, or_false] at hp
    rcases hp with rfl | rfl <;> exact ⟨by decide, by unfold I64; decide⟩
end Go.Proofs.YtnkmbddjekepkaaGreatDoor
/- The string of a signature, in plain words. -/
namespace Go.Proofs.YtnkmbddjekepkaaGreatDoor
open Go Go.RowKit
set_option linter.unusedSimpArgs false
set_option linter.unusedVariables false
set_option linter.unnecessarySimpa false
theorem typedB_iff (t : Int) : typedB t = true ↔ t = 1 ∨ t = 2 ∨ t = 3 := by
  simp only [typedB, Bool.and_eq_true, decide_eq_true_eq]
  omega
theorem wordB_nil (t : Int) : (wordB t == []) = !typedB t := by
  cases h : typedB t
  · have h1 : ¬ (t = 1 ∨ t = 2 ∨ t = 3) := fun e => by rw [(typedB_iff t).2 e] at h; cases h
    simp only [not_or] at h1
    simp [wordB, h1.1, h1.2.1, h1.2.2]
  · rcases (typedB_iff t).1 h with rfl | rfl | rfl <;> rfl
theorem joinB_snoc (a : Bytes) : ∀ l : List Bytes, joinB (l ++ [a]) = if l = [] then a else joinB l ++ [44, 32] ++ a
  | [] => rfl
  | [b] => by simp [joinB]
  | b :: c :: l => by
    have h := joinB_snoc a (c :: l)
    simp only [List.cons_append] at h ⊢
    rw [joinB, h]
    simp [joinB]
def headSg (s : Sg) : Bool := nameOk s.name && decide (s.pars.length ≤ 8) && (decide (s.res = 0) || typedB s.res)
/-- The string of a signature. -/
def textM (s : Sg) : Bytes := if (headSg s && s.pars.all typedB) = true then s.name ++ [40] ++ joinB (s.pars.map wordB) ++ [41] ++ (if s.res = 0 then [] else [32] ++ wordB s.res) else []
end Go.Proofs.YtnkmbddjekepkaaGreatDoor
/- rewindref12.Text. -/
namespace Go.Proofs.YtnkmbddjekepkaaGreatDoor
open Go Go.RowKit
set_option linter.unusedSimpArgs false
set_option linter.unusedVariables false
set_option linter.unnecessarySimpa false
/-- What the loop has written after some words. -/
def upToB (s : Sg) (k : Nat) : Bytes := s.name ++ [40] ++ joinB ((s.pars.take k).map wordB)
theorem upToB_succ {s : Sg} {k : Nat} (h : k < s.pars.length) : upToB s (k + 1) = (if k = 0 then upToB s 0 else upToB s k ++ [44, 32]) ++ wordB s.pars[k] := by
  unfold upToB
  rw [List.take_succ_eq_append_getElem h, List.map_append, List.map_singleton, joinB_snoc]
  by_cases h0 : k = 0
  · subst h0; simp [joinB]
  · have h1 : (s.pars.take k).map wordB ≠ [] := by
      intro e
      have := congrArg List.length e
      rw [List.length_map, List.length_take, List.length_nil] at this
      omega
    rw [if_neg h1, if_neg h0]
    simp
theorem wordB_len (t : Int) : (wordB t).length ≤ 5 := by
  unfold wordB
  split
  · decide
  · split
    · decide
    · split <;> decide
theorem upToB_len (s : Sg) : ∀ k, k ≤ s.pars.length → (upToB s k).length ≤ s.name.length + 1 + 7 * k
  | 0, _ => by simp [upToB, joinB]
  | k + 1, h => by
    have h1 := upToB_len s k (by omega)
    have h2 := wordB_len s.pars[k]
    rw [upToB_succ (by omega), List.length_append]
    split
    · rename_i h0; subst h0; omega
    · rw [List.length_append]; simp; omega
theorem textM_head {s : Sg} (h : headSg s = false) : textM s = [] := by unfold textM; rw [h]; rfl
theorem textM_bad {s : Sg} {k : Nat} (hk : k < s.pars.length) (h : typedB s.pars[k] = false) : textM s = [] := by
  unfold textM
  rw [if_neg]
  intro e
  simp only [Bool.and_eq_true, List.all_eq_true] at e
  rw [e.2 _ (List.getElem_mem hk)] at h
  cases h
theorem textM_good {s : Sg} (h : headSg s = true) (h2 : ∀ p ∈ s.pars, typedB p = true) : textM s = upToB s s.pars.length ++ [41] ++ (if s.res = 0 then [] else [32] ++ wordB s.res) := by
  unfold textM upToB
  rw [if_pos (by rw [h]; simpa using h2), List.take_length]
theorem str_app (a b : Bytes) : (⟨a.toArray⟩ : ByteArray) ++ ⟨b.toArray⟩ = ⟨(a ++ b).toArray⟩ := by
  apply ByteArray.ext
  simp
theorem ret_str' {a : ByteArray} {b : Bytes} (h : a = ⟨b.toArray⟩) : Ending.returned (.string a) = .returned (.string ⟨b.toArray⟩) := by rw [h]
end Go.Proofs.YtnkmbddjekepkaaGreatDoor
/- signs.Text. -/
namespace Go.Proofs.YtnkmbddjekepkaaGreatDoor
open Go Go.RowKit
set_option linter.unusedSimpArgs false
set_option linter.unusedVariables false
set_option linter.unnecessarySimpa false
theorem join_joinB : ∀ l : List Bytes, Lib.join l [44, 32] = joinB l
  | [] => rfl
  | [a] => by simp [Lib.join, joinB, List.intercalate, List.intersperse]
  | a :: b :: l => by
    have h := join_joinB (b :: l)
    rw [joinB, ← h]
    simp [Lib.join, List.intercalate, List.intersperse]
theorem joinB_len : ∀ l : List Bytes, (∀ s ∈ l, s.length ≤ 5) → (joinB l).length ≤ 7 * l.length
  | [], _ => Nat.zero_le _
  | [a], h => by have := h a (by simp); simp [joinB]; omega
  | a :: b :: l, h => by
    have h1 := joinB_len (b :: l) (fun s hs => h s (List.mem_cons_of_mem _ hs))
    have h2 := h a (by simp)
    simp only [joinB, List.length_append, List.length_cons, List.length_nil] at h1 ⊢
    omega
/-- The cell of a string. -/
def StrC (_ : World) (s : Bytes) (c : List Value) : Prop := c = [.string ⟨s.toArray⟩]
theorem StrC.mono : Mono StrC := fun _ _ _ _ _ h => h
theorem OwnL.strs {w : World} {base : Nat} {t : TypeId} {v : Value} {l : List Bytes} (h : OwnL w base t 1 StrC [] v l) :
    (l = [] ∧ v = .slice none 0 0) ∨ ∃ g cap, v = .slice (some ⟨g, 0, none⟩) l.length cap ∧ g < w.heap.size ∧ l.length ≤ cap ∧ ∀ (i : Nat) (hi : i < l.length), w.cell? ⟨g, 0 + i, none⟩ = some (.string ⟨l[i].toArray⟩) := by
  have h0 := h
  rcases h.form with ⟨rfl, rfl⟩ | ⟨g, cap, rfl, hbg, hgl, h1, h2⟩
  · exact .inl ⟨rfl, rfl⟩
  · refine .inr ⟨g, cap, rfl, hgl, h1, fun i hi => ?_⟩
    obtain ⟨_, _, c, hc, _, _, hcell⟩ := h0.get StrC.mono rfl i hi
    rw [show c = _ from hc] at hcell
    have := hcell 0 _ rfl
    rw [Nat.zero_add]
    simpa using this
theorem info_str : (Tryz.prog.info? 9).map (fun i => (i.zero, i.size, i.bytes)) = some (some (.string ⟨#[]⟩), 1, 16) := by kernel_rfl
theorem join12_any (l : List Bytes) (v : Value) (w : World) {base : Nat} {t : TypeId} (hown : OwnL w base t 1 StrC [] v l) (hn : l.length ≤ 8) (h5 : ∀ s ∈ l, s.length ≤ 5) :
    Calls Tryz.prog 34 #[v, .string ⟨#[44, 32]⟩] w fun r w' => r = .returned (.string ⟨(joinB l).toArray⟩) ∧ Below w.heap.size w w' := by
  rcases hown.strs with ⟨rfl, rfl⟩ | ⟨g, cap, rfl, hgl, hlc, hcell⟩
  · refine (Tryz.strings_Join_none none 0 ⟨#[44, 32]⟩ w).mono ?_
    rintro r w' ⟨rfl, rfl⟩
    exact ⟨rfl, bl _⟩
  · have hx : (l.map fun s => (⟨s.toArray⟩ : ByteArray)).map (·.data.toList) = l := by simp [Function.comp_def]
    have hj : Lib.join ((l.map fun s => (⟨s.toArray⟩ : ByteArray)).map (·.data.toList)) (⟨#[44, 32]⟩ : ByteArray).data.toList = joinB l := by rw [hx]; exact join_joinB l
    have := Tryz.strings_Join g 0 cap (l.map fun s => ⟨s.toArray⟩) ⟨#[44, 32]⟩ w (fun j x hx => by
      rw [List.getElem?_map] at hx
      obtain ⟨y, hy, rfl⟩ := Option.map_eq_some_iff.1 hx
      obtain ⟨hj, rfl⟩ := List.getElem?_eq_some_iff.1 hy
      exact hcell j hj) hgl (by simp; omega) (by simpa using hlc) (by rw [hj]; have := joinB_len l h5; omega)
    rw [hj, List.length_map] at this
    exact this
end Go.Proofs.YtnkmbddjekepkaaGreatDoor
/- signs.Text. -/
namespace Go.Proofs.YtnkmbddjekepkaaGreatDoor
open Go Go.RowKit
set_option linter.unusedSimpArgs false
set_option linter.unusedVariables false
set_option linter.unnecessarySimpa false
theorem typed_nat {t : Int} (h : typedB t = true) : ∃ n : Nat, t = (n : Int) ∧ n < 4 := by
  rcases (typedB_iff t).1 h with rfl | rfl | rfl
  · exact ⟨1, rfl, by omega⟩
  · exact ⟨2, rfl, by omega⟩
  · exact ⟨3, rfl, by omega⟩
set_option maxRecDepth 20000 in
set_option maxHeartbeats 4000000 in
theorem text12_any (s : Sg) (v : Value) (w : World) (hv : s.Val w v) (hw : s.wf) (hT : Tab w) (hWd : Words w) :
    Calls Tryz.prog 16 #[v] w fun r w' => r = .returned (.string ⟨(textM s).toArray⟩) ∧ Below w.heap.size w w' := by
  obtain ⟨a, cap, rfl, hi⟩ := hv
  have HN := hide fun (W : World) (hW : Below w.heap.size w W) => name_any s.name W (hT.below hW) hw.1
  have HI := hide hi
  have HWD := hide hWd
  have hlen := hi.len
  have hcap := hi.cap
  have hnl := hw.1
  clear hi hw hT hWd
  obtain ⟨i0, hi, hz0, hz1, hz2⟩ := info_parts info_str
  cases q1 : nameOk s.name
  · have HE := hide (textM_head (s := s) (by unfold headSg; rw [q1]; rfl))
    rw [q1] at HN
    clear q1
    go_enter Tryz.func16, Tryz.ntmps16
    go_wp2_with (go_at_call 32; refine (HN.out _ ((bl w).al _)).mono ?_; rintro r w1 ⟨rfl, hb1⟩; have hB1 := ((bl w).al _).tr hb1; have HX1 := hide ((hb1.block w.heap.size (by simp)).trans (heap_alloc_new w (.cells #[.string ⟨s.name.toArray⟩, .slice a s.pars.length cap, .int .i64 s.res] 49))); obtain ⟨hc1, hf1⟩ := bcell hb1; clear hb1)
    go_ret
    exact ⟨by rw [HE.out]; rfl, hB1⟩
  rw [q1] at HN
  by_cases q2 : (8 : Int) < (s.pars.length : Int)
  · have HE := hide (textM_head (s := s) (by unfold headSg; rw [q1, decide_eq_false (by omega)]; rfl))
    clear q1
    go_enter Tryz.func16, Tryz.ntmps16
    go_wp2_with (go_at_call 32; refine (HN.out _ ((bl w).al _)).mono ?_; rintro r w1 ⟨rfl, hb1⟩; have hB1 := ((bl w).al _).tr hb1; have HX1 := hide ((hb1.block w.heap.size (by simp)).trans (heap_alloc_new w (.cells #[.string ⟨s.name.toArray⟩, .slice a s.pars.length cap, .int .i64 s.res] 49))); obtain ⟨hc1, hf1⟩ := bcell hb1; clear hb1)
    go_ret
    exact ⟨by rw [HE.out]; rfl, hB1⟩
  have hle : s.pars.length ≤ 8 := by omega
  have q2d : decide ((8 : Int) < (s.pars.length : Int)) = false := decide_eq_false q2
  have hn16 : s.name.length ≤ 16 := by
    simp only [nameOk, Bool.and_eq_true, decide_eq_true_eq] at q1
    exact q1.1.1.1.2
  cases q3 : s.res == 0
  · have g3 := bne_no' q3
    cases q4 : typedB s.res
    · have HE := hide (textM_head (s := s) (by have h0 : decide (s.res = 0) = false := decide_eq_false (by simpa using q3); unfold headSg; rw [q4, h0]; simp))
      have HTR := hide (fun W => typed12_any s.res W)
      rw [q4] at HTR
      clear q1 q4
      go_enter Tryz.func16, Tryz.ntmps16
      go_wp2_with (first | (go_at_call 32; refine (HN.out _ ((bl w).al _)).mono ?_; rintro r w1 ⟨rfl, hb1⟩; have hB1 := ((bl w).al _).tr hb1; have HX1 := hide ((hb1.block w.heap.size (by simp)).trans (heap_alloc_new w (.cells #[.string ⟨s.name.toArray⟩, .slice a s.pars.length cap, .int .i64 s.res] 49))); obtain ⟨hc1, hf1⟩ := bcell hb1; clear hb1) | (go_at_call 33; refine (HTR.out _).mono ?_; rintro r w2 ⟨rfl, hw2⟩; have hw2 := hw2.symm; subst hw2))
      go_ret
      exact ⟨by rw [HE.out]; rfl, hB1⟩
    · have HH : Hid (headSg s = true) := hide (by unfold headSg; rw [q1, decide_eq_true hle, q4]; simp)
      have HTR := hide (fun W => typed12_any s.res W)
      obtain ⟨rn, hrn, hr4⟩ := typed_nat q4
      have HRN := hide hrn
      rw [q4] at HTR
      clear q1 q4 hrn
      go_enter Tryz.func16, Tryz.ntmps16
      go_wp2_with (first | (go_at_call 32; refine (HN.out _ ((bl w).al _)).mono ?_; rintro r w1 ⟨rfl, hb1⟩; have hB1 := ((bl w).al _).tr hb1; have HX1 := hide ((hb1.block w.heap.size (by simp)).trans (heap_alloc_new w (.cells #[.string ⟨s.name.toArray⟩, .slice a s.pars.length cap, .int .i64 s.res] 49))); obtain ⟨hc1, hf1⟩ := bcell hb1; clear hb1) | (go_at_call 33; refine (HTR.out _).mono ?_; rintro r w2 ⟨rfl, hw2⟩; have hw2 := hw2.symm; subst hw2))
      have HBS := hide hB1
      clear hB1
      go_loopw [3, 31] (fun sv i wr => ∃ (k : Nat) (va : Option Addr) (vc : Nat), k ≤ s.pars.length ∧ i = .int .i64 k ∧ sv = .slice va k vc ∧ Hid (OwnL wr w1.heap.size 9 1 StrC [] (.slice va k vc) ((s.pars.take k).map wordB)) ∧ Hid (∀ j (h : j < s.pars.length), j < k → typedB s.pars[j] = true) ∧ Hid (Below w1.heap.size w1 wr)) (fun _ i _ => s.pars.length - (intOf i).toNat)
      case atStart => exact ⟨0, none, 0, Nat.zero_le _, rfl, rfl, hide (OwnL.nil _ _ _ _ _ _), hide (fun _ _ h => absurd h (Nat.not_lt_zero _)), bl _⟩
      case round =>
        obtain ⟨k, va, vc, hk, rfl, rfl, HO, hn, HBR⟩ := hrel
        have HBW := hide (HBS.out.tr HBR.out)
        clear hc1 hf1
        by_cases hlt : k < s.pars.length
        · obtain ⟨b, o, rfl⟩ := HI.out.addr (by omega)
          have c0 := cell_keep (HI.out.at_ b o rfl k hlt) HBW.out (Nat.le_refl _)
          have hbl := cell_lt c0
          simp only at hbl
          have HTY := hide (fun W => typed12_any s.pars[k] W)
          cases q5 : typedB s.pars[k]
          · have HE := hide (textM_bad hlt q5)
            rw [q5] at HTY
            clear q5
            go_wp2_with (go_at_call 33; refine (HTY.out _).mono ?_; rintro r w2 ⟨rfl, hw2⟩; have hw2 := hw2.symm; subst hw2)
            go_ret
            exact ⟨by rw [HE.out]; rfl, HBW.out⟩
          · obtain ⟨tn, htn, ht4⟩ := typed_nat q5
            rw [q5] at HTY
            have HQ := hide q5
            have HTN := hide htn
            rw [htn] at c0 HTY
            have d0 := (HWD.out.below HBW.out) tn ht4
            have hgl := cell_lt d0
            simp only at hgl
            have hll : ((s.pars.take k).map wordB).length = k := by simp; omega
            have HO2 := hide (HO.out.al StrC.mono (.cells #[.string ⟨(wordB (tn : Int)).toArray⟩] 9))
            have HB2 := hide (HBR.out.al (.cells #[.string ⟨(wordB (tn : Int)).toArray⟩] 9))
            have HMA : Hid (((s.pars.take k).map wordB).length + 1 ≤ maxLen) := hide (by rw [hll]; unfold maxLen; omega)
            have HMB : Hid ((((s.pars.take k).map wordB).length + 1) * 16 ≤ 140737488355328) := hide (by rw [hll]; omega)
            have HNW := hide (news_row wr [.string ⟨(wordB (tn : Int)).toArray⟩] 9 wr.heap.size rfl)
            have HLEN : Hid (((s.pars.take k).map wordB ++ [wordB (tn : Int)]).length = k + 1) := hide (by rw [List.length_append, hll]; rfl)
            have HTK : Hid ((s.pars.take (k + 1)).map wordB = (s.pars.take k).map wordB ++ [wordB (tn : Int)]) := hide (by rw [List.take_succ_eq_append_getElem hlt, List.map_append, ← htn]; rfl)
            clear hll q5 htn
            go_wp2_with (first | (go_at_call 33; refine (HTY.out _).mono ?_; rintro r w2 ⟨rfl, hw2⟩; have hw2 := hw2.symm; subst hw2) | (at_builtin; refine wpList_push _ rfl _ _ 69 rfl w1.heap.size 9 i0 _ 1 16 Tryz.underlying69 hi hz0 hz1 hz2 rfl (by decide) StrC StrC.mono [] _ _ rfl HO2.out ⟨wr.heap.size, 0, none⟩ 1 [.string ⟨(wordB (tn : Int)).toArray⟩] (wordB (tn : Int)) rfl rfl HNW.out (by simp [Value.oneCell']) rfl HMA.out HMB.out HB2.out.size ?_; intro v2 w2 hown2 hgrow2; obtain ⟨va2, vc2, he2, -, -⟩ := hown2.slice; rw [HLEN.out] at he2; subst he2))
            go_roundw
            case rel =>
              refine ⟨k + 1, va2, vc2, by omega, by go_num, rfl, hide (by rw [HTK.out]; exact hown2), hide fun j hj hjk => ?_, HB2.out.grown hgrow2 HB2.out.size (fun g hg => (HO.out.lt g hg).1)⟩
              by_cases e : j = k
              · subst e; exact HQ.out
              · exact hn.out j hj (by omega)
            case measure => simp [intOf]; omega
        · obtain rfl : k = s.pars.length := by omega
          have HE := hide (textM_good HH.out (fun p hp => by
            obtain ⟨j, hj, rfl⟩ := List.mem_iff_getElem.1 hp
            exact hn.out j hj hj))
          have HXR := hide ((HBR.out.block _ (Array.getElem?_eq_some_iff.1 HX1.out).1).trans HX1.out)
          have x0 := cell_at (j := 0) HXR.out rfl
          have HJ : Hid (∀ W, Below wr.heap.size wr W → Calls Tryz.prog 34 #[.slice va s.pars.length vc, .string ⟨#[44, 32]⟩] W fun r w' => r = .returned (.string ⟨(joinB (s.pars.map wordB)).toArray⟩) ∧ Below W.heap.size W w') := hide fun W hW => by
            have ho := HO.out
            rw [List.take_length] at ho
            have := join12_any (s.pars.map wordB) _ W (ho.below StrC.mono hW) (by simpa using hle) (fun x hx => by obtain ⟨t, _, rfl⟩ := List.mem_map.1 hx; exact wordB_len t)
            exact this
          have hjl : (joinB (s.pars.map wordB)).length ≤ 56 := by
            have := joinB_len (s.pars.map wordB) (fun x hx => by obtain ⟨t, _, rfl⟩ := List.mem_map.1 hx; exact wordB_len t)
            rw [List.length_map] at this
            omega
          clear HO hn
          go_wp2_with fail
          have hB := (bl wr).dr
          go_region_with (go_at_call 34; (with_reducible refine (HJ.out _ hB).mono ?_); rintro r w5 ⟨rfl, hb⟩; have hB := hB.tr hb; have x0 := cell_keep x0 hB (Nat.le_refl _); clear hb)
          all_goals
           have HXF := hide ((hB.block _ (Array.getElem?_eq_some_iff.1 HXR.out).1).trans HXR.out)
           have HBF := hide (HBW.out.tr hB)
           have x2 := cell_at (j := 2) HXF.out rfl
          all_goals
           rw [HRN.out] at x2
           have g3' : ((rn : Int) == 0) = false := by rw [← HRN.out]; exact q3
           have g3'' : ((rn : Int) != 0) = true := bne_no' g3'
           have d0 := (HWD.out.below HBF.out) rn hr4
           have hgl := cell_lt d0
           simp only at hgl
           have hwl := wordB_len (rn : Int)
           go_wp2_with fail
           go_ret
           refine ⟨ret_str' ?_, HBF.out⟩
           rw [show (⟨#[40]⟩ : ByteArray) = ⟨([40] : Bytes).toArray⟩ from rfl, show (⟨#[41]⟩ : ByteArray) = ⟨([41] : Bytes).toArray⟩ from rfl, show (⟨#[32]⟩ : ByteArray) = ⟨([32] : Bytes).toArray⟩ from rfl, str_app, str_app, str_app, str_app, str_app, HE.out, if_neg (by simpa using q3), HRN.out]
           simp [upToB]
  · have g3 := bne_yes' q3
    have HH : Hid (headSg s = true) := hide (by have h0 : decide (s.res = 0) = true := decide_eq_true (by simpa using q3); unfold headSg; rw [q1, decide_eq_true hle, h0]; rfl)
    clear q1
    go_enter Tryz.func16, Tryz.ntmps16
    go_wp2_with (first | (go_at_call 32; refine (HN.out _ ((bl w).al _)).mono ?_; rintro r w1 ⟨rfl, hb1⟩; have hB1 := ((bl w).al _).tr hb1; have HX1 := hide ((hb1.block w.heap.size (by simp)).trans (heap_alloc_new w (.cells #[.string ⟨s.name.toArray⟩, .slice a s.pars.length cap, .int .i64 s.res] 49))); obtain ⟨hc1, hf1⟩ := bcell hb1; clear hb1))
    have HBS := hide hB1
    clear hB1
    go_loopw [3, 31] (fun sv i wr => ∃ (k : Nat) (va : Option Addr) (vc : Nat), k ≤ s.pars.length ∧ i = .int .i64 k ∧ sv = .slice va k vc ∧ Hid (OwnL wr w1.heap.size 9 1 StrC [] (.slice va k vc) ((s.pars.take k).map wordB)) ∧ Hid (∀ j (h : j < s.pars.length), j < k → typedB s.pars[j] = true) ∧ Hid (Below w1.heap.size w1 wr)) (fun _ i _ => s.pars.length - (intOf i).toNat)
    case atStart => exact ⟨0, none, 0, Nat.zero_le _, rfl, rfl, hide (OwnL.nil _ _ _ _ _ _), hide (fun _ _ h => absurd h (Nat.not_lt_zero _)), bl _⟩
    case round =>
      obtain ⟨k, va, vc, hk, rfl, rfl, HO, hn, HBR⟩ := hrel
      have HBW := hide (HBS.out.tr HBR.out)
      clear hc1 hf1
      by_cases hlt : k < s.pars.length
      · obtain ⟨b, o, rfl⟩ := HI.out.addr (by omega)
        have c0 := cell_keep (HI.out.at_ b o rfl k hlt) HBW.out (Nat.le_refl _)
        have hbl := cell_lt c0
        simp only at hbl
        have HTY := hide (fun W => typed12_any s.pars[k] W)
        cases q5 : typedB s.pars[k]
        · have HE := hide (textM_bad hlt q5)
          rw [q5] at HTY
          clear q5
          go_wp2_with (go_at_call 33; refine (HTY.out _).mono ?_; rintro r w2 ⟨rfl, hw2⟩; have hw2 := hw2.symm; subst hw2)
          go_ret
          exact ⟨by rw [HE.out]; rfl, HBW.out⟩
        · obtain ⟨tn, htn, ht4⟩ := typed_nat q5
          rw [q5] at HTY
          have HQ := hide q5
          have HTN := hide htn
          rw [htn] at c0 HTY
          have d0 := (HWD.out.below HBW.out) tn ht4
          have hgl := cell_lt d0
          simp only at hgl
          have hll : ((s.pars.take k).map wordB).length = k := by simp; omega
          have HO2 := hide (HO.out.al StrC.mono (.cells #[.string ⟨(wordB (tn : Int)).toArray⟩] 9))
          have HB2 := hide (HBR.out.al (.cells #[.string ⟨(wordB (tn : Int)).toArray⟩] 9))
          have HMA : Hid (((s.pars.take k).map wordB).length + 1 ≤ maxLen) := hide (by rw [hll]; unfold maxLen; omega)
          have HMB : Hid ((((s.pars.take k).map wordB).length + 1) * 16 ≤ 140737488355328) := hide (by rw [hll]; omega)
          have HNW := hide (news_row wr [.string ⟨(wordB (tn : Int)).toArray⟩] 9 wr.heap.size rfl)
          have HLEN : Hid (((s.pars.take k).map wordB ++ [wordB (tn : Int)]).length = k + 1) := hide (by rw [List.length_append, hll]; rfl)
          have HTK : Hid ((s.pars.take (k + 1)).map wordB = (s.pars.take k).map wordB ++ [wordB (tn : Int)]) := hide (by rw [List.take_succ_eq_append_getElem hlt, List.map_append, ← htn]; rfl)
          clear hll q5 htn
          go_wp2_with (first | (go_at_call 33; refine (HTY.out _).mono ?_; rintro r w2 ⟨rfl, hw2⟩; have hw2 := hw2.symm; subst hw2) | (at_builtin; refine wpList_push _ rfl _ _ 69 rfl w1.heap.size 9 i0 _ 1 16 Tryz.underlying69 hi hz0 hz1 hz2 rfl (by decide) StrC StrC.mono [] _ _ rfl HO2.out ⟨wr.heap.size, 0, none⟩ 1 [.string ⟨(wordB (tn : Int)).toArray⟩] (wordB (tn : Int)) rfl rfl HNW.out (by simp [Value.oneCell']) rfl HMA.out HMB.out HB2.out.size ?_; intro v2 w2 hown2 hgrow2; obtain ⟨va2, vc2, he2, -, -⟩ := hown2.slice; rw [HLEN.out] at he2; subst he2))
          go_roundw
          case rel =>
            refine ⟨k + 1, va2, vc2, by omega, by go_num, rfl, hide (by rw [HTK.out]; exact hown2), hide fun j hj hjk => ?_, HB2.out.grown hgrow2 HB2.out.size (fun g hg => (HO.out.lt g hg).1)⟩
            by_cases e : j = k
            · subst e; exact HQ.out
            · exact hn.out j hj (by omega)
          case measure => simp [intOf]; omega
      · obtain rfl : k = s.pars.length := by omega
        have HE := hide (textM_good HH.out (fun p hp => by
          obtain ⟨j, hj, rfl⟩ := List.mem_iff_getElem.1 hp
          exact hn.out j hj hj))
        have HXR := hide ((HBR.out.block _ (Array.getElem?_eq_some_iff.1 HX1.out).1).trans HX1.out)
        have x0 := cell_at (j := 0) HXR.out rfl
        have HJ : Hid (∀ W, Below wr.heap.size wr W → Calls Tryz.prog 34 #[.slice va s.pars.length vc, .string ⟨#[44, 32]⟩] W fun r w' => r = .returned (.string ⟨(joinB (s.pars.map wordB)).toArray⟩) ∧ Below W.heap.size W w') := hide fun W hW => by
          have ho := HO.out
          rw [List.take_length] at ho
          have := join12_any (s.pars.map wordB) _ W (ho.below StrC.mono hW) (by simpa using hle) (fun x hx => by obtain ⟨t, _, rfl⟩ := List.mem_map.1 hx; exact wordB_len t)
          exact this
        have hjl : (joinB (s.pars.map wordB)).length ≤ 56 := by
          have := joinB_len (s.pars.map wordB) (fun x hx => by obtain ⟨t, _, rfl⟩ := List.mem_map.1 hx; exact wordB_len t)
          rw [List.length_map] at this
          omega
        clear HO hn
        go_wp2_with fail
        have hB := (bl wr).dr
        go_region_with (go_at_call 34; (with_reducible refine (HJ.out _ hB).mono ?_); rintro r w5 ⟨rfl, hb⟩; have hB := hB.tr hb; have x0 := cell_keep x0 hB (Nat.le_refl _); clear hb)
        all_goals
         have HXF := hide ((hB.block _ (Array.getElem?_eq_some_iff.1 HXR.out).1).trans HXR.out)
         have HBF := hide (HBW.out.tr hB)
         have x2 := cell_at (j := 2) HXF.out rfl
        all_goals
          go_wp2_with fail
          go_ret
          refine ⟨ret_str' ?_, HBF.out⟩
          rw [show (⟨#[40]⟩ : ByteArray) = ⟨([40] : Bytes).toArray⟩ from rfl, show (⟨#[41]⟩ : ByteArray) = ⟨([41] : Bytes).toArray⟩ from rfl, str_app, str_app, str_app, HE.out, if_pos (by simpa using q3), List.append_nil]
          simp [upToB]
end Go.Proofs.YtnkmbddjekepkaaGreatDoor
namespace Go.Proofs.YtnkmbddjekepkaaGreatDoor
open Go Go.RowKit
set_option linter.unusedSimpArgs false
set_option linter.unusedVariables false
set_option linter.unnecessarySimpa false
theorem cutF {V : Fn → List Value → Prop} {a : Fn} {l : List Fn} {v0 v1 v2 v3 v4 : Value} {xs : List Value} (h : V a [v0, v1, v2, v3, v4]) (k : Cut 5 V l xs) : Cut 5 V (a :: l) (v0 :: v1 :: v2 :: v3 :: v4 :: xs) := ⟨[v0, v1, v2, v3, v4], xs, rfl, rfl, h, k⟩
theorem cutE {V : Fn → List Value → Prop} : Cut 5 V [] [] := rfl
/-- A new row of functions. -/
theorem fns_new12 {w : World} {l : List Fn} {xs : List Value} (h : Cut 5 (FnC w) l xs) (t : TypeId) (n cap : Nat) (hn : n = w.heap.size) (h1 : l.length ≤ cap) (h2 : cap ≤ maxLen) : Fns (w.alloc (.cells xs.toArray t)) l (some ⟨n, 0, none⟩) cap := by
  subst hn
  refine ⟨h1, h2, fun _ => ⟨_, _, rfl⟩, fun b o e i hi => ?_⟩
  simp only [Option.some.injEq, Addr.mk.injEq, and_true] at e
  obtain ⟨rfl, rfl⟩ := e
  obtain ⟨c, ⟨pp, pb, cp, cb, rfl, hw, hp, hr⟩, _, hx⟩ := h.get i hi
  have key : ∀ (j : Nat) (v : Value), j < 5 → [Value.string ⟨l[i].name.toArray⟩, .slice pp l[i].params.length cp, .int .i64 l[i].result, .slice pb l[i].body.length cb, .int .i64 l[i].count][j]? = some v → (w.alloc (.cells xs.toArray t)).cell? ⟨w.heap.size, 0 + i * 5 + j, none⟩ = some v := fun j v hj hv => by
    rw [Nat.zero_add]
    exact cell_of_list w xs t _ _ ((hx j hj).trans hv)
  have hb := has_below ((bl w).al (.cells xs.toArray t))
  exact ⟨pp, pb, cp, cb, key 0 _ (by omega) rfl, key 1 _ (by omega) rfl, key 2 _ (by omega) rfl, key 3 _ (by omega) rfl, key 4 _ (by omega) rfl, hw, hp.has hb, hr.has hb⟩
theorem effC {w : World} {a : Option Addr} (h : Pms w effF.params a 2) : FnC w effF [.string ⟨#[102]⟩, .slice a 2 2, .int .i64 2, .slice none 0 0, .int .i64 0] :=
  ⟨a, none, 2, 0, rfl, ⟨by decide, by unfold I64; decide, Nat.le_refl _, Nat.zero_le _, by unfold I64; decide⟩, h, trivial⟩
theorem mainC (w : World) : FnC w mainF [.string ⟨mainB.toArray⟩, .slice none 0 0, .int .i64 0, .slice none 0 0, .int .i64 0] :=
  ⟨none, none, 0, 0, rfl, ⟨by decide, by unfold I64; decide, Nat.le_refl _, Nat.zero_le _, by unfold I64; decide⟩, ⟨Nat.le_refl _, Nat.zero_le _, by simp [mainF], (fun b o e => by cases e), by simp [mainF]⟩, trivial⟩
theorem ok_eff : fnOk effF = true ∧ fnNums effF = true := by decide +kernel
theorem ok_main : fnOk mainF = true ∧ fnNums mainF = true := by decide +kernel
theorem signs_ex1 : signsOfM [effF, mainF] = ([sgOf effF, sgOf mainF], 0, 0) := by
  unfold signsOfM
  rw [if_pos (by unfold checkM; rw [if_pos]; refine ⟨by decide, ?_⟩; intro f hf; simp only [List.mem_cons, List.not_mem_nil, or_false] at hf; rcases hf with rfl | rfl; exact ok_eff; exact ok_main)]
  rfl
theorem signs_ex2 : signsOfM [] = ([], -1, 15) := by
  unfold signsOfM
  rw [if_pos (by unfold checkM; rw [if_pos]; exact ⟨by decide, by simp⟩)]
  rfl
theorem signs_ex3 : signsOfM [mainF, mainF] = ([], 1, 11) := by
  unfold signsOfM
  rw [if_pos (by unfold checkM; rw [if_pos]; refine ⟨by decide, ?_⟩; intro f hf; simp only [List.mem_cons, List.not_mem_nil, or_false] at hf; rcases hf with rfl | rfl <;> exact ok_main)]
  rfl
def exL : List Sg := [sgOf effF, sgOf mainF]
theorem of_ex1 (a : Option Addr) (W : World) (hl : Fns W [effF, mainF] a 2) (hT : Tab W) : Calls Tryz.prog 7 #[.agg #[.slice a 2 2]] W fun r w' =>
    (∃ b o cap, r = .returned (.tuple #[.slice (some ⟨b, o, none⟩) 2 cap, .int .i64 0, .int .i64 0]) ∧ Sgs w' exL (some ⟨b, o, none⟩) cap) ∧ Below W.heap.size W w' := by
  have h := signsOf_any [effF, mainF] a 2 W hl hT
  rw [signs_ex1] at h
  refine h.mono ?_
  rintro r w' ⟨⟨a', cap, rfl, hs⟩, hb⟩
  obtain ⟨b, o, rfl⟩ := hs.addr (by decide)
  exact ⟨⟨b, o, cap, rfl, hs⟩, hb⟩
theorem of_ex2 (W : World) (hT : Tab W) : Calls Tryz.prog 7 #[.agg #[.slice none 0 0]] W fun r w' =>
    (∃ a cap, r = .returned (.tuple #[.slice a 0 cap, .int .i64 (-1), .int .i64 15])) ∧ Below W.heap.size W w' := by
  have h := signsOf_any [] none 0 W ⟨Nat.le_refl _, Nat.zero_le _, by simp, fun b o e => by cases e⟩ hT
  rw [signs_ex2] at h
  refine h.mono ?_
  rintro r w' ⟨⟨a', cap, rfl, hs⟩, hb⟩
  exact ⟨⟨a', cap, rfl⟩, hb⟩
theorem of_ex3 (a : Option Addr) (W : World) (hl : Fns W [mainF, mainF] a 2) (hT : Tab W) : Calls Tryz.prog 7 #[.agg #[.slice a 2 2]] W fun r w' =>
    (∃ a cap, r = .returned (.tuple #[.slice a 0 cap, .int .i64 1, .int .i64 11])) ∧ Below W.heap.size W w' := by
  have h := signsOf_any [mainF, mainF] a 2 W hl hT
  rw [signs_ex3] at h
  refine h.mono ?_
  rintro r w' ⟨⟨a', cap, rfl, hs⟩, hb⟩
  exact ⟨⟨a', cap, rfl⟩, hb⟩
theorem exL_pars : ∀ s ∈ exL, s.pars.length ≤ 100000 := by
  intro s hs
  simp only [exL, List.mem_cons, List.not_mem_nil, or_false] at hs
  rcases hs with rfl | rfl <;> decide
theorem find_ex (a : Option Addr) (cap : Nat) (W : World) (h : Sgs W exL a cap) : Calls Tryz.prog 15 #[.slice a 2 cap, .string ⟨#[102]⟩] W fun r w' =>
    (∃ pa pc, r = .returned (.tuple #[.agg #[.string ⟨#[102]⟩, .slice pa 2 pc, .int .i64 2], .bool true]) ∧ Ints w' [1, 3] pa pc) ∧ Below W.heap.size W w' := by
  refine (find12_any exL [102] a cap W h exL_pars).mono ?_
  rintro r w' ⟨⟨v, rfl, pa, pc, rfl, hi⟩, hb⟩
  exact ⟨⟨pa, pc, rfl, hi⟩, hb⟩
theorem textM_ex1 : textM (sgOf effF) = [102, 40, 105, 110, 116, 44, 32, 97, 114, 114, 97, 121, 41, 32, 98, 111, 111, 108] := by decide +kernel
theorem textM_ex2 : textM (sgOf mainF) = [109, 97, 105, 110, 40, 41] := by decide +kernel
theorem textM_ex3 : textM ⟨[119, 104, 105, 108, 101], [], 0⟩ = [] := by decide +kernel
theorem wf_eff : (sgOf effF).wf := by
  refine ⟨by decide, by unfold I64; decide, fun p hp => ?_⟩
  have h : p = 1 ∨ p = 3 := by simpa [sgOf, effF] using hp
  unfold I64
  omega
theorem text_ex1 (pa : Option Addr) (pc : Nat) (W : World) (h : Ints W [1, 3] pa pc) (hT : Tab W) (hWd : Words W) : Calls Tryz.prog 16 #[.agg #[.string ⟨#[102]⟩, .slice pa 2 pc, .int .i64 2]] W fun r w' => r = .returned (.string ⟨#[102, 40, 105, 110, 116, 44, 32, 97, 114, 114, 97, 121, 41, 32, 98, 111, 111, 108]⟩) ∧ Below W.heap.size W w' := by
  have h := text12_any (sgOf effF) _ W ⟨pa, pc, rfl, h⟩ wf_eff hT hWd
  rw [textM_ex1] at h
  exact h
theorem text_ex2 (pa : Option Addr) (pc : Nat) (W : World) (h : Ints W [] pa pc) (hT : Tab W) (hWd : Words W) : Calls Tryz.prog 16 #[.agg #[.string ⟨mainB.toArray⟩, .slice pa 0 pc, .int .i64 0]] W fun r w' => r = .returned (.string ⟨#[109, 97, 105, 110, 40, 41]⟩) ∧ Below W.heap.size W w' := by
  have h := text12_any (sgOf mainF) _ W ⟨pa, pc, rfl, h⟩ ⟨by decide, by unfold I64; decide, by simp [sgOf, mainF]⟩ hT hWd
  rw [textM_ex2] at h
  exact h
theorem text_ex3 (W : World) (hT : Tab W) (hWd : Words W) : Calls Tryz.prog 16 #[.agg #[.string ⟨#[119, 104, 105, 108, 101]⟩, .slice none 0 0, .int .i64 0]] W fun r w' => r = .returned (.string ⟨#[]⟩) ∧ Below W.heap.size W w' := by
  have h := text12_any ⟨[119, 104, 105, 108, 101], [], 0⟩ _ W ⟨none, 0, rfl, Ints.nil _⟩ ⟨by decide, by unfold I64; decide, by simp⟩ hT hWd
  rw [textM_ex3] at h
  exact h
theorem call_ex1 (a b : Option Addr) (cap cb : Nat) (W : World) (h : Sgs W exL a cap) (hi : Ints W [1, 3] b cb) : Calls Tryz.prog 17 #[.slice a 2 cap, .string ⟨#[102]⟩, .slice b 2 cb, .int .i64 2] W fun r w' => r = .returned (.int .i64 0) ∧ Below W.heap.size W w' := by
  have h := call12_any exL [102] [1, 3] 2 a b cap cb W h exL_pars hi
  rw [show callM exL [102] [1, 3] 2 = 0 by decide +kernel] at h
  exact h
theorem call_ex2 (a b : Option Addr) (cap cb : Nat) (W : World) (h : Sgs W exL a cap) (hi : Ints W [1, 3] b cb) : Calls Tryz.prog 17 #[.slice a 2 cap, .string ⟨#[102]⟩, .slice b 2 cb, .int .i64 0] W fun r w' => r = .returned (.int .i64 0) ∧ Below W.heap.size W w' := by
  have h := call12_any exL [102] [1, 3] 0 a b cap cb W h exL_pars hi
  rw [show callM exL [102] [1, 3] 0 = 0 by decide +kernel] at h
  exact h
theorem call_ex3 (a b : Option Addr) (cap cb : Nat) (W : World) (h : Sgs W exL a cap) (hi : Ints W [1] b cb) : Calls Tryz.prog 17 #[.slice a 2 cap, .string ⟨#[102]⟩, .slice b 1 cb, .int .i64 0] W fun r w' => r = .returned (.int .i64 12) ∧ Below W.heap.size W w' := by
  have h := call12_any exL [102] [1] 0 a b cap cb W h exL_pars hi
  rw [show callM exL [102] [1] 0 = 12 by decide +kernel] at h
  exact h
theorem call_ex4 (a b : Option Addr) (cap cb : Nat) (W : World) (h : Sgs W exL a cap) (hi : Ints W [] b cb) : Calls Tryz.prog 17 #[.slice a 2 cap, .string ⟨#[109, 97, 105, 110]⟩, .slice b 0 cb, .int .i64 1] W fun r w' => r = .returned (.int .i64 12) ∧ Below W.heap.size W w' := by
  have h := call12_any exL [109, 97, 105, 110] [] 1 a b cap cb W h exL_pars hi
  rw [show callM exL [109, 97, 105, 110] [] 1 = 12 by decide +kernel] at h
  exact h
theorem call_ex5 (a b : Option Addr) (cap cb : Nat) (W : World) (h : Sgs W exL a cap) (hi : Ints W [] b cb) : Calls Tryz.prog 17 #[.slice a 2 cap, .string ⟨#[103]⟩, .slice b 0 cb, .int .i64 0] W fun r w' => r = .returned (.int .i64 11) ∧ Below W.heap.size W w' := by
  have h := call12_any exL [103] [] 0 a b cap cb W h exL_pars hi
  rw [show callM exL [103] [] 0 = 11 by decide +kernel] at h
  exact h
set_option maxRecDepth 20000 in
set_option maxHeartbeats 8000000 in
theorem works12_any (w : World) (hT : Tab w) (hWd : Words w) : Calls Tryz.prog 5 #[] w fun r w' => r = .returned (.bool true) ∧ Below w.heap.size w w' := by
  have HT := hide hT
  have HD := hide hWd
  clear hT hWd
  go_enter Tryz.func5, Tryz.ntmps5
  go_wp2_with fail
  refine (effs12_any _).mono ?_
  rintro r w1 ⟨rfl, hb, hx⟩
  have HW := hide hb
  have HX := hide (eff_pms hx)
  clear hb hx
  go_wp2_with fail
  refine (mains12_any _).mono ?_
  rintro r w2 ⟨rfl, hb⟩
  have HF := hide (fns_new12 (w := w2) (cutF (effC (HX.out.has (has_below hb))) (cutF (mainC w2) cutE)) 30 w2.heap.size 2 rfl (by decide) (by decide))
  have HW := hide (HW.out.tr hb)
  clear hb
  clear HX
  go_wp2_with fail
  refine (two12_any _ _ _ _).mono ?_
  rintro r w3 ⟨rfl, hb⟩
  have HF := hide (HF.out.has (has_below hb))
  have hb := ((bl w2).al _).tr hb
  have HW := hide (HW.out.tr hb)
  clear hb
  go_wp2_with fail
  refine (of_ex1 _ _ HF.out (HT.out.below HW.out)).mono ?_
  rintro r w4 ⟨⟨b, o, cap, rfl, hs⟩, hb⟩
  have HS := hide hs
  have HW := hide (HW.out.tr hb)
  clear hb
  clear HF hs
  go_wp2_with fail
  refine (of_ex2 _ (HT.out.below HW.out)).mono ?_
  rintro r w5 ⟨⟨a5, cap5, rfl⟩, hb⟩
  have HS := hide (HS.out.has (has_below hb))
  have HW := hide (HW.out.tr hb)
  clear hb
  go_wp2_with fail
  refine (mains12_any _).mono ?_
  rintro r w6 ⟨rfl, hb⟩
  have HS := hide (HS.out.has (has_below hb))
  have HW := hide (HW.out.tr hb)
  clear hb
  go_wp2_with fail
  refine (mains12_any _).mono ?_
  rintro r w7 ⟨rfl, hb⟩
  have HS := hide (HS.out.has (has_below hb))
  have HW := hide (HW.out.tr hb)
  clear hb
  have HF := hide (fns_new12 (w := w7) (cutF (mainC w7) (cutF (mainC w7) cutE)) 30 w7.heap.size 2 rfl (by decide) (by decide))
  go_wp2_with fail
  refine (two12_any _ _ _ _).mono ?_
  rintro r w8 ⟨rfl, hb⟩
  have HF := hide (HF.out.has (has_below hb))
  have hb := ((bl w7).al _).tr hb
  have HS := hide (HS.out.has (has_below hb))
  have HW := hide (HW.out.tr hb)
  clear hb
  go_wp2_with fail
  refine (of_ex3 _ _ HF.out (HT.out.below HW.out)).mono ?_
  rintro r w9 ⟨⟨a9, cap9, rfl⟩, hb⟩
  have HS := hide (HS.out.has (has_below hb))
  have HW := hide (HW.out.tr hb)
  clear hb
  clear HF
  go_wp2_with fail
  refine (find_ex _ _ _ HS.out).mono ?_
  rintro r w10 ⟨⟨pa, pc, rfl, hi⟩, hb⟩
  have HS := hide (HS.out.has (has_below hb))
  have HI := hide (hi.has (has_below ((bl w10).al (.cells #[.string ⟨#[102]⟩, .slice pa 2 pc, .int .i64 2] 49))))
  have HW := hide (HW.out.tr hb)
  clear hb
  clear hi
  have HB1 := hide ((bl w10).al (.cells #[.string ⟨#[102]⟩, .slice pa 2 pc, .int .i64 2] 49))
  go_wp2_with fail
  refine (text_ex1 _ _ _ HI.out (HT.out.below (HW.out.tr HB1.out)) (HD.out.below (HW.out.tr HB1.out))).mono ?_
  rintro r w11 ⟨rfl, hb⟩
  have hb := HB1.out.tr hb
  have HS := hide (HS.out.has (has_below hb))
  have HW := hide (HW.out.tr hb)
  clear hb
  clear HB1 HI
  obtain ⟨pm, qm, d0, d1, d2, hi⟩ := HS.out.at_ b o rfl 1 (by decide)
  have d0 : w11.cell? ⟨b, o + 3, none⟩ = some (.string ⟨mainB.toArray⟩) := d0
  have d1 : w11.cell? ⟨b, o + 3 + 1, none⟩ = some (.slice pm 0 qm) := d1
  have d2 : w11.cell? ⟨b, o + 3 + 2, none⟩ = some (.int .i64 0) := d2
  have HI : Hid (Ints w11 [] pm qm) := hide hi
  have hbl := cell_lt d0
  simp only at hbl
  clear hi
  go_wp2_with fail
  refine (text_ex2 _ _ _ HI.out (HT.out.below HW.out) (HD.out.below HW.out)).mono ?_
  rintro r w12 ⟨rfl, hb⟩
  have HS := hide (HS.out.has (has_below hb))
  have HW := hide (HW.out.tr hb)
  clear hb
  clear HI d0 d1 d2 hbl
  go_wp2_with fail
  refine (call_ex1 _ _ _ _ _ (HS.out.has (has_below ((bl w12).al _))) (Ints.alloc _ [1, 3] 3 _ (by decide) rfl)).mono ?_
  rintro r w13 ⟨rfl, hb⟩
  have hb := ((bl w12).al _).tr hb
  have HS := hide (HS.out.has (has_below hb))
  have HW := hide (HW.out.tr hb)
  clear hb
  go_wp2_with fail
  refine (call_ex2 _ _ _ _ _ (HS.out.has (has_below ((bl w13).al _))) (Ints.alloc _ [1, 3] 3 _ (by decide) rfl)).mono ?_
  rintro r w14 ⟨rfl, hb⟩
  have hb := ((bl w13).al _).tr hb
  have HS := hide (HS.out.has (has_below hb))
  have HW := hide (HW.out.tr hb)
  clear hb
  go_wp2_with fail
  refine (call_ex3 _ _ _ _ _ (HS.out.has (has_below ((bl w14).al _))) (Ints.alloc _ [1] 3 _ (by decide) rfl)).mono ?_
  rintro r w15 ⟨rfl, hb⟩
  have hb := ((bl w14).al _).tr hb
  have HS := hide (HS.out.has (has_below hb))
  have HW := hide (HW.out.tr hb)
  clear hb
  go_wp2_with fail
  refine (call_ex4 _ _ _ _ _ HS.out (Ints.nil _)).mono ?_
  rintro r w16 ⟨rfl, hb⟩
  have HS := hide (HS.out.has (has_below hb))
  have HW := hide (HW.out.tr hb)
  clear hb
  go_wp2_with fail
  refine (call_ex5 _ _ _ _ _ HS.out (Ints.nil _)).mono ?_
  rintro r w17 ⟨rfl, hb⟩
  have HW := hide (HW.out.tr hb)
  clear hb
  clear HS
  go_wp2_with fail
  refine (text_ex3 _ (HT.out.below HW.out) (HD.out.below HW.out)).mono ?_
  rintro r w18 ⟨rfl, hb⟩
  have HW := hide (HW.out.tr hb)
  clear hb
  go_wp2_with fail
  go_ret
  exact ⟨rfl, HW.out⟩
end Go.Proofs.YtnkmbddjekepkaaGreatDoor
