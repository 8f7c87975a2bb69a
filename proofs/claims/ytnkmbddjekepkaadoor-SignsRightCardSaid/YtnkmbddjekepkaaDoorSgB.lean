/- Equal lists of numbers; equal signatures; the word of a type. -/
import Derived.Test.YtnkmbddjekepkaaDoorSgA
import Derived.Test.YtnkmbddjekepkaaDoorShel2
import Derived.BigQuiet
import Derived.Deep.QuietTactic
namespace Go.Proofs.YtnkmbddjekepkaaDoor
open Go Go.RowKit
set_option linter.unusedSimpArgs false
set_option linter.unusedVariables false
set_option linter.unnecessarySimpa false
abbrev DqPost (w : World) (b : Bool) (r : Ending) (w' : World) : Prop := r = .returned (.bool b) ∧ ∃ n, w' = w.drewN n
theorem dq_below {w w' : World} (h : ∃ n, w' = w.drewN n) : Below w.heap.size w w' := by
  obtain ⟨n, rfl⟩ := h
  exact below_dq (bl w) n
theorem bne_no' {α : Type} [BEq α] {a b : α} (h : (a == b) = false) : (a != b) = true := by simp [bne, h]
theorem bne_yes' {α : Type} [BEq α] {a b : α} (h : (a == b) = true) : (a != b) = false := by simp [bne, h]
theorem Ints.getD {w : World} {l : List Int} {b o cap : Nat} (h : Ints w l (some ⟨b, o, none⟩) cap) : ∀ j, j < l.length → w.cell? ⟨b, o + j, none⟩ = some (.int .i64 (l.getD j 0)) := by
  intro j hj
  rw [h.at_ b o rfl j hj]
  simp [List.getD, hj]
theorem equalInts_any (l m : List Int) (a c : Option Addr) (ca cc : Nat) (w : World) (hl : Ints w l a ca) (hm : Ints w m c cc) :
    Calls Tryd.prog 29 #[.slice a l.length ca, .slice c m.length cc] w (DqPost w (decide (l = m))) := by
  have h1 : l.length ≤ 9223372036854775807 := Nat.le_trans hl.len hl.cap
  have h2 : m.length ≤ 9223372036854775807 := Nat.le_trans hm.len hm.cap
  by_cases hlm : l.length = m.length
  · by_cases h0 : 0 < l.length
    · obtain ⟨b1, o1, rfl⟩ := hl.addr h0
      obtain ⟨b2, o2, rfl⟩ := hm.addr (by omega)
      refine (Tryd.slices_Equal_int b1 o1 l.length ca b2 o2 m.length cc l m w (Nat.le_refl _) (Nat.le_refl _) h1 h2 hl.getD hm.getD).mono ?_
      rintro e w' ⟨rfl, hq⟩
      refine ⟨?_, hq⟩
      rw [List.take_length, List.take_length]
      exact ret_bool (by rw [Bool.eq_iff_iff]; simp)
    · obtain rfl : l = [] := List.eq_nil_of_length_eq_zero (by omega)
      obtain rfl : m = [] := List.eq_nil_of_length_eq_zero (by simpa using hlm.symm)
      refine (Tryd.slices_Equal_int_empty a c ca 0 cc w (Nat.zero_le _)).mono ?_
      rintro e w' ⟨rfl, rfl⟩
      exact ⟨rfl, 0, rfl⟩
  · refine (Tryd.slices_Equal_int_lens a c l.length ca m.length cc w hlm).mono ?_
    rintro e w' ⟨rfl, rfl⟩
    exact ⟨by rw [decide_eq_false (fun e => hlm (by rw [e]))], 0, rfl⟩
set_option maxHeartbeats 1000000 in
theorem refInts_any (l m : List Int) (a c : Option Addr) (ca cc : Nat) (w : World) (hl : Ints w l a ca) (hm : Ints w m c cc) :
    Calls Tryd.prog 28 #[.slice a l.length ca, .slice c m.length cc] w (DqPost w (decide (l = m))) := by
  have h1 : l.length ≤ 9223372036854775807 := Nat.le_trans hl.len hl.cap
  have h2 : m.length ≤ 9223372036854775807 := Nat.le_trans hm.len hm.cap
  have HL := hide hl
  have HM := hide hm
  clear hl hm
  by_cases hlm : l.length = m.length
  · have g1 : ((l.length : Int) != (m.length : Int)) = false := by simp [bne, hlm]
    have HLM := hide hlm
    clear hlm
    go_enter Tryd.func28, Tryd.ntmps28
    go_wp2_with fail
    go_loopw [5] (fun i wr => ∃ k n : Nat, k ≤ l.length ∧ i = .int .i64 k ∧ Hid (l.take k = m.take k) ∧ Hid (wr = w.drewN n)) (fun i _ => l.length - (intOf i).toNat)
    case atStart => exact ⟨0, 0, Nat.zero_le _, rfl, hide (by simp), hide rfl⟩
    case round =>
      obtain ⟨k, nn, hk, rfl, hall, HWR⟩ := hrel
      by_cases hlt : k < l.length
      · have hlt' : k < m.length := by have := HLM.out; omega
        obtain ⟨b, o, rfl⟩ := HL.out.addr (by omega)
        obtain ⟨b', o', rfl⟩ := HM.out.addr (by omega)
        have c0 : wr.cell? ⟨b, o + k, none⟩ = some (.int .i64 l[k]) := by rw [HWR.out]; exact HL.out.at_ b o rfl k hlt
        have d0 : wr.cell? ⟨b', o' + k, none⟩ = some (.int .i64 m[k]) := by rw [HWR.out]; exact HM.out.at_ b' o' rfl k hlt'
        have hbl1 := cell_lt c0
        have hbl2 := cell_lt d0
        simp only at hbl1 hbl2
        have hc6 : (0 : Int) ≤ (k : Int) := by omega
        have hc7 : (k : Int) < (l.length : Int) := by omega
        have hc8 : (k : Int) < (m.length : Int) := by omega
        cases q1 : l[k] == m[k]
        · have g2 := bne_no' q1
          have HE : Hid (decide (l = m) = false) := hide (decide_eq_false fun e => by subst e; simp at q1)
          clear q1
          go_wp2_with fail
          go_quiet (fail)
          go_wp2_with fail
          go_ret
          exact ⟨ret_bool HE.out.symm, _, by rw [HWR.out, World.drewN_drewN]⟩
        · have g2 := bne_yes' q1
          have HE : Hid (l[k] = m[k]) := hide (by simpa using q1)
          clear q1
          go_wp2_with fail
          go_quiet (fail)
          go_wp2_with fail
          go_roundw
          case rel => exact ⟨k + 1, _, by omega, by go_num, hide (by rw [List.take_succ_eq_append_getElem hlt, List.take_succ_eq_append_getElem hlt', hall.out, HE.out]), hide (by rw [HWR.out, World.drewN_drewN])⟩
          case measure => simp [intOf]; omega
      · obtain rfl : k = l.length := by omega
        have HE : Hid (decide (l = m) = true) := hide (decide_eq_true (by have := hall.out; rwa [List.take_length, HLM.out, List.take_length] at this))
        go_wp2_with fail
        go_ret
        exact ⟨ret_bool HE.out.symm, _, HWR.out⟩
  · have g1 : ((l.length : Int) != (m.length : Int)) = true := by simp [bne]; omega
    have HE : Hid (decide (l = m) = false) := hide (decide_eq_false fun e => hlm (by rw [e]))
    clear hlm
    go_enter Tryd.func28, Tryd.ntmps28
    go_wp2_with fail
    go_ret
    exact ⟨ret_bool HE.out.symm, 0, rfl⟩
set_option maxHeartbeats 1000000 in
theorem same_any (s t : Sg) (v u : Value) (w : World) (hs : s.Val w v) (ht : t.Val w u) : Calls Tryd.prog 17 #[v, u] w fun r w' => r = .returned (.bool (sameSg s t)) ∧ Below w.heap.size w w' := by
  obtain ⟨a, ca, rfl, hi⟩ := hs
  obtain ⟨c, cc, rfl, hj⟩ := ht
  have h1 := hide fun (W : World) (hW : Below w.heap.size w W) => equalInts_any s.pars t.pars a c ca cc W (hi.keep hW (Nat.le_refl _)) (hj.keep hW (Nat.le_refl _))
  clear hi hj
  cases q1 : s.name == t.name
  · have HE : Hid (sameSg s t = false) := hide (by unfold sameSg; rw [decide_eq_false (by simpa using q1)]; rfl)
    clear h1
    go_enter Tryd.func17, Tryd.ntmps17
    go_wp2_with fail
    go_ret
    exact ⟨ret_bool (by rw [HE.out]), ((bl w).al _).al _⟩
  cases q2 : decide (s.pars = t.pars)
  · have HE : Hid (sameSg s t = false) := hide (by unfold sameSg; rw [q2]; simp)
    rw [q2] at h1
    clear q2
    go_enter Tryd.func17, Tryd.ntmps17
    go_wp2_with (go_at_call 29; refine (h1.out _ (((bl w).al _).al _)).mono ?_; rintro r w1 ⟨rfl, nq, rfl⟩)
    go_ret
    exact ⟨ret_bool (by rw [HE.out]), below_dq (((bl w).al _).al _) _⟩
  rw [q2] at h1
  cases q3 : s.res == t.res
  all_goals
    have HE : Hid (sameSg s t = (s.res == t.res)) := hide (by unfold sameSg; rw [q2, decide_eq_true (by simpa using q1)]; rw [Bool.eq_iff_iff]; simp)
    clear q2
    go_enter Tryd.func17, Tryd.ntmps17
    go_wp2_with (go_at_call 29; refine (h1.out _ (((bl w).al _).al _)).mono ?_; rintro r w1 ⟨rfl, nq, rfl⟩)
    go_ret
    exact ⟨ret_bool (by rw [HE.out, q3]), below_dq (((bl w).al _).al _) _⟩
set_option maxHeartbeats 1000000 in
theorem refSame_any (s t : Sg) (v u : Value) (w : World) (hs : s.Val w v) (ht : t.Val w u) : Calls Tryd.prog 12 #[v, u] w fun r w' => r = .returned (.bool (sameSg s t)) ∧ Below w.heap.size w w' := by
  obtain ⟨a, ca, rfl, hi⟩ := hs
  obtain ⟨c, cc, rfl, hj⟩ := ht
  have h1 := hide fun (W : World) (hW : Below w.heap.size w W) => refInts_any s.pars t.pars a c ca cc W (hi.keep hW (Nat.le_refl _)) (hj.keep hW (Nat.le_refl _))
  clear hi hj
  cases q1 : s.name == t.name
  · have HE : Hid (sameSg s t = false) := hide (by unfold sameSg; rw [decide_eq_false (by simpa using q1)]; rfl)
    clear h1
    go_enter Tryd.func12, Tryd.ntmps12
    go_wp2_with fail
    go_ret
    exact ⟨ret_bool (by rw [HE.out]), ((bl w).al _).al _⟩
  cases q2 : decide (s.pars = t.pars)
  · have HE : Hid (sameSg s t = false) := hide (by unfold sameSg; rw [q2]; simp)
    rw [q2] at h1
    clear q2
    go_enter Tryd.func12, Tryd.ntmps12
    go_wp2_with (go_at_call 28; refine (h1.out _ (((bl w).al _).al _)).mono ?_; rintro r w1 ⟨rfl, nq, rfl⟩)
    go_ret
    exact ⟨ret_bool (by rw [HE.out]), below_dq (((bl w).al _).al _) _⟩
  rw [q2] at h1
  cases q3 : s.res == t.res
  all_goals
    have HE : Hid (sameSg s t = (s.res == t.res)) := hide (by unfold sameSg; rw [q2, decide_eq_true (by simpa using q1)]; rw [Bool.eq_iff_iff]; simp)
    clear q2
    go_enter Tryd.func12, Tryd.ntmps12
    go_wp2_with (go_at_call 28; refine (h1.out _ (((bl w).al _).al _)).mono ?_; rintro r w1 ⟨rfl, nq, rfl⟩)
    go_ret
    exact ⟨ret_bool (by rw [HE.out, q3]), below_dq (((bl w).al _).al _) _⟩
end Go.Proofs.YtnkmbddjekepkaaDoor
