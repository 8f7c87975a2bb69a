/- rewindlaw10.ints, and the document's Find and Seen. -/
import Derived.Test.YtccgpmncpemmdaaDoorNmE
import Derived.Test.YtccgpmncpemmdaaDoorNmA
namespace Go.Proofs.YtccgpmncpemmdaaDoor
open Go Go.RowKit
set_option linter.unusedSimpArgs false
set_option linter.unusedVariables false
set_option linter.unnecessarySimpa false
set_option maxRecDepth 20000 in
set_option maxHeartbeats 2000000 in
/-- Lists of numbers that are equal. -/
theorem ints_self (l : List Int) (a a2 : Option Addr) (cap cap2 : Nat) (w : World) (hl : Ints w l a cap) (hm : Ints w l a2 cap2) :
    Calls Tryd.prog 15 #[.slice a l.length cap, .slice a2 l.length cap2] w fun e w' => e = .returned (.bool true) ∧ Below w.heap.size w w' := by
  have hlen : l.length ≤ 9223372036854775807 := Nat.le_trans hl.len hl.cap
  have HL := hide hl
  have HM := hide hm
  clear hl hm
  go_enter Tryd.func15, Tryd.ntmps15
  go_wp2
  go_loopw [5] (fun i wr => ∃ k n : Nat, k ≤ l.length ∧ i = .int .i64 k ∧ Hid (wr = w.drewN n)) (fun i _ => l.length - (intOf i).toNat)
  case atStart => exact ⟨0, 0, Nat.zero_le _, rfl, hide rfl⟩
  case round =>
    obtain ⟨k, nn, hk, rfl, HWR⟩ := hrel
    by_cases hlt : k < l.length
    · obtain ⟨b, o, rfl⟩ := HL.out.addr (by omega)
      obtain ⟨b2, o2, rfl⟩ := HM.out.addr (by omega)
      have c0 : wr.cell? ⟨b, o + k, none⟩ = some (.int .i64 l[k]) := by rw [HWR.out]; exact HL.out.at_ b o rfl k hlt
      have c1 : wr.cell? ⟨b2, o2 + k, none⟩ = some (.int .i64 l[k]) := by rw [HWR.out]; exact HM.out.at_ b2 o2 rfl k hlt
      have hbl := cell_lt c0
      have hbl2 := cell_lt c1
      simp only at hbl hbl2
      have hc6 : (0 : Int) ≤ (k : Int) := by omega
      have hc7 : (k : Int) < (l.length : Int) := by omega
      have g2 : ((l[k] : Int) != l[k]) = false := by simp
      go_wp2_with fail
      go_quiet (fail)
      go_wp2_with fail
      go_roundw
      case rel => exact ⟨k + 1, _, by omega, by go_num, hide (by rw [HWR.out, World.drewN_drewN])⟩
      case measure => simp [intOf]; omega
    · obtain rfl : k = l.length := by omega
      go_wp2
      go_ret
      exact ⟨rfl, by rw [HWR.out]; exact ⟨rfl, rfl, rfl, Nat.le_refl _, fun _ _ => rfl⟩⟩
theorem take_vr {l : List Vr} {p : Vr → Bool} {k : Nat} (hlt : k < l.length) (hn : ∀ v ∈ l.take k, p v = false) (h : p l[k] = false) : ∀ v ∈ l.take (k + 1), p v = false := by
  intro v hv
  rw [List.take_succ_eq_append_getElem hlt, List.mem_append, List.mem_singleton] at hv
  rcases hv with hv | rfl
  · exact hn v hv
  · exact h
theorem firstM_yes {l : List Vr} {p : Vr → Bool} {k : Nat} (hlt : k < l.length) (hn : ∀ v ∈ l.take k, p v = false) (h : p l[k] = true) : firstM l p = (k, true) := by
  have h2 : l.findIdx? p = some k := by
    rw [List.findIdx?_eq_some_iff_getElem]
    refine ⟨hlt, h, fun j hj => ?_⟩
    have := hn l[j] (List.mem_take_iff_getElem.2 ⟨j, by omega, rfl⟩)
    simp [this]
  simp [firstM, h2]
theorem firstM_none {l : List Vr} {p : Vr → Bool} (hn : ∀ v ∈ l.take l.length, p v = false) : firstM l p = (0, false) := by
  have h2 : l.findIdx? p = none := by
    rw [List.findIdx?_eq_none_iff]
    intro v hv
    exact hn v (by simpa using hv)
  simp [firstM, h2]
set_option maxRecDepth 20000 in
set_option maxHeartbeats 2000000 in
theorem refFind_any (l : List Vr) (a : Option Addr) (cap : Nat) (name : Bytes) (w : World) (hl : Vrs w l a cap) :
    Calls Tryd.prog 12 #[.slice a l.length cap, .string ⟨name.toArray⟩] w fun e w' => e = .returned (.tuple #[.int .i64 (findM l name).1, .bool (findM l name).2]) ∧ Below w.heap.size w w' := by
  have hlen : l.length ≤ 9223372036854775807 := Nat.le_trans hl.len hl.cap
  have HL := hide hl
  clear hl
  go_enter Tryd.func12, Tryd.ntmps12
  go_wp2
  go_loopw [6] (fun i wr => ∃ k : Nat, k ≤ l.length ∧ i = .int .i64 k ∧ Hid (∀ v ∈ l.take k, (v.name == name) = false) ∧ Below w.heap.size w wr) (fun i _ => l.length - (intOf i).toNat)
  case atStart => exact ⟨0, Nat.zero_le _, rfl, by simp [Hid], bl _⟩
  case round =>
    obtain ⟨k, hk, rfl, HN, hb⟩ := hrel
    by_cases hlt : k < l.length
    · obtain ⟨b, o, rfl⟩ := HL.out.addr (by omega)
      obtain ⟨c0, c1, c2, c3, c4⟩ := (HL.out.at_ b o rfl k hlt).keep hb (Nat.le_refl _)
      cases hq : l[k].name == name
      · have HQ := hide hq
        go_wp2
        go_roundw
        case rel => exact ⟨k + 1, by omega, by go_num, hide (take_vr hlt HN.out HQ.out), hb⟩
        case measure => simp [intOf]; omega
      · have HE := hide (firstM_yes (p := fun v => v.name == name) hlt HN.out hq)
        go_wp2
        go_ret2
        exact ⟨by rw [findM, HE.out]; rfl, hb⟩
    · obtain rfl : k = l.length := by omega
      have HE := hide (firstM_none (p := fun v => v.name == name) HN.out)
      go_wp2
      go_ret2
      exact ⟨by rw [findM, HE.out]; rfl, hb⟩
set_option maxRecDepth 20000 in
set_option maxHeartbeats 2000000 in
theorem refSeen_any (l : List Vr) (a : Option Addr) (cap : Nat) (name : Bytes) (p : Int) (w : World) (hl : Vrs w l a cap) :
    Calls Tryd.prog 14 #[.slice a l.length cap, .string ⟨name.toArray⟩, .int .i64 p] w fun e w' => e = .returned (.tuple #[.int .i64 (seenM l name p).1, .bool (seenM l name p).2]) ∧ Below w.heap.size w w' := by
  have hlen : l.length ≤ 9223372036854775807 := Nat.le_trans hl.len hl.cap
  have HL := hide hl
  clear hl
  go_enter Tryd.func14, Tryd.ntmps14
  go_wp2
  go_loopw [8] (fun i wr => ∃ k : Nat, k ≤ l.length ∧ i = .int .i64 k ∧ Hid (∀ v ∈ l.take k, (v.name == name && v.sees p) = false) ∧ Below w.heap.size w wr) (fun i _ => l.length - (intOf i).toNat)
  case atStart => exact ⟨0, Nat.zero_le _, rfl, by simp [Hid], bl _⟩
  case round =>
    obtain ⟨k, hk, rfl, HN, hb⟩ := hrel
    by_cases hlt : k < l.length
    · obtain ⟨b, o, rfl⟩ := HL.out.addr (by omega)
      obtain ⟨c0, c1, c2, c3, c4⟩ := (HL.out.at_ b o rfl k hlt).keep hb (Nat.le_refl _)
      obtain ⟨t1, hq1⟩ : ∃ t, decide (l[k].frm ≤ p) = t := ⟨_, rfl⟩
      obtain ⟨t2, hq2⟩ : ∃ t, decide (p < l[k].til) = t := ⟨_, rfl⟩
      cases hq : l[k].name == name
      · have HQ : Hid ((l[k].name == name && l[k].sees p) = false) := hide (by rw [hq]; rfl)
        clear hq1 hq2
        go_wp2
        go_roundw
        case rel => exact ⟨k + 1, by omega, by go_num, hide (take_vr (p := fun v => v.name == name && v.sees p) hlt HN.out HQ.out), hb⟩
        case measure => simp [intOf]; omega
      · have hz : (l[k].name == name && l[k].sees p) = (t1 && t2) := by rw [hq, Vr.sees, hq1, hq2]; rfl
        have HQ := hide hz
        clear hz
        cases t1 <;> cases t2 <;> (simp only [decide_eq_true_eq, decide_eq_false_iff_not] at hq1 hq2)
        · go_wp2
          go_roundw
          case rel => exact ⟨k + 1, by omega, by go_num, hide (take_vr (p := fun v => v.name == name && v.sees p) hlt HN.out HQ.out), hb⟩
          case measure => simp [intOf]; omega
        · go_wp2
          go_roundw
          case rel => exact ⟨k + 1, by omega, by go_num, hide (take_vr (p := fun v => v.name == name && v.sees p) hlt HN.out HQ.out), hb⟩
          case measure => simp [intOf]; omega
        · go_wp2
          go_roundw
          case rel => exact ⟨k + 1, by omega, by go_num, hide (take_vr (p := fun v => v.name == name && v.sees p) hlt HN.out HQ.out), hb⟩
          case measure => simp [intOf]; omega
        · have HE := hide (firstM_yes (p := fun v => v.name == name && v.sees p) hlt HN.out HQ.out)
          go_wp2
          go_ret2
          exact ⟨by rw [seenM, HE.out]; rfl, hb⟩
    · obtain rfl : k = l.length := by omega
      have HE := hide (firstM_none (p := fun v => v.name == name && v.sees p) HN.out)
      go_wp2
      go_ret2
      exact ⟨by rw [seenM, HE.out]; rfl, hb⟩
end Go.Proofs.YtccgpmncpemmdaaDoor
