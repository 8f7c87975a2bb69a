/- rewindref10.Find and rewindref10.Seen answer findM and seenM for every list of variables in memory. -/
import Derived.Test.YtfpikakgaghdbaaDoorNmA
namespace Go.Proofs.YtfpikakgaghdbaaDoor
open Go Go.RowKit
theorem firstM_some {l : List Vr} {p : Vr → Bool} {k : Nat} (h : k < l.length) (hp : p l[k] = true) (hn : ∀ v ∈ l.take k, p v = false) : firstM l p = (k, true) := by
  have h2 : l.findIdx? p = some k := by
    rw [List.findIdx?_eq_some_iff_getElem]
    refine ⟨h, hp, fun j hj => ?_⟩
    have := hn l[j] (List.mem_take_iff_getElem.2 ⟨j, by omega, rfl⟩)
    simp [this]
  simp [firstM, h2]
theorem firstM_none {l : List Vr} {p : Vr → Bool} (hn : ∀ v ∈ l, p v = false) : firstM l p = (0, false) := by
  have h2 : l.findIdx? p = none := by
    rw [List.findIdx?_eq_none_iff]
    exact hn
  simp [firstM, h2]
theorem take_no {l : List Vr} {p : Vr → Bool} {k : Nat} (h : k < l.length) (hn : ∀ v ∈ l.take k, p v = false) (hp : p l[k] = false) : ∀ v ∈ l.take (k + 1), p v = false := by
  intro v hv
  rw [List.take_succ_eq_append_getElem h, List.mem_append, List.mem_singleton] at hv
  rcases hv with hv | rfl
  · exact hn v hv
  · exact hp
set_option maxHeartbeats 1000000 in
theorem refSeen_any (l : List Vr) (a : Option Addr) (cap : Nat) (name : Bytes) (p : Int) (w : World) (hl : Vrs w l a cap) :
    Calls Tryd.prog 69 #[.slice a l.length cap, .string ⟨name.toArray⟩, .int .i64 p] w fun e w' => e = .returned (.tuple #[.int .i64 (seenM l name p).1, .bool (seenM l name p).2]) ∧ Below w.heap.size w w' := by
  have hlen : l.length ≤ 9223372036854775807 := Nat.le_trans hl.len hl.cap
  have HL := hide hl
  clear hl
  unfold seenM
  go_enter Tryd.func69, Tryd.ntmps69
  go_wp2_with fail
  go_loop [8] (fun i => ∃ k : Nat, k ≤ l.length ∧ i = .int .i64 k ∧ Hid (∀ v ∈ l.take k, (v.name == name && v.sees p) = false)) (fun i => l.length - (intOf i).toNat)
  case atStart => exact ⟨0, Nat.zero_le _, rfl, by simp [Hid]⟩
  case round =>
    obtain ⟨k, hk, rfl, hn⟩ := hrel
    by_cases hlt : k < l.length
    · obtain ⟨b, o, rfl⟩ := HL.out.addr (by omega)
      obtain ⟨c0, c1, c2, c3, c4⟩ := HL.out.at_ b o rfl k hlt
      cases hq : l[k].name == name
      · have HP : Hid ((l[k].name == name && l[k].sees p) = false) := hide (by rw [hq]; rfl)
        go_wp2_with fail
        go_round
        case rel => exact ⟨k + 1, by omega, by go_num, take_no hlt hn HP.out⟩
        case measure => simp [intOf]; omega
      · by_cases h1 : l[k].frm ≤ p
        · by_cases h2 : p < l[k].til
          · have HP : Hid ((l[k].name == name && l[k].sees p) = true) := hide (by rw [hq]; simp [Vr.sees, h1, h2])
            go_wp2_with fail
            go_ret2
            refine ⟨?_, bl w⟩
            rw [firstM_some hlt HP.out hn]
            rfl
          · have HP : Hid ((l[k].name == name && l[k].sees p) = false) := hide (by simp [Vr.sees, h2])
            go_wp2_with fail
            go_round
            case rel => exact ⟨k + 1, by omega, by go_num, take_no hlt hn HP.out⟩
            case measure => simp [intOf]; omega
        · have HP : Hid ((l[k].name == name && l[k].sees p) = false) := hide (by simp [Vr.sees, h1])
          go_wp2_with fail
          go_round
          case rel => exact ⟨k + 1, by omega, by go_num, take_no hlt hn HP.out⟩
          case measure => simp [intOf]; omega
    · obtain rfl : k = l.length := by omega
      have h0 := hide (firstM_none (p := fun v => v.name == name && v.sees p) (by have := hn.out; rwa [List.take_length] at this))
      go_wp2_with fail
      go_ret2
      refine ⟨?_, bl w⟩
      rw [h0.out]
      rfl
set_option maxHeartbeats 1000000 in
theorem refFind_any (l : List Vr) (a : Option Addr) (cap : Nat) (name : Bytes) (w : World) (hl : Vrs w l a cap) :
    Calls Tryd.prog 43 #[.slice a l.length cap, .string ⟨name.toArray⟩] w fun e w' => e = .returned (.tuple #[.int .i64 (findM l name).1, .bool (findM l name).2]) ∧ Below w.heap.size w w' := by
  have hlen : l.length ≤ 9223372036854775807 := Nat.le_trans hl.len hl.cap
  have HL := hide hl
  clear hl
  unfold findM
  go_enter Tryd.func43, Tryd.ntmps43
  go_wp2_with fail
  go_loop [6] (fun i => ∃ k : Nat, k ≤ l.length ∧ i = .int .i64 k ∧ Hid (∀ v ∈ l.take k, (v.name == name) = false)) (fun i => l.length - (intOf i).toNat)
  case atStart => exact ⟨0, Nat.zero_le _, rfl, by simp [Hid]⟩
  case round =>
    obtain ⟨k, hk, rfl, hn⟩ := hrel
    by_cases hlt : k < l.length
    · obtain ⟨b, o, rfl⟩ := HL.out.addr (by omega)
      obtain ⟨c0, c1, c2, c3, c4⟩ := HL.out.at_ b o rfl k hlt
      cases hq : l[k].name == name
      · have HP : Hid ((l[k].name == name) = false) := hide hq
        go_wp2_with fail
        go_round
        case rel => exact ⟨k + 1, by omega, by go_num, take_no hlt hn HP.out⟩
        case measure => simp [intOf]; omega
      · have HP : Hid ((l[k].name == name) = true) := hide hq
        go_wp2_with fail
        go_ret2
        refine ⟨?_, bl w⟩
        rw [firstM_some hlt HP.out hn]
        rfl
    · obtain rfl : k = l.length := by omega
      have h0 := hide (firstM_none (p := fun v => v.name == name) (by have := hn.out; rwa [List.take_length] at this))
      go_wp2_with fail
      go_ret2
      refine ⟨?_, bl w⟩
      rw [h0.out]
      rfl
end Go.Proofs.YtfpikakgaghdbaaDoor
