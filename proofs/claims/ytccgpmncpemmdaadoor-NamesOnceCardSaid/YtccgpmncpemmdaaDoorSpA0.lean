/- slices.ContainsFunc over expressions, parameters and functions: it answers whether the predicate holds of one. -/
import Derived.Test.YtccgpmncpemmdaaDoorShp
namespace Go.Proofs.YtccgpmncpemmdaaDoor
open Go Go.RowKit
set_option linter.unusedSimpArgs false
set_option linter.unusedVariables false
set_option linter.unnecessarySimpa false
def idxL {α : Type} (l : List α) (p : α → Bool) : Int := match l.findIdx? p with | some i => (i : Nat) | none => -1
theorem idxL_nonneg {α : Type} (l : List α) (p : α → Bool) : 0 ≤ idxL l p ↔ l.any p = true := by
  unfold idxL
  cases h : l.findIdx? p with
  | none =>
    rw [List.findIdx?_eq_none_iff] at h
    simp only [List.any_eq_true]
    constructor
    · intro h0
      exact absurd h0 (by decide)
    · rintro ⟨x, hx, hp⟩
      rw [h x hx] at hp
      cases hp
  | some i =>
    obtain ⟨hi, hp, _⟩ := List.findIdx?_eq_some_iff_getElem.1 h
    simp only [List.any_eq_true]
    exact ⟨fun _ => ⟨_, List.getElem_mem hi, hp⟩, fun _ => by show (0 : Int) ≤ ((i : Nat) : Int); omega⟩
set_option maxHeartbeats 2000000 in
theorem indexFunc_exs (l : List Ex) (p : Ex → Bool) (a : Option Addr) (cap g : Nat) (caps : Array Value) (eg : ∀ args w, (callFunc g args).run Tryd.prog w = .ok (.enter g args) w) (w : World) (hlen : l.length ≤ maxLen) (hl : Ex.Row w l a)
    (hp : ∀ (i : Nat) (h : i < l.length) (v : Value) (W : World), Below w.heap.size w W → Ex.Val W l[i] v → Calls Tryd.prog g (#[v] ++ caps) W fun e w' => e = .returned (.bool (p l[i])) ∧ Below W.heap.size W w') :
    Calls Tryd.prog 88 #[.slice a l.length cap, .func (.func g) #[] caps] w fun e w' => e = .returned (.int .i64 (idxL l p)) ∧ Below w.heap.size w w' := by
  have hlen : l.length ≤ 9223372036854775807 := hlen
  have HL := hide hl
  have HP := hide hp
  clear hl hp
  go_enter Tryd.func88, Tryd.ntmps88
  go_wp2
  go_loopw [5, 8] (fun _ i wr => ∃ k : Nat, k ≤ l.length ∧ i = .int .i64 k ∧ Hid (∀ v ∈ l.take k, p v = false) ∧ Below w.heap.size w wr) (fun _ i _ => l.length - (intOf i).toNat)
  case atStart => exact ⟨0, Nat.zero_le _, rfl, by simp [Hid], bl _⟩
  case round =>
    obtain ⟨k, hk, rfl, hn, hb⟩ := hrel
    by_cases hlt : k < l.length
    · obtain ⟨b, o, rfl⟩ := HL.out.addr (by omega)
      obtain ⟨a', cap', c0, c1, c2, c3, c4, hw', hr'⟩ := ((HL.out.get k hlt).keep hb (Nat.le_refl _)).val
      have h1 := HP.out k hlt _ wr hb (Ex.Val.mk hw' hr')
      clear hw' hr'
      cases hq : p l[k]
      all_goals
        simp only [hq] at h1
        have HQ := hide hq
        have H1 := hide h1
        clear hq h1
      · go_wp2_with (go_at_fn g; refine H1.out.mono ?_; rintro e w1 ⟨rfl, hb1⟩)
        go_roundw
        case rel =>
          refine ⟨k + 1, by omega, by go_num, ?_, hb.tr hb1⟩
          intro v hv
          rw [List.take_succ_eq_append_getElem hlt, List.mem_append, List.mem_singleton] at hv
          rcases hv with hv | rfl
          · exact hn v hv
          · exact HQ
        case measure => simp [intOf]; omega
      · go_wp2_with (go_at_fn g; refine H1.out.mono ?_; rintro e w1 ⟨rfl, hb1⟩)
        go_ret
        refine ⟨ret_int ?_, hb.tr hb1⟩
        have h2 : l.findIdx? p = some k := by
          rw [List.findIdx?_eq_some_iff_getElem]
          refine ⟨hlt, HQ.out, fun j hj => ?_⟩
          have := hn l[j] (List.mem_take_iff_getElem.2 ⟨j, by omega, rfl⟩)
          simp [this]
        simp [idxL, h2]
    · obtain rfl : k = l.length := by omega
      go_wp2
      go_ret
      refine ⟨ret_int ?_, hb⟩
      have h2 : l.findIdx? p = none := by
        rw [List.findIdx?_eq_none_iff]
        intro v hv
        exact hn v (by simpa using hv)
      simp [idxL, h2]
set_option maxHeartbeats 1000000 in
theorem containsFunc_exs (l : List Ex) (p : Ex → Bool) (a : Option Addr) (cap g : Nat) (caps : Array Value) (eg : ∀ args w, (callFunc g args).run Tryd.prog w = .ok (.enter g args) w) (w : World) (hlen : l.length ≤ maxLen) (hl : Ex.Row w l a)
    (hp : ∀ (i : Nat) (h : i < l.length) (v : Value) (W : World), Below w.heap.size w W → Ex.Val W l[i] v → Calls Tryd.prog g (#[v] ++ caps) W fun e w' => e = .returned (.bool (p l[i])) ∧ Below W.heap.size W w') (r : Bool) (hr : l.any p = r) :
    Calls Tryd.prog 78 #[.slice a l.length cap, .func (.func g) #[] caps] w fun e w' => e = .returned (.bool r) ∧ Below w.heap.size w w' := by
  have h1 := indexFunc_exs l p a cap g caps eg w hlen hl hp
  clear hl hp hlen
  have H1 := hide h1
  have HI := hide ((idxL_nonneg l p).trans (by rw [hr]))
  clear hr h1 eg
  generalize idxL l p = i at *
  go_enter Tryd.func78, Tryd.ntmps78
  go_wp2_with fail
  refine H1.out.mono ?_
  rintro e w1 ⟨rfl, hb⟩
  go_wp2_with fail
  go_ret
  refine ⟨ret_bool ?_, hb⟩
  have := HI.out
  rw [Bool.eq_iff_iff, ← this]
  simp
set_option maxHeartbeats 2000000 in
theorem indexFunc_pms (l : List Pm) (p : Pm → Bool) (a : Option Addr) (cap g : Nat) (caps : Array Value) (eg : ∀ args w, (callFunc g args).run Tryd.prog w = .ok (.enter g args) w) (w : World) (hl : Pms w l a cap)
    (hp : ∀ (i : Nat) (h : i < l.length) (W : World), Below w.heap.size w W → Calls Tryd.prog g (#[.agg #[.string ⟨l[i].name.toArray⟩, .int .i64 l[i].typ]] ++ caps) W fun e w' => e = .returned (.bool (p l[i])) ∧ Below W.heap.size W w') :
    Calls Tryd.prog 63 #[.slice a l.length cap, .func (.func g) #[] caps] w fun e w' => e = .returned (.int .i64 (idxL l p)) ∧ Below w.heap.size w w' := by
  have hlen : l.length ≤ 9223372036854775807 := Nat.le_trans hl.len hl.cap
  have HL := hide hl
  have HP := hide hp
  clear hl hp
  go_enter Tryd.func63, Tryd.ntmps63
  go_wp2
  go_loopw [5, 8] (fun _ i wr => ∃ k : Nat, k ≤ l.length ∧ i = .int .i64 k ∧ Hid (∀ v ∈ l.take k, p v = false) ∧ Below w.heap.size w wr) (fun _ i _ => l.length - (intOf i).toNat)
  case atStart => exact ⟨0, Nat.zero_le _, rfl, by simp [Hid], bl _⟩
  case round =>
    obtain ⟨k, hk, rfl, hn, hb⟩ := hrel
    by_cases hlt : k < l.length
    · obtain ⟨b, o, rfl⟩ := HL.out.addr (by omega)
      obtain ⟨c0, c1⟩ := HL.out.at_ b o rfl k hlt
      have c0 := cell_keep c0 hb (Nat.le_refl _)
      have c1 := cell_keep c1 hb (Nat.le_refl _)
      have h1 := HP.out k hlt wr hb
      cases hq : p l[k]
      all_goals
        simp only [hq] at h1
        have HQ := hide hq
        have H1 := hide h1
        clear hq h1
      · go_wp2_with (go_at_fn g; refine H1.out.mono ?_; rintro e w1 ⟨rfl, hb1⟩)
        go_roundw
        case rel =>
          refine ⟨k + 1, by omega, by go_num, ?_, hb.tr hb1⟩
          intro v hv
          rw [List.take_succ_eq_append_getElem hlt, List.mem_append, List.mem_singleton] at hv
          rcases hv with hv | rfl
          · exact hn v hv
          · exact HQ
        case measure => simp [intOf]; omega
      · go_wp2_with (go_at_fn g; refine H1.out.mono ?_; rintro e w1 ⟨rfl, hb1⟩)
        go_ret
        refine ⟨ret_int ?_, hb.tr hb1⟩
        have h2 : l.findIdx? p = some k := by
          rw [List.findIdx?_eq_some_iff_getElem]
          refine ⟨hlt, HQ.out, fun j hj => ?_⟩
          have := hn l[j] (List.mem_take_iff_getElem.2 ⟨j, by omega, rfl⟩)
          simp [this]
        simp [idxL, h2]
    · obtain rfl : k = l.length := by omega
      go_wp2
      go_ret
      refine ⟨ret_int ?_, hb⟩
      have h2 : l.findIdx? p = none := by
        rw [List.findIdx?_eq_none_iff]
        intro v hv
        exact hn v (by simpa using hv)
      simp [idxL, h2]
set_option maxHeartbeats 1000000 in
theorem containsFunc_pms (l : List Pm) (p : Pm → Bool) (a : Option Addr) (cap g : Nat) (caps : Array Value) (eg : ∀ args w, (callFunc g args).run Tryd.prog w = .ok (.enter g args) w) (w : World) (hl : Pms w l a cap)
    (hp : ∀ (i : Nat) (h : i < l.length) (W : World), Below w.heap.size w W → Calls Tryd.prog g (#[.agg #[.string ⟨l[i].name.toArray⟩, .int .i64 l[i].typ]] ++ caps) W fun e w' => e = .returned (.bool (p l[i])) ∧ Below W.heap.size W w') (r : Bool) (hr : l.any p = r) :
    Calls Tryd.prog 52 #[.slice a l.length cap, .func (.func g) #[] caps] w fun e w' => e = .returned (.bool r) ∧ Below w.heap.size w w' := by
  have h1 := indexFunc_pms l p a cap g caps eg w hl hp
  clear hl hp
  have H1 := hide h1
  have HI := hide ((idxL_nonneg l p).trans (by rw [hr]))
  clear hr h1 eg
  generalize idxL l p = i at *
  go_enter Tryd.func52, Tryd.ntmps52
  go_wp2_with fail
  refine H1.out.mono ?_
  rintro e w1 ⟨rfl, hb⟩
  go_wp2_with fail
  go_ret
  refine ⟨ret_bool ?_, hb⟩
  have := HI.out
  rw [Bool.eq_iff_iff, ← this]
  simp
end Go.Proofs.YtccgpmncpemmdaaDoor
