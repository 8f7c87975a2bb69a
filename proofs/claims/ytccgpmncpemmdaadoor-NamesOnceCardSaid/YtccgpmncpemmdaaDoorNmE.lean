/- names.In, and what the document says of lists of variables: In, Find, Seen; equal lists of numbers. -/
import Derived.Test.YtccgpmncpemmdaaDoorNmB
import Derived.Test.YtccgpmncpemmdaaDoorIn
namespace Go.Proofs.YtccgpmncpemmdaaDoor
open Go Go.RowKit
set_option linter.unusedSimpArgs false
set_option linter.unusedVariables false
set_option linter.unnecessarySimpa false
/-- The places, from i on, of the variables in scope at a point. -/
def insG (p : Int) : List Vr → Nat → List Int
  | [], _ => []
  | v :: vs, i => if v.sees p then (i : Int) :: insG p vs (i + 1) else insG p vs (i + 1)
def insM (l : List Vr) (p : Int) : List Int := insG p l 0
theorem insG_app (p : Int) : ∀ (a b : List Vr) (i : Nat), insG p (a ++ b) i = insG p a i ++ insG p b (i + a.length)
  | [], b, i => by simp [insG]
  | v :: a, b, i => by
    rw [List.cons_append, insG, insG, insG_app p a b (i + 1), List.length_cons, Nat.add_right_comm i 1, Nat.add_assoc i a.length 1]
    split <;> rfl
theorem insG_len (p : Int) : ∀ (a : List Vr) (i : Nat), (insG p a i).length ≤ a.length
  | [], _ => by simp [insG]
  | v :: a, i => by
    rw [insG]
    have := insG_len p a (i + 1)
    split <;> simp <;> omega
theorem insM_yes {l : List Vr} {p : Int} {k : Nat} (h : k < l.length) (hs : l[k].sees p = true) : insM (l.take (k + 1)) p = insM (l.take k) p ++ [(k : Int)] := by
  rw [insM, List.take_succ_eq_append_getElem h, insG_app, List.length_take, Nat.min_eq_left (by omega)]
  simp [insG, hs, insM]
theorem insM_no {l : List Vr} {p : Int} {k : Nat} (h : k < l.length) (hs : l[k].sees p = false) : insM (l.take (k + 1)) p = insM (l.take k) p := by
  rw [insM, List.take_succ_eq_append_getElem h, insG_app, List.length_take, Nat.min_eq_left (by omega)]
  simp [insG, hs, insM]
theorem insM_len (l : List Vr) (p : Int) : (insM l p).length ≤ l.length := insG_len p l 0
def InPost (l : List Int) (w : World) (e : Ending) (w' : World) : Prop := (∃ a cap, e = .returned (.slice a l.length cap) ∧ Ints w' l a cap) ∧ Below w.heap.size w w'
set_option maxRecDepth 20000 in
set_option maxHeartbeats 2000000 in
theorem in_any (l : List Vr) (a : Option Addr) (cap : Nat) (p : Int) (w : World) (hl : Vrs w l a cap) (hn : l.length ≤ 100000) :
    Calls Tryd.prog 16 #[.slice a l.length cap, .int .i64 p] w (InPost (insM l p) w) := by
  have HL := hide hl
  obtain ⟨i0, hi, hz0, hz1, hz2⟩ := info_parts info_in
  clear hl
  go_enter Tryd.func16, Tryd.ntmps16
  go_wp2
  go_loopw [5, 10] (fun sv i wr => ∃ (k : Nat) (va : Option Addr) (vc : Nat), k ≤ l.length ∧ i = .int .i64 k ∧ sv = .slice va (insM (l.take k) p).length vc ∧ Hid (OwnL wr w.heap.size 3 1 InC [] (.slice va (insM (l.take k) p).length vc) (insM (l.take k) p)) ∧ Hid (Below w.heap.size w wr)) (fun _ i _ => l.length - (intOf i).toNat)
  case atStart => exact ⟨0, none, 0, Nat.zero_le _, rfl, rfl, hide (OwnL.nil _ _ _ _ _ _), bl _⟩
  case round =>
    obtain ⟨k, va, vc, hk, rfl, rfl, HO, HB⟩ := hrel
    by_cases hlt : k < l.length
    · obtain ⟨b, o, rfl⟩ := HL.out.addr (by omega)
      obtain ⟨c0, c1, c2, c3, c4⟩ := (HL.out.at_ b o rfl k hlt).keep HB.out (Nat.le_refl _)
      have hbl := cell_lt c0
      simp only at hbl
      have HS := hide fun W => sees_any l[k] p W
      simp only [Vr.val] at HS
      cases hq : l[k].sees p
      all_goals
        rw [hq] at HS
        have HQ := hide hq
        clear hq
      · go_wp2_with (go_at_call 29; refine (HS.out _).mono ?_; rintro r w1 ⟨rfl, hb⟩)
        go_roundw
        case rel =>
          have hb2 := ((bl wr).al _).tr hb
          refine ⟨k + 1, va, vc, by omega, by go_num, by rw [insM_no hlt HQ.out], hide ?_, HB.out.tr hb2⟩
          rw [insM_no hlt HQ.out]
          exact HO.out.below InC.mono hb2
        case measure => simp [intOf]; omega
      · have hil := insM_len (l.take k) p
        rw [List.length_take, Nat.min_eq_left (by omega)] at hil
        have HMA : Hid ((insM (l.take k) p).length + 1 ≤ maxLen) := hide (by unfold maxLen; omega)
        have HMB : Hid (((insM (l.take k) p).length + 1) * 8 ≤ 140737488355328) := hide (by omega)
        have HLEN : Hid ((insM (l.take k) p ++ [(k : Int)]).length = (insM (l.take (k + 1)) p).length) := hide (by rw [insM_yes hlt HQ.out])
        have HTK : Hid (insM (l.take (k + 1)) p = insM (l.take k) p ++ [(k : Int)]) := hide (insM_yes hlt HQ.out)
        go_wp2_with (first | (go_at_call 29; refine (HS.out _).mono ?_; rintro r w1 ⟨rfl, hb⟩; have hb2 := ((bl wr).al _).tr hb; have HO2 := hide ((HO.out.below InC.mono hb2).al InC.mono (.cells #[.int .i64 (k : Int)] 3)); have HB2 := hide (HB.out.tr hb2); have HSZ : Hid (w.heap.size ≤ (w1.alloc (.cells #[.int .i64 (k : Int)] 3)).heap.size) := hide (by have := HB2.out.size; simp; omega); have HNW := hide (news_row w1 [.int .i64 (k : Int)] 3 w1.heap.size rfl); clear hb hb2) | (at_builtin; refine wpList_push _ rfl _ _ 32 rfl w.heap.size 3 i0 _ 1 8 Tryd.underlying32 hi hz0 hz1 hz2 rfl (by decide) InC InC.mono [] _ _ rfl HO2.out ⟨w1.heap.size, 0, none⟩ 1 [.int .i64 (k : Int)] (k : Int) rfl rfl HNW.out (by simp [Value.oneCell']) rfl HMA.out HMB.out HSZ.out ?_; intro v2 w2 hown2 hgrow2; obtain ⟨va2, vc2, he2, -, -⟩ := hown2.slice; rw [HLEN.out] at he2; subst he2))
        go_roundw
        case rel =>
          refine ⟨k + 1, va2, vc2, by omega, by go_num, rfl, hide (by rw [← HTK.out] at hown2; exact hown2), (HB2.out.al (.cells #[.int .i64 (k : Int)] 3)).grown hgrow2 HSZ.out (fun g hg => (HO2.out.lt g hg).1)⟩
        case measure => simp [intOf]; omega
    · obtain rfl : k = l.length := by omega
      have HE : Hid (∃ a cap, Value.slice va (insM (l.take l.length) p).length vc = .slice a (insM l p).length cap ∧ Ints wr (insM l p) a cap) := hide (by
        have ho := HO.out
        rw [List.take_length] at ho ⊢
        obtain ⟨a, cap, he, hi⟩ := ho.ints (by simp)
        exact ⟨a, cap, he, hi.has has_av⟩)
      clear HO
      go_wp2
      go_ret
      obtain ⟨a', cap', he, hi⟩ := HE.out
      exact ⟨⟨a', cap', congrArg Ending.returned he, hi⟩, HB.out⟩
set_option maxRecDepth 20000 in
set_option maxHeartbeats 2000000 in
theorem refIn_any (l : List Vr) (a : Option Addr) (cap : Nat) (p : Int) (w : World) (hl : Vrs w l a cap) (hn : l.length ≤ 100000) :
    Calls Tryd.prog 17 #[.slice a l.length cap, .int .i64 p] w (InPost (insM l p) w) := by
  have HL := hide hl
  obtain ⟨i0, hi, hz0, hz1, hz2⟩ := info_parts info_in
  clear hl
  go_enter Tryd.func17, Tryd.ntmps17
  go_wp2
  go_loopw [5, 6] (fun sv i wr => ∃ (k : Nat) (va : Option Addr) (vc : Nat), k ≤ l.length ∧ i = .int .i64 k ∧ sv = .slice va (insM (l.take k) p).length vc ∧ Hid (OwnL wr w.heap.size 3 1 InC [] (.slice va (insM (l.take k) p).length vc) (insM (l.take k) p)) ∧ Hid (Below w.heap.size w wr)) (fun _ i _ => l.length - (intOf i).toNat)
  case atStart => exact ⟨0, none, 0, Nat.zero_le _, rfl, rfl, hide (OwnL.nil _ _ _ _ _ _), bl _⟩
  case round =>
    obtain ⟨k, va, vc, hk, rfl, rfl, HO, HB⟩ := hrel
    by_cases hlt : k < l.length
    · obtain ⟨b, o, rfl⟩ := HL.out.addr (by omega)
      obtain ⟨c0, c1, c2, c3, c4⟩ := (HL.out.at_ b o rfl k hlt).keep HB.out (Nat.le_refl _)
      have hbl := cell_lt c0
      simp only at hbl
      obtain ⟨t1, hq1⟩ : ∃ t, decide (l[k].frm ≤ p) = t := ⟨_, rfl⟩
      obtain ⟨t2, hq2⟩ : ∃ t, decide (p < l[k].til) = t := ⟨_, rfl⟩
      have hq : l[k].sees p = (t1 && t2) := by rw [Vr.sees, hq1, hq2]
      have HQ := hide hq
      clear hq
      cases t1 <;> cases t2 <;> (simp only [decide_eq_true_eq, decide_eq_false_iff_not] at hq1 hq2)
      · go_wp2
        go_roundw
        case rel => exact ⟨k + 1, va, vc, by omega, by go_num, by rw [insM_no hlt HQ.out], hide (by rw [insM_no hlt HQ.out]; exact HO.out), HB.out⟩
        case measure => simp [intOf]; omega
      · go_wp2
        go_roundw
        case rel => exact ⟨k + 1, va, vc, by omega, by go_num, by rw [insM_no hlt HQ.out], hide (by rw [insM_no hlt HQ.out]; exact HO.out), HB.out⟩
        case measure => simp [intOf]; omega
      · go_wp2
        go_roundw
        case rel => exact ⟨k + 1, va, vc, by omega, by go_num, by rw [insM_no hlt HQ.out], hide (by rw [insM_no hlt HQ.out]; exact HO.out), HB.out⟩
        case measure => simp [intOf]; omega
      · have hil := insM_len (l.take k) p
        rw [List.length_take, Nat.min_eq_left (by omega)] at hil
        have HMA : Hid ((insM (l.take k) p).length + 1 ≤ maxLen) := hide (by unfold maxLen; omega)
        have HMB : Hid (((insM (l.take k) p).length + 1) * 8 ≤ 140737488355328) := hide (by omega)
        have HLEN : Hid ((insM (l.take k) p ++ [(k : Int)]).length = (insM (l.take (k + 1)) p).length) := hide (by rw [insM_yes hlt HQ.out])
        have HTK : Hid (insM (l.take (k + 1)) p = insM (l.take k) p ++ [(k : Int)]) := hide (insM_yes hlt HQ.out)
        have HO2 := hide (HO.out.al InC.mono (.cells #[.int .i64 (k : Int)] 3))
        have HSZ : Hid (w.heap.size ≤ (wr.alloc (.cells #[.int .i64 (k : Int)] 3)).heap.size) := hide (by have := HB.out.size; simp; omega)
        have HNW := hide (news_row wr [.int .i64 (k : Int)] 3 wr.heap.size rfl)
        go_wp2_with (at_builtin; refine wpList_push _ rfl _ _ 32 rfl w.heap.size 3 i0 _ 1 8 Tryd.underlying32 hi hz0 hz1 hz2 rfl (by decide) InC InC.mono [] _ _ rfl HO2.out ⟨wr.heap.size, 0, none⟩ 1 [.int .i64 (k : Int)] (k : Int) rfl rfl HNW.out (by simp [Value.oneCell']) rfl HMA.out HMB.out HSZ.out ?_; intro v2 w2 hown2 hgrow2; obtain ⟨va2, vc2, he2, -, -⟩ := hown2.slice; rw [HLEN.out] at he2; subst he2)
        go_roundw
        case rel =>
          refine ⟨k + 1, va2, vc2, by omega, by go_num, rfl, hide (by rw [← HTK.out] at hown2; exact hown2), (HB.out.al (.cells #[.int .i64 (k : Int)] 3)).grown hgrow2 HSZ.out (fun g hg => (HO2.out.lt g hg).1)⟩
        case measure => simp [intOf]; omega
    · obtain rfl : k = l.length := by omega
      have HE : Hid (∃ a cap, Value.slice va (insM (l.take l.length) p).length vc = .slice a (insM l p).length cap ∧ Ints wr (insM l p) a cap) := hide (by
        have ho := HO.out
        rw [List.take_length] at ho ⊢
        obtain ⟨a, cap, he, hi⟩ := ho.ints (by simp)
        exact ⟨a, cap, he, hi.has has_av⟩)
      clear HO
      go_wp2
      go_ret
      obtain ⟨a', cap', he, hi⟩ := HE.out
      exact ⟨⟨a', cap', congrArg Ending.returned he, hi⟩, HB.out⟩
end Go.Proofs.YtccgpmncpemmdaaDoor
