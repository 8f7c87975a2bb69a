/- signs.Call, and the document's Find and Call. -/
import Derived.Test.YtnkmbddjekepkaaDoorSgE
namespace Go.Proofs.YtnkmbddjekepkaaDoor
open Go Go.RowKit
set_option linter.unusedSimpArgs false
set_option linter.unusedVariables false
set_option linter.unnecessarySimpa false
set_option maxHeartbeats 1000000 in
theorem refFind12_any (l : List Sg) (n : Bytes) (a : Option Addr) (cap : Nat) (w : World) (hl : Sgs w l a cap) :
    Calls Tryd.prog 11 #[.slice a l.length cap, .string ⟨n.toArray⟩] w (FoundPost (findSg l n) w) := by
  have hlen : l.length ≤ 9223372036854775807 := Nat.le_trans hl.len hl.cap
  have HL := hide hl
  clear hl
  go_enter Tryd.func11, Tryd.ntmps11
  go_wp2_with fail
  go_loopw [6] (fun i wr => ∃ k : Nat, k ≤ l.length ∧ i = .int .i64 k ∧ Hid (∀ v ∈ l.take k, (v.name == n) = false) ∧ wr = w.alloc (.cells #[.string ⟨#[]⟩, .slice none 0 0, .int .i64 0] 32)) (fun i _ => l.length - (intOf i).toNat)
  case atStart => exact ⟨0, Nat.zero_le _, rfl, by simp [Hid], rfl⟩
  case round =>
    obtain ⟨k, hk, rfl, hn, rfl⟩ := hrel
    by_cases hlt : k < l.length
    · obtain ⟨b, o, rfl⟩ := HL.out.addr (by omega)
      obtain ⟨pa, pc, c0, c1, c2, hi⟩ := HL.out.at_ b o rfl k hlt
      have hbl := cell_lt c0
      simp only at hbl
      have HI := hide hi
      clear hi
      cases hq : l[k].name == n
      · have HP : Hid ((l[k].name == n) = false) := hide hq
        go_wp2_with fail
        go_roundw
        case rel => exact ⟨k + 1, by omega, by go_num, take_no12 hlt hn HP.out, trivial⟩
        case measure => simp [intOf]; omega
      · have HE := hide (idxSg_some hlt hq hn.out).2
        clear hn
        go_wp2_with fail
        refine bodyPost_ret (v := .tuple #[.agg #[.string ⟨l[k].name.toArray⟩, .slice pa l[k].pars.length pc, .int .i64 l[k].res], .bool true]) (by simp [results, Tryd.results11, go_sem]) rfl ⟨⟨_, by rw [HE.out]; rfl, ?_⟩, (bl w).al _⟩
        rw [HE.out]
        exact ⟨pa, pc, rfl, HI.out.keep ((bl w).al _) (Nat.le_refl _)⟩
    · obtain rfl : k = l.length := by omega
      have HE := hide (idxSg_none (l := l) (n := n) (by have := hn.out; rwa [List.take_length] at this)).2
      go_wp2_with fail
      refine bodyPost_ret (v := .tuple #[.agg #[.string ⟨#[]⟩, .slice none 0 0, .int .i64 0], .bool false]) (by simp [results, Tryd.results11, go_sem]) rfl ⟨⟨_, by rw [HE.out]; rfl, by rw [HE.out]; exact noSg_val _⟩, (bl w).al _⟩
set_option maxHeartbeats 2000000 in
theorem call12_any (l : List Sg) (n : Bytes) (args : List Int) (target : Int) (a b : Option Addr) (cap cb : Nat) (w : World) (hl : Sgs w l a cap) (hs : ∀ s ∈ l, s.pars.length ≤ 100000) (hb : Ints w args b cb) :
    Calls Tryd.prog 13 #[.slice a l.length cap, .string ⟨n.toArray⟩, .slice b args.length cb, .int .i64 target] w fun r w' => r = .returned (.int .i64 (callM l n args target)) ∧ Below w.heap.size w w' := by
  have h1 := hide fun (W : World) (hW : Below w.heap.size w W) => find12_any l n a cap W (hl.keep hW (Nat.le_refl _)) hs
  have ha := hide hb
  clear hl hs hb
  cases ho : findSg l n with
  | none =>
    have HE : Hid (callM l n args target = 11) := hide (by simp [callM, ho])
    rw [ho] at h1
    clear ho
    go_enter Tryd.func13, Tryd.ntmps13
    go_wp2_with fail
    refine (h1.out _ (bl w)).mono ?_
    rintro r w1 ⟨⟨v, rfl, ⟨pa, pc, rfl, hi⟩⟩, hb1⟩
    have HI := hide hi
    have hai := hide (ha.out.keep hb1 (Nat.le_refl _))
    clear hi
    have hB := hb1
    go_wp2_with fail
    go_ret
    exact ⟨ret_int HE.out.symm, hB.al _⟩
  | some s =>
    rw [ho] at h1
    cases q2 : decide (s.pars = args)
    · have HE : Hid (callM l n args target = 12) := hide (by simp only [callM, ho]; rw [if_pos (.inl (by simpa using q2))])
      clear ho
      go_enter Tryd.func13, Tryd.ntmps13
      go_wp2_with fail
      refine (h1.out _ (bl w)).mono ?_
      rintro r w1 ⟨⟨v, rfl, ⟨pa, pc, rfl, hi⟩⟩, hb1⟩
      have HI := hide hi
      have hai := hide (ha.out.keep hb1 (Nat.le_refl _))
      clear hi
      have hB := hb1
      go_wp2_with fail
      refine (equalInts_any s.pars args pa b pc cb _ (HI.out.keep ((bl w1).al _) (Nat.le_refl _)) (hai.out.keep ((bl w1).al _) (Nat.le_refl _))).mono ?_
      rintro r w2 ⟨rfl, nq, rfl⟩
      rw [q2]
      go_wp2_with fail
      go_ret
      exact ⟨ret_int HE.out.symm, below_dq (hB.al _) _⟩
    cases q3 : target == 0
    · have g3 : (target != 0) = true := bne_no' q3
      cases q4 : target == s.res
      · have g4 : (target != s.res) = true := bne_no' q4
        have HE : Hid (callM l n args target = 12) := hide (by simp only [callM, ho]; rw [if_pos (.inr ⟨by simpa using q3, by simpa using q4⟩)])
        clear ho q3 q4
        go_enter Tryd.func13, Tryd.ntmps13
        go_wp2_with fail
        refine (h1.out _ (bl w)).mono ?_
        rintro r w1 ⟨⟨v, rfl, ⟨pa, pc, rfl, hi⟩⟩, hb1⟩
        have HI := hide hi
        have hai := hide (ha.out.keep hb1 (Nat.le_refl _))
        clear hi
        have hB := hb1
        go_wp2_with fail
        refine (equalInts_any s.pars args pa b pc cb _ (HI.out.keep ((bl w1).al _) (Nat.le_refl _)) (hai.out.keep ((bl w1).al _) (Nat.le_refl _))).mono ?_
        rintro r w2 ⟨rfl, nq, rfl⟩
        rw [q2]
        go_wp2_with fail
        go_ret
        exact ⟨ret_int HE.out.symm, below_dq (hB.al _) _⟩
      · have g4 : (target != s.res) = false := bne_yes' q4
        have HE : Hid (callM l n args target = 0) := hide (by simp only [callM, ho]; rw [if_neg (fun h => h.elim (fun h => h (by simpa using q2)) (fun h => h.2 (by simpa using q4)))])
        clear ho q3 q4
        go_enter Tryd.func13, Tryd.ntmps13
        go_wp2_with fail
        refine (h1.out _ (bl w)).mono ?_
        rintro r w1 ⟨⟨v, rfl, ⟨pa, pc, rfl, hi⟩⟩, hb1⟩
        have HI := hide hi
        have hai := hide (ha.out.keep hb1 (Nat.le_refl _))
        clear hi
        have hB := hb1
        go_wp2_with fail
        refine (equalInts_any s.pars args pa b pc cb _ (HI.out.keep ((bl w1).al _) (Nat.le_refl _)) (hai.out.keep ((bl w1).al _) (Nat.le_refl _))).mono ?_
        rintro r w2 ⟨rfl, nq, rfl⟩
        rw [q2]
        go_wp2_with fail
        go_ret
        exact ⟨ret_int HE.out.symm, below_dq (hB.al _) _⟩
    · have g3 : (target != 0) = false := bne_yes' q3
      have HE : Hid (callM l n args target = 0) := hide (by simp only [callM, ho]; rw [if_neg (fun h => h.elim (fun h => h (by simpa using q2)) (fun h => h.1 (by simpa using q3)))])
      clear ho q3
      go_enter Tryd.func13, Tryd.ntmps13
      go_wp2_with fail
      refine (h1.out _ (bl w)).mono ?_
      rintro r w1 ⟨⟨v, rfl, ⟨pa, pc, rfl, hi⟩⟩, hb1⟩
      have HI := hide hi
      have hai := hide (ha.out.keep hb1 (Nat.le_refl _))
      clear hi
      have hB := hb1
      go_wp2_with fail
      refine (equalInts_any s.pars args pa b pc cb _ (HI.out.keep ((bl w1).al _) (Nat.le_refl _)) (hai.out.keep ((bl w1).al _) (Nat.le_refl _))).mono ?_
      rintro r w2 ⟨rfl, nq, rfl⟩
      rw [q2]
      go_wp2_with fail
      go_ret
      exact ⟨ret_int HE.out.symm, below_dq (hB.al _) _⟩
set_option maxHeartbeats 2000000 in
theorem refCall12_any (l : List Sg) (n : Bytes) (args : List Int) (target : Int) (a b : Option Addr) (cap cb : Nat) (w : World) (hl : Sgs w l a cap) (hs : ∀ s ∈ l, s.pars.length ≤ 100000) (hb : Ints w args b cb) :
    Calls Tryd.prog 14 #[.slice a l.length cap, .string ⟨n.toArray⟩, .slice b args.length cb, .int .i64 target] w fun r w' => r = .returned (.int .i64 (callM l n args target)) ∧ Below w.heap.size w w' := by
  have h1 := hide fun (W : World) (hW : Below w.heap.size w W) => refFind12_any l n a cap W (hl.keep hW (Nat.le_refl _))
  have ha := hide hb
  clear hl hs hb
  cases ho : findSg l n with
  | none =>
    have HE : Hid (callM l n args target = 11) := hide (by simp [callM, ho])
    rw [ho] at h1
    clear ho
    go_enter Tryd.func14, Tryd.ntmps14
    go_wp2_with fail
    refine (h1.out _ (bl w)).mono ?_
    rintro r w1 ⟨⟨v, rfl, ⟨pa, pc, rfl, hi⟩⟩, hb1⟩
    have HI := hide hi
    have hai := hide (ha.out.keep hb1 (Nat.le_refl _))
    clear hi
    have hB := hb1
    go_wp2_with fail
    go_ret
    exact ⟨ret_int HE.out.symm, hB.al _⟩
  | some s =>
    rw [ho] at h1
    cases q2 : decide (s.pars = args)
    · have HE : Hid (callM l n args target = 12) := hide (by simp only [callM, ho]; rw [if_pos (.inl (by simpa using q2))])
      clear ho
      go_enter Tryd.func14, Tryd.ntmps14
      go_wp2_with fail
      refine (h1.out _ (bl w)).mono ?_
      rintro r w1 ⟨⟨v, rfl, ⟨pa, pc, rfl, hi⟩⟩, hb1⟩
      have HI := hide hi
      have hai := hide (ha.out.keep hb1 (Nat.le_refl _))
      clear hi
      have hB := hb1
      go_wp2_with fail
      refine (refInts_any s.pars args pa b pc cb _ (HI.out.keep ((bl w1).al _) (Nat.le_refl _)) (hai.out.keep ((bl w1).al _) (Nat.le_refl _))).mono ?_
      rintro r w2 ⟨rfl, nq, rfl⟩
      rw [q2]
      go_wp2_with fail
      go_ret
      exact ⟨ret_int HE.out.symm, below_dq (hB.al _) _⟩
    cases q3 : target == 0
    · have g3 : (target != 0) = true := bne_no' q3
      cases q4 : target == s.res
      · have g4 : (target != s.res) = true := bne_no' q4
        have HE : Hid (callM l n args target = 12) := hide (by simp only [callM, ho]; rw [if_pos (.inr ⟨by simpa using q3, by simpa using q4⟩)])
        clear ho q3 q4
        go_enter Tryd.func14, Tryd.ntmps14
        go_wp2_with fail
        refine (h1.out _ (bl w)).mono ?_
        rintro r w1 ⟨⟨v, rfl, ⟨pa, pc, rfl, hi⟩⟩, hb1⟩
        have HI := hide hi
        have hai := hide (ha.out.keep hb1 (Nat.le_refl _))
        clear hi
        have hB := hb1
        go_wp2_with fail
        refine (refInts_any s.pars args pa b pc cb _ (HI.out.keep ((bl w1).al _) (Nat.le_refl _)) (hai.out.keep ((bl w1).al _) (Nat.le_refl _))).mono ?_
        rintro r w2 ⟨rfl, nq, rfl⟩
        rw [q2]
        go_wp2_with fail
        go_ret
        exact ⟨ret_int HE.out.symm, below_dq (hB.al _) _⟩
      · have g4 : (target != s.res) = false := bne_yes' q4
        have HE : Hid (callM l n args target = 0) := hide (by simp only [callM, ho]; rw [if_neg (fun h => h.elim (fun h => h (by simpa using q2)) (fun h => h.2 (by simpa using q4)))])
        clear ho q3 q4
        go_enter Tryd.func14, Tryd.ntmps14
        go_wp2_with fail
        refine (h1.out _ (bl w)).mono ?_
        rintro r w1 ⟨⟨v, rfl, ⟨pa, pc, rfl, hi⟩⟩, hb1⟩
        have HI := hide hi
        have hai := hide (ha.out.keep hb1 (Nat.le_refl _))
        clear hi
        have hB := hb1
        go_wp2_with fail
        refine (refInts_any s.pars args pa b pc cb _ (HI.out.keep ((bl w1).al _) (Nat.le_refl _)) (hai.out.keep ((bl w1).al _) (Nat.le_refl _))).mono ?_
        rintro r w2 ⟨rfl, nq, rfl⟩
        rw [q2]
        go_wp2_with fail
        go_ret
        exact ⟨ret_int HE.out.symm, below_dq (hB.al _) _⟩
    · have g3 : (target != 0) = false := bne_yes' q3
      have HE : Hid (callM l n args target = 0) := hide (by simp only [callM, ho]; rw [if_neg (fun h => h.elim (fun h => h (by simpa using q2)) (fun h => h.1 (by simpa using q3)))])
      clear ho q3
      go_enter Tryd.func14, Tryd.ntmps14
      go_wp2_with fail
      refine (h1.out _ (bl w)).mono ?_
      rintro r w1 ⟨⟨v, rfl, ⟨pa, pc, rfl, hi⟩⟩, hb1⟩
      have HI := hide hi
      have hai := hide (ha.out.keep hb1 (Nat.le_refl _))
      clear hi
      have hB := hb1
      go_wp2_with fail
      refine (refInts_any s.pars args pa b pc cb _ (HI.out.keep ((bl w1).al _) (Nat.le_refl _)) (hai.out.keep ((bl w1).al _) (Nat.le_refl _))).mono ?_
      rintro r w2 ⟨rfl, nq, rfl⟩
      rw [q2]
      go_wp2_with fail
      go_ret
      exact ⟨ret_int HE.out.symm, below_dq (hB.al _) _⟩
end Go.Proofs.YtnkmbddjekepkaaDoor
