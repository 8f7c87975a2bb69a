/- rewindref12.Text. -/
import Derived.Test.YtnkmbddjekepkaaDoorSgL
import Derived.Test.YtnkmbddjekepkaaDoorRefA
namespace Go.Proofs.YtnkmbddjekepkaaDoor
open Go Go.RowKit
set_option linter.unusedSimpArgs false
set_option linter.unusedVariables false
set_option linter.unnecessarySimpa false
/-- What the loop has written after some words. -/
def upToB (s : Sg) (k : Nat) : Bytes := s.name ++ [40] ++ joinB ((s.pars.take k).map wordB)
theorem upToB_succ {s : Sg} {k : Nat} (h : k < s.pars.length) : upToB s (k + 1) = (if k = 0 then upToB s 0 else upToB s k ++ [44, 32]) ++ wordB s.pars[k] := by
  unfold upToB
  rw [List.take_succ_eq_append_getElem h, List.map_append, List.map_singleton, joinB_snoc]
  by_cases h0 : k = 0
  · subst h0; simp [joinB]
  · have h1 : (s.pars.take k).map wordB ≠ [] := by
      intro e
      have := congrArg List.length e
      rw [List.length_map, List.length_take, List.length_nil] at this
      omega
    rw [if_neg h1, if_neg h0]
    simp
theorem wordB_len (t : Int) : (wordB t).length ≤ 5 := by
  unfold wordB
  split
  · decide
  · split
    · decide
    · split <;> decide
theorem upToB_len (s : Sg) : ∀ k, k ≤ s.pars.length → (upToB s k).length ≤ s.name.length + 1 + 7 * k
  | 0, _ => by simp [upToB, joinB]
  | k + 1, h => by
    have h1 := upToB_len s k (by omega)
    have h2 := wordB_len s.pars[k]
    rw [upToB_succ (by omega), List.length_append]
    split
    · rename_i h0; subst h0; omega
    · rw [List.length_append]; simp; omega
theorem textM_head {s : Sg} (h : headSg s = false) : textM s = [] := by unfold textM; rw [h]; rfl
theorem textM_bad {s : Sg} {k : Nat} (hk : k < s.pars.length) (h : typedB s.pars[k] = false) : textM s = [] := by
  unfold textM
  rw [if_neg]
  intro e
  simp only [Bool.and_eq_true, List.all_eq_true] at e
  rw [e.2 _ (List.getElem_mem hk)] at h
  cases h
theorem textM_good {s : Sg} (h : headSg s = true) (h2 : ∀ p ∈ s.pars, typedB p = true) : textM s = upToB s s.pars.length ++ [41] ++ (if s.res = 0 then [] else [32] ++ wordB s.res) := by
  unfold textM upToB
  rw [if_pos (by rw [h]; simpa using h2), List.take_length]
theorem str_app (a b : Bytes) : (⟨a.toArray⟩ : ByteArray) ++ ⟨b.toArray⟩ = ⟨(a ++ b).toArray⟩ := by
  apply ByteArray.ext
  simp
theorem ret_str' {a : ByteArray} {b : Bytes} (h : a = ⟨b.toArray⟩) : Ending.returned (.string a) = .returned (.string ⟨b.toArray⟩) := by rw [h]
set_option maxRecDepth 20000 in
set_option maxHeartbeats 4000000 in
theorem refText12_any (s : Sg) (v : Value) (w : World) (hv : s.Val w v) (hw : s.wf) :
    Calls Tryd.prog 16 #[v] w fun r w' => r = .returned (.string ⟨(textM s).toArray⟩) ∧ Below w.heap.size w w' := by
  obtain ⟨a, cap, rfl, hi⟩ := hv
  have HN := hide fun (W : World) => refName_any s.name W hw.1
  have HI := hide hi
  have hlen := hi.len
  have hcap := hi.cap
  have hnl := hw.1
  clear hi hw
  cases q1 : nameOk s.name
  · have HE := hide (textM_head (s := s) (by unfold headSg; rw [q1]; rfl))
    rw [q1] at HN
    clear q1
    go_enter Tryd.func16, Tryd.ntmps16
    go_wp2_with (go_at_call 33; refine (HN.out _).mono ?_; rintro r w1 ⟨rfl, hb1⟩; have hB1 := ((bl w).al _).tr hb1; obtain ⟨hc1, hf1⟩ := bcell hb1; clear hb1)
    go_ret
    exact ⟨by rw [HE.out]; rfl, hB1⟩
  rw [q1] at HN
  by_cases q2 : (8 : Int) < (s.pars.length : Int)
  · have HE := hide (textM_head (s := s) (by unfold headSg; rw [q1, decide_eq_false (by omega)]; rfl))
    clear q1
    go_enter Tryd.func16, Tryd.ntmps16
    go_wp2_with (go_at_call 33; refine (HN.out _).mono ?_; rintro r w1 ⟨rfl, hb1⟩; have hB1 := ((bl w).al _).tr hb1; obtain ⟨hc1, hf1⟩ := bcell hb1; clear hb1)
    go_ret
    exact ⟨by rw [HE.out]; rfl, hB1⟩
  have hle : s.pars.length ≤ 8 := by omega
  have q2d : decide ((8 : Int) < (s.pars.length : Int)) = false := decide_eq_false q2
  have hn16 : s.name.length ≤ 16 := by
    simp only [nameOk, Bool.and_eq_true, decide_eq_true_eq] at q1
    exact q1.1.1.1.2
  cases q3 : s.res == 0
  · have g3 := bne_no' q3
    cases q4 : typedB s.res
    · have HE := hide (textM_head (s := s) (by have h0 : decide (s.res = 0) = false := decide_eq_false (by simpa using q3); unfold headSg; rw [q4, h0]; simp))
      have g4 : (wordB s.res == []) = true := by rw [wordB_nil, q4]; rfl
      have hwe : wordB s.res = [] := by simpa using g4
      clear q1 q4 g4
      go_enter Tryd.func16, Tryd.ntmps16
      go_wp2_with (first | (go_at_call 33; refine (HN.out _).mono ?_; rintro r w1 ⟨rfl, hb1⟩; have hB1 := ((bl w).al _).tr hb1; obtain ⟨hc1, hf1⟩ := bcell hb1; clear hb1) | (go_at_call 34; refine (word12_any _ _).mono ?_; rw [hwe]; rintro r w2 ⟨rfl, rfl⟩))
      go_ret
      exact ⟨by rw [HE.out]; rfl, hB1⟩
    · have HH : Hid (headSg s = true) := hide (by unfold headSg; rw [q1, decide_eq_true hle, q4]; simp)
      have g4 : (wordB s.res == []) = false := by rw [wordB_nil, q4]; rfl
      have hwe4 : wordB s.res ≠ [] := by simpa using g4
      have hwl4 := wordB_len s.res
      clear q1 q4
      go_enter Tryd.func16, Tryd.ntmps16
      go_wp2_with (first | (go_at_call 33; refine (HN.out _).mono ?_; rintro r w1 ⟨rfl, hb1⟩; have hB1 := ((bl w).al _).tr hb1; obtain ⟨hc1, hf1⟩ := bcell hb1; clear hb1) | (go_at_call 34; refine (word12_any _ _).mono ?_; rintro r w2 ⟨rfl, hw2⟩; have hw2 := hw2.symm; subst hw2))
      go_loopw [3, 4] (fun sv i wr => ∃ k : Nat, k ≤ s.pars.length ∧ i = .int .i64 k ∧ sv = .string ⟨(upToB s k).toArray⟩ ∧ Hid (∀ j (h : j < s.pars.length), j < k → typedB s.pars[j] = true) ∧ wr = w1) (fun _ i _ => s.pars.length - (intOf i).toNat)
      case atStart => exact ⟨0, Nat.zero_le _, rfl, by rw [str_app]; simp [upToB, joinB], hide (fun _ _ h => absurd h (Nat.not_lt_zero _)), rfl⟩
      case round =>
        obtain ⟨k, hk, rfl, rfl, hn, rfl⟩ := hrel
        have hul := upToB_len s k hk
        by_cases hlt : k < s.pars.length
        · obtain ⟨b, o, rfl⟩ := HI.out.addr (by omega)
          have c0 := cell_keep (HI.out.at_ b o rfl k hlt) hB1 (Nat.le_refl _)
          have hbl := cell_lt c0
          simp only at hbl
          have hwl := wordB_len s.pars[k]
          cases q5 : typedB s.pars[k]
          · have HE := hide (textM_bad hlt q5)
            have hwe : wordB s.pars[k] = [] := by have := wordB_nil s.pars[k]; rw [q5] at this; simpa using this
            go_wp2_with (go_at_call 34; refine (word12_any _ _).mono ?_; rw [hwe]; rintro r w2 ⟨rfl, rfl⟩)
            go_ret
            exact ⟨by rw [HE.out]; rfl, hB1⟩
          · have g5 : (wordB s.pars[k] == []) = false := by rw [wordB_nil, q5]; rfl
            have hwe : wordB s.pars[k] ≠ [] := by simpa using g5
            have HS := hide (upToB_succ hlt)
            by_cases h0 : 0 < k
            · have h0' : (0 : Int) < (k : Int) := by omega
              go_wp2_with (go_at_call 34; refine (word12_any _ _).mono ?_; rintro r w2 ⟨rfl, rfl⟩)
              refine ⟨⟨k + 1, by omega, by go_num, ?_, hide fun j hj hjk => ?_, trivial⟩, by simp [intOf]; omega⟩
              · rw [show (⟨#[44, 32]⟩ : ByteArray) = ⟨([44, 32] : Bytes).toArray⟩ from rfl, str_app, str_app, HS.out, if_neg (by omega)]
              · by_cases e : j = k
                · subst e; exact q5
                · exact hn.out j hj (by omega)
            · obtain rfl : k = 0 := by omega
              rw [Nat.add_zero] at c0
              go_wp2_with (go_at_call 34; refine (word12_any _ _).mono ?_; rintro r w2 ⟨rfl, rfl⟩)
              refine ⟨⟨1, by omega, by go_num, ?_, hide fun j hj hjk => ?_, trivial⟩, by simp [intOf]; omega⟩
              · rw [str_app, HS.out, if_pos (by trivial)]
              · obtain rfl : j = 0 := by omega
                exact q5
        · obtain rfl : k = s.pars.length := by omega
          have HE := hide (textM_good HH.out (fun p hp => by
            obtain ⟨j, hj, rfl⟩ := List.mem_iff_getElem.1 hp
            exact hn.out j hj hj))
          go_wp2_with (go_at_call 34; refine (word12_any _ _).mono ?_; rintro r w2 ⟨rfl, rfl⟩)
          go_ret
          refine ⟨ret_str' ?_, hB1⟩
          rw [show (⟨#[41]⟩ : ByteArray) = ⟨([41] : Bytes).toArray⟩ from rfl, show (⟨#[32]⟩ : ByteArray) = ⟨([32] : Bytes).toArray⟩ from rfl, str_app, str_app, str_app, HE.out, if_neg (by simpa using q3)]
          simp
  · have g3 := bne_yes' q3
    have HH : Hid (headSg s = true) := hide (by have h0 : decide (s.res = 0) = true := decide_eq_true (by simpa using q3); unfold headSg; rw [q1, decide_eq_true hle, h0]; rfl)
    clear q1
    go_enter Tryd.func16, Tryd.ntmps16
    go_wp2_with (first | (go_at_call 33; refine (HN.out _).mono ?_; rintro r w1 ⟨rfl, hb1⟩; have hB1 := ((bl w).al _).tr hb1; obtain ⟨hc1, hf1⟩ := bcell hb1; clear hb1))
    go_loopw [3, 4] (fun sv i wr => ∃ k : Nat, k ≤ s.pars.length ∧ i = .int .i64 k ∧ sv = .string ⟨(upToB s k).toArray⟩ ∧ Hid (∀ j (h : j < s.pars.length), j < k → typedB s.pars[j] = true) ∧ wr = w1) (fun _ i _ => s.pars.length - (intOf i).toNat)
    case atStart => exact ⟨0, Nat.zero_le _, rfl, by rw [str_app]; simp [upToB, joinB], hide (fun _ _ h => absurd h (Nat.not_lt_zero _)), rfl⟩
    case round =>
      obtain ⟨k, hk, rfl, rfl, hn, rfl⟩ := hrel
      have hul := upToB_len s k hk
      by_cases hlt : k < s.pars.length
      · obtain ⟨b, o, rfl⟩ := HI.out.addr (by omega)
        have c0 := cell_keep (HI.out.at_ b o rfl k hlt) hB1 (Nat.le_refl _)
        have hbl := cell_lt c0
        simp only at hbl
        have hwl := wordB_len s.pars[k]
        cases q5 : typedB s.pars[k]
        · have HE := hide (textM_bad hlt q5)
          have hwe : wordB s.pars[k] = [] := by have := wordB_nil s.pars[k]; rw [q5] at this; simpa using this
          go_wp2_with (go_at_call 34; refine (word12_any _ _).mono ?_; rw [hwe]; rintro r w2 ⟨rfl, rfl⟩)
          go_ret
          exact ⟨by rw [HE.out]; rfl, hB1⟩
        · have g5 : (wordB s.pars[k] == []) = false := by rw [wordB_nil, q5]; rfl
          have hwe : wordB s.pars[k] ≠ [] := by simpa using g5
          have HS := hide (upToB_succ hlt)
          by_cases h0 : 0 < k
          · have h0' : (0 : Int) < (k : Int) := by omega
            go_wp2_with (go_at_call 34; refine (word12_any _ _).mono ?_; rintro r w2 ⟨rfl, rfl⟩)
            refine ⟨⟨k + 1, by omega, by go_num, ?_, hide fun j hj hjk => ?_, trivial⟩, by simp [intOf]; omega⟩
            · rw [show (⟨#[44, 32]⟩ : ByteArray) = ⟨([44, 32] : Bytes).toArray⟩ from rfl, str_app, str_app, HS.out, if_neg (by omega)]
            · by_cases e : j = k
              · subst e; exact q5
              · exact hn.out j hj (by omega)
          · obtain rfl : k = 0 := by omega
            rw [Nat.add_zero] at c0
            go_wp2_with (go_at_call 34; refine (word12_any _ _).mono ?_; rintro r w2 ⟨rfl, rfl⟩)
            refine ⟨⟨1, by omega, by go_num, ?_, hide fun j hj hjk => ?_, trivial⟩, by simp [intOf]; omega⟩
            · rw [str_app, HS.out, if_pos (by trivial)]
            · obtain rfl : j = 0 := by omega
              exact q5
      · obtain rfl : k = s.pars.length := by omega
        have HE := hide (textM_good HH.out (fun p hp => by
          obtain ⟨j, hj, rfl⟩ := List.mem_iff_getElem.1 hp
          exact hn.out j hj hj))
        go_wp2_with fail
        go_ret
        refine ⟨ret_str' ?_, hB1⟩
        rw [show (⟨#[41]⟩ : ByteArray) = ⟨([41] : Bytes).toArray⟩ from rfl, str_app, HE.out, if_pos (by simpa using q3), List.append_nil]
end Go.Proofs.YtnkmbddjekepkaaDoor
