/- shape.visit with the function that Check hands it, and shape.Check: they answer whether the numbers are right, and whether a program has the right shape. -/
import Derived.Test.YtccgpmncpemmdaaDoorSpD
import Derived.Test.YtccgpmncpemmdaaDoorSn
import Derived.BigQuiet
import Derived.Deep.QuietTactic
import Derived.RegionTactic
namespace Go.Proofs.YtccgpmncpemmdaaDoor
open Go Go.RowKit
set_option linter.unusedSimpArgs false
set_option linter.unusedVariables false
set_option linter.unnecessarySimpa false
/-- The truth value lies in block ib. -/
def IsAt (w : World) (ib : Nat) (q : Bool) : Prop := w.heap[ib]? = some (.cells #[.bool q] 4 (0, 0))
theorem IsAt.lt {w : World} {ib : Nat} {q : Bool} (h : IsAt w ib q) : ib < w.heap.size := (Array.getElem?_eq_some_iff.1 h).1
theorem NumAt.keep {w w' : World} {nb c : Nat} {m : List Nat} (h : NumAt w nb c) (hk : Kept m w w') (hm : nb ∉ m) : NumAt w' nb c := hk.heap hm h
theorem IsAt.keep {w w' : World} {ib : Nat} {q : Bool} {m : List Nat} (h : IsAt w ib q) (hk : Kept m w w') (hm : ib ∉ m) : IsAt w' ib q := hk.heap hm h
theorem IsAt.set {w : World} {ib : Nat} {q : Bool} (h : IsAt w ib q) (q' : Bool) : IsAt (w.setCell ⟨ib, 0, none⟩ (.bool q')) ib q' := heap_set h _
def ChkPost (ib nb n : Nat) (q : Bool) (l : List Int) (w : World) (r : Ending) (w' : World) : Prop :=
  r = .returned (.tuple #[]) ∧ IsAt w' ib (q && upM n l) ∧ NumAt w' nb (n + l.length) ∧ Kept [ib, nb] w w'
set_option maxHeartbeats 4000000 in
theorem check1_any (ib nb b o n : Nat) (q : Bool) (i : Int) (w : World) (hne : ib ≠ nb) (h0 : IsAt w ib q) (h1 : NumAt w nb n) (hc : w.cell? ⟨b, o + 1, none⟩ = some (.int .i64 i)) (hb : b ≠ ib ∧ b ≠ nb) (hn : n ≤ 1000) :
    Calls Tryd.prog 44 #[.pointer (some ⟨b, o, none⟩), .pointer (some ⟨ib, 0, none⟩), .pointer (some ⟨nb, 0, none⟩)] w (ChkPost ib nb n q [i] w) := by
  have x0 := cell_at (j := 0) h0 rfl
  have f0 := free_at (j := 0) h0
  have y0 := cell_at (j := 0) h1 rfl
  have g0 := free_at (j := 0) h1
  have hi := h0.lt
  have hnl := h1.lt
  have hbl := cell_lt hc
  obtain ⟨hb1, hb2⟩ := hb
  simp only at hbl
  have H0 := hide h0
  have H1 := hide h1
  clear h0 h1
  go_enter Tryd.func44, Tryd.ntmps44
  go_wp2_with fail
  have hne2 : nb ≠ ib := fun h => hne h.symm
  have key : ∀ p W, W = ((w.setCell ⟨ib, 0, none⟩ (.bool p)).drew).setCell ⟨nb, 0, none⟩ (.int .i64 ((n : Int) + 1)) → IsAt W ib p ∧ NumAt W nb (n + 1) ∧ Kept [ib, nb] w W := by
    rintro p W rfl
    have k1 : Kept [ib] w ((w.setCell ⟨ib, 0, none⟩ (.bool p)).drew) := ((Kept.refl [ib] w).set (.inl (by simp)) 0 _).dr
    have n1 : NumAt ((w.setCell ⟨ib, 0, none⟩ (.bool p)).drew) nb n := H1.out.keep k1 (by simpa using hne2)
    have i1 : IsAt ((w.setCell ⟨ib, 0, none⟩ (.bool p)).drew) ib p := H0.out.set p
    exact ⟨i1.keep ((Kept.refl [nb] _).set (.inl (by simp)) 0 _) (by simpa using hne), n1.set1, ((((Kept.refl [ib, nb] w).set (.inl (by simp)) 0 _).dr).set (.inl (by simp)) 0 _)⟩
  have KEY := hide key
  clear key
  cases q
  · go_region
    all_goals
      go_wp2_with fail
      go_end0
      exact ⟨rfl, KEY.out _ _ rfl⟩
  · have HI : Hid ((true && upM n [i]) = (i == (n : Int))) := hide (by simp [upM]; exact (Bool.beq_eq_decide_eq i n).symm)
    go_region
    all_goals
      go_wp2_with fail
      go_end0
      obtain ⟨q1, q2, q3⟩ := KEY.out _ _ rfl
      exact ⟨rfl, by rw [HI.out]; exact q1, q2, q3⟩
theorem nosL_take1 (l : List St) (k : Nat) (h : k < l.length) : nosL (l.take (k + 1)) = nosL (l.take k) ++ (([l[k].no] ++ nosL l[k].body) ++ nosL l[k].els) := by
  rw [nosL_take l k h, St.nos_eq]
  simp
theorem upM_three (q : Bool) (n : Nat) (a b c d : List Int) : ((((q && upM n a) && upM (n + a.length) b) && upM (n + a.length + b.length) c) && upM (n + a.length + b.length + c.length) d) = (q && upM n (a ++ ((b ++ c) ++ d))) := by
  simp only [upM_app, List.length_append, Bool.and_assoc, Nat.add_assoc]
set_option maxRecDepth 20000 in
set_option maxHeartbeats 8000000 in
theorem visit_check (ib nb : Nat) (hne : ib ≠ nb) : ∀ (N : Nat) (l : List St) (a : Option Addr) (cap n : Nat) (q : Bool) (w : World), cntL l ≤ N → l.length ≤ maxLen → n + cntL l ≤ 1000 → St.Row (av [ib, nb] w) l a → IsAt w ib q → NumAt w nb n →
    Calls Tryd.prog 43 #[.slice a l.length cap, (.func (.func 44) #[] #[.pointer (some ⟨ib, 0, none⟩), .pointer (some ⟨nb, 0, none⟩)])] w (ChkPost ib nb n q (nosL l) w) := by
  intro N
  induction N with
  | zero =>
    intro l a cap n q w hN hl hc hr h0 h1
    have := len_cnt l
    obtain rfl : l = [] := List.eq_nil_of_length_eq_zero (by omega)
    have HP : Hid (ChkPost ib nb n q (nosL []) w (.returned (.tuple #[])) w) := hide ⟨rfl, by simpa [nosL, upM] using h0, by simpa [nosL] using h1, Kept.refl _ _⟩
    clear hr h0 h1
    go_enter Tryd.func43, Tryd.ntmps43
    go_wp2_with fail
    go_loopw [7] (fun i wr => i = .int .i64 0 ∧ w = wr) (fun _ _ => 0)
    case atStart => exact ⟨rfl, rfl⟩
    case round =>
      obtain ⟨rfl, rfl⟩ := hrel
      go_wp2_with fail
      go_end0
      exact HP.out
  | succ N ih =>
    intro l a cap n q w hN hl hc hr h0 h1
    unfold maxLen at hl
    have IH := hide ih
    have HR := hide hr
    have H0 := hide h0
    have H1 := hide h1
    clear ih hr h0 h1
    go_enter Tryd.func43, Tryd.ntmps43
    go_wp2_with fail
    go_loopw [7] (fun i wr => ∃ k : Nat, k ≤ l.length ∧ i = .int .i64 k ∧ Hid (IsAt wr ib (q && upM n (nosL (l.take k)))) ∧ Hid (NumAt wr nb (n + (nosL (l.take k)).length)) ∧ Kept [ib, nb] w wr) (fun i _ => l.length - (intOf i).toNat)
    case atStart => exact ⟨0, Nat.zero_le _, rfl, by simpa [Hid, nosL, upM] using H0.out, by simpa [Hid, nosL] using H1.out, Kept.refl _ _⟩
    case round =>
      obtain ⟨k, hk, rfl, HI, HN, hK⟩ := hrel
      by_cases hlt : k < l.length
      · obtain ⟨b, o, rfl⟩ := HR.out.addr (by omega)
        have hat := (HR.out.get k hlt).has (has_kept hK)
        obtain ⟨pa, pb, pe, ca, cb, ce, hcs, hw, ha, hbo, hel⟩ := hat.val
        have hbn := (av_cell.1 hcs.c0).1
        simp only [List.mem_cons, List.not_mem_nil, or_false, not_or] at hbn
        obtain ⟨c0, c1, c2, c3, c4, c5, c6, c7⟩ := hcs.has has_av
        have HBO := hide hbo
        have HEL := hide hel
        have hlb : l[k].body.length ≤ maxLen := Nat.le_trans hw.lb hw.cb
        have hle : l[k].els.length ≤ maxLen := Nat.le_trans hw.le hw.ce
        have h2 := cntL_take l k hlt
        have h3 := cntL_take_le l (k + 1)
        have h4 := St.cnt_eq l[k]
        have h5 : (nosL (l.take k)).length = cntL (l.take k) := nosL_len _
        have HC1 : Hid (∀ W, Kept [ib, nb] wr W → IsAt W ib (q && upM n (nosL (l.take k))) → NumAt W nb (n + (nosL (l.take k)).length) → Calls Tryd.prog 44 #[.pointer (some ⟨b, o + k * 8, none⟩), .pointer (some ⟨ib, 0, none⟩), .pointer (some ⟨nb, 0, none⟩)] W (ChkPost ib nb (n + (nosL (l.take k)).length) (q && upM n (nosL (l.take k))) [l[k].no] W)) :=
          hide fun W hW hi hn => check1_any ib nb b (o + k * 8) _ _ l[k].no W hne hi hn (hW.cell (by simp [hbn]) c1) hbn (by omega)
        have HCB : Hid (∀ W q' n', Kept [ib, nb] wr W → n' ≤ n + cntL (l.take k) + 1 → IsAt W ib q' → NumAt W nb n' → Calls Tryd.prog 43 #[.slice pb l[k].body.length cb, (.func (.func 44) #[] #[.pointer (some ⟨ib, 0, none⟩), .pointer (some ⟨nb, 0, none⟩)])] W (ChkPost ib nb n' q' (nosL l[k].body) W)) :=
          hide fun W q' n' hW hn' hi hn => IH.out _ pb cb n' q' W (by omega) hlb (by omega) (HBO.out.has (has_kept hW)) hi hn
        have HCE : Hid (∀ W q' n', Kept [ib, nb] wr W → n' ≤ n + cntL (l.take k) + 1 + cntL l[k].body → IsAt W ib q' → NumAt W nb n' → Calls Tryd.prog 43 #[.slice pe l[k].els.length ce, (.func (.func 44) #[] #[.pointer (some ⟨ib, 0, none⟩), .pointer (some ⟨nb, 0, none⟩)])] W (ChkPost ib nb n' q' (nosL l[k].els) W)) :=
          hide fun W q' n' hW hn' hi hn => IH.out _ pe ce n' q' W (by omega) hle (by omega) (HEL.out.has (has_kept hW)) hi hn
        have hbb := cell_lt c0
        simp only at hbb
        have hnb : b ∉ [ib, nb] := by simp [hbn]
        have HT := hide (nosL_take1 l k hlt)
        have hlq : (nosL l[k].body).length = cntL l[k].body := nosL_len _
        clear hat hcs hw ha hbo hel
        go_wp2_with fail
        (with_reducible refine (HC1.out _ (Kept.refl _ _) HI.out HN.out).mono ?_)
        rintro r w2 ⟨rfl, hi2, hn2, hk2⟩
        replace c6 := hk2.cell hnb c6
        replace c7 := hk2.cell hnb c7
        have HI2 := hide hi2
        have HN2 := hide hn2
        have hbb2 := Nat.lt_of_lt_of_le hbb hk2.size
        clear hi2 hn2 c0 c1 c2 c3 c4 c5 HC1
        go_wp2_with fail
        (with_reducible refine (HCB.out _ _ _ hk2 (by simp only [List.length_singleton]; omega) HI2.out HN2.out).mono ?_)
        rintro r w3 ⟨rfl, hi3, hn3, hk3⟩
        replace c7 := hk3.cell hnb c7
        have HI3 := hide hi3
        have HN3 := hide hn3
        have hbb3 := Nat.lt_of_lt_of_le hbb2 hk3.size
        clear hi3 hn3 c6 HCB
        go_wp2_with fail
        (with_reducible refine (HCE.out _ _ _ (hk2.tr hk3) (by simp only [List.length_singleton]; omega) HI3.out HN3.out).mono ?_)
        rintro r w4 ⟨rfl, hi4, hn4, hk4⟩
        have HI4 := hide hi4
        have HN4 := hide hn4
        clear hi4 hn4 c7 HCE
        go_wp2_with fail
        go_roundw
        case rel =>
          refine ⟨k + 1, by omega, by go_num, ?_, ?_, ((hK.tr hk2).tr hk3).tr hk4⟩
          · have h := HI4.out
            rw [upM_three] at h
            show IsAt _ _ _
            rw [HT.out]
            exact h
          · have h := HN4.out
            show NumAt _ _ _
            rw [HT.out]
            simp only [List.length_append, ← Nat.add_assoc] at h ⊢
            exact h
        case measure => simp [intOf]; omega
      · obtain rfl : k = l.length := by omega
        have HP : Hid (ChkPost ib nb n q (nosL l) w (.returned (.tuple #[])) wr) := hide (by
          have h2 := HI.out
          have h3 := HN.out
          rw [List.take_length] at h2 h3
          exact ⟨rfl, h2, h3, hK⟩)
        go_wp2_with fail
        go_end0
        exact HP.out
end Go.Proofs.YtccgpmncpemmdaaDoor
