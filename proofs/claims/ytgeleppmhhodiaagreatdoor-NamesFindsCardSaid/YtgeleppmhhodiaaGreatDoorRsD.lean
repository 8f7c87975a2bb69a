/- rewindref03.head, size, Size and Func answer as the shape says, for what lies in memory. -/
import Derived.Test.YtgeleppmhhodiaaGreatDoorRsB
import Derived.Test.YtgeleppmhhodiaaGreatDoorRsC
namespace Go.Proofs.YtgeleppmhhodiaaGreatDoor
open Go Go.RowKit
set_option linter.unusedSimpArgs false
set_option linter.unusedVariables false
set_option linter.unnecessarySimpa false
theorem rowOf_none {k : Int} (h : ¬ (1 ≤ k ∧ k ≤ 10)) : rowOf k = none := by
  unfold rowOf
  repeat rw [if_neg (by omega)]
set_option maxHeartbeats 1000000 in
theorem refHead_no (s : St) (v : Value) (w : World) (hv : St.Val w s v) (hk : ¬ (1 ≤ s.kind ∧ s.kind ≤ 10)) :
    Calls Tryz.prog 89 #[v] w fun r w' => r = .returned (.bool (headM s)) ∧ Below w.heap.size w w' := by
  obtain ⟨pa, pb, pe, ca, cb, ce, rfl, hw, ha, -, -⟩ := hv
  have e : headM s = false := by unfold headM; rw [rowOf_none hk]
  have e2 : refRow s.kind = (false, false, 0, 0) := by unfold refRow; repeat rw [if_neg (by omega)]
  have h1 := refRow_any s.kind
  rw [e2] at h1
  rw [e]
  have HR := hide h1
  clear e e2 hw ha h1 hk
  go_enter Tryz.func89, Tryz.ntmps89
  go_wp2_with fail
  refine (HR.out _).mono ?_
  rintro r w1 ⟨rfl, rfl⟩
  go_wp2_with fail
  go_ret
  exact ⟨rfl, (bl w).al _⟩
theorem refHead_any (s : St) (v : Value) (w : World) (hv : St.Val w s v) :
    Calls Tryz.prog 89 #[v] w fun r w' => r = .returned (.bool (headM s)) ∧ Below w.heap.size w w' := by
  by_cases hk : 1 ≤ s.kind ∧ s.kind ≤ 10
  · have hc : s.kind = 1 ∨ s.kind = 2 ∨ s.kind = 3 ∨ s.kind = 4 ∨ s.kind = 5 ∨ s.kind = 6 ∨ s.kind = 7 ∨ s.kind = 8 ∨ s.kind = 9 ∨ s.kind = 10 := by omega
    cases s with
    | mk k n s t c xs bs es =>
      simp only [St.kind] at hc
      rcases hc with rfl | rfl | rfl | rfl | rfl | rfl | rfl | rfl | rfl | rfl
      · exact refHead_1 n s t c xs bs es v w hv
      · exact refHead_2 n s t c xs bs es v w hv
      · exact refHead_3 n s t c xs bs es v w hv
      · exact refHead_4 n s t c xs bs es v w hv
      · exact refHead_5 n s t c xs bs es v w hv
      · exact refHead_6 n s t c xs bs es v w hv
      · exact refHead_7 n s t c xs bs es v w hv
      · exact refHead_8 n s t c xs bs es v w hv
      · exact refHead_9 n s t c xs bs es v w hv
      · exact refHead_10 n s t c xs bs es v w hv
  · exact refHead_no s v w hv hk
/-- What size answers: how many statements there are, or -1. -/
def sizeR (m : Nat) (room : Int) (l : List St) : Int := if wellM m l = true ∧ (cntL l : Int) ≤ room then (cntL l : Nat) else -1
def oneW (m : Nat) (s : St) : Bool := headM s && wellM m s.body && wellM m s.els
theorem wellM_succ (m : Nat) (l : List St) : wellM (m + 1) l = l.all (oneW m) := by rw [wellM]; rfl
theorem sizeR_bad {m : Nat} {room : Int} {l : List St} {k : Nat} (h : k < l.length) (hb : oneW m l[k] = false ∨ room < (cntL (l.take (k + 1)) : Nat)) : sizeR (m + 1) room l = -1 := by
  unfold sizeR
  rw [if_neg]
  rintro ⟨h1, h2⟩
  rcases hb with hb | hb
  · rw [wellM_succ, List.all_eq_true] at h1
    rw [h1 _ (List.getElem_mem h)] at hb
    cases hb
  · have := cntL_take_le l (k + 1)
    omega
set_option maxRecDepth 20000 in
set_option maxHeartbeats 1000000 in
theorem refSize_nil (m : Nat) (a : Option Addr) (cap : Nat) (room : Int) (w : World) :
    Calls Tryz.prog 78 #[.slice a 0 cap, .int .i64 m, .int .i64 room] w fun r w' => r = .returned (.int .i64 0) ∧ Below w.heap.size w w' := by
  go_enter Tryz.func78, Tryz.ntmps78
  go_wp2_with fail
  go_loopw [7, 8] (fun n i wr => n = .int .i64 0 ∧ i = .int .i64 0 ∧ w = wr) (fun _ _ _ => 0)
  case atStart => exact ⟨rfl, rfl, rfl⟩
  case round =>
    obtain ⟨rfl, rfl, rfl⟩ := hrel
    go_wp2_with fail
    go_ret
    exact ⟨rfl, bl _⟩
theorem sizeR_nil (m : Nat) {room : Int} (h : 0 ≤ room) : sizeR m room [] = 0 := by
  unfold sizeR
  rw [if_pos ⟨by cases m <;> rfl, by simpa [cntL] using h⟩]
  rfl
set_option maxRecDepth 20000 in
set_option maxHeartbeats 4000000 in
theorem refSize1_any : ∀ (m : Nat), m ≤ 100 → ∀ (l : List St) (a : Option Addr) (cap : Nat) (room : Int) (w : World), St.Row w l a → l.length ≤ maxLen → 0 ≤ room → room ≤ 1000 →
    Calls Tryz.prog 78 #[.slice a l.length cap, .int .i64 m, .int .i64 room] w fun r w' => r = .returned (.int .i64 (sizeR m room l)) ∧ Below w.heap.size w w' := by
  intro m
  induction m with
  | zero =>
    intro _ l a cap room w hr hl h0 h1
    unfold maxLen at hl
    cases l with
    | nil =>
      rw [sizeR_nil _ h0]
      exact refSize_nil 0 a cap room w
    | cons s l =>
      have e : sizeR 0 room (s :: l) = -1 := by unfold sizeR; rw [if_neg]; rintro ⟨h, _⟩; cases h
      rw [e]
      simp only [List.length_cons] at hl
      clear e hr
      show Calls Tryz.prog 78 #[.slice a (l.length + 1) cap, .int .i64 0, .int .i64 room] w _
      go_enter Tryz.func78, Tryz.ntmps78
      go_wp2_with fail
      go_ret
      exact ⟨rfl, bl _⟩
  | succ m ih =>
    intro hm l a cap room w hr hl h0 h1
    unfold maxLen at hl
    rcases List.eq_nil_or_concat l with rfl | ⟨_, _, hcc⟩
    · rw [sizeR_nil _ h0]
      exact refSize_nil (m + 1) a cap room w
    have hl1 : (0 : Int) < (l.length : Int) := by rw [hcc]; simp
    have IH := hide (ih (by omega))
    have HR := hide hr
    have hm1 : (m : Int) ≤ 100 := by omega
    clear ih hr hm hcc
    go_enter Tryz.func78, Tryz.ntmps78
    go_wp2_with fail
    go_loopw [7, 8] (fun n i wr => ∃ (k c : Nat), k ≤ l.length ∧ i = .int .i64 k ∧ n = .int .i64 c ∧ Hid (c = cntL (l.take k)) ∧ Hid (∀ s ∈ l.take k, oneW m s = true) ∧ (c : Int) ≤ room ∧ Below w.heap.size w wr) (fun _ i _ => l.length - (intOf i).toNat)
    case atStart => exact ⟨0, 0, Nat.zero_le _, rfl, rfl, rfl, by simp [Hid], by simpa using h0, bl _⟩
    case round =>
      obtain ⟨k, c, hk, rfl, rfl, HC, HALL, hcr, hb⟩ := hrel
      by_cases hlt : k < l.length
      · obtain ⟨b, o, rfl⟩ := HR.out.addr (by omega)
        have hat := (HR.out.get k hlt).has (has_keep hb (Nat.le_refl _))
        obtain ⟨pa, pb, pe, ca, cb, ce, hcs, hw, ha, hbo, hel⟩ := hat.val
        obtain ⟨c0, c1, c2, c3, c4, c5, c6, c7⟩ := hcs
        have hbb := cell_lt c0
        simp only at hbb
        have hvv := fun (W : World) (hW : Below wr.heap.size wr W) => refHead_any l[k] _ W ((St.Val.mk hw ha hbo hel).keep hW (Nat.le_refl _))
        have HH := hide hvv
        have HBO := hide hbo
        have HEL := hide hel
        have hlb : l[k].body.length ≤ maxLen := Nat.le_trans hw.lb hw.cb
        have hle : l[k].els.length ≤ maxLen := Nat.le_trans hw.le hw.ce
        have HT := hide (cntL_take l k hlt)
        have HCE := hide (St.cnt_eq l[k])
        clear hvv hat hw ha hbo hel
        by_cases hroom : room < (c : Int) + 1
        · go_wp2_with fail
          go_ret
          refine ⟨ret_int ?_, hb⟩
          rw [sizeR_bad hlt (.inr ?_)]
          have h1 := HT.out
          have h2 := HCE.out
          have h3 := HC.out
          omega
        · cases hhd : headM l[k]
          · have e : sizeR (m + 1) room l = -1 := sizeR_bad hlt (.inl (by simp [oneW, hhd]))
            have HE := hide e
            rw [hhd] at HH
            clear hhd e
            go_wp2_with fail
            (with_reducible refine (HH.out _ (bl wr)).mono ?_)
            rintro r w2 ⟨rfl, hb2⟩
            obtain ⟨hc2, _⟩ := bcell hb2
            have hbl2 : b < w2.heap.size := Nat.lt_of_lt_of_le hbb hb2.size
            go_wp2_with fail
            go_ret
            exact ⟨ret_int HE.out.symm, hb.tr hb2⟩
          · rw [hhd] at HH
            by_cases hwb : wellM m l[k].body = true ∧ (cntL l[k].body : Int) ≤ room - ((c : Int) + 1)
            · have hA : sizeR m (room - ((c : Int) + 1)) l[k].body = (cntL l[k].body : Nat) := by unfold sizeR; rw [if_pos hwb]
              have hcb0 := hwb.2
              by_cases hwe : wellM m l[k].els = true ∧ (cntL l[k].els : Int) ≤ room - ((c : Int) + 1 + (cntL l[k].body : Nat))
              · have hB : sizeR m (room - ((c : Int) + 1 + (cntL l[k].body : Nat))) l[k].els = (cntL l[k].els : Nat) := by unfold sizeR; rw [if_pos hwe]
                have hce0 := hwe.2
                have HW1 : Hid (oneW m l[k] = true) := hide (by simp [oneW, hhd, hwb.1, hwe.1])
                have IHA := hide fun (W : World) (hW : Below wr.heap.size wr W) => IH.out l[k].body pb cb (room - ((c : Int) + 1)) W (HBO.out.keep hW (Nat.le_refl _)) hlb (by omega) (by omega)
                have IHB := hide fun (W : World) (hW : Below wr.heap.size wr W) => IH.out l[k].els pe ce (room - ((c : Int) + 1 + (cntL l[k].body : Nat))) W (HEL.out.keep hW (Nat.le_refl _)) hle (by omega) (by omega)
                rw [hA] at IHA
                rw [hB] at IHB
                have HTK := hide (List.take_succ_eq_append_getElem hlt)
                have hcn : cntL (l.take (k + 1)) = c + 1 + cntL l[k].body + cntL l[k].els := by
                  have h1 := HT.out
                  have h2 := HCE.out
                  have h3 := HC.out
                  omega
                have HCN := hide hcn
                clear hhd hwb hwe hA hB hcn
                generalize cntL l[k].body = cb1 at *
                generalize cntL l[k].els = ce1 at *
                go_wp2_with fail
                (with_reducible refine (HH.out _ (bl wr)).mono ?_)
                rintro r w2 ⟨rfl, hb2⟩
                obtain ⟨hc2, _⟩ := bcell hb2
                have hbl2 : b < w2.heap.size := Nat.lt_of_lt_of_le hbb hb2.size
                go_wp2_with fail
                (with_reducible refine (IHA.out _ hb2).mono ?_)
                rintro r w3 ⟨rfl, hb3⟩
                obtain ⟨hc3, _⟩ := bcell hb3
                go_wp2_with fail
                (with_reducible refine (IHB.out _ (hb2.tr hb3)).mono ?_)
                rintro r w4 ⟨rfl, hb4⟩
                go_wp2_with fail
                go_roundw
                case rel =>
                  refine ⟨k + 1, c + 1 + cb1 + ce1, by omega, by go_num, by go_num, HCN.out.symm, ?_, by omega, ((hb.tr hb2).tr hb3).tr hb4⟩
                  intro s hs
                  rw [HTK.out, List.mem_append, List.mem_singleton] at hs
                  rcases hs with hs | rfl
                  · exact HALL.out s hs
                  · exact HW1.out
                case measure => simp [intOf]; omega
              · have hB : sizeR m (room - ((c : Int) + 1 + (cntL l[k].body : Nat))) l[k].els = -1 := by unfold sizeR; rw [if_neg hwe]
                have e : sizeR (m + 1) room l = -1 := sizeR_bad hlt (by
                  by_cases h1 : wellM m l[k].els = true
                  · right
                    have h2 : ¬ (cntL l[k].els : Int) ≤ room - ((c : Int) + 1 + (cntL l[k].body : Nat)) := fun h => hwe ⟨h1, h⟩
                    have h3 := HT.out
                    have h4 := HCE.out
                    have h5 := HC.out
                    omega
                  · left
                    simp [oneW, h1])
                have HE := hide e
                have IHA := hide fun (W : World) (hW : Below wr.heap.size wr W) => IH.out l[k].body pb cb (room - ((c : Int) + 1)) W (HBO.out.keep hW (Nat.le_refl _)) hlb (by omega) (by omega)
                have IHB := hide fun (W : World) (hW : Below wr.heap.size wr W) => IH.out l[k].els pe ce (room - ((c : Int) + 1 + (cntL l[k].body : Nat))) W (HEL.out.keep hW (Nat.le_refl _)) hle (by omega) (by omega)
                rw [hA] at IHA
                rw [hB] at IHB
                clear hhd hwb hwe hA hB e
                generalize cntL l[k].body = cb1 at *
                go_wp2_with fail
                (with_reducible refine (HH.out _ (bl wr)).mono ?_)
                rintro r w2 ⟨rfl, hb2⟩
                obtain ⟨hc2, _⟩ := bcell hb2
                have hbl2 : b < w2.heap.size := Nat.lt_of_lt_of_le hbb hb2.size
                go_wp2_with fail
                (with_reducible refine (IHA.out _ hb2).mono ?_)
                rintro r w3 ⟨rfl, hb3⟩
                obtain ⟨hc3, _⟩ := bcell hb3
                go_wp2_with fail
                (with_reducible refine (IHB.out _ (hb2.tr hb3)).mono ?_)
                rintro r w4 ⟨rfl, hb4⟩
                go_wp2_with fail
                go_ret
                exact ⟨ret_int HE.out.symm, ((hb.tr hb2).tr hb3).tr hb4⟩
            · have hA : sizeR m (room - ((c : Int) + 1)) l[k].body = -1 := by unfold sizeR; rw [if_neg hwb]
              have e : sizeR (m + 1) room l = -1 := sizeR_bad hlt (by
                by_cases h1 : wellM m l[k].body = true
                · right
                  have h2 : ¬ (cntL l[k].body : Int) ≤ room - ((c : Int) + 1) := fun h => hwb ⟨h1, h⟩
                  have h3 := HT.out
                  have h4 := HCE.out
                  have h5 := HC.out
                  omega
                · left
                  simp [oneW, h1])
              have HE := hide e
              have IHA := hide fun (W : World) (hW : Below wr.heap.size wr W) => IH.out l[k].body pb cb (room - ((c : Int) + 1)) W (HBO.out.keep hW (Nat.le_refl _)) hlb (by omega) (by omega)
              rw [hA] at IHA
              clear hhd hwb hA e
              go_wp2_with fail
              (with_reducible refine (HH.out _ (bl wr)).mono ?_)
              rintro r w2 ⟨rfl, hb2⟩
              obtain ⟨hc2, _⟩ := bcell hb2
              have hbl2 : b < w2.heap.size := Nat.lt_of_lt_of_le hbb hb2.size
              go_wp2_with fail
              (with_reducible refine (IHA.out _ hb2).mono ?_)
              rintro r w3 ⟨rfl, hb3⟩
              go_wp2_with fail
              go_ret
              exact ⟨ret_int HE.out.symm, (hb.tr hb2).tr hb3⟩
      · obtain rfl : k = l.length := by omega
        have e : sizeR (m + 1) room l = c := by
          have h1 := HC.out
          have h2 := HALL.out
          rw [List.take_length] at h1 h2
          unfold sizeR
          rw [wellM_succ, if_pos ⟨List.all_eq_true.2 h2, by omega⟩, h1]
        have HE := hide e
        clear e
        go_wp2_with fail
        go_ret
        exact ⟨ret_int HE.out.symm, hb⟩
theorem refSize_any (l : List St) (a : Option Addr) (cap : Nat) (w : World) (hr : St.Row w l a) (hl : l.length ≤ maxLen) :
    Calls Tryz.prog 59 #[.slice a l.length cap] w fun r w' => r = .returned (.int .i64 (sizeR 20 200 l)) ∧ Below w.heap.size w w' := by
  have h1 := refSize1_any 20 (by omega) l a cap 200 w hr hl (by omega) (by omega)
  have H1 := hide h1
  clear h1 hr hl
  go_enter Tryz.func59, Tryz.ntmps59
  go_wp2_with fail
  refine H1.out.mono ?_
  rintro r w1 ⟨rfl, hb⟩
  go_wp2_with fail
  go_ret
  exact ⟨rfl, hb⟩
end Go.Proofs.YtgeleppmhhodiaaGreatDoor
