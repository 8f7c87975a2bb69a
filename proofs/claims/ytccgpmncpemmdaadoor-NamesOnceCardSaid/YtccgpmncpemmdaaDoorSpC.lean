/- shape.size answers whether statements have the right shape, apart from their numbers, and are at most 200. -/
import Derived.Test.YtccgpmncpemmdaaDoorSpB
namespace Go.Proofs.YtccgpmncpemmdaaDoor
open Go Go.RowKit
set_option linter.unusedSimpArgs false
set_option linter.unusedVariables false
set_option linter.unnecessarySimpa false
theorem Tab.lt {w : World} (h : Tab w) : 0 < w.heap.size := by
  unfold Tab Lib.TabIs World.var? at h
  rw [tab_g] at h
  simp only [Option.bind_some] at h
  rcases Nat.lt_or_ge 0 w.heap.size with h' | h'
  · exact h'
  · rw [Array.getElem?_eq_none h'] at h
    cases h
theorem Tab.kept {l : List Nat} {w w' : World} (h : Tab w) (hk : Kept l w w') (hl : ∀ g ∈ l, 0 < g) : Tab w' := by
  have hlt := h.lt
  unfold Tab Lib.TabIs World.var? at h ⊢
  rw [tab_g] at h ⊢
  simp only [Option.bind_some] at h ⊢
  rw [hk.block _ hlt fun hg => absurd (hl _ hg) (Nat.lt_irrefl _)]
  exact h
/-- The statements have the right shape, and with c others there are at most 200. -/
def okM (m c : Nat) (l : List St) : Bool := wellM m l && decide (c + cntL l ≤ 200)
theorem okM_nil (m c : Nat) (h : c ≤ 200) : okM m c [] = true := by
  cases m <;> simp [okM, wellM, cntL, h]
theorem oneW_eq (m : Nat) (s : St) : (headM s && wellM m s.body && wellM m s.els) = true ↔ headM s = true ∧ wellM m s.body = true ∧ wellM m s.els = true := by
  simp only [Bool.and_eq_true, and_assoc]
theorem okM_bad {m c : Nat} {l : List St} {k : Nat} (h : k < l.length) (hb : headM l[k] = false ∨ okM m (c + cntL (l.take k) + 1) l[k].body = false ∨ okM m (c + cntL (l.take k) + 1 + cntL l[k].body) l[k].els = false ∨ 200 < c + cntL (l.take k) + 1) : okM (m + 1) c l = false := by
  have h1 := cntL_take l k h
  have h2 := St.cnt_eq l[k]
  have h3 := cntL_take_le l (k + 1)
  rw [Bool.eq_false_iff]
  intro ht
  simp only [okM, Bool.and_eq_true, decide_eq_true_eq, Bool.and_eq_false_iff, decide_eq_false_iff_not] at ht hb
  obtain ⟨hw, hc⟩ := ht
  rw [wellM, List.all_eq_true] at hw
  obtain ⟨q1, q2, q3⟩ := (oneW_eq m _).1 (hw _ (List.getElem_mem h))
  rw [q1, q2, q3] at hb
  rcases hb with hb | (hb | hb) | (hb | hb) | hb
  · cases hb
  · cases hb
  · omega
  · cases hb
  · omega
  · omega
/-- The number lies in block nb. -/
def NumAt (w : World) (nb c : Nat) : Prop := w.heap[nb]? = some (.cells #[.int .i64 (c : Nat)] 3 (0, 0))
theorem NumAt.lt {w : World} {nb c : Nat} (h : NumAt w nb c) : nb < w.heap.size := (Array.getElem?_eq_some_iff.1 h).1
theorem NumAt.below {w w' : World} {nb c : Nat} (h : NumAt w nb c) (hb : Below w.heap.size w w') : NumAt w' nb c := (hb.block _ h.lt).trans h
theorem NumAt.set {w : World} {nb c : Nat} (h : NumAt w nb c) (c' : Nat) : NumAt (w.setCell ⟨nb, 0, none⟩ (.int .i64 (c' : Nat))) nb c' := heap_set h _
theorem NumAt.set1 {w : World} {nb c : Nat} (h : NumAt w nb c) : NumAt (w.setCell ⟨nb, 0, none⟩ (.int .i64 ((c : Int) + 1))) nb (c + 1) := heap_set h _
/-- What the visit of size answers. -/
def SizePost (nb c m : Nat) (l : List St) (w : World) (r : Ending) (w' : World) : Prop :=
  r = .returned (.bool (okM m c l)) ∧ (∃ c', NumAt w' nb c' ∧ c' ≤ 201 ∧ (okM m c l = true → c' = c + cntL l)) ∧ Kept [nb] w w'
set_option maxRecDepth 20000 in
set_option maxHeartbeats 1000000 in
theorem size1_nil (nb lb c m : Nat) (a : Option Addr) (cap : Nat) (w : World) (hc : c ≤ 200) (hn : NumAt w nb c) :
    Calls Tryd.prog 64 #[.slice a 0 cap, .int .i64 m, .pointer (some ⟨nb, 0, none⟩), .pointer (some ⟨lb, 0, none⟩)] w (SizePost nb c m [] w) := by
  have HP : Hid (SizePost nb c m [] w (.returned (.bool true)) w) := hide ⟨by rw [okM_nil m c hc], ⟨c, hn, by omega, fun _ => rfl⟩, Kept.refl _ _⟩
  clear hn
  go_enter Tryd.func64, Tryd.ntmps64
  go_wp2_with fail
  go_loopw [18] (fun i wr => i = .int .i64 0 ∧ w = wr) (fun _ _ => 0)
  case atStart => exact ⟨rfl, rfl⟩
  case round =>
    obtain ⟨rfl, rfl⟩ := hrel
    go_wp2_with fail
    go_ret
    exact HP.out
def oneW' (m : Nat) (s : St) : Bool := headM s && wellM m s.body && wellM m s.els
set_option maxRecDepth 20000 in
set_option maxHeartbeats 8000000 in
theorem size1_any (nb lb : Nat) (hG : 0 < nb) (hne : lb ≠ nb) : ∀ (m : Nat), m ≤ 20 → ∀ (l : List St) (a : Option Addr) (cap c : Nat) (w : World), l.length ≤ maxLen → c ≤ 200 → St.Row (av [nb] w) l a → Tab w → NumAt w nb c →
    w.cell? ⟨lb, 0, none⟩ = some (.func (.func 64) #[] #[.pointer (some ⟨nb, 0, none⟩), .pointer (some ⟨lb, 0, none⟩)]) →
    Calls Tryd.prog 64 #[.slice a l.length cap, .int .i64 m, .pointer (some ⟨nb, 0, none⟩), .pointer (some ⟨lb, 0, none⟩)] w (SizePost nb c m l w) := by
  intro m
  induction m with
  | zero =>
    intro _ l a cap c w hl hc hr hT hn hlk
    unfold maxLen at hl
    cases l with
    | nil => exact size1_nil nb lb c 0 a cap w hc hn
    | cons s l =>
      have HP : Hid (SizePost nb c 0 (s :: l) w (.returned (.bool false)) w) := hide ⟨by simp [okM, wellM], ⟨c, hn, by omega, by simp [okM, wellM]⟩, Kept.refl _ _⟩
      simp only [List.length_cons] at hl
      clear hr hT hn hlk
      show Calls Tryd.prog 64 #[.slice a (l.length + 1) cap, .int .i64 0, _, _] w _
      go_enter Tryd.func64, Tryd.ntmps64
      go_wp2_with fail
      go_ret
      exact HP.out
  | succ m ih =>
    intro hm l a cap c w hl hc hr hT hn hlk
    unfold maxLen at hl
    rcases List.eq_nil_or_concat l with rfl | ⟨_, _, hcc⟩
    · exact size1_nil nb lb c (m + 1) a cap w hc hn
    have hl1 : (0 : Int) < (l.length : Int) := by rw [hcc]; simp
    have IH := hide (ih (by omega))
    have HR := hide hr
    have HT := hide hT
    have HLK0 := hide hlk
    have HN0 := hide hn
    have hm1 : (m : Int) ≤ 20 := by omega
    have hgl := hT.lt
    clear ih hr hm hcc hT hlk hn
    go_enter Tryd.func64, Tryd.ntmps64
    go_wp2_with fail
    go_loopw [18] (fun i wr => ∃ (k c' : Nat), k ≤ l.length ∧ i = .int .i64 k ∧ Hid (c' = c + cntL (l.take k)) ∧ c' ≤ 200 ∧ Hid (NumAt wr nb c') ∧ Hid (∀ s ∈ l.take k, oneW' m s = true) ∧ Kept [nb] w wr) (fun i _ => l.length - (intOf i).toNat)
    case atStart => exact ⟨0, c, Nat.zero_le _, rfl, by simp [Hid, cntL], hc, HN0.out, by simp [Hid], Kept.refl _ _⟩
    case round =>
      obtain ⟨k, c', hk, rfl, HC, hcr, HN, HALL, hK⟩ := hrel
      by_cases hlt : k < l.length
      · obtain ⟨b, o, rfl⟩ := HR.out.addr (by omega)
        have hat := (HR.out.get k hlt).has (has_kept hK)
        obtain ⟨pa, pb, pe, ca, cb, ce, hcs, hw, ha, hbo, hel⟩ := hat.val
        obtain ⟨c0, c1, c2, c3, c4, c5, c6, c7⟩ := hcs.has has_av
        have hbn : b ≠ nb := by
          have := (av_cell.1 hcs.c0).1
          simpa using this
        have hbb := cell_lt c0
        simp only at hbb
        have hnl := HN.out.lt
        have x0 := cell_at (j := 0) HN.out rfl
        have y0 := free_at (j := 0) HN.out
        have hlk := hK.cell (by simpa using hne) HLK0.out
        have hll := cell_lt hlk
        simp only at hll
        have hvv := fun (W : World) (hW : Kept [nb] wr W) => head_any l[k] _ W (((St.Val.mk hw ha hbo hel).has (has_kept hW)).has has_av) ((HT.out.kept hK (by simpa using hG)).kept hW (by simpa using hG))
        have HH := hide hvv
        have HBO := hide hbo
        have HEL := hide hel
        have hlb : l[k].body.length ≤ maxLen := Nat.le_trans hw.lb hw.cb
        have hle : l[k].els.length ≤ maxLen := Nat.le_trans hw.le hw.ce
        have HTK := hide (cntL_take l k hlt)
        have HCE := hide (St.cnt_eq l[k])
        clear hvv hat hcs hw ha hbo hel
        have HK1 : Hid (Kept [nb] wr ((wr.setCell ⟨nb, 0, none⟩ (.int .i64 ((c' : Int) + 1))).alloc (.cells #[.int .i64 l[k].kind, .int .i64 l[k].no, .string ⟨l[k].name.toArray⟩, .int .i64 l[k].typ, .string ⟨l[k].callee.toArray⟩, .slice pa l[k].args.length ca, .slice pb l[k].body.length cb, .slice pe l[k].els.length ce] 62))) := hide (((Kept.refl [nb] wr).set (.inl (by simp)) 0 _).al _)
        have HN1 : Hid (NumAt ((wr.setCell ⟨nb, 0, none⟩ (.int .i64 ((c' : Int) + 1))).alloc (.cells #[.int .i64 l[k].kind, .int .i64 l[k].no, .string ⟨l[k].name.toArray⟩, .int .i64 l[k].typ, .string ⟨l[k].callee.toArray⟩, .slice pa l[k].args.length ca, .slice pb l[k].body.length cb, .slice pe l[k].els.length ce] 62)) nb (c' + 1)) := hide (HN.out.set1.below ((bl _).al _))
        have HS1 : Hid ((((wr.setCell ⟨nb, 0, none⟩ (.int .i64 ((c' : Int) + 1))).alloc (.cells #[.int .i64 l[k].kind, .int .i64 l[k].no, .string ⟨l[k].name.toArray⟩, .int .i64 l[k].typ, .string ⟨l[k].callee.toArray⟩, .slice pa l[k].args.length ca, .slice pb l[k].body.length cb, .slice pe l[k].els.length ce] 62))).heap[wr.heap.size]? = some (.cells #[.int .i64 l[k].kind, .int .i64 l[k].no, .string ⟨l[k].name.toArray⟩, .int .i64 l[k].typ, .string ⟨l[k].callee.toArray⟩, .slice pa l[k].args.length ca, .slice pb l[k].body.length cb, .slice pe l[k].els.length ce] 62 (0, 0))) := hide (by
          have := heap_alloc_new (wr.setCell ⟨nb, 0, none⟩ (.int .i64 ((c' : Int) + 1))) (.cells #[.int .i64 l[k].kind, .int .i64 l[k].no, .string ⟨l[k].name.toArray⟩, .int .i64 l[k].typ, .string ⟨l[k].callee.toArray⟩, .slice pa l[k].args.length ca, .slice pb l[k].body.length cb, .slice pe l[k].els.length ce] 62)
          simpa [World.setCell] using this)
        have hsn : wr.heap.size ≠ nb := by omega
        by_cases hroom : (200 : Int) < (c' : Int) + 1
        · have HE := hide (okM_bad (m := m) (c := c) hlt (.inr (.inr (.inr (by have := HC.out; omega)))))
          have HP : Hid (SizePost nb c (m + 1) l w (.returned (.bool false)) ((wr.setCell ⟨nb, 0, none⟩ (.int .i64 ((c' : Int) + 1))).alloc (.cells #[.int .i64 l[k].kind, .int .i64 l[k].no, .string ⟨l[k].name.toArray⟩, .int .i64 l[k].typ, .string ⟨l[k].callee.toArray⟩, .slice pa l[k].args.length ca, .slice pb l[k].body.length cb, .slice pe l[k].els.length ce] 62))) := hide ⟨by rw [HE.out], ⟨c' + 1, HN1.out, by omega, by rw [HE.out]; simp⟩, hK.tr HK1.out⟩
          go_wp2_with fail
          go_ret
          exact HP.out
        · cases hhd : headM l[k]
          · have HE := hide (okM_bad (m := m) (c := c) hlt (.inl hhd))
            rw [hhd] at HH
            clear hhd
            go_wp2_with fail
            (with_reducible refine (HH.out _ HK1.out).mono ?_)
            rintro r w2 ⟨rfl, hb2⟩
            go_wp2_with fail
            go_ret
            exact ⟨ret_bool HE.out.symm, ⟨c' + 1, HN1.out.below hb2, by omega, by rw [HE.out]; simp⟩, hK.tr (HK1.out.st hb2)⟩
          · rw [hhd] at HH
            have HIB : Hid (∀ W, Kept [nb] wr W → NumAt W nb (c' + 1) → Calls Tryd.prog 64 #[.slice pb l[k].body.length cb, .int .i64 m, .pointer (some ⟨nb, 0, none⟩), .pointer (some ⟨lb, 0, none⟩)] W (SizePost nb (c' + 1) m l[k].body W)) :=
              hide fun W hW hN => IH.out _ _ _ _ W hlb (by omega) (HBO.out.has (has_kept hW)) ((HT.out.kept hK (by simpa using hG)).kept hW (by simpa using hG)) hN (hW.cell (by simpa using hne) hlk)
            cases hob : okM m (c' + 1) l[k].body
            · have HE := hide (okM_bad (m := m) (c := c) hlt (.inr (.inl (by rw [← HC.out]; exact hob))))
              have HOB := hide hob
              clear hhd hob
              go_wp2_with fail
              (with_reducible refine (HH.out _ HK1.out).mono ?_)
              rintro r w2 ⟨rfl, hb2⟩
              have HK2 : Hid (Kept [nb] wr w2) := hide (HK1.out.st hb2)
              have HN2 : Hid (NumAt w2 nb (c' + 1)) := hide (HN1.out.below hb2)
              have HS2 := hide ((hb2.block _ (Array.getElem?_eq_some_iff.1 HS1.out).1).trans HS1.out)
              have lk2 := HK2.out.cell (by simpa using hne) hlk
              have LK2 := hide lk2
              have s26 := cell_at (j := 6) HS2.out rfl
              clear hlk c0 c1 c2 c3 c4 c5 c6 c7 x0 y0 hb2
              go_wp2_with fail
              (with_reducible refine (HIB.out _ HK2.out HN2.out).mono ?_)
              rintro r w3 ⟨hr, ⟨c3, hn3, hc3, he3⟩, hk3⟩
              rw [HOB.out] at hr he3
              subst hr
              go_wp2_with fail
              go_ret
              exact ⟨ret_bool HE.out.symm, ⟨c3, hn3, hc3, by rw [HE.out]; simp⟩, (hK.tr HK2.out).tr hk3⟩
            · have hcb : c' + 1 + cntL l[k].body ≤ 200 := by
                simp only [okM, Bool.and_eq_true, decide_eq_true_eq] at hob
                exact hob.2
              have hwb : wellM m l[k].body = true := by
                simp only [okM, Bool.and_eq_true, decide_eq_true_eq] at hob
                exact hob.1
              have HIE : Hid (∀ W, Kept [nb] wr W → NumAt W nb (c' + 1 + cntL l[k].body) → Calls Tryd.prog 64 #[.slice pe l[k].els.length ce, .int .i64 m, .pointer (some ⟨nb, 0, none⟩), .pointer (some ⟨lb, 0, none⟩)] W (SizePost nb (c' + 1 + cntL l[k].body) m l[k].els W)) :=
                hide fun W hW hN => IH.out _ _ _ _ W hle (by omega) (HEL.out.has (has_kept hW)) ((HT.out.kept hK (by simpa using hG)).kept hW (by simpa using hG)) hN (hW.cell (by simpa using hne) hlk)
              cases hoe : okM m (c' + 1 + cntL l[k].body) l[k].els
              · have HE := hide (okM_bad (m := m) (c := c) hlt (.inr (.inr (.inl (by rw [← HC.out]; exact hoe)))))
                have HOB := hide hob
                have HOE := hide hoe
                clear hhd hob hoe hwb
                go_wp2_with fail
                (with_reducible refine (HH.out _ HK1.out).mono ?_)
                rintro r w2 ⟨rfl, hb2⟩
                have HK2 : Hid (Kept [nb] wr w2) := hide (HK1.out.st hb2)
                have HN2 : Hid (NumAt w2 nb (c' + 1)) := hide (HN1.out.below hb2)
                have HS2 := hide ((hb2.block _ (Array.getElem?_eq_some_iff.1 HS1.out).1).trans HS1.out)
                have lk2 := HK2.out.cell (by simpa using hne) hlk
                have LK2 := hide lk2
                have s26 := cell_at (j := 6) HS2.out rfl
                clear hlk c0 c1 c2 c3 c4 c5 c6 c7 x0 y0 hb2
                go_wp2_with fail
                (with_reducible refine (HIB.out _ HK2.out HN2.out).mono ?_)
                rintro r w3 ⟨hr, ⟨c3, hn3, hc3, he3⟩, hk3⟩
                rw [HOB.out] at hr he3
                subst hr
                obtain rfl := he3 rfl
                have HK3 : Hid (Kept [nb] wr w3) := hide (HK2.out.tr hk3)
                have HN3 := hide hn3
                have HS3 := hide (hk3.heap (by simpa using hsn) HS2.out)
                have lk3 := hk3.cell (by simpa using hne) LK2.out
                have s37 := cell_at (j := 7) HS3.out rfl
                clear lk2 s26 hk3 hn3
                go_wp2_with fail
                (with_reducible refine (HIE.out _ HK3.out HN3.out).mono ?_)
                rintro r w4 ⟨hr, ⟨c4, hn4, hc4, he4⟩, hk4⟩
                rw [HOE.out] at hr he4
                subst hr
                go_wp2_with fail
                go_ret
                exact ⟨ret_bool HE.out.symm, ⟨c4, hn4, hc4, by rw [HE.out]; simp⟩, (hK.tr HK3.out).tr hk4⟩
              · have hwe : wellM m l[k].els = true ∧ c' + 1 + cntL l[k].body + cntL l[k].els ≤ 200 := by
                  simp only [okM, Bool.and_eq_true, decide_eq_true_eq] at hoe
                  exact hoe
                have HOB := hide hob
                have HOE := hide hoe
                have HW1 : Hid (oneW' m l[k] = true) := hide (by simp [oneW', hhd, hwb, hwe.1])
                have HTL := hide (List.take_succ_eq_append_getElem hlt)
                have hce := hwe.2
                clear hhd hob hoe hwb hwe
                go_wp2_with fail
                (with_reducible refine (HH.out _ HK1.out).mono ?_)
                rintro r w2 ⟨rfl, hb2⟩
                have HK2 : Hid (Kept [nb] wr w2) := hide (HK1.out.st hb2)
                have HN2 : Hid (NumAt w2 nb (c' + 1)) := hide (HN1.out.below hb2)
                have HS2 := hide ((hb2.block _ (Array.getElem?_eq_some_iff.1 HS1.out).1).trans HS1.out)
                have lk2 := HK2.out.cell (by simpa using hne) hlk
                have LK2 := hide lk2
                have s26 := cell_at (j := 6) HS2.out rfl
                clear hlk c0 c1 c2 c3 c4 c5 c6 c7 x0 y0 hb2
                go_wp2_with fail
                (with_reducible refine (HIB.out _ HK2.out HN2.out).mono ?_)
                rintro r w3 ⟨hr, ⟨c3, hn3, hc3, he3⟩, hk3⟩
                rw [HOB.out] at hr he3
                subst hr
                obtain rfl := he3 rfl
                have HK3 : Hid (Kept [nb] wr w3) := hide (HK2.out.tr hk3)
                have HN3 := hide hn3
                have HS3 := hide (hk3.heap (by simpa using hsn) HS2.out)
                have lk3 := hk3.cell (by simpa using hne) LK2.out
                have s37 := cell_at (j := 7) HS3.out rfl
                clear lk2 s26 hk3 hn3
                go_wp2_with fail
                (with_reducible refine (HIE.out _ HK3.out HN3.out).mono ?_)
                rintro r w4 ⟨hr, ⟨c4, hn4, hc4, he4⟩, hk4⟩
                rw [HOE.out] at hr he4
                subst hr
                have h3 := he4 rfl
                clear he4
                go_wp2_with fail
                have h0 := HC.out
                have h1 := HTK.out
                have h2 := HCE.out
                go_roundw
                case rel =>
                  refine ⟨k + 1, c4, by omega, by go_num, by show _ = _; omega, by omega, hn4, ?_, (hK.tr HK3.out).tr hk4⟩
                  intro s hs
                  rw [HTL.out, List.mem_append, List.mem_singleton] at hs
                  rcases hs with hs | rfl
                  · exact HALL.out s hs
                  · exact HW1.out
                case measure => simp [intOf]; omega
      · obtain rfl : k = l.length := by omega
        have HP : Hid (SizePost nb c (m + 1) l w (.returned (.bool true)) wr) := hide (by
          have h1 := HC.out
          have h2 := HALL.out
          rw [List.take_length] at h1 h2
          have e : okM (m + 1) c l = true := by
            simp only [okM, Bool.and_eq_true, decide_eq_true_eq]
            exact ⟨by rw [wellM, List.all_eq_true]; exact h2, by omega⟩
          exact ⟨by rw [e], ⟨c', HN.out, by omega, fun _ => h1⟩, hK⟩)
        go_wp2_with fail
        go_ret
        exact HP.out
/-- A function's statements have the right shape, apart from their numbers. -/
def bodyOk (l : List St) : Bool := wellM 20 l && decide (cntL l ≤ 200)
theorem okM_body (l : List St) : okM 20 0 l = bodyOk l := by simp [okM, bodyOk]
set_option maxRecDepth 20000 in
set_option maxHeartbeats 4000000 in
theorem size_any (l : List St) (a : Option Addr) (cap : Nat) (w : World) (hr : St.Row w l a) (hl : l.length ≤ maxLen) (hT : Tab w) :
    Calls Tryd.prog 54 #[.slice a l.length cap] w fun r w' => (∃ c : Nat, c ≤ 201 ∧ r = .returned (.tuple #[.int .i64 c, .bool (bodyOk l)]) ∧ (bodyOk l = true → c = cntL l)) ∧ Below w.heap.size w w' := by
  have hgl := hT.lt
  have H1 : Hid (∀ W, Below w.heap.size w W → NumAt W w.heap.size 0 → W.cell? ⟨w.heap.size + 1, 0, none⟩ = some (.func (.func 64) #[] #[.pointer (some ⟨w.heap.size, 0, none⟩), .pointer (some ⟨w.heap.size + 1, 0, none⟩)]) →
      Calls Tryd.prog 64 #[.slice a l.length cap, .int .i64 20, .pointer (some ⟨w.heap.size, 0, none⟩), .pointer (some ⟨w.heap.size + 1, 0, none⟩)] W (SizePost w.heap.size 0 20 l W)) :=
    hide fun W hW hN hlk => size1_any w.heap.size (w.heap.size + 1) hgl (by omega) 20 (by omega) l a cap 0 W hl (by omega) (hr.has ((has_new (by simp)).tr (has_av_below hW))) (hT.below hW) hN hlk
  have HB2 : Hid (Below w.heap.size w ((w.alloc (.cells #[.int .i64 0] 3)).alloc (.cells #[(.func (.func 64) #[] #[.pointer (some ⟨w.heap.size, 0, none⟩), .pointer (some ⟨w.heap.size + 1, 0, none⟩)])] 127))) := hide (((bl w).al _).al _)
  have HN2 : Hid (NumAt ((w.alloc (.cells #[.int .i64 0] 3)).alloc (.cells #[(.func (.func 64) #[] #[.pointer (some ⟨w.heap.size, 0, none⟩), .pointer (some ⟨w.heap.size + 1, 0, none⟩)])] 127)) w.heap.size 0) := hide (NumAt.below (heap_alloc_new w _) ((bl _).al _))
  have HL2 : Hid ((((w.alloc (.cells #[.int .i64 0] 3)).alloc (.cells #[(.func (.func 64) #[] #[.pointer (some ⟨w.heap.size, 0, none⟩), .pointer (some ⟨w.heap.size + 1, 0, none⟩)])] 127))).cell? ⟨w.heap.size + 1, 0, none⟩ = some (.func (.func 64) #[] #[.pointer (some ⟨w.heap.size, 0, none⟩), .pointer (some ⟨w.heap.size + 1, 0, none⟩)])) := hide (by
    have := cell_of_list (w.alloc (.cells #[.int .i64 0] 3)) [(.func (.func 64) #[] #[.pointer (some ⟨w.heap.size, 0, none⟩), .pointer (some ⟨w.heap.size + 1, 0, none⟩)])] 127 0 _ rfl
    simpa using this)
  clear hr hT hl hgl
  go_enter Tryd.func54, Tryd.ntmps54
  go_wp2_with fail
  (with_reducible refine (H1.out _ HB2.out HN2.out HL2.out).mono ?_)
  rintro r w3 ⟨rfl, ⟨c, hn, hc, he⟩, hk⟩
  rw [okM_body] at he
  rw [okM_body]
  have x0 := cell_at (j := 0) hn rfl
  have hnl := hn.lt
  have HE := hide he
  have HB3 : Hid (Below w.heap.size w w3) := hide (hk.below HB2.out (by simp))
  clear hn hk he
  go_wp2_with fail
  go_ret2
  exact ⟨⟨c, hc, rfl, fun h => by simpa using HE.out h⟩, HB3.out⟩
end Go.Proofs.YtccgpmncpemmdaaDoor
