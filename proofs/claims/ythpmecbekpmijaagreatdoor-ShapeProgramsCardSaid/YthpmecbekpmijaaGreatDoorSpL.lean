/- shape.copied answers statements in rows of its own. -/
import Derived.Test.YthpmecbekpmijaaGreatDoorSpK
import Derived.Deep.RegionLaw
namespace Go.Proofs.YthpmecbekpmijaaGreatDoor
open Go Go.RowKit
set_option linter.unusedSimpArgs false
set_option linter.unusedVariables false
set_option linter.unnecessarySimpa false
/-- The row in block g: the first k statements with rows of their own, the others as they were. -/
structure CopAt (wr : World) (g k : Nat) (l : List St) : Prop where
  own : elsOwn wr (l.take k) g 0 (g + 1) wr.heap.size
  rest : ∀ (i : Nat) (h : i < l.length), k ≤ i → ∃ (pa pb pe : Option Addr) (ca cb ce : Nat), StCells wr g (i * 8) l[i].kind l[i].no l[i].name l[i].typ l[i].callee (.slice pa l[i].args.length ca) (.slice pb l[i].body.length cb) (.slice pe l[i].els.length ce) ∧
    StWf l[i].kind l[i].no l[i].name l[i].typ l[i].callee l[i].args.length ca l[i].body.length cb l[i].els.length ce ∧ Ex.Row (av [g] wr) l[i].args pa ∧ St.Row (av [g] wr) l[i].body pb ∧ St.Row (av [g] wr) l[i].els pe
theorem StCells.hasIn {w w' : World} {b o : Nat} {k n : Int} {s : Bytes} {t : Int} {c : Bytes} {va vb ve : Value} (h : StCells w b o k n s t c va vb ve) (hh : ∀ j v, o ≤ j → j < o + 8 → w.cell? ⟨b, j, none⟩ = some v → w'.cell? ⟨b, j, none⟩ = some v) : StCells w' b o k n s t c va vb ve :=
  ⟨hh _ _ (by omega) (by omega) h.c0, hh _ _ (by omega) (by omega) h.c1, hh _ _ (by omega) (by omega) h.c2, hh _ _ (by omega) (by omega) h.c3, hh _ _ (by omega) (by omega) h.c4, hh _ _ (by omega) (by omega) h.c5, hh _ _ (by omega) (by omega) h.c6, hh _ _ (by omega) (by omega) h.c7⟩
theorem St.Own.mk' {w : World} {s : St} {g i lo hi : Nat} {pa pb pe : Option Addr} {ca cb ce m1 m2 : Nat} (hc : StCells w g (i * 8) s.kind s.no s.name s.typ s.callee (.slice pa s.args.length ca) (.slice pb s.body.length cb) (.slice pe s.els.length ce))
    (hw : StWf s.kind s.no s.name s.typ s.callee s.args.length ca s.body.length cb s.els.length ce) (h1 : lo ≤ m1) (h2 : m1 ≤ m2) (h3 : m2 ≤ hi) (hx : Ex.Row (onl lo m1 w) s.args pa) (hb : rowOwn w s.body pb m1 m2) (he : rowOwn w s.els pe m2 hi) : St.Own w s g i lo hi := by
  cases s
  simp only [St.Own]
  exact ⟨pa, pb, pe, ca, cb, ce, m1, m2, hc, hw, h1, h2, h3, hx, hb, he⟩
theorem stay_below {lo hi : Nat} {w w' : World} (h : Below w.heap.size w w') : Stay lo hi w w' := fun b _ _ hs => h.block b hs
/-- The three fields are stored. -/
def set3 (w : World) (g k : Nat) (va vb ve : Value) : World := ((w.setCell ⟨g, k * 8 + 5, none⟩ va).setCell ⟨g, k * 8 + 6, none⟩ vb).setCell ⟨g, k * 8 + 7, none⟩ ve
theorem set3_kept (w : World) (g k : Nat) (va vb ve : Value) : Kept [g] w (set3 w g k va vb ve) := (((Kept.refl [g] w).set (.inl (by simp)) _ _).set (.inl (by simp)) _ _).set (.inl (by simp)) _ _
theorem set3_other {w : World} {g k j : Nat} {va vb ve v : Value} (h : w.cell? ⟨g, j, none⟩ = some v) (h5 : j ≠ k * 8 + 5) (h6 : j ≠ k * 8 + 6) (h7 : j ≠ k * 8 + 7) : (set3 w g k va vb ve).cell? ⟨g, j, none⟩ = some v := set_other (set_other (set_other h h5) h6) h7
theorem CopAt.step {wr w5 : World} {g k : Nat} {l : List St} (h : CopAt wr g k l) (hlt : k < l.length) (hb : Below wr.heap.size wr w5) (hg : g < wr.heap.size) {a1 a2 a3 : Option Addr} {c1 c2 c3 lo1 hi1 lo2 hi2 lo3 hi3 : Nat}
    (q0 : wr.heap.size ≤ lo1) (q1 : hi1 ≤ lo2) (q2 : hi2 ≤ lo3) (q3 : hi3 ≤ w5.heap.size) (r1 : Ex.Row (onl lo1 hi1 w5) l[k].args a1) (r2 : rowOwn w5 l[k].body a2 lo2 hi2) (r3 : rowOwn w5 l[k].els a3 lo3 hi3)
    (h1 : l[k].args.length ≤ c1 ∧ c1 ≤ maxLen) (h2 : l[k].body.length ≤ c2 ∧ c2 ≤ maxLen) (h3 : l[k].els.length ≤ c3 ∧ c3 ≤ maxLen) (hlo : lo1 ≤ hi1) :
    CopAt (set3 w5 g k (.slice a1 l[k].args.length c1) (.slice a2 l[k].body.length c2) (.slice a3 l[k].els.length c3)) g (k + 1) l := by
  have hb1 := r2.le
  have hb2 := r3.le
  have hsz := hb.size
  have hK2 := set3_kept w5 g k (.slice a1 l[k].args.length c1) (.slice a2 l[k].body.length c2) (.slice a3 l[k].els.length c3)
  have hK : Kept [g] wr (set3 w5 g k (.slice a1 l[k].args.length c1) (.slice a2 l[k].body.length c2) (.slice a3 l[k].els.length c3)) := ((kept_below (l := []) hb).sub (m := [g]) (by simp)).tr hK2
  have hs6 : (set3 w5 g k (.slice a1 l[k].args.length c1) (.slice a2 l[k].body.length c2) (.slice a3 l[k].els.length c3)).heap.size = w5.heap.size := by simp [set3, World.setCell]
  have hst : ∀ lo hi, g < lo → Stay lo hi w5 (set3 w5 g k (.slice a1 l[k].args.length c1) (.slice a2 l[k].body.length c2) (.slice a3 l[k].els.length c3)) := fun lo hi h => stay_of_kept hK2 (by simpa using h)
  refine ⟨?_, fun i hi hki => ?_⟩
  · obtain ⟨pa, pb, pe, ca, cb, ce, hc, hw, _⟩ := h.rest k hlt (Nat.le_refl _)
    have hc5 : StCells w5 g (k * 8) _ _ _ _ _ _ _ _ := hc.has (has_below hb)
    rw [List.take_succ_eq_append_getElem hlt]
    have ho1 : elsOwn (set3 w5 g k (.slice a1 l[k].args.length c1) (.slice a2 l[k].body.length c2) (.slice a3 l[k].els.length c3)) (l.take k) g 0 (g + 1) wr.heap.size := by
      refine h.own.stay (fun j v _ hj hv => ?_) (stay_of_kept hK (by simp))
      rw [List.length_take, Nat.min_eq_left (by omega), Nat.zero_add] at hj
      exact set3_other (cell_keep hv hb (Nat.le_refl _)) (by omega) (by omega) (by omega)
    refine elsOwn.snoc (m := wr.heap.size) ho1 ?_
    rw [List.length_take, Nat.min_eq_left (by omega), Nat.zero_add, hs6]
    refine St.Own.mk' (pa := a1) (pb := a2) (pe := a3) (ca := c1) (cb := c2) (ce := c3) (m1 := lo2) (m2 := lo3) ?_ ⟨hw.k, hw.n, hw.s, hw.t, hw.c, h1.1, h1.2, h2.1, h2.2, h3.1, h3.2⟩ (by omega) (by omega) (by omega) ?_ ?_ ?_
    · exact ⟨set3_other hc5.c0 (by omega) (by omega) (by omega), set3_other hc5.c1 (by omega) (by omega) (by omega), set3_other hc5.c2 (by omega) (by omega) (by omega), set3_other hc5.c3 (by omega) (by omega) (by omega), set3_other hc5.c4 (by omega) (by omega) (by omega),
        set_other (set_other (set_same hc5.c5) (by omega)) (by omega), set_other (set_same (set_other hc5.c6 (by omega))) (by omega), set_same (set_other (set_other hc5.c7 (by omega)) (by omega))⟩
    · exact r1.has ((has_onl_sub (by omega) (by omega)).tr (has_stay (hst _ _ (by omega))))
    · exact (r2.stay (hst _ _ (by omega))).wide (Nat.le_refl _) (by omega)
    · exact (r3.stay (hst _ _ (by omega))).wide (Nat.le_refl _) (by omega)
  · obtain ⟨pa, pb, pe, ca, cb, ce, hc, hw, x1, x2, x3⟩ := h.rest i hi (by omega)
    exact ⟨pa, pb, pe, ca, cb, ce, hc.hasIn fun j v _ _ hv => set3_other (cell_keep hv hb (Nat.le_refl _)) (by omega) (by omega) (by omega), hw, x1.has (has_kept hK), x2.has (has_kept hK), x3.has (has_kept hK)⟩
theorem CopAt.of {w : World} {base : Nat} {v : Value} {l : List St} (h : OwnL w base 34 8 StC [] v l) {g cap : Nat} (hv : v = .slice (some ⟨g, 0, none⟩) l.length cap) (hg : g < w.heap.size) : CopAt w g 0 l := by
  refine ⟨by simp only [List.take_zero, elsOwn]; omega, fun i hi _ => ?_⟩
  obtain ⟨_, _, c, _, hx, _, hc⟩ := h.get StC.mono hv i hi
  obtain ⟨pa, pb, pe, ca, cb, ce, rfl, hw, r1, r2, r3⟩ := hx
  exact ⟨pa, pb, pe, ca, cb, ce, ⟨by simpa using hc 0 _ rfl, hc 1 _ rfl, hc 2 _ rfl, hc 3 _ rfl, hc 4 _ rfl, hc 5 _ rfl, hc 6 _ rfl, hc 7 _ rfl⟩, hw, r1, r2, r3⟩
/-- What copied answers. -/
def CopPost (w : World) (l : List St) (r : Ending) (w' : World) : Prop :=
  (∃ (a : Option Addr) (cap : Nat), r = .returned (.slice a l.length cap) ∧ l.length ≤ cap ∧ cap ≤ maxLen ∧ rowOwn w' l a w.heap.size w'.heap.size) ∧ Below w.heap.size w w'
theorem CopPost.nil {w w' : World} {a : Option Addr} {cap : Nat} (hc : cap ≤ maxLen) (hb : Below w.heap.size w w') : CopPost w [] (.returned (.slice a 0 cap)) w' :=
  ⟨⟨a, cap, rfl, Nat.zero_le _, hc, by simp only [rowOwn]; exact hb.size⟩, hb⟩
theorem head_args {s : St} (h : headM s = true) : (∀ e ∈ s.args, depthM 20 e ≠ 0) ∧ s.args.length ≤ 8 := by
  unfold headM at h
  cases hx : rowOf s.kind with
  | none => rw [hx] at h; cases h
  | some x =>
    rw [hx] at h
    simp only [Bool.and_eq_true, fldM, decide_eq_true_eq] at h
    refine ⟨fun e he => ?_, ?_⟩
    · have := List.all_eq_true.1 h.2 e he
      simpa [exOk] using this
    · have h8 : x.most ≤ 8 := by
        unfold rowOf at hx
        repeat' split at hx
        all_goals first | (simp only [Option.some.injEq] at hx; subst hx; decide) | (cases hx)
      have := h.1.2
      omega
set_option maxRecDepth 20000 in
set_option maxHeartbeats 8000000 in
theorem copied_any : ∀ (m : Nat) (l : List St) (a : Option Addr) (cap : Nat) (w : World), wellM m l = true → cntL l ≤ 200 → St.Row w l a → Calls Tryz.prog 44 #[.slice a l.length cap] w (CopPost w l) := by
  intro m
  induction m with
  | zero =>
    intro l a cap w hd hl hr
    have hlc := len_cnt l
    have hC := clone_sts l a cap w hr (by omega)
    obtain rfl : l = [] := by
      rw [wellM, List.isEmpty_iff] at hd
      exact hd
    have HC := hide hC
    clear hC hd hl hr hlc
    go_enter Tryz.func44, Tryz.ntmps44
    go_wp2_with fail
    refine HC.out.mono ?_
    rintro r w1 ⟨⟨v, rfl, hown⟩, hb⟩
    obtain ⟨a', cap', rfl, h1, h2⟩ := hown.slice
    have HP := hide (CopPost.nil (a := a') h2 hb)
    clear hown
    go_wp2_with fail
    go_loopw [4, 10] (fun _ i wr => i = .int .i64 0 ∧ w1 = wr) (fun _ _ _ => 0)
    case atStart => exact ⟨rfl, rfl⟩
    case round =>
      obtain ⟨rfl, rfl⟩ := hrel
      go_wp2_with fail
      go_ret
      exact HP.out
  | succ m ih =>
    intro l a cap w hd hl hr
    have hlc := len_cnt l
    have hC := clone_sts l a cap w hr (by omega)
    have HC := hide hC
    have HD := hide hd
    have IH := hide ih
    have hl2 : l.length ≤ 200 := by omega
    have HL := hide hl
    clear hC hd hr ih hlc hl
    go_enter Tryz.func44, Tryz.ntmps44
    go_wp2_with fail
    (with_reducible refine HC.out.mono ?_)
    rintro r w1 ⟨⟨v, rfl, hown⟩, hb⟩
    rcases hown.block with ⟨rfl, rfl⟩ | ⟨g, cap', C, hv, hg0, hg1, hgC, h1, h2⟩
    · clear hown
      have HP := hide (CopPost.nil (a := none) (cap := 0) (Nat.zero_le _) hb)
      go_wp2_with fail
      go_loopw [4, 10] (fun _ i wr => i = .int .i64 0 ∧ w1 = wr) (fun _ _ _ => 0)
      case atStart => exact ⟨rfl, rfl⟩
      case round =>
        obtain ⟨rfl, rfl⟩ := hrel
        go_wp2_with fail
        go_ret
        exact HP.out
    · have HCA := hide (CopAt.of hown hv hg1)
      subst hv
      have HGC := hide hgC
      have HH1 := hide h1
      have HH2 := hide h2
      clear hown hgC h1 h2
      go_wp2_with fail
      go_loopw [4, 10] (fun _ i wr => ∃ k : Nat, k ≤ l.length ∧ i = .int .i64 k ∧ Hid (CopAt wr g k l) ∧ Hid (∃ C, wr.heap[g]? = some (.cells C 34 (0, 0))) ∧ Below w.heap.size w wr) (fun _ i _ => l.length - (intOf i).toNat)
      case atStart => exact ⟨0, Nat.zero_le _, rfl, HCA.out, ⟨C, HGC.out⟩, hb⟩
      case round =>
        obtain ⟨k, hk, rfl, HA, HG, hbr⟩ := hrel
        obtain ⟨D, hD⟩ := HG.out
        have hgl := (Array.getElem?_eq_some_iff.1 hD).1
        have HGD := hide hD
        clear hD
        by_cases hlt : k < l.length
        · obtain ⟨pa, pb, pe, ca, cb, ce, hcs, hw, hx1, hx2, hx3⟩ := HA.out.rest k hlt (Nat.le_refl _)
          obtain ⟨c0, c1, c2, c3, c4, c5, c6, c7⟩ := hcs
          have hd := HD.out
          rw [wellM, List.all_eq_true] at hd
          have hd2 := hd _ (List.getElem_mem hlt)
          simp only [Bool.and_eq_true] at hd2
          obtain ⟨hkd, hal⟩ := head_args hd2.1.1
          have hct := cntL_take l k hlt
          have hct2 := St.cnt_eq l[k]
          have hct3 := cntL_take_le l (k + 1)
          have hl0 := HL.out
          have HIA := hide fun (W : World) (hW : Below wr.heap.size wr W) => clone_any 20 l[k].args pa ca W hkd (by omega) ((hx1.has has_av).has (has_below hW))
          have HIB := hide fun (W : World) (hW : Below wr.heap.size wr W) => IH.out l[k].body pb cb W hd2.1.2 (by omega) ((hx2.has has_av).has (has_below hW))
          have HIE := hide fun (W : World) (hW : Below wr.heap.size wr W) => IH.out l[k].els pe ce W hd2.2 (by omega) ((hx3.has has_av).has (has_below hW))
          have HW1 : Hid (Below wr.heap.size wr (wr.alloc (.cells #[.int .i64 l[k].kind, .int .i64 l[k].no, .string ⟨l[k].name.toArray⟩, .int .i64 l[k].typ, .string ⟨l[k].callee.toArray⟩, .slice pa l[k].args.length ca, .slice pb l[k].body.length cb, .slice pe l[k].els.length ce] 34))) := hide ((bl wr).al _)
          have HS1 := hide (heap_alloc_new wr (.cells #[.int .i64 l[k].kind, .int .i64 l[k].no, .string ⟨l[k].name.toArray⟩, .int .i64 l[k].typ, .string ⟨l[k].callee.toArray⟩, .slice pa l[k].args.length ca, .slice pb l[k].body.length cb, .slice pe l[k].els.length ce] 34))
          have HLT : Hid (wr.heap.size < (wr.alloc (.cells #[.int .i64 l[k].kind, .int .i64 l[k].no, .string ⟨l[k].name.toArray⟩, .int .i64 l[k].typ, .string ⟨l[k].callee.toArray⟩, .slice pa l[k].args.length ca, .slice pb l[k].body.length cb, .slice pe l[k].els.length ce] 34)).heap.size) := hide (by simp)
          clear hx1 hx2 hx3 hd hd2 hkd hw hal hct hct2 hct3 hl0
          go_wp2_with fail
          go_region_law
            (first | (go_simp; go_at_call 78; (with_reducible refine (HIA.out _ ?_).mono ?_); (· (first | exact HW1.out | exact HW1.out.dr)); rintro r w2 ⟨⟨a1, cp1, rfl, q1, q2, q3⟩, hb2⟩; (first | have HB2 := hide (HW1.out.tr hb2) | have HB2 := hide (HW1.out.dr.tr hb2)); have HS2 := hide ((hb2.block _ HLT.out).trans HS1.out); have HR1 := hide q3; have HE1 := hide (⟨q1, q2⟩ : _ ∧ _); have hz2 := hb2.size; have HL2 := hide (Nat.lt_of_lt_of_le HLT.out hz2); have x6 := cell_at (j := 6) HS2.out rfl; have x7 := cell_at (j := 7) HS2.out rfl; clear q3 q1 q2 hb2)
                   | (go_simp; go_at_call 44; (with_reducible refine (HIB.out _ ?_).mono ?_); (· (first | exact HB2.out | exact HB2.out.dr)); rintro r w3 ⟨⟨a2, cp2, rfl, q1, q2, q3⟩, hb3⟩; (first | have HB3 := hide (HB2.out.tr hb3) | have HB3 := hide (HB2.out.dr.tr hb3)); have hb3' := hide hb3; have HR2 := hide q3; have HE2 := hide (⟨q1, q2⟩ : _ ∧ _); have hz3 := hb3.size; have HS3 := hide ((hb3.block _ HL2.out).trans HS2.out); have x7 := cell_at (j := 7) HS3.out rfl; clear q3 q1 q2 hb3)
                   | (go_simp; go_at_call 44; (with_reducible refine (HIE.out _ ?_).mono ?_); (· (first | exact HB3.out | exact HB3.out.dr)); rintro r w4 ⟨⟨a3, cp3, rfl, q1, q2, q3⟩, hb4⟩; (first | have HB4 := hide (HB3.out.tr hb4) | have HB4 := hide (HB3.out.dr.tr hb4)); have hb4' := hide hb4; have HR3 := hide q3; have HE3 := hide (⟨q1, q2⟩ : _ ∧ _); have hz4 := hb4.size; have HD4 := hide ((HB4.out.block g hgl).trans HGD.out); have z5 := cell_keep c5 HB4.out (Nat.le_refl _); have z6 := cell_keep c6 HB4.out (Nat.le_refl _); have z7 := cell_keep c7 HB4.out (Nat.le_refl _); have y5 := free_at (j := k * 8 + 5) HD4.out; have y6 := free_at (j := k * 8 + 6) HD4.out; have y7 := free_at (j := k * 8 + 7) HD4.out; have hgl4 := Nat.lt_of_lt_of_le hgl HB4.out.size; clear q3 q1 q2 hb4))
          all_goals
            have HST := hide (HA.out.step hlt HB4.out hgl (Nat.le_trans (Nat.le_of_lt HLT.out) (Nat.le_refl _)) (Nat.le_refl _) (Nat.le_refl _) (Nat.le_refl _) (HR1.out.has (has_stay (stay_below (hb3'.out.tr hb4'.out)))) (HR2.out.stay (stay_below hb4'.out)) HR3.out HE1.out HE2.out HE3.out hz2)
            have HG6 := hide (heap_set (i := k * 8 + 7) (heap_set (i := k * 8 + 6) (heap_set (i := k * 8 + 5) HD4.out (.slice a1 l[k].args.length cp1)) (.slice a2 l[k].body.length cp2)) (.slice a3 l[k].els.length cp3))
            have HB6 := hide ((((hbr.tr HB4.out).setCell (p := ⟨g, k * 8 + 5, none⟩) hg0 (.slice a1 l[k].args.length cp1)).setCell (p := ⟨g, k * 8 + 6, none⟩) hg0 (.slice a2 l[k].body.length cp2)).setCell (p := ⟨g, k * 8 + 7, none⟩) hg0 (.slice a3 l[k].els.length cp3))
            clear x6 x7 z5 z6 z7 y5 y6 y7
            go_wp2_with fail
            go_roundw
            case rel => exact ⟨k + 1, by omega, by go_num, HST.out, ⟨_, HG6.out⟩, HB6.out⟩
            case measure => simp [intOf]; omega
        · obtain rfl : k = l.length := by omega
          have HROW := hide (rowOwn.of HGD.out hg0 hgl (by have := HA.out.own; rw [List.take_length] at this; exact this))
          go_wp2_with fail
          go_ret
          exact ⟨⟨_, cap', rfl, HH1.out, HH2.out, HROW.out⟩, hbr⟩
end Go.Proofs.YthpmecbekpmijaaGreatDoor
