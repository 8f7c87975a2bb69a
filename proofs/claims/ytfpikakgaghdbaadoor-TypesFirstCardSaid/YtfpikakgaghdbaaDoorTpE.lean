/- rewindlaw11.holds answers the type of an expression, and true, for every expression of the right shape. -/
import Derived.Test.YtfpikakgaghdbaaDoorTpD
import Derived.Test.YtfpikakgaghdbaaDoorTyF
import Derived.Test.YtfpikakgaghdbaaDoorMd0
namespace Go.Proofs.YtfpikakgaghdbaaDoor
open Go Go.RowKit
set_option linter.unusedSimpArgs false
set_option linter.unusedVariables false
set_option linter.unnecessarySimpa false
set_option maxRecDepth 100000 in
set_option maxHeartbeats 40000000 in
theorem holds_any (l : List Vr) (p : Int) (va : Option Addr) (vcap : Nat) (hT : ∀ v ∈ l, 1 ≤ v.typ ∧ v.typ ≤ 3) : ∀ (m : Nat) (e : Ex) (v : Value) (w : World), m ≤ 20 → depthM m e ≠ 0 → Ex.Val w e v → Vrs w l va vcap → Tab w →
    Calls Tryd.prog 15 #[.slice va l.length vcap, .int .i64 p, v] w fun r w' => r = .returned (.tuple #[.int .i64 (ofM l p e).1, .bool true]) ∧ Below w.heap.size w w' := by
  obtain ⟨i0, hi, hz0, hz1, hz2⟩ := info_parts info_int
  have hll : ∀ w, Vrs w l va vcap → l.length ≤ 9223372036854775807 := fun w hl => Nat.le_trans hl.len hl.cap
  intro m
  induction m with
  | zero => intro e v w _ h; exact absurd rfl h
  | succ m ih =>
    intro e v w hm hd hv hl hTab
    have hlenl := hll w hl
    clear hll
    obtain ⟨hf, hkids⟩ := depthM_kids hd
    obtain ⟨hgood, hwant⟩ := parts_law l p hT (m + 1) e hd
    have h20 : OfM l p e = ofM l p e := by unfold OfM; rw [exOk_mono (m + 1) (k := 20) hm hd, if_neg hd]
    have hof := fun W (hW : Below w.heap.size w W) => Of_any l p va vcap e v W (hl.keep hW (Nat.le_refl _)) (hv.keep hW (Nat.le_refl _)) (hTab.below hW)
    rw [h20] at hof
    clear h20 hd
    obtain ⟨T, F, hq⟩ : ∃ T F, ofM l p e = (T, F) := ⟨_, _, rfl⟩
    rw [hq] at hgood hwant hof ⊢
    clear hq
    obtain ⟨a, cap, rfl, hw, hr⟩ := hv
    cases e with
    | mk k o n s es =>
    simp only [Ex.fits, Ex.kind, Ex.op, Ex.num, Ex.name, Ex.args] at *
    have hcs := fitsM_cases hf
    have HOP := hide (fitsM_op hf)
    have hsm : es.length ≤ 2 := by omega
    have HIH := hide fun (i : Nat) (h : i < es.length) (x : Value) (W : World) (hW : Below w.heap.size w W) (hx : Ex.Val W es[i] x) => ih es[i] x W (by omega) (hkids _ (List.getElem_mem h)) hx (hl.keep hW (Nat.le_refl _)) (hTab.below hW)
    have HR := hide hr
    have HL := hide hl
    have HOF := hide hof
    have HTY := hide hT
    have HWANT := hide hwant
    have HGOOD := hide hgood
    have HCS := hide hcs
    clear ih hkids hf hl hr hw hTab hof hT hwant hgood hcs
    go_enter Tryd.func15, Tryd.ntmps15
    go_wp2_with fail
    (with_reducible refine (HOF.out _ ((bl w).al _)).mono ?_)
    rintro r w1 ⟨rfl, hb1⟩
    have e0 : w1.cell? ⟨w.heap.size, 0, none⟩ = some (.int .i64 k) := by rw [hb1.cell (by simp)]; go_simp
    have e1 : w1.cell? ⟨w.heap.size, 1, none⟩ = some (.int .i64 o) := by rw [hb1.cell (by simp)]; go_simp
    have e3 : w1.cell? ⟨w.heap.size, 3, none⟩ = some (.string ⟨s.toArray⟩) := by rw [hb1.cell (by simp)]; go_simp
    have e4 : w1.cell? ⟨w.heap.size, 4, none⟩ = some (.slice a es.length cap) := by rw [hb1.cell (by simp)]; go_simp
    have hbw1 := ((bl w).al _).tr hb1
    have hbox1 : w.heap.size < w1.heap.size := cell_lt e0
    clear hb1
    go_wp2_with fail
    go_loopw [10, 11, 34] (fun v fv i wr => ∃ (k : Nat) (ft : Bool), k ≤ es.length ∧ i = .int .i64 k ∧ fv = .bool ft ∧ Hid (ft = (es.take k).all fun x => (ofM l p x).1 != 0) ∧ wr.ownsRow w1.heap.size 3 1 v k (((es.take k).map fun e => (ofM l p e).1).map (Value.int .i64)) ∧ Below w1.heap.size w1 wr) (fun _ _ i _ => es.length - (intOf i).toNat)
    case atStart => exact ⟨0, true, Nat.zero_le _, rfl, rfl, by simp [Hid], by simpa using World.ownsRow_nil _ _ _ _, bl _⟩
    case round =>
      obtain ⟨j, ft, hj, rfl, rfl, hft, hown, hb⟩ := hrel
      have hbw := hbw1.tr hb
      have d0 := cell_keep e0 hb (Nat.le_refl _)
      have d1 := cell_keep e1 hb (Nat.le_refl _)
      have d3 := cell_keep e3 hb (Nat.le_refl _)
      have d4 := cell_keep e4 hb (Nat.le_refl _)
      have hboxl : w.heap.size < wr.heap.size := cell_lt d0
      have HOWN := hide hown
      clear hown
      by_cases hlt : j < es.length
      · obtain ⟨b, ob, rfl⟩ := HR.out.addr (by omega)
        obtain ⟨a', cap', c0, c1, c2, c3, c4, hw', hr'⟩ := ((HR.out.get j hlt).keep hbw (Nat.le_refl _)).val
        have HE := hide (Ex.Val.mk hw' hr')
        clear hw' hr'
        have hcall := fun W (hW : Below wr.heap.size wr W) => HIH.out j hlt _ W (hbw.tr hW) (HE.out.keep hW (Nat.le_refl _))
        have htk : es.take (j + 1) = es.take j ++ [es[j]] := List.take_succ_eq_append_getElem hlt
        have HTK := hide htk
        generalize es[j] = ej at *
        obtain ⟨t, hq⟩ : ∃ t, t = (ofM l p ej).1 := ⟨_, rfl⟩
        rw [← hq] at hcall
        have HCALL := hide hcall
        have HQ := hide hq
        clear hcall hq htk d0 d1 d3 d4
        go_wp2_with fail
        refine (HCALL.out _ ((bl _).al _)).mono ?_
        rintro r w2 ⟨rfl, hb2⟩
        obtain ⟨q, hq⟩ : ∃ q : Bool, (t != 0) = q := ⟨_, rfl⟩
        have HQ0 := hide hq.symm
        cases q <;> cases ft
        all_goals
          have hown2 := own_below (HOWN.out.alloc _) hb2
          have HOWN2 := hide hown2
          have hw2 : w1.heap.size ≤ w2.heap.size := by have := hb2.size; have := hb.size; simp at *; omega
          clear hown2
          go_wp2_with (at_builtin; refine wpList_append_own _ rfl _ _ 52 rfl w1.heap.size 3 i0 (.int .i64 0) 1 8 Tryd.underlying52 hi hz0 hz1 hz2 rfl (by decide) _ _ _ rfl (HOWN2.out.alloc _) ⟨w2.heap.size, 0, none⟩ 1 1 [.int .i64 t] rfl rfl (cell_one _ _ _ _ rfl) (by simp [Value.oneCell']) (by unfold maxLen; omega) (by omega) (by simp; omega) ?_; intro v' w3 hown' hgrow _)
          have hb3 : Below w1.heap.size w1 w3 := (((hb.al _).tr hb2).al _).grown hgrow (by simp; omega) (fun g hg => by have := (HOWN2.out.lt g hg).1; omega)
          go_roundw
          case rel =>
            refine ⟨j + 1, _, by omega, by go_num, rfl, ?_, ?_, hb3⟩
            · refine hide ?_
              rw [HTK.out, List.all_append, ← hft.out]
              simp [← HQ.out, ← HQ0.out]
            · have e1 : ((es.take (j + 1)).map fun e => (ofM l p e).1).map (Value.int .i64) = ((es.take j).map fun e => (ofM l p e).1).map (Value.int .i64) ++ [.int .i64 t] := by
                rw [HTK.out]; simp only [List.map_append, List.map_cons, List.map_nil, HQ.out]
              rw [e1]
              exact hown'
          case measure => simp [intOf]; omega
      · obtain rfl : j = es.length := by omega
        have hown := HOWN.out
        have hft := hft.out
        rw [List.take_of_length_le (Nat.le_refl _)] at hown hft
        obtain ⟨ga, gcap, rfl, hints⟩ := own_ints (l := es.map fun e => (ofM l p e).1) (by simpa using hown)
        rw [List.length_map]
        have hseen := fun W (hW : Below wr.heap.size wr W) => seen_any l va vcap s p W (HL.out.keep (hbw.tr hW) (Nat.le_refl _))
        have hgood := HGOOD.out
        have hwant := HWANT.out
        have hlt' := fun h => firstM_lt (l := l) (p := fun v => v.name == s && v.sees p) h
        have hown2 : ownM l p s = if (seenM l s p).2 && !s.isEmpty then (l[(seenM l s p).1]?.map Vr.typ).getD 0 else 0 := rfl
        rw [hown2] at hwant
        unfold seenM at *
        generalize firstM l (fun v => v.name == s && v.sees p) = iq at *
        obtain ⟨i, q⟩ := iq
        simp only at *
        have HSEEN := hide hseen
        have hcs := HCS.out
        clear hown hseen HOWN HIH HOF HWANT HGOOD HCS hown2 hsm hlt
        rcases hcs with ⟨hk, rfl, h0⟩ | ⟨rfl, hs, h0⟩ | ⟨rfl, rfl, h0⟩ | ⟨rfl, rfl, h0⟩ | ⟨rfl, hs, h0⟩ | ⟨rfl, hs, h0⟩
        · obtain rfl := List.eq_nil_of_length_eq_zero h0
          clear hlt' hints
          rcases hk with rfl | rfl
          · obtain rfl : T = 1 := by simpa [wantM] using hwant
            obtain rfl : F = 0 := by unfold GoodT at hgood; omega
            clear hwant hgood hft h0
            cases q
            · go_wp2_with fail
              (with_reducible refine (HSEEN.out _ (bl wr)).mono ?_)
              rintro r w3 ⟨rfl, hb3⟩
              obtain ⟨hc3, _⟩ := bcell hb3
              go_wp2_with fail
              go_ret2
              exact ⟨rfl, hbw.tr hb3⟩
            · go_wp2_with fail
              (with_reducible refine (HSEEN.out _ (bl wr)).mono ?_)
              rintro r w3 ⟨rfl, hb3⟩
              obtain ⟨hc3, _⟩ := bcell hb3
              go_wp2_with fail
              go_ret2
              exact ⟨rfl, hbw.tr hb3⟩
          · obtain rfl : T = 2 := by simpa [wantM] using hwant
            obtain rfl : F = 0 := by unfold GoodT at hgood; omega
            clear hwant hgood hft h0
            cases q
            · go_wp2_with fail
              (with_reducible refine (HSEEN.out _ (bl wr)).mono ?_)
              rintro r w3 ⟨rfl, hb3⟩
              obtain ⟨hc3, _⟩ := bcell hb3
              go_wp2_with fail
              go_ret2
              exact ⟨rfl, hbw.tr hb3⟩
            · go_wp2_with fail
              (with_reducible refine (HSEEN.out _ (bl wr)).mono ?_)
              rintro r w3 ⟨rfl, hb3⟩
              obtain ⟨hc3, _⟩ := bcell hb3
              go_wp2_with fail
              go_ret2
              exact ⟨rfl, hbw.tr hb3⟩
        · obtain rfl := List.eq_nil_of_length_eq_zero h0
          obtain ⟨c, t, rfl⟩ := List.exists_cons_of_ne_nil hs
          clear hints hft h0 hs
          cases q
          · obtain rfl : T = 0 := by simpa [wantM] using hwant
            have HF : Hid (F = 11 ∨ F = 12) := hide (by unfold GoodT at hgood; omega)
            clear hwant hgood
            obtain rfl | rfl := HF.out
            all_goals
              go_wp2_with fail
              (with_reducible refine (HSEEN.out _ (bl wr)).mono ?_)
              rintro r w3 ⟨rfl, hb3⟩
              obtain ⟨hc3, _⟩ := bcell hb3
              go_wp2_with fail
              go_ret2
              exact ⟨rfl, hbw.tr hb3⟩
          · have hi := hlt' rfl
            obtain ⟨b, ob, rfl⟩ := HL.out.addr (by omega)
            have hty := cell_keep (HL.out.at_ b ob rfl i hi).2.1 hbw (Nat.le_refl _)
            have hbb := cell_lt hty
            simp only at hbb
            have how := HTY.out _ (List.getElem_mem hi)
            have eo : (if (true && !(c :: t).isEmpty) = true then (l[i]?.map Vr.typ).getD 0 else 0) = l[i].typ := by simp [hi]
            rw [eo] at hwant
            clear eo
            generalize l[i].typ = ow at *
            obtain rfl : T = ow := by simpa [wantM] using hwant
            obtain rfl : F = 0 := by unfold GoodT at hgood; omega
            have hT0 : (T != 0) = true := by simp; omega
            clear hwant hgood how
            go_wp2_with fail
            (with_reducible refine (HSEEN.out _ (bl wr)).mono ?_)
            rintro r w3 ⟨rfl, hb3⟩
            obtain ⟨hc3, _⟩ := bcell hb3
            go_wp2_with fail
            go_ret2
            exact ⟨rfl, hbw.tr hb3⟩
        · match es, h0 with
          | [x], _ =>
            clear hlt'
            simp only [List.map_cons, List.map_nil, List.all_cons, List.all_nil, Bool.and_true] at hints hwant hft
            generalize (ofM l p x).1 = t0 at *
            obtain ⟨gb, gz, rfl⟩ := hints.addr (by simp)
            have ht0 : wr.cell? ⟨gb, gz, none⟩ = some (.int .i64 t0) := hints.at_ gb gz rfl 0 (by simp)
            have htl := cell_lt ht0
            simp only at htl
            by_cases hz : t0 = 0
            · subst hz
              obtain rfl : ft = false := by simpa using hft
              obtain rfl : T = 0 := by simpa [wantM] using hwant
              have HF : Hid (F = 11 ∨ F = 12) := hide (by unfold GoodT at hgood; omega)
              clear hwant hgood
              have HU := hide fun W => unary_any o 0 W
              generalize unaryM o 0 = u at HU
              obtain ⟨u1, u2⟩ := u
              clear hft
              cases q
              · go_wp2_with fail
                (with_reducible refine (HSEEN.out _ (bl wr)).mono ?_)
                rintro r w3 ⟨rfl, hb3⟩
                obtain ⟨hc3, _⟩ := bcell hb3
                go_wp2_with fail
                have hA : w3.cell? ⟨w.heap.size, 1, none⟩ = some (.int .i64 o) := by rw [hc3 _ _ hboxl]; exact d1
                have hB : w3.cell? ⟨gb, gz, none⟩ = some (.int .i64 0) := by rw [hc3 _ _ htl]; exact ht0
                clear hc3
                go_region_held3 (fun w' => w'.cell? ⟨w.heap.size, 1, none⟩ = some (.int .i64 o) ∧ w'.cell? ⟨gb, gz, none⟩ = some (.int .i64 0))
                  (first | exact ⟨cell_keep (w := w3.drew) hA hb4 (Nat.le_refl _), cell_keep (w := w3.drew) hB hb4 (Nat.le_refl _)⟩ | go_keep)
                  (first | (go_at_call 8; (with_reducible refine (HU.out _).mono ?_); rintro r w4 ⟨rfl, hb4⟩))
                obtain rfl | rfl := HF.out
                all_goals
                  go_wp2_with fail
                  go_ret2
                  exact ⟨rfl, (hbw.tr hb3).dr.tr hb4⟩
              · go_wp2_with fail
                (with_reducible refine (HSEEN.out _ (bl wr)).mono ?_)
                rintro r w3 ⟨rfl, hb3⟩
                obtain ⟨hc3, _⟩ := bcell hb3
                go_wp2_with fail
                have hA : w3.cell? ⟨w.heap.size, 1, none⟩ = some (.int .i64 o) := by rw [hc3 _ _ hboxl]; exact d1
                have hB : w3.cell? ⟨gb, gz, none⟩ = some (.int .i64 0) := by rw [hc3 _ _ htl]; exact ht0
                clear hc3
                go_region_held3 (fun w' => w'.cell? ⟨w.heap.size, 1, none⟩ = some (.int .i64 o) ∧ w'.cell? ⟨gb, gz, none⟩ = some (.int .i64 0))
                  (first | exact ⟨cell_keep (w := w3.drew) hA hb4 (Nat.le_refl _), cell_keep (w := w3.drew) hB hb4 (Nat.le_refl _)⟩ | go_keep)
                  (first | (go_at_call 8; (with_reducible refine (HU.out _).mono ?_); rintro r w4 ⟨rfl, hb4⟩))
                obtain rfl | rfl := HF.out
                all_goals
                  go_wp2_with fail
                  go_ret2
                  exact ⟨rfl, (hbw.tr hb3).dr.tr hb4⟩
            · obtain rfl : ft = true := by rw [hft]; simpa using hz
              have HU := hide fun W => unary_any o t0 W
              have hug := unary_good (t := t0) (HOP.out.1 rfl)
              obtain ⟨u1, u2, hu⟩ : ∃ u1 u2, unaryM o t0 = (u1, u2) := ⟨_, _, rfl⟩
              rw [hu] at HU hug
              by_cases h2 : u2 = 0
              · subst h2
                obtain rfl : T = u1 := by simpa [wantM, hu, hz] using hwant
                obtain rfl : F = 0 := by unfold GoodT at hgood hug; simp only at hug; omega
                have hT0 : (T != 0) = true := by unfold GoodT at hug; simp only at hug; simp; omega
                clear hwant hgood hft hu hz hug
                cases q
                · go_wp2_with fail
                  (with_reducible refine (HSEEN.out _ (bl wr)).mono ?_)
                  rintro r w3 ⟨rfl, hb3⟩
                  obtain ⟨hc3, _⟩ := bcell hb3
                  go_wp2_with fail
                  have hA : w3.cell? ⟨w.heap.size, 1, none⟩ = some (.int .i64 o) := by rw [hc3 _ _ hboxl]; exact d1
                  have hB : w3.cell? ⟨gb, gz, none⟩ = some (.int .i64 t0) := by rw [hc3 _ _ htl]; exact ht0
                  clear hc3
                  go_region_held3 (fun w' => w'.cell? ⟨w.heap.size, 1, none⟩ = some (.int .i64 o) ∧ w'.cell? ⟨gb, gz, none⟩ = some (.int .i64 t0))
                    (first | exact ⟨cell_keep (w := w3.drew) hA hb4 (Nat.le_refl _), cell_keep (w := w3.drew) hB hb4 (Nat.le_refl _)⟩ | go_keep)
                    (first | (go_at_call 8; (with_reducible refine (HU.out _).mono ?_); rintro r w4 ⟨rfl, hb4⟩))
                  go_wp2_with fail
                  go_ret2
                  exact ⟨rfl, (hbw.tr hb3).dr.tr hb4⟩
                · go_wp2_with fail
                  (with_reducible refine (HSEEN.out _ (bl wr)).mono ?_)
                  rintro r w3 ⟨rfl, hb3⟩
                  obtain ⟨hc3, _⟩ := bcell hb3
                  go_wp2_with fail
                  have hA : w3.cell? ⟨w.heap.size, 1, none⟩ = some (.int .i64 o) := by rw [hc3 _ _ hboxl]; exact d1
                  have hB : w3.cell? ⟨gb, gz, none⟩ = some (.int .i64 t0) := by rw [hc3 _ _ htl]; exact ht0
                  clear hc3
                  go_region_held3 (fun w' => w'.cell? ⟨w.heap.size, 1, none⟩ = some (.int .i64 o) ∧ w'.cell? ⟨gb, gz, none⟩ = some (.int .i64 t0))
                    (first | exact ⟨cell_keep (w := w3.drew) hA hb4 (Nat.le_refl _), cell_keep (w := w3.drew) hB hb4 (Nat.le_refl _)⟩ | go_keep)
                    (first | (go_at_call 8; (with_reducible refine (HU.out _).mono ?_); rintro r w4 ⟨rfl, hb4⟩))
                  go_wp2_with fail
                  go_ret2
                  exact ⟨rfl, (hbw.tr hb3).dr.tr hb4⟩
              · have h2' : (u2 == 0) = false := by simpa using h2
                obtain rfl : T = 0 := by simpa [wantM, hu, h2] using hwant
                have HF : Hid (F = 11 ∨ F = 12) := hide (by unfold GoodT at hgood; omega)
                clear hwant hgood hft hu h2 hz hug
                cases q
                · go_wp2_with fail
                  (with_reducible refine (HSEEN.out _ (bl wr)).mono ?_)
                  rintro r w3 ⟨rfl, hb3⟩
                  obtain ⟨hc3, _⟩ := bcell hb3
                  go_wp2_with fail
                  have hA : w3.cell? ⟨w.heap.size, 1, none⟩ = some (.int .i64 o) := by rw [hc3 _ _ hboxl]; exact d1
                  have hB : w3.cell? ⟨gb, gz, none⟩ = some (.int .i64 t0) := by rw [hc3 _ _ htl]; exact ht0
                  clear hc3
                  go_region_held3 (fun w' => w'.cell? ⟨w.heap.size, 1, none⟩ = some (.int .i64 o) ∧ w'.cell? ⟨gb, gz, none⟩ = some (.int .i64 t0))
                    (first | exact ⟨cell_keep (w := w3.drew) hA hb4 (Nat.le_refl _), cell_keep (w := w3.drew) hB hb4 (Nat.le_refl _)⟩ | go_keep)
                    (first | (go_at_call 8; (with_reducible refine (HU.out _).mono ?_); rintro r w4 ⟨rfl, hb4⟩))
                  obtain rfl | rfl := HF.out
                  all_goals
                    go_wp2_with fail
                    go_ret2
                    exact ⟨rfl, (hbw.tr hb3).dr.tr hb4⟩
                · go_wp2_with fail
                  (with_reducible refine (HSEEN.out _ (bl wr)).mono ?_)
                  rintro r w3 ⟨rfl, hb3⟩
                  obtain ⟨hc3, _⟩ := bcell hb3
                  go_wp2_with fail
                  have hA : w3.cell? ⟨w.heap.size, 1, none⟩ = some (.int .i64 o) := by rw [hc3 _ _ hboxl]; exact d1
                  have hB : w3.cell? ⟨gb, gz, none⟩ = some (.int .i64 t0) := by rw [hc3 _ _ htl]; exact ht0
                  clear hc3
                  go_region_held3 (fun w' => w'.cell? ⟨w.heap.size, 1, none⟩ = some (.int .i64 o) ∧ w'.cell? ⟨gb, gz, none⟩ = some (.int .i64 t0))
                    (first | exact ⟨cell_keep (w := w3.drew) hA hb4 (Nat.le_refl _), cell_keep (w := w3.drew) hB hb4 (Nat.le_refl _)⟩ | go_keep)
                    (first | (go_at_call 8; (with_reducible refine (HU.out _).mono ?_); rintro r w4 ⟨rfl, hb4⟩))
                  obtain rfl | rfl := HF.out
                  all_goals
                    go_wp2_with fail
                    go_ret2
                    exact ⟨rfl, (hbw.tr hb3).dr.tr hb4⟩
        · match es, h0 with
          | [x, y], _ =>
            clear hlt'
            simp only [List.map_cons, List.map_nil, List.all_cons, List.all_nil, Bool.and_true] at hints hwant hft
            generalize (ofM l p x).1 = t0 at *
            generalize (ofM l p y).1 = t1 at *
            obtain ⟨gb, gz, rfl⟩ := hints.addr (by simp)
            have ht0 : wr.cell? ⟨gb, gz, none⟩ = some (.int .i64 t0) := hints.at_ gb gz rfl 0 (by simp)
            have ht1 : wr.cell? ⟨gb, gz + 1, none⟩ = some (.int .i64 t1) := hints.at_ gb gz rfl 1 (by simp)
            have htl := cell_lt ht0
            simp only at htl
            by_cases hz : t0 ≠ 0 ∧ t1 ≠ 0
            · obtain ⟨hz, hz1⟩ := hz
              obtain rfl : ft = true := by rw [hft]; simp [hz, hz1]
              have HU := hide fun W => binary_any o t0 t1 W
              have hug := binary_good (a := t0) (b := t1) (HOP.out.2 rfl)
              obtain ⟨u1, u2, hu⟩ : ∃ u1 u2, binaryM o t0 t1 = (u1, u2) := ⟨_, _, rfl⟩
              rw [hu] at HU hug
              by_cases h2 : u2 = 0
              · subst h2
                obtain rfl : T = u1 := by simpa [wantM, hu, hz, hz1] using hwant
                obtain rfl : F = 0 := by unfold GoodT at hgood hug; simp only at hug; omega
                have hT0 : (T != 0) = true := by unfold GoodT at hug; simp only at hug; simp; omega
                clear hwant hgood hft hu hz hz1 hug
                cases q
                · go_wp2_with fail
                  (with_reducible refine (HSEEN.out _ (bl wr)).mono ?_)
                  rintro r w3 ⟨rfl, hb3⟩
                  obtain ⟨hc3, _⟩ := bcell hb3
                  go_wp2_with fail
                  have hA : w3.cell? ⟨w.heap.size, 1, none⟩ = some (.int .i64 o) := by rw [hc3 _ _ hboxl]; exact d1
                  have hB : w3.cell? ⟨gb, gz, none⟩ = some (.int .i64 t0) := by rw [hc3 _ _ htl]; exact ht0
                  have hC : w3.cell? ⟨gb, gz + 1, none⟩ = some (.int .i64 t1) := by rw [hc3 _ _ htl]; exact ht1
                  clear hc3
                  go_region_held3 (fun w' => w'.cell? ⟨w.heap.size, 1, none⟩ = some (.int .i64 o) ∧ w'.cell? ⟨gb, gz, none⟩ = some (.int .i64 t0) ∧ w'.cell? ⟨gb, gz + 1, none⟩ = some (.int .i64 t1))
                    (first | exact ⟨cell_keep (w := w3.drew) hA hb4 (Nat.le_refl _), cell_keep (w := w3.drew) hB hb4 (Nat.le_refl _), cell_keep (w := w3.drew) hC hb4 (Nat.le_refl _)⟩ | go_keep)
                    (first | (go_at_call 10; (with_reducible refine (HU.out _).mono ?_); rintro r w4 ⟨rfl, hb4⟩))
                  go_wp2_with fail
                  go_ret2
                  exact ⟨rfl, (hbw.tr hb3).dr.tr hb4⟩
                · go_wp2_with fail
                  (with_reducible refine (HSEEN.out _ (bl wr)).mono ?_)
                  rintro r w3 ⟨rfl, hb3⟩
                  obtain ⟨hc3, _⟩ := bcell hb3
                  go_wp2_with fail
                  have hA : w3.cell? ⟨w.heap.size, 1, none⟩ = some (.int .i64 o) := by rw [hc3 _ _ hboxl]; exact d1
                  have hB : w3.cell? ⟨gb, gz, none⟩ = some (.int .i64 t0) := by rw [hc3 _ _ htl]; exact ht0
                  have hC : w3.cell? ⟨gb, gz + 1, none⟩ = some (.int .i64 t1) := by rw [hc3 _ _ htl]; exact ht1
                  clear hc3
                  go_region_held3 (fun w' => w'.cell? ⟨w.heap.size, 1, none⟩ = some (.int .i64 o) ∧ w'.cell? ⟨gb, gz, none⟩ = some (.int .i64 t0) ∧ w'.cell? ⟨gb, gz + 1, none⟩ = some (.int .i64 t1))
                    (first | exact ⟨cell_keep (w := w3.drew) hA hb4 (Nat.le_refl _), cell_keep (w := w3.drew) hB hb4 (Nat.le_refl _), cell_keep (w := w3.drew) hC hb4 (Nat.le_refl _)⟩ | go_keep)
                    (first | (go_at_call 10; (with_reducible refine (HU.out _).mono ?_); rintro r w4 ⟨rfl, hb4⟩))
                  go_wp2_with fail
                  go_ret2
                  exact ⟨rfl, (hbw.tr hb3).dr.tr hb4⟩
              · have h2' : (u2 == 0) = false := by simpa using h2
                obtain rfl : T = 0 := by simpa [wantM, hu, h2] using hwant
                have HF : Hid (F = 11 ∨ F = 12) := hide (by unfold GoodT at hgood; omega)
                clear hwant hgood hft hu h2 hz hz1 hug
                cases q
                · go_wp2_with fail
                  (with_reducible refine (HSEEN.out _ (bl wr)).mono ?_)
                  rintro r w3 ⟨rfl, hb3⟩
                  obtain ⟨hc3, _⟩ := bcell hb3
                  go_wp2_with fail
                  have hA : w3.cell? ⟨w.heap.size, 1, none⟩ = some (.int .i64 o) := by rw [hc3 _ _ hboxl]; exact d1
                  have hB : w3.cell? ⟨gb, gz, none⟩ = some (.int .i64 t0) := by rw [hc3 _ _ htl]; exact ht0
                  have hC : w3.cell? ⟨gb, gz + 1, none⟩ = some (.int .i64 t1) := by rw [hc3 _ _ htl]; exact ht1
                  clear hc3
                  go_region_held3 (fun w' => w'.cell? ⟨w.heap.size, 1, none⟩ = some (.int .i64 o) ∧ w'.cell? ⟨gb, gz, none⟩ = some (.int .i64 t0) ∧ w'.cell? ⟨gb, gz + 1, none⟩ = some (.int .i64 t1))
                    (first | exact ⟨cell_keep (w := w3.drew) hA hb4 (Nat.le_refl _), cell_keep (w := w3.drew) hB hb4 (Nat.le_refl _), cell_keep (w := w3.drew) hC hb4 (Nat.le_refl _)⟩ | go_keep)
                    (first | (go_at_call 10; (with_reducible refine (HU.out _).mono ?_); rintro r w4 ⟨rfl, hb4⟩))
                  obtain rfl | rfl := HF.out
                  all_goals
                    go_wp2_with fail
                    go_ret2
                    exact ⟨rfl, (hbw.tr hb3).dr.tr hb4⟩
                · go_wp2_with fail
                  (with_reducible refine (HSEEN.out _ (bl wr)).mono ?_)
                  rintro r w3 ⟨rfl, hb3⟩
                  obtain ⟨hc3, _⟩ := bcell hb3
                  go_wp2_with fail
                  have hA : w3.cell? ⟨w.heap.size, 1, none⟩ = some (.int .i64 o) := by rw [hc3 _ _ hboxl]; exact d1
                  have hB : w3.cell? ⟨gb, gz, none⟩ = some (.int .i64 t0) := by rw [hc3 _ _ htl]; exact ht0
                  have hC : w3.cell? ⟨gb, gz + 1, none⟩ = some (.int .i64 t1) := by rw [hc3 _ _ htl]; exact ht1
                  clear hc3
                  go_region_held3 (fun w' => w'.cell? ⟨w.heap.size, 1, none⟩ = some (.int .i64 o) ∧ w'.cell? ⟨gb, gz, none⟩ = some (.int .i64 t0) ∧ w'.cell? ⟨gb, gz + 1, none⟩ = some (.int .i64 t1))
                    (first | exact ⟨cell_keep (w := w3.drew) hA hb4 (Nat.le_refl _), cell_keep (w := w3.drew) hB hb4 (Nat.le_refl _), cell_keep (w := w3.drew) hC hb4 (Nat.le_refl _)⟩ | go_keep)
                    (first | (go_at_call 10; (with_reducible refine (HU.out _).mono ?_); rintro r w4 ⟨rfl, hb4⟩))
                  obtain rfl | rfl := HF.out
                  all_goals
                    go_wp2_with fail
                    go_ret2
                    exact ⟨rfl, (hbw.tr hb3).dr.tr hb4⟩
            · obtain rfl : ft = false := by
                rw [hft]
                by_cases h0 : t0 = 0
                · simp [h0]
                · have h1 : t1 = 0 := by omega
                  simp [h1]
              obtain rfl : T = 0 := by
                by_cases h0 : t0 = 0
                · simpa [wantM, h0] using hwant
                · have h1 : t1 = 0 := by omega
                  simpa [wantM, h1] using hwant
              have HF : Hid (F = 11 ∨ F = 12) := hide (by unfold GoodT at hgood; omega)
              have HU := hide fun W => binary_any o t0 t1 W
              generalize binaryM o t0 t1 = u at HU
              obtain ⟨u1, u2⟩ := u
              clear hwant hgood hft hz
              cases q
              · go_wp2_with fail
                (with_reducible refine (HSEEN.out _ (bl wr)).mono ?_)
                rintro r w3 ⟨rfl, hb3⟩
                obtain ⟨hc3, _⟩ := bcell hb3
                go_wp2_with fail
                have hA : w3.cell? ⟨w.heap.size, 1, none⟩ = some (.int .i64 o) := by rw [hc3 _ _ hboxl]; exact d1
                have hB : w3.cell? ⟨gb, gz, none⟩ = some (.int .i64 t0) := by rw [hc3 _ _ htl]; exact ht0
                have hC : w3.cell? ⟨gb, gz + 1, none⟩ = some (.int .i64 t1) := by rw [hc3 _ _ htl]; exact ht1
                clear hc3
                go_region_held3 (fun w' => w'.cell? ⟨w.heap.size, 1, none⟩ = some (.int .i64 o) ∧ w'.cell? ⟨gb, gz, none⟩ = some (.int .i64 t0) ∧ w'.cell? ⟨gb, gz + 1, none⟩ = some (.int .i64 t1))
                  (first | exact ⟨cell_keep (w := w3.drew) hA hb4 (Nat.le_refl _), cell_keep (w := w3.drew) hB hb4 (Nat.le_refl _), cell_keep (w := w3.drew) hC hb4 (Nat.le_refl _)⟩ | go_keep)
                  (first | (go_at_call 10; (with_reducible refine (HU.out _).mono ?_); rintro r w4 ⟨rfl, hb4⟩))
                obtain rfl | rfl := HF.out
                all_goals
                  go_wp2_with fail
                  go_ret2
                  exact ⟨rfl, (hbw.tr hb3).dr.tr hb4⟩
              · go_wp2_with fail
                (with_reducible refine (HSEEN.out _ (bl wr)).mono ?_)
                rintro r w3 ⟨rfl, hb3⟩
                obtain ⟨hc3, _⟩ := bcell hb3
                go_wp2_with fail
                have hA : w3.cell? ⟨w.heap.size, 1, none⟩ = some (.int .i64 o) := by rw [hc3 _ _ hboxl]; exact d1
                have hB : w3.cell? ⟨gb, gz, none⟩ = some (.int .i64 t0) := by rw [hc3 _ _ htl]; exact ht0
                have hC : w3.cell? ⟨gb, gz + 1, none⟩ = some (.int .i64 t1) := by rw [hc3 _ _ htl]; exact ht1
                clear hc3
                go_region_held3 (fun w' => w'.cell? ⟨w.heap.size, 1, none⟩ = some (.int .i64 o) ∧ w'.cell? ⟨gb, gz, none⟩ = some (.int .i64 t0) ∧ w'.cell? ⟨gb, gz + 1, none⟩ = some (.int .i64 t1))
                  (first | exact ⟨cell_keep (w := w3.drew) hA hb4 (Nat.le_refl _), cell_keep (w := w3.drew) hB hb4 (Nat.le_refl _), cell_keep (w := w3.drew) hC hb4 (Nat.le_refl _)⟩ | go_keep)
                  (first | (go_at_call 10; (with_reducible refine (HU.out _).mono ?_); rintro r w4 ⟨rfl, hb4⟩))
                obtain rfl | rfl := HF.out
                all_goals
                  go_wp2_with fail
                  go_ret2
                  exact ⟨rfl, (hbw.tr hb3).dr.tr hb4⟩
        · match es, h0 with
          | [x], _ =>
            obtain ⟨c, t, rfl⟩ := List.exists_cons_of_ne_nil hs
            simp only [List.map_cons, List.map_nil, List.all_cons, List.all_nil, Bool.and_true] at hints hwant hft
            generalize (ofM l p x).1 = t0 at *
            obtain ⟨gb, gz, rfl⟩ := hints.addr (by simp)
            have ht0 : wr.cell? ⟨gb, gz, none⟩ = some (.int .i64 t0) := hints.at_ gb gz rfl 0 (by simp)
            have htl := cell_lt ht0
            simp only at htl
            clear hft hs
            cases q
            · obtain rfl : T = 0 := by simpa [wantM] using hwant
              have HF : Hid (F = 11 ∨ F = 12) := hide (by unfold GoodT at hgood; omega)
              clear hwant hgood
              obtain rfl | rfl := HF.out
              all_goals
                go_wp2_with fail
                (with_reducible refine (HSEEN.out _ (bl wr)).mono ?_)
                rintro r w3 ⟨rfl, hb3⟩
                obtain ⟨hc3, _⟩ := bcell hb3
                go_wp2_with fail
                go_ret2
                exact ⟨rfl, hbw.tr hb3⟩
            · have hi := hlt' rfl
              obtain ⟨b, ob, rfl⟩ := HL.out.addr (by omega)
              have hty := cell_keep (HL.out.at_ b ob rfl i hi).2.1 hbw (Nat.le_refl _)
              have hbb := cell_lt hty
              simp only at hbb
              have how := HTY.out _ (List.getElem_mem hi)
              have eo : (if (true && !(c :: t).isEmpty) = true then (l[i]?.map Vr.typ).getD 0 else 0) = l[i].typ := by simp [hi]
              rw [eo] at hwant
              clear eo
              generalize l[i].typ = ow at *
              by_cases h3 : ow = 3
              · subst h3
                by_cases h1 : t0 = 1
                · subst h1
                  obtain rfl : T = 1 := by simpa [wantM] using hwant
                  obtain rfl : F = 0 := by unfold GoodT at hgood; omega
                  clear hwant hgood
                  go_wp2_with fail
                  (with_reducible refine (HSEEN.out _ (bl wr)).mono ?_)
                  rintro r w3 ⟨rfl, hb3⟩
                  obtain ⟨hc3, _⟩ := bcell hb3
                  go_wp2_with fail
                  go_ret2
                  exact ⟨rfl, hbw.tr hb3⟩
                · have h1' : (t0 == 1) = false := by simpa using h1
                  obtain rfl : T = 0 := by simpa [wantM, h1] using hwant
                  have HF : Hid (F = 11 ∨ F = 12) := hide (by unfold GoodT at hgood; omega)
                  clear hwant hgood
                  obtain rfl | rfl := HF.out
                  all_goals
                    go_wp2_with fail
                    (with_reducible refine (HSEEN.out _ (bl wr)).mono ?_)
                    rintro r w3 ⟨rfl, hb3⟩
                    obtain ⟨hc3, _⟩ := bcell hb3
                    go_wp2_with fail
                    go_ret2
                    exact ⟨rfl, hbw.tr hb3⟩
              · have h3' : (ow == 3) = false := by simpa using h3
                obtain rfl : T = 0 := by simpa [wantM, h3] using hwant
                have HF : Hid (F = 11 ∨ F = 12) := hide (by unfold GoodT at hgood; omega)
                clear hwant hgood
                obtain rfl | rfl := HF.out
                all_goals
                  go_wp2_with fail
                  (with_reducible refine (HSEEN.out _ (bl wr)).mono ?_)
                  rintro r w3 ⟨rfl, hb3⟩
                  obtain ⟨hc3, _⟩ := bcell hb3
                  go_wp2_with fail
                  go_ret2
                  exact ⟨rfl, hbw.tr hb3⟩
        · obtain rfl := List.eq_nil_of_length_eq_zero h0
          obtain ⟨c, t, rfl⟩ := List.exists_cons_of_ne_nil hs
          clear hints hft h0 hs
          cases q
          · obtain rfl : T = 0 := by simpa [wantM] using hwant
            have HF : Hid (F = 11 ∨ F = 12) := hide (by unfold GoodT at hgood; omega)
            clear hwant hgood
            obtain rfl | rfl := HF.out
            all_goals
              go_wp2_with fail
              (with_reducible refine (HSEEN.out _ (bl wr)).mono ?_)
              rintro r w3 ⟨rfl, hb3⟩
              obtain ⟨hc3, _⟩ := bcell hb3
              go_wp2_with fail
              go_ret2
              exact ⟨rfl, hbw.tr hb3⟩
          · have hi := hlt' rfl
            obtain ⟨b, ob, rfl⟩ := HL.out.addr (by omega)
            have hty := cell_keep (HL.out.at_ b ob rfl i hi).2.1 hbw (Nat.le_refl _)
            have hbb := cell_lt hty
            simp only at hbb
            have how := HTY.out _ (List.getElem_mem hi)
            have eo : (if (true && !(c :: t).isEmpty) = true then (l[i]?.map Vr.typ).getD 0 else 0) = l[i].typ := by simp [hi]
            rw [eo] at hwant
            clear eo
            generalize l[i].typ = ow at *
            by_cases h3 : ow = 3
            · subst h3
              obtain rfl : T = 1 := by simpa [wantM] using hwant
              obtain rfl : F = 0 := by unfold GoodT at hgood; omega
              clear hwant hgood
              go_wp2_with fail
              (with_reducible refine (HSEEN.out _ (bl wr)).mono ?_)
              rintro r w3 ⟨rfl, hb3⟩
              obtain ⟨hc3, _⟩ := bcell hb3
              go_wp2_with fail
              go_ret2
              exact ⟨rfl, hbw.tr hb3⟩
            · have h3' : (ow == 3) = false := by simpa using h3
              obtain rfl : T = 0 := by simpa [wantM, h3] using hwant
              have HF : Hid (F = 11 ∨ F = 12) := hide (by unfold GoodT at hgood; omega)
              clear hwant hgood
              obtain rfl | rfl := HF.out
              all_goals
                go_wp2_with fail
                (with_reducible refine (HSEEN.out _ (bl wr)).mono ?_)
                rintro r w3 ⟨rfl, hb3⟩
                obtain ⟨hc3, _⟩ := bcell hb3
                go_wp2_with fail
                go_ret2
                exact ⟨rfl, hbw.tr hb3⟩
end Go.Proofs.YtfpikakgaghdbaaDoor
