/- types.scope.of answers ofM for every expression of the right shape and every list of variables in memory. -/
import Derived.Deep.RegionHeld3
import Derived.Test.YtfpikakgaghdbaaDoorTyC
namespace Go.Proofs.YtfpikakgaghdbaaDoor
open Go Go.RowKit
set_option linter.unusedSimpArgs false
set_option linter.unusedVariables false
set_option linter.unnecessarySimpa false
theorem depthM_kids {m : Nat} {e : Ex} (h : depthM (m + 1) e ≠ 0) : e.fits = true ∧ ∀ x ∈ e.args, depthM m x ≠ 0 := by
  rw [depthM] at h
  split at h
  · rename_i h1
    simp only [Bool.and_eq_true, Bool.not_eq_true', ← Bool.not_eq_true, List.contains_iff_mem] at h1
    exact ⟨h1.1, fun x hx e0 => h1.2 (List.mem_map.2 ⟨x, hx, e0⟩)⟩
  · exact absurd rfl h
/-- What the shape of an expression says, kind by kind. -/
theorem fitsM_cases {k o n : Int} {s : Bytes} {len : Nat} (h : fitsM k o n s len = true) :
    ((k = 1 ∨ k = 2) ∧ s = [] ∧ len = 0) ∨ (k = 3 ∧ s ≠ [] ∧ len = 0) ∨ (k = 4 ∧ s = [] ∧ len = 1) ∨ (k = 5 ∧ s = [] ∧ len = 2) ∨ (k = 6 ∧ s ≠ [] ∧ len = 1) ∨ (k = 7 ∧ s ≠ [] ∧ len = 0) := by
  unfold fitsM partOf at h
  by_cases h1 : k = 1
  · subst h1; simp at h; exact .inl ⟨.inl rfl, h.1.1.1.1, h.2⟩
  by_cases h2 : k = 2
  · subst h2; simp at h; exact .inl ⟨.inr rfl, h.1.1.1.1.1, h.2⟩
  by_cases h3 : k = 3
  · subst h3; simp at h; exact .inr (.inl ⟨rfl, h.1.1.1.1.1.1, h.2⟩)
  by_cases h4 : k = 4
  · subst h4; simp at h; exact .inr (.inr (.inl ⟨rfl, h.1.1.1.1.1, h.2⟩))
  by_cases h5 : k = 5
  · subst h5; simp at h; exact .inr (.inr (.inr (.inl ⟨rfl, h.1.1.1.1.1, h.2⟩)))
  by_cases h6 : k = 6
  · subst h6; simp at h; exact .inr (.inr (.inr (.inr (.inl ⟨rfl, h.1.1.1.1.1.1, h.2⟩))))
  by_cases h7 : k = 7
  · subst h7; simp at h; exact .inr (.inr (.inr (.inr (.inr ⟨rfl, h.1.1.1.1.1.1, h.2⟩))))
  simp [h1, h2, h3, h4, h5, h6, h7] at h
theorem allM_len (l : List Vr) (p : Int) : ∀ (es : List Ex) (ts : List Int), allM l p es = (0, ts) → ts.length = es.length
  | [], ts, h => by simp only [allM, Prod.mk.injEq] at h; rw [← h.2]; rfl
  | e :: es, ts, h => by
    simp only [allM] at h
    split at h
    · rename_i h1
      simp only [Prod.mk.injEq] at h
      exact absurd h.1 h1
    · split at h
      · rename_i h1
        rw [h] at h1
        exact absurd rfl h1
      · rename_i h1
        simp only [Prod.mk.injEq, true_and] at h
        have h2 := allM_len l p es _ (show allM l p es = (0, (allM l p es).2) from Prod.ext (by simpa using h1) rfl)
        rw [← h]
        simpa using h2
theorem ofM_empty {l : List Vr} {p k o n : Int} {es : List Ex} {f : Int} {ts : List Int} (h : allM l p es = (f, ts)) : ofM l p (.mk k o n [] es) = if f ≠ 0 then (0, f) else finM k o 0 ts := by
  simp [ofM, h]
theorem ofM_name {l : List Vr} {p k o n : Int} {c : UInt8} {t : Bytes} {es : List Ex} {f : Int} {ts : List Int} {own g : Int} (h : allM l p es = (f, ts)) (h2 : typM l p (c :: t) = (own, g)) :
    ofM l p (.mk k o n (c :: t) es) = if g ≠ 0 then (0, g) else if f ≠ 0 then (0, f) else finM k o own ts := by
  simp [ofM, h, h2]
set_option maxRecDepth 100000 in
set_option maxHeartbeats 4000000 in
theorem of_any (l : List Vr) (p : Int) (va : Option Addr) (vcap : Nat) : ∀ (m : Nat) (e : Ex) (v : Value) (w : World), depthM m e ≠ 0 → Ex.Val w e v → Vrs w l va vcap →
    Calls Tryd.prog 37 #[.agg #[.slice va l.length vcap, .int .i64 p], v] w fun r w' => r = .returned (.tuple #[.int .i64 (ofM l p e).1, .int .i64 (ofM l p e).2]) ∧ Below w.heap.size w w' := by
  intro m
  induction m with
  | zero => intro e v w h; exact absurd rfl h
  | succ m ih =>
    intro e v w hd hv hl
    obtain ⟨hf, hkids⟩ := depthM_kids hd
    obtain ⟨a, cap, rfl, hw, hr⟩ := hv
    cases e with
    | mk k o n s es =>
    simp only [Ex.fits, Ex.kind, Ex.op, Ex.num, Ex.name, Ex.args] at *
    have hcs := fitsM_cases hf
    have htyp := fun W (hW : Below w.heap.size w W) => typ_any l va vcap p s W (hl.keep hW (Nat.le_refl _))
    have hsm : es.length ≤ 2 := by omega
    have hall := fun W (hW : Below w.heap.size w W) => all_any l p va vcap es a cap W (by omega) (hr.keep hW (Nat.le_refl _)) (fun i hi v W' hW' hv => ih es[i] v W' (hkids _ (List.getElem_mem hi)) hv (hl.keep (hW.tr hW') (Nat.le_refl _)))
    clear ih hkids hd hf hl hr hw
    obtain ⟨f, ts, hq⟩ : ∃ f ts, allM l p es = (f, ts) := ⟨_, _, rfl⟩
    have hlen : f = 0 → ts.length = es.length := fun h => allM_len l p es ts (by rw [hq, h])
    simp only [hq] at hall
    have HALL := hide hall
    clear hall
    match s with
    | [] =>
      have hof := ofM_empty (k := k) (o := o) (n := n) hq
      rw [hof]
      clear hof htyp hq
      by_cases hz : f = 0
      · subst hz
        have hl0 := hlen rfl
        clear hlen
        rw [if_neg (by simp)]
        have hcs' : (k = 1 ∨ k = 2) ∧ es.length = 0 ∨ k = 4 ∧ es.length = 1 ∨ k = 5 ∧ es.length = 2 := by
          rcases hcs with h | h | h | h | h | h
          · exact .inl ⟨h.1, h.2.2⟩
          · exact absurd rfl h.2.1
          · exact .inr (.inl ⟨h.1, h.2.2⟩)
          · exact .inr (.inr ⟨h.1, h.2.2⟩)
          · exact absurd rfl h.2.1
          · exact absurd rfl h.2.1
        clear hcs
        rcases hcs' with ⟨rfl | rfl, h0⟩ | ⟨rfl, h0⟩ | ⟨rfl, h0⟩
        · rw [h0] at HALL ⊢
          clear h0 hl0 hsm
          go_enter Tryd.func37, Tryd.ntmps37
          go_wp2_with fail
          refine (HALL.out _ (((bl w).al _).al _)).mono ?_
          rintro r w1 ⟨ra, rcap, rfl, hints, hb⟩
          obtain ⟨hc, _⟩ := bcell hb
          go_wp2_with fail
          go_ret2
          exact ⟨rfl, (((bl w).al _).al _).tr hb⟩
        · rw [h0] at HALL ⊢
          clear h0 hl0 hsm
          go_enter Tryd.func37, Tryd.ntmps37
          go_wp2_with fail
          refine (HALL.out _ (((bl w).al _).al _)).mono ?_
          rintro r w1 ⟨ra, rcap, rfl, hints, hb⟩
          obtain ⟨hc, _⟩ := bcell hb
          go_wp2_with fail
          go_ret2
          exact ⟨rfl, (((bl w).al _).al _).tr hb⟩
        · rw [h0] at HALL hl0 ⊢
          clear hsm h0
          match ts, hl0 with
          | [t0], _ =>
            go_enter Tryd.func37, Tryd.ntmps37
            go_wp2_with fail
            refine (HALL.out _ (((bl w).al _).al _)).mono ?_
            rintro r w1 ⟨ra, rcap, rfl, hints, hb⟩
            obtain ⟨b, ob, rfl⟩ := hints.addr (by simp)
            have ht0 := hints.at_ b ob rfl 0 (by simp)
            obtain ⟨hc, _⟩ := bcell hb
            go_wp2_with fail
            have hA : w1.cell? ⟨w.heap.size + 1, 1, none⟩ = some (.int .i64 o) := by go_simp
            have hB : w1.cell? ⟨b, ob, none⟩ = some (.int .i64 t0) := ht0
            clear hc ht0
            go_region_held3 (fun w' => w'.cell? ⟨w.heap.size + 1, 1, none⟩ = some (.int .i64 o) ∧ w'.cell? ⟨b, ob, none⟩ = some (.int .i64 t0))
              (first | exact ⟨cell_keep (w := w1.drew) hA hb2 (Nat.le_refl _), cell_keep (w := w1.drew) hB hb2 (Nat.le_refl _)⟩ | go_keep)
              (first | (go_at_call 8; refine (unary_any _ _ _).mono ?_; rintro r w2 ⟨rfl, hb2⟩))
            go_wp2_with fail
            go_ret2
            exact ⟨rfl, ((((bl w).al _).al _).tr hb).dr.tr hb2⟩
        · rw [h0] at HALL hl0 ⊢
          clear hsm h0
          match ts, hl0 with
          | [t0, t1], _ =>
            go_enter Tryd.func37, Tryd.ntmps37
            go_wp2_with fail
            refine (HALL.out _ (((bl w).al _).al _)).mono ?_
            rintro r w1 ⟨ra, rcap, rfl, hints, hb⟩
            obtain ⟨b, ob, rfl⟩ := hints.addr (by simp)
            have ht0 := hints.at_ b ob rfl 0 (by simp)
            have ht1 := hints.at_ b ob rfl 1 (by simp)
            obtain ⟨hc, _⟩ := bcell hb
            go_wp2_with fail
            have hA : w1.cell? ⟨w.heap.size + 1, 1, none⟩ = some (.int .i64 o) := by go_simp
            have hB : w1.cell? ⟨b, ob, none⟩ = some (.int .i64 t0) := ht0
            have hC : w1.cell? ⟨b, ob + 1, none⟩ = some (.int .i64 t1) := ht1
            clear hc ht0 ht1
            go_region_held3 (fun w' => w'.cell? ⟨w.heap.size + 1, 1, none⟩ = some (.int .i64 o) ∧ w'.cell? ⟨b, ob, none⟩ = some (.int .i64 t0) ∧ w'.cell? ⟨b, ob + 1, none⟩ = some (.int .i64 t1))
              (first | exact ⟨cell_keep (w := w1.drew) hA hb2 (Nat.le_refl _), cell_keep (w := w1.drew) hB hb2 (Nat.le_refl _), cell_keep (w := w1.drew) hC hb2 (Nat.le_refl _)⟩ | go_keep)
              (first | (go_at_call 10; refine (binary_any _ _ _ _).mono ?_; rintro r w2 ⟨rfl, hb2⟩))
            go_wp2_with fail
            go_ret2
            exact ⟨rfl, ((((bl w).al _).al _).tr hb).dr.tr hb2⟩
      · rw [if_pos hz]
        have hz1 : (f != 0) = true := by simpa using hz
        clear hlen hcs hsm
        go_enter Tryd.func37, Tryd.ntmps37
        go_wp2_with fail
        refine (HALL.out _ (((bl w).al _).al _)).mono ?_
        rintro r w1 ⟨ra, rcap, rfl, hints, hb⟩
        obtain ⟨hc, _⟩ := bcell hb
        go_wp2_with fail
        go_ret2
        exact ⟨rfl, (((bl w).al _).al _).tr hb⟩
    | c :: t =>
      obtain ⟨own, g, hq2⟩ : ∃ own g, typM l p (c :: t) = (own, g) := ⟨_, _, rfl⟩
      have hof := ofM_name (k := k) (o := o) (n := n) hq hq2
      rw [hof]
      simp only [hq2] at htyp
      have HTYP := hide htyp
      clear hof hq hq2 htyp
      by_cases hg : g = 0
      · subst hg
        rw [if_neg (by simp)]
        by_cases hz : f = 0
        · subst hz
          have hl0 := hlen rfl
          clear hlen
          rw [if_neg (by simp)]
          have hcs' : (k = 3 ∧ es.length = 0) ∨ (k = 6 ∧ es.length = 1) ∨ (k = 7 ∧ es.length = 0) := by
            rcases hcs with h | h | h | h | h | h
            · exact nomatch h.2.1
            · exact .inl ⟨h.1, h.2.2⟩
            · exact nomatch h.2.1
            · exact nomatch h.2.1
            · exact .inr (.inl ⟨h.1, h.2.2⟩)
            · exact .inr (.inr ⟨h.1, h.2.2⟩)
          clear hcs
          rcases hcs' with ⟨rfl, h0⟩ | ⟨rfl, h0⟩ | ⟨rfl, h0⟩
          · rw [h0] at HALL ⊢
            clear h0 hl0 hsm
            go_enter Tryd.func37, Tryd.ntmps37
            go_wp2_with fail
            refine (HTYP.out _ (((bl w).al _).al _)).mono ?_
            rintro r w0 ⟨rfl, hb0⟩
            obtain ⟨hc0, _⟩ := bcell hb0
            have hz0 : w.heap.size + 1 < w0.heap.size := by have := hb0.size; simp at this; omega
            go_wp2_with fail
            refine (HALL.out _ ((((bl w).al _).al _).tr hb0)).mono ?_
            rintro r w1 ⟨ra, rcap, rfl, hints, hb⟩
            obtain ⟨hc, _⟩ := bcell hb
            go_wp2_with fail
            go_ret2
            exact ⟨rfl, ((((bl w).al _).al _).tr hb0).tr hb⟩
          · rw [h0] at HALL hl0 ⊢
            clear hsm h0
            match ts, hl0 with
            | [t0], _ =>
              by_cases h1 : t0 = 1
              · subst h1
                by_cases h3 : own = 3
                · subst h3
                  go_enter Tryd.func37, Tryd.ntmps37
                  go_wp2_with fail
                  refine (HTYP.out _ (((bl w).al _).al _)).mono ?_
                  rintro r w0 ⟨rfl, hb0⟩
                  obtain ⟨hc0, _⟩ := bcell hb0
                  have hz0 : w.heap.size + 1 < w0.heap.size := by have := hb0.size; simp at this; omega
                  go_wp2_with fail
                  refine (HALL.out _ ((((bl w).al _).al _).tr hb0)).mono ?_
                  rintro r w1 ⟨ra, rcap, rfl, hints, hb⟩
                  obtain ⟨b, ob, rfl⟩ := hints.addr (by simp)
                  have ht0 : w1.cell? ⟨b, ob, none⟩ = some (.int .i64 1) := hints.at_ b ob rfl 0 (by simp)
                  obtain ⟨hc, _⟩ := bcell hb
                  go_wp2_with fail
                  go_ret2
                  exact ⟨rfl, ((((bl w).al _).al _).tr hb0).tr hb⟩
                · have h3' : (own != 3) = true := by simpa using h3
                  have hfin : finM 6 o own [1] = (0, 12) := by simp [finM, h3]
                  rw [hfin]
                  clear h3 hfin
                  go_enter Tryd.func37, Tryd.ntmps37
                  go_wp2_with fail
                  refine (HTYP.out _ (((bl w).al _).al _)).mono ?_
                  rintro r w0 ⟨rfl, hb0⟩
                  obtain ⟨hc0, _⟩ := bcell hb0
                  have hz0 : w.heap.size + 1 < w0.heap.size := by have := hb0.size; simp at this; omega
                  go_wp2_with fail
                  refine (HALL.out _ ((((bl w).al _).al _).tr hb0)).mono ?_
                  rintro r w1 ⟨ra, rcap, rfl, hints, hb⟩
                  obtain ⟨b, ob, rfl⟩ := hints.addr (by simp)
                  have ht0 : w1.cell? ⟨b, ob, none⟩ = some (.int .i64 1) := hints.at_ b ob rfl 0 (by simp)
                  obtain ⟨hc, _⟩ := bcell hb
                  go_wp2_with fail
                  go_ret2
                  exact ⟨rfl, ((((bl w).al _).al _).tr hb0).tr hb⟩
              · have h1' : (t0 != 1) = true := by simpa using h1
                have hfin : finM 6 o own [t0] = (0, 12) := by simp [finM, h1]
                rw [hfin]
                clear h1 hfin
                go_enter Tryd.func37, Tryd.ntmps37
                go_wp2_with fail
                refine (HTYP.out _ (((bl w).al _).al _)).mono ?_
                rintro r w0 ⟨rfl, hb0⟩
                obtain ⟨hc0, _⟩ := bcell hb0
                have hz0 : w.heap.size + 1 < w0.heap.size := by have := hb0.size; simp at this; omega
                go_wp2_with fail
                refine (HALL.out _ ((((bl w).al _).al _).tr hb0)).mono ?_
                rintro r w1 ⟨ra, rcap, rfl, hints, hb⟩
                obtain ⟨b, ob, rfl⟩ := hints.addr (by simp)
                have ht0 : w1.cell? ⟨b, ob, none⟩ = some (.int .i64 t0) := hints.at_ b ob rfl 0 (by simp)
                obtain ⟨hc, _⟩ := bcell hb
                go_wp2_with fail
                go_ret2
                exact ⟨rfl, ((((bl w).al _).al _).tr hb0).tr hb⟩
          · rw [h0] at HALL ⊢
            clear h0 hl0 hsm
            by_cases h3 : own = 3
            · subst h3
              go_enter Tryd.func37, Tryd.ntmps37
              go_wp2_with fail
              refine (HTYP.out _ (((bl w).al _).al _)).mono ?_
              rintro r w0 ⟨rfl, hb0⟩
              obtain ⟨hc0, _⟩ := bcell hb0
              have hz0 : w.heap.size + 1 < w0.heap.size := by have := hb0.size; simp at this; omega
              go_wp2_with fail
              refine (HALL.out _ ((((bl w).al _).al _).tr hb0)).mono ?_
              rintro r w1 ⟨ra, rcap, rfl, hints, hb⟩
              obtain ⟨hc, _⟩ := bcell hb
              go_wp2_with fail
              go_ret2
              exact ⟨rfl, ((((bl w).al _).al _).tr hb0).tr hb⟩
            · have h3' : (own != 3) = true := by simpa using h3
              have hfin : finM 7 o own ts = (0, 12) := by simp [finM, h3]
              rw [hfin]
              clear h3 hfin
              go_enter Tryd.func37, Tryd.ntmps37
              go_wp2_with fail
              refine (HTYP.out _ (((bl w).al _).al _)).mono ?_
              rintro r w0 ⟨rfl, hb0⟩
              obtain ⟨hc0, _⟩ := bcell hb0
              have hz0 : w.heap.size + 1 < w0.heap.size := by have := hb0.size; simp at this; omega
              go_wp2_with fail
              refine (HALL.out _ ((((bl w).al _).al _).tr hb0)).mono ?_
              rintro r w1 ⟨ra, rcap, rfl, hints, hb⟩
              obtain ⟨hc, _⟩ := bcell hb
              go_wp2_with fail
              go_ret2
              exact ⟨rfl, ((((bl w).al _).al _).tr hb0).tr hb⟩
        · rw [if_pos hz]
          have hz1 : (f != 0) = true := by simpa using hz
          clear hlen hcs hsm
          go_enter Tryd.func37, Tryd.ntmps37
          go_wp2_with fail
          refine (HTYP.out _ (((bl w).al _).al _)).mono ?_
          rintro r w0 ⟨rfl, hb0⟩
          obtain ⟨hc0, _⟩ := bcell hb0
          have hz0 : w.heap.size + 1 < w0.heap.size := by have := hb0.size; simp at this; omega
          go_wp2_with fail
          refine (HALL.out _ ((((bl w).al _).al _).tr hb0)).mono ?_
          rintro r w1 ⟨ra, rcap, rfl, hints, hb⟩
          obtain ⟨hc, _⟩ := bcell hb
          go_wp2_with fail
          go_ret2
          exact ⟨rfl, ((((bl w).al _).al _).tr hb0).tr hb⟩
      · rw [if_pos hg]
        have hg1 : (g != 0) = true := by simpa using hg
        clear hlen hcs hsm
        go_enter Tryd.func37, Tryd.ntmps37
        go_wp2_with fail
        refine (HTYP.out _ (((bl w).al _).al _)).mono ?_
        rintro r w0 ⟨rfl, hb0⟩
        go_wp2_with fail
        go_ret2
        exact ⟨rfl, (((bl w).al _).al _).tr hb0⟩
end Go.Proofs.YtfpikakgaghdbaaDoor
