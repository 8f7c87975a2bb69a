/- The plain law of rewindlaw11.holds: the type of an expression follows from those of its parts, and the error from the type. -/
import Derived.Test.YtfpikakgaghdbaaDoorTyD
namespace Go.Proofs.YtfpikakgaghdbaaDoor
open Go Go.RowKit
set_option linter.unusedSimpArgs false
set_option linter.unusedVariables false
set_option linter.unnecessarySimpa false
def GoodT (T F : Int) : Prop := (F = 0 ∧ (T = 1 ∨ T = 2 ∨ T = 3)) ∨ (T = 0 ∧ (F = 11 ∨ F = 12))
theorem unary_good {o t : Int} (h : o = 14 ∨ o = 15) : GoodT (unaryM o t).1 (unaryM o t).2 := by
  rw [unaryM_eq, unaryT]
  rcases h with rfl | rfl
  · rw [if_pos rfl]; split <;> simp [GoodT]
  · rw [if_neg (by decide), if_pos rfl]; split <;> simp [GoodT]
theorem binary_good {o a b : Int} (h : 1 ≤ o ∧ o ≤ 13) : GoodT (binaryM o a b).1 (binaryM o a b).2 := by
  rw [binaryM_eq, binaryT, if_neg (by omega)]
  repeat' split
  all_goals simp [GoodT]
theorem fitsM_op {k o n : Int} {s : Bytes} {len : Nat} (h : fitsM k o n s len = true) : (k = 4 → o = 14 ∨ o = 15) ∧ (k = 5 → 1 ≤ o ∧ o ≤ 13) := by
  unfold fitsM partOf at h
  constructor
  · rintro rfl
    simp at h
    omega
  · rintro rfl
    simp at h
    omega
/-- The type of the variable with an expression's own name. -/
def ownM (l : List Vr) (p : Int) (s : Bytes) : Int := if (seenM l s p).2 && !s.isEmpty then (l[(seenM l s p).1]?.map Vr.typ).getD 0 else 0
/-- The type that the parts say. -/
def wantM (k o own : Int) (ts : List Int) : Int :=
  if k = 1 then 1 else if k = 2 then 2 else if k = 3 then own else if k = 7 then (if own = 3 then 1 else 0) else if k = 6 then (if own = 3 ∧ ts[0]?.getD 0 = 1 then 1 else 0)
  else if k = 4 then (if ts[0]?.getD 0 ≠ 0 ∧ (unaryM o (ts[0]?.getD 0)).2 = 0 then (unaryM o (ts[0]?.getD 0)).1 else 0)
  else if ts[0]?.getD 0 ≠ 0 ∧ ts[1]?.getD 0 ≠ 0 ∧ (binaryM o (ts[0]?.getD 0) (ts[1]?.getD 0)).2 = 0 then (binaryM o (ts[0]?.getD 0) (ts[1]?.getD 0)).1 else 0
theorem typ_own {l : List Vr} {p : Int} {s : Bytes} (hT : ∀ v ∈ l, 1 ≤ v.typ ∧ v.typ ≤ 3) (hs : s ≠ []) : (typM l p s = (ownM l p s, 0) ∧ 1 ≤ ownM l p s ∧ ownM l p s ≤ 3) ∨ (typM l p s = (0, 11) ∧ ownM l p s = 0) := by
  have he : s.isEmpty = false := by cases s with | nil => exact absurd rfl hs | cons c t => rfl
  unfold typM ownM
  cases hq : (seenM l s p).2
  · exact .inr ⟨by simp, by simp⟩
  · have hlt : (seenM l s p).1 < l.length := firstM_lt hq
    refine .inl ⟨by simp [he], ?_⟩
    rw [he]
    have := hT _ (List.getElem_mem hlt)
    simpa [hlt] using this
theorem GoodT.pos {T F : Int} (h : GoodT T F) : (T ≠ 0 ∧ F = 0) ∨ (T = 0 ∧ F ≠ 0) := by unfold GoodT at h; omega
theorem allM_one (l : List Vr) (p : Int) (x : Ex) : allM l p [x] = if (ofM l p x).2 ≠ 0 then ((ofM l p x).2, []) else (0, [(ofM l p x).1]) := by
  simp [allM]
theorem allM_two (l : List Vr) (p : Int) (x y : Ex) : allM l p [x, y] = if (ofM l p x).2 ≠ 0 then ((ofM l p x).2, []) else if (ofM l p y).2 ≠ 0 then ((ofM l p y).2, []) else (0, [(ofM l p x).1, (ofM l p y).1]) := by
  simp only [allM]
  by_cases h : (ofM l p x).2 = 0 <;> by_cases h' : (ofM l p y).2 = 0 <;> simp [h, h']
set_option maxHeartbeats 1000000 in
theorem parts_law (l : List Vr) (p : Int) (hT : ∀ v ∈ l, 1 ≤ v.typ ∧ v.typ ≤ 3) : ∀ (m : Nat) (e : Ex), depthM m e ≠ 0 →
    GoodT (ofM l p e).1 (ofM l p e).2 ∧ (ofM l p e).1 = wantM e.kind e.op (ownM l p e.name) (e.args.map fun x => (ofM l p x).1) := by
  intro m
  induction m with
  | zero => intro e h; exact absurd rfl h
  | succ m ih =>
    intro e hd
    obtain ⟨hf, hkids⟩ := depthM_kids hd
    obtain ⟨k, o, n, s, es⟩ := e
    simp only [Ex.fits, Ex.kind, Ex.op, Ex.num, Ex.name, Ex.args] at *
    have hop := fitsM_op hf
    rcases fitsM_cases hf with ⟨hk, rfl, h0⟩ | ⟨rfl, hs, h0⟩ | ⟨rfl, rfl, h0⟩ | ⟨rfl, rfl, h0⟩ | ⟨rfl, hs, h0⟩ | ⟨rfl, hs, h0⟩
    · obtain rfl := List.eq_nil_of_length_eq_zero h0
      rw [ofM_empty (f := 0) (ts := []) rfl, if_neg (by simp)]
      rcases hk with rfl | rfl <;> simp [finM, wantM, GoodT]
    · obtain rfl := List.eq_nil_of_length_eq_zero h0
      obtain ⟨c, t, rfl⟩ := List.exists_cons_of_ne_nil hs
      rcases typ_own (p := p) hT hs with ⟨h1, h2⟩ | ⟨h1, h2⟩
      · rw [ofM_name (f := 0) (ts := []) rfl h1]
        simp [finM, wantM, GoodT]
        omega
      · rw [ofM_name (f := 0) (ts := []) rfl h1]
        simp [finM, wantM, GoodT, h2]
    · match es, h0, hkids with
      | [x], _, hkids =>
        obtain ⟨gx, _⟩ := ih x (hkids x (by simp))
        have gu := unary_good (t := (ofM l p x).1) (hop.1 rfl)
        have ha := allM_one l p x
        simp only [List.map_cons, List.map_nil, wantM, List.getElem?_cons_zero, Option.getD_some]
        generalize (ofM l p x) = r at *
        obtain ⟨T, F⟩ := r
        simp only at *
        by_cases hF : F = 0
        · have hT0 : T ≠ 0 := by unfold GoodT at gx; omega
          rw [if_neg (by simpa using hF)] at ha
          rw [ofM_empty ha, if_neg (by simp)]
          generalize hu : unaryM o T = u at *
          obtain ⟨U, V⟩ := u
          have e : finM 4 o 0 [T] = (U, V) := by simp [finM, hu]
          rw [e]
          refine ⟨gu, ?_⟩
          by_cases hV : V = 0
          · simp [hT0, hV]
          · have hU : U = 0 := by unfold GoodT at gu; simp only at gu; omega
            simp [hV, hU]
        · have hT0 : T = 0 := by unfold GoodT at gx; omega
          rw [if_pos hF] at ha
          rw [ofM_empty ha, if_pos hF]
          subst hT0
          exact ⟨gx, by simp⟩
    · match es, h0, hkids with
      | [x, y], _, hkids =>
        obtain ⟨gx, _⟩ := ih x (hkids x (by simp))
        obtain ⟨gy, _⟩ := ih y (hkids y (by simp))
        have gu := binary_good (a := (ofM l p x).1) (b := (ofM l p y).1) (hop.2 rfl)
        have ha := allM_two l p x y
        simp only [List.map_cons, List.map_nil, wantM, List.getElem?_cons_zero, List.getElem?_cons_succ, Option.getD_some]
        generalize (ofM l p x) = r at *
        generalize (ofM l p y) = r2 at *
        obtain ⟨T, F⟩ := r
        obtain ⟨T2, F2⟩ := r2
        simp only at *
        by_cases hF : F = 0
        · have hT0 : T ≠ 0 := by unfold GoodT at gx; omega
          rw [if_neg (by simpa using hF)] at ha
          by_cases hF2 : F2 = 0
          · have hT2 : T2 ≠ 0 := by unfold GoodT at gy; omega
            rw [if_neg (by simpa using hF2)] at ha
            rw [ofM_empty ha, if_neg (by simp)]
            generalize hu : binaryM o T T2 = u at *
            obtain ⟨U, V⟩ := u
            have e : finM 5 o 0 [T, T2] = (U, V) := by simp [finM, hu]
            rw [e]
            refine ⟨gu, ?_⟩
            by_cases hV : V = 0
            · simp [hT0, hT2, hV]
            · have hU : U = 0 := by unfold GoodT at gu; simp only at gu; omega
              simp [hV, hU]
          · have hT2 : T2 = 0 := by unfold GoodT at gy; omega
            rw [if_pos hF2] at ha
            rw [ofM_empty ha, if_pos hF2]
            subst hT2
            exact ⟨gy, by simp⟩
        · have hT0 : T = 0 := by unfold GoodT at gx; omega
          rw [if_pos hF] at ha
          rw [ofM_empty ha, if_pos hF]
          subst hT0
          exact ⟨gx, by simp⟩
    · obtain ⟨c, t, rfl⟩ := List.exists_cons_of_ne_nil hs
      match es, h0, hkids with
      | [x], _, hkids =>
        obtain ⟨gx, _⟩ := ih x (hkids x (by simp))
        have ha := allM_one l p x
        simp only [List.map_cons, List.map_nil, wantM, List.getElem?_cons_zero, Option.getD_some]
        generalize (ofM l p x) = r at *
        obtain ⟨T, F⟩ := r
        simp only at *
        rcases typ_own (p := p) hT hs with ⟨h1, h2⟩ | ⟨h1, h2⟩
        · generalize ownM l p (c :: t) = ow at *
          by_cases hF : F = 0
          · rw [if_neg (by simpa using hF)] at ha
            rw [ofM_name ha h1, if_neg (by simp), if_neg (by simp)]
            by_cases hT1 : T = 1 <;> by_cases h3 : ow = 3 <;> simp [hT1, h3, finM, GoodT]
          · have hT0 : T = 0 := by unfold GoodT at gx; omega
            rw [if_pos hF] at ha
            rw [ofM_name ha h1, if_neg (by simp), if_pos hF]
            subst hT0
            exact ⟨gx, by simp⟩
        · rcases allM l p [x] with ⟨f, ts⟩
          rw [ofM_name rfl h1, if_pos (by simp), h2]
          simp [GoodT]
    · obtain rfl := List.eq_nil_of_length_eq_zero h0
      obtain ⟨c, t, rfl⟩ := List.exists_cons_of_ne_nil hs
      rcases typ_own (p := p) hT hs with ⟨h1, h2⟩ | ⟨h1, h2⟩
      · rw [ofM_name (f := 0) (ts := []) rfl h1]
        generalize ownM l p (c :: t) = ow at *
        by_cases h3 : ow = 3 <;> simp [finM, wantM, GoodT, h3]
      · rw [ofM_name (f := 0) (ts := []) rfl h1]
        simp [wantM, GoodT, h2]
end Go.Proofs.YtfpikakgaghdbaaDoor
