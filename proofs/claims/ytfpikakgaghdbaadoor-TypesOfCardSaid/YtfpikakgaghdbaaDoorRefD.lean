/- rewindref11.of answers ofM for every expression of the right shape and every list of variables in memory. -/
import Derived.Test.YtfpikakgaghdbaaDoorRefC
import Derived.Test.YtfpikakgaghdbaaDoorTyD
namespace Go.Proofs.YtfpikakgaghdbaaDoor
open Go Go.RowKit
set_option maxHeartbeats 1000000 in
theorem refVariable_any (l : List Vr) (a : Option Addr) (cap : Nat) (p : Int) (s : Bytes) (w : World) (hl : Vrs w l a cap) :
    Calls Tryd.prog 57 #[.slice a l.length cap, .int .i64 p, .string ⟨s.toArray⟩] w fun e w' => e = .returned (.tuple #[.int .i64 (typM l p s).1, .int .i64 (typM l p s).2]) ∧ Below w.heap.size w w' := by
  have h1 := fun (W : World) (hW : Below w.heap.size w W) => refSeen_any l a cap s p W (hl.keep hW (Nat.le_refl _))
  have hlen : l.length ≤ 9223372036854775807 := Nat.le_trans hl.len hl.cap
  have hlt := fun h => firstM_lt (l := l) (p := fun v => v.name == s && v.sees p) h
  have HL := hide hl
  clear hl
  unfold typM
  unfold seenM at *
  generalize firstM l (fun v => v.name == s && v.sees p) = r at *
  obtain ⟨i, q⟩ := r
  cases q
  · clear hlt
    have H1 := hide h1
    clear h1
    go_enter Tryd.func57, Tryd.ntmps57
    go_wp2_with fail
    refine (H1.out _ (bl w)).mono ?_
    rintro e w1 ⟨rfl, hb⟩
    go_wp2_with fail
    go_ret2
    exact ⟨rfl, hb⟩
  · have hlt' : i < l.length := hlt rfl
    clear hlt
    have H1 := hide h1
    clear h1
    obtain ⟨b, o, rfl⟩ := HL.out.addr (by omega)
    have hty := (HL.out.at_ b o rfl i hlt').2.1
    have hbb : b < w.heap.size := cell_lt hty
    have HE := hide (show l[i]?.map Vr.typ = some l[i].typ by simp [hlt'])
    go_enter Tryd.func57, Tryd.ntmps57
    go_wp2_with fail
    refine (H1.out _ (bl w)).mono ?_
    rintro e w1 ⟨rfl, hb⟩
    obtain ⟨hc, _⟩ := bcell hb
    go_wp2_with fail
    go_ret2
    exact ⟨by simp, hb⟩
theorem typM_err (l : List Vr) (p : Int) (s : Bytes) : (typM l p s).2 ≠ 0 → typM l p s = (0, (typM l p s).2) := by
  unfold typM
  split
  · intro h; exact absurd rfl h
  · intro _; rfl
theorem ofM_num (l : List Vr) (p o n : Int) : ofM l p (.mk 1 o n [] []) = (1, 0) := by simp [ofM, allM, finM]
theorem ofM_bool (l : List Vr) (p o n : Int) : ofM l p (.mk 2 o n [] []) = (2, 0) := by simp [ofM, allM, finM]
theorem ofM_var (l : List Vr) (p o n : Int) (c : UInt8) (t : Bytes) : ofM l p (.mk 3 o n (c :: t) []) = typM l p (c :: t) := by
  have h := typM_err l p (c :: t)
  by_cases hz : (typM l p (c :: t)).2 = 0
  · simp only [ofM, allM, finM, List.isEmpty_cons, Bool.false_eq_true, if_false, hz, ne_eq, not_true, if_true]
    simp
    rw [← hz]
  · rw [h hz]
    simp [ofM, hz]
theorem ofM_len (l : List Vr) (p o n : Int) (c : UInt8) (t : Bytes) : ofM l p (.mk 7 o n (c :: t) []) = if (typM l p (c :: t)).2 ≠ 0 then (0, (typM l p (c :: t)).2) else if (typM l p (c :: t)).1 ≠ 3 then (0, 12) else (1, 0) := by
  simp [ofM, allM, finM]
theorem ofM_ix (l : List Vr) (p o n : Int) (c : UInt8) (t : Bytes) (x : Ex) : ofM l p (.mk 6 o n (c :: t) [x]) = if (typM l p (c :: t)).2 ≠ 0 then (0, (typM l p (c :: t)).2) else if (ofM l p x).2 ≠ 0 then (0, (ofM l p x).2) else
    if (typM l p (c :: t)).1 ≠ 3 ∨ (ofM l p x).1 ≠ 1 then (0, 12) else (1, 0) := by
  simp only [ofM, allM, finM, List.isEmpty_cons, Bool.false_eq_true, if_false]
  by_cases h1 : (typM l p (c :: t)).2 = 0
  · by_cases h2 : (ofM l p x).2 = 0
    · by_cases h3 : (ofM l p x).1 = 1 <;> by_cases h4 : (typM l p (c :: t)).1 = 3 <;> simp [h1, h2, h3, h4]
    · simp [h1, h2]
  · simp [h1]
theorem ofM_un (l : List Vr) (p o n : Int) (x : Ex) : ofM l p (.mk 4 o n [] [x]) = if (ofM l p x).2 ≠ 0 then (0, (ofM l p x).2) else unaryT o (ofM l p x).1 := by
  simp only [ofM, allM, finM, List.isEmpty_nil, if_true]
  by_cases h2 : (ofM l p x).2 = 0
  · simp [h2, unaryM_eq]
  · simp [h2]
theorem ofM_bin (l : List Vr) (p o n : Int) (x y : Ex) : ofM l p (.mk 5 o n [] [x, y]) = if (ofM l p x).2 ≠ 0 then (0, (ofM l p x).2) else if (ofM l p y).2 ≠ 0 then (0, (ofM l p y).2) else binaryT o (ofM l p x).1 (ofM l p y).1 := by
  simp only [ofM, allM, finM, List.isEmpty_nil, if_true]
  by_cases h2 : (ofM l p x).2 = 0
  · by_cases h3 : (ofM l p y).2 = 0
    · simp [h2, h3, binaryM_eq]
    · simp [h2, h3]
  · simp [h2]
def ixM (t r : Int × Int) : Int × Int := if t.2 ≠ 0 then (0, t.2) else if r.2 ≠ 0 then (0, r.2) else if t.1 ≠ 3 ∨ r.1 ≠ 1 then (0, 12) else (1, 0)
set_option maxHeartbeats 2000000 in
theorem refIndex_any (l : List Vr) (p : Int) (va : Option Addr) (vcap : Nat) (s : Bytes) (o n : Int) (x : Ex) (b ob cap : Nat) (w : World) (hx : Ex.At w x b ob) (hl : Vrs w l va vcap)
    (hof : ∀ (v : Value) (W : World), Below w.heap.size w W → Ex.Val W x v → Calls Tryd.prog 40 #[.slice va l.length vcap, .int .i64 p, v] W fun r w' => r = .returned (.tuple #[.int .i64 (ofM l p x).1, .int .i64 (ofM l p x).2]) ∧ Below W.heap.size W w') :
    Calls Tryd.prog 58 #[.slice va l.length vcap, .int .i64 p, .agg #[.int .i64 6, .int .i64 o, .int .i64 n, .string ⟨s.toArray⟩, .slice (some ⟨b, ob, none⟩) 1 cap]] w
      fun r w' => r = .returned (.tuple #[.int .i64 (ixM (typM l p s) (ofM l p x)).1, .int .i64 (ixM (typM l p s) (ofM l p x)).2]) ∧ Below w.heap.size w w' := by
  have htyp := fun (W : World) (hW : Below w.heap.size w W) => refVariable_any l va vcap p s W (hl.keep hW (Nat.le_refl _))
  obtain ⟨xa, xcap, x0, x1, x2, x3, x4, hxw, hxr⟩ := hx.val
  have hK := fun (W : World) (hW : Below w.heap.size w W) => hof _ W hW ((Ex.Val.mk hxw hxr).keep hW (Nat.le_refl _))
  have HK := hide hK
  have HTYP := hide htyp
  have hbb : b < w.heap.size := cell_lt x0
  have hfx := hide hxw
  clear hK hxw hxr hx hof htyp hl
  generalize typM l p s = t at *
  generalize ofM l p x = y at *
  obtain ⟨own, g⟩ := t
  obtain ⟨x5, f⟩ := y
  unfold ixM
  by_cases hg : g = 0
  · subst hg
    rw [if_neg (by simp)]
    by_cases hf : f = 0
    · subst hf
      rw [if_neg (by simp)]
      by_cases ho : own = 3
      · subst ho
        by_cases hx : x5 = 1
        · subst hx
          go_enter Tryd.func58, Tryd.ntmps58
          go_wp2_with fail
          refine (HTYP.out _ ((bl w).al _)).mono ?_
          rintro r w1 ⟨rfl, hb⟩
          obtain ⟨hc, _⟩ := bcell hb
          go_wp2_with fail
          refine (HK.out _ (((bl w).al _).tr hb)).mono ?_
          rintro r w2 ⟨rfl, hb2⟩
          go_wp2_with fail
          go_ret2
          exact ⟨rfl, (((bl w).al _).tr hb).tr hb2⟩
        · have hx' : (x5 != 1) = true := by simpa using hx
          rw [if_pos (.inr hx)]
          go_enter Tryd.func58, Tryd.ntmps58
          go_wp2_with fail
          refine (HTYP.out _ ((bl w).al _)).mono ?_
          rintro r w1 ⟨rfl, hb⟩
          obtain ⟨hc, _⟩ := bcell hb
          go_wp2_with fail
          refine (HK.out _ (((bl w).al _).tr hb)).mono ?_
          rintro r w2 ⟨rfl, hb2⟩
          go_wp2_with fail
          go_ret2
          exact ⟨rfl, (((bl w).al _).tr hb).tr hb2⟩
      · have ho' : (own != 3) = true := by simpa using ho
        rw [if_pos (.inl ho)]
        go_enter Tryd.func58, Tryd.ntmps58
        go_wp2_with fail
        refine (HTYP.out _ ((bl w).al _)).mono ?_
        rintro r w1 ⟨rfl, hb⟩
        obtain ⟨hc, _⟩ := bcell hb
        go_wp2_with fail
        refine (HK.out _ (((bl w).al _).tr hb)).mono ?_
        rintro r w2 ⟨rfl, hb2⟩
        go_wp2_with fail
        go_ret2
        exact ⟨rfl, (((bl w).al _).tr hb).tr hb2⟩
    · rw [if_pos hf]
      have hf' : (f != 0) = true := by simpa using hf
      go_enter Tryd.func58, Tryd.ntmps58
      go_wp2_with fail
      refine (HTYP.out _ ((bl w).al _)).mono ?_
      rintro r w1 ⟨rfl, hb⟩
      obtain ⟨hc, _⟩ := bcell hb
      go_wp2_with fail
      refine (HK.out _ (((bl w).al _).tr hb)).mono ?_
      rintro r w2 ⟨rfl, hb2⟩
      go_wp2_with fail
      go_ret2
      exact ⟨rfl, (((bl w).al _).tr hb).tr hb2⟩
  · rw [if_pos hg]
    have hg' : (g != 0) = true := by simpa using hg
    go_enter Tryd.func58, Tryd.ntmps58
    go_wp2_with fail
    refine (HTYP.out _ ((bl w).al _)).mono ?_
    rintro r w1 ⟨rfl, hb⟩
    obtain ⟨hc, _⟩ := bcell hb
    go_wp2_with fail
    go_ret2
    exact ⟨rfl, ((bl w).al _).tr hb⟩
set_option maxRecDepth 100000 in
set_option maxHeartbeats 4000000 in
theorem refOf_any (l : List Vr) (p : Int) (va : Option Addr) (vcap : Nat) : ∀ (m : Nat) (e : Ex) (v : Value) (w : World), depthM m e ≠ 0 → Ex.Val w e v → Vrs w l va vcap →
    Calls Tryd.prog 40 #[.slice va l.length vcap, .int .i64 p, v] w fun r w' => r = .returned (.tuple #[.int .i64 (ofM l p e).1, .int .i64 (ofM l p e).2]) ∧ Below w.heap.size w w' := by
  intro m
  induction m with
  | zero => intro e v w h; exact absurd rfl h
  | succ m ih =>
    intro e v w hd hv hl
    obtain ⟨hf, hkids⟩ := depthM_kids hd
    obtain ⟨a, cap, rfl, hw, hr⟩ := hv
    cases e with
    | mk k o n s es =>
    simp only [Ex.fits, Ex.kind, Ex.op, Ex.num, Ex.name, Ex.args] at *
    have hcs := fitsM_cases hf
    have htyp := fun (W : World) (hW : Below w.heap.size w W) => refVariable_any l va vcap p s W (hl.keep hW (Nat.le_refl _))
    have HL := hide hl
    clear hd hf hl hw
    rcases hcs with ⟨rfl | rfl, rfl, h0⟩ | ⟨rfl, hs, h0⟩ | ⟨rfl, rfl, h0⟩ | ⟨rfl, rfl, h0⟩ | ⟨rfl, hs, h0⟩ | ⟨rfl, hs, h0⟩
    · obtain rfl := List.eq_nil_of_length_eq_zero h0
      rw [ofM_num]
      clear htyp hkids ih hr
      go_enter Tryd.func40, Tryd.ntmps40
      go_wp2_with fail
      go_ret2
      exact ⟨rfl, (bl w).al _⟩
    · obtain rfl := List.eq_nil_of_length_eq_zero h0
      rw [ofM_bool]
      clear htyp hkids ih hr
      go_enter Tryd.func40, Tryd.ntmps40
      go_wp2_with fail
      go_ret2
      exact ⟨rfl, (bl w).al _⟩
    · obtain rfl := List.eq_nil_of_length_eq_zero h0
      obtain ⟨c, t, rfl⟩ := List.exists_cons_of_ne_nil hs
      rw [ofM_var]
      have HTYP := hide htyp
      clear htyp hkids ih hr hs
      generalize typM l p (c :: t) = y at *
      go_enter Tryd.func40, Tryd.ntmps40
      go_wp2_with fail
      refine (HTYP.out _ ((bl w).al _)).mono ?_
      rintro r w1 ⟨rfl, hb⟩
      obtain ⟨hc, _⟩ := bcell hb
      go_wp2_with fail
      go_ret2
      exact ⟨rfl, ((bl w).al _).tr hb⟩
    · obtain ⟨x, rfl⟩ : ∃ x, es = [x] := List.length_eq_one_iff.1 h0
      rw [ofM_un]
      obtain ⟨b, ob, rfl⟩ := hr.addr (by simp)
      have hx := hr.get 0 (by simp)
      simp only [List.getElem_cons_zero, Nat.zero_mul, Nat.add_zero] at hx
      obtain ⟨xa, xcap, x0, x1, x2, x3, x4, hxw, hxr⟩ := hx.val
      have hK := fun (W : World) (hW : Below w.heap.size w W) => ih x _ W (hkids x (by simp)) ((Ex.Val.mk hxw hxr).keep hW (Nat.le_refl _)) (HL.out.keep hW (Nat.le_refl _))
      have HK := hide hK
      have hbb : b < w.heap.size := cell_lt x0
      have hfx := hide hxw
      clear hK hxw hxr hx
      clear hkids ih hr htyp
      generalize ofM l p x = y at *
      obtain ⟨x5, f⟩ := y
      by_cases hf : f = 0
      · subst hf
        rw [if_neg (by simp)]
        have HU := hide (refUnary_any o x5)
        generalize unaryT o x5 = z at *
        go_enter Tryd.func40, Tryd.ntmps40
        go_wp2_with fail
        refine (HK.out _ ((bl w).al _)).mono ?_
        rintro r w1 ⟨rfl, hb⟩
        obtain ⟨hc, _⟩ := bcell hb
        go_wp2_with fail
        refine (HU.out _).mono ?_
        rintro r w2 ⟨rfl, hb2⟩
        go_wp2_with fail
        go_ret2
        exact ⟨rfl, (((bl w).al _).tr hb).tr hb2⟩
      · rw [if_pos hf]
        have hf' : (f != 0) = true := by simpa using hf
        go_enter Tryd.func40, Tryd.ntmps40
        go_wp2_with fail
        refine (HK.out _ ((bl w).al _)).mono ?_
        rintro r w1 ⟨rfl, hb⟩
        obtain ⟨hc, _⟩ := bcell hb
        go_wp2_with fail
        go_ret2
        exact ⟨rfl, ((bl w).al _).tr hb⟩
    · obtain ⟨x, y, rfl⟩ : ∃ x y, es = [x, y] := match es, h0 with | [x, y], _ => ⟨x, y, rfl⟩
      rw [ofM_bin]
      obtain ⟨b, ob, rfl⟩ := hr.addr (by simp)
      have hx := hr.get 0 (by simp)
      simp only [List.getElem_cons_zero, Nat.zero_mul, Nat.add_zero] at hx
      obtain ⟨xa, xcap, x0, x1, x2, x3, x4, hxw, hxr⟩ := hx.val
      have hK := fun (W : World) (hW : Below w.heap.size w W) => ih x _ W (hkids x (by simp)) ((Ex.Val.mk hxw hxr).keep hW (Nat.le_refl _)) (HL.out.keep hW (Nat.le_refl _))
      have HK := hide hK
      have hbb : b < w.heap.size := cell_lt x0
      have hfx := hide hxw
      clear hK hxw hxr hx
      have hy := hr.get 1 (by simp)
      simp only [List.getElem_cons_zero, List.getElem_cons_succ, Nat.one_mul] at hy
      obtain ⟨ya, ycap, y0, y1, y2, y3, y4, hyw, hyr⟩ := hy.val
      have hL := fun (W : World) (hW : Below w.heap.size w W) => ih y _ W (hkids y (by simp)) ((Ex.Val.mk hyw hyr).keep hW (Nat.le_refl _)) (HL.out.keep hW (Nat.le_refl _))
      have HY := hide hL
      clear hL hyw hyr hy hkids ih hr htyp
      generalize ofM l p x = r1 at *
      generalize ofM l p y = r2 at *
      obtain ⟨x5, f⟩ := r1
      obtain ⟨y5, g⟩ := r2
      by_cases hf : f = 0
      · subst hf
        rw [if_neg (by simp)]
        by_cases hg : g = 0
        · subst hg
          rw [if_neg (by simp)]
          have HU := hide (refBinary_any o x5 y5)
          generalize binaryT o x5 y5 = z at *
          go_enter Tryd.func40, Tryd.ntmps40
          go_wp2_with fail
          refine (HK.out _ ((bl w).al _)).mono ?_
          rintro r w1 ⟨rfl, hb⟩
          obtain ⟨hc, _⟩ := bcell hb
          go_wp2_with fail
          refine (HY.out _ (((bl w).al _).tr hb)).mono ?_
          rintro r w2 ⟨rfl, hb2⟩
          obtain ⟨hc2, _⟩ := bcell hb2
          have hz : w.heap.size < w1.heap.size := by have := hb.size; simp at this; omega
          go_wp2_with fail
          refine (HU.out _).mono ?_
          rintro r w3 ⟨rfl, hb3⟩
          go_wp2_with fail
          go_ret2
          exact ⟨rfl, ((((bl w).al _).tr hb).tr hb2).tr hb3⟩
        · rw [if_pos hg]
          have hg' : (g != 0) = true := by simpa using hg
          go_enter Tryd.func40, Tryd.ntmps40
          go_wp2_with fail
          refine (HK.out _ ((bl w).al _)).mono ?_
          rintro r w1 ⟨rfl, hb⟩
          obtain ⟨hc, _⟩ := bcell hb
          go_wp2_with fail
          refine (HY.out _ (((bl w).al _).tr hb)).mono ?_
          rintro r w2 ⟨rfl, hb2⟩
          go_wp2_with fail
          go_ret2
          exact ⟨rfl, (((bl w).al _).tr hb).tr hb2⟩
      · rw [if_pos hf]
        have hf' : (f != 0) = true := by simpa using hf
        go_enter Tryd.func40, Tryd.ntmps40
        go_wp2_with fail
        refine (HK.out _ ((bl w).al _)).mono ?_
        rintro r w1 ⟨rfl, hb⟩
        obtain ⟨hc, _⟩ := bcell hb
        go_wp2_with fail
        go_ret2
        exact ⟨rfl, ((bl w).al _).tr hb⟩
    · obtain ⟨x, rfl⟩ : ∃ x, es = [x] := List.length_eq_one_iff.1 h0
      obtain ⟨c, t, rfl⟩ := List.exists_cons_of_ne_nil hs
      rw [ofM_ix]
      obtain ⟨b, ob, rfl⟩ := hr.addr (by simp)
      have hx := hr.get 0 (by simp)
      simp only [List.getElem_cons_zero, Nat.zero_mul, Nat.add_zero] at hx
      have hix := fun (W : World) (hW : Below w.heap.size w W) => refIndex_any l p va vcap (c :: t) o n x b ob cap W (hx.keep hW (Nat.le_refl _)) (HL.out.keep hW (Nat.le_refl _)) (fun v W' hW' hv => ih x v W' (hkids x (by simp)) hv (HL.out.keep (hW.tr hW') (Nat.le_refl _)))
      have HIX := hide hix
      clear hix hkids ih hr htyp hx hs
      change Calls _ _ _ _ fun r w' => r = .returned (.tuple #[.int .i64 (ixM (typM l p (c :: t)) (ofM l p x)).1, .int .i64 (ixM (typM l p (c :: t)) (ofM l p x)).2]) ∧ Below w.heap.size w w'
      generalize ixM (typM l p (c :: t)) (ofM l p x) = z at *
      go_enter Tryd.func40, Tryd.ntmps40
      go_wp2_with fail
      refine (HIX.out _ ((bl w).al _)).mono ?_
      rintro r w1 ⟨rfl, hb⟩
      go_wp2_with fail
      go_ret2
      exact ⟨rfl, ((bl w).al _).tr hb⟩
    · obtain rfl := List.eq_nil_of_length_eq_zero h0
      obtain ⟨c, t, rfl⟩ := List.exists_cons_of_ne_nil hs
      rw [ofM_len]
      have HTYP := hide htyp
      clear htyp hkids ih hr hs
      generalize typM l p (c :: t) = y at *
      obtain ⟨own, g⟩ := y
      by_cases hg : g = 0
      · subst hg
        by_cases ho : own = 3
        · subst ho
          go_enter Tryd.func40, Tryd.ntmps40
          go_wp2_with fail
          refine (HTYP.out _ ((bl w).al _)).mono ?_
          rintro r w1 ⟨rfl, hb⟩
          obtain ⟨hc, _⟩ := bcell hb
          go_wp2_with fail
          go_ret2
          exact ⟨rfl, ((bl w).al _).tr hb⟩
        · have ho' : (own != 3) = true := by simpa using ho
          rw [if_neg (by simp), if_pos ho]
          go_enter Tryd.func40, Tryd.ntmps40
          go_wp2_with fail
          refine (HTYP.out _ ((bl w).al _)).mono ?_
          rintro r w1 ⟨rfl, hb⟩
          obtain ⟨hc, _⟩ := bcell hb
          go_wp2_with fail
          go_ret2
          exact ⟨rfl, ((bl w).al _).tr hb⟩
      · rw [if_pos hg]
        have hg' : (g == 0) = false := by simpa using hg
        have hg2 : (g != 0) = true := by simpa using hg
        go_enter Tryd.func40, Tryd.ntmps40
        go_wp2_with fail
        refine (HTYP.out _ ((bl w).al _)).mono ?_
        rintro r w1 ⟨rfl, hb⟩
        obtain ⟨hc, _⟩ := bcell hb
        go_wp2_with fail
        go_ret2
        exact ⟨rfl, ((bl w).al _).tr hb⟩
end Go.Proofs.YtfpikakgaghdbaaDoor
