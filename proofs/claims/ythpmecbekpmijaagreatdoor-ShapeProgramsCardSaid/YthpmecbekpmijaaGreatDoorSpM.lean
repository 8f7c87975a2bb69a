/- shape.visit with the function that Number hands it: it numbers the statements in their own rows. -/
import Derived.Test.YthpmecbekpmijaaGreatDoorSpL
import Derived.Test.YthpmecbekpmijaaGreatDoorSpF
namespace Go.Proofs.YthpmecbekpmijaaGreatDoor
open Go Go.RowKit
set_option linter.unusedSimpArgs false
set_option linter.unusedVariables false
set_option linter.unnecessarySimpa false
theorem elsOwn.split {w : World} {s : St} {B : List St} : ∀ {A : List St} {g i lo hi : Nat}, elsOwn w (A ++ s :: B) g i lo hi → ∃ m1 m2, lo ≤ m1 ∧ elsOwn w A g i lo m1 ∧ St.Own w s g (i + A.length) m1 m2 ∧ elsOwn w B g (i + A.length + 1) m2 hi
  | [], g, i, lo, hi, h => by
    simp only [List.nil_append, elsOwn] at h
    obtain ⟨m, h1, h2, ho, hl⟩ := h
    exact ⟨lo, m, Nat.le_refl _, by simp only [elsOwn]; omega, by simpa using ho, by simpa using hl⟩
  | a :: A, g, i, lo, hi, h => by
    simp only [List.cons_append, elsOwn] at h
    obtain ⟨m, h1, h2, ho, hl⟩ := h
    obtain ⟨m1, m2, q1, q2, q3, q4⟩ := hl.split
    have e : i + 1 + A.length = i + (a :: A).length := by simp only [List.length_cons]; omega
    rw [e] at q3 q4
    exact ⟨m1, m2, by omega, by simp only [elsOwn]; exact ⟨m, h1, q1, ho, q2⟩, q3, q4⟩
theorem elsOwn.join {w : World} {s : St} {B : List St} : ∀ {A : List St} {g i lo m1 m2 hi : Nat}, elsOwn w A g i lo m1 → St.Own w s g (i + A.length) m1 m2 → elsOwn w B g (i + A.length + 1) m2 hi → elsOwn w (A ++ s :: B) g i lo hi := by
  intro A g i lo m1 m2 hi h1 h2 h3
  induction A generalizing i lo with
  | nil =>
    have h4 := h1.snoc h2
    simp only [List.nil_append, elsOwn] at h4 ⊢
    obtain ⟨m, q1, q2, q3, q4⟩ := h4
    have := h3.le
    refine ⟨m2, by omega, by omega, ?_, by simpa using h3⟩
    have hs : ∀ {m}, m ≤ m2 → St.Own w s g i lo m → St.Own w s g i lo m2 := by
      intro m hm ho
      cases s with
      | mk k n s t c xs bs es =>
        simp only [St.Own] at ho ⊢
        obtain ⟨pa, pb, pe, ca, cb, ce, m1, m2, h0, hw, h1, h2, h3, hx, hb, he⟩ := ho
        exact ⟨pa, pb, pe, ca, cb, ce, m1, m2, h0, hw, by omega, h2, by omega, hx, hb, he.wide (Nat.le_refl _) hm⟩
    exact hs q2 q3
  | cons a A ih =>
    simp only [List.cons_append, elsOwn] at h1 ⊢
    obtain ⟨m, q1, q2, q3, q4⟩ := h1
    have e : i + 1 + A.length = i + (a :: A).length := by simp only [List.length_cons]; omega
    have h5 := ih q4 (by rw [e]; exact h2) (by rw [e]; exact h3)
    have := h2.le
    have := h3.le
    exact ⟨m, q1, by omega, q3, h5⟩
theorem St.Own.get {w : World} {s : St} {g i lo hi : Nat} (h : St.Own w s g i lo hi) : ∃ (pa pb pe : Option Addr) (ca cb ce m1 m2 : Nat), StCells w g (i * 8) s.kind s.no s.name s.typ s.callee (.slice pa s.args.length ca) (.slice pb s.body.length cb) (.slice pe s.els.length ce) ∧
      StWf s.kind s.no s.name s.typ s.callee s.args.length ca s.body.length cb s.els.length ce ∧ lo ≤ m1 ∧ m1 ≤ m2 ∧ m2 ≤ hi ∧ Ex.Row (onl lo m1 w) s.args pa ∧ rowOwn w s.body pb m1 m2 ∧ rowOwn w s.els pe m2 hi := by
  cases s
  simp only [St.Own] at h
  exact h
def between (lo hi : Nat) : List Nat := List.range' lo (hi - lo)
theorem mem_between {lo hi b : Nat} : b ∈ between lo hi ↔ lo ≤ b ∧ b < hi := by
  unfold between
  rw [List.mem_range'_1]
  omega
/-- What visit does for Number. -/
def VnPost (nb n lo hi : Nat) (l : List St) (a : Option Addr) (w : World) (r : Ending) (w' : World) : Prop :=
  r = .returned (.tuple #[]) ∧ rowOwn w' (renL l n) a lo hi ∧ NumAt w' nb (n + cntL l) ∧ Kept (nb :: between lo hi) w w'
set_option maxHeartbeats 4000000 in
theorem number2_any (nb g j n : Nat) (w : World) (hne : g ≠ nb) (h1 : NumAt w nb n) (hn : n ≤ 1000) {v : Value} (hc : w.cell? ⟨g, j + 1, none⟩ = some v) (hf : w.frozen? ⟨g, j + 1, none⟩ = false) :
    Calls Tryz.prog 46 #[.pointer (some ⟨g, j, none⟩), .pointer (some ⟨nb, 0, none⟩)] w fun r w' => r = .returned (.tuple #[]) ∧ w' = (w.setCell ⟨g, j + 1, none⟩ (.int .i64 (n : Nat))).setCell ⟨nb, 0, none⟩ (.int .i64 ((n : Int) + 1)) := by
  have y0 := cell_at (j := 0) h1 rfl
  have f0 := free_at (j := 0) h1
  have hl := h1.lt
  have hgl := cell_lt hc
  simp only at hgl
  clear h1
  go_enter Tryz.func46, Tryz.ntmps46
  go_wp2_with fail
  go_end0
  exact ⟨rfl, rfl⟩
/-- Some statements of the row have their numbers. -/
structure NumSt (wr : World) (nb g n k hi : Nat) (l : List St) : Prop where
  own : elsOwn wr (renL (l.take k) n ++ l.drop k) g 0 (g + 1) hi
  num : NumAt wr nb (n + cntL (l.take k))
  blk : ∃ C t, wr.heap[g]? = some (.cells C t (0, 0))
/-- The cells of the world behind the number. -/
def numW (wr : World) (nb g k c : Nat) : World := (wr.setCell ⟨g, k * 8 + 1, none⟩ (.int .i64 (c : Nat))).setCell ⟨nb, 0, none⟩ (.int .i64 ((c : Int) + 1))
theorem numW_kept (wr : World) (nb g k c : Nat) : Kept [g, nb] wr (numW wr nb g k c) := ((Kept.refl [g, nb] wr).set (.inl (by simp)) _ _).set (.inl (by simp)) _ _
theorem numW_num {wr : World} {nb g k c : Nat} (hne : g ≠ nb) (h : NumAt wr nb c) : NumAt (numW wr nb g k c) nb (c + 1) := (h.keep ((Kept.refl [g] wr).set (.inl (by simp)) _ _) (by simpa using fun e => hne e.symm)).set1
theorem numW_other {wr : World} {nb g k c j : Nat} {v : Value} (hne : g ≠ nb) (h : wr.cell? ⟨g, j, none⟩ = some v) (hj : j ≠ k * 8 + 1) : (numW wr nb g k c).cell? ⟨g, j, none⟩ = some v :=
  ((Kept.refl [nb] _).set (.inl (by simp)) 0 _).cell (by simpa using hne) (set_other h hj)
theorem numW_same {wr : World} {nb g k c : Nat} {v : Value} (hne : g ≠ nb) (h : wr.cell? ⟨g, k * 8 + 1, none⟩ = some v) : (numW wr nb g k c).cell? ⟨g, k * 8 + 1, none⟩ = some (.int .i64 (c : Nat)) :=
  ((Kept.refl [nb] _).set (.inl (by simp)) 0 _).cell (by simpa using hne) (set_same h)
theorem Kept.join {l m : List Nat} {a b c : World} (h : Kept l a b) (k : Kept m b c) : Kept (l ++ m) a c := (h.sub fun g hg => .inl (by simp [hg])).tr (k.sub fun g hg => .inl (by simp [hg]))
theorem drop_get (l : List St) (k : Nat) (h : k < l.length) : l.drop k = l[k] :: l.drop (k + 1) := List.drop_eq_getElem_cons h
/-- What is known of the next statement. -/
theorem NumSt.next {wr : World} {nb g n k hi : Nat} {l : List St} (h : NumSt wr nb g n k hi l) (hlt : k < l.length) (hg : nb < g) (hno : I64 ((n + cntL (l.take k) : Nat) : Int)) : ∃ (pa pb pe : Option Addr) (ca cb ce m1 m2 q1 q2 : Nat), g + 1 ≤ m1 ∧ m1 ≤ q1 ∧ q1 ≤ q2 ∧ q2 ≤ m2 ∧ m2 ≤ hi ∧
    StCells wr g (k * 8) l[k].kind l[k].no l[k].name l[k].typ l[k].callee (.slice pa l[k].args.length ca) (.slice pb l[k].body.length cb) (.slice pe l[k].els.length ce) ∧
    rowOwn (numW wr nb g k (n + cntL (l.take k))) l[k].body pb q1 q2 ∧
    (∀ w3, Kept (nb :: between q1 q2) (numW wr nb g k (n + cntL (l.take k))) w3 → rowOwn w3 l[k].els pe q2 m2) ∧
    (∀ w3 w4, Kept (nb :: between q1 q2) (numW wr nb g k (n + cntL (l.take k))) w3 → Kept (nb :: between q2 m2) w3 w4 →
      rowOwn w3 (renL l[k].body (n + cntL (l.take k) + 1)) pb q1 q2 → rowOwn w4 (renL l[k].els (n + cntL (l.take k) + 1 + cntL l[k].body)) pe q2 m2 →
      NumAt w4 nb (n + cntL (l.take k) + 1 + cntL l[k].body + cntL l[k].els) → NumSt w4 nb g n (k + 1) hi l ∧ (∀ lo, lo ≤ g → g < hi → Kept (nb :: between lo hi) wr w4)) := by
  obtain ⟨own, num, C, t, blk⟩ := h
  have hlen : (renL (l.take k) n).length = k := by rw [renL_len, List.length_take]; omega
  rw [drop_get l k hlt] at own
  obtain ⟨m1, m2, hm1, hA, hS, hB⟩ := own.split
  rw [hlen, Nat.zero_add] at hS hB
  obtain ⟨pa, pb, pe, ca, cb, ce, q1, q2, hc, hw, h1, h2, h3, hx, hb, he⟩ := hS.get
  have hne : g ≠ nb := by omega
  have hK1 := numW_kept wr nb g k (n + cntL (l.take k))
  have hm2 := hB.le
  refine ⟨pa, pb, pe, ca, cb, ce, m1, m2, q1, q2, hm1, h1, h2, h3, hm2, hc, hb.stay (Stay.of hK1 (by simp; omega)), fun w3 hK3 => ?_, fun w3 w4 hK3 hK4 r1 r2 hn => ⟨?_, fun lo hlo hghi => ?_⟩⟩
  · refine he.stay (Stay.of (hK1.join hK3) fun x hx => ?_)
    simp only [List.mem_append, List.mem_cons, List.not_mem_nil, or_false, mem_between] at hx
    omega
  · have hKK := (hK1.join hK3).join hK4
    have hS4 : ∀ lo hi, (∀ x, x = g ∨ x = nb ∨ (q1 ≤ x ∧ x < q2) ∨ (q2 ≤ x ∧ x < m2) → x < lo ∨ hi ≤ x) → Stay lo hi wr w4 := fun lo hi h => Stay.of hKK fun x hx => by
      simp only [List.mem_append, List.mem_cons, List.not_mem_nil, or_false, mem_between] at hx
      exact h x (by omega)
    have hK34 := hK3.join hK4
    have hg34 : g ∉ (nb :: between q1 q2) ++ (nb :: between q2 m2) := by
      simp only [List.mem_append, List.mem_cons, mem_between]
      omega
    have hcell : ∀ (j : Nat) (v : Value), j ≠ k * 8 + 1 → wr.cell? ⟨g, j, none⟩ = some v → w4.cell? ⟨g, j, none⟩ = some v := fun j v hj hv => hK34.cell hg34 (numW_other hne hv hj)
    have hrt := renL_take l k n hlt
    have hcl := cntL_take l k hlt
    have hcc := St.cnt_eq l[k]
    refine ⟨?_, ?_, ⟨_, t, hK34.heap hg34 (?_ : (numW wr nb g k (n + cntL (l.take k))).heap[g]? = some (.cells (C.setIfInBounds (k * 8 + 1) (.int .i64 ((n + cntL (l.take k) : Nat) : Int))) t (0, 0)))⟩⟩
    · rw [hrt, List.append_assoc]
      refine elsOwn.join (m1 := m1) (m2 := m2) ?_ ?_ ?_
      · refine hA.stay (fun j v _ hj hv => ?_) (hS4 _ _ fun x hx => by omega)
        rw [hlen, Nat.zero_add] at hj
        exact hcell j v (by omega) hv
      · rw [hlen, Nat.zero_add, St.ren_eq]
        refine St.Own.mk' (pa := pa) (pb := pb) (pe := pe) (ca := ca) (cb := cb) (ce := ce) (m1 := q1) (m2 := q2) ?_ ?_ h1 h2 h3 ?_ ?_ ?_
        · simp only [St.kind, St.no, St.name, St.typ, St.callee, St.args, St.body, St.els, renL_len]
          exact ⟨hcell _ _ (by omega) hc.c0, hK34.cell hg34 (numW_same hne hc.c1), hcell _ _ (by omega) hc.c2, hcell _ _ (by omega) hc.c3, hcell _ _ (by omega) hc.c4, hcell _ _ (by omega) hc.c5, hcell _ _ (by omega) hc.c6, hcell _ _ (by omega) hc.c7⟩
        · simp only [St.kind, St.no, St.name, St.typ, St.callee, St.args, St.body, St.els, renL_len]
          exact ⟨hw.k, hno, hw.s, hw.t, hw.c, hw.la, hw.ca, hw.lb, hw.cb, hw.le, hw.ce⟩
        · simp only [St.args]
          exact hx.has (has_stay (hS4 _ _ fun x hx => by omega))
        · simp only [St.body]
          refine r1.stay (Stay.of hK4 fun x hx => ?_)
          simp only [List.mem_cons, mem_between] at hx
          omega
        · simp only [St.els]
          exact r2
      · rw [hlen, Nat.zero_add]
        refine hB.stay (fun j v hj _ hv => hcell j v (by omega) hv) (hS4 _ _ fun x hx => by omega)
    · rw [hcl, hcc]
      rw [show n + (cntL (l.take k) + (1 + cntL l[k].body + cntL l[k].els)) = n + cntL (l.take k) + 1 + cntL l[k].body + cntL l[k].els by omega]
      exact hn
    · exact ((Kept.refl [nb] _).set (.inl (by simp)) 0 _).heap (by simpa using hne) (heap_set blk _)
  · refine ((hK1.join hK3).join hK4).sub fun x hx => ?_
    simp only [List.mem_append, List.mem_cons, List.not_mem_nil, or_false, mem_between] at hx ⊢
    left
    omega
theorem rowOwn.get {w : World} {l : List St} {a : Option Addr} {lo hi : Nat} (h : rowOwn w l a lo hi) (hl : 0 < l.length) : ∃ (g : Nat) (C : Array Value) (t : TypeId), a = some ⟨g, 0, none⟩ ∧ lo ≤ g ∧ g < hi ∧ w.heap[g]? = some (.cells C t (0, 0)) ∧ elsOwn w l g 0 (g + 1) hi := by
  cases l with
  | nil => simp at hl
  | cons s l =>
    simp only [rowOwn] at h
    obtain ⟨g, m, C, t, ha, q1, q2, hg, q3, q4, ho, hl⟩ := h
    exact ⟨g, C, t, ha, q1, q2, hg, by simp only [elsOwn]; exact ⟨m, q3, q4, ho, hl⟩⟩
set_option maxRecDepth 20000 in
set_option maxHeartbeats 8000000 in
theorem visit_number (nb : Nat) : ∀ (N : Nat) (l : List St) (a : Option Addr) (cap n lo hi : Nat) (w : World), cntL l ≤ N → n + cntL l ≤ 1000 → rowOwn w l a lo hi → NumAt w nb n → nb < lo →
    Calls Tryz.prog 45 #[.slice a l.length cap, (.func (.func 46) #[] #[.pointer (some ⟨nb, 0, none⟩)])] w (VnPost nb n lo hi l a w) := by
  intro N
  induction N with
  | zero =>
    intro l a cap n lo hi w hN hc hr h1 hlo
    have := len_cnt l
    obtain rfl : l = [] := List.eq_nil_of_length_eq_zero (by omega)
    have HP : Hid (VnPost nb n lo hi [] a w (.returned (.tuple #[])) w) := hide ⟨rfl, hr, by simpa [cntL] using h1, Kept.refl _ _⟩
    clear hr h1
    go_enter Tryz.func45, Tryz.ntmps45
    go_wp2_with fail
    go_loopw [7] (fun i wr => i = .int .i64 0 ∧ w = wr) (fun _ _ => 0)
    case atStart => exact ⟨rfl, rfl⟩
    case round =>
      obtain ⟨rfl, rfl⟩ := hrel
      go_wp2_with fail
      go_end0
      exact HP.out
  | succ N ih =>
    intro l a cap n lo hi w hN hc hr h1 hlo
    have hll : l.length ≤ 1000 := by have := len_cnt l; omega
    by_cases h0 : l.length = 0
    · obtain rfl : l = [] := List.eq_nil_of_length_eq_zero h0
      have HP : Hid (VnPost nb n lo hi [] a w (.returned (.tuple #[])) w) := hide ⟨rfl, hr, by simpa [cntL] using h1, Kept.refl _ _⟩
      clear hr h1 ih
      go_enter Tryz.func45, Tryz.ntmps45
      go_wp2_with fail
      go_loopw [7] (fun i wr => i = .int .i64 0 ∧ w = wr) (fun _ _ => 0)
      case atStart => exact ⟨rfl, rfl⟩
      case round =>
        obtain ⟨rfl, rfl⟩ := hrel
        go_wp2_with fail
        go_end0
        exact HP.out
    obtain ⟨g, C, t, rfl, hg1, hg2, hgC, hown⟩ := hr.get (by omega)
    have IH := hide ih
    have H0 : Hid (NumSt w nb g n 0 hi l) := hide ⟨by simpa [renL] using hown, by simpa [cntL] using h1, ⟨C, t, hgC⟩⟩
    clear ih hr h1 hown hgC h0
    go_enter Tryz.func45, Tryz.ntmps45
    go_wp2_with fail
    go_loopw [7] (fun i wr => ∃ k : Nat, k ≤ l.length ∧ i = .int .i64 k ∧ Hid (NumSt wr nb g n k hi l) ∧ Hid (Kept (nb :: between lo hi) w wr)) (fun i _ => l.length - (intOf i).toNat)
    case atStart => exact ⟨0, Nat.zero_le _, rfl, H0.out, Kept.refl _ _⟩
    case round =>
      obtain ⟨k, hk, rfl, HS, HK⟩ := hrel
      by_cases hlt : k < l.length
      · have h2 := cntL_take l k hlt
        have h3 := cntL_take_le l (k + 1)
        have h4 := St.cnt_eq l[k]
        obtain ⟨pa, pb, pe, ca, cb, ce, m1, m2, q1, q2, z1, z2, z3, z4, z5, hcs, hb, he, hfin⟩ := HS.out.next hlt (by omega) (by unfold I64; omega)
        obtain ⟨c0, c1, c2, c3, c4, c5, c6, c7⟩ := hcs
        have hnum := HS.out.num
        obtain ⟨D, tD, hD⟩ := HS.out.blk
        have hgl := (Array.getElem?_eq_some_iff.1 hD).1
        have hf1 := free_at (j := k * 8 + 1) hD
        obtain ⟨cN, hcN⟩ : ∃ cN, cN = n + cntL (l.take k) := ⟨_, rfl⟩
        rw [← hcN] at hb he hfin hnum
        have hne : g ≠ nb := by omega
        have HN2 := hide (number2_any nb g (k * 8) cN wr hne hnum (by omega) c1 hf1)
        have HC1 : Hid (NumAt (numW wr nb g k cN) nb (cN + 1)) := hide (numW_num hne hnum)
        have d6 := hide (numW_other (k := k) (c := cN) hne c6 (by omega))
        have d7 := hide (numW_other (k := k) (c := cN) hne c7 (by omega))
        have HB := hide hb
        have HE := hide he
        have HF := hide hfin
        have HIB := hide fun (W : World) (hr : rowOwn W l[k].body pb q1 q2) (hn : NumAt W nb (cN + 1)) => IH.out l[k].body pb cb (cN + 1) q1 q2 W (by omega) (by omega) hr hn (by omega)
        have HIE := hide fun (W : World) (hr : rowOwn W l[k].els pe q2 m2) (hn : NumAt W nb (cN + 1 + cntL l[k].body)) => IH.out l[k].els pe ce (cN + 1 + cntL l[k].body) q2 m2 W (by omega) (by omega) hr hn (by omega)
        have HCN := hide hcN
        clear hcN
        have HGN : Hid (∀ x y, g + 1 ≤ x → g ∉ nb :: between x y) := hide fun x y hx => by simp only [List.mem_cons, mem_between]; omega
        clear hb he hfin hnum hD hf1 c0 c1 c2 c3 c4 c5 c6 c7
        go_wp2_with fail
        (with_reducible refine HN2.out.mono ?_)
        rintro r w2 ⟨rfl, hw2⟩
        have hw2' : w2 = numW wr nb g k cN := hw2
        subst hw2'
        have e6 := d6.out
        have hgl2 : g < (numW wr nb g k cN).heap.size := cell_lt e6
        obtain ⟨W2, hW2⟩ : ∃ W2, W2 = numW wr nb g k cN := ⟨_, rfl⟩
        rw [← hW2] at e6 hgl2 d7 HC1 HB HE HF
        clear hw2
        rw [← hW2]
        clear hW2
        go_wp2_with fail
        (with_reducible refine (HIB.out _ HB.out HC1.out).mono ?_)
        rintro r w3 ⟨rfl, hr3, hn3, hk3⟩
        have e7 := hk3.cell (HGN.out q1 q2 (by omega)) d7.out
        have hgl3 := Nat.lt_of_lt_of_le hgl2 hk3.size
        have HR3 := hide hr3
        have HN3 := hide hn3
        have HK3 := hide hk3
        clear hr3 hn3 hk3 e6
        go_wp2_with fail
        (with_reducible refine (HIE.out _ (HE.out _ HK3.out) HN3.out).mono ?_)
        rintro r w4 ⟨rfl, hr4, hn4, hk4⟩
        obtain ⟨hs4, hkk⟩ := HF.out _ _ HK3.out hk4 HR3.out hr4 hn4
        have HS4 := hide hs4
        have HK4 := hide (hkk lo hg1 hg2)
        clear hr4 hn4 hk4 hs4 hkk e7
        go_wp2_with fail
        go_roundw
        case rel => exact ⟨k + 1, by omega, by go_num, HS4.out, HK.out.tr HK4.out⟩
        case measure => simp [intOf]; omega
      · obtain rfl : k = l.length := by omega
        have HP : Hid (VnPost nb n lo hi l (some ⟨g, 0, none⟩) w (.returned (.tuple #[])) wr) := hide (by
          obtain ⟨q1, q2, C, t, q3⟩ := HS.out
          rw [List.take_length, List.drop_length, List.append_nil] at q1
          rw [List.take_length] at q2
          exact ⟨rfl, rowOwn.of q3 hg1 hg2 q1, q2, HK.out⟩)
        go_wp2_with fail
        go_end0
        exact HP.out
end Go.Proofs.YthpmecbekpmijaaGreatDoor
