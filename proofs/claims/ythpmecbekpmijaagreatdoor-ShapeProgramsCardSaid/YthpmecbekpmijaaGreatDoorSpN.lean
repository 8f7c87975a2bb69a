/- shape.Number answers the numbered functions, in rows of its own. -/
import Derived.Test.YthpmecbekpmijaaGreatDoorSpM
import Derived.Test.YthpmecbekpmijaaGreatDoorSpG
namespace Go.Proofs.YthpmecbekpmijaaGreatDoor
open Go Go.RowKit
set_option linter.unusedSimpArgs false
set_option linter.unusedVariables false
set_option linter.unnecessarySimpa false
/-- The five cells of a function. -/
structure FnCells (w : World) (b o : Nat) (s : Bytes) (vp : Value) (r : Int) (vb : Value) (vc : Value) : Prop where
  c0 : w.cell? ⟨b, o, none⟩ = some (.string ⟨s.toArray⟩)
  c1 : w.cell? ⟨b, o + 1, none⟩ = some vp
  c2 : w.cell? ⟨b, o + 2, none⟩ = some (.int .i64 r)
  c3 : w.cell? ⟨b, o + 3, none⟩ = some vb
  c4 : w.cell? ⟨b, o + 4, none⟩ = some vc
theorem FnCells.hasIn {w w' : World} {b o : Nat} {s : Bytes} {r : Int} {vp vb vc : Value} (h : FnCells w b o s vp r vb vc) (hh : ∀ j v, o ≤ j → j < o + 5 → w.cell? ⟨b, j, none⟩ = some v → w'.cell? ⟨b, j, none⟩ = some v) : FnCells w' b o s vp r vb vc :=
  ⟨hh _ _ (by omega) (by omega) h.c0, hh _ _ (by omega) (by omega) h.c1, hh _ _ (by omega) (by omega) h.c2, hh _ _ (by omega) (by omega) h.c3, hh _ _ (by omega) (by omega) h.c4⟩
/-- The function number i of the row in block g, with rows of its own in the blocks from lo up to hi. -/
def FnOwn (w : World) (f : Fn) (g i lo hi : Nat) : Prop :=
  ∃ (pp pb : Option Addr) (cp cb m : Nat), FnCells w g (i * 5) f.name (.slice pp f.params.length cp) f.result (.slice pb f.body.length cb) (.int .i64 f.count) ∧ FnWf f cb ∧ lo ≤ m ∧ m ≤ hi ∧ rowOwn w f.body pb lo m ∧ Pms (onl m hi w) f.params pp cp
/-- The functions from number i on. -/
def fnsOwn (w : World) : List Fn → Nat → Nat → Nat → Nat → Prop
  | [], _, _, lo, hi => lo ≤ hi
  | f :: l, g, i, lo, hi => ∃ m, lo ≤ m ∧ m ≤ hi ∧ FnOwn w f g i lo m ∧ fnsOwn w l g (i + 1) m hi
theorem FnOwn.le {w : World} {f : Fn} {g i lo hi : Nat} (h : FnOwn w f g i lo hi) : lo ≤ hi := by
  obtain ⟨_, _, _, _, m, _, _, h1, h2, _⟩ := h
  omega
theorem fnsOwn.le {w : World} : ∀ {l : List Fn} {g i lo hi : Nat}, fnsOwn w l g i lo hi → lo ≤ hi
  | [], _, _, _, _, h => h
  | f :: l, g, i, lo, hi, h => by obtain ⟨m, h1, h2, _⟩ := h; omega
/-- The cells of a row of functions from one up to another are as they were. -/
def FCells (g i n : Nat) (w w' : World) : Prop := ∀ (j : Nat) (v : Value), i * 5 ≤ j → j < n * 5 → w.cell? ⟨g, j, none⟩ = some v → w'.cell? ⟨g, j, none⟩ = some v
theorem FnOwn.stay {w w' : World} {f : Fn} {g i lo hi : Nat} (h : FnOwn w f g i lo hi) (hc : FCells g i (i + 1) w w') (hs : Stay lo hi w w') : FnOwn w' f g i lo hi := by
  obtain ⟨pp, pb, cp, cb, m, h0, hw, h1, h2, hb, hp⟩ := h
  exact ⟨pp, pb, cp, cb, m, h0.hasIn fun j v a b hv => hc j v (by omega) (by omega) hv, hw, h1, h2, hb.stay (hs.sub (Nat.le_refl _) h2), hp.has (has_stay (hs.sub h1 (Nat.le_refl _)))⟩
theorem fnsOwn.stay {w w' : World} : ∀ {l : List Fn} {g i lo hi : Nat}, fnsOwn w l g i lo hi → FCells g i (i + l.length) w w' → Stay lo hi w w' → fnsOwn w' l g i lo hi
  | [], _, _, _, _, h, _, _ => h
  | f :: l, g, i, lo, hi, h, hc, hs => by
    obtain ⟨m, h1, h2, ho, hl⟩ := h
    exact ⟨m, h1, h2, ho.stay (fun j v a b hv => hc j v (by omega) (by simp only [List.length_cons]; omega) hv) (hs.sub (Nat.le_refl _) h2), hl.stay (fun j v a b hv => hc j v (by omega) (by simp only [List.length_cons]; omega) hv) (hs.sub h1 (Nat.le_refl _))⟩
theorem fnsOwn.wide {w : World} : ∀ {l : List Fn} {g i lo hi hi' : Nat}, fnsOwn w l g i lo hi → hi ≤ hi' → fnsOwn w l g i lo hi'
  | [], _, _, _, _, _, h, h2 => Nat.le_trans h h2
  | f :: l, g, i, lo, hi, hi', h, h2 => by
    obtain ⟨m, h1, h3, ho, hl⟩ := h
    exact ⟨m, h1, by omega, ho, hl.wide h2⟩
theorem FnOwn.wide {w : World} {f : Fn} {g i lo hi lo' hi' : Nat} (h : FnOwn w f g i lo hi) (h1 : lo' ≤ lo) (h2 : hi ≤ hi') : FnOwn w f g i lo' hi' := by
  obtain ⟨pp, pb, cp, cb, m, h0, hw, q1, q2, hb, hp⟩ := h
  exact ⟨pp, pb, cp, cb, m, h0, hw, by omega, by omega, hb.wide h1 (Nat.le_refl _), hp.has (has_onl_sub (Nat.le_refl _) h2)⟩
theorem fnsOwn.snoc {w : World} {f : Fn} : ∀ {l : List Fn} {g i lo m hi : Nat}, fnsOwn w l g i lo m → FnOwn w f g (i + l.length) m hi → fnsOwn w (l ++ [f]) g i lo hi
  | [], g, i, lo, m, hi, h, ho => by
    have hl := ho.le
    exact ⟨hi, Nat.le_trans h hl, Nat.le_refl _, by simpa using ho.wide h (Nat.le_refl _), Nat.le_refl _⟩
  | a :: l, g, i, lo, m, hi, h, ho => by
    obtain ⟨m', h1, h2, h3, h4⟩ := h
    have hl := ho.le
    exact ⟨m', h1, by omega, h3, h4.snoc (by rw [show i + 1 + l.length = i + (a :: l).length by simp only [List.length_cons]; omega]; exact ho)⟩
theorem FnOwn.at {w : World} {f : Fn} {g i lo hi : Nat} (h : FnOwn w f g i lo hi) : Fn.At w f g (i * 5) := by
  obtain ⟨pp, pb, cp, cb, m, h0, hw, _, _, hb, hp⟩ := h
  exact ⟨pp, pb, cp, cb, h0.c0, h0.c1, h0.c2, h0.c3, h0.c4, hw, hp.has has_onl, hb.row⟩
theorem fnsOwn.get {w : World} : ∀ {l : List Fn} {g i lo hi : Nat}, fnsOwn w l g i lo hi → ∀ (j : Nat) (h : j < l.length), Fn.At w l[j] g ((i + j) * 5)
  | [], _, _, _, _, _, _, h => absurd h (Nat.not_lt_zero _)
  | f :: l, g, i, lo, hi, h, 0, _ => by
    obtain ⟨m, _, _, ho, _⟩ := h
    exact ho.at
  | f :: l, g, i, lo, hi, h, j + 1, hj => by
    obtain ⟨m, _, _, _, hl⟩ := h
    have := hl.get j (by simpa using hj)
    rw [show i + 1 + j = i + (j + 1) by omega] at this
    simpa using this
/-- The functions of a program that Number made: rows of its own. -/
def PrOwn (w : World) (base : Nat) (l : List Fn) (a : Option Addr) (cap : Nat) : Prop :=
  l.length ≤ cap ∧ cap ≤ maxLen ∧ (l = [] ∨ ∃ g C t, a = some ⟨g, 0, none⟩ ∧ base ≤ g ∧ w.heap[g]? = some (.cells C t (0, 0)) ∧ fnsOwn w l g 0 (g + 1) w.heap.size)
theorem PrOwn.fns {w : World} {base : Nat} {l : List Fn} {a : Option Addr} {cap : Nat} (h : PrOwn w base l a cap) : Fns w l a cap := by
  obtain ⟨h1, h2, h3⟩ := h
  refine ⟨h1, h2, fun hl => ?_, fun b o e i hi => ?_⟩
  · rcases h3 with rfl | ⟨g, C, t, rfl, _⟩
    · simp at hl
    · exact ⟨_, _, rfl⟩
  · rcases h3 with rfl | ⟨g, C, t, rfl, _, _, h4⟩
    · simp at hi
    · simp only [Option.some.injEq, Addr.mk.injEq, and_true] at e
      obtain ⟨rfl, rfl⟩ := e
      have := h4.get i hi
      rwa [Nat.zero_add] at this ⊢
/-- What Number answers. -/
def NbPost (w : World) (l : List Fn) (r : Ending) (w' : World) : Prop :=
  (∃ (a : Option Addr) (cap : Nat), r = .returned (.agg #[.slice a l.length cap]) ∧ PrOwn w' w.heap.size l a cap) ∧ Below w.heap.size w w'
theorem OwnL.pmsOnl {w : World} {base : Nat} {t : TypeId} {v : Value} {l : List Pm} (h : OwnL w base t 2 PmC [] v l) : ∃ a cap, v = .slice a l.length cap ∧ Pms (onl base w.heap.size w) l a cap := by
  obtain ⟨a, cap, e, hp⟩ := h.pms (by simp)
  refine ⟨a, cap, e, hp.len, hp.cap, hp.addr, fun b o ea i hi => ?_, hp.wf⟩
  obtain ⟨q1, q2⟩ := hp.at_ b o ea i hi
  rcases h.form with ⟨h1, h2⟩ | ⟨g, c, h1, h2, h3, _⟩
  · rw [h2] at hi; simp at hi
  · rw [e, ea] at h1
    simp only [Value.slice.injEq, Option.some.injEq, Addr.mk.injEq, and_true] at h1
    obtain ⟨⟨rfl, rfl⟩, _⟩ := h1
    exact ⟨onl_cell.2 ⟨⟨h2, h3⟩, has_av _ _ _ q1⟩, onl_cell.2 ⟨⟨h2, h3⟩, has_av _ _ _ q2⟩⟩
set_option maxHeartbeats 2000000 in
theorem number1_any (f : Fn) (v : Value) (w : World) (hv : Fn.Val w f v) (hT : Tab w) : Calls Tryz.prog 41 #[v] w fun r w' => r = .returned (.bool (!fnOk f)) ∧ Below w.heap.size w w' := by
  have hF := fun (W : World) (hW : Below w.heap.size w W) => function_any f v W (hv.keep hW (Nat.le_refl _)) (hT.below hW)
  obtain ⟨pp, pb, cp, cb, rfl, hw, hp, hr⟩ := hv
  have HF := hide hF
  clear hF hw hp hr hT
  generalize fnOk f = q at *
  cases q
  all_goals
    go_enter Tryz.func41, Tryz.ntmps41
    go_wp2_with fail
    (with_reducible refine (HF.out _ ((bl w).al _)).mono ?_)
    rintro r w1 ⟨rfl, hb1⟩
    go_wp2_with fail
    go_ret
    exact ⟨rfl, ((bl w).al _).tr hb1⟩
/-- The state of the loop: the first k functions are numbered. -/
structure NbSt (wr : World) (g k : Nat) (l : List Fn) : Prop where
  own : fnsOwn wr ((l.take k).map numFn) g 0 (g + 1) wr.heap.size
  rest : ∀ (i : Nat) (h : i < l.length), k ≤ i → ∃ vp vb vc, FnCells wr g (i * 5) l[i].name vp l[i].result vb vc
  blk : ∃ C, wr.heap[g]? = some (.cells C 42 (0, 0))
/-- The three fields are stored. -/
def fset3 (w : World) (g k : Nat) (vp vb vc : Value) : World := ((w.setCell ⟨g, k * 5 + 1, none⟩ vp).setCell ⟨g, k * 5 + 3, none⟩ vb).setCell ⟨g, k * 5 + 4, none⟩ vc
theorem fset3_kept (w : World) (g k : Nat) (va vb ve : Value) : Kept [g] w (fset3 w g k va vb ve) := (((Kept.refl [g] w).set (.inl (by simp)) _ _).set (.inl (by simp)) _ _).set (.inl (by simp)) _ _
theorem fset3_other {w : World} {g k j : Nat} {va vb ve v : Value} (h : w.cell? ⟨g, j, none⟩ = some v) (h5 : j ≠ k * 5 + 1) (h6 : j ≠ k * 5 + 3) (h7 : j ≠ k * 5 + 4) : (fset3 w g k va vb ve).cell? ⟨g, j, none⟩ = some v := set_other (set_other (set_other h h5) h6) h7
theorem NbSt.step {wr w4 w5 : World} {g k lo hi : Nat} {l : List Fn} (h : NbSt wr g k l) (hlt : k < l.length) (hb : Below wr.heap.size wr w5) (hb5 : Below w4.heap.size w4 w5) (hg : g < wr.heap.size) {pb : Option Addr} {cb : Nat} {vp : Value}
    (q1 : wr.heap.size ≤ lo) (q2 : hi ≤ w4.heap.size) (r2 : rowOwn w4 (renL l[k].body 0) pb lo hi) (r3 : OwnL w5 w4.heap.size 58 2 PmC [] vp l[k].params) (hcb : l[k].body.length ≤ cb ∧ cb ≤ maxLen) (hs : l[k].name.length ≤ maxLen ∧ I64 l[k].result) (hct : cntL l[k].body ≤ 200) :
    NbSt (fset3 w5 g k vp (.slice pb l[k].body.length cb) (.int .i64 (cntL l[k].body : Nat))) g (k + 1) l := by
  have hK2 := fset3_kept w5 g k vp (.slice pb l[k].body.length cb) (.int .i64 (cntL l[k].body : Nat))
  have hK : Kept [g] wr (fset3 w5 g k vp (.slice pb l[k].body.length cb) (.int .i64 (cntL l[k].body : Nat))) := ((kept_below (l := []) hb).sub (m := [g]) (by simp)).tr hK2
  have hs6 : (fset3 w5 g k vp (.slice pb l[k].body.length cb) (.int .i64 (cntL l[k].body : Nat))).heap.size = w5.heap.size := by simp [fset3, World.setCell]
  obtain ⟨pp, cp, rfl, hp⟩ := r3.pmsOnl
  have hlh := r2.le
  have hz5 := hb5.size
  refine ⟨?_, fun i hi hki => ?_, ?_⟩
  · obtain ⟨_, _, _, hc⟩ := h.rest k hlt (Nat.le_refl _)
    have hc5 := hc.hasIn (w' := w5) fun j v _ _ hv => cell_keep hv hb (Nat.le_refl _)
    rw [List.take_succ_eq_append_getElem hlt, List.map_append, List.map_cons, List.map_nil]
    have hlen : ((l.take k).map numFn).length = k := by rw [List.length_map, List.length_take]; omega
    refine fnsOwn.snoc (m := wr.heap.size) (h.own.stay (fun j v _ hj hv => ?_) (stay_of_kept hK (by simp))) ?_
    · rw [hlen, Nat.zero_add] at hj
      exact fset3_other (cell_keep hv hb (Nat.le_refl _)) (by omega) (by omega) (by omega)
    · rw [hlen, Nat.zero_add, hs6]
      refine ⟨pp, pb, cp, cb, w4.heap.size, ?_, ⟨hs.1, hs.2, by simp only [numFn, renL_len]; exact hcb.1, hcb.2, by simp only [numFn]; unfold I64; omega⟩, by omega, hz5, ?_, ?_⟩
      · simp only [numFn, renL_len]
        exact ⟨fset3_other hc5.c0 (by omega) (by omega) (by omega), set_other (set_other (set_same hc5.c1) (by omega)) (by omega), fset3_other hc5.c2 (by omega) (by omega) (by omega), set_other (set_same (set_other hc5.c3 (by omega))) (by omega), set_same (set_other (set_other hc5.c4 (by omega)) (by omega))⟩
      · simp only [numFn]
        refine ((r2.stay (stay_below hb5)).stay (stay_of_kept hK2 (by simp; omega))).wide q1 q2
      · exact hp.has (has_stay (stay_of_kept hK2 (by simp; omega)))
  · obtain ⟨vp, vb, vc, hc⟩ := h.rest i hi (by omega)
    exact ⟨vp, vb, vc, hc.hasIn fun j v _ _ hv => fset3_other (cell_keep hv hb (Nat.le_refl _)) (by omega) (by omega) (by omega)⟩
  · obtain ⟨C, hC⟩ := h.blk
    exact ⟨_, heap_set (heap_set (heap_set ((hb.block g hg).trans hC) _) _) _⟩
end Go.Proofs.YthpmecbekpmijaaGreatDoor
