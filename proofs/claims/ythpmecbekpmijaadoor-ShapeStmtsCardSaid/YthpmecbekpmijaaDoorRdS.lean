/- Statements that come in: what the statement's reading of them gives, as trees in memory. -/
import Derived.Test.YthpmecbekpmijaaDoorRdX
import Derived.Test.YthpmecbekpmijaaDoorSt
namespace Go.Proofs.YthpmecbekpmijaaDoor
open Go Go.RowKit Go.WideShapes Go.ChangeShapes
set_option linter.unusedSimpArgs false
set_option linter.unusedVariables false
set_option linter.unnecessarySimpa false
set_option maxRecDepth 100000
theorem cells8 {w : World} {base : Nat} {a : Addr} {cs : List Value} (h : w.cells? base a 8 = some cs) :
    ∃ (b o : Nat) (v0 v1 v2 v3 v4 v5 v6 v7 : Value), a = ⟨b, o, none⟩ ∧ cs = [v0, v1, v2, v3, v4, v5, v6, v7] ∧ w.cell? ⟨b, o, none⟩ = some v0 ∧ w.cell? ⟨b, o + 1, none⟩ = some v1 ∧ w.cell? ⟨b, o + 2, none⟩ = some v2 ∧
      w.cell? ⟨b, o + 3, none⟩ = some v3 ∧ w.cell? ⟨b, o + 4, none⟩ = some v4 ∧ w.cell? ⟨b, o + 5, none⟩ = some v5 ∧ w.cell? ⟨b, o + 6, none⟩ = some v6 ∧ w.cell? ⟨b, o + 7, none⟩ = some v7 := by
  unfold World.cells? at h
  split at h
  · rw [show List.range 8 = [0, 1, 2, 3, 4, 5, 6, 7] from rfl] at h
    simp only [List.mapM_cons, List.mapM_nil, Option.bind_eq_bind, Option.bind_eq_some_iff, Option.pure_def, Option.some.injEq] at h
    obtain ⟨v0, h0, _, ⟨v1, h1, _, ⟨v2, h2, _, ⟨v3, h3, _, ⟨v4, h4, _, ⟨v5, h5, _, ⟨v6, h6, _, ⟨v7, h7, _, rfl, rfl⟩, rfl⟩, rfl⟩, rfl⟩, rfl⟩, rfl⟩, rfl⟩, rfl⟩ := h
    obtain ⟨b, o, s⟩ := a
    have hs : s = none := by simpa [Addr.add] using World.cell?_spot h0
    subst hs
    exact ⟨b, o, v0, v1, v2, v3, v4, v5, v6, v7, rfl, rfl, by simpa [Addr.add] using h0, by simpa [Addr.add] using h1, by simpa [Addr.add] using h2, by simpa [Addr.add] using h3, by simpa [Addr.add] using h4, by simpa [Addr.add] using h5, by simpa [Addr.add] using h6, by simpa [Addr.add] using h7⟩
  · cases h
theorem srow_of_all {w : World} {b : Nat} : ∀ (n o : Nat), (∀ i, i < n → ∃ e, St.At w e b (o + i * 8)) → ∃ es : List St, es.length = n ∧ St.Row w es (some ⟨b, o, none⟩)
  | 0, o, _ => ⟨[], rfl, by simp only [St.Row]⟩
  | n + 1, o, h => by
    obtain ⟨e, he⟩ := h 0 (by omega)
    obtain ⟨es, hl, hr⟩ := srow_of_all n (o + 8) (fun i hi => by
      have := h (i + 1) (by omega)
      rwa [show o + (i + 1) * 8 = o + 8 + i * 8 by omega] at this)
    refine ⟨e :: es, by simp [hl], ?_⟩
    simp only [St.Row]
    exact ⟨b, o, rfl, by simpa using he, hr⟩
section
variable {H : Type} {enc : TypeId × Value → H} {W : World} {sp : Nat → Bool} {held : Bool}
/-- A list of expressions that comes in. -/
theorem read_exs {n : Nat} {v : Value} {x : DataW H × List MemPlace} (h : DataW.trod enc Tryd.prog W 0 sp held n 22 [v] = some x) :
    ∃ (l : List Ex) (a : Option Addr) (cap : Nat), v = .slice a l.length cap ∧ l.length ≤ cap ∧ cap ≤ maxLen ∧ Ex.Row W l a := by
  have ce : Tryd.prog.cellsOf 30 = 5 := by kernel_rfl
  rcases DataW.trod_slice Tryd.underlying22 h with ⟨e4, _⟩ | ⟨a, len, cap, elems, rest, n2, hn2, e4, _, hb, hlc, hcm, hel, hall, _, _⟩
  · simp only [List.cons.injEq, and_true] at e4
    exact ⟨[], none, 0, e4, Nat.le_refl _, Nat.zero_le _, by simp only [Ex.Row]⟩
  · simp only [List.cons.injEq, and_true] at e4
    subst e4
    have key : ∀ i, i < len → ∃ (b o : Nat) (e : Ex), a.add (i * 5) = ⟨b, o, none⟩ ∧ Ex.At W e b o := by
      intro i hi
      have h1 := hall i hi
      rw [List.getElem?_eq_getElem (by omega), ce] at h1
      obtain ⟨cs', h2, h3⟩ := Option.bind_eq_some_iff.1 h1
      obtain ⟨b', o', u0, u1, u2, u3, u4, ha, rfl, k0, k1, k2, k3, k4⟩ := cells5 h2
      obtain ⟨e, a', cap', he, hw, hr⟩ := read_ex (n2 + 1) n2 (Nat.lt_succ_self _) _ _ h3
      refine ⟨b', o', e, ha, ?_⟩
      simp only [List.cons.injEq, and_true] at he
      obtain ⟨rfl, rfl, rfl, rfl, rfl⟩ := he
      cases e
      simp only [Ex.At]
      exact ⟨a', cap', k0, k1, k2, k3, k4, hw, hr⟩
    by_cases h0 : len = 0
    · subst h0
      exact ⟨[], some a, cap, rfl, Nat.zero_le _, hcm, by simp only [Ex.Row]⟩
    · obtain ⟨b0, o0, _, ha0, _⟩ := key 0 (by omega)
      have ha : a = ⟨b0, o0, none⟩ := by simpa [Addr.add] using ha0
      subst ha
      obtain ⟨es, hes, hrow⟩ := row_of_all (w := W) (b := b0) len o0 (fun i hi => by
        obtain ⟨b', o', e, he, hat⟩ := key i hi
        rw [Addr.add_lit] at he
        simp only [Addr.mk.injEq, and_true] at he
        obtain ⟨rfl, rfl⟩ := he
        exact ⟨e, hat⟩)
      subst hes
      exact ⟨es, some ⟨b0, o0, none⟩, cap, rfl, hlc, hcm, hrow⟩
/-- The eight cells of a statement that comes in. -/
def StIs (W : World) (cs : List Value) : Prop :=
  ∃ (s : St) (pa pb pe : Option Addr) (ca cb ce : Nat), cs = [.int .i64 s.kind, .int .i64 s.no, .string ⟨s.name.toArray⟩, .int .i64 s.typ, .string ⟨s.callee.toArray⟩, .slice pa s.args.length ca, .slice pb s.body.length cb, .slice pe s.els.length ce] ∧
    StWf s.kind s.no s.name s.typ s.callee s.args.length ca s.body.length cb s.els.length ce ∧ Ex.Row W s.args pa ∧ St.Row W s.body pb ∧ St.Row W s.els pe
theorem read_sts0 {N : Nat} (ih : ∀ n, n < N → ∀ (cs : List Value) (x : DataW H × List MemPlace), DataW.trod enc Tryd.prog W 0 sp held n 25 cs = some x → StIs W cs) {n : Nat} (hn : n ≤ N) {v : Value} {x : DataW H × List MemPlace} (h : DataW.trod enc Tryd.prog W 0 sp held n 23 [v] = some x) :
    ∃ (l : List St) (a : Option Addr) (cap : Nat), v = .slice a l.length cap ∧ l.length ≤ cap ∧ cap ≤ maxLen ∧ St.Row W l a := by
  have ce : Tryd.prog.cellsOf 25 = 8 := by kernel_rfl
  rcases DataW.trod_slice Tryd.underlying23 h with ⟨e4, _⟩ | ⟨a, len, cap, elems, rest, n2, hn2, e4, _, hb, hlc, hcm, hel, hall, _, _⟩
  · simp only [List.cons.injEq, and_true] at e4
    exact ⟨[], none, 0, e4, Nat.le_refl _, Nat.zero_le _, by simp only [St.Row]⟩
  · simp only [List.cons.injEq, and_true] at e4
    subst e4
    have key : ∀ i, i < len → ∃ (b o : Nat) (e : St), a.add (i * 8) = ⟨b, o, none⟩ ∧ St.At W e b o := by
      intro i hi
      have h1 := hall i hi
      rw [List.getElem?_eq_getElem (by omega), ce] at h1
      obtain ⟨cs', h2, h3⟩ := Option.bind_eq_some_iff.1 h1
      obtain ⟨b', o', u0, u1, u2, u3, u4, u5, u6, u7, ha, rfl, k0, k1, k2, k3, k4, k5, k6, k7⟩ := cells8 h2
      obtain ⟨e, pa, pb, pe, ca, cb, ce, he, hw, r1, r2, r3⟩ := ih n2 (by omega) _ _ h3
      refine ⟨b', o', e, ha, ?_⟩
      simp only [List.cons.injEq, and_true] at he
      obtain ⟨rfl, rfl, rfl, rfl, rfl, rfl, rfl, rfl⟩ := he
      exact St.At.of ⟨k0, k1, k2, k3, k4, k5, k6, k7⟩ hw r1 r2 r3
    by_cases h0 : len = 0
    · subst h0
      exact ⟨[], some a, cap, rfl, Nat.zero_le _, hcm, by simp only [St.Row]⟩
    · obtain ⟨b0, o0, _, ha0, _⟩ := key 0 (by omega)
      have ha : a = ⟨b0, o0, none⟩ := by simpa [Addr.add] using ha0
      subst ha
      obtain ⟨es, hes, hrow⟩ := srow_of_all (w := W) (b := b0) len o0 (fun i hi => by
        obtain ⟨b', o', e, he, hat⟩ := key i hi
        rw [Addr.add_lit] at he
        simp only [Addr.mk.injEq, and_true] at he
        obtain ⟨rfl, rfl⟩ := he
        exact ⟨e, hat⟩)
      subst hes
      exact ⟨es, some ⟨b0, o0, none⟩, cap, rfl, hlc, hcm, hrow⟩
theorem read_st : ∀ (N n : Nat), n < N → ∀ (cs : List Value) (x : DataW H × List MemPlace), DataW.trod enc Tryd.prog W 0 sp held n 25 cs = some x → StIs W cs
  | 0, n, hn, _, _, _ => absurd hn (Nat.not_lt_zero _)
  | N + 1, n, hn, cs, x, h => by
    obtain ⟨xs, n1, hn1, _, hl, hxl, hf⟩ := DataW.trod_struct Tryd.underlying25 h
    have hl8 : cs.length = 8 := hl.trans (by kernel_rfl)
    have ci : Tryd.prog.cellsOf 3 = 1 := by kernel_rfl
    have cst : Tryd.prog.cellsOf 9 = 1 := by kernel_rfl
    have csl : Tryd.prog.cellsOf 22 = 1 := by kernel_rfl
    have css : Tryd.prog.cellsOf 23 = 1 := by kernel_rfl
    match cs, hl8, xs, hxl with
    | [v0, v1, v2, v3, v4, v5, v6, v7], _, [x0, x1, x2, x3, x4, x5, x6, x7], _ =>
      have f0 : DataW.trod enc Tryd.prog W 0 sp held n1 3 (([v0, v1, v2, v3, v4, v5, v6, v7].drop 0).take (Tryd.prog.cellsOf 3)) = [x0, x1, x2, x3, x4, x5, x6, x7][0]? := hf 0 _ rfl
      have f1 : DataW.trod enc Tryd.prog W 0 sp held n1 3 (([v0, v1, v2, v3, v4, v5, v6, v7].drop 1).take (Tryd.prog.cellsOf 3)) = [x0, x1, x2, x3, x4, x5, x6, x7][1]? := hf 1 _ rfl
      have f2 : DataW.trod enc Tryd.prog W 0 sp held n1 9 (([v0, v1, v2, v3, v4, v5, v6, v7].drop 2).take (Tryd.prog.cellsOf 9)) = [x0, x1, x2, x3, x4, x5, x6, x7][2]? := hf 2 _ rfl
      have f3 : DataW.trod enc Tryd.prog W 0 sp held n1 3 (([v0, v1, v2, v3, v4, v5, v6, v7].drop 3).take (Tryd.prog.cellsOf 3)) = [x0, x1, x2, x3, x4, x5, x6, x7][3]? := hf 3 _ rfl
      have f4 : DataW.trod enc Tryd.prog W 0 sp held n1 9 (([v0, v1, v2, v3, v4, v5, v6, v7].drop 4).take (Tryd.prog.cellsOf 9)) = [x0, x1, x2, x3, x4, x5, x6, x7][4]? := hf 4 _ rfl
      have f5 : DataW.trod enc Tryd.prog W 0 sp held n1 22 (([v0, v1, v2, v3, v4, v5, v6, v7].drop 5).take (Tryd.prog.cellsOf 22)) = [x0, x1, x2, x3, x4, x5, x6, x7][5]? := hf 5 _ rfl
      have f6 : DataW.trod enc Tryd.prog W 0 sp held n1 23 (([v0, v1, v2, v3, v4, v5, v6, v7].drop 6).take (Tryd.prog.cellsOf 23)) = [x0, x1, x2, x3, x4, x5, x6, x7][6]? := hf 6 _ rfl
      have f7 : DataW.trod enc Tryd.prog W 0 sp held n1 23 (([v0, v1, v2, v3, v4, v5, v6, v7].drop 7).take (Tryd.prog.cellsOf 23)) = [x0, x1, x2, x3, x4, x5, x6, x7][7]? := hf 7 _ rfl
      simp only [ci, cst, csl, css, List.drop_zero, List.drop_succ_cons, List.take_succ_cons, List.take_zero, List.getElem?_cons_zero, List.getElem?_cons_succ] at f0 f1 f2 f3 f4 f5 f6 f7
      obtain ⟨k, e0, _, w0⟩ := DataW.trod_int Tryd.underlying3 f0
      obtain ⟨i, e1, _, w1⟩ := DataW.trod_int Tryd.underlying3 f1
      obtain ⟨s, e2, _, w2⟩ := DataW.trod_string Tryd.underlying9 f2
      obtain ⟨t, e3, _, w3⟩ := DataW.trod_int Tryd.underlying3 f3
      obtain ⟨c, e4, _, w4⟩ := DataW.trod_string Tryd.underlying9 f4
      simp only [List.cons.injEq, and_true] at e0 e1 e2 e3 e4
      subst e0 e1 e2 e3 e4
      obtain ⟨xs, pa, ca, rfl, la, ka, ra⟩ := read_exs f5
      obtain ⟨bs, pb, cb, rfl, lb, kb, rb⟩ := read_sts0 (read_st N) (by omega) f6
      obtain ⟨es, pe, ce, rfl, le, ke, re⟩ := read_sts0 (read_st N) (by omega) f7
      have hs : s = ⟨s.data.toList.toArray⟩ := by simp
      have hc : c = ⟨c.data.toList.toArray⟩ := by simp
      have hsl : s.data.toList.length ≤ maxLen := by rw [Array.length_toList]; exact w2
      have hcl : c.data.toList.length ≤ maxLen := by rw [Array.length_toList]; exact w4
      refine ⟨.mk k i s.data.toList t c.data.toList xs bs es, pa, pb, pe, ca, cb, ce, ?_, ⟨i64_of_wf w0, i64_of_wf w1, hsl, i64_of_wf w3, hcl, la, ka, lb, kb, le, ke⟩, ra, rb, re⟩
      simp only [St.kind, St.no, St.name, St.typ, St.callee, St.args, St.body, St.els, ← hs, ← hc]
/-- A statement that comes in. -/
theorem read_stmt {r : Reach} {b0 : Nat} {v : Value} {d : DataW H} {p : List MemPlace} (hv : Value.okWide Tryd.prog W r b0 25 v) (h : DataW.Trod enc Tryd.prog W 0 sp held 25 v d p) : ∃ s, St.Val W s v := by
  obtain ⟨cs, rfl, _⟩ := okWide_struct Tryd.underlying25 hv
  obtain ⟨n, hn⟩ := h
  obtain ⟨s, pa, pb, pe, ca, cb, ce, he, hw, r⟩ := read_st (n + 1) n (Nat.lt_succ_self _) _ _ hn
  refine ⟨s, pa, pb, pe, ca, cb, ce, ?_, hw, r⟩
  have : cs.toList = _ := he
  rw [← Array.toArray_toList (xs := cs), this]
end
end Go.Proofs.YthpmecbekpmijaaDoor
