/- SignsPrograms returns true for every input, whatever the world is in which the table of blanks is laid as the program lays it, and the input reads as it did. No further condition. -/
import Derived.Test.YtnkmbddjekepkaaGreatDoorShC
import Derived.ProofKit
import Derived.OpenShut
import Derived.Test.YtnkmbddjekepkaaGreatDoorSt
import Derived.Test.YtnkmbddjekepkaaGreatDoorRows
import Derived.Test.YtnkmbddjekepkaaGreatDoorShA
import Derived.Lay
import Derived.MakeChecks
import Derived.Handed
import Derived.ChangeSame
import Derived.Test.YtnkmbddjekepkaaGreatDoorSgG
import Derived.Test.YtnkmbddjekepkaaGreatDoorShp
import Derived.BigQuiet
import Derived.Deep.QuietTactic
import Derived.Test.YtnkmbddjekepkaaGreatDoorRsG
import Derived.Test.YtnkmbddjekepkaaGreatDoorEq2
import Derived.Deep.RegionHeld3
import Derived.Test.YtnkmbddjekepkaaGreatDoorSpG
import Derived.Test.YtnkmbddjekepkaaGreatDoorSgP
import Derived.Deep.RegionLaw
import Derived.Test.YtnkmbddjekepkaaGreatDoorTie
import Derived.Test.YtnkmbddjekepkaaGreatDoorCards
import Derived.SevenTiedAt
import Derived.WideKeyArgs
import Derived.ChangeMaps5
/- Expressions that come in: what the statement's reading of them gives, as trees in memory. -/
namespace Go.Proofs.YtnkmbddjekepkaaGreatDoor
open Go Go.RowKit Go.WideShapes Go.ChangeShapes
set_option linter.unusedSimpArgs false
set_option linter.unusedVariables false
set_option linter.unnecessarySimpa false
set_option maxRecDepth 100000
theorem cells5 {w : World} {base : Nat} {a : Addr} {cs : List Value} (h : w.cells? base a 5 = some cs) :
    ∃ (b o : Nat) (v0 v1 v2 v3 v4 : Value), a = ⟨b, o, none⟩ ∧ cs = [v0, v1, v2, v3, v4] ∧ w.cell? ⟨b, o, none⟩ = some v0 ∧ w.cell? ⟨b, o + 1, none⟩ = some v1 ∧ w.cell? ⟨b, o + 2, none⟩ = some v2 ∧
      w.cell? ⟨b, o + 3, none⟩ = some v3 ∧ w.cell? ⟨b, o + 4, none⟩ = some v4 := by
  unfold World.cells? at h
  split at h
  · rw [show List.range 5 = [0, 1, 2, 3, 4] from rfl] at h
    simp only [List.mapM_cons, List.mapM_nil, Option.bind_eq_bind, Option.bind_eq_some_iff, Option.pure_def, Option.some.injEq] at h
    obtain ⟨v0, h0, _, ⟨v1, h1, _, ⟨v2, h2, _, ⟨v3, h3, _, ⟨v4, h4, _, rfl, rfl⟩, rfl⟩, rfl⟩, rfl⟩, rfl⟩ := h
    obtain ⟨b, o, s⟩ := a
    have hs : s = none := by simpa [Addr.add] using World.cell?_spot h0
    subst hs
    exact ⟨b, o, v0, v1, v2, v3, v4, rfl, rfl, by simpa [Addr.add] using h0, by simpa [Addr.add] using h1, by simpa [Addr.add] using h2, by simpa [Addr.add] using h3, by simpa [Addr.add] using h4⟩
  · cases h
theorem i64_of_wf {z : Int} (h : (Lit.int .i64 z).wf = true) : I64 z := by
  have h2 : -9223372036854775808 ≤ z ∧ z ≤ 9223372036854775807 := by simpa [Lit.wf, IntKind.min, IntKind.max, IntKind.signed, IntKind.bits] using h
  exact h2
theorem row_of_all {w : World} {b : Nat} : ∀ (n o : Nat), (∀ i, i < n → ∃ e, Ex.At w e b (o + i * 5)) → ∃ es : List Ex, es.length = n ∧ Ex.Row w es (some ⟨b, o, none⟩)
  | 0, o, _ => ⟨[], rfl, by simp only [Ex.Row]⟩
  | n + 1, o, h => by
    obtain ⟨e, he⟩ := h 0 (by omega)
    obtain ⟨es, hl, hr⟩ := row_of_all n (o + 5) (fun i hi => by
      have := h (i + 1) (by omega)
      rwa [show o + (i + 1) * 5 = o + 5 + i * 5 by omega] at this)
    refine ⟨e :: es, by simp [hl], ?_⟩
    simp only [Ex.Row]
    exact ⟨b, o, rfl, by simpa using he, hr⟩
section
variable {H : Type} {enc : TypeId × Value → H} {W : World} {sp : Nat → Bool} {held : Bool}
theorem read_ex : ∀ (N n : Nat), n < N → ∀ (cs : List Value) (x : DataW H × List MemPlace), DataW.trod enc Tryz.prog W 0 sp held n 110 cs = some x →
    ∃ (e : Ex) (a : Option Addr) (cap : Nat), cs = [.int .i64 e.kind, .int .i64 e.op, .int .i64 e.num, .string ⟨e.name.toArray⟩, .slice a e.args.length cap] ∧ ExWf e.kind e.op e.num e.name e.args.length cap ∧ Ex.Row W e.args a
  | 0, n, hn, _, _, _ => absurd hn (Nat.not_lt_zero _)
  | N + 1, n, hn, cs, x, h => by
    obtain ⟨xs, n1, rfl, _, hl, hxl, hf⟩ := DataW.trod_struct Tryz.underlying110 h
    have hl5 : cs.length = 5 := hl.trans (by kernel_rfl)
    have ci : Tryz.prog.cellsOf 3 = 1 := by kernel_rfl
    have c6 : Tryz.prog.cellsOf 2 = 1 := by kernel_rfl
    have cst : Tryz.prog.cellsOf 9 = 1 := by kernel_rfl
    have csl : Tryz.prog.cellsOf 82 = 1 := by kernel_rfl
    have ce : Tryz.prog.cellsOf 110 = 5 := by kernel_rfl
    match cs, hl5, xs, hxl with
    | [v0, v1, v2, v3, v4], _, [x0, x1, x2, x3, x4], _ =>
      have f0 : DataW.trod enc Tryz.prog W 0 sp held n1 3 (([v0, v1, v2, v3, v4].drop 0).take (Tryz.prog.cellsOf 3)) = [x0, x1, x2, x3, x4][0]? := hf 0 _ rfl
      have f1 : DataW.trod enc Tryz.prog W 0 sp held n1 3 (([v0, v1, v2, v3, v4].drop 1).take (Tryz.prog.cellsOf 3)) = [x0, x1, x2, x3, x4][1]? := hf 1 _ rfl
      have f2 : DataW.trod enc Tryz.prog W 0 sp held n1 2 (([v0, v1, v2, v3, v4].drop 2).take (Tryz.prog.cellsOf 2)) = [x0, x1, x2, x3, x4][2]? := hf 2 _ rfl
      have f3 : DataW.trod enc Tryz.prog W 0 sp held n1 9 (([v0, v1, v2, v3, v4].drop 3).take (Tryz.prog.cellsOf 9)) = [x0, x1, x2, x3, x4][3]? := hf 3 _ rfl
      have f4 : DataW.trod enc Tryz.prog W 0 sp held n1 82 (([v0, v1, v2, v3, v4].drop 4).take (Tryz.prog.cellsOf 82)) = [x0, x1, x2, x3, x4][4]? := hf 4 _ rfl
      simp only [ci, c6, cst, csl, List.drop_zero, List.drop_succ_cons, List.take_succ_cons, List.take_zero, List.getElem?_cons_zero, List.getElem?_cons_succ] at f0 f1 f2 f3 f4
      obtain ⟨k, e0, _, w0⟩ := DataW.trod_int Tryz.underlying3 f0
      obtain ⟨o, e1, _, w1⟩ := DataW.trod_int Tryz.underlying3 f1
      obtain ⟨m, e2, _, w2⟩ := DataW.trod_int Tryz.underlying2 f2
      obtain ⟨s, e3, _, w3⟩ := DataW.trod_string Tryz.underlying9 f3
      simp only [List.cons.injEq, and_true] at e0 e1 e2 e3
      subst e0 e1 e2 e3
      have hs : s = ⟨s.data.toList.toArray⟩ := by simp
      have hsl : s.data.toList.length ≤ maxLen := by rw [Array.length_toList]; exact w3
      rcases DataW.trod_slice Tryz.underlying82 f4 with ⟨e4, _⟩ | ⟨a, len, cap, elems, rest, n2, hn2, e4, _, hb, hlc, hcm, hel, hall, _, _⟩
      · simp only [List.cons.injEq, and_true] at e4
        subst e4
        refine ⟨.mk k o m s.data.toList [], none, 0, ?_, ⟨i64_of_wf w0, i64_of_wf w1, i64_of_wf w2, hsl, Nat.le_refl _, Nat.zero_le _⟩, by simp only [Ex.args, Ex.Row]⟩
        simp only [Ex.kind, Ex.op, Ex.num, Ex.name, Ex.args, List.length_nil, ← hs]
      · simp only [List.cons.injEq, and_true] at e4
        subst e4
        have key : ∀ i, i < len → ∃ (b o : Nat) (e : Ex), a.add (i * 5) = ⟨b, o, none⟩ ∧ Ex.At W e b o := by
          intro i hi
          have h1 := hall i hi
          rw [List.getElem?_eq_getElem (by omega), ce] at h1
          obtain ⟨cs', h2, h3⟩ := Option.bind_eq_some_iff.1 h1
          obtain ⟨b', o', u0, u1, u2, u3, u4, ha, rfl, k0, k1, k2, k3, k4⟩ := cells5 h2
          obtain ⟨e, a', cap', he, hw, hr⟩ := read_ex N n2 (by omega) _ _ h3
          refine ⟨b', o', e, ha, ?_⟩
          simp only [List.cons.injEq, and_true] at he
          obtain ⟨rfl, rfl, rfl, rfl, rfl⟩ := he
          cases e
          simp only [Ex.At]
          exact ⟨a', cap', k0, k1, k2, k3, k4, hw, hr⟩
        by_cases h0 : len = 0
        · subst h0
          refine ⟨.mk k o m s.data.toList [], some a, cap, ?_, ⟨i64_of_wf w0, i64_of_wf w1, i64_of_wf w2, hsl, Nat.zero_le _, hcm⟩, by simp only [Ex.args, Ex.Row]⟩
          simp only [Ex.kind, Ex.op, Ex.num, Ex.name, Ex.args, List.length_nil, ← hs]
        · obtain ⟨b0, o0, _, ha0, _⟩ := key 0 (by omega)
          have ha : a = ⟨b0, o0, none⟩ := by simpa [Addr.add] using ha0
          subst ha
          obtain ⟨es, hes, hrow⟩ := row_of_all (w := W) (b := b0) len o0 (fun i hi => by
            obtain ⟨b', o', e, he, hat⟩ := key i hi
            rw [Addr.add_lit] at he
            simp only [Addr.mk.injEq, and_true] at he
            obtain ⟨rfl, rfl⟩ := he
            exact ⟨e, hat⟩)
          subst hes
          refine ⟨.mk k o m s.data.toList es, some ⟨b0, o0, none⟩, cap, ?_, ⟨i64_of_wf w0, i64_of_wf w1, i64_of_wf w2, hsl, hlc, hcm⟩, hrow⟩
          simp only [Ex.kind, Ex.op, Ex.num, Ex.name, Ex.args, ← hs]
/-- An expression that comes in. -/
theorem read_expr {r : Reach} {b0 : Nat} {v : Value} {d : DataW H} {p : List MemPlace} (hv : Value.okWide Tryz.prog W r b0 110 v) (h : DataW.Trod enc Tryz.prog W 0 sp held 110 v d p) : ∃ e, Ex.Val W e v := by
  obtain ⟨cs, rfl, _⟩ := okWide_struct Tryz.underlying110 hv
  obtain ⟨n, hn⟩ := h
  obtain ⟨e, a, cap, he, hw, hr⟩ := read_ex (n + 1) n (Nat.lt_succ_self _) _ _ hn
  refine ⟨e, a, cap, ?_, hw, hr⟩
  have : cs.toList = _ := he
  rw [← Array.toArray_toList (xs := cs), this]
end
end Go.Proofs.YtnkmbddjekepkaaGreatDoor
/- Statements that come in: what the statement's reading of them gives, as trees in memory. -/
namespace Go.Proofs.YtnkmbddjekepkaaGreatDoor
open Go Go.RowKit Go.WideShapes Go.ChangeShapes
set_option linter.unusedSimpArgs false
set_option linter.unusedVariables false
set_option linter.unnecessarySimpa false
set_option maxRecDepth 100000
theorem cells8 {w : World} {base : Nat} {a : Addr} {cs : List Value} (h : w.cells? base a 8 = some cs) :
    ∃ (b o : Nat) (v0 v1 v2 v3 v4 v5 v6 v7 : Value), a = ⟨b, o, none⟩ ∧ cs = [v0, v1, v2, v3, v4, v5, v6, v7] ∧ w.cell? ⟨b, o, none⟩ = some v0 ∧ w.cell? ⟨b, o + 1, none⟩ = some v1 ∧ w.cell? ⟨b, o + 2, none⟩ = some v2 ∧
      w.cell? ⟨b, o + 3, none⟩ = some v3 ∧ w.cell? ⟨b, o + 4, none⟩ = some v4 ∧ w.cell? ⟨b, o + 5, none⟩ = some v5 ∧ w.cell? ⟨b, o + 6, none⟩ = some v6 ∧ w.cell? ⟨b, o + 7, none⟩ = some v7 := by
  unfold World.cells? at h
  split at h
  · rw [show List.range 8 = [0, 1, 2, 3, 4, 5, 6, 7] from rfl] at h
    simp only [List.mapM_cons, List.mapM_nil, Option.bind_eq_bind, Option.bind_eq_some_iff, Option.pure_def, Option.some.injEq] at h
    obtain ⟨v0, h0, _, ⟨v1, h1, _, ⟨v2, h2, _, ⟨v3, h3, _, ⟨v4, h4, _, ⟨v5, h5, _, ⟨v6, h6, _, ⟨v7, h7, _, rfl, rfl⟩, rfl⟩, rfl⟩, rfl⟩, rfl⟩, rfl⟩, rfl⟩, rfl⟩ := h
    obtain ⟨b, o, s⟩ := a
    have hs : s = none := by simpa [Addr.add] using World.cell?_spot h0
    subst hs
    exact ⟨b, o, v0, v1, v2, v3, v4, v5, v6, v7, rfl, rfl, by simpa [Addr.add] using h0, by simpa [Addr.add] using h1, by simpa [Addr.add] using h2, by simpa [Addr.add] using h3, by simpa [Addr.add] using h4, by simpa [Addr.add] using h5, by simpa [Addr.add] using h6, by simpa [Addr.add] using h7⟩
  · cases h
theorem srow_of_all {w : World} {b : Nat} : ∀ (n o : Nat), (∀ i, i < n → ∃ e, St.At w e b (o + i * 8)) → ∃ es : List St, es.length = n ∧ St.Row w es (some ⟨b, o, none⟩)
  | 0, o, _ => ⟨[], rfl, by simp only [St.Row]⟩
  | n + 1, o, h => by
    obtain ⟨e, he⟩ := h 0 (by omega)
    obtain ⟨es, hl, hr⟩ := srow_of_all n (o + 8) (fun i hi => by
      have := h (i + 1) (by omega)
      rwa [show o + (i + 1) * 8 = o + 8 + i * 8 by omega] at this)
    refine ⟨e :: es, by simp [hl], ?_⟩
    simp only [St.Row]
    exact ⟨b, o, rfl, by simpa using he, hr⟩
section
variable {H : Type} {enc : TypeId × Value → H} {W : World} {sp : Nat → Bool} {held : Bool}
/-- A list of expressions that comes in. -/
theorem read_exs {n : Nat} {v : Value} {x : DataW H × List MemPlace} (h : DataW.trod enc Tryz.prog W 0 sp held n 82 [v] = some x) :
    ∃ (l : List Ex) (a : Option Addr) (cap : Nat), v = .slice a l.length cap ∧ l.length ≤ cap ∧ cap ≤ maxLen ∧ Ex.Row W l a := by
  have ce : Tryz.prog.cellsOf 110 = 5 := by kernel_rfl
  rcases DataW.trod_slice Tryz.underlying82 h with ⟨e4, _⟩ | ⟨a, len, cap, elems, rest, n2, hn2, e4, _, hb, hlc, hcm, hel, hall, _, _⟩
  · simp only [List.cons.injEq, and_true] at e4
    exact ⟨[], none, 0, e4, Nat.le_refl _, Nat.zero_le _, by simp only [Ex.Row]⟩
  · simp only [List.cons.injEq, and_true] at e4
    subst e4
    have key : ∀ i, i < len → ∃ (b o : Nat) (e : Ex), a.add (i * 5) = ⟨b, o, none⟩ ∧ Ex.At W e b o := by
      intro i hi
      have h1 := hall i hi
      rw [List.getElem?_eq_getElem (by omega), ce] at h1
      obtain ⟨cs', h2, h3⟩ := Option.bind_eq_some_iff.1 h1
      obtain ⟨b', o', u0, u1, u2, u3, u4, ha, rfl, k0, k1, k2, k3, k4⟩ := cells5 h2
      obtain ⟨e, a', cap', he, hw, hr⟩ := read_ex (n2 + 1) n2 (Nat.lt_succ_self _) _ _ h3
      refine ⟨b', o', e, ha, ?_⟩
      simp only [List.cons.injEq, and_true] at he
      obtain ⟨rfl, rfl, rfl, rfl, rfl⟩ := he
      cases e
      simp only [Ex.At]
      exact ⟨a', cap', k0, k1, k2, k3, k4, hw, hr⟩
    by_cases h0 : len = 0
    · subst h0
      exact ⟨[], some a, cap, rfl, Nat.zero_le _, hcm, by simp only [Ex.Row]⟩
    · obtain ⟨b0, o0, _, ha0, _⟩ := key 0 (by omega)
      have ha : a = ⟨b0, o0, none⟩ := by simpa [Addr.add] using ha0
      subst ha
      obtain ⟨es, hes, hrow⟩ := row_of_all (w := W) (b := b0) len o0 (fun i hi => by
        obtain ⟨b', o', e, he, hat⟩ := key i hi
        rw [Addr.add_lit] at he
        simp only [Addr.mk.injEq, and_true] at he
        obtain ⟨rfl, rfl⟩ := he
        exact ⟨e, hat⟩)
      subst hes
      exact ⟨es, some ⟨b0, o0, none⟩, cap, rfl, hlc, hcm, hrow⟩
/-- The eight cells of a statement that comes in. -/
def StIs (W : World) (cs : List Value) : Prop :=
  ∃ (s : St) (pa pb pe : Option Addr) (ca cb ce : Nat), cs = [.int .i64 s.kind, .int .i64 s.no, .string ⟨s.name.toArray⟩, .int .i64 s.typ, .string ⟨s.callee.toArray⟩, .slice pa s.args.length ca, .slice pb s.body.length cb, .slice pe s.els.length ce] ∧
    StWf s.kind s.no s.name s.typ s.callee s.args.length ca s.body.length cb s.els.length ce ∧ Ex.Row W s.args pa ∧ St.Row W s.body pb ∧ St.Row W s.els pe
theorem read_sts0 {N : Nat} (ih : ∀ n, n < N → ∀ (cs : List Value) (x : DataW H × List MemPlace), DataW.trod enc Tryz.prog W 0 sp held n 84 cs = some x → StIs W cs) {n : Nat} (hn : n ≤ N) {v : Value} {x : DataW H × List MemPlace} (h : DataW.trod enc Tryz.prog W 0 sp held n 28 [v] = some x) :
    ∃ (l : List St) (a : Option Addr) (cap : Nat), v = .slice a l.length cap ∧ l.length ≤ cap ∧ cap ≤ maxLen ∧ St.Row W l a := by
  have ce : Tryz.prog.cellsOf 84 = 8 := by kernel_rfl
  rcases DataW.trod_slice Tryz.underlying28 h with ⟨e4, _⟩ | ⟨a, len, cap, elems, rest, n2, hn2, e4, _, hb, hlc, hcm, hel, hall, _, _⟩
  · simp only [List.cons.injEq, and_true] at e4
    exact ⟨[], none, 0, e4, Nat.le_refl _, Nat.zero_le _, by simp only [St.Row]⟩
  · simp only [List.cons.injEq, and_true] at e4
    subst e4
    have key : ∀ i, i < len → ∃ (b o : Nat) (e : St), a.add (i * 8) = ⟨b, o, none⟩ ∧ St.At W e b o := by
      intro i hi
      have h1 := hall i hi
      rw [List.getElem?_eq_getElem (by omega), ce] at h1
      obtain ⟨cs', h2, h3⟩ := Option.bind_eq_some_iff.1 h1
      obtain ⟨b', o', u0, u1, u2, u3, u4, u5, u6, u7, ha, rfl, k0, k1, k2, k3, k4, k5, k6, k7⟩ := cells8 h2
      obtain ⟨e, pa, pb, pe, ca, cb, ce, he, hw, r1, r2, r3⟩ := ih n2 (by omega) _ _ h3
      refine ⟨b', o', e, ha, ?_⟩
      simp only [List.cons.injEq, and_true] at he
      obtain ⟨rfl, rfl, rfl, rfl, rfl, rfl, rfl, rfl⟩ := he
      exact St.At.of ⟨k0, k1, k2, k3, k4, k5, k6, k7⟩ hw r1 r2 r3
    by_cases h0 : len = 0
    · subst h0
      exact ⟨[], some a, cap, rfl, Nat.zero_le _, hcm, by simp only [St.Row]⟩
    · obtain ⟨b0, o0, _, ha0, _⟩ := key 0 (by omega)
      have ha : a = ⟨b0, o0, none⟩ := by simpa [Addr.add] using ha0
      subst ha
      obtain ⟨es, hes, hrow⟩ := srow_of_all (w := W) (b := b0) len o0 (fun i hi => by
        obtain ⟨b', o', e, he, hat⟩ := key i hi
        rw [Addr.add_lit] at he
        simp only [Addr.mk.injEq, and_true] at he
        obtain ⟨rfl, rfl⟩ := he
        exact ⟨e, hat⟩)
      subst hes
      exact ⟨es, some ⟨b0, o0, none⟩, cap, rfl, hlc, hcm, hrow⟩
theorem read_st : ∀ (N n : Nat), n < N → ∀ (cs : List Value) (x : DataW H × List MemPlace), DataW.trod enc Tryz.prog W 0 sp held n 84 cs = some x → StIs W cs
  | 0, n, hn, _, _, _ => absurd hn (Nat.not_lt_zero _)
  | N + 1, n, hn, cs, x, h => by
    obtain ⟨xs, n1, hn1, _, hl, hxl, hf⟩ := DataW.trod_struct Tryz.underlying84 h
    have hl8 : cs.length = 8 := hl.trans (by kernel_rfl)
    have ci : Tryz.prog.cellsOf 3 = 1 := by kernel_rfl
    have cst : Tryz.prog.cellsOf 9 = 1 := by kernel_rfl
    have csl : Tryz.prog.cellsOf 82 = 1 := by kernel_rfl
    have css : Tryz.prog.cellsOf 28 = 1 := by kernel_rfl
    match cs, hl8, xs, hxl with
    | [v0, v1, v2, v3, v4, v5, v6, v7], _, [x0, x1, x2, x3, x4, x5, x6, x7], _ =>
      have f0 : DataW.trod enc Tryz.prog W 0 sp held n1 3 (([v0, v1, v2, v3, v4, v5, v6, v7].drop 0).take (Tryz.prog.cellsOf 3)) = [x0, x1, x2, x3, x4, x5, x6, x7][0]? := hf 0 _ rfl
      have f1 : DataW.trod enc Tryz.prog W 0 sp held n1 3 (([v0, v1, v2, v3, v4, v5, v6, v7].drop 1).take (Tryz.prog.cellsOf 3)) = [x0, x1, x2, x3, x4, x5, x6, x7][1]? := hf 1 _ rfl
      have f2 : DataW.trod enc Tryz.prog W 0 sp held n1 9 (([v0, v1, v2, v3, v4, v5, v6, v7].drop 2).take (Tryz.prog.cellsOf 9)) = [x0, x1, x2, x3, x4, x5, x6, x7][2]? := hf 2 _ rfl
      have f3 : DataW.trod enc Tryz.prog W 0 sp held n1 3 (([v0, v1, v2, v3, v4, v5, v6, v7].drop 3).take (Tryz.prog.cellsOf 3)) = [x0, x1, x2, x3, x4, x5, x6, x7][3]? := hf 3 _ rfl
      have f4 : DataW.trod enc Tryz.prog W 0 sp held n1 9 (([v0, v1, v2, v3, v4, v5, v6, v7].drop 4).take (Tryz.prog.cellsOf 9)) = [x0, x1, x2, x3, x4, x5, x6, x7][4]? := hf 4 _ rfl
      have f5 : DataW.trod enc Tryz.prog W 0 sp held n1 82 (([v0, v1, v2, v3, v4, v5, v6, v7].drop 5).take (Tryz.prog.cellsOf 82)) = [x0, x1, x2, x3, x4, x5, x6, x7][5]? := hf 5 _ rfl
      have f6 : DataW.trod enc Tryz.prog W 0 sp held n1 28 (([v0, v1, v2, v3, v4, v5, v6, v7].drop 6).take (Tryz.prog.cellsOf 28)) = [x0, x1, x2, x3, x4, x5, x6, x7][6]? := hf 6 _ rfl
      have f7 : DataW.trod enc Tryz.prog W 0 sp held n1 28 (([v0, v1, v2, v3, v4, v5, v6, v7].drop 7).take (Tryz.prog.cellsOf 28)) = [x0, x1, x2, x3, x4, x5, x6, x7][7]? := hf 7 _ rfl
      simp only [ci, cst, csl, css, List.drop_zero, List.drop_succ_cons, List.take_succ_cons, List.take_zero, List.getElem?_cons_zero, List.getElem?_cons_succ] at f0 f1 f2 f3 f4 f5 f6 f7
      obtain ⟨k, e0, _, w0⟩ := DataW.trod_int Tryz.underlying3 f0
      obtain ⟨i, e1, _, w1⟩ := DataW.trod_int Tryz.underlying3 f1
      obtain ⟨s, e2, _, w2⟩ := DataW.trod_string Tryz.underlying9 f2
      obtain ⟨t, e3, _, w3⟩ := DataW.trod_int Tryz.underlying3 f3
      obtain ⟨c, e4, _, w4⟩ := DataW.trod_string Tryz.underlying9 f4
      simp only [List.cons.injEq, and_true] at e0 e1 e2 e3 e4
      subst e0 e1 e2 e3 e4
      obtain ⟨xs, pa, ca, rfl, la, ka, ra⟩ := read_exs f5
      obtain ⟨bs, pb, cb, rfl, lb, kb, rb⟩ := read_sts0 (read_st N) (by omega) f6
      obtain ⟨es, pe, ce, rfl, le, ke, re⟩ := read_sts0 (read_st N) (by omega) f7
      have hs : s = ⟨s.data.toList.toArray⟩ := by simp
      have hc : c = ⟨c.data.toList.toArray⟩ := by simp
      have hsl : s.data.toList.length ≤ maxLen := by rw [Array.length_toList]; exact w2
      have hcl : c.data.toList.length ≤ maxLen := by rw [Array.length_toList]; exact w4
      refine ⟨.mk k i s.data.toList t c.data.toList xs bs es, pa, pb, pe, ca, cb, ce, ?_, ⟨i64_of_wf w0, i64_of_wf w1, hsl, i64_of_wf w3, hcl, la, ka, lb, kb, le, ke⟩, ra, rb, re⟩
      simp only [St.kind, St.no, St.name, St.typ, St.callee, St.args, St.body, St.els, ← hs, ← hc]
/-- A statement that comes in. -/
theorem read_stmt {r : Reach} {b0 : Nat} {v : Value} {d : DataW H} {p : List MemPlace} (hv : Value.okWide Tryz.prog W r b0 84 v) (h : DataW.Trod enc Tryz.prog W 0 sp held 84 v d p) : ∃ s, St.Val W s v := by
  obtain ⟨cs, rfl, _⟩ := okWide_struct Tryz.underlying84 hv
  obtain ⟨n, hn⟩ := h
  obtain ⟨s, pa, pb, pe, ca, cb, ce, he, hw, r⟩ := read_st (n + 1) n (Nat.lt_succ_self _) _ _ hn
  refine ⟨s, pa, pb, pe, ca, cb, ce, ?_, hw, r⟩
  have : cs.toList = _ := he
  rw [← Array.toArray_toList (xs := cs), this]
end
end Go.Proofs.YtnkmbddjekepkaaGreatDoor
/- Functions and programs that come in: what the statement's reading of them gives. -/
namespace Go.Proofs.YtnkmbddjekepkaaGreatDoor
open Go Go.RowKit Go.WideShapes Go.ChangeShapes
set_option linter.unusedSimpArgs false
set_option linter.unusedVariables false
set_option linter.unnecessarySimpa false
set_option maxRecDepth 100000
theorem cells2P {w : World} {base : Nat} {a : Addr} {cs : List Value} (h : w.cells? base a 2 = some cs) :
    ∃ (b o : Nat) (v0 v1 : Value), a = ⟨b, o, none⟩ ∧ cs = [v0, v1] ∧ w.cell? ⟨b, o, none⟩ = some v0 ∧ w.cell? ⟨b, o + 1, none⟩ = some v1 := by
  unfold World.cells? at h
  split at h
  · rw [show List.range 2 = [0, 1] from rfl] at h
    simp only [List.mapM_cons, List.mapM_nil, Option.bind_eq_bind, Option.bind_eq_some_iff, Option.pure_def, Option.some.injEq] at h
    obtain ⟨v0, h0, _, ⟨v1, h1, _, rfl, rfl⟩, rfl⟩ := h
    obtain ⟨b, o, s⟩ := a
    have hs : s = none := by simpa [Addr.add] using World.cell?_spot h0
    subst hs
    exact ⟨b, o, v0, v1, rfl, rfl, by simpa [Addr.add] using h0, by simpa [Addr.add] using h1⟩
  · cases h
section
variable {H : Type} {enc : TypeId × Value → H} {W : World} {sp : Nat → Bool} {held : Bool}
/-- A list of parameters that comes in. -/
theorem read_pms {n : Nat} {v : Value} {x : DataW H × List MemPlace} (h : DataW.trod enc Tryz.prog W 0 sp held n 27 [v] = some x) :
    ∃ (l : List Pm) (a : Option Addr) (cap : Nat), v = .slice a l.length cap ∧ Pms W l a cap := by
  have cv : Tryz.prog.cellsOf 72 = 2 := by kernel_rfl
  have ci : Tryz.prog.cellsOf 3 = 1 := by kernel_rfl
  have cst : Tryz.prog.cellsOf 9 = 1 := by kernel_rfl
  rcases DataW.trod_slice Tryz.underlying27 h with ⟨e4, _⟩ | ⟨a', len, cap, elems, rest, n2, hn2, e4, _, hb, hlc, hcm, hel, hall, _, _⟩
  · simp only [List.cons.injEq, and_true] at e4
    exact ⟨[], none, 0, e4, ⟨Nat.le_refl _, Nat.zero_le _, by simp, fun b o e => (by cases e), by simp⟩⟩
  · simp only [List.cons.injEq, and_true] at e4
    subst e4
    have key : ∀ i, i < len → ∃ (b o : Nat) (x : Pm), a'.add (i * 2) = ⟨b, o, none⟩ ∧ (x.name.length ≤ maxLen ∧ I64 x.typ) ∧ W.cell? ⟨b, o, none⟩ = some (.string ⟨x.name.toArray⟩) ∧ W.cell? ⟨b, o + 1, none⟩ = some (.int .i64 x.typ) := by
      intro i hi
      have h1 := hall i hi
      rw [List.getElem?_eq_getElem (by omega), cv] at h1
      obtain ⟨cs', h2, h3⟩ := Option.bind_eq_some_iff.1 h1
      obtain ⟨b', o', u0, u1, ha, rfl, k0, k1⟩ := cells2P h2
      obtain ⟨xs, n3, _, _, _, hxl, hf⟩ := DataW.trod_struct Tryz.underlying72 h3
      match xs, hxl with
      | [x0, x1], _ =>
        have f0 : DataW.trod enc Tryz.prog W 0 sp held n3 9 (([u0, u1].drop 0).take (Tryz.prog.cellsOf 9)) = [x0, x1][0]? := hf 0 _ rfl
        have f1 : DataW.trod enc Tryz.prog W 0 sp held n3 3 (([u0, u1].drop 1).take (Tryz.prog.cellsOf 3)) = [x0, x1][1]? := hf 1 _ rfl
        simp only [ci, cst, List.drop_zero, List.drop_succ_cons, List.take_succ_cons, List.take_zero, List.getElem?_cons_zero, List.getElem?_cons_succ] at f0 f1
        obtain ⟨s, e0, _, w0⟩ := DataW.trod_string Tryz.underlying9 f0
        obtain ⟨t1, e1, _, w1⟩ := DataW.trod_int Tryz.underlying3 f1
        simp only [List.cons.injEq, and_true] at e0 e1
        subst e0 e1
        have hs : s = ⟨s.data.toList.toArray⟩ := by simp
        exact ⟨b', o', ⟨s.data.toList, t1⟩, ha, ⟨by simp only; rw [Array.length_toList]; exact w0, i64_of_wf w1⟩, by rw [k0], k1⟩
    by_cases h0 : len = 0
    · subst h0
      exact ⟨[], some a', cap, rfl, ⟨Nat.zero_le _, hcm, by simp, fun b o e i hi => absurd hi (Nat.not_lt_zero _), by simp⟩⟩
    · obtain ⟨b0, o0, _, ha0, _⟩ := key 0 (by omega)
      have ha : a' = ⟨b0, o0, none⟩ := by simpa [Addr.add] using ha0
      subst ha
      have key2 : ∀ i, i < len → ∃ x : Pm, (x.name.length ≤ maxLen ∧ I64 x.typ) ∧ W.cell? ⟨b0, o0 + i * 2, none⟩ = some (.string ⟨x.name.toArray⟩) ∧ W.cell? ⟨b0, o0 + i * 2 + 1, none⟩ = some (.int .i64 x.typ) := fun i hi => by
        obtain ⟨b', o', x, he, hw, hat⟩ := key i hi
        rw [Addr.add_lit] at he
        simp only [Addr.mk.injEq, and_true] at he
        obtain ⟨rfl, rfl⟩ := he
        exact ⟨x, hw, hat⟩
      refine ⟨(List.finRange len).map fun i => (key2 i.1 i.2).choose, some ⟨b0, o0, none⟩, cap, by simp, ⟨by simpa using hlc, hcm, fun _ => ⟨_, _, rfl⟩, ?_, ?_⟩⟩
      · intro b o e i hi
        simp only [Option.some.injEq, Addr.mk.injEq, and_true] at e
        obtain ⟨rfl, rfl⟩ := e
        have hi' : i < len := by simpa using hi
        have := (key2 i hi').choose_spec.2
        simpa using this
      · intro p hp
        obtain ⟨i, _, rfl⟩ := List.mem_map.1 hp
        exact (key2 i.1 i.2).choose_spec.1
/-- The five cells of a function that comes in. -/
theorem read_fn {n : Nat} {cs : List Value} {x : DataW H × List MemPlace} (h : DataW.trod enc Tryz.prog W 0 sp held n 30 cs = some x) :
    ∃ (f : Fn) (pp pb : Option Addr) (cp cb : Nat), cs = [.string ⟨f.name.toArray⟩, .slice pp f.params.length cp, .int .i64 f.result, .slice pb f.body.length cb, .int .i64 f.count] ∧ FnWf f cb ∧ Pms W f.params pp cp ∧ St.Row W f.body pb := by
  obtain ⟨xs, n1, hn1, _, hl, hxl, hf⟩ := DataW.trod_struct Tryz.underlying30 h
  have hl5 : cs.length = 5 := hl.trans (by kernel_rfl)
  have ci : Tryz.prog.cellsOf 3 = 1 := by kernel_rfl
  have cst : Tryz.prog.cellsOf 9 = 1 := by kernel_rfl
  have csp : Tryz.prog.cellsOf 27 = 1 := by kernel_rfl
  have css : Tryz.prog.cellsOf 28 = 1 := by kernel_rfl
  match cs, hl5, xs, hxl with
  | [v0, v1, v2, v3, v4], _, [x0, x1, x2, x3, x4], _ =>
    have f0 : DataW.trod enc Tryz.prog W 0 sp held n1 9 (([v0, v1, v2, v3, v4].drop 0).take (Tryz.prog.cellsOf 9)) = [x0, x1, x2, x3, x4][0]? := hf 0 _ rfl
    have f1 : DataW.trod enc Tryz.prog W 0 sp held n1 27 (([v0, v1, v2, v3, v4].drop 1).take (Tryz.prog.cellsOf 27)) = [x0, x1, x2, x3, x4][1]? := hf 1 _ rfl
    have f2 : DataW.trod enc Tryz.prog W 0 sp held n1 3 (([v0, v1, v2, v3, v4].drop 2).take (Tryz.prog.cellsOf 3)) = [x0, x1, x2, x3, x4][2]? := hf 2 _ rfl
    have f3 : DataW.trod enc Tryz.prog W 0 sp held n1 28 (([v0, v1, v2, v3, v4].drop 3).take (Tryz.prog.cellsOf 28)) = [x0, x1, x2, x3, x4][3]? := hf 3 _ rfl
    have f4 : DataW.trod enc Tryz.prog W 0 sp held n1 3 (([v0, v1, v2, v3, v4].drop 4).take (Tryz.prog.cellsOf 3)) = [x0, x1, x2, x3, x4][4]? := hf 4 _ rfl
    simp only [ci, cst, csp, css, List.drop_zero, List.drop_succ_cons, List.take_succ_cons, List.take_zero, List.getElem?_cons_zero, List.getElem?_cons_succ] at f0 f1 f2 f3 f4
    obtain ⟨s, e0, _, w0⟩ := DataW.trod_string Tryz.underlying9 f0
    obtain ⟨r, e2, _, w2⟩ := DataW.trod_int Tryz.underlying3 f2
    obtain ⟨c, e4, _, w4⟩ := DataW.trod_int Tryz.underlying3 f4
    simp only [List.cons.injEq, and_true] at e0 e2 e4
    subst e0 e2 e4
    obtain ⟨ps, pp, cp, rfl, hps⟩ := read_pms f1
    obtain ⟨bs, pb, cb, rfl, lb, kb, rb⟩ := read_sts0 (read_st n1) (Nat.le_refl _) f3
    have hs : s = ⟨s.data.toList.toArray⟩ := by simp
    have hsl : s.data.toList.length ≤ maxLen := by rw [Array.length_toList]; exact w0
    refine ⟨⟨s.data.toList, ps, r, bs, c⟩, pp, pb, cp, cb, ?_, ⟨hsl, i64_of_wf w2, lb, kb, i64_of_wf w4⟩, hps, rb⟩
    simp only [← hs]
/-- A function that comes in. -/
theorem read_func {r : Reach} {b0 : Nat} {v : Value} {d : DataW H} {p : List MemPlace} (hv : Value.okWide Tryz.prog W r b0 30 v) (h : DataW.Trod enc Tryz.prog W 0 sp held 30 v d p) : ∃ f, Fn.Val W f v := by
  obtain ⟨cs, rfl, _⟩ := okWide_struct Tryz.underlying30 hv
  obtain ⟨n, hn⟩ := h
  obtain ⟨f, pp, pb, cp, cb, he, hw, hp, hr⟩ := read_fn hn
  refine ⟨f, pp, pb, cp, cb, ?_, hw, hp, hr⟩
  have : cs.toList = _ := he
  rw [← Array.toArray_toList (xs := cs), this]
theorem read_fns {n : Nat} {v : Value} {x : DataW H × List MemPlace} (h : DataW.trod enc Tryz.prog W 0 sp held n 22 [v] = some x) :
    ∃ (l : List Fn) (a : Option Addr) (cap : Nat), v = .slice a l.length cap ∧ Fns W l a cap := by
  have cv : Tryz.prog.cellsOf 30 = 5 := by kernel_rfl
  rcases DataW.trod_slice Tryz.underlying22 h with ⟨e4, _⟩ | ⟨a', len, cap, elems, rest, n2, hn2, e4, _, hb, hlc, hcm, hel, hall, _, _⟩
  · simp only [List.cons.injEq, and_true] at e4
    exact ⟨[], none, 0, e4, ⟨Nat.le_refl _, Nat.zero_le _, by simp, fun b o e => (by cases e)⟩⟩
  · simp only [List.cons.injEq, and_true] at e4
    subst e4
    have key : ∀ i, i < len → ∃ (b o : Nat) (f : Fn), a'.add (i * 5) = ⟨b, o, none⟩ ∧ Fn.At W f b o := by
      intro i hi
      have h1 := hall i hi
      rw [List.getElem?_eq_getElem (by omega), cv] at h1
      obtain ⟨cs', h2, h3⟩ := Option.bind_eq_some_iff.1 h1
      obtain ⟨b', o', u0, u1, u2, u3, u4, ha, rfl, k0, k1, k2, k3, k4⟩ := cells5 h2
      obtain ⟨f, pp, pb, cp, cb, he, hw, hp, hr⟩ := read_fn h3
      refine ⟨b', o', f, ha, pp, pb, cp, cb, ?_⟩
      simp only [List.cons.injEq, and_true] at he
      obtain ⟨rfl, rfl, rfl, rfl, rfl⟩ := he
      exact ⟨k0, k1, k2, k3, k4, hw, hp, hr⟩
    by_cases h0 : len = 0
    · subst h0
      exact ⟨[], some a', cap, rfl, ⟨Nat.zero_le _, hcm, by simp, fun b o e i hi => absurd hi (Nat.not_lt_zero _)⟩⟩
    · obtain ⟨b0, o0, _, ha0, _⟩ := key 0 (by omega)
      have ha : a' = ⟨b0, o0, none⟩ := by simpa [Addr.add] using ha0
      subst ha
      have key2 : ∀ i, i < len → ∃ f : Fn, Fn.At W f b0 (o0 + i * 5) := fun i hi => by
        obtain ⟨b', o', x, he, hat⟩ := key i hi
        rw [Addr.add_lit] at he
        simp only [Addr.mk.injEq, and_true] at he
        obtain ⟨rfl, rfl⟩ := he
        exact ⟨x, hat⟩
      refine ⟨(List.finRange len).map fun i => (key2 i.1 i.2).choose, some ⟨b0, o0, none⟩, cap, by simp, ⟨by simpa using hlc, hcm, fun _ => ⟨_, _, rfl⟩, ?_⟩⟩
      intro b o e i hi
      simp only [Option.some.injEq, Addr.mk.injEq, and_true] at e
      obtain ⟨rfl, rfl⟩ := e
      have hi' : i < len := by simpa using hi
      have := (key2 i hi').choose_spec
      simpa using this
/-- A program that comes in. -/
theorem read_program {r : Reach} {b0 : Nat} {v : Value} {d : DataW H} {p : List MemPlace} (hv : Value.okWide Tryz.prog W r b0 24 v) (h : DataW.Trod enc Tryz.prog W 0 sp held 24 v d p) :
    ∃ (l : List Fn) (a : Option Addr) (cap : Nat), v = .agg #[.slice a l.length cap] ∧ Fns W l a cap := by
  obtain ⟨cs, rfl, _⟩ := okWide_struct Tryz.underlying24 hv
  obtain ⟨n, hn⟩ := h
  obtain ⟨xs, n1, hn1, _, hl, hxl, hf⟩ := DataW.trod_struct Tryz.underlying24 hn
  have csf : Tryz.prog.cellsOf 22 = 1 := by kernel_rfl
  have hl1 : cs.toList.length = 1 := (show cs.toList.length = _ from hl).trans (by kernel_rfl)
  obtain ⟨v0, hv0⟩ : ∃ v0, cs.toList = [v0] := by
    rcases hc : cs.toList with _ | ⟨v0, t⟩
    · rw [hc] at hl1
      cases hl1
    · rw [hc] at hl1
      cases t
      · exact ⟨v0, rfl⟩
      · simp at hl1
  match xs, hxl with
  | [x0], _ =>
    have f0 : DataW.trod enc Tryz.prog W 0 sp held n1 22 ((cs.toList.drop 0).take (Tryz.prog.cellsOf 22)) = [x0][0]? := hf 0 _ rfl
    rw [hv0] at f0
    simp only [csf, List.drop_zero, List.take_succ_cons, List.take_zero, List.getElem?_cons_zero] at f0
    obtain ⟨l, a, cap, rfl, hfn⟩ := read_fns f0
    refine ⟨l, a, cap, ?_, hfn⟩
    rw [← Array.toArray_toList (xs := cs), hv0]
end
end Go.Proofs.YtnkmbddjekepkaaGreatDoor
/- What a row of this seat needs: its condition gives the table of blanks; a world that meets it; the last step of a row. -/
namespace Go.Proofs.YtnkmbddjekepkaaGreatDoor
open Go Go.RowKit Go.WideShapes Go.ChangeShapes
set_option linter.unusedSimpArgs false
set_option linter.unusedVariables false
set_option linter.unnecessarySimpa false
theorem own : ownKnob Tryz.prog.godebug = none := by kernel_rfl
/-- The list of laid variables of every row of this seat. -/
def theLaid : List (String × DataW Unit) := [("unicode/utf8.acceptRanges", Rows.laid_unicode_utf8_acceptRanges), ("unicode.White_Space", Rows.laid_unicode_White_Space), ("strings.asciiSpace", Rows.laid_strings_asciiSpace), ("rewind/signs.words", Rows.laid_rewind_signs_words), ("unicode/utf8.first", Rows.laid_unicode_utf8_first)]
theorem space_data : (Rows.laid_strings_asciiSpace : DataW Unit) = Lib.tabData .u8 Lib.asciiSpaceTab := by kernel_rfl
/-- What a row's condition says of one of the listed variables. -/
theorem laid_get0 {P : Program} {W : World} : ∀ {l : List (String × DataW Unit)} {ps : List MemPlace}, DataW.LaidVars P W l ps → ∀ {n : String} {d : DataW Unit}, (n, d) ∈ l →
    ∃ g t cs fuel p, P.globalNamed n = some g ∧ (P.globals[g]?).map (·.type) = some t ∧ W.var? P n = some cs ∧ DataW.trod (fun _ => ()) P W 0 (fun _ => true) false fuel t cs.toList = some (d, p)
  | [], _, _, _, _, hm => by cases hm
  | (m, e) :: l, ps, h, n, d, hm => by
    obtain ⟨g, t, cs, fuel, p, q, h1, h2, h3, h4, h5, _⟩ := h
    cases hm with
    | head => exact ⟨g, t, cs, fuel, p, h1, h2, h3, h4⟩
    | tail _ hm => exact laid_get0 h5 hm
theorem laid_get {W : World} (h : laidMetH Tryz.prog theLaid W) {n : String} {d : DataW Unit} (hm : (n, d) ∈ theLaid) :
    ∃ g t cs fuel p, Tryz.prog.globalNamed n = some g ∧ (Tryz.prog.globals[g]?).map (·.type) = some t ∧ W.var? Tryz.prog n = some cs ∧ DataW.trod (fun _ => ()) Tryz.prog W 0 (fun _ => true) false fuel t cs.toList = some (d, p) := by
  rw [MakeChecks.laidMetH_plain _ _ _ (by kernel_rfl)] at h
  obtain ⟨ps, h, _⟩ := h
  exact laid_get0 h hm
/-- What a row's condition on the listed variables gives a walk. -/
theorem tab_of_laid {W : World} (h : laidMetH Tryz.prog theLaid W) : Tab W := by
  obtain ⟨g', t', cs, fuel, p, hg', ht', hvar, hd⟩ := laid_get h (n := "strings.asciiSpace") (d := Rows.laid_strings_asciiSpace) (by unfold theLaid; repeat (first | exact List.mem_cons_self | apply List.mem_cons_of_mem))
  have hg : Tryz.prog.globalNamed "strings.asciiSpace" = some 1 := by kernel_rfl
  obtain rfl := Option.some.inj (hg.symm.trans hg')
  obtain rfl := Option.some.inj ((show (Tryz.prog.globals[1]?).map (·.type) = some 134 by kernel_rfl).symm.trans ht')
  rw [space_data] at hd
  unfold Tab Lib.TabIs
  rw [hvar, ← Lib.cells_of_tab Tryz.underlying134 Tryz.underlying5 (by kernel_rfl) (by kernel_rfl) hd]
/-- A world that meets every row's condition on the listed variables. -/
theorem witness_laid {os : Os} {H : Type} {enc : TypeId × Value → H} {f : FuncId} {fn : Func} {s : ChangeSpec} (args : Array Value) (fuel : Nat)
    (hv : ((World.laidAll Tryz.prog os theLaid).forCall (fun _ _ => 0) ⟨#[], args, []⟩).variablesZipB Tryz.prog = true)
    (hr : (((World.laidAll Tryz.prog os theLaid).forCall (fun _ _ => 0) ⟨#[], args, []⟩).heap.toList.drop Tryz.prog.globals.size).take ((begin Tryz.prog (fun _ _ => 0) default).world.heap.size - Tryz.prog.globals.size) =
      (begin Tryz.prog (fun _ _ => 0) default).world.heap.toList.drop Tryz.prog.globals.size)
    (hok : Input.okWideB Tryz.prog ((World.laidAll Tryz.prog os theLaid).forCall (fun _ _ => 0) ⟨#[], args, []⟩) f ⟨#[], args, []⟩ = true)
    (hpre : s.preB enc Tryz.prog fn [] false ((World.laidAll Tryz.prog os theLaid).forCall (fun _ _ => 0) ⟨#[], args, []⟩).memory args fuel = true)
    (hsz : s.sizedB enc Tryz.prog fn false ((World.laidAll Tryz.prog os theLaid).forCall (fun _ _ => 0) ⟨#[], args, []⟩).memory args fuel = true)
    (hf : (World.holding Tryz.prog os ⟨#[], #[], []⟩).layFits Tryz.prog theLaid [] = true)
    (hi : (World.holding Tryz.prog os ⟨#[], #[], []⟩).layIfaces Tryz.prog theLaid (World.laidAll Tryz.prog os theLaid) = true) :
    ∃ (w : World) (tape : Tape) (i : Input), w.os = os ∧ (w.forCall tape i).Shaped Tryz.prog ∧ i.vars = [] ∧ Input.okWide Tryz.prog (w.forCall tape i) .any w.heap.size f i ∧
      ((s.pre enc Tryz.prog fn [] false (w.forCall tape i).memory i.args ∧ laidMetH Tryz.prog theLaid (w.forCall tape i).memory) ∧ sizedMet enc Tryz.prog fn (OpenSpec.ofChange s) false (w.forCall tape i).memory i.args) ∧ ({} : Assume).holds Tryz.prog (lone (Frame.enter Tryz.prog f i.args .normal) [] (w.forCall tape i)) :=
  ⟨World.laidAll Tryz.prog os theLaid, fun _ _ => 0, ⟨#[], args, []⟩, World.laidAll_os _ _ _, World.shaped_of_ZipB hv hr, (Input.okWide_of_okWideB (base := 0) hok).1, (Input.okWide_of_okWideB hok).2, ⟨⟨ChangeSpec.pre_of_preB hpre, by
    rw [MakeChecks.laidMetH_plain _ _ _ (by kernel_rfl)]; exact laidMet_laidAll _ hf hi⟩, sizedMet_of_sizedB hsz⟩, by
    simp only [Assume.holds]
    exact ⟨by simp, by simp, fun _ => Modest.zero, by simp, by simp⟩⟩
section
variable {H : Type} {enc : TypeId × Value → H} {P : Program}
/-- The row's last step, where of the call's world one knows that what was there has not turned. -/
theorem post_of_below {f : Func} {s : ChangeSpec} {apart fresh handsOn again : Bool} {W W' : World} {args : Array Value} {v : Value} {ds gs : List (DataW H)} {before pa pv : List MemPlace}
    (hW : DataW.Whole enc P f.params.toList s.vars apart W args.toList ds gs before)
    (hres : ∀ (b : Nat) (sp : Nat → Bool) (hd : Bool), DataW.TrodAll enc P W' b sp hd f.resultTypes.toList (v.resultList f.resultTypes.size) (s.fn H (ds ++ gs)).results [])
    (hargs : ∀ sp : Nat → Bool, (∀ p ∈ before, sp p.block = true) → DataW.TrodAll enc P W' 0 sp true f.params.toList args.toList (s.fn H (ds ++ gs)).args pa)
    (hvars : ∀ sp : Nat → Bool, (∀ p ∈ before, sp p.block = true) → DataW.TrodVars enc P W' sp s.vars (s.fn H (ds ++ gs)).vars pv)
    (hps : before = pa ++ pv) (hb : Below W.heap.size W W')
    (hok : ∀ (j : Nat) (t : TypeId) (r : Value), f.resultTypes[j]? = some t → (v.resultList f.resultTypes.size)[j]? = some r → Value.okWide P W' .any 0 t r) :
    s.post enc P f apart fresh handsOn again W args v W' := by
  have hlt : ∀ p ∈ before, p.block < W.heap.size := fun p hp => hW.lt p hp
  have hold : ∀ p ∈ before, (fun b => decide (b < W.heap.size)) p.block = true := fun p hp => by simpa using hlt p hp
  refine ⟨ds, gs, before, [], pa, pv, hW, hres _ _ _, hargs _ hold, hvars _ hold, World.keptBut_mono (fun p hp => ⟨hp, ?_⟩) (hb.frame (· ∈ before)), fun _ => ?_⟩
  · rw [hps, List.mem_append] at hp
    exact Or.inr hp
  · obtain ⟨_, _, _, _, _, hz, hn⟩ := hW
    refine ⟨hok, _, _, ([] ++ pa) ++ pv, ⟨[] ++ pa, pv, trodAll_append (hargs _ (fun _ _ => rfl)) (hres _ _ _), hvars _ (fun _ _ => rfl), rfl, ?_, ?_⟩, ?_⟩
    · intro b off hp
      have hin : MemPlace.cell b off ∈ before := by rw [hps]; simpa using hp
      rw [hb.frozen (hlt _ hin)]
      exact hz b off hin
    · intro ha
      have := hn ha
      rw [hps] at this
      simpa using this
    · intro p hp _
      rw [hps]
      simpa using hp
end
end Go.Proofs.YtnkmbddjekepkaaGreatDoor
/- The words of types, laid. -/
namespace Go.Proofs.YtnkmbddjekepkaaGreatDoor
open Go Go.RowKit Go.WideShapes Go.ChangeShapes
set_option linter.unusedSimpArgs false
set_option linter.unusedVariables false
set_option linter.unnecessarySimpa false
/-- A table of strings. -/
theorem cells_of_strtab {H : Type} {enc : TypeId × Value → H} {P : Program} {w : World} {base : Nat} {sp : Nat → Bool} {held : Bool} {fuel : Nat} {t e : TypeId} {n : Nat} {cs : List Value} {zs : List Bytes} {p : List MemPlace}
    (ht : P.underlying t = some (.array n e)) (he : P.underlying e = some .string) (hce : P.cellsOf e = 1) (hct : P.cellsOf t = n)
    (h : DataW.trod enc P w base sp held fuel t cs = some (.agg (zs.map fun z => .lit (.string z)), p)) : cs = zs.map fun z => Value.string ⟨z.toArray⟩ := by
  cases fuel with
  | zero => simp [DataW.trod] at h
  | succ fuel =>
    simp only [DataW.trod, ht, hce, hct, Nat.mul_one] at h
    split at h
    · rename_i hl
      obtain ⟨xs, hm, hx⟩ := Option.map_eq_some_iff.1 h
      have hxs : xs.map (·.1) = zs.map fun z => (DataW.lit (.string z) : DataW H) := by
        have := congrArg Prod.fst hx
        simpa using this
      have hxl : xs.length = n := by simpa using Lib.mapM_length hm
      have hzl : zs.length = n := by
        have := congrArg List.length hxs
        simp at this
        omega
      apply List.ext_getElem?
      intro i
      by_cases hi : i < n
      · obtain ⟨b, hb, hf⟩ := Lib.mapM_at hm i i (by simp [hi])
        obtain ⟨z, hc, rfl, _⟩ := DataW.trod_string he hf
        have h1 : cs[i]? = some (.string z) := by
          have := congrArg (·[0]?) hc
          simpa [List.getElem?_take, List.getElem?_drop] using this
        have h2 : (xs.map (·.1))[i]? = some (DataW.lit (.string z.data.toList) : DataW H) := by simp [hb]
        rw [hxs] at h2
        simp only [List.getElem?_map, Option.map_eq_some_iff, DataW.lit.injEq, Lit.string.injEq] at h2
        obtain ⟨z', hz', rfl⟩ := h2
        simp [h1, hz']
      · rw [List.getElem?_eq_none (by omega), List.getElem?_eq_none (by simp; omega)]
    · cases h
theorem words_data : (Rows.laid_rewind_signs_words : DataW Unit) = .agg ([[], [105, 110, 116], [98, 111, 111, 108], [97, 114, 114, 97, 121]].map fun z => .lit (.string z)) := rfl
theorem words_of_laid {W : World} (h : laidMetH Tryz.prog theLaid W) : Words W := by
  obtain ⟨g', t', cs, fuel, p, hg', ht', hvar, hd⟩ := laid_get h (n := "rewind/signs.words") (d := Rows.laid_rewind_signs_words) (by unfold theLaid; repeat (first | exact List.mem_cons_self | apply List.mem_cons_of_mem))
  have hg : Tryz.prog.globalNamed "rewind/signs.words" = some 0 := by kernel_rfl
  obtain rfl := Option.some.inj (hg.symm.trans hg')
  obtain rfl := Option.some.inj ((show (Tryz.prog.globals[0]?).map (·.type) = some 78 by kernel_rfl).symm.trans ht')
  rw [words_data] at hd
  have hcs := cells_of_strtab Tryz.underlying78 Tryz.underlying9 (by kernel_rfl) (by kernel_rfl) hd
  intro t ht
  rw [World.var?_cell hg hvar, ← Array.getElem?_toList, hcs]
  rcases t with _ | _ | _ | _ | t
  · rfl
  · rfl
  · rfl
  · rfl
  · omega
end Go.Proofs.YtnkmbddjekepkaaGreatDoor
/- Small things for walks that compare. -/
namespace Go.Proofs.YtnkmbddjekepkaaGreatDoor
open Go Go.RowKit
set_option linter.unusedSimpArgs false
set_option linter.unusedVariables false
set_option linter.unnecessarySimpa false
theorem has_drewN {w : World} (n : Nat) : Has w (w.drewN n) := fun _ _ _ h => h
abbrev QtPost (w : World) (b : Bool) (r : Ending) (w' : World) : Prop := r = .returned (.bool b) ∧ ∃ n, w' = w.drewN n
theorem bne_no {α : Type} [BEq α] {a b : α} (h : (a == b) = false) : (a != b) = true := by simp [bne, h]
theorem bne_yes {α : Type} [BEq α] {a b : α} (h : (a == b) = true) : (a != b) = false := by simp [bne, h]
theorem exs_sz {l : List Ex} {k : Nat} (h : k < l.length) : SizeOf.sizeOf l[k].args < SizeOf.sizeOf l := by
  have h1 := List.sizeOf_lt_of_mem (List.getElem_mem h)
  have h2 : SizeOf.sizeOf l[k].args < SizeOf.sizeOf l[k] := by
    generalize l[k] = e
    cases e
    simp only [Ex.args, Ex.mk.sizeOf_spec]
    omega
  omega
theorem sts_sz {l : List St} {k : Nat} (h : k < l.length) : SizeOf.sizeOf l[k].body < SizeOf.sizeOf l ∧ SizeOf.sizeOf l[k].els < SizeOf.sizeOf l := by
  have h1 := List.sizeOf_lt_of_mem (List.getElem_mem h)
  have h2 : SizeOf.sizeOf l[k].body < SizeOf.sizeOf l[k] ∧ SizeOf.sizeOf l[k].els < SizeOf.sizeOf l[k] := by
    generalize l[k] = e
    cases e
    simp only [St.body, St.els, St.mk.sizeOf_spec]
    omega
  omega
end Go.Proofs.YtnkmbddjekepkaaGreatDoor
/- rewindref03.numbers answers whether statements have the numbers from n on, and Check answers checkM. -/
namespace Go.Proofs.YtnkmbddjekepkaaGreatDoor
open Go Go.RowKit
set_option linter.unusedSimpArgs false
set_option linter.unusedVariables false
set_option linter.unnecessarySimpa false
theorem ren_no (s : St) (n : Nat) : (s.ren n).no = (n : Nat) := by rw [St.ren_eq]; rfl
theorem ren_body (s : St) (n : Nat) : (s.ren n).body = renL s.body (n + 1) := by rw [St.ren_eq]; rfl
theorem ren_els (s : St) (n : Nat) : (s.ren n).els = renL s.els (n + 1 + cntL s.body) := by rw [St.ren_eq]; rfl
theorem renL_get (l : List St) (n k : Nat) (h : k < l.length) (h' : k < (renL l n).length) : (renL l n)[k] = l[k].ren (n + cntL (l.take k)) := by
  have h1 := renL_take l k n h
  have h2 : (renL l n).take (k + 1) = renL (l.take (k + 1)) n := by
    have h3 := renL_app (l.take (k + 1)) (l.drop (k + 1)) n
    rw [List.take_append_drop] at h3
    rw [h3, List.take_append_of_le_length (by rw [renL_len, List.length_take]; omega), List.take_of_length_le (by rw [renL_len, List.length_take]; omega)]
  have h4 : (renL l n)[k]? = ((renL l n).take (k + 1))[k]? := by rw [List.getElem?_take_of_lt (by omega)]
  rw [h2, h1, List.getElem?_append_right (by rw [renL_len, List.length_take]; omega), renL_len, List.length_take, Nat.min_eq_left (by omega), Nat.sub_self, List.getElem?_eq_getElem h'] at h4
  simpa using h4
theorem numsL_no {l : List St} {n k : Nat} (h : k < l.length) (hp : l[k].nums (n + cntL (l.take k)) = false) : numsL l n = false := by
  have h1 := numsL_app (l.take (k + 1)) (l.drop (k + 1)) n
  rw [List.take_append_drop, numsL_take l k n h, hp] at h1
  rw [h1]
  simp
theorem numsL_all : ∀ (l : List St) (n : Nat), (∀ (i : Nat) (h : i < l.length), l[i].nums (n + cntL (l.take i)) = true) → numsL l n = true
  | [], _, _ => rfl
  | s :: l, n, h => by
    rw [numsL, Bool.and_eq_true]
    refine ⟨by have := h 0 (by simp); simpa [cntL] using this, numsL_all l _ fun i hi => ?_⟩
    have := h (i + 1) (by simpa using hi)
    simpa [cntL, Nat.add_assoc] using this
set_option maxRecDepth 20000 in
set_option maxHeartbeats 8000000 in
theorem numbers1_any : ∀ (N : Nat) (l : List St) (n : Nat) (a a' : Option Addr) (cap cap' : Nat) (w : World), SizeOf.sizeOf l < N → l.length ≤ maxLen → n + cntL l ≤ 1000000 → St.Row w l a → St.Row w (renL l n) a' →
    Calls Tryz.prog 40 #[.slice a l.length cap, .slice a' l.length cap'] w (QtPost w (numsL l n)) := by
  intro N
  induction N with
  | zero => intro l n a a' cap cap' w h; exact absurd h (Nat.not_lt_zero _)
  | succ N ih =>
    intro l n a a' cap cap' w hN hll hn hl hm
    unfold maxLen at hll
    have HL := hide hl
    have HM := hide hm
    have IH := hide ih
    have HLM := hide (renL_len l n)
    clear ih hl hm
    go_enter Tryz.func40, Tryz.ntmps40
    go_wp2_with fail
    go_loopw [5] (fun i wr => ∃ k n0 : Nat, k ≤ l.length ∧ i = .int .i64 k ∧ Hid (∀ (i : Nat) (h : i < l.length), i < k → l[i].nums (n + cntL (l.take i)) = true) ∧ Hid (wr = w.drewN n0)) (fun i _ => l.length - (intOf i).toNat)
    case atStart => exact ⟨0, 0, Nat.zero_le _, rfl, fun i _ h => absurd h (Nat.not_lt_zero _), rfl⟩
    case round =>
      obtain ⟨k, nn, hk, rfl, hall, HWR⟩ := hrel
      have hasw : Has w wr := by rw [HWR.out]; exact has_drewN _
      by_cases hlt : k < l.length
      · have hlt' : k < (renL l n).length := by rw [renL_len]; exact hlt
        obtain ⟨b, o, rfl⟩ := HL.out.addr (by omega)
        obtain ⟨b', o', rfl⟩ := HM.out.addr (by omega)
        have hma := (HM.out.get k hlt').has hasw
        rw [renL_get l n k hlt hlt'] at hma
        obtain ⟨pa, pb, pe, ca, cb, ce, ⟨c0, c1, c2, c3, c4, c5, c6, c7⟩, hw, hx1, hx2, hx3⟩ := ((HL.out.get k hlt).has hasw).val
        obtain ⟨pa', pb', pe', ca', cb', ce', ⟨d0, d1, d2, d3, d4, d5, d6, d7⟩, hw', hy1, hy2, hy3⟩ := hma.val
        rw [ren_no] at d1
        rw [ren_body, renL_len] at d6
        rw [ren_els, renL_len] at d7
        rw [ren_body] at hy2
        rw [ren_els] at hy3
        have hbl1 := cell_lt c0
        have hbl2 := cell_lt d0
        simp only at hbl1 hbl2
        obtain ⟨hs1, hs2⟩ := sts_sz hlt
        have hct := cntL_take l k hlt
        have hcl := cntL_take_le l (k + 1)
        have hce := St.cnt_eq l[k]
        generalize hcc : n + cntL (l.take k) = c at *
        have h2 := hide fun (W : World) (hW : Has wr W) => IH.out l[k].body (c + 1) pb pb' cb cb' W (by omega) (Nat.le_trans hw.lb hw.cb) (by omega) (hx2.has hW) (hy2.has hW)
        have h3 := hide fun (W : World) (hW : Has wr W) => IH.out l[k].els (c + 1 + cntL l[k].body) pe pe' ce ce' W (by omega) (Nat.le_trans hw.le hw.ce) (by omega) (hx3.has hW) (hy3.has hW)
        have HCC := hide hcc
        have hc6 : (0 : Int) ≤ (k : Int) := by omega
        have hc7 : (k : Int) < (l.length : Int) := by omega
        clear hma hw hx1 hx2 hx3 hw' hy1 hy2 hy3 hs1 hs2 hct hcl hce hcc
        cases q1 : l[k].no == ((c : Nat) : Int)
        · have g1 := bne_no q1
          have HE : Hid (numsL l n = false) := hide (numsL_no hlt (by rw [HCC.out, St.nums_eq]; simp at q1; simp [q1]))
          clear q1 h2 h3
          go_wp2_with fail
          go_quiet (fail)
          go_wp2_with fail
          go_ret
          exact ⟨ret_bool HE.out.symm, _, by rw [HWR.out, World.drewN_drewN]⟩
        have g1 := bne_yes q1
        cases q6 : numsL l[k].body (c + 1)
        · have HE : Hid (numsL l n = false) := hide (numsL_no hlt (by rw [HCC.out, St.nums_eq, q6]; simp))
          rw [q6] at h2
          clear q1 q6 h3
          go_wp2_with fail
          go_quiet (first | (go_at_call 40; (with_reducible refine Calls.quiet_of (h2.out _ ?_)); exact fun _ _ _ h => h) | (go_at_call 40; (with_reducible refine Calls.quiet_of (h3.out _ ?_)); exact fun _ _ _ h => h))
          go_wp2_with fail
          go_ret
          exact ⟨ret_bool HE.out.symm, _, by rw [HWR.out, World.drewN_drewN]⟩
        rw [q6] at h2
        cases q7 : numsL l[k].els (c + 1 + cntL l[k].body)
        · have HE : Hid (numsL l n = false) := hide (numsL_no hlt (by rw [HCC.out, St.nums_eq, q7]; simp))
          rw [q7] at h3
          clear q1 q6 q7
          go_wp2_with fail
          go_quiet (first | (go_at_call 40; (with_reducible refine Calls.quiet_of (h2.out _ ?_)); exact fun _ _ _ h => h) | (go_at_call 40; (with_reducible refine Calls.quiet_of (h3.out _ ?_)); exact fun _ _ _ h => h))
          go_wp2_with fail
          go_ret
          exact ⟨ret_bool HE.out.symm, _, by rw [HWR.out, World.drewN_drewN]⟩
        rw [q7] at h3
        have HE : Hid (l[k].nums c = true) := hide (by rw [St.nums_eq, q6, q7]; simpa using q1)
        clear q1 q6 q7
        go_wp2_with fail
        go_quiet (first | (go_at_call 40; (with_reducible refine Calls.quiet_of (h2.out _ ?_)); exact fun _ _ _ h => h) | (go_at_call 40; (with_reducible refine Calls.quiet_of (h3.out _ ?_)); exact fun _ _ _ h => h))
        go_wp2_with fail
        go_roundw
        case rel =>
          refine ⟨k + 1, nn + nq, by omega, by go_num, ?_, hide (by rw [HWR.out, World.drewN_drewN])⟩
          intro i hi hik
          by_cases e : i = k
          · subst e; rw [HCC.out]; exact HE.out
          · exact hall.out i hi (by omega)
        case measure => simp [intOf]; omega
      · obtain rfl : k = l.length := by omega
        have HE := hide (numsL_all l n (fun i h => hall.out i h h))
        go_wp2_with fail
        go_ret
        exact ⟨ret_bool HE.out.symm, _, HWR.out⟩
end Go.Proofs.YtnkmbddjekepkaaGreatDoor
/- rewindref03.Check answers checkM. -/
namespace Go.Proofs.YtnkmbddjekepkaaGreatDoor
open Go Go.RowKit
set_option linter.unusedSimpArgs false
set_option linter.unusedVariables false
set_option linter.unnecessarySimpa false
set_option maxRecDepth 20000 in
set_option maxHeartbeats 8000000 in
theorem refCheck_any (l : List Fn) (a : Option Addr) (cap : Nat) (w : World) (hl : Fns w l a cap) : Calls Tryz.prog 22 #[.agg #[.slice a l.length cap]] w fun r w' => r = .returned (.int .i64 (checkM l)) ∧ Below w.heap.size w w' := by
  have hlen : l.length ≤ 9223372036854775807 := Nat.le_trans hl.len hl.cap
  have HN := hide (refNumber_any [] l a cap (w.alloc (.cells #[.slice a l.length cap] 24)) ((hl.has (has_below ((bl w).al (.cells #[.slice a l.length cap] 24)))).has (has_new (by simp))) (by simp))
  have HL := hide hl
  clear hl
  by_cases hall : l.length ≤ 20 ∧ ∀ f ∈ l, fnOk f = true
  · have hnm : numberM l = l.map numFn := by unfold numberM; rw [if_pos hall]
    rw [hnm] at HN
    have HALL := hide hall
    have HML : Hid ((l.map numFn).length = l.length) := hide (List.length_map ..)
    obtain ⟨h20, _⟩ := hall
    clear hnm
    go_enter Tryz.func22, Tryz.ntmps22
    go_wp2_with fail
    (with_reducible refine HN.out.mono ?_)
    rintro r w1 ⟨⟨v, rfl, hown⟩, hb1⟩
    obtain ⟨a2, c2, rfl, hfn⟩ := hown.fns (by simp)
    have HFQ := hide (hfn.has has_av)
    have HX := hide ((hb1.block _ (by simp)).trans (heap_alloc_new w (.cells #[.slice a l.length cap] 24)))
    have HB1 := hide (((bl w).al (.cells #[.slice a l.length cap] 24)).tr hb1)
    have hxl := (Array.getElem?_eq_some_iff.1 HX.out).1
    have x0 := cell_at (j := 0) HX.out rfl
    clear hown hb1 hfn
    rw [HML.out]
    have HY : Hid ((w1.alloc (.cells #[.slice a2 l.length c2] 24)).heap[w1.heap.size]? = some (.cells #[.slice a2 l.length c2] 24 (0, 0))) := hide (heap_alloc_new _ _)
    have HX2 := hide ((Below.heap_alloc _ (.cells #[.slice a2 l.length c2] 24) _ hxl).trans HX.out)
    have HL2 := hide (HL.out.has (has_below (HB1.out.al (.cells #[.slice a2 l.length c2] 24))))
    have HQ2 := hide (HFQ.out.has (has_below ((bl w1).al (.cells #[.slice a2 l.length c2] 24))))
    have HB2 := hide (HB1.out.al (.cells #[.slice a2 l.length c2] 24))
    have hne : ((l.length : Int) != (l.length : Int)) = false := by simp
    have hxl2 : w.heap.size < (w1.alloc (.cells #[.slice a2 l.length c2] 24)).heap.size := by simp; omega
    have hyl2 : w1.heap.size < (w1.alloc (.cells #[.slice a2 l.length c2] 24)).heap.size := by simp
    clear HX HB1 HFQ HL
    go_wp2_with fail
    clear x0
    generalize w1.alloc (.cells #[.slice a2 l.length c2] 24) = W0 at *
    go_loopw [4] (fun i wr => ∃ k n0 : Nat, k ≤ l.length ∧ i = .int .i64 k ∧ Hid (∀ f ∈ l.take k, fnNums f = true) ∧ Hid (wr = W0.drewN n0)) (fun i _ => l.length - (intOf i).toNat)
    case atStart => exact ⟨0, 0, Nat.zero_le _, rfl, by simp [Hid], rfl⟩
    case round =>
      obtain ⟨k, nn, hk, rfl, hls, HWR⟩ := hrel
      have hasw : Has W0 wr := by rw [HWR.out]; exact has_drewN _
      have x0 := hasw _ _ _ (cell_at (j := 0) HX2.out rfl)
      have y0 := hasw _ _ _ (cell_at (j := 0) HY.out rfl)
      have hxl3 := cell_lt x0
      have hyl3 := cell_lt y0
      simp only at hxl3 hyl3
      by_cases hlt : k < l.length
      · have hltm : k < (l.map numFn).length := by rw [HML.out]; exact hlt
        obtain ⟨b, o, rfl⟩ := HL2.out.addr (by omega)
        obtain ⟨b', o', rfl⟩ := HQ2.out.addr (by omega)
        obtain ⟨pp, pb, cp, cb, c0, c1, c2', c3, c4, hfw, hps, hrow⟩ := (HL2.out.at_ b o rfl k hlt).has hasw
        have hqa := (HQ2.out.at_ b' o' rfl k hltm).has hasw
        rw [List.getElem_map] at hqa
        obtain ⟨pp', pb', cp', cb', d0, d1, d2, d3, d4, hfw', hps', hrow'⟩ := hqa
        have hbl := cell_lt c0
        have hbl' := cell_lt d0
        simp only at hbl hbl'
        have e3 : (numFn l[k]).body = renL l[k].body 0 := rfl
        have e4 : (numFn l[k]).count = (cntL l[k].body : Nat) := rfl
        rw [e3, renL_len] at d3
        rw [e4] at d4
        rw [e3] at hrow'
        have hcn := fnOk_cnt (HALL.out.2 _ (List.getElem_mem hlt))
        have h2 := hide fun (W : World) (hW : Has wr W) => numbers1_any _ l[k].body 0 pb pb' cb cb' W (Nat.lt_succ_self _) (Nat.le_trans hfw.lb hfw.cb) (by omega) (hrow.has hW) (hrow'.has hW)
        have HTL := hide (List.take_succ_eq_append_getElem hlt)
        have hc6 : (0 : Int) ≤ (k : Int) := by omega
        have hc7 : (k : Int) < (l.length : Int) := by omega
        have HOKK := hide (HALL.out.2 _ (List.getElem_mem hlt))
        clear hfw hps hrow hfw' hps' hrow' e3 e4 hcn c0 c1 c2' d0 d1 d2
        cases q1 : l[k].count == ((cntL l[k].body : Nat) : Int)
        · have g1 := bne_no q1
          have HE : Hid (checkM l = 2) := hide (checkM_bad hlt (.inr (by unfold fnNums; rw [Bool.and_eq_false_iff]; right; rw [decide_eq_false_iff_not]; simpa using q1)))
          clear q1 h2
          go_wp2_with fail
          go_quiet (fail)
          go_wp2_with fail
          go_ret
          exact ⟨ret_int HE.out.symm, by rw [HWR.out, World.drewN_drewN]; exact below_dq HB2.out _⟩
        have g1 := bne_yes q1
        cases q2 : numsL l[k].body 0
        · have HE : Hid (checkM l = 2) := hide (checkM_bad hlt (.inr (by unfold fnNums; rw [q2]; rfl)))
          rw [q2] at h2
          clear q1 q2
          go_wp2_with fail
          go_quiet (first | (go_at_call 40; (with_reducible refine Calls.quiet_of (h2.out _ ?_)); exact fun _ _ _ h => h))
          go_wp2_with fail
          go_ret
          exact ⟨ret_int HE.out.symm, by rw [HWR.out, World.drewN_drewN]; exact below_dq HB2.out _⟩
        rw [q2] at h2
        have HE : Hid (fnNums l[k] = true) := hide (by unfold fnNums; rw [q2]; simpa using q1)
        clear q1 q2
        go_wp2_with fail
        go_quiet (first | (go_at_call 40; (with_reducible refine Calls.quiet_of (h2.out _ ?_)); exact fun _ _ _ h => h))
        go_wp2_with fail
        go_roundw
        case rel =>
          refine ⟨k + 1, nn + nq, by omega, by go_num, ?_, hide (by rw [HWR.out, World.drewN_drewN])⟩
          refine hide ?_
          rw [HTL.out]
          intro f hf
          rcases List.mem_append.1 hf with hf | hf
          · exact hls.out f hf
          · rw [List.mem_singleton] at hf
            subst hf
            exact HE.out
        case measure => simp [intOf]; omega
      · obtain rfl : k = l.length := by omega
        have HE : Hid (checkM l = 0) := hide (by
          have h := hls.out
          rw [List.take_length] at h
          unfold checkM
          rw [if_pos ⟨HALL.out.1, fun f hf => ⟨HALL.out.2 f hf, h f hf⟩⟩])
        go_wp2_with fail
        go_ret
        exact ⟨ret_int HE.out.symm, by rw [HWR.out]; exact below_dq HB2.out _⟩
  · have hne : l.length ≠ 0 := fun h0 => hall ⟨by omega, fun f hf => by
      rw [List.eq_nil_of_length_eq_zero h0] at hf
      cases hf⟩
    have hnm : numberM l = [] := by unfold numberM; rw [if_neg hall]
    have hck : checkM l = 2 := by
      unfold checkM
      rw [if_neg]
      rintro ⟨h1, h2⟩
      exact hall ⟨h1, fun f hf => (h2 f hf).1⟩
    rw [hnm] at HN
    rw [hck]
    have ht : ((0 : Int) != (l.length : Int)) = true := by
      rw [bne_iff_ne]
      omega
    clear hall hnm hck hne
    go_enter Tryz.func22, Tryz.ntmps22
    go_wp2_with fail
    (with_reducible refine HN.out.mono ?_)
    rintro r w1 ⟨⟨v, rfl, hown⟩, hb1⟩
    obtain ⟨a2, c2, rfl, hfn⟩ := hown.fns (by simp)
    have HFQ := hide (hfn.has has_av)
    have HX := hide ((hb1.block _ (by simp)).trans (heap_alloc_new w (.cells #[.slice a l.length cap] 24)))
    have HB1 := hide (((bl w).al (.cells #[.slice a l.length cap] 24)).tr hb1)
    have hxl := (Array.getElem?_eq_some_iff.1 HX.out).1
    have x0 := cell_at (j := 0) HX.out rfl
    clear hown hb1 hfn
    go_wp2_with fail
    go_ret
    exact ⟨rfl, HB1.out.al _⟩
end Go.Proofs.YtnkmbddjekepkaaGreatDoor
/- rewindref12.of, Lists and Of. -/
namespace Go.Proofs.YtnkmbddjekepkaaGreatDoor
open Go Go.RowKit
set_option linter.unusedSimpArgs false
set_option linter.unusedVariables false
set_option linter.unnecessarySimpa false
set_option maxRecDepth 20000 in
set_option maxHeartbeats 8000000 in
theorem refOf12_any (f : Fn) (v : Value) (w : World) (hv : f.Val w v) (hn : f.params.length ≤ 100000) :
    Calls Tryz.prog 24 #[v] w fun r w' => (∃ u, r = .returned u ∧ (sgOf f).Val (nw w.heap.size w') u) ∧ Below w.heap.size w w' := by
  obtain ⟨pp, pb, cp, cb, rfl, hfw, hp, hr⟩ := hv
  have HP := hide hp
  obtain ⟨i0, hi, hz0, hz1, hz2⟩ := info_parts info_in
  have HB0 : Hid (Below w.heap.size w (((w.alloc (.cells #[.string ⟨f.name.toArray⟩, .slice pp f.params.length cp, .int .i64 f.result, .slice pb f.body.length cb, .int .i64 f.count] 30)).alloc (.cells #[.string ⟨#[]⟩, .slice none 0 0, .int .i64 0] 59)).alloc (.cells #[.string ⟨f.name.toArray⟩, .slice none 0 0, .int .i64 f.result] 59))) := hide ((((bl w).al _).al _).al _)
  have HX0 : Hid ((((w.alloc (.cells #[.string ⟨f.name.toArray⟩, .slice pp f.params.length cp, .int .i64 f.result, .slice pb f.body.length cb, .int .i64 f.count] 30)).alloc (.cells #[.string ⟨#[]⟩, .slice none 0 0, .int .i64 0] 59)).alloc (.cells #[.string ⟨f.name.toArray⟩, .slice none 0 0, .int .i64 f.result] 59)).heap[w.heap.size + 1 + 1]? = some (.cells #[.string ⟨f.name.toArray⟩, .slice none 0 0, .int .i64 f.result] 59 (0, 0))) := hide (by
    have := heap_alloc_new ((w.alloc (.cells #[.string ⟨f.name.toArray⟩, .slice pp f.params.length cp, .int .i64 f.result, .slice pb f.body.length cb, .int .i64 f.count] 30)).alloc (.cells #[.string ⟨#[]⟩, .slice none 0 0, .int .i64 0] 59)) (.cells #[.string ⟨f.name.toArray⟩, .slice none 0 0, .int .i64 f.result] 59)
    simpa using this)
  have HR0 : Hid ((((w.alloc (.cells #[.string ⟨f.name.toArray⟩, .slice pp f.params.length cp, .int .i64 f.result, .slice pb f.body.length cb, .int .i64 f.count] 30)).alloc (.cells #[.string ⟨#[]⟩, .slice none 0 0, .int .i64 0] 59)).alloc (.cells #[.string ⟨f.name.toArray⟩, .slice none 0 0, .int .i64 f.result] 59)).heap[w.heap.size + 1]? = some (.cells #[.string ⟨#[]⟩, .slice none 0 0, .int .i64 0] 59 (0, 0))) := hide (by
    rw [Below.heap_alloc _ _ _ (by simp)]
    have := heap_alloc_new (w.alloc (.cells #[.string ⟨f.name.toArray⟩, .slice pp f.params.length cp, .int .i64 f.result, .slice pb f.body.length cb, .int .i64 f.count] 30)) (.cells #[.string ⟨#[]⟩, .slice none 0 0, .int .i64 0] 59)
    simpa using this)
  have HQ0 : Hid ((((w.alloc (.cells #[.string ⟨f.name.toArray⟩, .slice pp f.params.length cp, .int .i64 f.result, .slice pb f.body.length cb, .int .i64 f.count] 30)).alloc (.cells #[.string ⟨#[]⟩, .slice none 0 0, .int .i64 0] 59)).alloc (.cells #[.string ⟨f.name.toArray⟩, .slice none 0 0, .int .i64 f.result] 59)).heap[w.heap.size]? = some (.cells #[.string ⟨f.name.toArray⟩, .slice pp f.params.length cp, .int .i64 f.result, .slice pb f.body.length cb, .int .i64 f.count] 30 (0, 0))) := hide (by
    rw [Below.heap_alloc _ _ _ (by simp <;> omega), Below.heap_alloc _ _ _ (by simp)]
    have := heap_alloc_new w (.cells #[.string ⟨f.name.toArray⟩, .slice pp f.params.length cp, .int .i64 f.result, .slice pb f.body.length cb, .int .i64 f.count] 30)
    simpa using this)
  clear hp hr
  go_enter Tryz.func24, Tryz.ntmps24
  go_wp2_with fail
  go_loopw [4] (fun i wr => ∃ (k : Nat) (va : Option Addr) (vc : Nat), k ≤ f.params.length ∧ i = .int .i64 k ∧ Hid (wr.heap[w.heap.size + 1 + 1]? = some (.cells #[.string ⟨f.name.toArray⟩, .slice va k vc, .int .i64 f.result] 59 (0, 0))) ∧
    Hid (OwnL wr (w.heap.size + 3) 3 1 InC [w.heap.size + 1 + 1] (.slice va k vc) ((f.params.take k).map (·.typ))) ∧ Hid (Below w.heap.size w wr) ∧ w.heap.size + 3 ≤ wr.heap.size ∧ Hid (wr.heap[w.heap.size + 1]? = some (.cells #[.string ⟨#[]⟩, .slice none 0 0, .int .i64 0] 59 (0, 0))) ∧ Hid (wr.heap[w.heap.size]? = some (.cells #[.string ⟨f.name.toArray⟩, .slice pp f.params.length cp, .int .i64 f.result, .slice pb f.body.length cb, .int .i64 f.count] 30 (0, 0)))) (fun i _ => f.params.length - (intOf i).toNat)
  case atStart => exact ⟨0, none, 0, Nat.zero_le _, rfl, HX0, hide (OwnL.nil _ _ _ _ _ _), HB0, by simp, HR0, HQ0⟩
  case round =>
    obtain ⟨k, va, vc, hk, rfl, HX, HO, HB, hws, HR, HQ⟩ := hrel
    have x0 := cell_at (j := 0) HX.out rfl
    have x1 := cell_at (j := 1) HX.out rfl
    have x2 := cell_at (j := 2) HX.out rfl
    have y1 := free_at (j := 1) HX.out
    have p1 := cell_at (j := 1) HQ.out rfl
    have hsl : w.heap.size + 1 + 1 < wr.heap.size := by omega
    have hsl0 : w.heap.size < wr.heap.size := by omega
    by_cases hlt : k < f.params.length
    · obtain ⟨b, o, hpp⟩ := HP.out.addr (by omega)
      obtain ⟨c0, c1⟩ := (HP.out.has (has_below HB.out)).at_ b o hpp k hlt
      rw [hpp] at p1
      have HPP := hide hpp
      have hbl := cell_lt c0
      simp only at hbl
      obtain ⟨tk, htk⟩ : ∃ t, t = f.params[k].typ := ⟨_, rfl⟩
      rw [← htk] at c1
      have HTK : Hid ((f.params.take (k + 1)).map (·.typ) = (f.params.take k).map (·.typ) ++ [tk]) := hide (by rw [List.take_succ_eq_append_getElem hlt, List.map_append, htk]; rfl)
      have hll : ((f.params.take k).map (·.typ)).length = k := by simp; omega
      have HLL := hide hll
      have HO4 : Hid (OwnL ((wr.alloc (.cells #[.int .i64 tk] 3)).drew) (w.heap.size + 3) 3 1 InC [w.heap.size + 1 + 1] (.slice va k vc) ((f.params.take k).map (·.typ))) := hide ((HO.out.al InC.mono _).below InC.mono (bl _).dr)
      have HNW := hide (news_row wr [.int .i64 tk] 3 wr.heap.size rfl)
      have HML : Hid (((f.params.take k).map (·.typ)).length + 1 ≤ maxLen) := hide (by rw [hll]; unfold maxLen; omega)
      have HMB : Hid ((((f.params.take k).map (·.typ)).length + 1) * 8 ≤ 140737488355328) := hide (by rw [hll]; omega)
      have HONE : Hid (∀ u ∈ [Value.int .i64 tk], u.oneCell' = true) := hide (by simp [Value.oneCell'])
      have HSZ : Hid (w.heap.size + 3 ≤ ((wr.alloc (.cells #[.int .i64 tk] 3)).drew).heap.size) := hide (by simp; omega)
      have HIN : Hid (∀ W, InC W tk [.int .i64 tk]) := hide fun _ => rfl
      have e1 : w.heap.size + 1 + 1 < wr.heap.size + 1 := by omega
      have e2 : w.heap.size < wr.heap.size + 1 := by omega
      have e3 : b < wr.heap.size + 1 := by omega
      have n1 : ¬ w.heap.size + 1 + 1 = wr.heap.size := by omega
      have n3 : ¬ w.heap.size = wr.heap.size := by omega
      have n5 : ¬ b = wr.heap.size := by omega
      have HAPP : Hid (∀ (v' : Value) (w6 : World), OwnL w6 (w.heap.size + 3) 3 1 InC [w.heap.size + 1 + 1] v' ((f.params.take k).map (·.typ) ++ [tk]) → ((wr.alloc (.cells #[.int .i64 tk] 3)).drew).grownBy w6 (Value.slice va k vc).ownBlock →
            (∃ va' vc', v' = .slice va' (k + 1) vc') ∧ w6.frozen? ⟨w.heap.size + 1 + 1, 1, none⟩ = false ∧ w.heap.size + 1 + 1 < w6.heap.size ∧ w6.heap[w.heap.size + 1 + 1]? = some (.cells #[.string ⟨f.name.toArray⟩, .slice va k vc, .int .i64 f.result] 59 (0, 0)) ∧ w6.heap[w.heap.size]? = wr.heap[w.heap.size]? ∧ w6.heap[w.heap.size + 1]? = wr.heap[w.heap.size + 1]? ∧ Below w.heap.size w w6 ∧ w.heap.size + 3 ≤ w6.heap.size) := hide (by
          intro v' w6 hown hgrow
          have hs6 := hgrow.size
          have hlt' : wr.heap.size + 1 ≤ w6.heap.size := by simpa using hs6
          have hblk : ∀ g, g < w.heap.size + 3 → w6.heap[g]? = wr.heap[g]? := fun g hg => by
            rw [hgrow.block g (by simp; omega) (fun e => by have := (HO.out.lt _ e.symm).1; omega)]
            show (wr.alloc _).heap[g]? = _
            rw [Below.heap_alloc _ _ _ (by omega)]
          have h3 := (hblk (w.heap.size + 1 + 1) (by omega)).trans HX.out
          obtain ⟨va', vc', he, -, -⟩ := hown.slice
          rw [List.length_append, HLL.out] at he
          refine ⟨⟨va', vc', he⟩, free_at h3, by omega, h3, hblk _ (by omega), hblk _ (by omega), ?_, by omega⟩
          exact ((HB.out.al _).dr).grown hgrow (by have := HB.out.size; simp; omega) (fun g hg => by have := (HO.out.lt g hg).1; omega))
      clear hll htk hpp
      go_wp2_with fail
      go_region_law
        ((refine step_push _ (by rfl) _ _ 47 (by rfl) (w.heap.size + 3) 3 i0 _ 1 8 Tryz.underlying47 hi hz0 hz1 hz2 (by rfl) (Nat.succ_pos _) InC InC.mono [w.heap.size + 1 + 1] (.slice va k vc) _ (by rfl) HO4.out ⟨wr.heap.size, 0, none⟩ 1 _ tk (by rfl) (by rfl) HNW.out HONE.out (HIN.out _) HML.out HMB.out HSZ.out ?_; intro v' w6 hown6 hgrow; obtain ⟨⟨va', vc', rfl⟩, y6, hl6, hx6, hp6, hz6, hb6, hs6⟩ := HAPP.out _ _ hown6 hgrow; have HOWN6 := hide hown6; have HX6 := hide hx6; have HP6 := hide (hp6.trans HQ.out); have HZ6 := hide (hz6.trans HR.out); have x16 := cell_at (j := 1) hx6 rfl; have HB6 := hide hb6; clear hown6 hgrow hx6 hp6 hz6 hb6))
      all_goals
        have HO6 := HOWN6.out
        rw [← HTK.out] at HO6
        have HO7 := hide (HO6.kept InC.mono ((Kept.refl [w.heap.size + 1 + 1] w6).set (g := w.heap.size + 1 + 1) (.inl (by simp)) 1 (.slice va' (k + 1) vc')) (by simp))
        have HX7 := hide (heap_set (i := 1) HX6.out (.slice va' (k + 1) vc'))
        have HP7 := hide ((Below.heap_setCell w6 ⟨w.heap.size + 1 + 1, 1, none⟩ (.slice va' (k + 1) vc') w.heap.size (by simp only; omega)).trans HP6.out)
        have HZ7 := hide ((Below.heap_setCell w6 ⟨w.heap.size + 1 + 1, 1, none⟩ (.slice va' (k + 1) vc') (w.heap.size + 1) (by simp only; omega)).trans HZ6.out)
        have HB7 := hide (HB6.out.setCell (p := ⟨w.heap.size + 1 + 1, 1, none⟩) (by simp only; omega) (.slice va' (k + 1) vc'))
        go_wp2_with fail
        go_roundw
        case rel => exact ⟨k + 1, va', vc', by omega, by go_num, HX7.out, HO7.out, HB7.out, by simp [World.setCell]; omega, HZ7.out, HP7.out⟩
        case measure => simp [intOf]; omega
    · obtain rfl : k = f.params.length := by omega
      have r0 := cell_at (j := 0) HR.out rfl
      have r1 := cell_at (j := 1) HR.out rfl
      have r2 := cell_at (j := 2) HR.out rfl
      have z0 := free_at (j := 0) HR.out
      have z1 := free_at (j := 1) HR.out
      have z2 := free_at (j := 2) HR.out
      have hrl : w.heap.size + 1 < wr.heap.size := by omega
      go_wp2_with fail
      refine bodyPost_ret (v := .agg #[.string ⟨f.name.toArray⟩, .slice va f.params.length vc, .int .i64 f.result]) (by simp [results, Tryz.results24, go_sem, r0, r1, r2]) rfl ⟨⟨_, rfl, ?_⟩, ((HB.out.setCell (by simp) _).setCell (by simp) _).setCell (by simp) _⟩
      have ho := HO.out
      rw [List.take_length] at ho
      obtain ⟨a', c', he, hi'⟩ := own_ints ho (Nat.le_refl _)
      rw [List.length_map] at he
      cases he
      have hK : Kept [w.heap.size + 1] wr (((wr.setCell ⟨w.heap.size + 1, 0, none⟩ (.string ⟨f.name.toArray⟩)).setCell ⟨w.heap.size + 1, 1, none⟩ (.slice va f.params.length vc)).setCell ⟨w.heap.size + 1, 2, none⟩ (.int .i64 f.result)) :=
        (((Kept.refl _ wr).set (.inl (by simp)) _ _).set (.inl (by simp)) _ _).set (.inl (by simp)) _ _
      refine ⟨va, vc, by simp [sgOf], (hi'.has (has_nw_kept hK (by simp))).has (has_nws (by omega))⟩
def ListsPost (w : World) (r : Ending) (w' : World) : Prop := r = .returned (.bool true) ∧ Below w.heap.size w w'
theorem sameSg_self (s : Sg) : sameSg s s = true := by simp [sameSg]
set_option maxHeartbeats 2000000 in
/-- Two slices of the same signatures are equal. -/
theorem refLists_self (l : List Sg) (a a' : Option Addr) (cap cap' : Nat) (w : World) (hl : Sgs w l a cap) (hm : Sgs w l a' cap') :
    Calls Tryz.prog 9 #[.slice a l.length cap, .slice a' l.length cap'] w (ListsPost w) := by
  have hlen : l.length ≤ 9223372036854775807 := Nat.le_trans hl.len hl.cap
  have HL := hide hl
  have HM := hide hm
  have hne : ((l.length : Int) != (l.length : Int)) = false := by simp
  clear hl hm
  go_enter Tryz.func9, Tryz.ntmps9
  go_wp2_with fail
  go_loopw [5] (fun i wr => ∃ k : Nat, k ≤ l.length ∧ i = .int .i64 k ∧ Hid (Below w.heap.size w wr)) (fun i _ => l.length - (intOf i).toNat)
  case atStart => exact ⟨0, Nat.zero_le _, rfl, bl _⟩
  case round =>
    obtain ⟨k, hk, rfl, HB⟩ := hrel
    by_cases hlt : k < l.length
    · obtain ⟨b, o, rfl⟩ := HL.out.addr (by omega)
      obtain ⟨c, q, rfl⟩ := HM.out.addr (by omega)
      obtain ⟨pa, pc, a0, a1, a2, hp1⟩ := (HL.out.at_ b o rfl k hlt).has (has_below HB.out)
      obtain ⟨pe, pf, b0, b1, b2, hp2⟩ := (HM.out.at_ c q rfl k hlt).has (has_below HB.out)
      have HS1 := hide fun (W : World) (hW : Below wr.heap.size wr W) => refSame_any l[k] l[k] _ _ W ⟨pa, pc, rfl, hp1.keep hW (Nat.le_refl _)⟩ ⟨pe, pf, rfl, hp2.keep hW (Nat.le_refl _)⟩
      rw [sameSg_self] at HS1
      have hbl1 := cell_lt a0
      have hbl2 := cell_lt b0
      simp only at hbl1 hbl2
      have hc1 : (0 : Int) ≤ (k : Int) := by omega
      have hc2 : (k : Int) < (l.length : Int) := by omega
      clear hp1 hp2
      go_wp2_with fail
      have hB := (bl wr).dr
      go_region_held3 (fun w' => w'.cell? ⟨b, o + k * 3, none⟩ = some (.string ⟨l[k].name.toArray⟩) ∧ w'.cell? ⟨b, o + k * 3 + 1, none⟩ = some (.slice pa l[k].pars.length pc) ∧ w'.cell? ⟨b, o + k * 3 + 2, none⟩ = some (.int .i64 l[k].res) ∧
  w'.cell? ⟨c, q + k * 3, none⟩ = some (.string ⟨l[k].name.toArray⟩) ∧ w'.cell? ⟨c, q + k * 3 + 1, none⟩ = some (.slice pe l[k].pars.length pf) ∧ w'.cell? ⟨c, q + k * 3 + 2, none⟩ = some (.int .i64 l[k].res))
        (first | exact ⟨cell_keep a0 hB (Nat.le_refl _), cell_keep a1 hB (Nat.le_refl _), cell_keep a2 hB (Nat.le_refl _), cell_keep b0 hB (Nat.le_refl _), cell_keep b1 hB (Nat.le_refl _), cell_keep b2 hB (Nat.le_refl _)⟩ | go_keep)
        ((go_at_call 25; (with_reducible refine (HS1.out _ hB).mono ?_); rintro r w5 ⟨rfl, hb⟩; have hB := hB.tr hb; clear hb))
      all_goals
        have HBF := hide (HB.out.tr hB)
        go_wp2_with fail
        go_roundw
        case rel => exact ⟨k + 1, by omega, by go_num, HBF.out⟩
        case measure => simp [intOf]; omega
    · obtain rfl : k = l.length := by omega
      go_wp2_with fail
      go_ret
      exact ⟨rfl, HB.out⟩
theorem names_sg (l : List Fn) : (l.map sgOf).map (·.name) = l.map (·.name) := by simp [sgOf, Function.comp_def]
theorem findSg_some (l : List Sg) (n : Bytes) : (findSg l n).isSome = decide (n ∈ l.map (·.name)) := by
  unfold findSg
  rw [Bool.eq_iff_iff]
  simp
def FoundL (s0 : Sg) (is0 : Bool) (w : World) (r : Ending) (w' : World) : Prop :=
  (∃ pa pc, r = .returned (.tuple #[.agg #[.string ⟨s0.name.toArray⟩, .slice pa s0.pars.length pc, .int .i64 s0.res], .bool is0]) ∧ Ints w' s0.pars pa pc) ∧ Below w.heap.size w w'
theorem found_l {o : Option Sg} {w w' : World} {r : Ending} (h : FoundPost o w r w') : FoundL (o.getD noSg) o.isSome w r w' := by
  obtain ⟨⟨v, rfl, pa, pc, rfl, hi⟩, hb⟩ := h
  exact ⟨⟨pa, pc, rfl, hi⟩, hb⟩
set_option maxRecDepth 20000 in
set_option maxHeartbeats 8000000 in
theorem refSignsOf_any (l : List Fn) (a : Option Addr) (cap : Nat) (w : World) (hl : Fns w l a cap) : Calls Tryz.prog 8 #[.agg #[.slice a l.length cap]] w (SignsPost (signsOfM l) w) := by
  have hlen : l.length ≤ 9223372036854775807 := Nat.le_trans hl.len hl.cap
  have h1 := hide fun (W : World) (hW : Below w.heap.size w W) => refCheck_any l a cap W (hl.keep hW (Nat.le_refl _))
  have HL := hide hl
  have HX0 : Hid ((w.alloc (.cells #[.slice a l.length cap] 24)).heap[w.heap.size]? = some (.cells #[.slice a l.length cap] 24 (0, 0))) := hide (heap_alloc_new _ _)
  obtain ⟨i0, hi, hz0, hz1, hz2⟩ := info_parts info_rsg
  clear hl
  by_cases hc : checkM l = 0
  · have HE : Hid (signsOfM l = signsM l) := hide (by unfold signsOfM; rw [if_pos hc])
    obtain ⟨hl20, hp8⟩ := check_ok hc
    have HP8 := hide hp8
    rw [hc] at h1
    clear hc hp8
    go_enter Tryz.func8, Tryz.ntmps8
    go_wp2_with fail
    refine (h1.out _ ((bl w).al _)).mono ?_
    rintro r w1 ⟨rfl, hb1⟩
    have HX1 := hide ((hb1.block _ (by simp)).trans HX0.out)
    have hlt1 : w.heap.size + 1 ≤ w1.heap.size := (Array.getElem?_eq_some_iff.1 HX1.out).1
    have HB1 := hide (((bl w).al _).tr hb1)
    clear hb1 h1
    go_wp2_with fail
    go_loopw [5, 6] (fun lv i wr => ∃ (k : Nat) (va : Option Addr) (vc : Nat), k ≤ l.length ∧ i = .int .i64 k ∧ lv = .slice va k vc ∧ Hid (dupFrom [] l 0 = dupFrom ((l.take k).map (·.name)) (l.drop k) k) ∧
      Hid (OwnL wr (w.heap.size + 1) 59 3 SgC [] (.slice va k vc) ((l.take k).map sgOf)) ∧ Hid (wr.heap[w.heap.size]? = some (.cells #[.slice a l.length cap] 24 (0, 0))) ∧ Hid (Below w.heap.size w wr) ∧ w.heap.size + 1 ≤ wr.heap.size) (fun _ i _ => l.length - (intOf i).toNat)
    case atStart => exact ⟨0, none, 0, Nat.zero_le _, rfl, rfl, hide rfl, hide (OwnL.nil _ _ _ _ _ _), HX1, HB1, hlt1⟩
    case round =>
      obtain ⟨k, va, vc, hk, rfl, rfl, HD, HO, HX, HB, hws⟩ := hrel
      have x0 := cell_at (j := 0) HX.out rfl
      have hxl : w.heap.size < wr.heap.size := hws
      have hll : ((l.take k).map sgOf).length = k := by simp; omega
      have HLL := hide hll
      have hsg := OwnL.sgs HO.out (by simp)
      obtain ⟨va', vc', he, hsg⟩ := hsg
      rw [hll] at he
      cases he
      have HSG := hide (hsg.has has_av)
      clear hsg hll
      by_cases hlt : k < l.length
      · obtain ⟨b, o, rfl⟩ := HL.out.addr (by omega)
        have hfv := (HL.out.at_ b o rfl k hlt).has (has_below HB.out)
        obtain ⟨pp, pb, cp, cb, c0, c1, c2, c3, c4, hfw, hps, hrow⟩ := hfv
        have hbl := cell_lt c0
        simp only at hbl
        have HFV := hide fun (W : World) (hW : Below wr.heap.size wr W) => refOf12_any l[k] _ W (⟨pp, pb, cp, cb, rfl, hfw, hps.has (has_below hW), hrow.has (has_below hW)⟩ : Fn.Val W l[k] _) (by have := HP8.out _ (List.getElem_mem hlt); omega)
        have HFW := hide hfw
        have HPM := hide hps.wf
        have hnl : l[k].name.length ≤ maxLen := hfw.s
        clear hfw hps hrow
        have hF := fun (W : World) (hW : Below wr.heap.size wr W) => (refFind12_any ((l.take k).map sgOf) l[k].name va vc W (HSG.out.has (has_below hW))).mono (fun r w' h => found_l h)
        rw [HLL.out] at hF
        have hfs := findSg_some ((l.take k).map sgOf) l[k].name
        rw [names_sg] at hfs
        obtain ⟨s0, hs0⟩ : ∃ s, (findSg ((l.take k).map sgOf) l[k].name).getD noSg = s := ⟨_, rfl⟩
        rw [hfs, hs0] at hF
        clear hs0 hfs
        cases hmem : decide (l[k].name ∈ (l.take k).map (·.name))
        · rw [hmem] at hF
          have HF := hide hF
          have HNM := hide (of_decide_eq_false hmem)
          clear hF hmem
          go_wp2_with fail
          (with_reducible refine (HF.out _ (bl _)).mono ?_)
          rintro r w2 ⟨⟨pa, pc, rfl, _⟩, hb2⟩
          have HBa := hide (hb2.al (.cells #[.string ⟨s0.name.toArray⟩, .slice pa s0.pars.length pc, .int .i64 s0.res] 59))
          have c0 := cell_keep c0 HBa.out (Nat.le_refl _)
          have c1 := cell_keep c1 HBa.out (Nat.le_refl _)
          have c2 := cell_keep c2 HBa.out (Nat.le_refl _)
          have c3 := cell_keep c3 HBa.out (Nat.le_refl _)
          have c4 := cell_keep c4 HBa.out (Nat.le_refl _)
          have x0 := cell_keep x0 HBa.out (Nat.le_refl _)
          have hz2' := hb2.size
          have hbl' : b < w2.heap.size := by omega
          have hxl' : w.heap.size < w2.heap.size := by omega
          go_wp2_with fail
          (with_reducible refine (HFV.out _ HBa.out).mono ?_)
          rintro r w3 ⟨⟨u, rfl, hu⟩, hb3⟩
          obtain ⟨s1, hs1⟩ : ∃ s, s = sgOf l[k] := ⟨_, rfl⟩
          rw [← hs1] at hu
          obtain ⟨ua, uc, rfl, hui⟩ := hu
          have hbq := HBa.out.tr hb3
          have HBQ := hide (hbq.al (.cells #[.string ⟨s1.name.toArray⟩, .slice ua s1.pars.length uc, .int .i64 s1.res] 59))
          have hsw : s1.wf := by
            rw [hs1]
            refine ⟨hnl, HFW.out.r, fun p hp => ?_⟩
            obtain ⟨q, hq, rfl⟩ := List.mem_map.1 hp
            exact (HPM.out q hq).2
          have HO4 := hide (HO.out.below SgC.mono HBQ.out)
          have HV4 : Hid (SgC (av ((Value.slice va k vc).ownBlock.toList ++ []) (w3.alloc (.cells #[.string ⟨s1.name.toArray⟩, .slice ua s1.pars.length uc, .int .i64 s1.res] 59))) s1 [.string ⟨s1.name.toArray⟩, .slice ua s1.pars.length uc, .int .i64 s1.res]) := hide ⟨ua, uc, rfl, hsw, hui.has ((has_nw_below ((bl w3).al (.cells #[.string ⟨s1.name.toArray⟩, .slice ua s1.pars.length uc, .int .i64 s1.res] 59))).tr (has_nw_av (fun g hg => by
            simp only [List.append_nil, Option.mem_toList] at hg
            have := (HO.out.lt g hg).2
            simp only [World.size_alloc]
            omega)))⟩
          have HNW := hide (news_row w3 [.string ⟨s1.name.toArray⟩, .slice ua s1.pars.length uc, .int .i64 s1.res] 59 w3.heap.size rfl)
          have HML : Hid (((l.take k).map sgOf).length + 1 ≤ maxLen) := hide (by rw [HLL.out]; unfold maxLen; omega)
          have HMB : Hid ((((l.take k).map sgOf).length + 1) * 48 ≤ 140737488355328) := hide (by rw [HLL.out]; omega)
          have HSZ : Hid (w.heap.size + 1 ≤ (w3.alloc (.cells #[.string ⟨s1.name.toArray⟩, .slice ua s1.pars.length uc, .int .i64 s1.res] 59)).heap.size) := hide (by have := hbq.size; simp; omega)
          have HLEN : Hid (((l.take k).map sgOf ++ [s1]).length = k + 1) := hide (by rw [List.length_append, HLL.out]; rfl)
          have HTK : Hid ((l.take (k + 1)).map sgOf = (l.take k).map sgOf ++ [s1]) := hide (by rw [List.take_succ_eq_append_getElem hlt, List.map_append, hs1]; rfl)
          have HX9 := hide ((HBQ.out.block _ hxl).trans HX.out)
          have HB9 := hide (HB.out.tr HBQ.out)
          clear hui hbq hb3 hs1 hb2 hsw
          go_wp2_with (at_builtin; refine wpList_push _ rfl _ _ 35 rfl (w.heap.size + 1) 59 i0 _ 3 48 Tryz.underlying35 hi hz0 hz1 hz2 rfl (by decide) SgC SgC.mono [] _ _ rfl HO4.out ⟨w3.heap.size, 0, none⟩ 1 [.string ⟨s1.name.toArray⟩, .slice ua s1.pars.length uc, .int .i64 s1.res] s1 rfl rfl HNW.out (by simp [Value.oneCell']) HV4.out HML.out HMB.out HSZ.out ?_; intro v4 w4 hown4 hgrow4; obtain ⟨va4, vc4, he4, -, -⟩ := hown4.slice; rw [HLEN.out] at he4; subst he4)
          go_roundw
          case rel =>
            refine ⟨k + 1, va4, vc4, by omega, by go_num, rfl, ?_, hide (by rw [HTK.out]; exact hown4), (hgrow4.block _ (by have := HSZ.out; omega) (fun e => by have := (HO.out.lt _ e.symm).1; omega)).trans HX9.out, HB9.out.grown hgrow4 HB9.out.size (fun g hg => by have := (HO.out.lt g hg).1; omega), Nat.le_trans HSZ.out hgrow4.size⟩
            show dupFrom [] l 0 = _
            rw [HD.out, dup_step hlt, if_neg HNM.out, List.take_succ_eq_append_getElem hlt, List.map_append]
            rfl
          case measure => simp [intOf]; omega
        · rw [hmem] at hF
          have HF := hide hF
          have HE2 : Hid (signsM l = ([], ((k : Nat) : Int), 11)) := hide (by
            unfold signsM
            rw [HD.out, dup_step hlt, if_pos (of_decide_eq_true hmem)])
          clear hF hmem
          go_wp2_with fail
          (with_reducible refine (HF.out _ (bl _)).mono ?_)
          rintro r w2 ⟨⟨pa, pc, rfl, _⟩, hb2⟩
          go_wp2_with fail
          refine bodyPost_ret (v := .tuple #[.slice none 0 0, .int .i64 (k : Nat), .int .i64 11]) (by simp [results, Tryz.results8, go_sem]) rfl ?_
          rw [HE.out, HE2.out]
          exact ⟨⟨none, 0, rfl, Sgs.nil _⟩, (HB.out.tr hb2).al _⟩
      · obtain rfl : k = l.length := by omega
        have hdn : dupFrom [] l 0 = none := by rw [HD.out, List.drop_length]; rfl
        have hF := fun (W : World) (hW : Below wr.heap.size wr W) => (refFind12_any ((l.take l.length).map sgOf) mainB va vc W (HSG.out.has (has_below hW))).mono (fun r w' h => found_l h)
        rw [HLL.out] at hF
        rw [List.take_length] at hF
        have hmo : mainOk l = match findSg (l.map sgOf) mainB with | some s => decide (s.pars = []) && decide (s.res = 0) | none => false := rfl
        have HG := HSG.out
        rw [List.take_length] at HG
        have HSG := hide HG
        clear HG
        cases hf : findSg (l.map sgOf) mainB with
        | none =>
          have HE2 : Hid (signsM l = ([], -1, 15)) := hide (by unfold signsM; rw [hdn, hmo, hf]; rfl)
          rw [hf] at hF
          have HF : Hid (∀ W, Below wr.heap.size wr W → Calls Tryz.prog 23 #[.slice va l.length vc, .string ⟨#[109, 97, 105, 110]⟩] W (FoundL noSg false W)) := hide hF
          clear hF hf hmo hdn
          go_wp2_with fail
          (with_reducible refine (HF.out _ (bl _)).mono ?_)
          rintro r w2 ⟨⟨pa, pc, rfl, _⟩, hb2⟩
          go_wp2_with fail
          refine bodyPost_ret (v := .tuple #[.slice none 0 0, .int .i64 (-1), .int .i64 15]) (by simp [results, Tryz.results8, go_sem]) rfl ?_
          rw [HE.out, HE2.out]
          exact ⟨⟨none, 0, rfl, Sgs.nil _⟩, (HB.out.tr hb2).al _⟩
        | some s0 =>
          rw [hf] at hF hmo
          have hmo : mainOk l = (decide (s0.pars = []) && decide (s0.res = 0)) := hmo
          have HF : Hid (∀ W, Below wr.heap.size wr W → Calls Tryz.prog 23 #[.slice va l.length vc, .string ⟨#[109, 97, 105, 110]⟩] W (FoundL s0 true W)) := hide hF
          clear hF hf
          by_cases hp0 : s0.pars.length = 0
          · have hp1 : s0.pars = [] := List.eq_nil_of_length_eq_zero hp0
            cases hr0 : s0.res == 0
            · have g3 := bne_no' hr0
              have HE2 : Hid (signsM l = ([], -1, 15)) := hide (by unfold signsM; rw [hdn, hmo, hp1, show decide (s0.res = 0) = false from decide_eq_false (by simpa using hr0)]; rfl)
              have HP0 := hide hp0
              clear hmo hdn hp1
              go_wp2_with fail
              (with_reducible refine (HF.out _ (bl _)).mono ?_)
              rintro r w2 ⟨⟨pa, pc, rfl, _⟩, hb2⟩
              go_wp2_with fail
              refine bodyPost_ret (v := .tuple #[.slice none 0 0, .int .i64 (-1), .int .i64 15]) (by simp [results, Tryz.results8, go_sem]) rfl ?_
              rw [HE.out, HE2.out]
              exact ⟨⟨none, 0, rfl, Sgs.nil _⟩, (HB.out.tr hb2).al _⟩
            · have g3 := bne_yes' hr0
              have HE2 : Hid (signsM l = (l.map sgOf, 0, 0)) := hide (by unfold signsM; rw [hdn, hmo, hp1, show decide (s0.res = 0) = true from decide_eq_true (by simpa using hr0)]; rfl)
              clear hmo hdn hp1
              go_wp2_with fail
              (with_reducible refine (HF.out _ (bl _)).mono ?_)
              rintro r w2 ⟨⟨pa, pc, rfl, _⟩, hb2⟩
              go_wp2_with fail
              refine bodyPost_ret (v := .tuple #[.slice va l.length vc, .int .i64 0, .int .i64 0]) (by simp [results, Tryz.results8, go_sem]) rfl ?_
              rw [HE.out, HE2.out]
              exact ⟨⟨va, vc, by simp, HSG.out.has (has_below (hb2.al _))⟩, (HB.out.tr hb2).al _⟩
          · have hp1 : (0 : Int) < (s0.pars.length : Int) := by omega
            have HE2 : Hid (signsM l = ([], -1, 15)) := hide (by unfold signsM; rw [hdn, hmo, show decide (s0.pars = []) = false from decide_eq_false (fun e => hp0 (by rw [e]; rfl))]; rfl)
            clear hmo hdn
            go_wp2_with fail
            (with_reducible refine (HF.out _ (bl _)).mono ?_)
            rintro r w2 ⟨⟨pa, pc, rfl, _⟩, hb2⟩
            go_wp2_with fail
            refine bodyPost_ret (v := .tuple #[.slice none 0 0, .int .i64 (-1), .int .i64 15]) (by simp [results, Tryz.results8, go_sem]) rfl ?_
            rw [HE.out, HE2.out]
            exact ⟨⟨none, 0, rfl, Sgs.nil _⟩, (HB.out.tr hb2).al _⟩
  · have HE : Hid (signsOfM l = ([], 0, 2)) := hide (by unfold signsOfM; rw [if_neg hc])
    have h2 : checkM l = 2 := by
      unfold checkM at hc ⊢
      split at hc
      · exact absurd rfl hc
      · rename_i h; rw [if_neg h]
    rw [h2] at h1
    clear hc h2
    go_enter Tryz.func8, Tryz.ntmps8
    go_wp2_with fail
    refine (h1.out _ ((bl w).al _)).mono ?_
    rintro r w1 ⟨rfl, hb1⟩
    have hB := ((bl w).al _).tr hb1
    clear hb1
    go_wp2_with fail
    refine bodyPost_ret (v := .tuple #[.slice none 0 0, .int .i64 0, .int .i64 2]) (by simp [results, Tryz.results8, go_sem]) rfl ?_
    rw [HE.out]
    exact ⟨⟨none, 0, rfl, Sgs.nil _⟩, hB⟩
end Go.Proofs.YtnkmbddjekepkaaGreatDoor
/- SignsPrograms returns true for every input, where the tables are laid: the walk. -/
namespace Go.Proofs.YtnkmbddjekepkaaGreatDoor
open Go Go.RowKit
set_option linter.unusedSimpArgs false
set_option linter.unusedVariables false
set_option linter.unnecessarySimpa false
theorem signsOfM_len (l : List Fn) : (signsOfM l).1.length ≤ l.length := by
  unfold signsOfM signsM
  split
  · split
    · simp
    · split <;> simp
  · simp
def SignsLit (l : List Sg) (i e : Int) (w : World) (r : Ending) (w' : World) : Prop :=
  (∃ a cap, r = .returned (.tuple #[.slice a l.length cap, .int .i64 i, .int .i64 e]) ∧ Sgs w' l a cap) ∧ Below w.heap.size w w'
set_option maxRecDepth 20000 in
set_option maxHeartbeats 8000000 in
theorem SignsPrograms_any (l : List Fn) (a : Option Addr) (cap : Nat) (w : World) (hl : Fns w l a cap) (hT : Tab w) (hWd : Words w) :
    Calls Tryz.prog 3 #[.agg #[.slice a l.length cap]] w fun r w' => r = .returned (.bool true) ∧ Below w.heap.size w w' := by
  have hlen : l.length ≤ 9223372036854775807 := Nat.le_trans hl.len hl.cap
  have HL := hide hl
  have HX0 : Hid ((w.alloc (.cells #[.slice a l.length cap] 24)).heap[w.heap.size]? = some (.cells #[.slice a l.length cap] 24 (0, 0))) := hide (heap_alloc_new _ _)
  have HWK := hide fun (W : World) (hW : Below w.heap.size w W) => works12_any W (hT.below hW) (hWd.below hW)
  have hS1 := fun (W : World) (hW : Below w.heap.size w W) => signsOf_any l a cap W (hl.keep hW (Nat.le_refl _)) (hT.below hW)
  have hS2 := fun (W : World) (hW : Below w.heap.size w W) => refSignsOf_any l a cap W (hl.keep hW (Nat.le_refl _))
  have hol := signsOfM_len l
  generalize signsOfM l = o at hS1 hS2 hol
  obtain ⟨m, oi, oe⟩ := o
  have HS1 : Hid (∀ W, Below w.heap.size w W → Calls Tryz.prog 7 #[.agg #[.slice a l.length cap]] W (SignsLit m oi oe W)) := hide hS1
  have HS2 : Hid (∀ W, Below w.heap.size w W → Calls Tryz.prog 8 #[.agg #[.slice a l.length cap]] W (SignsLit m oi oe W)) := hide hS2
  clear hl hT hWd hS1 hS2
  simp only at hol
  by_cases q1 : (30 : Int) < (l.length : Int)
  · have HW := hide ((bl w).al (.cells #[.slice a l.length cap] 24))
    go_enter Tryz.func3, Tryz.ntmps3
    go_wp2_with fail
    refine (HWK.out _ HW.out).mono ?_
    rintro r w9 ⟨rfl, hb⟩
    have HW := hide (HW.out.tr hb)
    clear hb
    go_wp2_with fail
    go_ret
    exact ⟨rfl, HW.out⟩
  have hm : m.length ≤ 30 := by omega
  clear hol
  go_enter Tryz.func3, Tryz.ntmps3
  go_wp2_with fail
  go_loopw [3, 4] (fun n i wr => ∃ (k : Nat) (c : Int), k ≤ l.length ∧ i = .int .i64 k ∧ n = .int .i64 c ∧ Hid (wr.heap[w.heap.size]? = some (.cells #[.slice a l.length cap] 24 (0, 0))) ∧ Hid (Below w.heap.size w wr)) (fun _ i _ => l.length - (intOf i).toNat)
  case atStart => exact ⟨0, 0, Nat.zero_le _, rfl, rfl, HX0, (bl w).al _⟩
  case round =>
    obtain ⟨k, c, hk, rfl, rfl, HX, HB⟩ := hrel
    have x0 := cell_at (j := 0) HX.out rfl
    have hxl := (Array.getElem?_eq_some_iff.1 HX.out).1
    by_cases hlt : k < l.length
    · obtain ⟨b, o, rfl⟩ := HL.out.addr (by omega)
      obtain ⟨pp, pb, cp, cb, c0, c1, c2, c3, c4, hfw, hps, hrow⟩ := (HL.out.at_ b o rfl k hlt).has (has_below HB.out)
      have hbl := cell_lt c0
      simp only at hbl
      have HS := hide fun (W : World) (hW : Below wr.heap.size wr W) => refSize_any l[k].body pb cb W (hrow.has (has_below hW)) (Nat.le_trans hfw.lb hfw.cb)
      have hpl : l[k].params.length ≤ 9223372036854775807 := Nat.le_trans hps.len hps.cap
      obtain ⟨z, hz⟩ : ∃ z, sizeR 20 200 l[k].body = z := ⟨_, rfl⟩
      rw [hz] at HS
      clear hfw hps hrow hz
      go_wp2_with fail
      (with_reducible refine (HS.out _ (bl _)).mono ?_)
      rintro r w2 ⟨rfl, hb2⟩
      have HX2 := hide ((hb2.block _ hxl).trans HX.out)
      have HW := hide (HB.out.tr hb2)
      have c1 := cell_keep c1 hb2 (Nat.le_refl _)
      have x0 := cell_keep x0 hb2 (Nat.le_refl _)
      have hxl2 := (Array.getElem?_eq_some_iff.1 HX2.out).1
      have hbl2 : b < w2.heap.size := Nat.lt_of_lt_of_le hbl hb2.size
      clear hb2 c0 c2 c3 c4
      by_cases h30 : (30 : Int) < (l[k].params.length : Int)
      · go_wp2_with fail
        refine (HWK.out _ HW.out).mono ?_
        rintro r w9 ⟨rfl, hb⟩
        have HW := hide (HW.out.tr hb)
        clear hb
        go_wp2_with fail
        go_ret
        exact ⟨rfl, HW.out⟩
      · go_wp2_with (go_at_call 5; refine (HWK.out _ HW.out).mono ?_; rintro r w9 ⟨rfl, hb9⟩)
        · go_ret
          exact ⟨rfl, HW.out.tr hb9⟩
        · go_roundw
          case rel => exact ⟨k + 1, _, by omega, by go_num, rfl, HX2.out, HW.out⟩
          case measure => simp [intOf]; omega
    · obtain rfl : k = l.length := by omega
      go_wp2_with fail
      (with_reducible refine (HS1.out _ HB.out).mono ?_)
      rintro r w2 ⟨⟨a1, p1, rfl, hs⟩, hb⟩
      have HG1 := hide hs
      have HX := hide ((hb.block _ hxl).trans HX.out)
      have x0 := cell_at (j := 0) HX.out rfl
      have hxl := (Array.getElem?_eq_some_iff.1 HX.out).1
      have HW := hide (HB.out.tr hb)
      clear hs hb
      go_wp2_with fail
      (with_reducible refine (HS2.out _ HW.out).mono ?_)
      rintro r w3 ⟨⟨a2, p2, rfl, hs⟩, hb⟩
      have HG2 := hide hs
      have HG1 := hide (HG1.out.has (has_below hb))
      have HW := hide (HW.out.tr hb)
      clear hs hb x0 hxl HX
      go_wp2_with fail
      (with_reducible refine (refs12_any m a1 p1 _ HG1.out (by omega)).mono ?_)
      rintro r w4 ⟨⟨a3, p3, rfl, hs⟩, hb⟩
      have HG2 := hide (HG2.out.has (has_below hb))
      have HG3 := hide hs
      have HW := hide (HW.out.tr hb)
      clear hs hb
      go_wp2_with fail
      (with_reducible refine (refLists_self m a3 a2 p3 p2 _ HG3.out HG2.out).mono ?_)
      rintro r w5 ⟨rfl, hb⟩
      have HW := hide (HW.out.tr hb)
      clear hb
      go_wp2_with fail
      refine (HWK.out _ HW.out).mono ?_
      rintro r w9 ⟨rfl, hb⟩
      have HW := hide (HW.out.tr hb)
      clear hb
      go_wp2_with fail
      go_ret
      exact ⟨rfl, HW.out⟩
end Go.Proofs.YtnkmbddjekepkaaGreatDoor
namespace Go.Proofs.YtnkmbddjekepkaaGreatDoor.PrSgProg
open Go Go.ChangeShapes Go.WideShapes Go.ChangeAt Go.RowKit
set_option linter.unusedSimpArgs false
set_option linter.unusedVariables false
set_option linter.unnecessarySimpa false
theorem laidOut : laidOutB Tryz.prog = true := by kernel_rfl
/-- What came in reads behind the call as it did. -/
theorem stay {H : Type} {enc : TypeId × Value → H} {W W' : World} {sp : Nat → Bool} {t : TypeId} {v : Value} {d : DataW H} {ps : List MemPlace} (hr : Tryz.prog.readableRec t = true) (hrow : t < Tryz.prog.types.size)
    (h : DataW.Trod enc Tryz.prog W 0 (fun _ => true) true t v d ps) (hb : Below W.heap.size W W') (hs : ∀ p ∈ ps, sp p.block = true) : DataW.Trod enc Tryz.prog W' 0 sp true t v d ps := by
  refine WideElems.Trod_stays laidOut hr hrow h (fun p hp => ?_) hs
  obtain ⟨n, hn⟩ := h
  have hlt := DataW.trod_lt n t _ _ hn p hp
  cases p with
  | cell b o => exact hb.cell (p := ⟨b, o, none⟩) hlt
  | map b => exact hb.block b hlt
set_option maxRecDepth 100000 in
theorem lifted (os : Os) (started : os.Started) (H : Type) (enc : TypeId × Value → H) :
    ReturnsInHanded {} Tryz.checked os 3 .any (fun w args => (Rows.signsProgramsSpec.pre enc Tryz.prog Tryz.f3 [] false w args ∧ laidMetH Tryz.prog Rows.signsProgramsRow.laid w) ∧ sizedMet enc Tryz.prog Tryz.f3 (OpenSpec.ofChange Rows.signsProgramsSpec) false w args)
      (Rows.signsProgramsSpec.post enc Tryz.prog Tryz.f3 false true false false) := by
  refine returnsInHanded_of_change_and (C := Tryz.checked) (X := fun w _ => laidMetH Tryz.prog Rows.signsProgramsRow.laid w) (fun _ _ _ hh h => h.of_heap hh) own started (by kernel_rfl) Tryz.func3
    (witness_laid #[.agg #[.slice none 0 0]] 8 (by kernel_rfl) (by kernel_rfl) (by kernel_rfl) (by kernel_rfl) (by kernel_rfl) (by kernel_rfl) (by kernel_rfl)) ?_
  intro W base args ds gs before hval0 hW _ _ hL _
  have hval : ∀ (j : Nat) t v, Tryz.f3.params[j]? = some t → args[j]? = some v → Value.okWide Tryz.prog W .any base t v := hval0
  have hW' := hW
  obtain ⟨p, q, hA0, hV, rfl, hfz, hnd⟩ := hW
  have hA : DataW.TrodAll enc Tryz.prog W 0 (fun _ => true) true Tryz.f3.params.toList args.toList ds p := hA0
  rw [Tryz.params3] at hA hval
  obtain ⟨v0, vs0, d0, ds0, p0, q0, hargs, rfl, rfl, h0, r0⟩ := trodAll_cons hA
  obtain ⟨rfl, rfl, rfl⟩ := trodAll_nil r0
  obtain rfl : args = #[v0] := by cases args; simp_all
  obtain ⟨rfl, rfl⟩ := trodVars_none hV
  obtain ⟨l0, a0, c0, hv0, hl0⟩ := read_program (hval 0 24 v0 rfl rfl) h0
  subst hv0
  clear hA0 hval0
  refine (SignsPrograms_any l0 a0 c0 W hl0 (tab_of_laid hL) (words_of_laid hL)).mono fun r W' ⟨hr, hb⟩ => ?_
  subst hr
  exact ⟨_, rfl, post_of_below (pa := (p0 ++ [])) (pv := []) hW' (fun _ _ _ => (trodAll_cons_mk (shut_bool Tryz.underlying4 _) trodAll_mk0))
    (fun sp hsp => (trodAll_cons_mk (stay (by kernel_rfl) (of_decide_eq_true (by kernel_rfl)) h0 hb (fun p hp => hsp p (by simp [hp]))) trodAll_mk0)) (fun _ _ => rfl) rfl
    hb (ok_one (by kernel_rfl) rfl (okWide_bool_mk Tryz.underlying4 _))⟩
theorem over : Rows.signsProgramsRow.holds Tryz.pinned (OpenSpec.ofChange Rows.signsProgramsSpec) :=
  OpenClaim.holds_of_wide 3 Tryz.f3 rfl rfl rfl rfl rfl rfl rfl ⟨rfl, rfl, rfl, rfl, rfl⟩ rfl rfl rfl rfl rfl (by kernel_rfl) Tryz.func3 (by kernel_rfl)
    (of_decide_eq_true (by kernel_rfl)) (by unfold Func.isWrapper; first | (rw [if_pos (by decide +kernel)]; kernel_rfl) | (rw [if_neg (by decide +kernel)]; exact ⟨rfl, rfl⟩))
    (fun os started H enc _ => lifted os started H enc)
end Go.Proofs.YtnkmbddjekepkaaGreatDoor.PrSgProg
namespace Go.Proofs.YtnkmbddjekepkaaGreatDoor
open Go
theorem signsPrograms_proved : Rows.SignsProgramsCardSaid :=
  Claim7.holds_tied_plain_at .later [] [.data, .listed, .data, .data, .pinned] true (true, "0cdf6745f7722a550afff931df861f430f1ab8f852d7f637ec88c967ce21e184") false
    PrSgProg.over (fun _ h => by cases h) (by kernel_rfl) (fun _ h => by cases h) signsPrograms_row_tie rfl ⟨rfl, rfl⟩ (by kernel_rfl) rfl
    (fun f fn hf hfn => by
      obtain rfl : f = 3 := Option.some.inj ((show Tryz.prog.funcNamed "rewind/rewindlaw12.SignsPrograms" = some 3 by kernel_rfl).symm.trans hf) |>.symm
      obtain rfl : fn = Tryz.f3 := (Option.some.inj (Tryz.func3.symm.trans hfn)).symm
      exact ⟨by kernel_rfl, fun j t ht => by
        rw [Tryz.params3] at ht
        have h3 : t = 24 := by
          rcases j with _ | j
          all_goals simp at ht
          · exact ht.symm
        rcases h3 with rfl
        · exact (show Tryz.prog.wantsStandIn 24 = false by kernel_rfl)⟩)
    (by kernel_rfl)
#print axioms signsPrograms_proved
end Go.Proofs.YtnkmbddjekepkaaGreatDoor
