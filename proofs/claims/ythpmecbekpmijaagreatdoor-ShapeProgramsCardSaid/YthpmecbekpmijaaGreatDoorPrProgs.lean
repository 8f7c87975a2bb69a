/- ShapePrograms returns true for every input, whatever the world is in which the table of blanks is laid as the program lays it, and the input reads as it did. No further condition. -/
import Derived.Test.YthpmecbekpmijaaGreatDoorShC
import Derived.ProofKit
import Derived.OpenShut
import Derived.Test.YthpmecbekpmijaaGreatDoorSt
import Derived.Test.YthpmecbekpmijaaGreatDoorRows
import Derived.Test.YthpmecbekpmijaaGreatDoorShA
import Derived.Lay
import Derived.MakeChecks
import Derived.Handed
import Derived.ChangeSame
import Derived.Test.YthpmecbekpmijaaGreatDoorSpI
import Derived.Test.YthpmecbekpmijaaGreatDoorNw
import Derived.Laws.StructEq
import Derived.Deep.QuietTactic
import Derived.BigQuiet
import Derived.Test.YthpmecbekpmijaaGreatDoorEq
import Derived.Test.YthpmecbekpmijaaGreatDoorMd1
import Derived.Test.YthpmecbekpmijaaGreatDoorMkI
import Derived.Test.YthpmecbekpmijaaGreatDoorSpO
import Derived.Test.YthpmecbekpmijaaGreatDoorLwA
import Derived.Test.YthpmecbekpmijaaGreatDoorSpH
import Derived.Test.YthpmecbekpmijaaGreatDoorRsG
import Derived.Deep.RegionHeld3
import Derived.Test.YthpmecbekpmijaaGreatDoorRsD
import Derived.Deep.DeepCutAuto
import Derived.Test.YthpmecbekpmijaaGreatDoorTie
import Derived.Test.YthpmecbekpmijaaGreatDoorCards
import Derived.SevenTiedAt
import Derived.WideKeyArgs
import Derived.ChangeMaps5
/- Expressions that come in: what the statement's reading of them gives, as trees in memory. -/
namespace Go.Proofs.YthpmecbekpmijaaGreatDoor
open Go Go.RowKit Go.WideShapes Go.ChangeShapes
set_option linter.unusedSimpArgs false
set_option linter.unusedVariables false
set_option linter.unnecessarySimpa false
set_option maxRecDepth 100000
theorem cells5 {w : World} {base : Nat} {a : Addr} {cs : List Value} (h : w.cells? base a 5 = some cs) :
    ∃ (b o : Nat) (v0 v1 v2 v3 v4 : Value), a = ⟨b, o, none⟩ ∧ cs = [v0, v1, v2, v3, v4] ∧ w.cell? ⟨b, o, none⟩ = some v0 ∧ w.cell? ⟨b, o + 1, none⟩ = some v1 ∧ w.cell? ⟨b, o + 2, none⟩ = some v2 ∧
      w.cell? ⟨b, o + 3, none⟩ = some v3 ∧ w.cell? ⟨b, o + 4, none⟩ = some v4 := by
  unfold World.cells? at h
  split at h
  · rw [show List.range 5 = [0, 1, 2, 3, 4] from rfl] at h
    simp only [List.mapM_cons, List.mapM_nil, Option.bind_eq_bind, Option.bind_eq_some_iff, Option.pure_def, Option.some.injEq] at h
    obtain ⟨v0, h0, _, ⟨v1, h1, _, ⟨v2, h2, _, ⟨v3, h3, _, ⟨v4, h4, _, rfl, rfl⟩, rfl⟩, rfl⟩, rfl⟩, rfl⟩ := h
    obtain ⟨b, o, s⟩ := a
    have hs : s = none := by simpa [Addr.add] using World.cell?_spot h0
    subst hs
    exact ⟨b, o, v0, v1, v2, v3, v4, rfl, rfl, by simpa [Addr.add] using h0, by simpa [Addr.add] using h1, by simpa [Addr.add] using h2, by simpa [Addr.add] using h3, by simpa [Addr.add] using h4⟩
  · cases h
theorem i64_of_wf {z : Int} (h : (Lit.int .i64 z).wf = true) : I64 z := by
  have h2 : -9223372036854775808 ≤ z ∧ z ≤ 9223372036854775807 := by simpa [Lit.wf, IntKind.min, IntKind.max, IntKind.signed, IntKind.bits] using h
  exact h2
theorem row_of_all {w : World} {b : Nat} : ∀ (n o : Nat), (∀ i, i < n → ∃ e, Ex.At w e b (o + i * 5)) → ∃ es : List Ex, es.length = n ∧ Ex.Row w es (some ⟨b, o, none⟩)
  | 0, o, _ => ⟨[], rfl, by simp only [Ex.Row]⟩
  | n + 1, o, h => by
    obtain ⟨e, he⟩ := h 0 (by omega)
    obtain ⟨es, hl, hr⟩ := row_of_all n (o + 5) (fun i hi => by
      have := h (i + 1) (by omega)
      rwa [show o + (i + 1) * 5 = o + 5 + i * 5 by omega] at this)
    refine ⟨e :: es, by simp [hl], ?_⟩
    simp only [Ex.Row]
    exact ⟨b, o, rfl, by simpa using he, hr⟩
section
variable {H : Type} {enc : TypeId × Value → H} {W : World} {sp : Nat → Bool} {held : Bool}
theorem read_ex : ∀ (N n : Nat), n < N → ∀ (cs : List Value) (x : DataW H × List MemPlace), DataW.trod enc Tryz.prog W 0 sp held n 27 cs = some x →
    ∃ (e : Ex) (a : Option Addr) (cap : Nat), cs = [.int .i64 e.kind, .int .i64 e.op, .int .i64 e.num, .string ⟨e.name.toArray⟩, .slice a e.args.length cap] ∧ ExWf e.kind e.op e.num e.name e.args.length cap ∧ Ex.Row W e.args a
  | 0, n, hn, _, _, _ => absurd hn (Nat.not_lt_zero _)
  | N + 1, n, hn, cs, x, h => by
    obtain ⟨xs, n1, rfl, _, hl, hxl, hf⟩ := DataW.trod_struct Tryz.underlying27 h
    have hl5 : cs.length = 5 := hl.trans (by kernel_rfl)
    have ci : Tryz.prog.cellsOf 3 = 1 := by kernel_rfl
    have c6 : Tryz.prog.cellsOf 2 = 1 := by kernel_rfl
    have cst : Tryz.prog.cellsOf 9 = 1 := by kernel_rfl
    have csl : Tryz.prog.cellsOf 25 = 1 := by kernel_rfl
    have ce : Tryz.prog.cellsOf 27 = 5 := by kernel_rfl
    match cs, hl5, xs, hxl with
    | [v0, v1, v2, v3, v4], _, [x0, x1, x2, x3, x4], _ =>
      have f0 : DataW.trod enc Tryz.prog W 0 sp held n1 3 (([v0, v1, v2, v3, v4].drop 0).take (Tryz.prog.cellsOf 3)) = [x0, x1, x2, x3, x4][0]? := hf 0 _ rfl
      have f1 : DataW.trod enc Tryz.prog W 0 sp held n1 3 (([v0, v1, v2, v3, v4].drop 1).take (Tryz.prog.cellsOf 3)) = [x0, x1, x2, x3, x4][1]? := hf 1 _ rfl
      have f2 : DataW.trod enc Tryz.prog W 0 sp held n1 2 (([v0, v1, v2, v3, v4].drop 2).take (Tryz.prog.cellsOf 2)) = [x0, x1, x2, x3, x4][2]? := hf 2 _ rfl
      have f3 : DataW.trod enc Tryz.prog W 0 sp held n1 9 (([v0, v1, v2, v3, v4].drop 3).take (Tryz.prog.cellsOf 9)) = [x0, x1, x2, x3, x4][3]? := hf 3 _ rfl
      have f4 : DataW.trod enc Tryz.prog W 0 sp held n1 25 (([v0, v1, v2, v3, v4].drop 4).take (Tryz.prog.cellsOf 25)) = [x0, x1, x2, x3, x4][4]? := hf 4 _ rfl
      simp only [ci, c6, cst, csl, List.drop_zero, List.drop_succ_cons, List.take_succ_cons, List.take_zero, List.getElem?_cons_zero, List.getElem?_cons_succ] at f0 f1 f2 f3 f4
      obtain ⟨k, e0, _, w0⟩ := DataW.trod_int Tryz.underlying3 f0
      obtain ⟨o, e1, _, w1⟩ := DataW.trod_int Tryz.underlying3 f1
      obtain ⟨m, e2, _, w2⟩ := DataW.trod_int Tryz.underlying2 f2
      obtain ⟨s, e3, _, w3⟩ := DataW.trod_string Tryz.underlying9 f3
      simp only [List.cons.injEq, and_true] at e0 e1 e2 e3
      subst e0 e1 e2 e3
      have hs : s = ⟨s.data.toList.toArray⟩ := by simp
      have hsl : s.data.toList.length ≤ maxLen := by rw [Array.length_toList]; exact w3
      rcases DataW.trod_slice Tryz.underlying25 f4 with ⟨e4, _⟩ | ⟨a, len, cap, elems, rest, n2, hn2, e4, _, hb, hlc, hcm, hel, hall, _, _⟩
      · simp only [List.cons.injEq, and_true] at e4
        subst e4
        refine ⟨.mk k o m s.data.toList [], none, 0, ?_, ⟨i64_of_wf w0, i64_of_wf w1, i64_of_wf w2, hsl, Nat.le_refl _, Nat.zero_le _⟩, by simp only [Ex.args, Ex.Row]⟩
        simp only [Ex.kind, Ex.op, Ex.num, Ex.name, Ex.args, List.length_nil, ← hs]
      · simp only [List.cons.injEq, and_true] at e4
        subst e4
        have key : ∀ i, i < len → ∃ (b o : Nat) (e : Ex), a.add (i * 5) = ⟨b, o, none⟩ ∧ Ex.At W e b o := by
          intro i hi
          have h1 := hall i hi
          rw [List.getElem?_eq_getElem (by omega), ce] at h1
          obtain ⟨cs', h2, h3⟩ := Option.bind_eq_some_iff.1 h1
          obtain ⟨b', o', u0, u1, u2, u3, u4, ha, rfl, k0, k1, k2, k3, k4⟩ := cells5 h2
          obtain ⟨e, a', cap', he, hw, hr⟩ := read_ex N n2 (by omega) _ _ h3
          refine ⟨b', o', e, ha, ?_⟩
          simp only [List.cons.injEq, and_true] at he
          obtain ⟨rfl, rfl, rfl, rfl, rfl⟩ := he
          cases e
          simp only [Ex.At]
          exact ⟨a', cap', k0, k1, k2, k3, k4, hw, hr⟩
        by_cases h0 : len = 0
        · subst h0
          refine ⟨.mk k o m s.data.toList [], some a, cap, ?_, ⟨i64_of_wf w0, i64_of_wf w1, i64_of_wf w2, hsl, Nat.zero_le _, hcm⟩, by simp only [Ex.args, Ex.Row]⟩
          simp only [Ex.kind, Ex.op, Ex.num, Ex.name, Ex.args, List.length_nil, ← hs]
        · obtain ⟨b0, o0, _, ha0, _⟩ := key 0 (by omega)
          have ha : a = ⟨b0, o0, none⟩ := by simpa [Addr.add] using ha0
          subst ha
          obtain ⟨es, hes, hrow⟩ := row_of_all (w := W) (b := b0) len o0 (fun i hi => by
            obtain ⟨b', o', e, he, hat⟩ := key i hi
            rw [Addr.add_lit] at he
            simp only [Addr.mk.injEq, and_true] at he
            obtain ⟨rfl, rfl⟩ := he
            exact ⟨e, hat⟩)
          subst hes
          refine ⟨.mk k o m s.data.toList es, some ⟨b0, o0, none⟩, cap, ?_, ⟨i64_of_wf w0, i64_of_wf w1, i64_of_wf w2, hsl, hlc, hcm⟩, hrow⟩
          simp only [Ex.kind, Ex.op, Ex.num, Ex.name, Ex.args, ← hs]
/-- An expression that comes in. -/
theorem read_expr {r : Reach} {b0 : Nat} {v : Value} {d : DataW H} {p : List MemPlace} (hv : Value.okWide Tryz.prog W r b0 27 v) (h : DataW.Trod enc Tryz.prog W 0 sp held 27 v d p) : ∃ e, Ex.Val W e v := by
  obtain ⟨cs, rfl, _⟩ := okWide_struct Tryz.underlying27 hv
  obtain ⟨n, hn⟩ := h
  obtain ⟨e, a, cap, he, hw, hr⟩ := read_ex (n + 1) n (Nat.lt_succ_self _) _ _ hn
  refine ⟨e, a, cap, ?_, hw, hr⟩
  have : cs.toList = _ := he
  rw [← Array.toArray_toList (xs := cs), this]
end
end Go.Proofs.YthpmecbekpmijaaGreatDoor
/- Statements that come in: what the statement's reading of them gives, as trees in memory. -/
namespace Go.Proofs.YthpmecbekpmijaaGreatDoor
open Go Go.RowKit Go.WideShapes Go.ChangeShapes
set_option linter.unusedSimpArgs false
set_option linter.unusedVariables false
set_option linter.unnecessarySimpa false
set_option maxRecDepth 100000
theorem cells8 {w : World} {base : Nat} {a : Addr} {cs : List Value} (h : w.cells? base a 8 = some cs) :
    ∃ (b o : Nat) (v0 v1 v2 v3 v4 v5 v6 v7 : Value), a = ⟨b, o, none⟩ ∧ cs = [v0, v1, v2, v3, v4, v5, v6, v7] ∧ w.cell? ⟨b, o, none⟩ = some v0 ∧ w.cell? ⟨b, o + 1, none⟩ = some v1 ∧ w.cell? ⟨b, o + 2, none⟩ = some v2 ∧
      w.cell? ⟨b, o + 3, none⟩ = some v3 ∧ w.cell? ⟨b, o + 4, none⟩ = some v4 ∧ w.cell? ⟨b, o + 5, none⟩ = some v5 ∧ w.cell? ⟨b, o + 6, none⟩ = some v6 ∧ w.cell? ⟨b, o + 7, none⟩ = some v7 := by
  unfold World.cells? at h
  split at h
  · rw [show List.range 8 = [0, 1, 2, 3, 4, 5, 6, 7] from rfl] at h
    simp only [List.mapM_cons, List.mapM_nil, Option.bind_eq_bind, Option.bind_eq_some_iff, Option.pure_def, Option.some.injEq] at h
    obtain ⟨v0, h0, _, ⟨v1, h1, _, ⟨v2, h2, _, ⟨v3, h3, _, ⟨v4, h4, _, ⟨v5, h5, _, ⟨v6, h6, _, ⟨v7, h7, _, rfl, rfl⟩, rfl⟩, rfl⟩, rfl⟩, rfl⟩, rfl⟩, rfl⟩, rfl⟩ := h
    obtain ⟨b, o, s⟩ := a
    have hs : s = none := by simpa [Addr.add] using World.cell?_spot h0
    subst hs
    exact ⟨b, o, v0, v1, v2, v3, v4, v5, v6, v7, rfl, rfl, by simpa [Addr.add] using h0, by simpa [Addr.add] using h1, by simpa [Addr.add] using h2, by simpa [Addr.add] using h3, by simpa [Addr.add] using h4, by simpa [Addr.add] using h5, by simpa [Addr.add] using h6, by simpa [Addr.add] using h7⟩
  · cases h
theorem srow_of_all {w : World} {b : Nat} : ∀ (n o : Nat), (∀ i, i < n → ∃ e, St.At w e b (o + i * 8)) → ∃ es : List St, es.length = n ∧ St.Row w es (some ⟨b, o, none⟩)
  | 0, o, _ => ⟨[], rfl, by simp only [St.Row]⟩
  | n + 1, o, h => by
    obtain ⟨e, he⟩ := h 0 (by omega)
    obtain ⟨es, hl, hr⟩ := srow_of_all n (o + 8) (fun i hi => by
      have := h (i + 1) (by omega)
      rwa [show o + (i + 1) * 8 = o + 8 + i * 8 by omega] at this)
    refine ⟨e :: es, by simp [hl], ?_⟩
    simp only [St.Row]
    exact ⟨b, o, rfl, by simpa using he, hr⟩
section
variable {H : Type} {enc : TypeId × Value → H} {W : World} {sp : Nat → Bool} {held : Bool}
/-- A list of expressions that comes in. -/
theorem read_exs {n : Nat} {v : Value} {x : DataW H × List MemPlace} (h : DataW.trod enc Tryz.prog W 0 sp held n 25 [v] = some x) :
    ∃ (l : List Ex) (a : Option Addr) (cap : Nat), v = .slice a l.length cap ∧ l.length ≤ cap ∧ cap ≤ maxLen ∧ Ex.Row W l a := by
  have ce : Tryz.prog.cellsOf 27 = 5 := by kernel_rfl
  rcases DataW.trod_slice Tryz.underlying25 h with ⟨e4, _⟩ | ⟨a, len, cap, elems, rest, n2, hn2, e4, _, hb, hlc, hcm, hel, hall, _, _⟩
  · simp only [List.cons.injEq, and_true] at e4
    exact ⟨[], none, 0, e4, Nat.le_refl _, Nat.zero_le _, by simp only [Ex.Row]⟩
  · simp only [List.cons.injEq, and_true] at e4
    subst e4
    have key : ∀ i, i < len → ∃ (b o : Nat) (e : Ex), a.add (i * 5) = ⟨b, o, none⟩ ∧ Ex.At W e b o := by
      intro i hi
      have h1 := hall i hi
      rw [List.getElem?_eq_getElem (by omega), ce] at h1
      obtain ⟨cs', h2, h3⟩ := Option.bind_eq_some_iff.1 h1
      obtain ⟨b', o', u0, u1, u2, u3, u4, ha, rfl, k0, k1, k2, k3, k4⟩ := cells5 h2
      obtain ⟨e, a', cap', he, hw, hr⟩ := read_ex (n2 + 1) n2 (Nat.lt_succ_self _) _ _ h3
      refine ⟨b', o', e, ha, ?_⟩
      simp only [List.cons.injEq, and_true] at he
      obtain ⟨rfl, rfl, rfl, rfl, rfl⟩ := he
      cases e
      simp only [Ex.At]
      exact ⟨a', cap', k0, k1, k2, k3, k4, hw, hr⟩
    by_cases h0 : len = 0
    · subst h0
      exact ⟨[], some a, cap, rfl, Nat.zero_le _, hcm, by simp only [Ex.Row]⟩
    · obtain ⟨b0, o0, _, ha0, _⟩ := key 0 (by omega)
      have ha : a = ⟨b0, o0, none⟩ := by simpa [Addr.add] using ha0
      subst ha
      obtain ⟨es, hes, hrow⟩ := row_of_all (w := W) (b := b0) len o0 (fun i hi => by
        obtain ⟨b', o', e, he, hat⟩ := key i hi
        rw [Addr.add_lit] at he
        simp only [Addr.mk.injEq, and_true] at he
        obtain ⟨rfl, rfl⟩ := he
        exact ⟨e, hat⟩)
      subst hes
      exact ⟨es, some ⟨b0, o0, none⟩, cap, rfl, hlc, hcm, hrow⟩
/-- The eight cells of a statement that comes in. -/
def StIs (W : World) (cs : List Value) : Prop :=
  ∃ (s : St) (pa pb pe : Option Addr) (ca cb ce : Nat), cs = [.int .i64 s.kind, .int .i64 s.no, .string ⟨s.name.toArray⟩, .int .i64 s.typ, .string ⟨s.callee.toArray⟩, .slice pa s.args.length ca, .slice pb s.body.length cb, .slice pe s.els.length ce] ∧
    StWf s.kind s.no s.name s.typ s.callee s.args.length ca s.body.length cb s.els.length ce ∧ Ex.Row W s.args pa ∧ St.Row W s.body pb ∧ St.Row W s.els pe
theorem read_sts0 {N : Nat} (ih : ∀ n, n < N → ∀ (cs : List Value) (x : DataW H × List MemPlace), DataW.trod enc Tryz.prog W 0 sp held n 34 cs = some x → StIs W cs) {n : Nat} (hn : n ≤ N) {v : Value} {x : DataW H × List MemPlace} (h : DataW.trod enc Tryz.prog W 0 sp held n 32 [v] = some x) :
    ∃ (l : List St) (a : Option Addr) (cap : Nat), v = .slice a l.length cap ∧ l.length ≤ cap ∧ cap ≤ maxLen ∧ St.Row W l a := by
  have ce : Tryz.prog.cellsOf 34 = 8 := by kernel_rfl
  rcases DataW.trod_slice Tryz.underlying32 h with ⟨e4, _⟩ | ⟨a, len, cap, elems, rest, n2, hn2, e4, _, hb, hlc, hcm, hel, hall, _, _⟩
  · simp only [List.cons.injEq, and_true] at e4
    exact ⟨[], none, 0, e4, Nat.le_refl _, Nat.zero_le _, by simp only [St.Row]⟩
  · simp only [List.cons.injEq, and_true] at e4
    subst e4
    have key : ∀ i, i < len → ∃ (b o : Nat) (e : St), a.add (i * 8) = ⟨b, o, none⟩ ∧ St.At W e b o := by
      intro i hi
      have h1 := hall i hi
      rw [List.getElem?_eq_getElem (by omega), ce] at h1
      obtain ⟨cs', h2, h3⟩ := Option.bind_eq_some_iff.1 h1
      obtain ⟨b', o', u0, u1, u2, u3, u4, u5, u6, u7, ha, rfl, k0, k1, k2, k3, k4, k5, k6, k7⟩ := cells8 h2
      obtain ⟨e, pa, pb, pe, ca, cb, ce, he, hw, r1, r2, r3⟩ := ih n2 (by omega) _ _ h3
      refine ⟨b', o', e, ha, ?_⟩
      simp only [List.cons.injEq, and_true] at he
      obtain ⟨rfl, rfl, rfl, rfl, rfl, rfl, rfl, rfl⟩ := he
      exact St.At.of ⟨k0, k1, k2, k3, k4, k5, k6, k7⟩ hw r1 r2 r3
    by_cases h0 : len = 0
    · subst h0
      exact ⟨[], some a, cap, rfl, Nat.zero_le _, hcm, by simp only [St.Row]⟩
    · obtain ⟨b0, o0, _, ha0, _⟩ := key 0 (by omega)
      have ha : a = ⟨b0, o0, none⟩ := by simpa [Addr.add] using ha0
      subst ha
      obtain ⟨es, hes, hrow⟩ := srow_of_all (w := W) (b := b0) len o0 (fun i hi => by
        obtain ⟨b', o', e, he, hat⟩ := key i hi
        rw [Addr.add_lit] at he
        simp only [Addr.mk.injEq, and_true] at he
        obtain ⟨rfl, rfl⟩ := he
        exact ⟨e, hat⟩)
      subst hes
      exact ⟨es, some ⟨b0, o0, none⟩, cap, rfl, hlc, hcm, hrow⟩
theorem read_st : ∀ (N n : Nat), n < N → ∀ (cs : List Value) (x : DataW H × List MemPlace), DataW.trod enc Tryz.prog W 0 sp held n 34 cs = some x → StIs W cs
  | 0, n, hn, _, _, _ => absurd hn (Nat.not_lt_zero _)
  | N + 1, n, hn, cs, x, h => by
    obtain ⟨xs, n1, hn1, _, hl, hxl, hf⟩ := DataW.trod_struct Tryz.underlying34 h
    have hl8 : cs.length = 8 := hl.trans (by kernel_rfl)
    have ci : Tryz.prog.cellsOf 3 = 1 := by kernel_rfl
    have cst : Tryz.prog.cellsOf 9 = 1 := by kernel_rfl
    have csl : Tryz.prog.cellsOf 25 = 1 := by kernel_rfl
    have css : Tryz.prog.cellsOf 32 = 1 := by kernel_rfl
    match cs, hl8, xs, hxl with
    | [v0, v1, v2, v3, v4, v5, v6, v7], _, [x0, x1, x2, x3, x4, x5, x6, x7], _ =>
      have f0 : DataW.trod enc Tryz.prog W 0 sp held n1 3 (([v0, v1, v2, v3, v4, v5, v6, v7].drop 0).take (Tryz.prog.cellsOf 3)) = [x0, x1, x2, x3, x4, x5, x6, x7][0]? := hf 0 _ rfl
      have f1 : DataW.trod enc Tryz.prog W 0 sp held n1 3 (([v0, v1, v2, v3, v4, v5, v6, v7].drop 1).take (Tryz.prog.cellsOf 3)) = [x0, x1, x2, x3, x4, x5, x6, x7][1]? := hf 1 _ rfl
      have f2 : DataW.trod enc Tryz.prog W 0 sp held n1 9 (([v0, v1, v2, v3, v4, v5, v6, v7].drop 2).take (Tryz.prog.cellsOf 9)) = [x0, x1, x2, x3, x4, x5, x6, x7][2]? := hf 2 _ rfl
      have f3 : DataW.trod enc Tryz.prog W 0 sp held n1 3 (([v0, v1, v2, v3, v4, v5, v6, v7].drop 3).take (Tryz.prog.cellsOf 3)) = [x0, x1, x2, x3, x4, x5, x6, x7][3]? := hf 3 _ rfl
      have f4 : DataW.trod enc Tryz.prog W 0 sp held n1 9 (([v0, v1, v2, v3, v4, v5, v6, v7].drop 4).take (Tryz.prog.cellsOf 9)) = [x0, x1, x2, x3, x4, x5, x6, x7][4]? := hf 4 _ rfl
      have f5 : DataW.trod enc Tryz.prog W 0 sp held n1 25 (([v0, v1, v2, v3, v4, v5, v6, v7].drop 5).take (Tryz.prog.cellsOf 25)) = [x0, x1, x2, x3, x4, x5, x6, x7][5]? := hf 5 _ rfl
      have f6 : DataW.trod enc Tryz.prog W 0 sp held n1 32 (([v0, v1, v2, v3, v4, v5, v6, v7].drop 6).take (Tryz.prog.cellsOf 32)) = [x0, x1, x2, x3, x4, x5, x6, x7][6]? := hf 6 _ rfl
      have f7 : DataW.trod enc Tryz.prog W 0 sp held n1 32 (([v0, v1, v2, v3, v4, v5, v6, v7].drop 7).take (Tryz.prog.cellsOf 32)) = [x0, x1, x2, x3, x4, x5, x6, x7][7]? := hf 7 _ rfl
      simp only [ci, cst, csl, css, List.drop_zero, List.drop_succ_cons, List.take_succ_cons, List.take_zero, List.getElem?_cons_zero, List.getElem?_cons_succ] at f0 f1 f2 f3 f4 f5 f6 f7
      obtain ⟨k, e0, _, w0⟩ := DataW.trod_int Tryz.underlying3 f0
      obtain ⟨i, e1, _, w1⟩ := DataW.trod_int Tryz.underlying3 f1
      obtain ⟨s, e2, _, w2⟩ := DataW.trod_string Tryz.underlying9 f2
      obtain ⟨t, e3, _, w3⟩ := DataW.trod_int Tryz.underlying3 f3
      obtain ⟨c, e4, _, w4⟩ := DataW.trod_string Tryz.underlying9 f4
      simp only [List.cons.injEq, and_true] at e0 e1 e2 e3 e4
      subst e0 e1 e2 e3 e4
      obtain ⟨xs, pa, ca, rfl, la, ka, ra⟩ := read_exs f5
      obtain ⟨bs, pb, cb, rfl, lb, kb, rb⟩ := read_sts0 (read_st N) (by omega) f6
      obtain ⟨es, pe, ce, rfl, le, ke, re⟩ := read_sts0 (read_st N) (by omega) f7
      have hs : s = ⟨s.data.toList.toArray⟩ := by simp
      have hc : c = ⟨c.data.toList.toArray⟩ := by simp
      have hsl : s.data.toList.length ≤ maxLen := by rw [Array.length_toList]; exact w2
      have hcl : c.data.toList.length ≤ maxLen := by rw [Array.length_toList]; exact w4
      refine ⟨.mk k i s.data.toList t c.data.toList xs bs es, pa, pb, pe, ca, cb, ce, ?_, ⟨i64_of_wf w0, i64_of_wf w1, hsl, i64_of_wf w3, hcl, la, ka, lb, kb, le, ke⟩, ra, rb, re⟩
      simp only [St.kind, St.no, St.name, St.typ, St.callee, St.args, St.body, St.els, ← hs, ← hc]
/-- A statement that comes in. -/
theorem read_stmt {r : Reach} {b0 : Nat} {v : Value} {d : DataW H} {p : List MemPlace} (hv : Value.okWide Tryz.prog W r b0 34 v) (h : DataW.Trod enc Tryz.prog W 0 sp held 34 v d p) : ∃ s, St.Val W s v := by
  obtain ⟨cs, rfl, _⟩ := okWide_struct Tryz.underlying34 hv
  obtain ⟨n, hn⟩ := h
  obtain ⟨s, pa, pb, pe, ca, cb, ce, he, hw, r⟩ := read_st (n + 1) n (Nat.lt_succ_self _) _ _ hn
  refine ⟨s, pa, pb, pe, ca, cb, ce, ?_, hw, r⟩
  have : cs.toList = _ := he
  rw [← Array.toArray_toList (xs := cs), this]
end
end Go.Proofs.YthpmecbekpmijaaGreatDoor
/- Functions and programs that come in: what the statement's reading of them gives. -/
namespace Go.Proofs.YthpmecbekpmijaaGreatDoor
open Go Go.RowKit Go.WideShapes Go.ChangeShapes
set_option linter.unusedSimpArgs false
set_option linter.unusedVariables false
set_option linter.unnecessarySimpa false
set_option maxRecDepth 100000
theorem cells2P {w : World} {base : Nat} {a : Addr} {cs : List Value} (h : w.cells? base a 2 = some cs) :
    ∃ (b o : Nat) (v0 v1 : Value), a = ⟨b, o, none⟩ ∧ cs = [v0, v1] ∧ w.cell? ⟨b, o, none⟩ = some v0 ∧ w.cell? ⟨b, o + 1, none⟩ = some v1 := by
  unfold World.cells? at h
  split at h
  · rw [show List.range 2 = [0, 1] from rfl] at h
    simp only [List.mapM_cons, List.mapM_nil, Option.bind_eq_bind, Option.bind_eq_some_iff, Option.pure_def, Option.some.injEq] at h
    obtain ⟨v0, h0, _, ⟨v1, h1, _, rfl, rfl⟩, rfl⟩ := h
    obtain ⟨b, o, s⟩ := a
    have hs : s = none := by simpa [Addr.add] using World.cell?_spot h0
    subst hs
    exact ⟨b, o, v0, v1, rfl, rfl, by simpa [Addr.add] using h0, by simpa [Addr.add] using h1⟩
  · cases h
section
variable {H : Type} {enc : TypeId × Value → H} {W : World} {sp : Nat → Bool} {held : Bool}
/-- A list of parameters that comes in. -/
theorem read_pms {n : Nat} {v : Value} {x : DataW H × List MemPlace} (h : DataW.trod enc Tryz.prog W 0 sp held n 40 [v] = some x) :
    ∃ (l : List Pm) (a : Option Addr) (cap : Nat), v = .slice a l.length cap ∧ Pms W l a cap := by
  have cv : Tryz.prog.cellsOf 58 = 2 := by kernel_rfl
  have ci : Tryz.prog.cellsOf 3 = 1 := by kernel_rfl
  have cst : Tryz.prog.cellsOf 9 = 1 := by kernel_rfl
  rcases DataW.trod_slice Tryz.underlying40 h with ⟨e4, _⟩ | ⟨a', len, cap, elems, rest, n2, hn2, e4, _, hb, hlc, hcm, hel, hall, _, _⟩
  · simp only [List.cons.injEq, and_true] at e4
    exact ⟨[], none, 0, e4, ⟨Nat.le_refl _, Nat.zero_le _, by simp, fun b o e => (by cases e), by simp⟩⟩
  · simp only [List.cons.injEq, and_true] at e4
    subst e4
    have key : ∀ i, i < len → ∃ (b o : Nat) (x : Pm), a'.add (i * 2) = ⟨b, o, none⟩ ∧ (x.name.length ≤ maxLen ∧ I64 x.typ) ∧ W.cell? ⟨b, o, none⟩ = some (.string ⟨x.name.toArray⟩) ∧ W.cell? ⟨b, o + 1, none⟩ = some (.int .i64 x.typ) := by
      intro i hi
      have h1 := hall i hi
      rw [List.getElem?_eq_getElem (by omega), cv] at h1
      obtain ⟨cs', h2, h3⟩ := Option.bind_eq_some_iff.1 h1
      obtain ⟨b', o', u0, u1, ha, rfl, k0, k1⟩ := cells2P h2
      obtain ⟨xs, n3, _, _, _, hxl, hf⟩ := DataW.trod_struct Tryz.underlying58 h3
      match xs, hxl with
      | [x0, x1], _ =>
        have f0 : DataW.trod enc Tryz.prog W 0 sp held n3 9 (([u0, u1].drop 0).take (Tryz.prog.cellsOf 9)) = [x0, x1][0]? := hf 0 _ rfl
        have f1 : DataW.trod enc Tryz.prog W 0 sp held n3 3 (([u0, u1].drop 1).take (Tryz.prog.cellsOf 3)) = [x0, x1][1]? := hf 1 _ rfl
        simp only [ci, cst, List.drop_zero, List.drop_succ_cons, List.take_succ_cons, List.take_zero, List.getElem?_cons_zero, List.getElem?_cons_succ] at f0 f1
        obtain ⟨s, e0, _, w0⟩ := DataW.trod_string Tryz.underlying9 f0
        obtain ⟨t1, e1, _, w1⟩ := DataW.trod_int Tryz.underlying3 f1
        simp only [List.cons.injEq, and_true] at e0 e1
        subst e0 e1
        have hs : s = ⟨s.data.toList.toArray⟩ := by simp
        exact ⟨b', o', ⟨s.data.toList, t1⟩, ha, ⟨by simp only; rw [Array.length_toList]; exact w0, i64_of_wf w1⟩, by rw [k0], k1⟩
    by_cases h0 : len = 0
    · subst h0
      exact ⟨[], some a', cap, rfl, ⟨Nat.zero_le _, hcm, by simp, fun b o e i hi => absurd hi (Nat.not_lt_zero _), by simp⟩⟩
    · obtain ⟨b0, o0, _, ha0, _⟩ := key 0 (by omega)
      have ha : a' = ⟨b0, o0, none⟩ := by simpa [Addr.add] using ha0
      subst ha
      have key2 : ∀ i, i < len → ∃ x : Pm, (x.name.length ≤ maxLen ∧ I64 x.typ) ∧ W.cell? ⟨b0, o0 + i * 2, none⟩ = some (.string ⟨x.name.toArray⟩) ∧ W.cell? ⟨b0, o0 + i * 2 + 1, none⟩ = some (.int .i64 x.typ) := fun i hi => by
        obtain ⟨b', o', x, he, hw, hat⟩ := key i hi
        rw [Addr.add_lit] at he
        simp only [Addr.mk.injEq, and_true] at he
        obtain ⟨rfl, rfl⟩ := he
        exact ⟨x, hw, hat⟩
      refine ⟨(List.finRange len).map fun i => (key2 i.1 i.2).choose, some ⟨b0, o0, none⟩, cap, by simp, ⟨by simpa using hlc, hcm, fun _ => ⟨_, _, rfl⟩, ?_, ?_⟩⟩
      · intro b o e i hi
        simp only [Option.some.injEq, Addr.mk.injEq, and_true] at e
        obtain ⟨rfl, rfl⟩ := e
        have hi' : i < len := by simpa using hi
        have := (key2 i hi').choose_spec.2
        simpa using this
      · intro p hp
        obtain ⟨i, _, rfl⟩ := List.mem_map.1 hp
        exact (key2 i.1 i.2).choose_spec.1
/-- The five cells of a function that comes in. -/
theorem read_fn {n : Nat} {cs : List Value} {x : DataW H × List MemPlace} (h : DataW.trod enc Tryz.prog W 0 sp held n 42 cs = some x) :
    ∃ (f : Fn) (pp pb : Option Addr) (cp cb : Nat), cs = [.string ⟨f.name.toArray⟩, .slice pp f.params.length cp, .int .i64 f.result, .slice pb f.body.length cb, .int .i64 f.count] ∧ FnWf f cb ∧ Pms W f.params pp cp ∧ St.Row W f.body pb := by
  obtain ⟨xs, n1, hn1, _, hl, hxl, hf⟩ := DataW.trod_struct Tryz.underlying42 h
  have hl5 : cs.length = 5 := hl.trans (by kernel_rfl)
  have ci : Tryz.prog.cellsOf 3 = 1 := by kernel_rfl
  have cst : Tryz.prog.cellsOf 9 = 1 := by kernel_rfl
  have csp : Tryz.prog.cellsOf 40 = 1 := by kernel_rfl
  have css : Tryz.prog.cellsOf 32 = 1 := by kernel_rfl
  match cs, hl5, xs, hxl with
  | [v0, v1, v2, v3, v4], _, [x0, x1, x2, x3, x4], _ =>
    have f0 : DataW.trod enc Tryz.prog W 0 sp held n1 9 (([v0, v1, v2, v3, v4].drop 0).take (Tryz.prog.cellsOf 9)) = [x0, x1, x2, x3, x4][0]? := hf 0 _ rfl
    have f1 : DataW.trod enc Tryz.prog W 0 sp held n1 40 (([v0, v1, v2, v3, v4].drop 1).take (Tryz.prog.cellsOf 40)) = [x0, x1, x2, x3, x4][1]? := hf 1 _ rfl
    have f2 : DataW.trod enc Tryz.prog W 0 sp held n1 3 (([v0, v1, v2, v3, v4].drop 2).take (Tryz.prog.cellsOf 3)) = [x0, x1, x2, x3, x4][2]? := hf 2 _ rfl
    have f3 : DataW.trod enc Tryz.prog W 0 sp held n1 32 (([v0, v1, v2, v3, v4].drop 3).take (Tryz.prog.cellsOf 32)) = [x0, x1, x2, x3, x4][3]? := hf 3 _ rfl
    have f4 : DataW.trod enc Tryz.prog W 0 sp held n1 3 (([v0, v1, v2, v3, v4].drop 4).take (Tryz.prog.cellsOf 3)) = [x0, x1, x2, x3, x4][4]? := hf 4 _ rfl
    simp only [ci, cst, csp, css, List.drop_zero, List.drop_succ_cons, List.take_succ_cons, List.take_zero, List.getElem?_cons_zero, List.getElem?_cons_succ] at f0 f1 f2 f3 f4
    obtain ⟨s, e0, _, w0⟩ := DataW.trod_string Tryz.underlying9 f0
    obtain ⟨r, e2, _, w2⟩ := DataW.trod_int Tryz.underlying3 f2
    obtain ⟨c, e4, _, w4⟩ := DataW.trod_int Tryz.underlying3 f4
    simp only [List.cons.injEq, and_true] at e0 e2 e4
    subst e0 e2 e4
    obtain ⟨ps, pp, cp, rfl, hps⟩ := read_pms f1
    obtain ⟨bs, pb, cb, rfl, lb, kb, rb⟩ := read_sts0 (read_st n1) (Nat.le_refl _) f3
    have hs : s = ⟨s.data.toList.toArray⟩ := by simp
    have hsl : s.data.toList.length ≤ maxLen := by rw [Array.length_toList]; exact w0
    refine ⟨⟨s.data.toList, ps, r, bs, c⟩, pp, pb, cp, cb, ?_, ⟨hsl, i64_of_wf w2, lb, kb, i64_of_wf w4⟩, hps, rb⟩
    simp only [← hs]
/-- A function that comes in. -/
theorem read_func {r : Reach} {b0 : Nat} {v : Value} {d : DataW H} {p : List MemPlace} (hv : Value.okWide Tryz.prog W r b0 42 v) (h : DataW.Trod enc Tryz.prog W 0 sp held 42 v d p) : ∃ f, Fn.Val W f v := by
  obtain ⟨cs, rfl, _⟩ := okWide_struct Tryz.underlying42 hv
  obtain ⟨n, hn⟩ := h
  obtain ⟨f, pp, pb, cp, cb, he, hw, hp, hr⟩ := read_fn hn
  refine ⟨f, pp, pb, cp, cb, ?_, hw, hp, hr⟩
  have : cs.toList = _ := he
  rw [← Array.toArray_toList (xs := cs), this]
theorem read_fns {n : Nat} {v : Value} {x : DataW H × List MemPlace} (h : DataW.trod enc Tryz.prog W 0 sp held n 36 [v] = some x) :
    ∃ (l : List Fn) (a : Option Addr) (cap : Nat), v = .slice a l.length cap ∧ Fns W l a cap := by
  have cv : Tryz.prog.cellsOf 42 = 5 := by kernel_rfl
  rcases DataW.trod_slice Tryz.underlying36 h with ⟨e4, _⟩ | ⟨a', len, cap, elems, rest, n2, hn2, e4, _, hb, hlc, hcm, hel, hall, _, _⟩
  · simp only [List.cons.injEq, and_true] at e4
    exact ⟨[], none, 0, e4, ⟨Nat.le_refl _, Nat.zero_le _, by simp, fun b o e => (by cases e)⟩⟩
  · simp only [List.cons.injEq, and_true] at e4
    subst e4
    have key : ∀ i, i < len → ∃ (b o : Nat) (f : Fn), a'.add (i * 5) = ⟨b, o, none⟩ ∧ Fn.At W f b o := by
      intro i hi
      have h1 := hall i hi
      rw [List.getElem?_eq_getElem (by omega), cv] at h1
      obtain ⟨cs', h2, h3⟩ := Option.bind_eq_some_iff.1 h1
      obtain ⟨b', o', u0, u1, u2, u3, u4, ha, rfl, k0, k1, k2, k3, k4⟩ := cells5 h2
      obtain ⟨f, pp, pb, cp, cb, he, hw, hp, hr⟩ := read_fn h3
      refine ⟨b', o', f, ha, pp, pb, cp, cb, ?_⟩
      simp only [List.cons.injEq, and_true] at he
      obtain ⟨rfl, rfl, rfl, rfl, rfl⟩ := he
      exact ⟨k0, k1, k2, k3, k4, hw, hp, hr⟩
    by_cases h0 : len = 0
    · subst h0
      exact ⟨[], some a', cap, rfl, ⟨Nat.zero_le _, hcm, by simp, fun b o e i hi => absurd hi (Nat.not_lt_zero _)⟩⟩
    · obtain ⟨b0, o0, _, ha0, _⟩ := key 0 (by omega)
      have ha : a' = ⟨b0, o0, none⟩ := by simpa [Addr.add] using ha0
      subst ha
      have key2 : ∀ i, i < len → ∃ f : Fn, Fn.At W f b0 (o0 + i * 5) := fun i hi => by
        obtain ⟨b', o', x, he, hat⟩ := key i hi
        rw [Addr.add_lit] at he
        simp only [Addr.mk.injEq, and_true] at he
        obtain ⟨rfl, rfl⟩ := he
        exact ⟨x, hat⟩
      refine ⟨(List.finRange len).map fun i => (key2 i.1 i.2).choose, some ⟨b0, o0, none⟩, cap, by simp, ⟨by simpa using hlc, hcm, fun _ => ⟨_, _, rfl⟩, ?_⟩⟩
      intro b o e i hi
      simp only [Option.some.injEq, Addr.mk.injEq, and_true] at e
      obtain ⟨rfl, rfl⟩ := e
      have hi' : i < len := by simpa using hi
      have := (key2 i hi').choose_spec
      simpa using this
/-- A program that comes in. -/
theorem read_program {r : Reach} {b0 : Nat} {v : Value} {d : DataW H} {p : List MemPlace} (hv : Value.okWide Tryz.prog W r b0 38 v) (h : DataW.Trod enc Tryz.prog W 0 sp held 38 v d p) :
    ∃ (l : List Fn) (a : Option Addr) (cap : Nat), v = .agg #[.slice a l.length cap] ∧ Fns W l a cap := by
  obtain ⟨cs, rfl, _⟩ := okWide_struct Tryz.underlying38 hv
  obtain ⟨n, hn⟩ := h
  obtain ⟨xs, n1, hn1, _, hl, hxl, hf⟩ := DataW.trod_struct Tryz.underlying38 hn
  have csf : Tryz.prog.cellsOf 36 = 1 := by kernel_rfl
  have hl1 : cs.toList.length = 1 := (show cs.toList.length = _ from hl).trans (by kernel_rfl)
  obtain ⟨v0, hv0⟩ : ∃ v0, cs.toList = [v0] := by
    rcases hc : cs.toList with _ | ⟨v0, t⟩
    · rw [hc] at hl1
      cases hl1
    · rw [hc] at hl1
      cases t
      · exact ⟨v0, rfl⟩
      · simp at hl1
  match xs, hxl with
  | [x0], _ =>
    have f0 : DataW.trod enc Tryz.prog W 0 sp held n1 36 ((cs.toList.drop 0).take (Tryz.prog.cellsOf 36)) = [x0][0]? := hf 0 _ rfl
    rw [hv0] at f0
    simp only [csf, List.drop_zero, List.take_succ_cons, List.take_zero, List.getElem?_cons_zero] at f0
    obtain ⟨l, a, cap, rfl, hfn⟩ := read_fns f0
    refine ⟨l, a, cap, ?_, hfn⟩
    rw [← Array.toArray_toList (xs := cs), hv0]
end
end Go.Proofs.YthpmecbekpmijaaGreatDoor
/- What a row of this seat needs: its condition gives the table of blanks; a world that meets it; the last step of a row. -/
namespace Go.Proofs.YthpmecbekpmijaaGreatDoor
open Go Go.RowKit Go.WideShapes Go.ChangeShapes
set_option linter.unusedSimpArgs false
set_option linter.unusedVariables false
set_option linter.unnecessarySimpa false
theorem own : ownKnob Tryz.prog.godebug = none := by kernel_rfl
/-- The list of laid variables of every row of this seat. -/
def theLaid : List (String × DataW Unit) := [("unicode/utf8.acceptRanges", Rows.laid_unicode_utf8_acceptRanges), ("unicode.White_Space", Rows.laid_unicode_White_Space), ("strings.asciiSpace", Rows.laid_strings_asciiSpace), ("unicode/utf8.first", Rows.laid_unicode_utf8_first)]
theorem space_data : (Rows.laid_strings_asciiSpace : DataW Unit) = Lib.tabData .u8 Lib.asciiSpaceTab := by kernel_rfl
/-- What a row's condition on the listed variables gives a walk. -/
theorem tab_of_laid {W : World} (h : laidMetH Tryz.prog theLaid W) : Tab W := by
  rw [MakeChecks.laidMetH_plain _ _ _ (by kernel_rfl)] at h
  obtain ⟨ps, ⟨g1, t1, cs1, f1, p1, q1, _, _, _, _, ⟨g2, t2, cs2, f2, p2, q2, _, _, _, _, ⟨g', t', cs, fuel, p, q, hg', ht', hvar, hd, _, _⟩, _⟩, _⟩, _, _⟩ := h
  have hg : Tryz.prog.globalNamed "strings.asciiSpace" = some 0 := by kernel_rfl
  obtain rfl := Option.some.inj (hg.symm.trans hg')
  obtain rfl := Option.some.inj ((show (Tryz.prog.globals[0]?).map (·.type) = some 156 by kernel_rfl).symm.trans ht')
  rw [space_data] at hd
  unfold Tab Lib.TabIs
  rw [hvar, ← Lib.cells_of_tab Tryz.underlying156 Tryz.underlying5 (by kernel_rfl) (by kernel_rfl) hd]
/-- A world that meets every row's condition on the listed variables. -/
theorem witness_laid {os : Os} {H : Type} {enc : TypeId × Value → H} {f : FuncId} {fn : Func} {s : ChangeSpec} (args : Array Value) (fuel : Nat)
    (hv : ((World.laidAll Tryz.prog os theLaid).forCall (fun _ _ => 0) ⟨#[], args, []⟩).variablesZipB Tryz.prog = true)
    (hr : (((World.laidAll Tryz.prog os theLaid).forCall (fun _ _ => 0) ⟨#[], args, []⟩).heap.toList.drop Tryz.prog.globals.size).take ((begin Tryz.prog (fun _ _ => 0) default).world.heap.size - Tryz.prog.globals.size) =
      (begin Tryz.prog (fun _ _ => 0) default).world.heap.toList.drop Tryz.prog.globals.size)
    (hok : Input.okWideB Tryz.prog ((World.laidAll Tryz.prog os theLaid).forCall (fun _ _ => 0) ⟨#[], args, []⟩) f ⟨#[], args, []⟩ = true)
    (hpre : s.preB enc Tryz.prog fn [] false ((World.laidAll Tryz.prog os theLaid).forCall (fun _ _ => 0) ⟨#[], args, []⟩).memory args fuel = true)
    (hsz : s.sizedB enc Tryz.prog fn false ((World.laidAll Tryz.prog os theLaid).forCall (fun _ _ => 0) ⟨#[], args, []⟩).memory args fuel = true)
    (hf : (World.holding Tryz.prog os ⟨#[], #[], []⟩).layFits Tryz.prog theLaid [] = true)
    (hi : (World.holding Tryz.prog os ⟨#[], #[], []⟩).layIfaces Tryz.prog theLaid (World.laidAll Tryz.prog os theLaid) = true) :
    ∃ (w : World) (tape : Tape) (i : Input), w.os = os ∧ (w.forCall tape i).Shaped Tryz.prog ∧ i.vars = [] ∧ Input.okWide Tryz.prog (w.forCall tape i) .any w.heap.size f i ∧
      ((s.pre enc Tryz.prog fn [] false (w.forCall tape i).memory i.args ∧ laidMetH Tryz.prog theLaid (w.forCall tape i).memory) ∧ sizedMet enc Tryz.prog fn (OpenSpec.ofChange s) false (w.forCall tape i).memory i.args) ∧ ({} : Assume).holds Tryz.prog (lone (Frame.enter Tryz.prog f i.args .normal) [] (w.forCall tape i)) :=
  ⟨World.laidAll Tryz.prog os theLaid, fun _ _ => 0, ⟨#[], args, []⟩, World.laidAll_os _ _ _, World.shaped_of_ZipB hv hr, (Input.okWide_of_okWideB (base := 0) hok).1, (Input.okWide_of_okWideB hok).2, ⟨⟨ChangeSpec.pre_of_preB hpre, by
    rw [MakeChecks.laidMetH_plain _ _ _ (by kernel_rfl)]; exact laidMet_laidAll _ hf hi⟩, sizedMet_of_sizedB hsz⟩, by
    simp only [Assume.holds]
    exact ⟨by simp, by simp, fun _ => Modest.zero, by simp, by simp⟩⟩
section
variable {H : Type} {enc : TypeId × Value → H} {P : Program}
/-- The row's last step, where of the call's world one knows that what was there has not turned. -/
theorem post_of_below {f : Func} {s : ChangeSpec} {apart fresh handsOn again : Bool} {W W' : World} {args : Array Value} {v : Value} {ds gs : List (DataW H)} {before pa pv : List MemPlace}
    (hW : DataW.Whole enc P f.params.toList s.vars apart W args.toList ds gs before)
    (hres : ∀ (b : Nat) (sp : Nat → Bool) (hd : Bool), DataW.TrodAll enc P W' b sp hd f.resultTypes.toList (v.resultList f.resultTypes.size) (s.fn H (ds ++ gs)).results [])
    (hargs : ∀ sp : Nat → Bool, (∀ p ∈ before, sp p.block = true) → DataW.TrodAll enc P W' 0 sp true f.params.toList args.toList (s.fn H (ds ++ gs)).args pa)
    (hvars : ∀ sp : Nat → Bool, (∀ p ∈ before, sp p.block = true) → DataW.TrodVars enc P W' sp s.vars (s.fn H (ds ++ gs)).vars pv)
    (hps : before = pa ++ pv) (hb : Below W.heap.size W W')
    (hok : ∀ (j : Nat) (t : TypeId) (r : Value), f.resultTypes[j]? = some t → (v.resultList f.resultTypes.size)[j]? = some r → Value.okWide P W' .any 0 t r) :
    s.post enc P f apart fresh handsOn again W args v W' := by
  have hlt : ∀ p ∈ before, p.block < W.heap.size := fun p hp => hW.lt p hp
  have hold : ∀ p ∈ before, (fun b => decide (b < W.heap.size)) p.block = true := fun p hp => by simpa using hlt p hp
  refine ⟨ds, gs, before, [], pa, pv, hW, hres _ _ _, hargs _ hold, hvars _ hold, World.keptBut_mono (fun p hp => ⟨hp, ?_⟩) (hb.frame (· ∈ before)), fun _ => ?_⟩
  · rw [hps, List.mem_append] at hp
    exact Or.inr hp
  · obtain ⟨_, _, _, _, _, hz, hn⟩ := hW
    refine ⟨hok, _, _, ([] ++ pa) ++ pv, ⟨[] ++ pa, pv, trodAll_append (hargs _ (fun _ _ => rfl)) (hres _ _ _), hvars _ (fun _ _ => rfl), rfl, ?_, ?_⟩, ?_⟩
    · intro b off hp
      have hin : MemPlace.cell b off ∈ before := by rw [hps]; simpa using hp
      rw [hb.frozen (hlt _ hin)]
      exact hz b off hin
    · intro ha
      have := hn ha
      rw [hps] at this
      simpa using this
    · intro p hp _
      rw [hps]
      simpa using hp
end
end Go.Proofs.YthpmecbekpmijaaGreatDoor
/- slices.Equal over parameters; shape.SameFunc answers eqF. -/
namespace Go.Proofs.YthpmecbekpmijaaGreatDoor
open Go Go.RowKit
set_option linter.unusedSimpArgs false
set_option linter.unusedVariables false
set_option linter.unnecessarySimpa false
theorem ba_eq (s t : Bytes) : ((⟨s.toArray⟩ : ByteArray).toList == (⟨t.toArray⟩ : ByteArray).toList) = (s == t) := by
  rw [ByteArray.toList_eq, ByteArray.toList_eq]
/-- The model's == at parameters. -/
theorem pm_equal (x y : Pm) (W : World) : (Op.equalIn 10000 58 (.agg #[.string ⟨x.name.toArray⟩, .int .i64 x.typ]) (.agg #[.string ⟨y.name.toArray⟩, .int .i64 y.typ])).run Tryz.prog W = .ok (decide (x = y)) W := by
  have hS : Tryz.prog.underlying 58 = some (.struct (Tryz.prog.fieldsOf 58)) := by kernel_rfl
  have hp : Tryz.prog.stoodInHeld 58 = false := by kernel_rfl
  have u1 := Tryz.underlying9
  have u2 := Tryz.underlying3
  have a1 := Tryz.isAgg9
  have a2 := Tryz.isAgg3
  have z1 := Tryz.sizeOf9
  have z2 := Tryz.sizeOf3
  have hd : decide (x = y) = ((x.name == y.name) && (x.typ == y.typ)) := by
    cases x
    cases y
    rw [Bool.eq_iff_iff]
    simp
  rw [show (10000 : Nat) = 9999 + 1 from rfl, run_equalIn_agg W 9999 58 _ _ hS hp, hd]
  simp only [Program.fieldsOf, Tryz.underlying58]
  go_simp
  by_cases h1 : x.name = y.name <;> by_cases h2 : x.typ = y.typ <;> simp [h1, h2]
theorem pm_neq (x y : Pm) (b : Bool) (h : (!decide (x = y)) = b) (W : World) : (binOp .neq 58 (.agg #[.string ⟨x.name.toArray⟩, .int .i64 x.typ]) (.agg #[.string ⟨y.name.toArray⟩, .int .i64 y.typ])).run Tryz.prog W = .ok (.bool b) W := by
  subst h
  rw [run_neq_struct, pm_equal]
  rfl
def pmsEq (l m : List Pm) (k : Nat) : Prop := ∀ (i : Nat) (h : i < l.length) (h' : i < m.length), i < k → l[i] = m[i]
set_option maxHeartbeats 4000000 in
theorem equalPms_any (l m : List Pm) (a a' : Option Addr) (cap cap' : Nat) (w : World) (hl : Pms w l a cap) (hm : Pms w m a' cap') :
    Calls Tryz.prog 53 #[.slice a l.length cap, .slice a' m.length cap'] w fun e w' => e = .returned (.bool (decide (l = m))) ∧ Below w.heap.size w w' := by
  have hll : l.length ≤ 9223372036854775807 := Nat.le_trans hl.len hl.cap
  have hml : m.length ≤ 9223372036854775807 := Nat.le_trans hm.len hm.cap
  have hgt : Tryz.prog.eqGuardType Tryz.prog.depth 58 = false := by kernel_rfl
  have HL := hide hl
  have HM := hide hm
  clear hl hm
  by_cases hlen : ¬ (l.length : Int) = (m.length : Int)
  · have hlen2 : ((l.length : Int) != (m.length : Int)) = true := by simpa using hlen
    have HE : Hid (decide (l = m) = false) := hide (decide_eq_false fun e => hlen (by rw [e]))
    clear hlen
    go_enter Tryz.func53, Tryz.ntmps53
    go_wp2_with fail
    go_ret
    exact ⟨ret_bool HE.out.symm, bl _⟩
  have hlen2 : ((l.length : Int) != (m.length : Int)) = false := by simpa using hlen
  have hlm : Hid (l.length = m.length) := hide (by omega)
  clear hlen
  go_enter Tryz.func53, Tryz.ntmps53
  go_wp2_with fail
  go_loopw [5, 13] (fun _ i wr => ∃ k : Nat, k ≤ l.length ∧ i = .int .i64 k ∧ Hid (pmsEq l m k) ∧ Below w.heap.size w wr) (fun _ i _ => l.length - (intOf i).toNat)
  case atStart => exact ⟨0, Nat.zero_le _, rfl, fun i _ _ h => absurd h (Nat.not_lt_zero _), bl _⟩
  case round =>
    obtain ⟨k, hk, rfl, hall, hb⟩ := hrel
    by_cases hlt : k < l.length
    · have hlt' : k < m.length := by have := hlm.out; omega
      obtain ⟨b, o, rfl⟩ := HL.out.addr (by omega)
      obtain ⟨b', o', rfl⟩ := HM.out.addr (by omega)
      obtain ⟨c0, c1⟩ := HL.out.at_ b o rfl k hlt
      obtain ⟨d0, d1⟩ := HM.out.at_ b' o' rfl k hlt'
      replace c0 := cell_keep c0 hb (Nat.le_refl _)
      replace c1 := cell_keep c1 hb (Nat.le_refl _)
      replace d0 := cell_keep d0 hb (Nat.le_refl _)
      replace d1 := cell_keep d1 hb (Nat.le_refl _)
      have hk0 : (0 : Int) ≤ (k : Int) := by omega
      have hk1 : (k : Int) < (l.length : Int) := by omega
      have hk2 : (k : Int) < (m.length : Int) := by omega
      cases hq : decide (l[k] = m[k])
      · have hn := fun W => pm_neq l[k] m[k] true (by rw [hq]; rfl) W
        have HQ := hide hq
        have HE : Hid (decide (l = m) = false) := hide (decide_eq_false fun e => by
          have h1 := HQ.out
          simp only [decide_eq_false_iff_not] at h1
          apply h1
          subst e
          rfl)
        clear hq
        go_wp2_with fail
        go_quiet (fail)
        go_wp2_with fail
        go_ret
        exact ⟨ret_bool HE.out.symm, below_dq hb _⟩
      · have hn := fun W => pm_neq l[k] m[k] false (by rw [hq]; rfl) W
        have HQ := hide hq
        clear hq
        go_wp2_with fail
        go_quiet (fail)
        go_wp2_with fail
        go_roundw
        case rel =>
          refine ⟨k + 1, by omega, by go_num, ?_, below_dq hb _⟩
          intro i hi hi' hik
          by_cases e : i = k
          · subst e; exact of_decide_eq_true HQ.out
          · exact hall.out i hi hi' (by omega)
        case measure => simp [intOf]; omega
    · obtain rfl : k = l.length := by omega
      have HE : Hid (decide (l = m) = true) := hide (decide_eq_true (List.ext_getElem hlm.out fun i h h' => hall.out i h h' h))
      go_wp2_with fail
      go_ret
      exact ⟨ret_bool HE.out.symm, hb⟩
end Go.Proofs.YthpmecbekpmijaaGreatDoor
/- shape.SameFunc answers eqF; shape.Same answers sameM. -/
namespace Go.Proofs.YthpmecbekpmijaaGreatDoor
open Go Go.RowKit
set_option linter.unusedSimpArgs false
set_option linter.unusedVariables false
set_option linter.unnecessarySimpa false
set_option maxRecDepth 20000 in
set_option maxHeartbeats 8000000 in
theorem sameFunc_any (f g : Fn) (v u : Value) (w : World) (hf : Fn.Val w f v) (hg : Fn.Val w g u) (hT : Tab w) : Calls Tryz.prog 23 #[v, u] w fun r w' => r = .returned (.bool (eqF f g)) ∧ Below w.heap.size w w' := by
  have HF := hide fun (W : World) (hW : Below w.heap.size w W) => function_any f v W (hf.keep hW (Nat.le_refl _)) (hT.below hW)
  have HG := hide fun (W : World) (hW : Below w.heap.size w W) => function_any g u W (hg.keep hW (Nat.le_refl _)) (hT.below hW)
  obtain ⟨pp, pb, cp, cb, rfl, hw, hps, hr⟩ := hf
  obtain ⟨pp', pb', cp', cb', rfl, hw', hps', hr'⟩ := hg
  have HP := hide fun (W : World) (hW : Below w.heap.size w W) => equalPms_any f.params g.params pp pp' cp cp' W (hps.keep hW (Nat.le_refl _)) (hps'.keep hW (Nat.le_refl _))
  have hB := fun (W : World) (hW : Below w.heap.size w W) => equalFunc_sts f.body g.body eqS pb pb' cb cb' 33 #[] (fun _ _ => by kernel_rfl) W (Nat.le_trans hw.lb hw.cb) (Nat.le_trans hw'.lb hw'.cb) (hr.keep hW (Nat.le_refl _)) (hr'.keep hW (Nat.le_refl _))
    (fun i h h' v u W' hW' hv hu => by
      have := stmts_any f.body[i] g.body[i] v u W' hv hu
      exact this)
  simp only [← eqL_ss] at hB
  have HB := hide hB
  obtain ⟨R, hR⟩ : ∃ R, eqF f g = R := ⟨_, rfl⟩
  rw [hR]
  unfold eqF at hR
  obtain ⟨q1, hq1⟩ : ∃ q, fnOk f = q := ⟨_, rfl⟩
  obtain ⟨q2, hq2⟩ : ∃ q, fnOk g = q := ⟨_, rfl⟩
  obtain ⟨q5, hq5⟩ : ∃ q, decide (f.params = g.params) = q := ⟨_, rfl⟩
  obtain ⟨q6, hq6⟩ : ∃ q, eqSs f.body g.body = q := ⟨_, rfl⟩
  rw [hq1, hq2, hq5, hq6] at hR
  rw [hq1] at HF
  rw [hq2] at HG
  rw [hq5] at HP
  rw [hq6] at HB
  have HY : Hid (((w.alloc (.cells #[.string ⟨f.name.toArray⟩, .slice pp f.params.length cp, .int .i64 f.result, .slice pb f.body.length cb, .int .i64 f.count] 42)).alloc (.cells #[.string ⟨g.name.toArray⟩, .slice pp' g.params.length cp', .int .i64 g.result, .slice pb' g.body.length cb', .int .i64 g.count] 42)).heap[w.heap.size + 1]? = some (.cells #[.string ⟨g.name.toArray⟩, .slice pp' g.params.length cp', .int .i64 g.result, .slice pb' g.body.length cb', .int .i64 g.count] 42 (0, 0))) := hide (by
    rw [show w.heap.size + 1 = (w.alloc (.cells #[.string ⟨f.name.toArray⟩, .slice pp f.params.length cp, .int .i64 f.result, .slice pb f.body.length cb, .int .i64 f.count] 42)).heap.size by simp]
    exact heap_alloc_new _ _)
  have HX : Hid (((w.alloc (.cells #[.string ⟨f.name.toArray⟩, .slice pp f.params.length cp, .int .i64 f.result, .slice pb f.body.length cb, .int .i64 f.count] 42)).alloc (.cells #[.string ⟨g.name.toArray⟩, .slice pp' g.params.length cp', .int .i64 g.result, .slice pb' g.body.length cb', .int .i64 g.count] 42)).heap[w.heap.size]? = some (.cells #[.string ⟨f.name.toArray⟩, .slice pp f.params.length cp, .int .i64 f.result, .slice pb f.body.length cb, .int .i64 f.count] 42 (0, 0))) := hide (by
    rw [Below.heap_alloc _ _ _ (by simp)]
    exact heap_alloc_new _ _)
  have HW : Hid (Below w.heap.size w ((w.alloc (.cells #[.string ⟨f.name.toArray⟩, .slice pp f.params.length cp, .int .i64 f.result, .slice pb f.body.length cb, .int .i64 f.count] 42)).alloc (.cells #[.string ⟨g.name.toArray⟩, .slice pp' g.params.length cp', .int .i64 g.result, .slice pb' g.body.length cb', .int .i64 g.count] 42))) := hide (((bl w).al _).al _)
  clear hB hq1 hq2 hq5 hq6 hw hps hr hw' hps' hr' hT
  cases q1
  · have HR := hide hR
    clear hR
    go_enter Tryz.func23, Tryz.ntmps23
    go_wp2_with fail
    (with_reducible refine (HF.out _ HW.out).mono ?_)
    rintro r w1 ⟨rfl, hb1⟩
    have HX := hide ((hb1.block _ (Array.getElem?_eq_some_iff.1 HX.out).1).trans HX.out)
    have HY := hide ((hb1.block _ (Array.getElem?_eq_some_iff.1 HY.out).1).trans HY.out)
    have HW := hide (HW.out.tr hb1)
    clear hb1
    go_wp2_with fail
    go_ret
    exact ⟨ret_bool (by have := HR.out; simpa using this), HW.out⟩
  cases q2
  · have HR := hide hR
    clear hR
    go_enter Tryz.func23, Tryz.ntmps23
    go_wp2_with fail
    (with_reducible refine (HF.out _ HW.out).mono ?_)
    rintro r w1 ⟨rfl, hb1⟩
    have HX := hide ((hb1.block _ (Array.getElem?_eq_some_iff.1 HX.out).1).trans HX.out)
    have HY := hide ((hb1.block _ (Array.getElem?_eq_some_iff.1 HY.out).1).trans HY.out)
    have HW := hide (HW.out.tr hb1)
    clear hb1
    have x0 := cell_at (j := 0) HX.out rfl
    have x1 := cell_at (j := 1) HX.out rfl
    have x2 := cell_at (j := 2) HX.out rfl
    have x3 := cell_at (j := 3) HX.out rfl
    have x4 := cell_at (j := 4) HX.out rfl
    have y0 := cell_at (j := 0) HY.out rfl
    have y1 := cell_at (j := 1) HY.out rfl
    have y2 := cell_at (j := 2) HY.out rfl
    have y3 := cell_at (j := 3) HY.out rfl
    have y4 := cell_at (j := 4) HY.out rfl
    have lx := (Array.getElem?_eq_some_iff.1 HX.out).1
    have ly := (Array.getElem?_eq_some_iff.1 HY.out).1
    go_wp2_with fail
    (with_reducible refine (HG.out _ HW.out).mono ?_)
    rintro r w2 ⟨rfl, hb1⟩
    clear x0 x1 x2 x3 x4 y0 y1 y2 y3 y4 lx ly
    have HX := hide ((hb1.block _ (Array.getElem?_eq_some_iff.1 HX.out).1).trans HX.out)
    have HY := hide ((hb1.block _ (Array.getElem?_eq_some_iff.1 HY.out).1).trans HY.out)
    have HW := hide (HW.out.tr hb1)
    clear hb1
    have x0 := cell_at (j := 0) HX.out rfl
    have x1 := cell_at (j := 1) HX.out rfl
    have x2 := cell_at (j := 2) HX.out rfl
    have x3 := cell_at (j := 3) HX.out rfl
    have x4 := cell_at (j := 4) HX.out rfl
    have y0 := cell_at (j := 0) HY.out rfl
    have y1 := cell_at (j := 1) HY.out rfl
    have y2 := cell_at (j := 2) HY.out rfl
    have y3 := cell_at (j := 3) HY.out rfl
    have y4 := cell_at (j := 4) HY.out rfl
    have lx := (Array.getElem?_eq_some_iff.1 HX.out).1
    have ly := (Array.getElem?_eq_some_iff.1 HY.out).1
    go_wp2_with fail
    go_ret
    exact ⟨ret_bool (by have := HR.out; simpa using this), HW.out⟩
  cases h3 : f.name == g.name
  · rw [h3] at hR
    have HR := hide hR
    clear hR
    go_enter Tryz.func23, Tryz.ntmps23
    go_wp2_with fail
    (with_reducible refine (HF.out _ HW.out).mono ?_)
    rintro r w1 ⟨rfl, hb1⟩
    have HX := hide ((hb1.block _ (Array.getElem?_eq_some_iff.1 HX.out).1).trans HX.out)
    have HY := hide ((hb1.block _ (Array.getElem?_eq_some_iff.1 HY.out).1).trans HY.out)
    have HW := hide (HW.out.tr hb1)
    clear hb1
    have x0 := cell_at (j := 0) HX.out rfl
    have x1 := cell_at (j := 1) HX.out rfl
    have x2 := cell_at (j := 2) HX.out rfl
    have x3 := cell_at (j := 3) HX.out rfl
    have x4 := cell_at (j := 4) HX.out rfl
    have y0 := cell_at (j := 0) HY.out rfl
    have y1 := cell_at (j := 1) HY.out rfl
    have y2 := cell_at (j := 2) HY.out rfl
    have y3 := cell_at (j := 3) HY.out rfl
    have y4 := cell_at (j := 4) HY.out rfl
    have lx := (Array.getElem?_eq_some_iff.1 HX.out).1
    have ly := (Array.getElem?_eq_some_iff.1 HY.out).1
    go_wp2_with fail
    (with_reducible refine (HG.out _ HW.out).mono ?_)
    rintro r w2 ⟨rfl, hb1⟩
    clear x0 x1 x2 x3 x4 y0 y1 y2 y3 y4 lx ly
    have HX := hide ((hb1.block _ (Array.getElem?_eq_some_iff.1 HX.out).1).trans HX.out)
    have HY := hide ((hb1.block _ (Array.getElem?_eq_some_iff.1 HY.out).1).trans HY.out)
    have HW := hide (HW.out.tr hb1)
    clear hb1
    have x0 := cell_at (j := 0) HX.out rfl
    have x1 := cell_at (j := 1) HX.out rfl
    have x2 := cell_at (j := 2) HX.out rfl
    have x3 := cell_at (j := 3) HX.out rfl
    have x4 := cell_at (j := 4) HX.out rfl
    have y0 := cell_at (j := 0) HY.out rfl
    have y1 := cell_at (j := 1) HY.out rfl
    have y2 := cell_at (j := 2) HY.out rfl
    have y3 := cell_at (j := 3) HY.out rfl
    have y4 := cell_at (j := 4) HY.out rfl
    have lx := (Array.getElem?_eq_some_iff.1 HX.out).1
    have ly := (Array.getElem?_eq_some_iff.1 HY.out).1
    go_wp2_with fail
    go_ret
    exact ⟨ret_bool (by have := HR.out; simpa using this), HW.out⟩
  cases h4 : f.result == g.result
  · rw [h3, h4] at hR
    have HR := hide hR
    clear hR
    go_enter Tryz.func23, Tryz.ntmps23
    go_wp2_with fail
    (with_reducible refine (HF.out _ HW.out).mono ?_)
    rintro r w1 ⟨rfl, hb1⟩
    have HX := hide ((hb1.block _ (Array.getElem?_eq_some_iff.1 HX.out).1).trans HX.out)
    have HY := hide ((hb1.block _ (Array.getElem?_eq_some_iff.1 HY.out).1).trans HY.out)
    have HW := hide (HW.out.tr hb1)
    clear hb1
    have x0 := cell_at (j := 0) HX.out rfl
    have x1 := cell_at (j := 1) HX.out rfl
    have x2 := cell_at (j := 2) HX.out rfl
    have x3 := cell_at (j := 3) HX.out rfl
    have x4 := cell_at (j := 4) HX.out rfl
    have y0 := cell_at (j := 0) HY.out rfl
    have y1 := cell_at (j := 1) HY.out rfl
    have y2 := cell_at (j := 2) HY.out rfl
    have y3 := cell_at (j := 3) HY.out rfl
    have y4 := cell_at (j := 4) HY.out rfl
    have lx := (Array.getElem?_eq_some_iff.1 HX.out).1
    have ly := (Array.getElem?_eq_some_iff.1 HY.out).1
    go_wp2_with fail
    (with_reducible refine (HG.out _ HW.out).mono ?_)
    rintro r w2 ⟨rfl, hb1⟩
    clear x0 x1 x2 x3 x4 y0 y1 y2 y3 y4 lx ly
    have HX := hide ((hb1.block _ (Array.getElem?_eq_some_iff.1 HX.out).1).trans HX.out)
    have HY := hide ((hb1.block _ (Array.getElem?_eq_some_iff.1 HY.out).1).trans HY.out)
    have HW := hide (HW.out.tr hb1)
    clear hb1
    have x0 := cell_at (j := 0) HX.out rfl
    have x1 := cell_at (j := 1) HX.out rfl
    have x2 := cell_at (j := 2) HX.out rfl
    have x3 := cell_at (j := 3) HX.out rfl
    have x4 := cell_at (j := 4) HX.out rfl
    have y0 := cell_at (j := 0) HY.out rfl
    have y1 := cell_at (j := 1) HY.out rfl
    have y2 := cell_at (j := 2) HY.out rfl
    have y3 := cell_at (j := 3) HY.out rfl
    have y4 := cell_at (j := 4) HY.out rfl
    have lx := (Array.getElem?_eq_some_iff.1 HX.out).1
    have ly := (Array.getElem?_eq_some_iff.1 HY.out).1
    go_wp2_with fail
    go_ret
    exact ⟨ret_bool (by have := HR.out; simpa using this), HW.out⟩
  rw [h3, h4] at hR
  have HR := hide hR
  clear hR
  cases q5
  · go_enter Tryz.func23, Tryz.ntmps23
    go_wp2_with fail
    (with_reducible refine (HF.out _ HW.out).mono ?_)
    rintro r w1 ⟨rfl, hb1⟩
    have HX := hide ((hb1.block _ (Array.getElem?_eq_some_iff.1 HX.out).1).trans HX.out)
    have HY := hide ((hb1.block _ (Array.getElem?_eq_some_iff.1 HY.out).1).trans HY.out)
    have HW := hide (HW.out.tr hb1)
    clear hb1
    have x0 := cell_at (j := 0) HX.out rfl
    have x1 := cell_at (j := 1) HX.out rfl
    have x2 := cell_at (j := 2) HX.out rfl
    have x3 := cell_at (j := 3) HX.out rfl
    have x4 := cell_at (j := 4) HX.out rfl
    have y0 := cell_at (j := 0) HY.out rfl
    have y1 := cell_at (j := 1) HY.out rfl
    have y2 := cell_at (j := 2) HY.out rfl
    have y3 := cell_at (j := 3) HY.out rfl
    have y4 := cell_at (j := 4) HY.out rfl
    have lx := (Array.getElem?_eq_some_iff.1 HX.out).1
    have ly := (Array.getElem?_eq_some_iff.1 HY.out).1
    go_wp2_with fail
    (with_reducible refine (HG.out _ HW.out).mono ?_)
    rintro r w2 ⟨rfl, hb1⟩
    clear x0 x1 x2 x3 x4 y0 y1 y2 y3 y4 lx ly
    have HX := hide ((hb1.block _ (Array.getElem?_eq_some_iff.1 HX.out).1).trans HX.out)
    have HY := hide ((hb1.block _ (Array.getElem?_eq_some_iff.1 HY.out).1).trans HY.out)
    have HW := hide (HW.out.tr hb1)
    clear hb1
    have x0 := cell_at (j := 0) HX.out rfl
    have x1 := cell_at (j := 1) HX.out rfl
    have x2 := cell_at (j := 2) HX.out rfl
    have x3 := cell_at (j := 3) HX.out rfl
    have x4 := cell_at (j := 4) HX.out rfl
    have y0 := cell_at (j := 0) HY.out rfl
    have y1 := cell_at (j := 1) HY.out rfl
    have y2 := cell_at (j := 2) HY.out rfl
    have y3 := cell_at (j := 3) HY.out rfl
    have y4 := cell_at (j := 4) HY.out rfl
    have lx := (Array.getElem?_eq_some_iff.1 HX.out).1
    have ly := (Array.getElem?_eq_some_iff.1 HY.out).1
    go_wp2_with fail
    (with_reducible refine (HP.out _ HW.out).mono ?_)
    rintro r w3 ⟨rfl, hb1⟩
    clear x0 x1 x2 x3 x4 y0 y1 y2 y3 y4 lx ly
    have HX := hide ((hb1.block _ (Array.getElem?_eq_some_iff.1 HX.out).1).trans HX.out)
    have HY := hide ((hb1.block _ (Array.getElem?_eq_some_iff.1 HY.out).1).trans HY.out)
    have HW := hide (HW.out.tr hb1)
    clear hb1
    have x0 := cell_at (j := 0) HX.out rfl
    have x1 := cell_at (j := 1) HX.out rfl
    have x2 := cell_at (j := 2) HX.out rfl
    have x3 := cell_at (j := 3) HX.out rfl
    have x4 := cell_at (j := 4) HX.out rfl
    have y0 := cell_at (j := 0) HY.out rfl
    have y1 := cell_at (j := 1) HY.out rfl
    have y2 := cell_at (j := 2) HY.out rfl
    have y3 := cell_at (j := 3) HY.out rfl
    have y4 := cell_at (j := 4) HY.out rfl
    have lx := (Array.getElem?_eq_some_iff.1 HX.out).1
    have ly := (Array.getElem?_eq_some_iff.1 HY.out).1
    go_wp2_with fail
    go_ret
    exact ⟨ret_bool (by have := HR.out; simpa using this), HW.out⟩
  go_enter Tryz.func23, Tryz.ntmps23
  go_wp2_with fail
  (with_reducible refine (HF.out _ HW.out).mono ?_)
  rintro r w1 ⟨rfl, hb1⟩
  have HX := hide ((hb1.block _ (Array.getElem?_eq_some_iff.1 HX.out).1).trans HX.out)
  have HY := hide ((hb1.block _ (Array.getElem?_eq_some_iff.1 HY.out).1).trans HY.out)
  have HW := hide (HW.out.tr hb1)
  clear hb1
  have x0 := cell_at (j := 0) HX.out rfl
  have x1 := cell_at (j := 1) HX.out rfl
  have x2 := cell_at (j := 2) HX.out rfl
  have x3 := cell_at (j := 3) HX.out rfl
  have x4 := cell_at (j := 4) HX.out rfl
  have y0 := cell_at (j := 0) HY.out rfl
  have y1 := cell_at (j := 1) HY.out rfl
  have y2 := cell_at (j := 2) HY.out rfl
  have y3 := cell_at (j := 3) HY.out rfl
  have y4 := cell_at (j := 4) HY.out rfl
  have lx := (Array.getElem?_eq_some_iff.1 HX.out).1
  have ly := (Array.getElem?_eq_some_iff.1 HY.out).1
  go_wp2_with fail
  (with_reducible refine (HG.out _ HW.out).mono ?_)
  rintro r w2 ⟨rfl, hb1⟩
  clear x0 x1 x2 x3 x4 y0 y1 y2 y3 y4 lx ly
  have HX := hide ((hb1.block _ (Array.getElem?_eq_some_iff.1 HX.out).1).trans HX.out)
  have HY := hide ((hb1.block _ (Array.getElem?_eq_some_iff.1 HY.out).1).trans HY.out)
  have HW := hide (HW.out.tr hb1)
  clear hb1
  have x0 := cell_at (j := 0) HX.out rfl
  have x1 := cell_at (j := 1) HX.out rfl
  have x2 := cell_at (j := 2) HX.out rfl
  have x3 := cell_at (j := 3) HX.out rfl
  have x4 := cell_at (j := 4) HX.out rfl
  have y0 := cell_at (j := 0) HY.out rfl
  have y1 := cell_at (j := 1) HY.out rfl
  have y2 := cell_at (j := 2) HY.out rfl
  have y3 := cell_at (j := 3) HY.out rfl
  have y4 := cell_at (j := 4) HY.out rfl
  have lx := (Array.getElem?_eq_some_iff.1 HX.out).1
  have ly := (Array.getElem?_eq_some_iff.1 HY.out).1
  go_wp2_with fail
  (with_reducible refine (HP.out _ HW.out).mono ?_)
  rintro r w3 ⟨rfl, hb1⟩
  clear x0 x1 x2 x3 x4 y0 y1 y2 y3 y4 lx ly
  have HX := hide ((hb1.block _ (Array.getElem?_eq_some_iff.1 HX.out).1).trans HX.out)
  have HY := hide ((hb1.block _ (Array.getElem?_eq_some_iff.1 HY.out).1).trans HY.out)
  have HW := hide (HW.out.tr hb1)
  clear hb1
  have x0 := cell_at (j := 0) HX.out rfl
  have x1 := cell_at (j := 1) HX.out rfl
  have x2 := cell_at (j := 2) HX.out rfl
  have x3 := cell_at (j := 3) HX.out rfl
  have x4 := cell_at (j := 4) HX.out rfl
  have y0 := cell_at (j := 0) HY.out rfl
  have y1 := cell_at (j := 1) HY.out rfl
  have y2 := cell_at (j := 2) HY.out rfl
  have y3 := cell_at (j := 3) HY.out rfl
  have y4 := cell_at (j := 4) HY.out rfl
  have lx := (Array.getElem?_eq_some_iff.1 HX.out).1
  have ly := (Array.getElem?_eq_some_iff.1 HY.out).1
  go_wp2_with fail
  refine (same_sts_any _ _ _ (HB.out _ HW.out) _ _ _ rfl).mono ?_
  rintro r w4 ⟨rfl, hb1⟩
  clear x0 x1 x2 x3 x4 y0 y1 y2 y3 y4 lx ly
  have HX := hide ((hb1.block _ (Array.getElem?_eq_some_iff.1 HX.out).1).trans HX.out)
  have HY := hide ((hb1.block _ (Array.getElem?_eq_some_iff.1 HY.out).1).trans HY.out)
  have HW := hide (HW.out.tr hb1)
  clear hb1
  go_wp2_with fail
  go_ret
  exact ⟨ret_bool (by have := HR.out; simpa using this), HW.out⟩
set_option maxHeartbeats 4000000 in
theorem equalFunc_fns (l m : List Fn) (p : Fn → Fn → Bool) (a a' : Option Addr) (cap cap' g : Nat) (caps : Array Value) (eg : ∀ args w, (callFunc g args).run Tryz.prog w = .ok (.enter g args) w) (w : World) (hl : Fns w l a cap) (hm : Fns w m a' cap')
    (hp : ∀ (i : Nat) (h : i < l.length) (h' : i < m.length) (v u : Value) (W : World), Below w.heap.size w W → Fn.Val W l[i] v → Fn.Val W m[i] u → Calls Tryz.prog g (#[v, u] ++ caps) W fun e w' => e = .returned (.bool (p l[i] m[i])) ∧ Below W.heap.size W w') :
    Calls Tryz.prog 82 #[.slice a l.length cap, .slice a' m.length cap', .func (.func g) #[] caps] w fun e w' => e = .returned (.bool (eqL p l m)) ∧ Below w.heap.size w w' := by
  have hll : l.length ≤ 9223372036854775807 := Nat.le_trans hl.len hl.cap
  have hml : m.length ≤ 9223372036854775807 := Nat.le_trans hm.len hm.cap
  have HL := hide hl
  have HM := hide hm
  have HP := hide hp
  clear hl hm hp
  by_cases hlen : ¬ (l.length : Int) = (m.length : Int)
  · have hlen2 : ((l.length : Int) != (m.length : Int)) = true := by simpa using hlen
    have HE := hide (eqL_len (p := p) (l := l) (m := m) (by omega))
    clear hlen
    go_enter Tryz.func82, Tryz.ntmps82
    go_wp2_with fail
    go_ret
    exact ⟨ret_bool HE.out.symm, bl _⟩
  have hlen2 : ((l.length : Int) != (m.length : Int)) = false := by simpa using hlen
  have hlm : Hid (l.length = m.length) := hide (by omega)
  clear hlen
  go_enter Tryz.func82, Tryz.ntmps82
  go_wp2_with fail
  go_loopw [7, 17] (fun _ i wr => ∃ k : Nat, k ≤ l.length ∧ i = .int .i64 k ∧ Hid (∀ (i : Nat) (h : i < l.length) (h' : i < m.length), i < k → p l[i] m[i] = true) ∧ Below w.heap.size w wr) (fun _ i _ => l.length - (intOf i).toNat)
  case atStart => exact ⟨0, Nat.zero_le _, rfl, fun i _ _ h => absurd h (Nat.not_lt_zero _), bl _⟩
  case round =>
    obtain ⟨k, hk, rfl, hall, hb⟩ := hrel
    by_cases hlt : k < l.length
    · have hlt' : k < m.length := by have := hlm.out; omega
      obtain ⟨b, o, rfl⟩ := HL.out.addr (by omega)
      obtain ⟨b', o', rfl⟩ := HM.out.addr (by omega)
      obtain ⟨pp, pb, cp, cb, c0, c1, c2, c3, c4, hfw, hps, hrow⟩ := (HL.out.at_ b o rfl k hlt).has (has_below hb)
      obtain ⟨pp', pb', cp', cb', d0, d1, d2, d3, d4, hfw', hps', hrow'⟩ := (HM.out.at_ b' o' rfl k hlt').has (has_below hb)
      have h1 := hide fun (W : World) (hW : Below wr.heap.size wr W) => HP.out k hlt hlt' _ _ W (hb.tr hW) (⟨pp, pb, cp, cb, rfl, hfw, hps.has (has_below hW), hrow.has (has_below hW)⟩ : Fn.Val W l[k] _) (⟨pp', pb', cp', cb', rfl, hfw', hps'.has (has_below hW), hrow'.has (has_below hW)⟩ : Fn.Val W m[k] _)
      clear hfw hps hrow hfw' hps' hrow'
      have hl1 := cell_lt c0
      have hl2 := cell_lt d0
      simp only at hl1 hl2
      cases hq : p l[k] m[k]
      all_goals
        rw [hq] at h1
        have HQ := hide hq
        clear hq
      · have HE := hide (eqL_no (p := p) k hlt hlt' HQ.out)
        go_wp2_with (go_at_fn g; refine (h1.out _ (((bl wr).al _).al _)).mono ?_; rintro e w1 ⟨rfl, hb1⟩)
        go_ret
        exact ⟨ret_bool HE.out.symm, ((hb.al _).al _).tr hb1⟩
      · go_wp2_with (go_at_fn g; refine (h1.out _ (((bl wr).al _).al _)).mono ?_; rintro e w1 ⟨rfl, hb1⟩)
        go_roundw
        case rel =>
          refine ⟨k + 1, by omega, by go_num, ?_, ((hb.al _).al _).tr hb1⟩
          intro i hi hi' hik
          by_cases e : i = k
          · subst e; exact HQ.out
          · exact hall i hi hi' (by omega)
        case measure => simp [intOf]; omega
    · obtain rfl : k = l.length := by omega
      have HE := hide (eqL_yes (p := p) hlm.out (fun i h h' => hall i h h' h))
      go_wp2_with fail
      go_ret
      exact ⟨ret_bool HE.out.symm, hb⟩
theorem same_fns_any (args : Array Value) (q : Bool) (w : World) (h : Calls Tryz.prog 82 args w fun e w' => e = .returned (.bool q) ∧ Below w.heap.size w w') :
    ∀ (a b c : Value), args = #[a, b, c] → Calls Tryz.prog 52 #[a, b, c] w fun e w' => e = .returned (.bool q) ∧ Below w.heap.size w w' := by
  rintro a b c rfl
  have H := hide h
  clear h
  go_enter Tryz.func52, Tryz.ntmps52
  go_wp2_with fail
  refine H.out.mono ?_
  rintro r w1 ⟨rfl, hb⟩
  go_wp2_with fail
  go_ret
  exact ⟨rfl, hb⟩
set_option maxRecDepth 20000 in
set_option maxHeartbeats 8000000 in
theorem same_any (l m : List Fn) (a a' : Option Addr) (cap cap' : Nat) (w : World) (hl : Fns w l a cap) (hm : Fns w m a' cap') (hT : Tab w) :
    Calls Tryz.prog 21 #[.agg #[.slice a l.length cap], .agg #[.slice a' m.length cap']] w fun r w' => r = .returned (.bool (sameM l m)) ∧ Below w.heap.size w w' := by
  have hll : l.length ≤ 9223372036854775807 := Nat.le_trans hl.len hl.cap
  have hml : m.length ≤ 9223372036854775807 := Nat.le_trans hm.len hm.cap
  have HF := hide fun (W : World) (hW : Below w.heap.size w W) => check_any l a cap W (hl.keep hW (Nat.le_refl _)) (hT.below hW)
  have HG := hide fun (W : World) (hW : Below w.heap.size w W) => check_any m a' cap' W (hm.keep hW (Nat.le_refl _)) (hT.below hW)
  have hB := fun (W : World) (hW : Below w.heap.size w W) => equalFunc_fns l m eqF a a' cap cap' 23 #[] (fun _ _ => by kernel_rfl) W (hl.keep hW (Nat.le_refl _)) (hm.keep hW (Nat.le_refl _))
    (fun i h h' v u W' hW' hv hu => by
      have := sameFunc_any l[i] m[i] v u W' hv hu (hT.below (hW.tr hW'))
      exact this)
  simp only [← eqL_fs] at hB
  have HB := hide hB
  obtain ⟨R, hR⟩ : ∃ R, sameM l m = R := ⟨_, rfl⟩
  rw [hR]
  unfold sameM at hR
  obtain ⟨c1, hc1⟩ : ∃ c, checkM l = c := ⟨_, rfl⟩
  obtain ⟨c2, hc2⟩ : ∃ c, checkM m = c := ⟨_, rfl⟩
  obtain ⟨q6, hq6⟩ : ∃ q, eqFs l m = q := ⟨_, rfl⟩
  rw [hc1, hc2, hq6] at hR
  rw [hc1] at HF
  rw [hc2] at HG
  rw [hq6] at HB
  have HY : Hid (((w.alloc (.cells #[.slice a l.length cap] 38)).alloc (.cells #[.slice a' m.length cap'] 38)).heap[w.heap.size + 1]? = some (.cells #[.slice a' m.length cap'] 38 (0, 0))) := hide (by
    rw [show w.heap.size + 1 = (w.alloc (.cells #[.slice a l.length cap] 38)).heap.size by simp]
    exact heap_alloc_new _ _)
  have HX : Hid (((w.alloc (.cells #[.slice a l.length cap] 38)).alloc (.cells #[.slice a' m.length cap'] 38)).heap[w.heap.size]? = some (.cells #[.slice a l.length cap] 38 (0, 0))) := hide (by
    rw [Below.heap_alloc _ _ _ (by simp)]
    exact heap_alloc_new _ _)
  have HW : Hid (Below w.heap.size w ((w.alloc (.cells #[.slice a l.length cap] 38)).alloc (.cells #[.slice a' m.length cap'] 38))) := hide (((bl w).al _).al _)
  clear hB hc1 hc2 hq6 hl hm hT
  cases h1 : c1 == 0
  · rw [h1] at hR
    have HR := hide hR
    clear hR
    go_enter Tryz.func21, Tryz.ntmps21
    go_wp2_with fail
    (with_reducible refine (HF.out _ HW.out).mono ?_)
    rintro r w1 ⟨rfl, hb1⟩
    have HX := hide ((hb1.block _ (Array.getElem?_eq_some_iff.1 HX.out).1).trans HX.out)
    have HY := hide ((hb1.block _ (Array.getElem?_eq_some_iff.1 HY.out).1).trans HY.out)
    have HW := hide (HW.out.tr hb1)
    clear hb1
    go_wp2_with fail
    go_ret
    exact ⟨ret_bool (by have := HR.out; simpa using this), HW.out⟩
  cases h2 : c2 == 0
  · rw [h1, h2] at hR
    have HR := hide hR
    clear hR
    go_enter Tryz.func21, Tryz.ntmps21
    go_wp2_with fail
    (with_reducible refine (HF.out _ HW.out).mono ?_)
    rintro r w1 ⟨rfl, hb1⟩
    have HX := hide ((hb1.block _ (Array.getElem?_eq_some_iff.1 HX.out).1).trans HX.out)
    have HY := hide ((hb1.block _ (Array.getElem?_eq_some_iff.1 HY.out).1).trans HY.out)
    have HW := hide (HW.out.tr hb1)
    clear hb1
    have x0 := cell_at (j := 0) HX.out rfl
    have y0 := cell_at (j := 0) HY.out rfl
    have lx := (Array.getElem?_eq_some_iff.1 HX.out).1
    have ly := (Array.getElem?_eq_some_iff.1 HY.out).1
    go_wp2_with fail
    (with_reducible refine (HG.out _ HW.out).mono ?_)
    rintro r w2 ⟨rfl, hb1⟩
    clear x0 y0 lx ly
    have HX := hide ((hb1.block _ (Array.getElem?_eq_some_iff.1 HX.out).1).trans HX.out)
    have HY := hide ((hb1.block _ (Array.getElem?_eq_some_iff.1 HY.out).1).trans HY.out)
    have HW := hide (HW.out.tr hb1)
    clear hb1
    have x0 := cell_at (j := 0) HX.out rfl
    have y0 := cell_at (j := 0) HY.out rfl
    have lx := (Array.getElem?_eq_some_iff.1 HX.out).1
    have ly := (Array.getElem?_eq_some_iff.1 HY.out).1
    go_wp2_with fail
    go_ret
    exact ⟨ret_bool (by have := HR.out; simpa using this), HW.out⟩
  rw [h1, h2] at hR
  have HR := hide hR
  clear hR
  go_enter Tryz.func21, Tryz.ntmps21
  go_wp2_with fail
  (with_reducible refine (HF.out _ HW.out).mono ?_)
  rintro r w1 ⟨rfl, hb1⟩
  have HX := hide ((hb1.block _ (Array.getElem?_eq_some_iff.1 HX.out).1).trans HX.out)
  have HY := hide ((hb1.block _ (Array.getElem?_eq_some_iff.1 HY.out).1).trans HY.out)
  have HW := hide (HW.out.tr hb1)
  clear hb1
  have x0 := cell_at (j := 0) HX.out rfl
  have y0 := cell_at (j := 0) HY.out rfl
  have lx := (Array.getElem?_eq_some_iff.1 HX.out).1
  have ly := (Array.getElem?_eq_some_iff.1 HY.out).1
  go_wp2_with fail
  (with_reducible refine (HG.out _ HW.out).mono ?_)
  rintro r w2 ⟨rfl, hb1⟩
  clear x0 y0 lx ly
  have HX := hide ((hb1.block _ (Array.getElem?_eq_some_iff.1 HX.out).1).trans HX.out)
  have HY := hide ((hb1.block _ (Array.getElem?_eq_some_iff.1 HY.out).1).trans HY.out)
  have HW := hide (HW.out.tr hb1)
  clear hb1
  have x0 := cell_at (j := 0) HX.out rfl
  have y0 := cell_at (j := 0) HY.out rfl
  have lx := (Array.getElem?_eq_some_iff.1 HX.out).1
  have ly := (Array.getElem?_eq_some_iff.1 HY.out).1
  go_wp2_with fail
  refine (same_fns_any _ _ _ (HB.out _ HW.out) _ _ _ rfl).mono ?_
  rintro r w4 ⟨rfl, hb1⟩
  clear x0 y0 lx ly
  have HX := hide ((hb1.block _ (Array.getElem?_eq_some_iff.1 HX.out).1).trans HX.out)
  have HY := hide ((hb1.block _ (Array.getElem?_eq_some_iff.1 HY.out).1).trans HY.out)
  have HW := hide (HW.out.tr hb1)
  clear hb1
  go_wp2_with fail
  go_ret
  exact ⟨ret_bool (by have := HR.out; simpa using this), HW.out⟩
end Go.Proofs.YthpmecbekpmijaaGreatDoor
/- Being equal is an equivalence; programs that differ in one statement are different: the plain laws. -/
namespace Go.Proofs.YthpmecbekpmijaaGreatDoor
open Go Go.RowKit
set_option linter.unusedSimpArgs false
set_option linter.unusedVariables false
set_option linter.unnecessarySimpa false
theorem checkM_zero {l : List Fn} : checkM l = 0 ↔ l.length ≤ 20 ∧ ∀ f ∈ l, fnOk f = true ∧ fnNums f = true := by
  unfold checkM
  split
  · rename_i h
    exact ⟨fun _ => h, fun _ => rfl⟩
  · rename_i h
    exact ⟨fun h2 => absurd h2 (by decide), fun h2 => absurd h2 h⟩
theorem eqF_iff {f g : Fn} : eqF f g = true ↔ fnOk f = true ∧ fnOk g = true ∧ f.name = g.name ∧ f.result = g.result ∧ f.params = g.params ∧ eqSs f.body g.body = true := by
  simp only [eqF, Bool.and_eq_true, beq_iff_eq, decide_eq_true_eq, and_assoc]
theorem eqF_refl {f : Fn} (h : fnOk f = true) : eqF f f = true := eqF_iff.2 ⟨h, h, rfl, rfl, rfl, eqSs_refl _⟩
theorem eqF_symm (f g : Fn) : eqF f g = eqF g f := by
  rw [Bool.eq_iff_iff, eqF_iff, eqF_iff, eqSs_symm f.body g.body]
  exact ⟨fun ⟨a, b, c, d, e, h⟩ => ⟨b, a, c.symm, d.symm, e.symm, h⟩, fun ⟨a, b, c, d, e, h⟩ => ⟨b, a, c.symm, d.symm, e.symm, h⟩⟩
theorem eqF_trans {f g h : Fn} (a : eqF f g = true) (b : eqF g h = true) : eqF f h = true := by
  rw [eqF_iff] at *
  exact ⟨a.1, b.2.1, a.2.2.1.trans b.2.2.1, a.2.2.2.1.trans b.2.2.2.1, a.2.2.2.2.1.trans b.2.2.2.2.1, eqSs_trans a.2.2.2.2.2 b.2.2.2.2.2⟩
theorem eqFs_refl : ∀ {l : List Fn}, (∀ f ∈ l, fnOk f = true) → eqFs l l = true
  | [], _ => rfl
  | f :: l, h => by rw [eqFs, eqF_refl (h f (by simp)), eqFs_refl fun g hg => h g (by simp [hg])]; rfl
theorem eqFs_symm : ∀ (l m : List Fn), eqFs l m = eqFs m l
  | [], [] => rfl
  | a :: l, b :: m => by rw [eqFs, eqFs, eqF_symm a b, eqFs_symm l m]
  | [], _ :: _ => rfl
  | _ :: _, [] => rfl
theorem eqFs_trans : ∀ {l m n : List Fn}, eqFs l m = true → eqFs m n = true → eqFs l n = true
  | [], [], [], _, _ => rfl
  | a :: l, b :: m, c :: n, h, k => by
    simp only [eqFs, Bool.and_eq_true] at *
    exact ⟨eqF_trans h.1 k.1, eqFs_trans h.2 k.2⟩
  | [], _ :: _, _, h, _ => by cases h
  | _ :: _, [], _, h, _ => by cases h
  | [], [], _ :: _, _, k => by cases k
  | _ :: _, _ :: _, [], _, k => by cases k
theorem sameM_refl {l : List Fn} (h : checkM l = 0) : sameM l l = true := by
  have := eqFs_refl fun f hf => ((checkM_zero.1 h).2 f hf).1
  simp [sameM, h, this]
theorem sameM_symm (l m : List Fn) : sameM l m = sameM m l := by
  unfold sameM
  rw [eqFs_symm l m, Bool.and_comm (checkM l == 0)]
theorem sameM_trans {l m n : List Fn} (h : sameM l m = true) (k : sameM m n = true) : sameM l n = true := by
  simp only [sameM, Bool.and_eq_true] at *
  exact ⟨⟨h.1.1, k.1.2⟩, eqFs_trans h.2 k.2⟩
theorem made_check (D : List Nat) : checkM (madeD D) = 0 := by
  obtain ⟨_, h2, h3⟩ := madeD_ok D
  exact checkM_zero.2 ⟨by omega, fun f hf => ⟨(h3 f hf).1, (h3 f hf).2.1⟩⟩
/-- A program with right numbers is the one that Number returns. -/
theorem number_id {l : List Fn} (h : checkM l = 0) : numberM l = l := by
  obtain ⟨h1, h2⟩ := checkM_zero.1 h
  unfold numberM
  rw [if_pos ⟨h1, fun f hf => (h2 f hf).1⟩]
  conv => rhs; rw [← List.map_id l]
  exact List.map_congr_left fun f hf => numFn_nums (h2 f hf).2
theorem eqF_body {f g : Fn} (h : f.body.length ≠ g.body.length) : eqF f g = false := by
  rw [Bool.eq_false_iff]
  intro h2
  have := (eqF_iff.1 h2).2.2.2.2.2
  rw [eqSs_len h] at this
  cases this
/-- Without the first statement of one function it is another program. -/
theorem same_cut {l : List Fn} {j : Nat} (hj : j < l.length) {g : Fn} (hg : g.body.length ≠ l[j].body.length) : sameM l (numberM (l.set j g)) = false := by
  have key : eqFs l (numberM (l.set j g)) = false := by
    unfold numberM
    split
    · by_cases hl : l.length = ((l.set j g).map numFn).length
      · rw [Bool.eq_false_iff]
        intro h
        have := (eqFs_all l _ hl).1 h j hj (by simpa using hj)
        rw [eqF_body (by simp [numFn, renL_len]; exact fun e => hg e.symm)] at this
        cases this
      · exact eqFs_len hl
    · exact eqFs_len (by simp; intro e; rw [e] at hj; exact absurd hj (Nat.not_lt_zero _))
  simp [sameM, key]
end Go.Proofs.YthpmecbekpmijaaGreatDoor
/- Programs whose functions lie in a row of the call's own, and may be changed there; contracts in the words that the statements need. -/
namespace Go.Proofs.YthpmecbekpmijaaGreatDoor
open Go Go.RowKit
set_option linter.unusedSimpArgs false
set_option linter.unusedVariables false
set_option linter.unnecessarySimpa false
/-- The functions lie in block g; what hangs on them lies elsewhere. -/
def PrgAt (W : World) (l : List Fn) (g : Nat) : Prop :=
  (∃ C t, W.heap[g]? = some (.cells C t (0, 0))) ∧ ∀ (i : Nat) (h : i < l.length), ∃ c, FnC (av [g] W) l[i] c ∧ ∀ j u, c[j]? = some u → W.cell? ⟨g, i * 5 + j, none⟩ = some u
theorem PrgAt.lt {W : World} {l : List Fn} {g : Nat} (h : PrgAt W l g) : g < W.heap.size := by
  obtain ⟨⟨C, t, h1⟩, _⟩ := h
  exact (Array.getElem?_eq_some_iff.1 h1).1
theorem PrgAt.free {W : World} {l : List Fn} {g : Nat} (h : PrgAt W l g) (j : Nat) : W.frozen? ⟨g, j, none⟩ = false := by
  obtain ⟨⟨C, t, h1⟩, _⟩ := h
  exact free_at h1
theorem PrgAt.of {W : World} {base : Nat} {ban : List Nat} {l : List Fn} {g n cap : Nat} (h : OwnL W base 42 5 FnC ban (.slice (some ⟨g, 0, none⟩) n cap) l) : PrgAt W l g := by
  refine ⟨?_, fun i hi => ?_⟩
  · rcases h.block with ⟨h1, _⟩ | ⟨g', cap', C, hv, _, _, hC, _⟩
    · cases h1
    · simp only [Value.slice.injEq, Option.some.injEq, Addr.mk.injEq, and_true] at hv
      obtain ⟨rfl, _⟩ := hv
      exact ⟨C, _, hC⟩
  · obtain ⟨_, _, c, _, h2, _, h4⟩ := h.get FnC.mono rfl i hi
    exact ⟨c, FnC.mono _ _ _ _ (has_sub (by simp)) h2, h4⟩
theorem PrgAt.kept {W W' : World} {l : List Fn} {g : Nat} {m : List Nat} (h : PrgAt W l g) (hk : Kept m W W') (hm : g ∉ m) (hh : Has (av [g] W) (av [g] W')) : PrgAt W' l g := by
  obtain ⟨⟨C, t, h1⟩, h2⟩ := h
  refine ⟨⟨C, t, hk.heap hm h1⟩, fun i hi => ?_⟩
  obtain ⟨c, h3, h4⟩ := h2 i hi
  exact ⟨c, FnC.mono _ _ _ _ hh h3, fun j u hu => hk.cell hm (h4 j u hu)⟩
theorem PrgAt.below {W W' : World} {l : List Fn} {g : Nat} (h : PrgAt W l g) (hb : Below W.heap.size W W') : PrgAt W' l g := h.kept (m := []) (kept_below hb) (by simp) (has_av_below hb)
/-- The five cells of a function, and what hangs on it. -/
theorem PrgAt.cells {W : World} {l : List Fn} {g : Nat} (h : PrgAt W l g) (i : Nat) (hi : i < l.length) : ∃ (pp pb : Option Addr) (cp cb : Nat),
    W.cell? ⟨g, i * 5, none⟩ = some (.string ⟨l[i].name.toArray⟩) ∧ W.cell? ⟨g, i * 5 + 1, none⟩ = some (.slice pp l[i].params.length cp) ∧ W.cell? ⟨g, i * 5 + 2, none⟩ = some (.int .i64 l[i].result) ∧
    W.cell? ⟨g, i * 5 + 3, none⟩ = some (.slice pb l[i].body.length cb) ∧ W.cell? ⟨g, i * 5 + 4, none⟩ = some (.int .i64 l[i].count) ∧ FnWf l[i] cb ∧ Pms (av [g] W) l[i].params pp cp ∧ St.Row (av [g] W) l[i].body pb := by
  obtain ⟨c, ⟨pp, pb, cp, cb, rfl, h1, h2, h3⟩, h4⟩ := h.2 i hi
  exact ⟨pp, pb, cp, cb, h4 0 _ rfl, h4 1 _ rfl, h4 2 _ rfl, h4 3 _ rfl, h4 4 _ rfl, h1, h2, h3⟩
theorem PrgAt.fns {W : World} {l : List Fn} {g cap : Nat} (h : PrgAt W l g) (h1 : l.length ≤ cap) (h2 : cap ≤ maxLen) : Fns W l (some ⟨g, 0, none⟩) cap := by
  refine ⟨h1, h2, fun _ => ⟨_, _, rfl⟩, fun b o e i hi => ?_⟩
  simp only [Option.some.injEq, Addr.mk.injEq, and_true] at e
  obtain ⟨rfl, rfl⟩ := e
  obtain ⟨pp, pb, cp, cb, c0, c1, c2, c3, c4, hw, hp, hr⟩ := h.cells i hi
  rw [Nat.zero_add]
  exact ⟨pp, pb, cp, cb, c0, c1, c2, c3, c4, hw, hp.has has_av, hr.has has_av⟩
/-- One function is changed. -/
theorem PrgAt.store {W W' : World} {l : List Fn} {g : Nat} (h : PrgAt W l g) (hk : Kept [g] W W') (i : Nat) (f : Fn) (c : List Value) (hc : FnC (av [g] W) f c) (hcell : ∀ j u, c[j]? = some u → W'.cell? ⟨g, i * 5 + j, none⟩ = some u)
    (ho : ∀ k u, (k < i * 5 ∨ i * 5 + 5 ≤ k) → W.cell? ⟨g, k, none⟩ = some u → W'.cell? ⟨g, k, none⟩ = some u) (hb : ∃ C t, W'.heap[g]? = some (.cells C t (0, 0))) : PrgAt W' (l.set i f) g := by
  refine ⟨hb, fun k hk2 => ?_⟩
  have hkl : k < l.length := by simpa using hk2
  by_cases e : k = i
  · subst e
    rw [List.getElem_set_self]
    exact ⟨c, FnC.mono _ _ _ _ (has_kept hk) hc, hcell⟩
  · rw [List.getElem_set_ne (by omega)]
    obtain ⟨d, h1, h2⟩ := h.2 k hkl
    refine ⟨d, FnC.mono _ _ _ _ (has_kept hk) h1, fun j u hu => ho _ _ ?_ (h2 j u hu)⟩
    have hj : j < 5 := by
      obtain ⟨_, _, _, _, rfl, _⟩ := h1
      have := (List.getElem?_eq_some_iff.1 hu).1
      simpa using this
    omega
theorem heap_newS {X : World} {g : Nat} {C : Array Value} {t : TypeId} (h : g = X.heap.size) : (X.alloc (.cells C t)).heap[g]? = some (.cells C t (0, 0)) := by
  subst h
  exact heap_alloc_new _ _
theorem heap_setC {W : World} {g i : Nat} {v : Value} (h : ∃ C t, W.heap[g]? = some (.cells C t (0, 0))) : ∃ C t, (W.setCell ⟨g, i, none⟩ v).heap[g]? = some (.cells C t (0, 0)) := by
  obtain ⟨C, t, h⟩ := h
  exact ⟨_, t, heap_set h v⟩
/-- One cell of one function is changed. -/
theorem PrgAt.store1 {W : World} {l : List Fn} {g : Nat} (h : PrgAt W l g) (i : Nat) (hi : i < l.length) (f : Fn) (j0 : Nat) (v : Value) (hj : j0 < 5) (c : List Value)
    (hold : ∀ j u, c[j]? = some u → W.cell? ⟨g, i * 5 + j, none⟩ = some u) (hl : c.length = 5) (hc : FnC (av [g] W) f (c.set j0 v)) : PrgAt (W.setCell ⟨g, i * 5 + j0, none⟩ v) (l.set i f) g := by
  refine h.store ((Kept.refl [g] W).set (.inl (by simp)) _ _) i f _ hc (fun j u hu => ?_) (fun k u hk hu => set_other hu (by omega)) (heap_setC h.1)
  by_cases e : j = j0
  · subst e
    rw [List.getElem?_set_self (by omega)] at hu
    simp only [Option.some.injEq] at hu
    subst hu
    obtain ⟨u0, hu0⟩ : ∃ u0, c[j]? = some u0 := ⟨c[j]'(by omega), List.getElem?_eq_getElem _⟩
    exact set_same (hold j u0 hu0)
  · rw [List.getElem?_set_ne (by omega)] at hu
    exact set_other (hold j u hu) (by omega)
theorem row_tail {w : World} {l : List St} {b o : Nat} (h : St.Row w l (some ⟨b, o, none⟩)) : St.Row w (l.drop 1) (some ⟨b, o + 8, none⟩) := by
  cases l with
  | nil => simp only [List.drop_nil, St.Row]
  | cons s ss =>
    simp only [St.Row] at h
    obtain ⟨b', o', ha, _, hr⟩ := h
    simp only [Option.some.injEq, Addr.mk.injEq, and_true] at ha
    obtain ⟨rfl, rfl⟩ := ha
    exact hr
/-- The first statement of one function is left out. -/
theorem cut_store {W : World} {l : List Fn} {g j n o' c' : Nat} (h : PrgAt W l g) (hj : j < l.length) {pp : Option Addr} {b o cp cb : Nat} (h0 : W.cell? ⟨g, j * 5, none⟩ = some (.string ⟨l[j].name.toArray⟩)) (h1 : W.cell? ⟨g, j * 5 + 1, none⟩ = some (.slice pp l[j].params.length cp)) (h2 : W.cell? ⟨g, j * 5 + 2, none⟩ = some (.int .i64 l[j].result))
    (h3 : W.cell? ⟨g, j * 5 + 3, none⟩ = some (.slice (some ⟨b, o, none⟩) l[j].body.length cb)) (h4 : W.cell? ⟨g, j * 5 + 4, none⟩ = some (.int .i64 l[j].count)) (hfw : FnWf l[j] cb) (hps : Pms (av [g] W) l[j].params pp cp) (hr : St.Row (av [g] W) (l[j].body.drop 1) (some ⟨b, o', none⟩)) (hn : n = (l[j].body.drop 1).length) (hc1 : n ≤ c') (hc2 : c' ≤ maxLen) :
    PrgAt (W.setCell ⟨g, j * 5 + 3, none⟩ (.slice (some ⟨b, o', none⟩) n c')) (l.set j { l[j] with body := l[j].body.drop 1 }) g := by
  subst hn
  refine h.store1 j hj _ 3 _ (by omega) [.string ⟨l[j].name.toArray⟩, .slice pp l[j].params.length cp, .int .i64 l[j].result, .slice (some ⟨b, o, none⟩) l[j].body.length cb, .int .i64 l[j].count] (fun i u hu => ?_) rfl ⟨pp, some ⟨b, o', none⟩, cp, c', rfl, ⟨hfw.s, hfw.r, hc1, hc2, hfw.c⟩, hps, hr⟩
  rcases i with _ | _ | _ | _ | _ | i
  · simp at hu; subst hu; exact h0
  · simp at hu; subst hu; exact h1
  · simp at hu; subst hu; exact h2
  · simp at hu; subst hu; exact h3
  · simp at hu; subst hu; exact h4
  · simp at hu
/-- The draft's program, in a row of its own. -/
def MadePost (w : World) (l : List Fn) (r : Ending) (w' : World) : Prop :=
  (∃ g c, r = .returned (.agg #[.slice (some ⟨g, 0, none⟩) l.length c]) ∧ l.length ≤ c ∧ c ≤ maxLen ∧ w.heap.size ≤ g ∧ Hid (PrgAt w' l g)) ∧ Below w.heap.size w w'
theorem made_prg (D : List Nat) (a : Option Addr) (cap : Nat) (w : World) (hd : U8s w D a cap) : Calls Tryz.prog 14 #[.slice a D.length cap] w (MadePost w (madeD D)) := by
  refine (made_any D a cap w hd).mono ?_
  rintro r w' ⟨⟨v, rfl, hown⟩, hb⟩
  refine ⟨?_, hb⟩
  rcases hown.form with ⟨_, h0⟩ | ⟨g, c, rfl, hg, _, h1, h2⟩
  · have := (madeD_ok D).1
    rw [h0] at this
    exact absurd this (by decide)
  · exact ⟨g, c, rfl, h1, h2, hg, hide (PrgAt.of hown)⟩
/-- The numbered program, read only. -/
def NbfPost (w : World) (l : List Fn) (r : Ending) (w' : World) : Prop :=
  (∃ (a : Option Addr) (c : Nat), r = .returned (.agg #[.slice a l.length c]) ∧ Hid (Fns w' l a c)) ∧ Below w.heap.size w w'
theorem number_fns (l m : List Fn) (hm : numberM l = m) (n : Nat) (hn : l.length = n) (a : Option Addr) (cap : Nat) (w : World) (hl : Fns w l a cap) (hT : Tab w) :
    Calls Tryz.prog 17 #[.agg #[.slice a n cap]] w (NbfPost w m) := by
  subst hm
  subst hn
  refine (number_any l a cap w hl hT).mono ?_
  rintro r w' ⟨⟨a, c, rfl, h⟩, hb⟩
  exact ⟨⟨a, c, rfl, hide h.fns⟩, hb⟩
theorem sameM_is (l m : List Fn) (q : Bool) (hq : sameM l m = q) (n k : Nat) (hn : l.length = n) (hk : m.length = k) (a a' : Option Addr) (cap cap' : Nat) (w : World) (hl : Fns w l a cap) (hm : Fns w m a' cap') (hT : Tab w) :
    Calls Tryz.prog 21 #[.agg #[.slice a n cap], .agg #[.slice a' k cap']] w fun r w' => r = .returned (.bool q) ∧ Below w.heap.size w w' := by
  subst hq
  subst hn
  subst hk
  exact same_any l m a a' cap cap' w hl hm hT
theorem sameF_is (f g : Fn) (q : Bool) (hq : eqF f g = q) (v u : Value) (w : World) (hf : Fn.Val w f v) (hg : Fn.Val w g u) (hT : Tab w) : Calls Tryz.prog 23 #[v, u] w fun r w' => r = .returned (.bool q) ∧ Below w.heap.size w w' := by
  subst hq
  exact sameFunc_any f g v u w hf hg hT
end Go.Proofs.YthpmecbekpmijaaGreatDoor
/- rewindref03.exprs and stmts answer whether lists of expressions and of statements are equal. -/
namespace Go.Proofs.YthpmecbekpmijaaGreatDoor
open Go Go.RowKit
set_option linter.unusedSimpArgs false
set_option linter.unusedVariables false
set_option linter.unnecessarySimpa false
theorem has_drewN {w : World} (n : Nat) : Has w (w.drewN n) := fun _ _ _ h => h
abbrev QtPost (w : World) (b : Bool) (r : Ending) (w' : World) : Prop := r = .returned (.bool b) ∧ ∃ n, w' = w.drewN n
theorem eqEs_no {l m : List Ex} (i : Nat) (h : i < l.length) (h' : i < m.length) (hp : eqE l[i] m[i] = false) : eqEs l m = false := by
  rw [eqL_es]
  exact eqL_no i h h' hp
theorem eqSs_no {l m : List St} (i : Nat) (h : i < l.length) (h' : i < m.length) (hp : eqS l[i] m[i] = false) : eqSs l m = false := by
  rw [eqL_ss]
  exact eqL_no i h h' hp
theorem bne_no {α : Type} [BEq α] {a b : α} (h : (a == b) = false) : (a != b) = true := by simp [bne, h]
theorem bne_yes {α : Type} [BEq α] {a b : α} (h : (a == b) = true) : (a != b) = false := by simp [bne, h]
theorem exs_sz {l : List Ex} {k : Nat} (h : k < l.length) : SizeOf.sizeOf l[k].args < SizeOf.sizeOf l := by
  have h1 := List.sizeOf_lt_of_mem (List.getElem_mem h)
  have h2 : SizeOf.sizeOf l[k].args < SizeOf.sizeOf l[k] := by
    generalize l[k] = e
    cases e
    simp only [Ex.args, Ex.mk.sizeOf_spec]
    omega
  omega
set_option maxRecDepth 20000 in
set_option maxHeartbeats 8000000 in
theorem refExprs1_any : ∀ (N : Nat) (l m : List Ex) (a a' : Option Addr) (cap cap' : Nat) (w : World), SizeOf.sizeOf l < N → l.length ≤ maxLen → m.length ≤ maxLen → Ex.Row w l a → Ex.Row w m a' →
    Calls Tryz.prog 84 #[.slice a l.length cap, .slice a' m.length cap'] w (QtPost w (eqEs l m)) := by
  intro N
  induction N with
  | zero => intro l m a a' cap cap' w h; exact absurd h (Nat.not_lt_zero _)
  | succ N ih =>
    intro l m a a' cap cap' w hN hll hml hl hm
    unfold maxLen at hll hml
    by_cases hlen : ¬ (l.length : Int) = (m.length : Int)
    · have hlen2 : ((l.length : Int) != (m.length : Int)) = true := by simpa using hlen
      have HE := hide (eqEs_len (l := l) (m := m) (by omega))
      clear hlen ih hl hm
      go_enter Tryz.func84, Tryz.ntmps84
      go_wp2_with fail
      go_ret
      exact ⟨ret_bool HE.out.symm, 0, rfl⟩
    have hlen2 : ((l.length : Int) != (m.length : Int)) = false := by simpa using hlen
    have hlm : Hid (l.length = m.length) := hide (by omega)
    have HL := hide hl
    have HM := hide hm
    have IH := hide ih
    clear hlen ih hl hm
    go_enter Tryz.func84, Tryz.ntmps84
    go_wp2_with fail
    go_loopw [5] (fun i wr => ∃ k n : Nat, k ≤ l.length ∧ i = .int .i64 k ∧ Hid (∀ (i : Nat) (h : i < l.length) (h' : i < m.length), i < k → eqE l[i] m[i] = true) ∧ Hid (wr = w.drewN n)) (fun i _ => l.length - (intOf i).toNat)
    case atStart => exact ⟨0, 0, Nat.zero_le _, rfl, fun i _ _ h => absurd h (Nat.not_lt_zero _), rfl⟩
    case round =>
      obtain ⟨k, nn, hk, rfl, hall, HWR⟩ := hrel
      have hasw : Has w wr := by rw [HWR.out]; exact has_drewN _
      by_cases hlt : k < l.length
      · have hlt' : k < m.length := by have := hlm.out; omega
        obtain ⟨b, o, rfl⟩ := HL.out.addr (by omega)
        obtain ⟨b', o', rfl⟩ := HM.out.addr (by omega)
        obtain ⟨ax, capx, c0, c1, c2, c3, c4, hw, hr⟩ := ((HL.out.get k hlt).has hasw).val
        obtain ⟨ay, capy, d0, d1, d2, d3, d4, hw', hr'⟩ := ((HM.out.get k hlt').has hasw).val
        have hbl1 := cell_lt c0
        have hbl2 := cell_lt d0
        simp only at hbl1 hbl2
        have hsz := exs_sz hlt
        have h1 := hide fun (W : World) (hW : Has wr W) => IH.out l[k].args m[k].args ax ay capx capy W (by omega) (Nat.le_trans hw.len hw.cap) (Nat.le_trans hw'.len hw'.cap) (hr.has hW) (hr'.has hW)
        clear hw hr hw' hr' hsz
        cases q1 : l[k].kind == m[k].kind
        · have g1 := bne_no q1
          have HE := hide (eqEs_no k hlt hlt' (by rw [eqE_eq]; simp [*]))
          clear q1 h1
          go_wp2_with fail
          go_quiet (fail)
          go_wp2_with fail
          go_ret
          exact ⟨ret_bool HE.out.symm, _, by rw [HWR.out, World.drewN_drewN]⟩
        have g1 := bne_yes q1
        cases q2 : l[k].op == m[k].op
        · have g2 := bne_no q2
          have HE := hide (eqEs_no k hlt hlt' (by rw [eqE_eq]; simp [*]))
          clear q1 q2 h1
          go_wp2_with fail
          go_quiet (fail)
          go_wp2_with fail
          go_ret
          exact ⟨ret_bool HE.out.symm, _, by rw [HWR.out, World.drewN_drewN]⟩
        have g2 := bne_yes q2
        cases q3 : l[k].num == m[k].num
        · have g3 := bne_no q3
          have HE := hide (eqEs_no k hlt hlt' (by rw [eqE_eq]; simp [*]))
          clear q1 q2 q3 h1
          go_wp2_with fail
          go_quiet (fail)
          go_wp2_with fail
          go_ret
          exact ⟨ret_bool HE.out.symm, _, by rw [HWR.out, World.drewN_drewN]⟩
        have g3 := bne_yes q3
        cases q4 : l[k].name == m[k].name
        · have g4 := bne_no q4
          have g4a : decide (l[k].name = m[k].name) = false := by simpa using q4
          have g4b : (!decide (l[k].name = m[k].name)) = true := by rw [g4a]; rfl
          have HE := hide (eqEs_no k hlt hlt' (by rw [eqE_eq]; simp [*]))
          clear q1 q2 q3 h1
          go_wp2_with fail
          go_quiet (fail)
          go_wp2_with fail
          go_ret
          exact ⟨ret_bool HE.out.symm, _, by rw [HWR.out, World.drewN_drewN]⟩
        have g4 := bne_yes q4
        have g4a : decide (l[k].name = m[k].name) = true := by simpa using q4
        have g4b : (!decide (l[k].name = m[k].name)) = false := by rw [g4a]; rfl
        cases q5 : eqEs l[k].args m[k].args
        · have HE := hide (eqEs_no k hlt hlt' (by rw [eqE_eq]; simp [*]))
          rw [q5] at h1
          clear q1 q2 q3 q5
          go_wp2_with fail
          go_quiet (first | (go_at_call 84; refine Calls.quiet_of (h1.out _ ?_); exact fun _ _ _ h => h))
          go_wp2_with fail
          go_ret
          exact ⟨ret_bool HE.out.symm, _, by rw [HWR.out, World.drewN_drewN]⟩
        · have HE := hide (show eqE l[k] m[k] = true by rw [eqE_eq]; simp [*])
          rw [q5] at h1
          clear q1 q2 q3 q5
          go_wp2_with fail
          go_quiet (first | (go_at_call 84; refine Calls.quiet_of (h1.out _ ?_); exact fun _ _ _ h => h))
          go_wp2_with fail
          go_roundw
          case rel =>
            refine ⟨k + 1, nn + nq, by omega, by go_num, ?_, hide (by rw [HWR.out, World.drewN_drewN])⟩
            intro i hi hi' hik
            by_cases e : i = k
            · subst e; exact HE.out
            · exact hall i hi hi' (by omega)
          case measure => simp [intOf]; omega
      · obtain rfl : k = l.length := by omega
        have HE := hide ((eqEs_all l m hlm.out).2 (fun i h h' => hall i h h' h))
        go_wp2_with fail
        go_ret
        exact ⟨ret_bool HE.out.symm, _, HWR.out⟩
theorem refExprs_any (l m : List Ex) (a a' : Option Addr) (cap cap' : Nat) (w : World) (h1 : l.length ≤ maxLen) (h2 : m.length ≤ maxLen) (h3 : Ex.Row w l a) (h4 : Ex.Row w m a') :
    Calls Tryz.prog 84 #[.slice a l.length cap, .slice a' m.length cap'] w (QtPost w (eqEs l m)) := refExprs1_any _ l m a a' cap cap' w (Nat.lt_succ_self _) h1 h2 h3 h4
end Go.Proofs.YthpmecbekpmijaaGreatDoor
/- rewindref03.stmts answers whether lists of statements are equal. -/
namespace Go.Proofs.YthpmecbekpmijaaGreatDoor
open Go Go.RowKit
set_option linter.unusedSimpArgs false
set_option linter.unusedVariables false
set_option linter.unnecessarySimpa false
theorem sts_sz {l : List St} {k : Nat} (h : k < l.length) : SizeOf.sizeOf l[k].body < SizeOf.sizeOf l ∧ SizeOf.sizeOf l[k].els < SizeOf.sizeOf l := by
  have h1 := List.sizeOf_lt_of_mem (List.getElem_mem h)
  have h2 : SizeOf.sizeOf l[k].body < SizeOf.sizeOf l[k] ∧ SizeOf.sizeOf l[k].els < SizeOf.sizeOf l[k] := by
    generalize l[k] = e
    cases e
    simp only [St.body, St.els, St.mk.sizeOf_spec]
    omega
  omega
def cA : Code → Code | .seq a _ => a | c => c
def cB : Code → Code | .seq _ b => b | c => c
def cI : Code → Code | .block _ c => c | .loop c => c | c => c
def cOps : Code → List Oper | .region _ ops _ => ops.toList | _ => []
/-- The operations of the tests of rewindref03.stmts may be walked in the order of the text. -/
theorem stmtsOps_lex : Region.lexB .any (cOps (cA (cI (cA (cB (cI (cI (cB (cA (cB (cB (Tryz.f55.body.getD .ret)))))))))))).toArray = true := by kernel_rfl
set_option maxRecDepth 20000 in
set_option maxHeartbeats 8000000 in
theorem refStmts1_any : ∀ (N : Nat) (l m : List St) (a a' : Option Addr) (cap cap' : Nat) (w : World), SizeOf.sizeOf l < N → l.length ≤ maxLen → m.length ≤ maxLen → St.Row w l a → St.Row w m a' →
    Calls Tryz.prog 55 #[.slice a l.length cap, .slice a' m.length cap'] w (QtPost w (eqSs l m)) := by
  intro N
  induction N with
  | zero => intro l m a a' cap cap' w h; exact absurd h (Nat.not_lt_zero _)
  | succ N ih =>
    intro l m a a' cap cap' w hN hll hml hl hm
    unfold maxLen at hll hml
    by_cases hlen : ¬ (l.length : Int) = (m.length : Int)
    · have hlen2 : ((l.length : Int) != (m.length : Int)) = true := by simpa using hlen
      have HE := hide (eqSs_len (l := l) (m := m) (by omega))
      clear hlen ih hl hm
      go_enter Tryz.func55, Tryz.ntmps55
      go_wp2_with fail
      go_ret
      exact ⟨ret_bool HE.out.symm, 0, rfl⟩
    have hlen2 : ((l.length : Int) != (m.length : Int)) = false := by simpa using hlen
    have hlm : Hid (l.length = m.length) := hide (by omega)
    have HL := hide hl
    have HM := hide hm
    have IH := hide ih
    clear hlen ih hl hm
    go_enter Tryz.func55, Tryz.ntmps55
    go_wp2_with fail
    go_loopw [5] (fun i wr => ∃ k n : Nat, k ≤ l.length ∧ i = .int .i64 k ∧ Hid (∀ (i : Nat) (h : i < l.length) (h' : i < m.length), i < k → eqS l[i] m[i] = true) ∧ Hid (wr = w.drewN n)) (fun i _ => l.length - (intOf i).toNat)
    case atStart => exact ⟨0, 0, Nat.zero_le _, rfl, fun i _ _ h => absurd h (Nat.not_lt_zero _), rfl⟩
    case round =>
      obtain ⟨k, nn, hk, rfl, hall, HWR⟩ := hrel
      have hasw : Has w wr := by rw [HWR.out]; exact has_drewN _
      by_cases hlt : k < l.length
      · have hlt' : k < m.length := by have := hlm.out; omega
        obtain ⟨b, o, rfl⟩ := HL.out.addr (by omega)
        obtain ⟨b', o', rfl⟩ := HM.out.addr (by omega)
        obtain ⟨pa, pb, pe, ca, cb, ce, ⟨c0, c1, c2, c3, c4, c5, c6, c7⟩, hw, hx1, hx2, hx3⟩ := ((HL.out.get k hlt).has hasw).val
        obtain ⟨pa', pb', pe', ca', cb', ce', ⟨d0, d1, d2, d3, d4, d5, d6, d7⟩, hw', hy1, hy2, hy3⟩ := ((HM.out.get k hlt').has hasw).val
        have hbl1 := cell_lt c0
        have hbl2 := cell_lt d0
        simp only at hbl1 hbl2
        obtain ⟨hs1, hs2⟩ := sts_sz hlt
        have h1 := hide fun (W : World) (hW : Has wr W) => refExprs_any l[k].args m[k].args pa pa' ca ca' W (Nat.le_trans hw.la hw.ca) (Nat.le_trans hw'.la hw'.ca) (hx1.has hW) (hy1.has hW)
        have h2 := hide fun (W : World) (hW : Has wr W) => IH.out l[k].body m[k].body pb pb' cb cb' W (by omega) (Nat.le_trans hw.lb hw.cb) (Nat.le_trans hw'.lb hw'.cb) (hx2.has hW) (hy2.has hW)
        have h3 := hide fun (W : World) (hW : Has wr W) => IH.out l[k].els m[k].els pe pe' ce ce' W (by omega) (Nat.le_trans hw.le hw.ce) (Nat.le_trans hw'.le hw'.ce) (hx3.has hW) (hy3.has hW)
        clear hw hx1 hx2 hx3 hw' hy1 hy2 hy3 hs1 hs2 c1 d1
        go_wp2_with fail
        simp only [List.append_eq, List.cons_append, List.nil_append]
        refine wp_region_quiet_lit (by kernel_rfl) (by exact stmtsOps_lex) ?_
        cases q1 : l[k].kind == m[k].kind
        · have g1 := bne_no q1
          have HE := hide (eqSs_no k hlt hlt' (by rw [eqS_eq]; simp [*]))
          clear q1
          repeat (go_big_quiet_step (first | (go_at_call 84; refine Calls.quiet_of (h1.out _ ?_); exact fun _ _ _ h => h) | (go_at_call 55; (with_reducible refine Calls.quiet_of (h2.out _ ?_)); exact fun _ _ _ h => h) | (go_at_call 55; (with_reducible refine Calls.quiet_of (h3.out _ ?_)); exact fun _ _ _ h => h)))
          refine wpQuiet_nil ?_
          intro _ hw9
          obtain ⟨nq, hw8⟩ := hw9
          subst hw8
          go_wp2_with fail
          go_ret
          exact ⟨ret_bool HE.out.symm, _, by rw [HWR.out, World.drewN_drewN]⟩
        have g1 := bne_yes q1
        cases q2 : l[k].name == m[k].name
        · have g2 := bne_no q2
          have g2a : decide (l[k].name = m[k].name) = false := by simpa using q2
          have g2b : (!decide (l[k].name = m[k].name)) = true := by rw [g2a]; rfl
          have HE := hide (eqSs_no k hlt hlt' (by rw [eqS_eq]; simp [*]))
          clear q1
          repeat (go_big_quiet_step (first | (go_at_call 84; refine Calls.quiet_of (h1.out _ ?_); exact fun _ _ _ h => h) | (go_at_call 55; (with_reducible refine Calls.quiet_of (h2.out _ ?_)); exact fun _ _ _ h => h) | (go_at_call 55; (with_reducible refine Calls.quiet_of (h3.out _ ?_)); exact fun _ _ _ h => h)))
          refine wpQuiet_nil ?_
          intro _ hw9
          obtain ⟨nq, hw8⟩ := hw9
          subst hw8
          go_wp2_with fail
          go_ret
          exact ⟨ret_bool HE.out.symm, _, by rw [HWR.out, World.drewN_drewN]⟩
        have g2 := bne_yes q2
        have g2a : decide (l[k].name = m[k].name) = true := by simpa using q2
        have g2b : (!decide (l[k].name = m[k].name)) = false := by rw [g2a]; rfl
        cases q3 : l[k].typ == m[k].typ
        · have g3 := bne_no q3
          have HE := hide (eqSs_no k hlt hlt' (by rw [eqS_eq]; simp [*]))
          clear q1 q3
          repeat (go_big_quiet_step (first | (go_at_call 84; refine Calls.quiet_of (h1.out _ ?_); exact fun _ _ _ h => h) | (go_at_call 55; (with_reducible refine Calls.quiet_of (h2.out _ ?_)); exact fun _ _ _ h => h) | (go_at_call 55; (with_reducible refine Calls.quiet_of (h3.out _ ?_)); exact fun _ _ _ h => h)))
          refine wpQuiet_nil ?_
          intro _ hw9
          obtain ⟨nq, hw8⟩ := hw9
          subst hw8
          go_wp2_with fail
          go_ret
          exact ⟨ret_bool HE.out.symm, _, by rw [HWR.out, World.drewN_drewN]⟩
        have g3 := bne_yes q3
        cases q4 : l[k].callee == m[k].callee
        · have g4 := bne_no q4
          have g4a : decide (l[k].callee = m[k].callee) = false := by simpa using q4
          have g4b : (!decide (l[k].callee = m[k].callee)) = true := by rw [g4a]; rfl
          have HE := hide (eqSs_no k hlt hlt' (by rw [eqS_eq]; simp [*]))
          clear q1 q3
          repeat (go_big_quiet_step (first | (go_at_call 84; refine Calls.quiet_of (h1.out _ ?_); exact fun _ _ _ h => h) | (go_at_call 55; (with_reducible refine Calls.quiet_of (h2.out _ ?_)); exact fun _ _ _ h => h) | (go_at_call 55; (with_reducible refine Calls.quiet_of (h3.out _ ?_)); exact fun _ _ _ h => h)))
          refine wpQuiet_nil ?_
          intro _ hw9
          obtain ⟨nq, hw8⟩ := hw9
          subst hw8
          go_wp2_with fail
          go_ret
          exact ⟨ret_bool HE.out.symm, _, by rw [HWR.out, World.drewN_drewN]⟩
        have g4 := bne_yes q4
        have g4a : decide (l[k].callee = m[k].callee) = true := by simpa using q4
        have g4b : (!decide (l[k].callee = m[k].callee)) = false := by rw [g4a]; rfl
        cases q5 : eqEs l[k].args m[k].args
        · have HE := hide (eqSs_no k hlt hlt' (by rw [eqS_eq]; simp [*]))
          rw [q5] at h1; clear q1 q3 q5
          repeat (go_big_quiet_step (first | (go_at_call 84; refine Calls.quiet_of (h1.out _ ?_); exact fun _ _ _ h => h) | (go_at_call 55; (with_reducible refine Calls.quiet_of (h2.out _ ?_)); exact fun _ _ _ h => h) | (go_at_call 55; (with_reducible refine Calls.quiet_of (h3.out _ ?_)); exact fun _ _ _ h => h)))
          refine wpQuiet_nil ?_
          intro _ hw9
          obtain ⟨nq, hw8⟩ := hw9
          subst hw8
          go_wp2_with fail
          go_ret
          exact ⟨ret_bool HE.out.symm, _, by rw [HWR.out, World.drewN_drewN]⟩
        rw [q5] at h1
        cases q6 : eqSs l[k].body m[k].body
        · have HE := hide (eqSs_no k hlt hlt' (by rw [eqS_eq]; simp [*]))
          rw [q6] at h2; clear q1 q3 q5 q6
          repeat (go_big_quiet_step (first | (go_at_call 84; refine Calls.quiet_of (h1.out _ ?_); exact fun _ _ _ h => h) | (go_at_call 55; (with_reducible refine Calls.quiet_of (h2.out _ ?_)); exact fun _ _ _ h => h) | (go_at_call 55; (with_reducible refine Calls.quiet_of (h3.out _ ?_)); exact fun _ _ _ h => h)))
          refine wpQuiet_nil ?_
          intro _ hw9
          obtain ⟨nq, hw8⟩ := hw9
          subst hw8
          go_wp2_with fail
          go_ret
          exact ⟨ret_bool HE.out.symm, _, by rw [HWR.out, World.drewN_drewN]⟩
        rw [q6] at h2
        cases q7 : eqSs l[k].els m[k].els
        · have HE := hide (eqSs_no k hlt hlt' (by rw [eqS_eq]; simp [*]))
          rw [q7] at h3; clear q1 q3 q5 q6 q7
          repeat (go_big_quiet_step (first | (go_at_call 84; refine Calls.quiet_of (h1.out _ ?_); exact fun _ _ _ h => h) | (go_at_call 55; (with_reducible refine Calls.quiet_of (h2.out _ ?_)); exact fun _ _ _ h => h) | (go_at_call 55; (with_reducible refine Calls.quiet_of (h3.out _ ?_)); exact fun _ _ _ h => h)))
          refine wpQuiet_nil ?_
          intro _ hw9
          obtain ⟨nq, hw8⟩ := hw9
          subst hw8
          go_wp2_with fail
          go_ret
          exact ⟨ret_bool HE.out.symm, _, by rw [HWR.out, World.drewN_drewN]⟩
        rw [q7] at h3
        have HE := hide (show eqS l[k] m[k] = true by rw [eqS_eq]; simp [*])
        clear q1 q3 q5 q6 q7
        repeat (go_big_quiet_step (first | (go_at_call 84; refine Calls.quiet_of (h1.out _ ?_); exact fun _ _ _ h => h) | (go_at_call 55; (with_reducible refine Calls.quiet_of (h2.out _ ?_)); exact fun _ _ _ h => h) | (go_at_call 55; (with_reducible refine Calls.quiet_of (h3.out _ ?_)); exact fun _ _ _ h => h)))
        refine wpQuiet_nil ?_
        intro _ hw9
        obtain ⟨nq, hw8⟩ := hw9
        subst hw8
        go_wp2_with fail
        go_roundw
        case rel =>
          refine ⟨k + 1, nn + nq, by omega, by go_num, ?_, hide (by rw [HWR.out, World.drewN_drewN])⟩
          intro i hi hi' hik
          by_cases e : i = k
          · subst e; exact HE.out
          · exact hall i hi hi' (by omega)
        case measure => simp [intOf]; omega
      · obtain rfl : k = l.length := by omega
        have HE := hide ((eqSs_all l m hlm.out).2 (fun i h h' => hall i h h' h))
        go_wp2_with fail
        go_ret
        exact ⟨ret_bool HE.out.symm, _, HWR.out⟩
theorem refStmts_any (l m : List St) (a a' : Option Addr) (cap cap' : Nat) (w : World) (h1 : l.length ≤ maxLen) (h2 : m.length ≤ maxLen) (h3 : St.Row w l a) (h4 : St.Row w m a') :
    Calls Tryz.prog 55 #[.slice a l.length cap, .slice a' m.length cap'] w (QtPost w (eqSs l m)) := refStmts1_any _ l m a a' cap cap' w (Nat.lt_succ_self _) h1 h2 h3 h4
end Go.Proofs.YthpmecbekpmijaaGreatDoor
/- rewindref03.numbers answers whether statements have the numbers from n on, and Check answers checkM. -/
namespace Go.Proofs.YthpmecbekpmijaaGreatDoor
open Go Go.RowKit
set_option linter.unusedSimpArgs false
set_option linter.unusedVariables false
set_option linter.unnecessarySimpa false
theorem ren_no (s : St) (n : Nat) : (s.ren n).no = (n : Nat) := by rw [St.ren_eq]; rfl
theorem ren_body (s : St) (n : Nat) : (s.ren n).body = renL s.body (n + 1) := by rw [St.ren_eq]; rfl
theorem ren_els (s : St) (n : Nat) : (s.ren n).els = renL s.els (n + 1 + cntL s.body) := by rw [St.ren_eq]; rfl
theorem renL_get (l : List St) (n k : Nat) (h : k < l.length) (h' : k < (renL l n).length) : (renL l n)[k] = l[k].ren (n + cntL (l.take k)) := by
  have h1 := renL_take l k n h
  have h2 : (renL l n).take (k + 1) = renL (l.take (k + 1)) n := by
    have h3 := renL_app (l.take (k + 1)) (l.drop (k + 1)) n
    rw [List.take_append_drop] at h3
    rw [h3, List.take_append_of_le_length (by rw [renL_len, List.length_take]; omega), List.take_of_length_le (by rw [renL_len, List.length_take]; omega)]
  have h4 : (renL l n)[k]? = ((renL l n).take (k + 1))[k]? := by rw [List.getElem?_take_of_lt (by omega)]
  rw [h2, h1, List.getElem?_append_right (by rw [renL_len, List.length_take]; omega), renL_len, List.length_take, Nat.min_eq_left (by omega), Nat.sub_self, List.getElem?_eq_getElem h'] at h4
  simpa using h4
theorem numsL_no {l : List St} {n k : Nat} (h : k < l.length) (hp : l[k].nums (n + cntL (l.take k)) = false) : numsL l n = false := by
  have h1 := numsL_app (l.take (k + 1)) (l.drop (k + 1)) n
  rw [List.take_append_drop, numsL_take l k n h, hp] at h1
  rw [h1]
  simp
theorem numsL_all : ∀ (l : List St) (n : Nat), (∀ (i : Nat) (h : i < l.length), l[i].nums (n + cntL (l.take i)) = true) → numsL l n = true
  | [], _, _ => rfl
  | s :: l, n, h => by
    rw [numsL, Bool.and_eq_true]
    refine ⟨by have := h 0 (by simp); simpa [cntL] using this, numsL_all l _ fun i hi => ?_⟩
    have := h (i + 1) (by simpa using hi)
    simpa [cntL, Nat.add_assoc] using this
set_option maxRecDepth 20000 in
set_option maxHeartbeats 8000000 in
theorem numbers1_any : ∀ (N : Nat) (l : List St) (n : Nat) (a a' : Option Addr) (cap cap' : Nat) (w : World), SizeOf.sizeOf l < N → l.length ≤ maxLen → n + cntL l ≤ 1000000 → St.Row w l a → St.Row w (renL l n) a' →
    Calls Tryz.prog 51 #[.slice a l.length cap, .slice a' l.length cap'] w (QtPost w (numsL l n)) := by
  intro N
  induction N with
  | zero => intro l n a a' cap cap' w h; exact absurd h (Nat.not_lt_zero _)
  | succ N ih =>
    intro l n a a' cap cap' w hN hll hn hl hm
    unfold maxLen at hll
    have HL := hide hl
    have HM := hide hm
    have IH := hide ih
    have HLM := hide (renL_len l n)
    clear ih hl hm
    go_enter Tryz.func51, Tryz.ntmps51
    go_wp2_with fail
    go_loopw [5] (fun i wr => ∃ k n0 : Nat, k ≤ l.length ∧ i = .int .i64 k ∧ Hid (∀ (i : Nat) (h : i < l.length), i < k → l[i].nums (n + cntL (l.take i)) = true) ∧ Hid (wr = w.drewN n0)) (fun i _ => l.length - (intOf i).toNat)
    case atStart => exact ⟨0, 0, Nat.zero_le _, rfl, fun i _ h => absurd h (Nat.not_lt_zero _), rfl⟩
    case round =>
      obtain ⟨k, nn, hk, rfl, hall, HWR⟩ := hrel
      have hasw : Has w wr := by rw [HWR.out]; exact has_drewN _
      by_cases hlt : k < l.length
      · have hlt' : k < (renL l n).length := by rw [renL_len]; exact hlt
        obtain ⟨b, o, rfl⟩ := HL.out.addr (by omega)
        obtain ⟨b', o', rfl⟩ := HM.out.addr (by omega)
        have hma := (HM.out.get k hlt').has hasw
        rw [renL_get l n k hlt hlt'] at hma
        obtain ⟨pa, pb, pe, ca, cb, ce, ⟨c0, c1, c2, c3, c4, c5, c6, c7⟩, hw, hx1, hx2, hx3⟩ := ((HL.out.get k hlt).has hasw).val
        obtain ⟨pa', pb', pe', ca', cb', ce', ⟨d0, d1, d2, d3, d4, d5, d6, d7⟩, hw', hy1, hy2, hy3⟩ := hma.val
        rw [ren_no] at d1
        rw [ren_body, renL_len] at d6
        rw [ren_els, renL_len] at d7
        rw [ren_body] at hy2
        rw [ren_els] at hy3
        have hbl1 := cell_lt c0
        have hbl2 := cell_lt d0
        simp only at hbl1 hbl2
        obtain ⟨hs1, hs2⟩ := sts_sz hlt
        have hct := cntL_take l k hlt
        have hcl := cntL_take_le l (k + 1)
        have hce := St.cnt_eq l[k]
        generalize hcc : n + cntL (l.take k) = c at *
        have h2 := hide fun (W : World) (hW : Has wr W) => IH.out l[k].body (c + 1) pb pb' cb cb' W (by omega) (Nat.le_trans hw.lb hw.cb) (by omega) (hx2.has hW) (hy2.has hW)
        have h3 := hide fun (W : World) (hW : Has wr W) => IH.out l[k].els (c + 1 + cntL l[k].body) pe pe' ce ce' W (by omega) (Nat.le_trans hw.le hw.ce) (by omega) (hx3.has hW) (hy3.has hW)
        have HCC := hide hcc
        have hc6 : (0 : Int) ≤ (k : Int) := by omega
        have hc7 : (k : Int) < (l.length : Int) := by omega
        clear hma hw hx1 hx2 hx3 hw' hy1 hy2 hy3 hs1 hs2 hct hcl hce hcc
        cases q1 : l[k].no == ((c : Nat) : Int)
        · have g1 := bne_no q1
          have HE : Hid (numsL l n = false) := hide (numsL_no hlt (by rw [HCC.out, St.nums_eq]; simp at q1; simp [q1]))
          clear q1 h2 h3
          go_wp2_with fail
          go_quiet (fail)
          go_wp2_with fail
          go_ret
          exact ⟨ret_bool HE.out.symm, _, by rw [HWR.out, World.drewN_drewN]⟩
        have g1 := bne_yes q1
        cases q6 : numsL l[k].body (c + 1)
        · have HE : Hid (numsL l n = false) := hide (numsL_no hlt (by rw [HCC.out, St.nums_eq, q6]; simp))
          rw [q6] at h2
          clear q1 q6 h3
          go_wp2_with fail
          go_quiet (first | (go_at_call 51; (with_reducible refine Calls.quiet_of (h2.out _ ?_)); exact fun _ _ _ h => h) | (go_at_call 51; (with_reducible refine Calls.quiet_of (h3.out _ ?_)); exact fun _ _ _ h => h))
          go_wp2_with fail
          go_ret
          exact ⟨ret_bool HE.out.symm, _, by rw [HWR.out, World.drewN_drewN]⟩
        rw [q6] at h2
        cases q7 : numsL l[k].els (c + 1 + cntL l[k].body)
        · have HE : Hid (numsL l n = false) := hide (numsL_no hlt (by rw [HCC.out, St.nums_eq, q7]; simp))
          rw [q7] at h3
          clear q1 q6 q7
          go_wp2_with fail
          go_quiet (first | (go_at_call 51; (with_reducible refine Calls.quiet_of (h2.out _ ?_)); exact fun _ _ _ h => h) | (go_at_call 51; (with_reducible refine Calls.quiet_of (h3.out _ ?_)); exact fun _ _ _ h => h))
          go_wp2_with fail
          go_ret
          exact ⟨ret_bool HE.out.symm, _, by rw [HWR.out, World.drewN_drewN]⟩
        rw [q7] at h3
        have HE : Hid (l[k].nums c = true) := hide (by rw [St.nums_eq, q6, q7]; simpa using q1)
        clear q1 q6 q7
        go_wp2_with fail
        go_quiet (first | (go_at_call 51; (with_reducible refine Calls.quiet_of (h2.out _ ?_)); exact fun _ _ _ h => h) | (go_at_call 51; (with_reducible refine Calls.quiet_of (h3.out _ ?_)); exact fun _ _ _ h => h))
        go_wp2_with fail
        go_roundw
        case rel =>
          refine ⟨k + 1, nn + nq, by omega, by go_num, ?_, hide (by rw [HWR.out, World.drewN_drewN])⟩
          intro i hi hik
          by_cases e : i = k
          · subst e; rw [HCC.out]; exact HE.out
          · exact hall.out i hi (by omega)
        case measure => simp [intOf]; omega
      · obtain rfl : k = l.length := by omega
        have HE := hide (numsL_all l n (fun i h => hall.out i h h))
        go_wp2_with fail
        go_ret
        exact ⟨ret_bool HE.out.symm, _, HWR.out⟩
end Go.Proofs.YthpmecbekpmijaaGreatDoor
/- rewindref03.Check answers checkM. -/
namespace Go.Proofs.YthpmecbekpmijaaGreatDoor
open Go Go.RowKit
set_option linter.unusedSimpArgs false
set_option linter.unusedVariables false
set_option linter.unnecessarySimpa false
set_option maxRecDepth 20000 in
set_option maxHeartbeats 8000000 in
theorem refCheck_any (l : List Fn) (a : Option Addr) (cap : Nat) (w : World) (hl : Fns w l a cap) : Calls Tryz.prog 20 #[.agg #[.slice a l.length cap]] w fun r w' => r = .returned (.int .i64 (checkM l)) ∧ Below w.heap.size w w' := by
  have hlen : l.length ≤ 9223372036854775807 := Nat.le_trans hl.len hl.cap
  have HN := hide (refNumber_any [] l a cap (w.alloc (.cells #[.slice a l.length cap] 38)) ((hl.has (has_below ((bl w).al (.cells #[.slice a l.length cap] 38)))).has (has_new (by simp))) (by simp))
  have HL := hide hl
  clear hl
  by_cases hall : l.length ≤ 20 ∧ ∀ f ∈ l, fnOk f = true
  · have hnm : numberM l = l.map numFn := by unfold numberM; rw [if_pos hall]
    rw [hnm] at HN
    have HALL := hide hall
    have HML : Hid ((l.map numFn).length = l.length) := hide (List.length_map ..)
    obtain ⟨h20, _⟩ := hall
    clear hnm
    go_enter Tryz.func20, Tryz.ntmps20
    go_wp2_with fail
    (with_reducible refine HN.out.mono ?_)
    rintro r w1 ⟨⟨v, rfl, hown⟩, hb1⟩
    obtain ⟨a2, c2, rfl, hfn⟩ := hown.fns (by simp)
    have HFQ := hide (hfn.has has_av)
    have HX := hide ((hb1.block _ (by simp)).trans (heap_alloc_new w (.cells #[.slice a l.length cap] 38)))
    have HB1 := hide (((bl w).al (.cells #[.slice a l.length cap] 38)).tr hb1)
    have hxl := (Array.getElem?_eq_some_iff.1 HX.out).1
    have x0 := cell_at (j := 0) HX.out rfl
    clear hown hb1 hfn
    rw [HML.out]
    have HY : Hid ((w1.alloc (.cells #[.slice a2 l.length c2] 38)).heap[w1.heap.size]? = some (.cells #[.slice a2 l.length c2] 38 (0, 0))) := hide (heap_alloc_new _ _)
    have HX2 := hide ((Below.heap_alloc _ (.cells #[.slice a2 l.length c2] 38) _ hxl).trans HX.out)
    have HL2 := hide (HL.out.has (has_below (HB1.out.al (.cells #[.slice a2 l.length c2] 38))))
    have HQ2 := hide (HFQ.out.has (has_below ((bl w1).al (.cells #[.slice a2 l.length c2] 38))))
    have HB2 := hide (HB1.out.al (.cells #[.slice a2 l.length c2] 38))
    have hne : ((l.length : Int) != (l.length : Int)) = false := by simp
    have hxl2 : w.heap.size < (w1.alloc (.cells #[.slice a2 l.length c2] 38)).heap.size := by simp; omega
    have hyl2 : w1.heap.size < (w1.alloc (.cells #[.slice a2 l.length c2] 38)).heap.size := by simp
    clear HX HB1 HFQ HL
    go_wp2_with fail
    clear x0
    generalize w1.alloc (.cells #[.slice a2 l.length c2] 38) = W0 at *
    go_loopw [4] (fun i wr => ∃ k n0 : Nat, k ≤ l.length ∧ i = .int .i64 k ∧ Hid (∀ f ∈ l.take k, fnNums f = true) ∧ Hid (wr = W0.drewN n0)) (fun i _ => l.length - (intOf i).toNat)
    case atStart => exact ⟨0, 0, Nat.zero_le _, rfl, by simp [Hid], rfl⟩
    case round =>
      obtain ⟨k, nn, hk, rfl, hls, HWR⟩ := hrel
      have hasw : Has W0 wr := by rw [HWR.out]; exact has_drewN _
      have x0 := hasw _ _ _ (cell_at (j := 0) HX2.out rfl)
      have y0 := hasw _ _ _ (cell_at (j := 0) HY.out rfl)
      have hxl3 := cell_lt x0
      have hyl3 := cell_lt y0
      simp only at hxl3 hyl3
      by_cases hlt : k < l.length
      · have hltm : k < (l.map numFn).length := by rw [HML.out]; exact hlt
        obtain ⟨b, o, rfl⟩ := HL2.out.addr (by omega)
        obtain ⟨b', o', rfl⟩ := HQ2.out.addr (by omega)
        obtain ⟨pp, pb, cp, cb, c0, c1, c2', c3, c4, hfw, hps, hrow⟩ := (HL2.out.at_ b o rfl k hlt).has hasw
        have hqa := (HQ2.out.at_ b' o' rfl k hltm).has hasw
        rw [List.getElem_map] at hqa
        obtain ⟨pp', pb', cp', cb', d0, d1, d2, d3, d4, hfw', hps', hrow'⟩ := hqa
        have hbl := cell_lt c0
        have hbl' := cell_lt d0
        simp only at hbl hbl'
        have e3 : (numFn l[k]).body = renL l[k].body 0 := rfl
        have e4 : (numFn l[k]).count = (cntL l[k].body : Nat) := rfl
        rw [e3, renL_len] at d3
        rw [e4] at d4
        rw [e3] at hrow'
        have hcn := fnOk_cnt (HALL.out.2 _ (List.getElem_mem hlt))
        have h2 := hide fun (W : World) (hW : Has wr W) => numbers1_any _ l[k].body 0 pb pb' cb cb' W (Nat.lt_succ_self _) (Nat.le_trans hfw.lb hfw.cb) (by omega) (hrow.has hW) (hrow'.has hW)
        have HTL := hide (List.take_succ_eq_append_getElem hlt)
        have hc6 : (0 : Int) ≤ (k : Int) := by omega
        have hc7 : (k : Int) < (l.length : Int) := by omega
        have HOKK := hide (HALL.out.2 _ (List.getElem_mem hlt))
        clear hfw hps hrow hfw' hps' hrow' e3 e4 hcn c0 c1 c2' d0 d1 d2
        cases q1 : l[k].count == ((cntL l[k].body : Nat) : Int)
        · have g1 := bne_no q1
          have HE : Hid (checkM l = 2) := hide (checkM_bad hlt (.inr (by unfold fnNums; rw [Bool.and_eq_false_iff]; right; rw [decide_eq_false_iff_not]; simpa using q1)))
          clear q1 h2
          go_wp2_with fail
          go_quiet (fail)
          go_wp2_with fail
          go_ret
          exact ⟨ret_int HE.out.symm, by rw [HWR.out, World.drewN_drewN]; exact below_dq HB2.out _⟩
        have g1 := bne_yes q1
        cases q2 : numsL l[k].body 0
        · have HE : Hid (checkM l = 2) := hide (checkM_bad hlt (.inr (by unfold fnNums; rw [q2]; rfl)))
          rw [q2] at h2
          clear q1 q2
          go_wp2_with fail
          go_quiet (first | (go_at_call 51; (with_reducible refine Calls.quiet_of (h2.out _ ?_)); exact fun _ _ _ h => h))
          go_wp2_with fail
          go_ret
          exact ⟨ret_int HE.out.symm, by rw [HWR.out, World.drewN_drewN]; exact below_dq HB2.out _⟩
        rw [q2] at h2
        have HE : Hid (fnNums l[k] = true) := hide (by unfold fnNums; rw [q2]; simpa using q1)
        clear q1 q2
        go_wp2_with fail
        go_quiet (first | (go_at_call 51; (with_reducible refine Calls.quiet_of (h2.out _ ?_)); exact fun _ _ _ h => h))
        go_wp2_with fail
        go_roundw
        case rel =>
          refine ⟨k + 1, nn + nq, by omega, by go_num, ?_, hide (by rw [HWR.out, World.drewN_drewN])⟩
          refine hide ?_
          rw [HTL.out]
          intro f hf
          rcases List.mem_append.1 hf with hf | hf
          · exact hls.out f hf
          · rw [List.mem_singleton] at hf
            subst hf
            exact HE.out
        case measure => simp [intOf]; omega
      · obtain rfl : k = l.length := by omega
        have HE : Hid (checkM l = 0) := hide (by
          have h := hls.out
          rw [List.take_length] at h
          unfold checkM
          rw [if_pos ⟨HALL.out.1, fun f hf => ⟨HALL.out.2 f hf, h f hf⟩⟩])
        go_wp2_with fail
        go_ret
        exact ⟨ret_int HE.out.symm, by rw [HWR.out]; exact below_dq HB2.out _⟩
  · have hne : l.length ≠ 0 := fun h0 => hall ⟨by omega, fun f hf => by
      rw [List.eq_nil_of_length_eq_zero h0] at hf
      cases hf⟩
    have hnm : numberM l = [] := by unfold numberM; rw [if_neg hall]
    have hck : checkM l = 2 := by
      unfold checkM
      rw [if_neg]
      rintro ⟨h1, h2⟩
      exact hall ⟨h1, fun f hf => (h2 f hf).1⟩
    rw [hnm] at HN
    rw [hck]
    have ht : ((0 : Int) != (l.length : Int)) = true := by
      rw [bne_iff_ne]
      omega
    clear hall hnm hck hne
    go_enter Tryz.func20, Tryz.ntmps20
    go_wp2_with fail
    (with_reducible refine HN.out.mono ?_)
    rintro r w1 ⟨⟨v, rfl, hown⟩, hb1⟩
    obtain ⟨a2, c2, rfl, hfn⟩ := hown.fns (by simp)
    have HFQ := hide (hfn.has has_av)
    have HX := hide ((hb1.block _ (by simp)).trans (heap_alloc_new w (.cells #[.slice a l.length cap] 38)))
    have HB1 := hide (((bl w).al (.cells #[.slice a l.length cap] 38)).tr hb1)
    have hxl := (Array.getElem?_eq_some_iff.1 HX.out).1
    have x0 := cell_at (j := 0) HX.out rfl
    clear hown hb1 hfn
    go_wp2_with fail
    go_ret
    exact ⟨rfl, HB1.out.al _⟩
end Go.Proofs.YthpmecbekpmijaaGreatDoor
/- rewindref03.SameFunc answers eqF; rewindref03.Same answers sameM. -/
namespace Go.Proofs.YthpmecbekpmijaaGreatDoor
open Go Go.RowKit
set_option linter.unusedSimpArgs false
set_option linter.unusedVariables false
set_option linter.unnecessarySimpa false
theorem quiet_belowF {w w' : World} (h : ∃ n, w' = w.drewN n) : Below w.heap.size w w' := by
  obtain ⟨n, rfl⟩ := h
  exact below_dq (bl w) n
set_option maxRecDepth 20000 in
set_option maxHeartbeats 8000000 in
theorem refSameFunc_any (f g : Fn) (v u : Value) (w : World) (hf : Fn.Val w f v) (hg : Fn.Val w g u) : Calls Tryz.prog 24 #[v, u] w fun r w' => r = .returned (.bool (eqF f g)) ∧ Below w.heap.size w w' := by
  have HF := hide fun (W : World) (hW : Below w.heap.size w W) => refFunc_any f v W (hf.keep hW (Nat.le_refl _))
  have HG := hide fun (W : World) (hW : Below w.heap.size w W) => refFunc_any g u W (hg.keep hW (Nat.le_refl _))
  obtain ⟨pp, pb, cp, cb, rfl, hw, hps, hr⟩ := hf
  obtain ⟨pp', pb', cp', cb', rfl, hw', hps', hr'⟩ := hg
  have hll : f.params.length ≤ 9223372036854775807 := Nat.le_trans hps.len hps.cap
  have hml : g.params.length ≤ 9223372036854775807 := Nat.le_trans hps'.len hps'.cap
  have HPS := hide hps
  have HPS' := hide hps'
  have HB := hide fun (W : World) (hW : Below w.heap.size w W) => refStmts_any f.body g.body pb pb' cb cb' W (Nat.le_trans hw.lb hw.cb) (Nat.le_trans hw'.lb hw'.cb) (hr.has (has_below hW)) (hr'.has (has_below hW))
  have hgt : Tryz.prog.eqGuardType Tryz.prog.depth 58 = false := by kernel_rfl
  obtain ⟨R, hR⟩ : ∃ R, eqF f g = R := ⟨_, rfl⟩
  rw [hR]
  unfold eqF at hR
  obtain ⟨q1, hq1⟩ : ∃ q, fnOk f = q := ⟨_, rfl⟩
  obtain ⟨q2, hq2⟩ : ∃ q, fnOk g = q := ⟨_, rfl⟩
  obtain ⟨q6, hq6⟩ : ∃ q, eqSs f.body g.body = q := ⟨_, rfl⟩
  rw [hq1, hq2, hq6] at hR
  rw [hq1] at HF
  rw [hq2] at HG
  rw [hq6] at HB
  have HY : Hid (((w.alloc (.cells #[.string ⟨f.name.toArray⟩, .slice pp f.params.length cp, .int .i64 f.result, .slice pb f.body.length cb, .int .i64 f.count] 42)).alloc (.cells #[.string ⟨g.name.toArray⟩, .slice pp' g.params.length cp', .int .i64 g.result, .slice pb' g.body.length cb', .int .i64 g.count] 42)).heap[w.heap.size + 1]? = some (.cells #[.string ⟨g.name.toArray⟩, .slice pp' g.params.length cp', .int .i64 g.result, .slice pb' g.body.length cb', .int .i64 g.count] 42 (0, 0))) := hide (by
    rw [show w.heap.size + 1 = (w.alloc (.cells #[.string ⟨f.name.toArray⟩, .slice pp f.params.length cp, .int .i64 f.result, .slice pb f.body.length cb, .int .i64 f.count] 42)).heap.size by simp]
    exact heap_alloc_new _ _)
  have HX : Hid (((w.alloc (.cells #[.string ⟨f.name.toArray⟩, .slice pp f.params.length cp, .int .i64 f.result, .slice pb f.body.length cb, .int .i64 f.count] 42)).alloc (.cells #[.string ⟨g.name.toArray⟩, .slice pp' g.params.length cp', .int .i64 g.result, .slice pb' g.body.length cb', .int .i64 g.count] 42)).heap[w.heap.size]? = some (.cells #[.string ⟨f.name.toArray⟩, .slice pp f.params.length cp, .int .i64 f.result, .slice pb f.body.length cb, .int .i64 f.count] 42 (0, 0))) := hide (by
    rw [Below.heap_alloc _ _ _ (by simp)]
    exact heap_alloc_new _ _)
  have HW : Hid (Below w.heap.size w ((w.alloc (.cells #[.string ⟨f.name.toArray⟩, .slice pp f.params.length cp, .int .i64 f.result, .slice pb f.body.length cb, .int .i64 f.count] 42)).alloc (.cells #[.string ⟨g.name.toArray⟩, .slice pp' g.params.length cp', .int .i64 g.result, .slice pb' g.body.length cb', .int .i64 g.count] 42))) := hide (((bl w).al _).al _)
  clear hq1 hq2 hq6 hw hps hr hw' hps' hr'
  cases q1
  · have HR := hide hR
    clear hR
    go_enter Tryz.func24, Tryz.ntmps24
    go_wp2_with fail
    (with_reducible refine (HF.out _ HW.out).mono ?_)
    rintro r w1 ⟨rfl, hb1⟩
    have HX := hide ((hb1.block _ (Array.getElem?_eq_some_iff.1 HX.out).1).trans HX.out)
    have HY := hide ((hb1.block _ (Array.getElem?_eq_some_iff.1 HY.out).1).trans HY.out)
    have HW := hide (HW.out.tr hb1)
    clear hb1
    go_wp2_with fail
    go_ret
    exact ⟨ret_bool (by have := HR.out; simpa using this), HW.out⟩
  cases q2
  · have HR := hide hR
    clear hR
    go_enter Tryz.func24, Tryz.ntmps24
    go_wp2_with fail
    (with_reducible refine (HF.out _ HW.out).mono ?_)
    rintro r w1 ⟨rfl, hb1⟩
    have HX := hide ((hb1.block _ (Array.getElem?_eq_some_iff.1 HX.out).1).trans HX.out)
    have HY := hide ((hb1.block _ (Array.getElem?_eq_some_iff.1 HY.out).1).trans HY.out)
    have HW := hide (HW.out.tr hb1)
    clear hb1
    have x0 := cell_at (j := 0) HX.out rfl
    have x1 := cell_at (j := 1) HX.out rfl
    have x2 := cell_at (j := 2) HX.out rfl
    have x3 := cell_at (j := 3) HX.out rfl
    have x4 := cell_at (j := 4) HX.out rfl
    have y0 := cell_at (j := 0) HY.out rfl
    have y1 := cell_at (j := 1) HY.out rfl
    have y2 := cell_at (j := 2) HY.out rfl
    have y3 := cell_at (j := 3) HY.out rfl
    have y4 := cell_at (j := 4) HY.out rfl
    have lx := (Array.getElem?_eq_some_iff.1 HX.out).1
    have ly := (Array.getElem?_eq_some_iff.1 HY.out).1
    go_wp2_with fail
    (with_reducible refine (HG.out _ HW.out).mono ?_)
    rintro r w2 ⟨rfl, hb1⟩
    clear x0 x1 x2 x3 x4 y0 y1 y2 y3 y4 lx ly
    have HX := hide ((hb1.block _ (Array.getElem?_eq_some_iff.1 HX.out).1).trans HX.out)
    have HY := hide ((hb1.block _ (Array.getElem?_eq_some_iff.1 HY.out).1).trans HY.out)
    have HW := hide (HW.out.tr hb1)
    clear hb1
    have x0 := cell_at (j := 0) HX.out rfl
    have x1 := cell_at (j := 1) HX.out rfl
    have x2 := cell_at (j := 2) HX.out rfl
    have x3 := cell_at (j := 3) HX.out rfl
    have x4 := cell_at (j := 4) HX.out rfl
    have y0 := cell_at (j := 0) HY.out rfl
    have y1 := cell_at (j := 1) HY.out rfl
    have y2 := cell_at (j := 2) HY.out rfl
    have y3 := cell_at (j := 3) HY.out rfl
    have y4 := cell_at (j := 4) HY.out rfl
    have lx := (Array.getElem?_eq_some_iff.1 HX.out).1
    have ly := (Array.getElem?_eq_some_iff.1 HY.out).1
    go_wp2_with fail
    go_ret
    exact ⟨ret_bool (by have := HR.out; simpa using this), HW.out⟩
  cases h3 : f.name == g.name
  · rw [h3] at hR
    have h3a := bne_no h3
    have h3b : decide (f.name = g.name) = false := by simpa using h3
    have h3c : (!decide (f.name = g.name)) = true := by rw [h3b]; rfl
    have HR := hide hR
    clear hR
    go_enter Tryz.func24, Tryz.ntmps24
    go_wp2_with fail
    (with_reducible refine (HF.out _ HW.out).mono ?_)
    rintro r w1 ⟨rfl, hb1⟩
    have HX := hide ((hb1.block _ (Array.getElem?_eq_some_iff.1 HX.out).1).trans HX.out)
    have HY := hide ((hb1.block _ (Array.getElem?_eq_some_iff.1 HY.out).1).trans HY.out)
    have HW := hide (HW.out.tr hb1)
    clear hb1
    have x0 := cell_at (j := 0) HX.out rfl
    have x1 := cell_at (j := 1) HX.out rfl
    have x2 := cell_at (j := 2) HX.out rfl
    have x3 := cell_at (j := 3) HX.out rfl
    have x4 := cell_at (j := 4) HX.out rfl
    have y0 := cell_at (j := 0) HY.out rfl
    have y1 := cell_at (j := 1) HY.out rfl
    have y2 := cell_at (j := 2) HY.out rfl
    have y3 := cell_at (j := 3) HY.out rfl
    have y4 := cell_at (j := 4) HY.out rfl
    have lx := (Array.getElem?_eq_some_iff.1 HX.out).1
    have ly := (Array.getElem?_eq_some_iff.1 HY.out).1
    go_wp2_with fail
    (with_reducible refine (HG.out _ HW.out).mono ?_)
    rintro r w2 ⟨rfl, hb1⟩
    clear x0 x1 x2 x3 x4 y0 y1 y2 y3 y4 lx ly
    have HX := hide ((hb1.block _ (Array.getElem?_eq_some_iff.1 HX.out).1).trans HX.out)
    have HY := hide ((hb1.block _ (Array.getElem?_eq_some_iff.1 HY.out).1).trans HY.out)
    have HW := hide (HW.out.tr hb1)
    clear hb1
    have x0 := cell_at (j := 0) HX.out rfl
    have x1 := cell_at (j := 1) HX.out rfl
    have x2 := cell_at (j := 2) HX.out rfl
    have x3 := cell_at (j := 3) HX.out rfl
    have x4 := cell_at (j := 4) HX.out rfl
    have y0 := cell_at (j := 0) HY.out rfl
    have y1 := cell_at (j := 1) HY.out rfl
    have y2 := cell_at (j := 2) HY.out rfl
    have y3 := cell_at (j := 3) HY.out rfl
    have y4 := cell_at (j := 4) HY.out rfl
    have lx := (Array.getElem?_eq_some_iff.1 HX.out).1
    have ly := (Array.getElem?_eq_some_iff.1 HY.out).1
    go_wp2_with fail
    go_ret
    exact ⟨ret_bool (by have := HR.out; simpa using this), HW.out⟩
  have h3a := bne_yes h3
  have h3b : decide (f.name = g.name) = true := by simpa using h3
  have h3c : (!decide (f.name = g.name)) = false := by rw [h3b]; rfl
  cases h4 : f.result == g.result
  · rw [h3, h4] at hR
    have h4a := bne_no h4
    have HR := hide hR
    clear hR
    go_enter Tryz.func24, Tryz.ntmps24
    go_wp2_with fail
    (with_reducible refine (HF.out _ HW.out).mono ?_)
    rintro r w1 ⟨rfl, hb1⟩
    have HX := hide ((hb1.block _ (Array.getElem?_eq_some_iff.1 HX.out).1).trans HX.out)
    have HY := hide ((hb1.block _ (Array.getElem?_eq_some_iff.1 HY.out).1).trans HY.out)
    have HW := hide (HW.out.tr hb1)
    clear hb1
    have x0 := cell_at (j := 0) HX.out rfl
    have x1 := cell_at (j := 1) HX.out rfl
    have x2 := cell_at (j := 2) HX.out rfl
    have x3 := cell_at (j := 3) HX.out rfl
    have x4 := cell_at (j := 4) HX.out rfl
    have y0 := cell_at (j := 0) HY.out rfl
    have y1 := cell_at (j := 1) HY.out rfl
    have y2 := cell_at (j := 2) HY.out rfl
    have y3 := cell_at (j := 3) HY.out rfl
    have y4 := cell_at (j := 4) HY.out rfl
    have lx := (Array.getElem?_eq_some_iff.1 HX.out).1
    have ly := (Array.getElem?_eq_some_iff.1 HY.out).1
    go_wp2_with fail
    (with_reducible refine (HG.out _ HW.out).mono ?_)
    rintro r w2 ⟨rfl, hb1⟩
    clear x0 x1 x2 x3 x4 y0 y1 y2 y3 y4 lx ly
    have HX := hide ((hb1.block _ (Array.getElem?_eq_some_iff.1 HX.out).1).trans HX.out)
    have HY := hide ((hb1.block _ (Array.getElem?_eq_some_iff.1 HY.out).1).trans HY.out)
    have HW := hide (HW.out.tr hb1)
    clear hb1
    have x0 := cell_at (j := 0) HX.out rfl
    have x1 := cell_at (j := 1) HX.out rfl
    have x2 := cell_at (j := 2) HX.out rfl
    have x3 := cell_at (j := 3) HX.out rfl
    have x4 := cell_at (j := 4) HX.out rfl
    have y0 := cell_at (j := 0) HY.out rfl
    have y1 := cell_at (j := 1) HY.out rfl
    have y2 := cell_at (j := 2) HY.out rfl
    have y3 := cell_at (j := 3) HY.out rfl
    have y4 := cell_at (j := 4) HY.out rfl
    have lx := (Array.getElem?_eq_some_iff.1 HX.out).1
    have ly := (Array.getElem?_eq_some_iff.1 HY.out).1
    go_wp2_with fail
    go_ret
    exact ⟨ret_bool (by have := HR.out; simpa using this), HW.out⟩
  rw [h3, h4] at hR
  have h4a := bne_yes h4
  by_cases hlen : ¬ (f.params.length : Int) = (g.params.length : Int)
  · have hlen2 : ((f.params.length : Int) != (g.params.length : Int)) = true := by simpa using hlen
    have hne : decide (f.params = g.params) = false := decide_eq_false fun e => hlen (by rw [e])
    rw [hne] at hR
    have HR := hide hR
    clear hR hlen hne
    go_enter Tryz.func24, Tryz.ntmps24
    go_wp2_with fail
    (with_reducible refine (HF.out _ HW.out).mono ?_)
    rintro r w1 ⟨rfl, hb1⟩
    have HX := hide ((hb1.block _ (Array.getElem?_eq_some_iff.1 HX.out).1).trans HX.out)
    have HY := hide ((hb1.block _ (Array.getElem?_eq_some_iff.1 HY.out).1).trans HY.out)
    have HW := hide (HW.out.tr hb1)
    clear hb1
    have x0 := cell_at (j := 0) HX.out rfl
    have x1 := cell_at (j := 1) HX.out rfl
    have x2 := cell_at (j := 2) HX.out rfl
    have x3 := cell_at (j := 3) HX.out rfl
    have x4 := cell_at (j := 4) HX.out rfl
    have y0 := cell_at (j := 0) HY.out rfl
    have y1 := cell_at (j := 1) HY.out rfl
    have y2 := cell_at (j := 2) HY.out rfl
    have y3 := cell_at (j := 3) HY.out rfl
    have y4 := cell_at (j := 4) HY.out rfl
    have lx := (Array.getElem?_eq_some_iff.1 HX.out).1
    have ly := (Array.getElem?_eq_some_iff.1 HY.out).1
    go_wp2_with fail
    (with_reducible refine (HG.out _ HW.out).mono ?_)
    rintro r w2 ⟨rfl, hb1⟩
    clear x0 x1 x2 x3 x4 y0 y1 y2 y3 y4 lx ly
    have HX := hide ((hb1.block _ (Array.getElem?_eq_some_iff.1 HX.out).1).trans HX.out)
    have HY := hide ((hb1.block _ (Array.getElem?_eq_some_iff.1 HY.out).1).trans HY.out)
    have HW := hide (HW.out.tr hb1)
    clear hb1
    have x0 := cell_at (j := 0) HX.out rfl
    have x1 := cell_at (j := 1) HX.out rfl
    have x2 := cell_at (j := 2) HX.out rfl
    have x3 := cell_at (j := 3) HX.out rfl
    have x4 := cell_at (j := 4) HX.out rfl
    have y0 := cell_at (j := 0) HY.out rfl
    have y1 := cell_at (j := 1) HY.out rfl
    have y2 := cell_at (j := 2) HY.out rfl
    have y3 := cell_at (j := 3) HY.out rfl
    have y4 := cell_at (j := 4) HY.out rfl
    have lx := (Array.getElem?_eq_some_iff.1 HX.out).1
    have ly := (Array.getElem?_eq_some_iff.1 HY.out).1
    go_wp2_with fail
    go_ret
    exact ⟨ret_bool (by have := HR.out; simpa using this), HW.out⟩
  have hlen2 : ((f.params.length : Int) != (g.params.length : Int)) = false := by simpa using hlen
  have hlm : Hid (f.params.length = g.params.length) := hide (by omega)
  have HR := hide hR
  clear hR hlen
  go_enter Tryz.func24, Tryz.ntmps24
  go_wp2_with fail
  (with_reducible refine (HF.out _ HW.out).mono ?_)
  rintro r w1 ⟨rfl, hb1⟩
  have HX := hide ((hb1.block _ (Array.getElem?_eq_some_iff.1 HX.out).1).trans HX.out)
  have HY := hide ((hb1.block _ (Array.getElem?_eq_some_iff.1 HY.out).1).trans HY.out)
  have HW := hide (HW.out.tr hb1)
  clear hb1
  have x0 := cell_at (j := 0) HX.out rfl
  have x1 := cell_at (j := 1) HX.out rfl
  have x2 := cell_at (j := 2) HX.out rfl
  have x3 := cell_at (j := 3) HX.out rfl
  have x4 := cell_at (j := 4) HX.out rfl
  have y0 := cell_at (j := 0) HY.out rfl
  have y1 := cell_at (j := 1) HY.out rfl
  have y2 := cell_at (j := 2) HY.out rfl
  have y3 := cell_at (j := 3) HY.out rfl
  have y4 := cell_at (j := 4) HY.out rfl
  have lx := (Array.getElem?_eq_some_iff.1 HX.out).1
  have ly := (Array.getElem?_eq_some_iff.1 HY.out).1
  go_wp2_with fail
  (with_reducible refine (HG.out _ HW.out).mono ?_)
  rintro r w2 ⟨rfl, hb1⟩
  clear x0 x1 x2 x3 x4 y0 y1 y2 y3 y4 lx ly
  have HX := hide ((hb1.block _ (Array.getElem?_eq_some_iff.1 HX.out).1).trans HX.out)
  have HY := hide ((hb1.block _ (Array.getElem?_eq_some_iff.1 HY.out).1).trans HY.out)
  have HW := hide (HW.out.tr hb1)
  clear hb1
  have x0 := cell_at (j := 0) HX.out rfl
  have x1 := cell_at (j := 1) HX.out rfl
  have x2 := cell_at (j := 2) HX.out rfl
  have x3 := cell_at (j := 3) HX.out rfl
  have x4 := cell_at (j := 4) HX.out rfl
  have y0 := cell_at (j := 0) HY.out rfl
  have y1 := cell_at (j := 1) HY.out rfl
  have y2 := cell_at (j := 2) HY.out rfl
  have y3 := cell_at (j := 3) HY.out rfl
  have y4 := cell_at (j := 4) HY.out rfl
  have lx := (Array.getElem?_eq_some_iff.1 HX.out).1
  have ly := (Array.getElem?_eq_some_iff.1 HY.out).1
  go_wp2_with fail
  obtain ⟨w0, rfl⟩ : ∃ w0 : World, w0 = w2 := ⟨_, rfl⟩
  go_loopw [5] (fun i wr => ∃ k : Nat, k ≤ f.params.length ∧ i = .int .i64 k ∧ Hid (pmsEq f.params g.params k) ∧ Hid (Below w0.heap.size w0 wr)) (fun i _ => f.params.length - (intOf i).toNat)
  case atStart => exact ⟨0, Nat.zero_le _, rfl, fun i _ _ h => absurd h (Nat.not_lt_zero _), bl _⟩
  case round =>
    obtain ⟨k, hk, rfl, hall, HB0⟩ := hrel
    replace x0 := cell_keep x0 HB0.out (Nat.le_refl _)
    replace x1 := cell_keep x1 HB0.out (Nat.le_refl _)
    replace x3 := cell_keep x3 HB0.out (Nat.le_refl _)
    replace y1 := cell_keep y1 HB0.out (Nat.le_refl _)
    replace y3 := cell_keep y3 HB0.out (Nat.le_refl _)
    clear x0 x2 x4 y0 y2 y4
    replace lx := Nat.lt_of_lt_of_le lx HB0.out.size
    replace ly := Nat.lt_of_lt_of_le ly HB0.out.size
    have HW2 := hide (HW.out.tr HB0.out)
    by_cases hlt : k < f.params.length
    · have hlt' : k < g.params.length := by have := hlm.out; omega
      obtain ⟨b, o, rfl⟩ := HPS.out.addr (by omega)
      obtain ⟨b', o', rfl⟩ := HPS'.out.addr (by omega)
      obtain ⟨c0, c1⟩ := HPS.out.at_ b o rfl k hlt
      obtain ⟨d0, d1⟩ := HPS'.out.at_ b' o' rfl k hlt'
      replace c0 := cell_keep c0 HW2.out (Nat.le_refl _)
      replace c1 := cell_keep c1 HW2.out (Nat.le_refl _)
      replace d0 := cell_keep d0 HW2.out (Nat.le_refl _)
      replace d1 := cell_keep d1 HW2.out (Nat.le_refl _)
      have hk0 : (0 : Int) ≤ (k : Int) := by omega
      have hk1 : (k : Int) < (f.params.length : Int) := by omega
      have hk2 : (k : Int) < (g.params.length : Int) := by omega
      cases hq : decide (f.params[k] = g.params[k])
      · have hn := fun W => pm_neq f.params[k] g.params[k] true (by rw [hq]; rfl) W
        have HQ := hide hq
        have hne : decide (f.params = g.params) = false := decide_eq_false fun e => by
          have h1 := HQ.out
          simp only [decide_eq_false_iff_not] at h1
          apply h1
          simp only [e]
        have HR : Hid (R = false) := hide (by have := HR.out; rw [hne] at this; simpa using this.symm)
        clear hq hne
        go_wp2_with fail
        go_quiet (fail)
        go_wp2_with fail
        go_ret
        exact ⟨ret_bool HR.out.symm, below_dq HW2.out _⟩
      · have hn := fun W => pm_neq f.params[k] g.params[k] false (by rw [hq]; rfl) W
        have HQ := hide hq
        clear hq
        go_wp2_with fail
        go_quiet (fail)
        go_wp2_with fail
        go_roundw
        case rel =>
          refine ⟨k + 1, by omega, by go_num, ?_, below_dq HB0.out _⟩
          intro i hi hi' hik
          by_cases e : i = k
          · subst e; exact of_decide_eq_true HQ.out
          · exact hall.out i hi hi' (by omega)
        case measure => simp [intOf]; omega
    · obtain rfl : k = f.params.length := by omega
      have hye : decide (f.params = g.params) = true := decide_eq_true (List.ext_getElem hlm.out fun i h h' => hall.out i h h' h)
      have HR : Hid (R = q6) := hide (by have := HR.out; rw [hye] at this; simpa using this.symm)
      clear hye
      go_wp2_with fail
      refine (HB.out _ HW2.out).mono ?_
      rintro r w3 ⟨rfl, hq3⟩
      have HW3 := hide (HW2.out.tr (quiet_belowF hq3))
      clear hq3
      go_wp2_with fail
      go_ret
      exact ⟨ret_bool HR.out.symm, HW3.out⟩
set_option maxRecDepth 20000 in
set_option maxHeartbeats 8000000 in
theorem refSame_any (l m : List Fn) (a a' : Option Addr) (cap cap' : Nat) (w : World) (hl : Fns w l a cap) (hm : Fns w m a' cap') :
    Calls Tryz.prog 22 #[.agg #[.slice a l.length cap], .agg #[.slice a' m.length cap']] w fun r w' => r = .returned (.bool (sameM l m)) ∧ Below w.heap.size w w' := by
  have hll : l.length ≤ 9223372036854775807 := Nat.le_trans hl.len hl.cap
  have hml : m.length ≤ 9223372036854775807 := Nat.le_trans hm.len hm.cap
  have HF := hide fun (W : World) (hW : Below w.heap.size w W) => refCheck_any l a cap W (hl.keep hW (Nat.le_refl _))
  have HG := hide fun (W : World) (hW : Below w.heap.size w W) => refCheck_any m a' cap' W (hm.keep hW (Nat.le_refl _))
  have HL := hide hl
  have HM := hide hm
  obtain ⟨R, hR⟩ : ∃ R, sameM l m = R := ⟨_, rfl⟩
  rw [hR]
  unfold sameM at hR
  obtain ⟨c1, hc1⟩ : ∃ c, checkM l = c := ⟨_, rfl⟩
  obtain ⟨c2, hc2⟩ : ∃ c, checkM m = c := ⟨_, rfl⟩
  rw [hc1, hc2] at hR
  rw [hc1] at HF
  rw [hc2] at HG
  have HY : Hid (((w.alloc (.cells #[.slice a l.length cap] 38)).alloc (.cells #[.slice a' m.length cap'] 38)).heap[w.heap.size + 1]? = some (.cells #[.slice a' m.length cap'] 38 (0, 0))) := hide (by
    rw [show w.heap.size + 1 = (w.alloc (.cells #[.slice a l.length cap] 38)).heap.size by simp]
    exact heap_alloc_new _ _)
  have HX : Hid (((w.alloc (.cells #[.slice a l.length cap] 38)).alloc (.cells #[.slice a' m.length cap'] 38)).heap[w.heap.size]? = some (.cells #[.slice a l.length cap] 38 (0, 0))) := hide (by
    rw [Below.heap_alloc _ _ _ (by simp)]
    exact heap_alloc_new _ _)
  have HW : Hid (Below w.heap.size w ((w.alloc (.cells #[.slice a l.length cap] 38)).alloc (.cells #[.slice a' m.length cap'] 38))) := hide (((bl w).al _).al _)
  clear hc1 hc2 hl hm
  cases h1 : c1 == 0
  · rw [h1] at hR
    have h1a := bne_no h1
    have HR := hide hR
    clear hR
    go_enter Tryz.func22, Tryz.ntmps22
    go_wp2_with fail
    (with_reducible refine (HF.out _ HW.out).mono ?_)
    rintro r w1 ⟨rfl, hb1⟩
    have HX := hide ((hb1.block _ (Array.getElem?_eq_some_iff.1 HX.out).1).trans HX.out)
    have HY := hide ((hb1.block _ (Array.getElem?_eq_some_iff.1 HY.out).1).trans HY.out)
    have HW := hide (HW.out.tr hb1)
    clear hb1
    go_wp2_with fail
    go_ret
    exact ⟨ret_bool (by have := HR.out; simpa using this), HW.out⟩
  have h1a := bne_yes h1
  cases h2 : c2 == 0
  · rw [h1, h2] at hR
    have h2a := bne_no h2
    have HR := hide hR
    clear hR
    go_enter Tryz.func22, Tryz.ntmps22
    go_wp2_with fail
    (with_reducible refine (HF.out _ HW.out).mono ?_)
    rintro r w1 ⟨rfl, hb1⟩
    have HX := hide ((hb1.block _ (Array.getElem?_eq_some_iff.1 HX.out).1).trans HX.out)
    have HY := hide ((hb1.block _ (Array.getElem?_eq_some_iff.1 HY.out).1).trans HY.out)
    have HW := hide (HW.out.tr hb1)
    clear hb1
    have x0 := cell_at (j := 0) HX.out rfl
    have y0 := cell_at (j := 0) HY.out rfl
    have lx := (Array.getElem?_eq_some_iff.1 HX.out).1
    have ly := (Array.getElem?_eq_some_iff.1 HY.out).1
    go_wp2_with fail
    (with_reducible refine (HG.out _ HW.out).mono ?_)
    rintro r w2 ⟨rfl, hb1⟩
    clear x0 y0 lx ly
    have HX := hide ((hb1.block _ (Array.getElem?_eq_some_iff.1 HX.out).1).trans HX.out)
    have HY := hide ((hb1.block _ (Array.getElem?_eq_some_iff.1 HY.out).1).trans HY.out)
    have HW := hide (HW.out.tr hb1)
    clear hb1
    have x0 := cell_at (j := 0) HX.out rfl
    have y0 := cell_at (j := 0) HY.out rfl
    have lx := (Array.getElem?_eq_some_iff.1 HX.out).1
    have ly := (Array.getElem?_eq_some_iff.1 HY.out).1
    go_wp2_with fail
    go_ret
    exact ⟨ret_bool (by have := HR.out; simpa using this), HW.out⟩
  rw [h1, h2] at hR
  have h2a := bne_yes h2
  by_cases hlen : ¬ (l.length : Int) = (m.length : Int)
  · have hlen2 : ((l.length : Int) != (m.length : Int)) = true := by simpa using hlen
    have hne : eqFs l m = false := eqFs_len (by omega)
    rw [hne] at hR
    have HR := hide hR
    clear hR hlen hne
    go_enter Tryz.func22, Tryz.ntmps22
    go_wp2_with fail
    (with_reducible refine (HF.out _ HW.out).mono ?_)
    rintro r w1 ⟨rfl, hb1⟩
    have HX := hide ((hb1.block _ (Array.getElem?_eq_some_iff.1 HX.out).1).trans HX.out)
    have HY := hide ((hb1.block _ (Array.getElem?_eq_some_iff.1 HY.out).1).trans HY.out)
    have HW := hide (HW.out.tr hb1)
    clear hb1
    have x0 := cell_at (j := 0) HX.out rfl
    have y0 := cell_at (j := 0) HY.out rfl
    have lx := (Array.getElem?_eq_some_iff.1 HX.out).1
    have ly := (Array.getElem?_eq_some_iff.1 HY.out).1
    go_wp2_with fail
    (with_reducible refine (HG.out _ HW.out).mono ?_)
    rintro r w2 ⟨rfl, hb1⟩
    clear x0 y0 lx ly
    have HX := hide ((hb1.block _ (Array.getElem?_eq_some_iff.1 HX.out).1).trans HX.out)
    have HY := hide ((hb1.block _ (Array.getElem?_eq_some_iff.1 HY.out).1).trans HY.out)
    have HW := hide (HW.out.tr hb1)
    clear hb1
    have x0 := cell_at (j := 0) HX.out rfl
    have y0 := cell_at (j := 0) HY.out rfl
    have lx := (Array.getElem?_eq_some_iff.1 HX.out).1
    have ly := (Array.getElem?_eq_some_iff.1 HY.out).1
    go_wp2_with fail
    go_ret
    exact ⟨ret_bool (by have := HR.out; simpa using this), HW.out⟩
  have hlen2 : ((l.length : Int) != (m.length : Int)) = false := by simpa using hlen
  have hlm : Hid (l.length = m.length) := hide (by omega)
  have HR : Hid (eqFs l m = R) := hide (by simpa using hR)
  clear hR hlen
  go_enter Tryz.func22, Tryz.ntmps22
  go_wp2_with fail
  (with_reducible refine (HF.out _ HW.out).mono ?_)
  rintro r w1 ⟨rfl, hb1⟩
  have HX := hide ((hb1.block _ (Array.getElem?_eq_some_iff.1 HX.out).1).trans HX.out)
  have HY := hide ((hb1.block _ (Array.getElem?_eq_some_iff.1 HY.out).1).trans HY.out)
  have HW := hide (HW.out.tr hb1)
  clear hb1
  have x0 := cell_at (j := 0) HX.out rfl
  have y0 := cell_at (j := 0) HY.out rfl
  have lx := (Array.getElem?_eq_some_iff.1 HX.out).1
  have ly := (Array.getElem?_eq_some_iff.1 HY.out).1
  go_wp2_with fail
  (with_reducible refine (HG.out _ HW.out).mono ?_)
  rintro r w2 ⟨rfl, hb1⟩
  clear x0 y0 lx ly
  have HX := hide ((hb1.block _ (Array.getElem?_eq_some_iff.1 HX.out).1).trans HX.out)
  have HY := hide ((hb1.block _ (Array.getElem?_eq_some_iff.1 HY.out).1).trans HY.out)
  have HW := hide (HW.out.tr hb1)
  clear hb1
  have x0 := cell_at (j := 0) HX.out rfl
  have y0 := cell_at (j := 0) HY.out rfl
  have lx := (Array.getElem?_eq_some_iff.1 HX.out).1
  have ly := (Array.getElem?_eq_some_iff.1 HY.out).1
  go_wp2_with fail
  obtain ⟨w0, rfl⟩ : ∃ w0 : World, w0 = w2 := ⟨_, rfl⟩
  go_loopw [5] (fun i wr => ∃ k : Nat, k ≤ l.length ∧ i = .int .i64 k ∧ Hid (∀ (i : Nat) (h : i < l.length) (h' : i < m.length), i < k → eqF l[i] m[i] = true) ∧ Hid (Below w0.heap.size w0 wr)) (fun i _ => l.length - (intOf i).toNat)
  case atStart => exact ⟨0, Nat.zero_le _, rfl, fun i _ _ h => absurd h (Nat.not_lt_zero _), bl _⟩
  case round =>
    obtain ⟨k, hk, rfl, hall, HB0⟩ := hrel
    replace x0 := cell_keep x0 HB0.out (Nat.le_refl _)
    replace y0 := cell_keep y0 HB0.out (Nat.le_refl _)
    replace lx := Nat.lt_of_lt_of_le lx HB0.out.size
    replace ly := Nat.lt_of_lt_of_le ly HB0.out.size
    have HW2 := hide (HW.out.tr HB0.out)
    by_cases hlt : k < l.length
    · have hlt' : k < m.length := by have := hlm.out; omega
      obtain ⟨b, o, rfl⟩ := HL.out.addr (by omega)
      obtain ⟨b', o', rfl⟩ := HM.out.addr (by omega)
      obtain ⟨pp, pb, cp, cb, c0, c1, c2, c3, c4, hfw, hps, hrow⟩ := (HL.out.at_ b o rfl k hlt).has (has_below HW2.out)
      obtain ⟨pp', pb', cp', cb', d0, d1, d2, d3, d4, hfw', hps', hrow'⟩ := (HM.out.at_ b' o' rfl k hlt').has (has_below HW2.out)
      have HSF := hide fun (W : World) (hW : Below wr.heap.size wr W) => refSameFunc_any l[k] m[k] _ _ W (⟨pp, pb, cp, cb, rfl, hfw, hps.has (has_below hW), hrow.has (has_below hW)⟩ : Fn.Val W l[k] _) (⟨pp', pb', cp', cb', rfl, hfw', hps'.has (has_below hW), hrow'.has (has_below hW)⟩ : Fn.Val W m[k] _)
      have hk0 : (0 : Int) ≤ (k : Int) := by omega
      have hk1 : (k : Int) < (l.length : Int) := by omega
      have hk2 : (k : Int) < (m.length : Int) := by omega
      clear hfw hps hrow hfw' hps' hrow'
      cases hq : eqF l[k] m[k]
      · rw [hq] at HSF
        have hne : eqFs l m = false := by rw [eqL_fs]; exact eqL_no (p := eqF) k hlt hlt' hq
        have HR : Hid (R = false) := hide (by rw [← HR.out, hne])
        clear hq hne
        have hB := (bl wr).dr
        go_wp2_with fail
        go_region_held3 (fun w' => w'.cell? ⟨w.heap.size, 0, none⟩ = some (.slice (some ⟨b, o, none⟩) l.length cap) ∧ w'.cell? ⟨w.heap.size + 1, 0, none⟩ = some (.slice (some ⟨b', o', none⟩) m.length cap') ∧ w'.cell? ⟨b, o + k * 5, none⟩ = some (.string ⟨l[k].name.toArray⟩) ∧ w'.cell? ⟨b, o + k * 5 + 1, none⟩ = some (.slice pp l[k].params.length cp) ∧ w'.cell? ⟨b, o + k * 5 + 2, none⟩ = some (.int .i64 l[k].result) ∧
w'.cell? ⟨b, o + k * 5 + 3, none⟩ = some (.slice pb l[k].body.length cb) ∧ w'.cell? ⟨b, o + k * 5 + 4, none⟩ = some (.int .i64 l[k].count) ∧ w'.cell? ⟨b', o' + k * 5, none⟩ = some (.string ⟨m[k].name.toArray⟩) ∧ w'.cell? ⟨b', o' + k * 5 + 1, none⟩ = some (.slice pp' m[k].params.length cp') ∧ w'.cell? ⟨b', o' + k * 5 + 2, none⟩ = some (.int .i64 m[k].result) ∧
w'.cell? ⟨b', o' + k * 5 + 3, none⟩ = some (.slice pb' m[k].body.length cb') ∧ w'.cell? ⟨b', o' + k * 5 + 4, none⟩ = some (.int .i64 m[k].count))
          (first | exact ⟨cell_keep x0 hB (Nat.le_refl _), cell_keep y0 hB (Nat.le_refl _), cell_keep c0 hB (Nat.le_refl _), cell_keep c1 hB (Nat.le_refl _), cell_keep c2 hB (Nat.le_refl _), cell_keep c3 hB (Nat.le_refl _), cell_keep c4 hB (Nat.le_refl _), cell_keep d0 hB (Nat.le_refl _), cell_keep d1 hB (Nat.le_refl _), cell_keep d2 hB (Nat.le_refl _), cell_keep d3 hB (Nat.le_refl _), cell_keep d4 hB (Nat.le_refl _)⟩ | go_keep)
          (first | (go_at_call 24; (with_reducible refine (HSF.out _ hB).mono ?_); rintro r w5 ⟨rfl, hb⟩; have hB := hB.tr hb; clear hb))
        all_goals
          go_wp2_with fail
          go_ret
          exact ⟨ret_bool HR.out.symm, HW2.out.tr hB⟩
      · rw [hq] at HSF
        have HQ := hide hq
        clear hq
        have hB := (bl wr).dr
        go_wp2_with fail
        go_region_held3 (fun w' => w'.cell? ⟨w.heap.size, 0, none⟩ = some (.slice (some ⟨b, o, none⟩) l.length cap) ∧ w'.cell? ⟨w.heap.size + 1, 0, none⟩ = some (.slice (some ⟨b', o', none⟩) m.length cap') ∧ w'.cell? ⟨b, o + k * 5, none⟩ = some (.string ⟨l[k].name.toArray⟩) ∧ w'.cell? ⟨b, o + k * 5 + 1, none⟩ = some (.slice pp l[k].params.length cp) ∧ w'.cell? ⟨b, o + k * 5 + 2, none⟩ = some (.int .i64 l[k].result) ∧
w'.cell? ⟨b, o + k * 5 + 3, none⟩ = some (.slice pb l[k].body.length cb) ∧ w'.cell? ⟨b, o + k * 5 + 4, none⟩ = some (.int .i64 l[k].count) ∧ w'.cell? ⟨b', o' + k * 5, none⟩ = some (.string ⟨m[k].name.toArray⟩) ∧ w'.cell? ⟨b', o' + k * 5 + 1, none⟩ = some (.slice pp' m[k].params.length cp') ∧ w'.cell? ⟨b', o' + k * 5 + 2, none⟩ = some (.int .i64 m[k].result) ∧
w'.cell? ⟨b', o' + k * 5 + 3, none⟩ = some (.slice pb' m[k].body.length cb') ∧ w'.cell? ⟨b', o' + k * 5 + 4, none⟩ = some (.int .i64 m[k].count))
          (first | exact ⟨cell_keep x0 hB (Nat.le_refl _), cell_keep y0 hB (Nat.le_refl _), cell_keep c0 hB (Nat.le_refl _), cell_keep c1 hB (Nat.le_refl _), cell_keep c2 hB (Nat.le_refl _), cell_keep c3 hB (Nat.le_refl _), cell_keep c4 hB (Nat.le_refl _), cell_keep d0 hB (Nat.le_refl _), cell_keep d1 hB (Nat.le_refl _), cell_keep d2 hB (Nat.le_refl _), cell_keep d3 hB (Nat.le_refl _), cell_keep d4 hB (Nat.le_refl _)⟩ | go_keep)
          (first | (go_at_call 24; (with_reducible refine (HSF.out _ hB).mono ?_); rintro r w5 ⟨rfl, hb⟩; have hB := hB.tr hb; clear hb))
        all_goals
          go_wp2_with fail
          go_roundw
          case rel =>
            refine ⟨k + 1, by omega, by go_num, ?_, HB0.out.tr hB⟩
            intro i hi hi' hik
            by_cases e : i = k
            · subst e; exact HQ.out
            · exact hall.out i hi hi' (by omega)
          case measure => simp [intOf]; omega
    · obtain rfl : k = l.length := by omega
      have hye : eqFs l m = true := (eqFs_all l m hlm.out).2 fun i h h' => hall.out i h h' h
      have HR : Hid (R = true) := hide (by rw [← HR.out, hye])
      clear hye
      go_wp2_with fail
      go_ret
      exact ⟨ret_bool HR.out.symm, HW2.out⟩
end Go.Proofs.YthpmecbekpmijaaGreatDoor
/- rewindlaw03.exprs and stmts return, whatever they count; rewindref03.SameExpr and SameStmt answer as the plain words say. -/
namespace Go.Proofs.YthpmecbekpmijaaGreatDoor
open Go Go.RowKit
set_option linter.unusedSimpArgs false
set_option linter.unusedVariables false
set_option linter.unnecessarySimpa false
def AnyInt (w : World) (r : Ending) (w' : World) : Prop := (∃ n : Int, r = .returned (.int .i64 n)) ∧ Below w.heap.size w w'
set_option maxRecDepth 20000 in
set_option maxHeartbeats 4000000 in
theorem exprs_law : ∀ (N : Nat) (l : List Ex) (a : Option Addr) (cap : Nat) (m : Int) (w : World), SizeOf.sizeOf l < N → l.length ≤ maxLen → Ex.Row w l a → Calls Tryz.prog 72 #[.slice a l.length cap, .int .i64 m] w (AnyInt w) := by
  intro N
  induction N with
  | zero => intro l a cap m w h; exact absurd h (Nat.not_lt_zero _)
  | succ N ih =>
    intro l a cap m w hN hll hl
    unfold maxLen at hll
    have HL := hide hl
    have IH := hide ih
    clear ih hl
    go_enter Tryz.func72, Tryz.ntmps72
    go_wp2_with fail
    go_loopw [5, 10] (fun n i wr => ∃ (k : Nat) (c : Int), k ≤ l.length ∧ i = .int .i64 k ∧ n = .int .i64 c ∧ Below w.heap.size w wr) (fun _ i _ => l.length - (intOf i).toNat)
    case atStart => exact ⟨0, 0, Nat.zero_le _, rfl, rfl, bl _⟩
    case round =>
      obtain ⟨k, c, hk, rfl, rfl, hb⟩ := hrel
      by_cases hlt : k < l.length
      · obtain ⟨b, o, rfl⟩ := HL.out.addr (by omega)
        obtain ⟨ax, capx, c0, c1, c2, c3, c4, hw, hr⟩ := ((HL.out.get k hlt).has (has_below hb)).val
        have hbl := cell_lt c0
        simp only at hbl
        have hsz := exs_sz hlt
        have H1 := hide fun (m : Int) (W : World) (hW : Below wr.heap.size wr W) => IH.out l[k].args ax capx m W (by omega) (Nat.le_trans hw.len hw.cap) (hr.has (has_below hW))
        clear hw hr hsz
        generalize hg : IntKind.i64.wrap (c + 1) = c' at *
        go_wp2_with fail
        · go_ret
          exact ⟨⟨_, rfl⟩, hb.al _⟩
        · refine (H1.out _ _ ((bl wr).al _)).mono ?_
          rintro r w2 ⟨⟨c2, rfl⟩, hb2⟩
          have hB2 := (hb.al (.cells #[.int .i64 l[k].kind, .int .i64 l[k].op, .int .i64 l[k].num, .string ⟨l[k].name.toArray⟩, .slice ax l[k].args.length capx] 27)).tr hb2
          clear hb2
          go_wp2_with fail
          go_roundw
          case rel => exact ⟨k + 1, _, by omega, by go_num, rfl, hB2⟩
          case measure => simp [intOf]; omega
      · obtain rfl : k = l.length := by omega
        go_wp2_with fail
        go_ret
        exact ⟨⟨_, rfl⟩, hb⟩
set_option maxRecDepth 20000 in
set_option maxHeartbeats 4000000 in
theorem stmts_law : ∀ (N : Nat) (l : List St) (a : Option Addr) (cap : Nat) (m : Int) (w : World), SizeOf.sizeOf l < N → l.length ≤ maxLen → St.Row w l a → Calls Tryz.prog 39 #[.slice a l.length cap, .int .i64 m] w (AnyInt w) := by
  intro N
  induction N with
  | zero => intro l a cap m w h; exact absurd h (Nat.not_lt_zero _)
  | succ N ih =>
    intro l a cap m w hN hll hl
    unfold maxLen at hll
    have HL := hide hl
    have IH := hide ih
    clear ih hl
    go_enter Tryz.func39, Tryz.ntmps39
    go_wp2_with fail
    go_loopw [5, 10] (fun n i wr => ∃ (k : Nat) (c : Int), k ≤ l.length ∧ i = .int .i64 k ∧ n = .int .i64 c ∧ Below w.heap.size w wr) (fun _ i _ => l.length - (intOf i).toNat)
    case atStart => exact ⟨0, 0, Nat.zero_le _, rfl, rfl, bl _⟩
    case round =>
      obtain ⟨k, c, hk, rfl, rfl, hb⟩ := hrel
      by_cases hlt : k < l.length
      · obtain ⟨b, o, rfl⟩ := HL.out.addr (by omega)
        obtain ⟨pa, pb, pe, ca, cb, ce, ⟨c0, c1, c2, c3, c4, c5, c6, c7⟩, hw, hx1, hx2, hx3⟩ := ((HL.out.get k hlt).has (has_below hb)).val
        have hbl := cell_lt c0
        simp only at hbl
        obtain ⟨hs1, hs2⟩ := sts_sz hlt
        have H1 := hide fun (m : Int) (W : World) (hW : Below wr.heap.size wr W) => exprs_law _ l[k].args pa ca m W (Nat.lt_succ_self _) (Nat.le_trans hw.la hw.ca) (hx1.has (has_below hW))
        have H2 := hide fun (m : Int) (W : World) (hW : Below wr.heap.size wr W) => IH.out l[k].body pb cb m W (by omega) (Nat.le_trans hw.lb hw.cb) (hx2.has (has_below hW))
        have H3 := hide fun (m : Int) (W : World) (hW : Below wr.heap.size wr W) => IH.out l[k].els pe ce m W (by omega) (Nat.le_trans hw.le hw.ce) (hx3.has (has_below hW))
        have HX0 := hide (heap_alloc_new wr (.cells #[.int .i64 l[k].kind, .int .i64 l[k].no, .string ⟨l[k].name.toArray⟩, .int .i64 l[k].typ, .string ⟨l[k].callee.toArray⟩, .slice pa l[k].args.length ca, .slice pb l[k].body.length cb, .slice pe l[k].els.length ce] 34))
        have hB1 := (bl wr).al (.cells #[.int .i64 l[k].kind, .int .i64 l[k].no, .string ⟨l[k].name.toArray⟩, .int .i64 l[k].typ, .string ⟨l[k].callee.toArray⟩, .slice pa l[k].args.length ca, .slice pb l[k].body.length cb, .slice pe l[k].els.length ce] 34)
        clear hw hx1 hx2 hx3 hs1 hs2
        generalize hg : IntKind.i64.wrap (c + 1) = c' at *
        go_wp2_with fail
        · go_ret
          exact ⟨⟨_, rfl⟩, hb.al _⟩
        · refine (H1.out _ _ hB1).mono ?_
          rintro r w2 ⟨⟨n2, rfl⟩, hb2⟩
          have hB2 := hB1.tr hb2
          have HX2 := hide ((hb2.block _ (by simp)).trans HX0.out)
          have x6 := cell_at (j := 6) HX2.out rfl
          have l2 : wr.heap.size < w2.heap.size := (Array.getElem?_eq_some_iff.1 HX2.out).1
          clear hb2 hB1
          go_wp2_with fail
          refine (H2.out _ _ hB2).mono ?_
          rintro r w3 ⟨⟨n3, rfl⟩, hb3⟩
          have hB3 := hB2.tr hb3
          have HX3 := hide ((hb3.block _ l2).trans HX2.out)
          have x7 := cell_at (j := 7) HX3.out rfl
          have l3 : wr.heap.size < w3.heap.size := (Array.getElem?_eq_some_iff.1 HX3.out).1
          clear hb3 hB2 x6
          go_wp2_with fail
          refine (H3.out _ _ hB3).mono ?_
          rintro r w4 ⟨⟨n4, rfl⟩, hb4⟩
          have hB4 := hB3.tr hb4
          clear hb4 hB3 x7
          go_wp2_with fail
          go_roundw
          case rel => exact ⟨k + 1, _, by omega, by go_num, rfl, hb.tr hB4⟩
          case measure => simp [intOf]; omega
      · obtain rfl : k = l.length := by omega
        go_wp2_with fail
        go_ret
        exact ⟨⟨_, rfl⟩, hb⟩
end Go.Proofs.YthpmecbekpmijaaGreatDoor
/- rewindlaw03.few returns, whatever it answers. -/
namespace Go.Proofs.YthpmecbekpmijaaGreatDoor
open Go Go.RowKit
set_option linter.unusedSimpArgs false
set_option linter.unusedVariables false
set_option linter.unnecessarySimpa false
def AnyBool (w : World) (r : Ending) (w' : World) : Prop := (∃ b : Bool, r = .returned (.bool b)) ∧ Below w.heap.size w w'
set_option maxRecDepth 20000 in
set_option maxHeartbeats 4000000 in
theorem few_any (l : List Fn) (a : Option Addr) (cap : Nat) (w : World) (hl : Fns w l a cap) : Calls Tryz.prog 16 #[.agg #[.slice a l.length cap]] w (AnyBool w) := by
  have hlen : l.length ≤ 9223372036854775807 := Nat.le_trans hl.len hl.cap
  have hlc := hl.len
  have hcm : cap ≤ 9223372036854775807 := hl.cap
  have HL := hide hl
  have HX : Hid ((w.alloc (.cells #[.slice a l.length cap] 38)).heap[w.heap.size]? = some (.cells #[.slice a l.length cap] 38 (0, 0))) := hide (heap_alloc_new _ _)
  clear hl
  go_enter Tryz.func16, Tryz.ntmps16
  go_wp2_with fail
  go_loopw [3, 14] (fun n i wr => ∃ (k : Nat) (c : Int), k ≤ l.length ∧ i = .int .i64 k ∧ n = .int .i64 c ∧ Hid (wr.heap[w.heap.size]? = some (.cells #[.slice a l.length cap] 38 (0, 0))) ∧ Hid (Below w.heap.size w wr)) (fun _ i _ => l.length - (intOf i).toNat)
  case atStart => exact ⟨0, 0, Nat.zero_le _, rfl, rfl, HX.out, (bl w).al _⟩
  case round =>
    obtain ⟨k, c, hk, rfl, rfl, HXR, HB⟩ := hrel
    have x0 := cell_at (j := 0) HXR.out rfl
    have lx := (Array.getElem?_eq_some_iff.1 HXR.out).1
    by_cases hlt : k < (min (l.length : Int) 26).toNat
    · have hkl : k < l.length := by omega
      obtain ⟨b, o, rfl⟩ := HL.out.addr (by omega)
      obtain ⟨pp, pb, cp, cb, c0, c1, c2, c3, c4, hfw, hps, hrow⟩ := (HL.out.at_ b o rfl k hkl).has (has_below HB.out)
      have HS := hide fun (W : World) (hW : Below wr.heap.size wr W) => stmts_law _ l[k].body pb cb 700 W (Nat.lt_succ_self _) (Nat.le_trans hfw.lb hfw.cb) (hrow.has (has_below hW))
      have HFB : Hid ((wr.alloc (.cells #[.string ⟨l[k].name.toArray⟩, .slice pp l[k].params.length cp, .int .i64 l[k].result, .slice pb l[k].body.length cb, .int .i64 l[k].count] 42)).heap[wr.heap.size]? = some (.cells #[.string ⟨l[k].name.toArray⟩, .slice pp l[k].params.length cp, .int .i64 l[k].result, .slice pb l[k].body.length cb, .int .i64 l[k].count] 42 (0, 0))) := hide (heap_alloc_new _ _)
      have HXR2 := hide ((Below.heap_alloc _ (.cells #[.string ⟨l[k].name.toArray⟩, .slice pp l[k].params.length cp, .int .i64 l[k].result, .slice pb l[k].body.length cb, .int .i64 l[k].count] 42) _ lx).trans HXR.out)
      clear hfw hps hrow
      go_wp2_with fail
      have z1 := cell_at (j := 1) HFB.out rfl
      have z3 := cell_at (j := 3) HFB.out rfl
      have HB2 := hide ((bl wr).al (.cells #[.string ⟨l[k].name.toArray⟩, .slice pp l[k].params.length cp, .int .i64 l[k].result, .slice pb l[k].body.length cb, .int .i64 l[k].count] 42))
      generalize wr.alloc (.cells #[.string ⟨l[k].name.toArray⟩, .slice pp l[k].params.length cp, .int .i64 l[k].result, .slice pb l[k].body.length cb, .int .i64 l[k].count] 42) = W1 at *
      have hB := (bl W1).dr
      go_region_held3 (fun w' => w'.cell? ⟨wr.heap.size, 1, none⟩ = some (.slice pp l[k].params.length cp) ∧ w'.cell? ⟨wr.heap.size, 3, none⟩ = some (.slice pb l[k].body.length cb))
        (first | exact ⟨cell_keep z1 hB (Nat.le_refl _), cell_keep z3 hB (Nat.le_refl _)⟩ | go_keep)
        (first | (go_at_call 39; (with_reducible refine (HS.out _ (HB2.out.tr hB)).mono ?_); rintro r w5 ⟨⟨c5, rfl⟩, hb⟩; have hB := hB.tr hb; clear hb))
      all_goals
        have HXF := hide ((hB.block _ (Array.getElem?_eq_some_iff.1 HXR2.out).1).trans HXR2.out)
        have HBF := hide (HB.out.tr (HB2.out.tr hB))
        go_wp2_with fail
        · go_ret
          exact ⟨⟨_, rfl⟩, HBF.out⟩
        · go_roundw
          case rel => exact ⟨k + 1, _, by omega, by go_num, rfl, HXF.out, HBF.out⟩
          case measure => simp [intOf]; omega
    · go_wp2_with fail
      go_ret
      exact ⟨⟨_, rfl⟩, HB.out⟩
end Go.Proofs.YthpmecbekpmijaaGreatDoor
/- ShapePrograms returns true for every two programs, where the table of blanks is laid: the walk. -/
namespace Go.Proofs.YthpmecbekpmijaaGreatDoor
open Go Go.RowKit
set_option linter.unusedSimpArgs false
set_option linter.unusedVariables false
set_option linter.unnecessarySimpa false
theorem check_number_all (l : List Fn) : checkM (numberM l) = 0 := by
  by_cases h : l.length ≤ 20 ∧ ∀ f ∈ l, fnOk f = true
  · exact check_number h
  · rw [numberM, if_neg h]; rfl
theorem has_between {w W : World} {m : Nat} (h : Below w.heap.size w W) : Has w (av (between w.heap.size m) W) := fun b o v hv => av_cell.2 ⟨fun hg => by
  have h1 := cell_lt hv
  have h2 := mem_between.1 hg
  simp only at h1
  omega, cell_keep hv h (Nat.le_refl _)⟩
theorem PrOwn.away {w V : World} {base : Nat} {l : List Fn} {a : Option Addr} {cap : Nat} {X : List Nat} (h : PrOwn w base l a cap) (hX : ∀ x ∈ X, x < base ∨ w.heap.size ≤ x) (hk : Kept X w V) : Fns V l a cap := by
  obtain ⟨h1, h2, h3⟩ := h
  refine PrOwn.fns (base := base) ⟨h1, h2, ?_⟩
  rcases h3 with rfl | ⟨g, C, t, rfl, hg, hC, h4⟩
  · exact .inl rfl
  · have hl := (Array.getElem?_eq_some_iff.1 hC).1
    have hgX : g ∉ X := fun hx => by have := hX g hx; omega
    exact .inr ⟨g, C, t, rfl, hg, hk.heap hgX hC, (h4.stay (fun j v _ _ hv => hk.cell hgX hv) (fun b h1 h2 h3 => hk.block b h3 fun hx => by have := hX b hx; omega)).wide hk.size⟩
/-- Where the two numbered programs lie. -/
def PgRel (w2 : World) (ln : List Fn) (V : World) (n5 n6 : Nat) : Prop := ∃ (pa pb : Option Addr) (ca cb : Nat), V.cell? ⟨n5, 0, none⟩ = some (.slice pa ln.length ca) ∧ V.cell? ⟨n6, 0, none⟩ = some (.slice pb ln.length cb) ∧ Fns V ln pa ca ∧ Fns V ln pb cb ∧ Below w2.heap.size w2 V
theorem pg_fin {w2 w5 w6 V : World} {ln : List Fn} {n5 n6 base m2 ca cb : Nat} {pa pb : Option Addr} (hA : PrOwn w5 base ln pa ca) (h56 : Below w5.heap.size w5 w6) (hB : Fns (av (between w2.heap.size m2) w6) ln pb cb) (h26 : Below w2.heap.size w2 w6)
    (x5 : n5 < base ∨ w5.heap.size ≤ n5) (x6 : n6 < base ∨ w5.heap.size ≤ n6) (y5 : w2.heap.size ≤ n5 ∧ n5 < m2 ∨ w6.heap.size ≤ n5) (y6 : w2.heap.size ≤ n6 ∧ n6 < m2 ∨ w6.heap.size ≤ n6)
    (hk : Kept [n5, n6] w6 V) (c5 : V.cell? ⟨n5, 0, none⟩ = some (.slice pa ln.length ca)) (c6 : V.cell? ⟨n6, 0, none⟩ = some (.slice pb ln.length cb)) : PgRel w2 ln V n5 n6 := by
  have hs := h26.size
  refine ⟨pa, pb, ca, cb, c5, c6, hA.away (X := [n5, n6]) (by simp; exact ⟨x5, x6⟩) ((kept_below h56).tr hk), hB.has fun b o v hv => ?_, hk.below h26 (by simp; omega)⟩
  obtain ⟨h1, h2⟩ := av_cell.1 hv
  refine hk.cell (fun hx => ?_) h2
  have h3 := cell_lt h2
  simp only at h3
  rw [mem_between] at h1
  simp only [List.mem_cons, List.not_mem_nil, or_false] at hx
  omega
set_option maxRecDepth 20000 in
set_option maxHeartbeats 8000000 in
theorem ShapePrograms_any (l m : List Fn) (a a' : Option Addr) (cap cap' : Nat) (w : World) (hl : Fns w l a cap) (hm : Fns w m a' cap') (hT : Tab w) :
    Calls Tryz.prog 4 #[.agg #[.slice a l.length cap], .agg #[.slice a' m.length cap']] w fun r w' => r = .returned (.bool true) ∧ Below w.heap.size w w' := by
  have hll : l.length ≤ 9223372036854775807 := Nat.le_trans hl.len hl.cap
  have hml : m.length ≤ 9223372036854775807 := Nat.le_trans hm.len hm.cap
  have HF1 := hide fun (W : World) (hW : Below w.heap.size w W) => few_any l a cap W (hl.keep hW (Nat.le_refl _))
  have HF2 := hide fun (W : World) (hW : Below w.heap.size w W) => few_any m a' cap' W (hm.keep hW (Nat.le_refl _))
  have HL := hide hl
  have HM := hide hm
  have HT := hide hT
  have HY : Hid (((w.alloc (.cells #[.slice a l.length cap] 38)).alloc (.cells #[.slice a' m.length cap'] 38)).heap[w.heap.size + 1]? = some (.cells #[.slice a' m.length cap'] 38 (0, 0))) := hide (heap_newS (by simp))
  have HX : Hid (((w.alloc (.cells #[.slice a l.length cap] 38)).alloc (.cells #[.slice a' m.length cap'] 38)).heap[w.heap.size]? = some (.cells #[.slice a l.length cap] 38 (0, 0))) := hide ((Below.heap_alloc _ _ _ (by simp)).trans (heap_alloc_new w _))
  have HW : Hid (Below w.heap.size w ((w.alloc (.cells #[.slice a l.length cap] 38)).alloc (.cells #[.slice a' m.length cap'] 38))) := hide (((bl w).al _).al _)
  clear hl hm hT
  go_enter Tryz.func4, Tryz.ntmps4
  go_wp2_with fail
  (with_reducible refine (HF1.out _ HW.out).mono ?_)
  rintro r w1 ⟨⟨b1, rfl⟩, hb⟩
  have HX := hide ((hb.block _ (Array.getElem?_eq_some_iff.1 HX.out).1).trans HX.out)
  have HY := hide ((hb.block _ (Array.getElem?_eq_some_iff.1 HY.out).1).trans HY.out)
  have HW := hide (HW.out.tr hb)
  clear hb
  cases b1
  · go_wp2_with fail
    refine (works_any _ (HT.out.below HW.out)).mono ?_
    rintro r w9 ⟨rfl, hb⟩
    have HW := hide (HW.out.tr hb)
    clear hb
    go_wp2_with fail
    go_ret
    exact ⟨rfl, HW.out⟩
  have x0 := cell_at (j := 0) HX.out rfl
  have y0 := cell_at (j := 0) HY.out rfl
  have lx := (Array.getElem?_eq_some_iff.1 HX.out).1
  have ly := (Array.getElem?_eq_some_iff.1 HY.out).1
  go_wp2_with fail
  (with_reducible refine (HF2.out _ HW.out).mono ?_)
  rintro r w2 ⟨⟨b2, rfl⟩, hb⟩
  clear x0 y0 lx ly
  have HX := hide ((hb.block _ (Array.getElem?_eq_some_iff.1 HX.out).1).trans HX.out)
  have HY := hide ((hb.block _ (Array.getElem?_eq_some_iff.1 HY.out).1).trans HY.out)
  have HW := hide (HW.out.tr hb)
  clear hb
  cases b2
  · go_wp2_with fail
    refine (works_any _ (HT.out.below HW.out)).mono ?_
    rintro r w9 ⟨rfl, hb⟩
    have HW := hide (HW.out.tr hb)
    clear hb
    go_wp2_with fail
    go_ret
    exact ⟨rfl, HW.out⟩
  clear HF1 HF2
  have x0 := cell_at (j := 0) HX.out rfl
  have y0 := cell_at (j := 0) HY.out rfl
  have lx := (Array.getElem?_eq_some_iff.1 HX.out).1
  have ly := (Array.getElem?_eq_some_iff.1 HY.out).1
  have HN1 := hide fun (W : World) (hW : Below w2.heap.size w2 W) => number_any l a cap W (HL.out.keep (HW.out.tr hW) (Nat.le_refl _)) (HT.out.below (HW.out.tr hW))
  have HN2 := hide fun (W : World) (hW : Below w2.heap.size w2 W) => refNumber_any (between w2.heap.size W.heap.size) l a cap W ((HL.out.keep HW.out (Nat.le_refl _)).has (has_between hW)) (fun g hg => (mem_between.1 hg).2)
  obtain ⟨ln, hln⟩ : ∃ ln, numberM l = ln := ⟨_, rfl⟩
  have HCL : Hid (checkM ln = 0) := hide (by rw [← hln]; exact check_number_all l)
  rw [hln] at HN1 HN2
  clear hln
  have hB0 := (bl w2).dr
  have hn2 : ¬ w.heap.size = w2.heap.size := Nat.ne_of_lt lx
  have hn3 : ¬ w2.heap.size = w.heap.size := Nat.ne_of_gt lx
  have hn4 : ¬ w.heap.size = w2.heap.size + 1 := Nat.ne_of_lt (Nat.lt_succ_of_lt lx)
  have hn5 : ¬ w2.heap.size + 1 = w.heap.size := Nat.ne_of_gt (Nat.lt_succ_of_lt lx)
  go_upto_region 3 with fail
  go_cut [5, 6] (fun s5 s6 wx => ∃ n5 n6 : Nat, s5 = .pointer (some ⟨n5, 0, none⟩) ∧ s6 = .pointer (some ⟨n6, 0, none⟩) ∧ Hid (PgRel w2 ln wx n5 n6))
  case first =>
    go_region_held3 (fun w' => w'.cell? ⟨w.heap.size, 0, none⟩ = some (.slice a l.length cap))
      (first | exact x0 | exact cell_keep x0 hB (Nat.le_refl _) | go_keep)
      (first | (go_at_call 17; (with_reducible refine (HN1.out _ ?_).mono ?_); (· (first | exact hB0 | exact hB0.al _ | exact (hB0.al _).al _)); rintro r w5 ⟨⟨pa, ca, rfl, hpo⟩, hb5⟩; (first | have hB := hB0.tr hb5 | have hB := (hB0.al _).tr hb5 | have hB := ((hB0.al _).al _).tr hb5); have HPO := hide hpo; have x5 := cell_keep x0 hB (Nat.le_refl _); have lx5 : w.heap.size < w5.heap.size := cell_lt x5; have hn6 : ¬ w.heap.size = w5.heap.size := Nat.ne_of_lt lx5; have hn7 : ¬ w5.heap.size = w.heap.size := Nat.ne_of_gt lx5; have hn8 : ¬ w.heap.size = w5.heap.size + 1 := Nat.ne_of_lt (Nat.lt_succ_of_lt lx5); have hn9 : ¬ w5.heap.size + 1 = w.heap.size := Nat.ne_of_gt (Nat.lt_succ_of_lt lx5); have hz5 := hb5.size; (try simp only [World.alloc, World.drew, Array.size_push] at hz5); (first | have hz5a : w2.heap.size + 1 < w5.heap.size := hz5 | skip); (first | have hz5b : w2.heap.size < w5.heap.size := hz5 | have hz5b : w2.heap.size < w5.heap.size := Nat.lt_of_succ_lt hz5 | skip); obtain ⟨hc5, hf5⟩ := bcell hb5; clear hpo hb5)
             | (go_at_call 18; (with_reducible refine (HN2.out _ ?_).mono ?_); (· (first | exact hB | exact hB.al _ | exact (hB.al _).al _)); rintro r w6 ⟨⟨v6, rfl, hown⟩, hb6⟩; obtain ⟨pb, cb6, rfl, hfn⟩ := hown.fns (fun g hg => (mem_between.1 hg).2); (first | (with_reducible have h56 : Below w5.heap.size w5 w6 := hb6) | (with_reducible have h56 : Below w5.heap.size w5 w6 := ((bl w5).al _).tr hb6) | (with_reducible have h56 : Below w5.heap.size w5 w6 := (((bl w5).al _).al _).tr hb6)); have hB := hB.tr h56; have HFN := hide hfn; have x6 := cell_keep x0 hB (Nat.le_refl _); have lx6 : w.heap.size < w6.heap.size := cell_lt x6; have hz6 := hb6.size; (try simp only [World.alloc, World.drew, Array.size_push] at hz6); have hz56 := h56.size; (first | have hz6a : w5.heap.size + 1 < w6.heap.size := hz6 | skip); (first | have hz6b : w5.heap.size < w6.heap.size := hz6 | have hz6b : w5.heap.size < w6.heap.size := Nat.lt_of_succ_lt hz6 | skip); (first | have hz6c : w2.heap.size < w6.heap.size := Nat.lt_of_lt_of_le hz5b hz56 | skip); (first | have hz6d : w2.heap.size + 1 < w6.heap.size := Nat.lt_of_lt_of_le hz5a hz56 | skip); obtain ⟨hc6, hf6⟩ := bcell hb6; clear hown hfn hb6))
    all_goals
      go_wp2_with fail
      go_meet
      refine ⟨_, _, rfl, rfl, hide ?_⟩
      refine pg_fin HPO.out h56 HFN.out hB ?_ ?_ ?_ ?_ ?_ ?_ ?_
      · (try simp only [World.alloc, World.drew, Array.size_push]); omega
      · (try simp only [World.alloc, World.drew, Array.size_push]); omega
      · (try simp only [World.alloc, World.drew, Array.size_push]); omega
      · (try simp only [World.alloc, World.drew, Array.size_push]); omega
      · repeat (first | (with_reducible refine Kept.al ?_ _) | (with_reducible refine Kept.set ?_ (.inl (by simp)) _ _))
        exact Kept.refl _ _
      · first | (go_simp; done) | (go_simp; exact set_same (v := Value.slice none 0 0) (by go_simp))
      · first | (go_simp; done) | (go_simp; exact set_same (v := Value.slice none 0 0) (by go_simp))
  case rest =>
    obtain ⟨n5, n6, rfl, rfl, HPG⟩ := hcut
    obtain ⟨pa, pb, ca, cb, z5, z6, hfa, hfb, hbc⟩ := HPG.out
    have HXC := hide ((hbc.block _ lx).trans HX.out)
    have HYC := hide ((hbc.block _ ly).trans HY.out)
    have HWC := hide (HW.out.tr hbc)
    have hnl : ln.length ≤ 9223372036854775807 := Nat.le_trans hfa.len hfa.cap
    have HFA := hide hfa
    have HFB := hide hfb
    clear x0 y0 lx ly hbc hfa hfb HPG HN1 HN2 hB0 hn2 hn3 hn4 hn5
    have x0 := cell_at (j := 0) HXC.out rfl
    have y0 := cell_at (j := 0) HYC.out rfl
    have lx := (Array.getElem?_eq_some_iff.1 HXC.out).1
    have ly := (Array.getElem?_eq_some_iff.1 HYC.out).1
    have HC1 := hide fun (W : World) (hW : Below wc.heap.size wc W) => check_any l a cap W (HL.out.keep (HWC.out.tr hW) (Nat.le_refl _)) (HT.out.below (HWC.out.tr hW))
    have HC2 := hide fun (W : World) (hW : Below wc.heap.size wc W) => refCheck_any l a cap W (HL.out.keep (HWC.out.tr hW) (Nat.le_refl _))
    have HS1 := hide fun (W : World) (hW : Below wc.heap.size wc W) => same_any l m a a' cap cap' W (HL.out.keep (HWC.out.tr hW) (Nat.le_refl _)) (HM.out.keep (HWC.out.tr hW) (Nat.le_refl _)) (HT.out.below (HWC.out.tr hW))
    have HS2 := hide fun (W : World) (hW : Below wc.heap.size wc W) => refSame_any l m a a' cap cap' W (HL.out.keep (HWC.out.tr hW) (Nat.le_refl _)) (HM.out.keep (HWC.out.tr hW) (Nat.le_refl _))
    have hc3 := fun (W : World) (hW : Below wc.heap.size wc W) => refCheck_any ln pa ca W (HFA.out.keep hW (Nat.le_refl _))
    rw [HCL.out] at hc3
    have HC3 := hide hc3
    have hs3 := fun (W : World) (hW : Below wc.heap.size wc W) => refSame_any ln ln pa pb ca cb W (HFA.out.keep hW (Nat.le_refl _)) (HFB.out.keep hW (Nat.le_refl _))
    rw [sameM_refl HCL.out] at hs3
    have HS3 := hide hs3
    generalize checkM l = c1 at *
    generalize sameM l m = q1 at *
    have hne1 : (c1 != c1) = false := by simp
    have hne2 : (q1 != q1) = false := by simp
    have hne3 : (((ln.length : Nat) : Int) != ((ln.length : Nat) : Int)) = false := by simp
    have hB := (bl wc).dr
    clear hc3 hs3
    go_wp2_with fail
    refine wp_region_held_drew (S := (fun w' => w'.cell? ⟨w.heap.size, 0, none⟩ = some (.slice a l.length cap) ∧ w'.cell? ⟨w.heap.size + 1, 0, none⟩ = some (.slice a' m.length cap') ∧ w'.cell? ⟨n5, 0, none⟩ = some (.slice pa ln.length ca) ∧ w'.cell? ⟨n6, 0, none⟩ = some (.slice pb ln.length cb))) (by kernel_rfl) ?_ (fun hHeld => ?_)
    · ((try dsimp only); first | done | exact ⟨cell_keep x0 hB (Nat.le_refl _), cell_keep y0 hB (Nat.le_refl _), cell_keep z5 hB (Nat.le_refl _), cell_keep z6 hB (Nat.le_refl _)⟩)
    refine wpAnyH_take (i := 0) (v := ?_) (by simp only [List.getElem?_toArray, List.getElem?_cons_succ, List.getElem?_cons_zero]; rfl) (by kernel_rfl) (by kernel_rfl) (by kernel_rfl) (by exact fun _ _ _ h => h) (Or.inl ⟨by rfl, ?_⟩) (by assumption) ?_
    rotate_left 1
    · ((intro w hSw; (try dsimp only at hSw); go_simp) <;> with_reducible rfl)
    try simp only [Act.put, List.setIfInBounds_toArray, List.set_cons_zero, List.set_cons_succ]
    refine wpAnyH_take (i := 2) (v := ?_) (by simp only [List.getElem?_toArray, List.getElem?_cons_succ, List.getElem?_cons_zero]; rfl) (by kernel_rfl) (by kernel_rfl) (by kernel_rfl) (by exact fun _ _ _ h => h) (Or.inl ⟨by rfl, ?_⟩) (by assumption) ?_
    rotate_left 1
    · ((intro w hSw; (try dsimp only at hSw); go_simp) <;> with_reducible rfl)
    try simp only [Act.put, List.setIfInBounds_toArray, List.set_cons_zero, List.set_cons_succ]
    refine wpAnyH_ready (rs := [1]) (by kernel_rfl) (by simp) ?_
    refine AllReadyH.cons rfl (fun K hK => ?_) AllReadyH.nil
    go_simp
    (go_at_call 19; (with_reducible refine (HC1.out _ hB).mono ?_); rintro r w7 ⟨rfl, hb⟩; have hB := hB.tr hb; clear hb)
    try go_wp2_with fail
    refine hK.out _ _ ?_ (fun hHeld => ?_)
    · ((try dsimp only); first | done | exact ⟨cell_keep x0 hB (Nat.le_refl _), cell_keep y0 hB (Nat.le_refl _), cell_keep z5 hB (Nat.le_refl _), cell_keep z6 hB (Nat.le_refl _)⟩)
    clear hK K
    try simp only [Act.put, List.setIfInBounds_toArray, List.set_cons_zero, List.set_cons_succ]
    refine wpAnyH_ready (rs := [3]) (by kernel_rfl) (by simp) ?_
    refine AllReadyH.cons rfl (fun K hK => ?_) AllReadyH.nil
    go_simp
    (go_at_call 20; (with_reducible refine (HC2.out _ hB).mono ?_); rintro r w7 ⟨rfl, hb⟩; have hB := hB.tr hb; clear hb)
    try go_wp2_with fail
    refine hK.out _ _ ?_ (fun hHeld => ?_)
    · ((try dsimp only); first | done | exact ⟨cell_keep x0 hB (Nat.le_refl _), cell_keep y0 hB (Nat.le_refl _), cell_keep z5 hB (Nat.le_refl _), cell_keep z6 hB (Nat.le_refl _)⟩)
    clear hK K
    try simp only [Act.put, List.setIfInBounds_toArray, List.set_cons_zero, List.set_cons_succ]
    refine wpAnyH_take (i := 4) (v := ?_) (by simp only [List.getElem?_toArray, List.getElem?_cons_succ, List.getElem?_cons_zero]; rfl) (by kernel_rfl) (by kernel_rfl) (by kernel_rfl) (by exact fun _ _ _ h => h) (Or.inl ⟨by rfl, ?_⟩) (by assumption) ?_
    rotate_left 1
    · ((intro w hSw; (try dsimp only at hSw); go_simp) <;> with_reducible rfl)
    try simp only [Act.put, List.setIfInBounds_toArray, List.set_cons_zero, List.set_cons_succ]
    refine wpAnyH_take (i := 5) (v := ?_) (by simp only [List.getElem?_toArray, List.getElem?_cons_succ, List.getElem?_cons_zero]; rfl) (by kernel_rfl) (by kernel_rfl) (by kernel_rfl) (by exact fun _ _ _ h => h) (Or.inl ⟨by rfl, ?_⟩) (by assumption) ?_
    rotate_left 1
    · ((intro w hSw; (try dsimp only at hSw); go_simp) <;> with_reducible rfl)
    try simp only [Act.put, List.setIfInBounds_toArray, List.set_cons_zero, List.set_cons_succ]
    refine wpAnyH_take (i := 6) (v := ?_) (by simp only [List.getElem?_toArray, List.getElem?_cons_succ, List.getElem?_cons_zero]; rfl) (by kernel_rfl) (by kernel_rfl) (by kernel_rfl) (by exact fun _ _ _ h => h) (Or.inl ⟨by rfl, ?_⟩) (by assumption) ?_
    rotate_left 1
    · ((intro w hSw; (try dsimp only at hSw); go_simp) <;> with_reducible rfl)
    try simp only [Act.put, List.setIfInBounds_toArray, List.set_cons_zero, List.set_cons_succ]
    refine wpAnyH_take (i := 7) (v := ?_) (by simp only [List.getElem?_toArray, List.getElem?_cons_succ, List.getElem?_cons_zero]; rfl) (by kernel_rfl) (by kernel_rfl) (by kernel_rfl) (by exact fun _ _ _ h => h) (Or.inl ⟨by rfl, ?_⟩) (by assumption) ?_
    rotate_left 1
    · ((intro w hSw; (try dsimp only at hSw); go_simp) <;> with_reducible rfl)
    try simp only [Act.put, List.setIfInBounds_toArray, List.set_cons_zero, List.set_cons_succ]
    refine wpAnyH_take (i := 9) (v := ?_) (by simp only [List.getElem?_toArray, List.getElem?_cons_succ, List.getElem?_cons_zero]; rfl) (by kernel_rfl) (by kernel_rfl) (by kernel_rfl) (by exact fun _ _ _ h => h) (Or.inl ⟨by rfl, ?_⟩) (by assumption) ?_
    rotate_left 1
    · ((intro w hSw; (try dsimp only at hSw); go_simp) <;> with_reducible rfl)
    try simp only [Act.put, List.setIfInBounds_toArray, List.set_cons_zero, List.set_cons_succ]
    refine wpAnyH_take (i := 10) (v := ?_) (by simp only [List.getElem?_toArray, List.getElem?_cons_succ, List.getElem?_cons_zero]; rfl) (by kernel_rfl) (by kernel_rfl) (by kernel_rfl) (by exact fun _ _ _ h => h) (Or.inl ⟨by rfl, ?_⟩) (by assumption) ?_
    rotate_left 1
    · ((intro w hSw; (try dsimp only at hSw); go_simp) <;> with_reducible rfl)
    try simp only [Act.put, List.setIfInBounds_toArray, List.set_cons_zero, List.set_cons_succ]
    refine wpAnyH_ready (rs := [8]) (by kernel_rfl) (by simp) ?_
    refine AllReadyH.cons rfl (fun K hK => ?_) AllReadyH.nil
    go_simp
    (go_at_call 21; (with_reducible refine (HS1.out _ hB).mono ?_); rintro r w7 ⟨rfl, hb⟩; have hB := hB.tr hb; clear hb)
    try go_wp2_with fail
    refine hK.out _ _ ?_ (fun hHeld => ?_)
    · ((try dsimp only); first | done | exact ⟨cell_keep x0 hB (Nat.le_refl _), cell_keep y0 hB (Nat.le_refl _), cell_keep z5 hB (Nat.le_refl _), cell_keep z6 hB (Nat.le_refl _)⟩)
    clear hK K
    try simp only [Act.put, List.setIfInBounds_toArray, List.set_cons_zero, List.set_cons_succ]
    refine wpAnyH_ready (rs := [11]) (by kernel_rfl) (by simp) ?_
    refine AllReadyH.cons rfl (fun K hK => ?_) AllReadyH.nil
    go_simp
    (go_at_call 22; (with_reducible refine (HS2.out _ hB).mono ?_); rintro r w7 ⟨rfl, hb⟩; have hB := hB.tr hb; clear hb)
    try go_wp2_with fail
    refine hK.out _ _ ?_ (fun hHeld => ?_)
    · ((try dsimp only); first | done | exact ⟨cell_keep x0 hB (Nat.le_refl _), cell_keep y0 hB (Nat.le_refl _), cell_keep z5 hB (Nat.le_refl _), cell_keep z6 hB (Nat.le_refl _)⟩)
    clear hK K
    try simp only [Act.put, List.setIfInBounds_toArray, List.set_cons_zero, List.set_cons_succ]
    refine wpAnyH_take (i := 12) (v := ?_) (by simp only [List.getElem?_toArray, List.getElem?_cons_succ, List.getElem?_cons_zero]; rfl) (by kernel_rfl) (by kernel_rfl) (by kernel_rfl) (by exact fun _ _ _ h => h) (Or.inl ⟨by rfl, ?_⟩) (by assumption) ?_
    rotate_left 1
    · ((intro w hSw; (try dsimp only at hSw); go_simp) <;> with_reducible rfl)
    try simp only [Act.put, List.setIfInBounds_toArray, List.set_cons_zero, List.set_cons_succ]
    refine wpAnyH_take (i := 13) (v := ?_) (by simp only [List.getElem?_toArray, List.getElem?_cons_succ, List.getElem?_cons_zero]; rfl) (by kernel_rfl) (by kernel_rfl) (by kernel_rfl) (by exact fun _ _ _ h => h) (Or.inl ⟨by rfl, ?_⟩) (by assumption) ?_
    rotate_left 1
    · ((intro w hSw; (try dsimp only at hSw); go_simp) <;> with_reducible rfl)
    try simp only [Act.put, List.setIfInBounds_toArray, List.set_cons_zero, List.set_cons_succ]
    refine wpAnyH_take (i := 14) (v := ?_) (by simp only [List.getElem?_toArray, List.getElem?_cons_succ, List.getElem?_cons_zero]; rfl) (by kernel_rfl) (by kernel_rfl) (by kernel_rfl) (by exact fun _ _ _ h => h) (Or.inl ⟨by rfl, ?_⟩) (by assumption) ?_
    rotate_left 1
    · ((intro w hSw; (try dsimp only at hSw); go_simp) <;> with_reducible rfl)
    try simp only [Act.put, List.setIfInBounds_toArray, List.set_cons_zero, List.set_cons_succ]
    refine wpAnyH_take (i := 15) (v := ?_) (by simp only [List.getElem?_toArray, List.getElem?_cons_succ, List.getElem?_cons_zero]; rfl) (by kernel_rfl) (by kernel_rfl) (by kernel_rfl) (by exact fun _ _ _ h => h) (Or.inl ⟨by rfl, ?_⟩) (by assumption) ?_
    rotate_left 1
    · ((intro w hSw; (try dsimp only at hSw); go_simp) <;> with_reducible rfl)
    try simp only [Act.put, List.setIfInBounds_toArray, List.set_cons_zero, List.set_cons_succ]
    refine wpAnyH_take (i := 16) (v := ?_) (by simp only [List.getElem?_toArray, List.getElem?_cons_succ, List.getElem?_cons_zero]; rfl) (by kernel_rfl) (by kernel_rfl) (by kernel_rfl) (by exact fun _ _ _ h => h) (Or.inl ⟨by rfl, ?_⟩) (by assumption) ?_
    rotate_left 1
    · ((intro w hSw; (try dsimp only at hSw); go_simp) <;> with_reducible rfl)
    try simp only [Act.put, List.setIfInBounds_toArray, List.set_cons_zero, List.set_cons_succ]
    refine wpAnyH_take (i := 17) (v := ?_) (by simp only [List.getElem?_toArray, List.getElem?_cons_succ, List.getElem?_cons_zero]; rfl) (by kernel_rfl) (by kernel_rfl) (by kernel_rfl) (by exact fun _ _ _ h => h) (Or.inl ⟨by rfl, ?_⟩) (by assumption) ?_
    rotate_left 1
    · ((intro w hSw; (try dsimp only at hSw); go_simp) <;> with_reducible rfl)
    try simp only [Act.put, List.setIfInBounds_toArray, List.set_cons_zero, List.set_cons_succ]
    refine wpAnyH_take (i := 18) (v := ?_) (by simp only [List.getElem?_toArray, List.getElem?_cons_succ, List.getElem?_cons_zero]; rfl) (by kernel_rfl) (by kernel_rfl) (by kernel_rfl) (by exact fun _ _ _ h => h) (Or.inl ⟨by rfl, ?_⟩) (by assumption) ?_
    rotate_left 1
    · ((intro w hSw; (try dsimp only at hSw); go_simp) <;> with_reducible rfl)
    try simp only [Act.put, List.setIfInBounds_toArray, List.set_cons_zero, List.set_cons_succ]
    refine wpAnyH_take (i := 19) (v := ?_) (by simp only [List.getElem?_toArray, List.getElem?_cons_succ, List.getElem?_cons_zero]; rfl) (by kernel_rfl) (by kernel_rfl) (by kernel_rfl) (by exact fun _ _ _ h => h) (Or.inl ⟨by rfl, ?_⟩) (by assumption) ?_
    rotate_left 1
    · ((intro w hSw; (try dsimp only at hSw); go_simp) <;> with_reducible rfl)
    try simp only [Act.put, List.setIfInBounds_toArray, List.set_cons_zero, List.set_cons_succ]
    refine wpAnyH_take (i := 20) (v := ?_) (by simp only [List.getElem?_toArray, List.getElem?_cons_succ, List.getElem?_cons_zero]; rfl) (by kernel_rfl) (by kernel_rfl) (by kernel_rfl) (by exact fun _ _ _ h => h) (Or.inl ⟨by rfl, ?_⟩) (by assumption) ?_
    rotate_left 1
    · ((intro w hSw; (try dsimp only at hSw); go_simp) <;> with_reducible rfl)
    try simp only [Act.put, List.setIfInBounds_toArray, List.set_cons_zero, List.set_cons_succ]
    refine wpAnyH_take (i := 21) (v := ?_) (by simp only [List.getElem?_toArray, List.getElem?_cons_succ, List.getElem?_cons_zero]; rfl) (by kernel_rfl) (by kernel_rfl) (by kernel_rfl) (by exact fun _ _ _ h => h) (Or.inl ⟨by rfl, ?_⟩) (by assumption) ?_
    rotate_left 1
    · ((intro w hSw; (try dsimp only at hSw); go_simp) <;> with_reducible rfl)
    try simp only [Act.put, List.setIfInBounds_toArray, List.set_cons_zero, List.set_cons_succ]
    refine wpAnyH_take (i := 22) (v := ?_) (by simp only [List.getElem?_toArray, List.getElem?_cons_succ, List.getElem?_cons_zero]; rfl) (by kernel_rfl) (by kernel_rfl) (by kernel_rfl) (by exact fun _ _ _ h => h) (Or.inl ⟨by rfl, ?_⟩) (by assumption) ?_
    rotate_left 1
    · ((intro w hSw; (try dsimp only at hSw); go_simp) <;> with_reducible rfl)
    try simp only [Act.put, List.setIfInBounds_toArray, List.set_cons_zero, List.set_cons_succ]
    refine wpAnyH_take (i := 23) (v := ?_) (by simp only [List.getElem?_toArray, List.getElem?_cons_succ, List.getElem?_cons_zero]; rfl) (by kernel_rfl) (by kernel_rfl) (by kernel_rfl) (by exact fun _ _ _ h => h) (Or.inl ⟨by rfl, ?_⟩) (by assumption) ?_
    rotate_left 1
    · ((intro w hSw; (try dsimp only at hSw); go_simp) <;> with_reducible rfl)
    try simp only [Act.put, List.setIfInBounds_toArray, List.set_cons_zero, List.set_cons_succ]
    refine wpAnyH_take (i := 24) (v := ?_) (by simp only [List.getElem?_toArray, List.getElem?_cons_succ, List.getElem?_cons_zero]; rfl) (by kernel_rfl) (by kernel_rfl) (by kernel_rfl) (by exact fun _ _ _ h => h) (Or.inl ⟨by rfl, ?_⟩) (by assumption) ?_
    rotate_left 1
    · ((intro w hSw; (try dsimp only at hSw); go_simp) <;> with_reducible rfl)
    try simp only [Act.put, List.setIfInBounds_toArray, List.set_cons_zero, List.set_cons_succ]
    refine wpAnyH_ready (rs := [25]) (by kernel_rfl) (by simp) ?_
    refine AllReadyH.cons rfl (fun K hK => ?_) AllReadyH.nil
    go_simp
    (go_at_call 20; (with_reducible refine (HC3.out _ hB).mono ?_); rintro r w7 ⟨rfl, hb⟩; have hB := hB.tr hb; clear hb)
    try go_wp2_with fail
    refine hK.out _ _ ?_ (fun hHeld => ?_)
    · ((try dsimp only); first | done | exact ⟨cell_keep x0 hB (Nat.le_refl _), cell_keep y0 hB (Nat.le_refl _), cell_keep z5 hB (Nat.le_refl _), cell_keep z6 hB (Nat.le_refl _)⟩)
    clear hK K
    try simp only [Act.put, List.setIfInBounds_toArray, List.set_cons_zero, List.set_cons_succ]
    refine wpAnyH_take (i := 26) (v := ?_) (by simp only [List.getElem?_toArray, List.getElem?_cons_succ, List.getElem?_cons_zero]; rfl) (by kernel_rfl) (by kernel_rfl) (by kernel_rfl) (by exact fun _ _ _ h => h) (Or.inl ⟨by rfl, ?_⟩) (by assumption) ?_
    rotate_left 1
    · ((intro w hSw; (try dsimp only at hSw); go_simp) <;> with_reducible rfl)
    try simp only [Act.put, List.setIfInBounds_toArray, List.set_cons_zero, List.set_cons_succ]
    refine wpAnyH_take (i := 27) (v := ?_) (by simp only [List.getElem?_toArray, List.getElem?_cons_succ, List.getElem?_cons_zero]; rfl) (by kernel_rfl) (by kernel_rfl) (by kernel_rfl) (by exact fun _ _ _ h => h) (Or.inl ⟨by rfl, ?_⟩) (by assumption) ?_
    rotate_left 1
    · ((intro w hSw; (try dsimp only at hSw); go_simp) <;> with_reducible rfl)
    try simp only [Act.put, List.setIfInBounds_toArray, List.set_cons_zero, List.set_cons_succ]
    refine wpAnyH_take (i := 28) (v := ?_) (by simp only [List.getElem?_toArray, List.getElem?_cons_succ, List.getElem?_cons_zero]; rfl) (by kernel_rfl) (by kernel_rfl) (by kernel_rfl) (by exact fun _ _ _ h => h) (Or.inl ⟨by rfl, ?_⟩) (by assumption) ?_
    rotate_left 1
    · ((intro w hSw; (try dsimp only at hSw); go_simp) <;> with_reducible rfl)
    try simp only [Act.put, List.setIfInBounds_toArray, List.set_cons_zero, List.set_cons_succ]
    refine wpAnyH_take (i := 29) (v := ?_) (by simp only [List.getElem?_toArray, List.getElem?_cons_succ, List.getElem?_cons_zero]; rfl) (by kernel_rfl) (by kernel_rfl) (by kernel_rfl) (by exact fun _ _ _ h => h) (Or.inl ⟨by rfl, ?_⟩) (by assumption) ?_
    rotate_left 1
    · ((intro w hSw; (try dsimp only at hSw); go_simp) <;> with_reducible rfl)
    try simp only [Act.put, List.setIfInBounds_toArray, List.set_cons_zero, List.set_cons_succ]
    refine wpAnyH_take (i := 30) (v := ?_) (by simp only [List.getElem?_toArray, List.getElem?_cons_succ, List.getElem?_cons_zero]; rfl) (by kernel_rfl) (by kernel_rfl) (by kernel_rfl) (by exact fun _ _ _ h => h) (Or.inl ⟨by rfl, ?_⟩) (by assumption) ?_
    rotate_left 1
    · ((intro w hSw; (try dsimp only at hSw); go_simp) <;> with_reducible rfl)
    try simp only [Act.put, List.setIfInBounds_toArray, List.set_cons_zero, List.set_cons_succ]
    refine wpAnyH_ready (rs := [31]) (by kernel_rfl) (by simp) ?_
    refine AllReadyH.cons rfl (fun K hK => ?_) AllReadyH.nil
    go_simp
    (go_at_call 22; (with_reducible refine (HS3.out _ hB).mono ?_); rintro r w7 ⟨rfl, hb⟩; have hB := hB.tr hb; clear hb)
    try go_wp2_with fail
    refine hK.out _ _ ?_ (fun hHeld => ?_)
    · ((try dsimp only); first | done | exact ⟨cell_keep x0 hB (Nat.le_refl _), cell_keep y0 hB (Nat.le_refl _), cell_keep z5 hB (Nat.le_refl _), cell_keep z6 hB (Nat.le_refl _)⟩)
    clear hK K
    try simp only [Act.put, List.setIfInBounds_toArray, List.set_cons_zero, List.set_cons_succ]
    refine wpAnyH_take (i := 32) (v := ?_) (by simp only [List.getElem?_toArray, List.getElem?_cons_succ, List.getElem?_cons_zero]; rfl) (by kernel_rfl) (by kernel_rfl) (by kernel_rfl) (by exact fun _ _ _ h => h) (Or.inl ⟨by rfl, ?_⟩) (by assumption) ?_
    rotate_left 1
    · ((intro w hSw; (try dsimp only at hSw); go_simp) <;> with_reducible rfl)
    try simp only [Act.put, List.setIfInBounds_toArray, List.set_cons_zero, List.set_cons_succ]
    refine wpAnyH_take (i := 33) (v := ?_) (by simp only [List.getElem?_toArray, List.getElem?_cons_succ, List.getElem?_cons_zero]; rfl) (by kernel_rfl) (by kernel_rfl) (by kernel_rfl) (by exact fun _ _ _ h => h) (Or.inl ⟨by rfl, ?_⟩) (by assumption) ?_
    rotate_left 1
    · ((intro w hSw; (try dsimp only at hSw); go_simp) <;> with_reducible rfl)
    try simp only [Act.put, List.setIfInBounds_toArray, List.set_cons_zero, List.set_cons_succ]
    refine wpAnyH_done (by kernel_rfl) ?_ _
    have HXD := hide ((hB.block _ lx).trans HXC.out)
    have HYD := hide ((hB.block _ ly).trans HYC.out)
    have HWD := hide (HWC.out.tr hB)
    have HFA0 := hide (HFA.out.keep hB (Nat.le_refl _))
    have HFB0 := hide (HFB.out.keep hB (Nat.le_refl _))
    replace z5 := cell_keep z5 hB (Nat.le_refl _)
    replace z6 := cell_keep z6 hB (Nat.le_refl _)
    clear x0 y0 lx ly hB HC1 HC2 HC3 HS1 HS2 HS3 HWC HW hne1 hne2 hne3
    clear HFB
    have x0 := cell_at (j := 0) HXD.out rfl
    have y0 := cell_at (j := 0) HYD.out rfl
    have lx := (Array.getElem?_eq_some_iff.1 HXD.out).1
    have ly := (Array.getElem?_eq_some_iff.1 HYD.out).1
    go_wp2_with fail
    clear x0 y0
    have HBW0 := hide (bl w7)
    go_loopw [61] (fun x wr => ∃ k : Nat, k ≤ l.length ∧ x = .int .i64 k ∧ Hid (Below w7.heap.size w7 wr)) (fun x _ => l.length - (intOf x).toNat)
    case atStart => exact ⟨0, Nat.zero_le _, rfl, bl _⟩
    case round =>
      obtain ⟨k, hk, rfl, HB⟩ := hrel
      have HBW := hide (HWD.out.tr HB.out)
      by_cases hlt : k < l.length
      · obtain ⟨b, o, rfl⟩ := HL.out.addr (by omega)
        obtain ⟨pp, pbo, cp, cbo, c0, c1, c2, c3, c4, hfw, hps, hrow⟩ := (HL.out.at_ b o rfl k hlt).has (has_below HBW.out)
        have HVF : Hid (Fn.Val wr l[k] (.agg #[.string ⟨l[k].name.toArray⟩, .slice pp l[k].params.length cp, .int .i64 l[k].result, .slice pbo l[k].body.length cbo, .int .i64 l[k].count])) := hide ⟨pp, pbo, cp, cbo, rfl, hfw, hps, hrow⟩
        have HFB : Hid ((wr.alloc (.cells #[.string ⟨l[k].name.toArray⟩, .slice pp l[k].params.length cp, .int .i64 l[k].result, .slice pbo l[k].body.length cbo, .int .i64 l[k].count] 42)).heap[wr.heap.size]? = some (.cells #[.string ⟨l[k].name.toArray⟩, .slice pp l[k].params.length cp, .int .i64 l[k].result, .slice pbo l[k].body.length cbo, .int .i64 l[k].count] 42 (0, 0))) := hide (heap_alloc_new _ _)
        have y0 := cell_keep (cell_at (j := 0) HYD.out rfl) (HB.out.al (.cells #[.string ⟨l[k].name.toArray⟩, .slice pp l[k].params.length cp, .int .i64 l[k].result, .slice pbo l[k].body.length cbo, .int .i64 l[k].count] 42)) (Nat.le_refl _)
        have ly1 := Nat.lt_of_lt_of_le ly HB.out.size
        have y0r := cell_keep (cell_at (j := 0) HYD.out rfl) HB.out (Nat.le_refl _)
        clear hfw hps hrow
        go_wp2_with fail
        clear y0 y0r c0 c1 c2 c3 c4
        obtain ⟨wo, rfl⟩ : ∃ wo : World, wo = wr := ⟨_, rfl⟩
        go_loopw [69] (fun x wr => ∃ i : Nat, i ≤ m.length ∧ x = .int .i64 i ∧ Hid (wr.heap[wo.heap.size]? = some (.cells #[.string ⟨l[k].name.toArray⟩, .slice pp l[k].params.length cp, .int .i64 l[k].result, .slice pbo l[k].body.length cbo, .int .i64 l[k].count] 42 (0, 0))) ∧ Hid (Below wo.heap.size wo wr)) (fun x _ => m.length - (intOf x).toNat)
        case atStart => exact ⟨0, Nat.zero_le _, rfl, HFB.out, (bl _).al _⟩
        case round =>
          obtain ⟨i, hi, rfl, HFB, HBO⟩ := hrel
          have HBI := hide (HBW.out.tr HBO.out)
          by_cases hit : i < m.length
          · obtain ⟨b', o', rfl⟩ := HM.out.addr (by omega)
            obtain ⟨pp', pbo', cp', cbo', d0, d1, d2, d3, d4, hfw', hps', hrow'⟩ := (HM.out.at_ b' o' rfl i hit).has (has_below HBI.out)
            have HVG : Hid (Fn.Val wr m[i] (.agg #[.string ⟨m[i].name.toArray⟩, .slice pp' m[i].params.length cp', .int .i64 m[i].result, .slice pbo' m[i].body.length cbo', .int .i64 m[i].count])) := hide ⟨pp', pbo', cp', cbo', rfl, hfw', hps', hrow'⟩
            have HGB : Hid ((wr.alloc (.cells #[.string ⟨m[i].name.toArray⟩, .slice pp' m[i].params.length cp', .int .i64 m[i].result, .slice pbo' m[i].body.length cbo', .int .i64 m[i].count] 42)).heap[wr.heap.size]? = some (.cells #[.string ⟨m[i].name.toArray⟩, .slice pp' m[i].params.length cp', .int .i64 m[i].result, .slice pbo' m[i].body.length cbo', .int .i64 m[i].count] 42 (0, 0))) := hide (heap_alloc_new _ _)
            have hfl := (Array.getElem?_eq_some_iff.1 HFB.out).1
            have HFB2 := hide ((Below.heap_alloc _ (.cells #[.string ⟨m[i].name.toArray⟩, .slice pp' m[i].params.length cp', .int .i64 m[i].result, .slice pbo' m[i].body.length cbo', .int .i64 m[i].count] 42) _ hfl).trans HFB.out)
            have HB1 := hide ((bl wr).al (.cells #[.string ⟨m[i].name.toArray⟩, .slice pp' m[i].params.length cp', .int .i64 m[i].result, .slice pbo' m[i].body.length cbo', .int .i64 m[i].count] 42))
            obtain ⟨q2, hq2⟩ : ∃ q, eqF l[k] m[i] = q := ⟨_, rfl⟩
            have h1 := fun (W : World) (hW : Below wr.heap.size wr W) => sameFunc_any l[k] m[i] _ _ W (HVF.out.keep (HBO.out.tr hW) (Nat.le_refl _)) (HVG.out.keep hW (Nat.le_refl _)) (HT.out.below (HBI.out.tr hW))
            have h2 := fun (W : World) (hW : Below wr.heap.size wr W) => refSameFunc_any l[k] m[i] _ _ W (HVF.out.keep (HBO.out.tr hW) (Nat.le_refl _)) (HVG.out.keep hW (Nat.le_refl _))
            rw [hq2] at h1 h2
            have HSF1 := hide h1
            have HSF2 := hide h2
            have hne : (q2 != q2) = false := by simp
            clear hfw' hps' hrow' h1 h2 hq2
            go_wp2_with fail
            clear d0 d1 d2 d3 d4
            generalize wr.alloc (.cells #[.string ⟨m[i].name.toArray⟩, .slice pp' m[i].params.length cp', .int .i64 m[i].result, .slice pbo' m[i].body.length cbo', .int .i64 m[i].count] 42) = W1 at *
            have f0 := cell_at (j := 0) HFB2.out rfl
            have f1 := cell_at (j := 1) HFB2.out rfl
            have f2 := cell_at (j := 2) HFB2.out rfl
            have f3 := cell_at (j := 3) HFB2.out rfl
            have f4 := cell_at (j := 4) HFB2.out rfl
            have g0 := cell_at (j := 0) HGB.out rfl
            have g1 := cell_at (j := 1) HGB.out rfl
            have g2 := cell_at (j := 2) HGB.out rfl
            have g3 := cell_at (j := 3) HGB.out rfl
            have g4 := cell_at (j := 4) HGB.out rfl
            have hB := (bl W1).dr
            go_region_held3 (fun w' => w'.cell? ⟨wo.heap.size, 0, none⟩ = some (.string ⟨l[k].name.toArray⟩) ∧ w'.cell? ⟨wo.heap.size, 1, none⟩ = some (.slice pp l[k].params.length cp) ∧ w'.cell? ⟨wo.heap.size, 2, none⟩ = some (.int .i64 l[k].result) ∧ w'.cell? ⟨wo.heap.size, 3, none⟩ = some (.slice pbo l[k].body.length cbo) ∧ w'.cell? ⟨wo.heap.size, 4, none⟩ = some (.int .i64 l[k].count) ∧
  w'.cell? ⟨wr.heap.size, 0, none⟩ = some (.string ⟨m[i].name.toArray⟩) ∧ w'.cell? ⟨wr.heap.size, 1, none⟩ = some (.slice pp' m[i].params.length cp') ∧ w'.cell? ⟨wr.heap.size, 2, none⟩ = some (.int .i64 m[i].result) ∧ w'.cell? ⟨wr.heap.size, 3, none⟩ = some (.slice pbo' m[i].body.length cbo') ∧ w'.cell? ⟨wr.heap.size, 4, none⟩ = some (.int .i64 m[i].count))
              (first | exact ⟨cell_keep f0 hB (Nat.le_refl _), cell_keep f1 hB (Nat.le_refl _), cell_keep f2 hB (Nat.le_refl _), cell_keep f3 hB (Nat.le_refl _), cell_keep f4 hB (Nat.le_refl _), cell_keep g0 hB (Nat.le_refl _), cell_keep g1 hB (Nat.le_refl _), cell_keep g2 hB (Nat.le_refl _), cell_keep g3 hB (Nat.le_refl _), cell_keep g4 hB (Nat.le_refl _)⟩ | go_keep)
              (first | (go_at_call 23; (with_reducible refine (HSF1.out _ (HB1.out.tr hB)).mono ?_); rintro r w10 ⟨rfl, hb⟩; have hB := hB.tr hb; clear hb)
                     | (go_at_call 24; (with_reducible refine (HSF2.out _ (HB1.out.tr hB)).mono ?_); rintro r w10 ⟨rfl, hb⟩; have hB := hB.tr hb; clear hb))
            all_goals
              have HFB3 := hide ((hB.block _ (Array.getElem?_eq_some_iff.1 HFB2.out).1).trans HFB2.out)
              have HBO3 := hide (HBO.out.tr (HB1.out.tr hB))
              go_wp2_with fail
              go_roundw
              case rel => exact ⟨i + 1, by omega, by go_num, HFB3.out, HBO3.out⟩
              case measure => simp [intOf]; omega
          · obtain rfl : i = m.length := by omega
            have HBK := hide (HB.out.tr HBO.out)
            have z5r := cell_keep z5 HBK.out (Nat.le_refl _)
            have z6r := cell_keep z6 HBK.out (Nat.le_refl _)
            have lz5 := cell_lt z5r
            have lz6 := cell_lt z6r
            simp only at lz5 lz6
            by_cases hkn : k < ln.length
            · have hkn1 : (k : Int) < (ln.length : Int) := by omega
              have hkn2 : decide ((k : Int) < (ln.length : Int)) = true := decide_eq_true hkn1
              have hkn3 : decide (k < ln.length) = true := decide_eq_true hkn
              have hkn0 : (0 : Int) ≤ (k : Int) := by omega
              obtain ⟨b5, o5, rfl⟩ := HFA0.out.addr (by omega)
              obtain ⟨b6, o6, rfl⟩ := HFB0.out.addr (by omega)
              obtain ⟨_, _, _, _, _, _, _, _, e4, _⟩ := (HFA0.out.at_ b5 o5 rfl k hkn).has (has_below HBK.out)
              obtain ⟨_, _, _, _, _, _, _, _, h4, _⟩ := (HFB0.out.at_ b6 o6 rfl k hkn).has (has_below HBK.out)
              have hne : (ln[k].count != ln[k].count) = false := by simp
              have le4 := cell_lt e4
              have lh4 := cell_lt h4
              simp only at le4 lh4
              go_wp2_with fail
              go_quiet (fail)
              have HBN := hide (below_dq HBK.out nq)
              go_wp2_with fail
              go_roundw
              case rel => exact ⟨k + 1, by omega, by go_num, HBN.out⟩
              case measure => simp [intOf]; omega
            · have hkn1 : ¬ (k : Int) < (ln.length : Int) := by omega
              have hkn2 : decide ((k : Int) < (ln.length : Int)) = false := decide_eq_false hkn1
              have hkn3 : decide (k < ln.length) = false := decide_eq_false hkn
              go_wp2_with fail
              go_quiet (fail)
              have HBN := hide (below_dq HBK.out nq)
              go_wp2_with fail
              go_roundw
              case rel => exact ⟨k + 1, by omega, by go_num, HBN.out⟩
              case measure => simp [intOf]; omega
      · obtain rfl : k = l.length := by omega
        go_wp2_with fail
        refine (works_any _ (HT.out.below HBW.out)).mono ?_
        rintro r w9 ⟨rfl, hb⟩
        have HFI := hide (HBW.out.tr hb)
        clear hb
        go_wp2_with fail
        go_ret
        exact ⟨rfl, HFI.out⟩
end Go.Proofs.YthpmecbekpmijaaGreatDoor
namespace Go.Proofs.YthpmecbekpmijaaGreatDoor.PrProgs
open Go Go.ChangeShapes Go.WideShapes Go.ChangeAt Go.RowKit
set_option linter.unusedSimpArgs false
set_option linter.unusedVariables false
set_option linter.unnecessarySimpa false
theorem laidOut : laidOutB Tryz.prog = true := by kernel_rfl
/-- What came in reads behind the call as it did. -/
theorem stay {H : Type} {enc : TypeId × Value → H} {W W' : World} {sp : Nat → Bool} {t : TypeId} {v : Value} {d : DataW H} {ps : List MemPlace} (hr : Tryz.prog.readableRec t = true) (hrow : t < Tryz.prog.types.size)
    (h : DataW.Trod enc Tryz.prog W 0 (fun _ => true) true t v d ps) (hb : Below W.heap.size W W') (hs : ∀ p ∈ ps, sp p.block = true) : DataW.Trod enc Tryz.prog W' 0 sp true t v d ps := by
  refine WideElems.Trod_stays laidOut hr hrow h (fun p hp => ?_) hs
  obtain ⟨n, hn⟩ := h
  have hlt := DataW.trod_lt n t _ _ hn p hp
  cases p with
  | cell b o => exact hb.cell (p := ⟨b, o, none⟩) hlt
  | map b => exact hb.block b hlt
set_option maxRecDepth 100000 in
theorem lifted (os : Os) (started : os.Started) (H : Type) (enc : TypeId × Value → H) :
    ReturnsInHanded {} Tryz.checked os 4 .any (fun w args => (Rows.shapeProgramsSpec.pre enc Tryz.prog Tryz.f4 [] false w args ∧ laidMetH Tryz.prog Rows.shapeProgramsRow.laid w) ∧ sizedMet enc Tryz.prog Tryz.f4 (OpenSpec.ofChange Rows.shapeProgramsSpec) false w args)
      (Rows.shapeProgramsSpec.post enc Tryz.prog Tryz.f4 false true false false) := by
  refine returnsInHanded_of_change_and (C := Tryz.checked) (X := fun w _ => laidMetH Tryz.prog Rows.shapeProgramsRow.laid w) (fun _ _ _ hh h => h.of_heap hh) own started (by kernel_rfl) Tryz.func4
    (witness_laid #[.agg #[.slice none 0 0], .agg #[.slice none 0 0]] 8 (by kernel_rfl) (by kernel_rfl) (by kernel_rfl) (by kernel_rfl) (by kernel_rfl) (by kernel_rfl) (by kernel_rfl)) ?_
  intro W base args ds gs before hval0 hW _ _ hL _
  have hval : ∀ (j : Nat) t v, Tryz.f4.params[j]? = some t → args[j]? = some v → Value.okWide Tryz.prog W .any base t v := hval0
  have hW' := hW
  obtain ⟨p, q, hA0, hV, rfl, hfz, hnd⟩ := hW
  have hA : DataW.TrodAll enc Tryz.prog W 0 (fun _ => true) true Tryz.f4.params.toList args.toList ds p := hA0
  rw [Tryz.params4] at hA hval
  obtain ⟨v0, vs0, d0, ds0, p0, q0, hargs, rfl, rfl, h0, r0⟩ := trodAll_cons hA
  obtain ⟨v1, vs1, d1, ds1, p1, q1, rfl, rfl, rfl, h1, r1⟩ := trodAll_cons r0
  obtain ⟨rfl, rfl, rfl⟩ := trodAll_nil r1
  obtain rfl : args = #[v0, v1] := by cases args; simp_all
  obtain ⟨rfl, rfl⟩ := trodVars_none hV
  obtain ⟨l0, a0, c0, hv0, hl0⟩ := read_program (hval 0 38 v0 rfl rfl) h0
  obtain ⟨l1, a1, c1, hv1, hl1⟩ := read_program (hval 1 38 v1 rfl rfl) h1
  subst hv0
  subst hv1
  clear hA0 hval0
  refine (ShapePrograms_any l0 l1 a0 a1 c0 c1 W hl0 hl1 (tab_of_laid hL)).mono fun r W' ⟨hr, hb⟩ => ?_
  subst hr
  exact ⟨_, rfl, post_of_below (pa := (p0 ++ (p1 ++ []))) (pv := []) hW' (fun _ _ _ => (trodAll_cons_mk (shut_bool Tryz.underlying4 _) trodAll_mk0))
    (fun sp hsp => (trodAll_cons_mk (stay (by kernel_rfl) (of_decide_eq_true (by kernel_rfl)) h0 hb (fun p hp => hsp p (by simp [hp]))) (trodAll_cons_mk (stay (by kernel_rfl) (of_decide_eq_true (by kernel_rfl)) h1 hb (fun p hp => hsp p (by simp [hp]))) trodAll_mk0))) (fun _ _ => rfl) rfl
    hb (ok_one (by kernel_rfl) rfl (okWide_bool_mk Tryz.underlying4 _))⟩
theorem over : Rows.shapeProgramsRow.holds Tryz.pinned (OpenSpec.ofChange Rows.shapeProgramsSpec) :=
  OpenClaim.holds_of_wide 4 Tryz.f4 rfl rfl rfl rfl rfl rfl rfl ⟨rfl, rfl, rfl, rfl, rfl⟩ rfl rfl rfl rfl rfl (by kernel_rfl) Tryz.func4 (by kernel_rfl)
    (of_decide_eq_true (by kernel_rfl)) (by unfold Func.isWrapper; first | (rw [if_pos (by decide +kernel)]; kernel_rfl) | (rw [if_neg (by decide +kernel)]; exact ⟨rfl, rfl⟩))
    (fun os started H enc _ => lifted os started H enc)
end Go.Proofs.YthpmecbekpmijaaGreatDoor.PrProgs
namespace Go.Proofs.YthpmecbekpmijaaGreatDoor
open Go
theorem shapePrograms_proved : Rows.ShapeProgramsCardSaid :=
  Claim7.holds_tied_plain_at .later [] [.data, .listed, .data, .pinned] true (true, "f1029df70603543d5481013e3a44e28bed87f83257e9a103e9b9a1ccaf4ca870") false
    PrProgs.over (fun _ h => by cases h) (by kernel_rfl) (fun _ h => by cases h) shapePrograms_row_tie rfl ⟨rfl, rfl⟩ (by kernel_rfl) rfl
    (fun f fn hf hfn => by
      obtain rfl : f = 4 := Option.some.inj ((show Tryz.prog.funcNamed "rewind/rewindlaw03.ShapePrograms" = some 4 by kernel_rfl).symm.trans hf) |>.symm
      obtain rfl : fn = Tryz.f4 := (Option.some.inj (Tryz.func4.symm.trans hfn)).symm
      exact ⟨by kernel_rfl, fun j t ht => by
        rw [Tryz.params4] at ht
        have h3 : t = 38 ∨ t = 38 := by
          rcases j with _ | _ | j
          all_goals simp at ht
          · exact .inl ht.symm
          · exact .inr ht.symm
        rcases h3 with rfl | rfl
        · exact (show Tryz.prog.wantsStandIn 38 = false by kernel_rfl)
        · exact (show Tryz.prog.wantsStandIn 38 = false by kernel_rfl)⟩)
    (by kernel_rfl)
#print axioms shapePrograms_proved
end Go.Proofs.YthpmecbekpmijaaGreatDoor
