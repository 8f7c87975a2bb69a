/- SignsBodies returns true for every input, whatever the world is in which the table of blanks is laid as the program lays it, and the input reads as it did. No further condition. -/
import Derived.Test.YtnkmbddjekepkaaGreatDoorShC
import Derived.ProofKit
import Derived.OpenShut
import Derived.Test.YtnkmbddjekepkaaGreatDoorMkI
import Derived.Test.YtnkmbddjekepkaaGreatDoorRows
import Derived.Test.YtnkmbddjekepkaaGreatDoorShA
import Derived.Lay
import Derived.MakeChecks
import Derived.Handed
import Derived.ChangeSame
import Derived.Test.YtnkmbddjekepkaaGreatDoorMd0
import Derived.Test.YtnkmbddjekepkaaGreatDoorEq
import Derived.Test.YtnkmbddjekepkaaGreatDoorRq0
import Derived.Test.YtnkmbddjekepkaaGreatDoorRsG
import Derived.Deep.RegionHeld3
import Derived.Test.YtnkmbddjekepkaaGreatDoorSpG
import Derived.Test.YtnkmbddjekepkaaGreatDoorSgP
import Derived.Deep.RegionLaw
import Derived.Deep.DeepCutAuto
import Derived.Test.YtnkmbddjekepkaaGreatDoorTie
import Derived.Test.YtnkmbddjekepkaaGreatDoorCards
import Derived.SevenTiedAt
import Derived.WideKeyArgs
import Derived.ChangeMaps5
/- Expressions that come in: what the statement's reading of them gives, as trees in memory. -/
namespace Go.Proofs.YtnkmbddjekepkaaGreatDoor
open Go Go.RowKit Go.WideShapes Go.ChangeShapes
set_option linter.unusedSimpArgs false
set_option linter.unusedVariables false
set_option linter.unnecessarySimpa false
set_option maxRecDepth 100000
theorem cells5 {w : World} {base : Nat} {a : Addr} {cs : List Value} (h : w.cells? base a 5 = some cs) :
    ∃ (b o : Nat) (v0 v1 v2 v3 v4 : Value), a = ⟨b, o, none⟩ ∧ cs = [v0, v1, v2, v3, v4] ∧ w.cell? ⟨b, o, none⟩ = some v0 ∧ w.cell? ⟨b, o + 1, none⟩ = some v1 ∧ w.cell? ⟨b, o + 2, none⟩ = some v2 ∧
      w.cell? ⟨b, o + 3, none⟩ = some v3 ∧ w.cell? ⟨b, o + 4, none⟩ = some v4 := by
  unfold World.cells? at h
  split at h
  · rw [show List.range 5 = [0, 1, 2, 3, 4] from rfl] at h
    simp only [List.mapM_cons, List.mapM_nil, Option.bind_eq_bind, Option.bind_eq_some_iff, Option.pure_def, Option.some.injEq] at h
    obtain ⟨v0, h0, _, ⟨v1, h1, _, ⟨v2, h2, _, ⟨v3, h3, _, ⟨v4, h4, _, rfl, rfl⟩, rfl⟩, rfl⟩, rfl⟩, rfl⟩ := h
    obtain ⟨b, o, s⟩ := a
    have hs : s = none := by simpa [Addr.add] using World.cell?_spot h0
    subst hs
    exact ⟨b, o, v0, v1, v2, v3, v4, rfl, rfl, by simpa [Addr.add] using h0, by simpa [Addr.add] using h1, by simpa [Addr.add] using h2, by simpa [Addr.add] using h3, by simpa [Addr.add] using h4⟩
  · cases h
theorem i64_of_wf {z : Int} (h : (Lit.int .i64 z).wf = true) : I64 z := by
  have h2 : -9223372036854775808 ≤ z ∧ z ≤ 9223372036854775807 := by simpa [Lit.wf, IntKind.min, IntKind.max, IntKind.signed, IntKind.bits] using h
  exact h2
theorem row_of_all {w : World} {b : Nat} : ∀ (n o : Nat), (∀ i, i < n → ∃ e, Ex.At w e b (o + i * 5)) → ∃ es : List Ex, es.length = n ∧ Ex.Row w es (some ⟨b, o, none⟩)
  | 0, o, _ => ⟨[], rfl, by simp only [Ex.Row]⟩
  | n + 1, o, h => by
    obtain ⟨e, he⟩ := h 0 (by omega)
    obtain ⟨es, hl, hr⟩ := row_of_all n (o + 5) (fun i hi => by
      have := h (i + 1) (by omega)
      rwa [show o + (i + 1) * 5 = o + 5 + i * 5 by omega] at this)
    refine ⟨e :: es, by simp [hl], ?_⟩
    simp only [Ex.Row]
    exact ⟨b, o, rfl, by simpa using he, hr⟩
section
variable {H : Type} {enc : TypeId × Value → H} {W : World} {sp : Nat → Bool} {held : Bool}
theorem read_ex : ∀ (N n : Nat), n < N → ∀ (cs : List Value) (x : DataW H × List MemPlace), DataW.trod enc Tryz.prog W 0 sp held n 110 cs = some x →
    ∃ (e : Ex) (a : Option Addr) (cap : Nat), cs = [.int .i64 e.kind, .int .i64 e.op, .int .i64 e.num, .string ⟨e.name.toArray⟩, .slice a e.args.length cap] ∧ ExWf e.kind e.op e.num e.name e.args.length cap ∧ Ex.Row W e.args a
  | 0, n, hn, _, _, _ => absurd hn (Nat.not_lt_zero _)
  | N + 1, n, hn, cs, x, h => by
    obtain ⟨xs, n1, rfl, _, hl, hxl, hf⟩ := DataW.trod_struct Tryz.underlying110 h
    have hl5 : cs.length = 5 := hl.trans (by kernel_rfl)
    have ci : Tryz.prog.cellsOf 3 = 1 := by kernel_rfl
    have c6 : Tryz.prog.cellsOf 2 = 1 := by kernel_rfl
    have cst : Tryz.prog.cellsOf 9 = 1 := by kernel_rfl
    have csl : Tryz.prog.cellsOf 82 = 1 := by kernel_rfl
    have ce : Tryz.prog.cellsOf 110 = 5 := by kernel_rfl
    match cs, hl5, xs, hxl with
    | [v0, v1, v2, v3, v4], _, [x0, x1, x2, x3, x4], _ =>
      have f0 : DataW.trod enc Tryz.prog W 0 sp held n1 3 (([v0, v1, v2, v3, v4].drop 0).take (Tryz.prog.cellsOf 3)) = [x0, x1, x2, x3, x4][0]? := hf 0 _ rfl
      have f1 : DataW.trod enc Tryz.prog W 0 sp held n1 3 (([v0, v1, v2, v3, v4].drop 1).take (Tryz.prog.cellsOf 3)) = [x0, x1, x2, x3, x4][1]? := hf 1 _ rfl
      have f2 : DataW.trod enc Tryz.prog W 0 sp held n1 2 (([v0, v1, v2, v3, v4].drop 2).take (Tryz.prog.cellsOf 2)) = [x0, x1, x2, x3, x4][2]? := hf 2 _ rfl
      have f3 : DataW.trod enc Tryz.prog W 0 sp held n1 9 (([v0, v1, v2, v3, v4].drop 3).take (Tryz.prog.cellsOf 9)) = [x0, x1, x2, x3, x4][3]? := hf 3 _ rfl
      have f4 : DataW.trod enc Tryz.prog W 0 sp held n1 82 (([v0, v1, v2, v3, v4].drop 4).take (Tryz.prog.cellsOf 82)) = [x0, x1, x2, x3, x4][4]? := hf 4 _ rfl
      simp only [ci, c6, cst, csl, List.drop_zero, List.drop_succ_cons, List.take_succ_cons, List.take_zero, List.getElem?_cons_zero, List.getElem?_cons_succ] at f0 f1 f2 f3 f4
      obtain ⟨k, e0, _, w0⟩ := DataW.trod_int Tryz.underlying3 f0
      obtain ⟨o, e1, _, w1⟩ := DataW.trod_int Tryz.underlying3 f1
      obtain ⟨m, e2, _, w2⟩ := DataW.trod_int Tryz.underlying2 f2
      obtain ⟨s, e3, _, w3⟩ := DataW.trod_string Tryz.underlying9 f3
      simp only [List.cons.injEq, and_true] at e0 e1 e2 e3
      subst e0 e1 e2 e3
      have hs : s = ⟨s.data.toList.toArray⟩ := by simp
      have hsl : s.data.toList.length ≤ maxLen := by rw [Array.length_toList]; exact w3
      rcases DataW.trod_slice Tryz.underlying82 f4 with ⟨e4, _⟩ | ⟨a, len, cap, elems, rest, n2, hn2, e4, _, hb, hlc, hcm, hel, hall, _, _⟩
      · simp only [List.cons.injEq, and_true] at e4
        subst e4
        refine ⟨.mk k o m s.data.toList [], none, 0, ?_, ⟨i64_of_wf w0, i64_of_wf w1, i64_of_wf w2, hsl, Nat.le_refl _, Nat.zero_le _⟩, by simp only [Ex.args, Ex.Row]⟩
        simp only [Ex.kind, Ex.op, Ex.num, Ex.name, Ex.args, List.length_nil, ← hs]
      · simp only [List.cons.injEq, and_true] at e4
        subst e4
        have key : ∀ i, i < len → ∃ (b o : Nat) (e : Ex), a.add (i * 5) = ⟨b, o, none⟩ ∧ Ex.At W e b o := by
          intro i hi
          have h1 := hall i hi
          rw [List.getElem?_eq_getElem (by omega), ce] at h1
          obtain ⟨cs', h2, h3⟩ := Option.bind_eq_some_iff.1 h1
          obtain ⟨b', o', u0, u1, u2, u3, u4, ha, rfl, k0, k1, k2, k3, k4⟩ := cells5 h2
          obtain ⟨e, a', cap', he, hw, hr⟩ := read_ex N n2 (by omega) _ _ h3
          refine ⟨b', o', e, ha, ?_⟩
          simp only [List.cons.injEq, and_true] at he
          obtain ⟨rfl, rfl, rfl, rfl, rfl⟩ := he
          cases e
          simp only [Ex.At]
          exact ⟨a', cap', k0, k1, k2, k3, k4, hw, hr⟩
        by_cases h0 : len = 0
        · subst h0
          refine ⟨.mk k o m s.data.toList [], some a, cap, ?_, ⟨i64_of_wf w0, i64_of_wf w1, i64_of_wf w2, hsl, Nat.zero_le _, hcm⟩, by simp only [Ex.args, Ex.Row]⟩
          simp only [Ex.kind, Ex.op, Ex.num, Ex.name, Ex.args, List.length_nil, ← hs]
        · obtain ⟨b0, o0, _, ha0, _⟩ := key 0 (by omega)
          have ha : a = ⟨b0, o0, none⟩ := by simpa [Addr.add] using ha0
          subst ha
          obtain ⟨es, hes, hrow⟩ := row_of_all (w := W) (b := b0) len o0 (fun i hi => by
            obtain ⟨b', o', e, he, hat⟩ := key i hi
            rw [Addr.add_lit] at he
            simp only [Addr.mk.injEq, and_true] at he
            obtain ⟨rfl, rfl⟩ := he
            exact ⟨e, hat⟩)
          subst hes
          refine ⟨.mk k o m s.data.toList es, some ⟨b0, o0, none⟩, cap, ?_, ⟨i64_of_wf w0, i64_of_wf w1, i64_of_wf w2, hsl, hlc, hcm⟩, hrow⟩
          simp only [Ex.kind, Ex.op, Ex.num, Ex.name, Ex.args, ← hs]
/-- An expression that comes in. -/
theorem read_expr {r : Reach} {b0 : Nat} {v : Value} {d : DataW H} {p : List MemPlace} (hv : Value.okWide Tryz.prog W r b0 110 v) (h : DataW.Trod enc Tryz.prog W 0 sp held 110 v d p) : ∃ e, Ex.Val W e v := by
  obtain ⟨cs, rfl, _⟩ := okWide_struct Tryz.underlying110 hv
  obtain ⟨n, hn⟩ := h
  obtain ⟨e, a, cap, he, hw, hr⟩ := read_ex (n + 1) n (Nat.lt_succ_self _) _ _ hn
  refine ⟨e, a, cap, ?_, hw, hr⟩
  have : cs.toList = _ := he
  rw [← Array.toArray_toList (xs := cs), this]
end
end Go.Proofs.YtnkmbddjekepkaaGreatDoor
/- Drafts that come in: a list of bytes, as the statement's reading of it gives it. -/
namespace Go.Proofs.YtnkmbddjekepkaaGreatDoor
open Go Go.RowKit Go.WideShapes Go.ChangeShapes
set_option linter.unusedSimpArgs false
set_option linter.unusedVariables false
set_option linter.unnecessarySimpa false
set_option maxRecDepth 100000
theorem cells1 {w : World} {base : Nat} {a : Addr} {cs : List Value} (h : w.cells? base a 1 = some cs) : ∃ (b o : Nat) (v0 : Value), a = ⟨b, o, none⟩ ∧ cs = [v0] ∧ w.cell? ⟨b, o, none⟩ = some v0 := by
  unfold World.cells? at h
  split at h
  · rw [show List.range 1 = [0] from rfl] at h
    simp only [List.mapM_cons, List.mapM_nil, Option.bind_eq_bind, Option.bind_eq_some_iff, Option.pure_def, Option.some.injEq] at h
    obtain ⟨v0, h0, _, rfl, rfl⟩ := h
    obtain ⟨b, o, s⟩ := a
    have hs : s = none := by simpa [Addr.add] using World.cell?_spot h0
    subst hs
    exact ⟨b, o, v0, rfl, rfl, by simpa [Addr.add] using h0⟩
  · cases h
theorem u8_of_wf {z : Int} (h : (Lit.int .u8 z).wf = true) : 0 ≤ z ∧ z ≤ 255 := by
  simpa [Lit.wf, IntKind.min, IntKind.max, IntKind.signed, IntKind.bits] using h
section
variable {H : Type} {enc : TypeId × Value → H} {W : World} {sp : Nat → Bool} {held : Bool}
/-- A draft that comes in. -/
theorem read_draft {r : Reach} {b0 : Nat} {v : Value} {d : DataW H} {p : List MemPlace} (hv : Value.okWide Tryz.prog W r b0 42 v) (h : DataW.Trod enc Tryz.prog W 0 sp held 42 v d p) :
    ∃ (D : List Nat) (a : Option Addr) (cap : Nat), v = .slice a D.length cap ∧ U8s W D a cap := by
  obtain ⟨a, len, cap, rfl⟩ := okWide_slice Tryz.underlying42 hv
  obtain ⟨n, hn⟩ := h
  have cv : Tryz.prog.cellsOf 5 = 1 := by kernel_rfl
  rcases DataW.trod_slice Tryz.underlying42 hn with ⟨e4, _⟩ | ⟨a', len', cap', elems, rest, n2, hn2, e4, _, hb, hlc, hcm, hel, hall, _, _⟩
  · simp only [Value.cells, List.cons.injEq, Value.slice.injEq, and_true] at e4
    obtain ⟨rfl, rfl, rfl⟩ := e4
    exact ⟨[], none, 0, rfl, ⟨Nat.le_refl _, Nat.zero_le _, by simp, fun b o e => by cases e⟩⟩
  · simp only [Value.cells, List.cons.injEq, Value.slice.injEq, and_true] at e4
    obtain ⟨rfl, rfl, rfl⟩ := e4
    have key : ∀ i, i < len → ∃ (b o : Nat) (x : Nat), a'.add (i * 1) = ⟨b, o, none⟩ ∧ x ≤ 255 ∧ W.cell? ⟨b, o, none⟩ = some (.int .u8 (x : Nat)) := by
      intro i hi
      have h1 := hall i hi
      rw [List.getElem?_eq_getElem (by omega), cv] at h1
      obtain ⟨cs', h2, h3⟩ := Option.bind_eq_some_iff.1 h1
      obtain ⟨b', o', u0, ha, rfl, k0⟩ := cells1 h2
      obtain ⟨z, e0, _, w0⟩ := DataW.trod_int Tryz.underlying5 h3
      simp only [List.cons.injEq, and_true] at e0
      subst e0
      have hz := u8_of_wf w0
      exact ⟨b', o', z.toNat, ha, by omega, by rw [k0, Int.toNat_of_nonneg hz.1]⟩
    by_cases h0 : len = 0
    · subst h0
      exact ⟨[], some a', cap, rfl, ⟨Nat.zero_le _, hcm, by simp, fun b o e i hi => absurd hi (Nat.not_lt_zero _)⟩⟩
    · obtain ⟨b0, o0, _, ha0, _⟩ := key 0 (by omega)
      have ha : a' = ⟨b0, o0, none⟩ := by simpa [Addr.add] using ha0
      subst ha
      have key2 : ∀ i, i < len → ∃ x : Nat, x ≤ 255 ∧ W.cell? ⟨b0, o0 + i, none⟩ = some (.int .u8 (x : Nat)) := fun i hi => by
        obtain ⟨b', o', x, he, hw, hat⟩ := key i hi
        rw [Addr.add_lit] at he
        simp only [Addr.mk.injEq, and_true] at he
        obtain ⟨rfl, rfl⟩ := he
        exact ⟨x, hw, by simpa using hat⟩
      refine ⟨(List.finRange len).map fun i => (key2 i.1 i.2).choose, some ⟨b0, o0, none⟩, cap, by simp, ⟨by simpa using hlc, hcm, fun _ => ⟨_, _, rfl⟩, ?_⟩⟩
      intro b o e i hi
      simp only [Option.some.injEq, Addr.mk.injEq, and_true] at e
      obtain ⟨rfl, rfl⟩ := e
      have hi' : i < len := by simpa using hi
      have := (key2 i hi').choose_spec
      simpa using this
end
end Go.Proofs.YtnkmbddjekepkaaGreatDoor
/- What a row of this seat needs: its condition gives the table of blanks; a world that meets it; the last step of a row. -/
namespace Go.Proofs.YtnkmbddjekepkaaGreatDoor
open Go Go.RowKit Go.WideShapes Go.ChangeShapes
set_option linter.unusedSimpArgs false
set_option linter.unusedVariables false
set_option linter.unnecessarySimpa false
theorem own : ownKnob Tryz.prog.godebug = none := by kernel_rfl
/-- The list of laid variables of every row of this seat. -/
def theLaid : List (String × DataW Unit) := [("unicode/utf8.acceptRanges", Rows.laid_unicode_utf8_acceptRanges), ("unicode.White_Space", Rows.laid_unicode_White_Space), ("strings.asciiSpace", Rows.laid_strings_asciiSpace), ("rewind/signs.words", Rows.laid_rewind_signs_words), ("unicode/utf8.first", Rows.laid_unicode_utf8_first)]
theorem space_data : (Rows.laid_strings_asciiSpace : DataW Unit) = Lib.tabData .u8 Lib.asciiSpaceTab := by kernel_rfl
/-- What a row's condition says of one of the listed variables. -/
theorem laid_get0 {P : Program} {W : World} : ∀ {l : List (String × DataW Unit)} {ps : List MemPlace}, DataW.LaidVars P W l ps → ∀ {n : String} {d : DataW Unit}, (n, d) ∈ l →
    ∃ g t cs fuel p, P.globalNamed n = some g ∧ (P.globals[g]?).map (·.type) = some t ∧ W.var? P n = some cs ∧ DataW.trod (fun _ => ()) P W 0 (fun _ => true) false fuel t cs.toList = some (d, p)
  | [], _, _, _, _, hm => by cases hm
  | (m, e) :: l, ps, h, n, d, hm => by
    obtain ⟨g, t, cs, fuel, p, q, h1, h2, h3, h4, h5, _⟩ := h
    cases hm with
    | head => exact ⟨g, t, cs, fuel, p, h1, h2, h3, h4⟩
    | tail _ hm => exact laid_get0 h5 hm
theorem laid_get {W : World} (h : laidMetH Tryz.prog theLaid W) {n : String} {d : DataW Unit} (hm : (n, d) ∈ theLaid) :
    ∃ g t cs fuel p, Tryz.prog.globalNamed n = some g ∧ (Tryz.prog.globals[g]?).map (·.type) = some t ∧ W.var? Tryz.prog n = some cs ∧ DataW.trod (fun _ => ()) Tryz.prog W 0 (fun _ => true) false fuel t cs.toList = some (d, p) := by
  rw [MakeChecks.laidMetH_plain _ _ _ (by kernel_rfl)] at h
  obtain ⟨ps, h, _⟩ := h
  exact laid_get0 h hm
/-- What a row's condition on the listed variables gives a walk. -/
theorem tab_of_laid {W : World} (h : laidMetH Tryz.prog theLaid W) : Tab W := by
  obtain ⟨g', t', cs, fuel, p, hg', ht', hvar, hd⟩ := laid_get h (n := "strings.asciiSpace") (d := Rows.laid_strings_asciiSpace) (by unfold theLaid; repeat (first | exact List.mem_cons_self | apply List.mem_cons_of_mem))
  have hg : Tryz.prog.globalNamed "strings.asciiSpace" = some 1 := by kernel_rfl
  obtain rfl := Option.some.inj (hg.symm.trans hg')
  obtain rfl := Option.some.inj ((show (Tryz.prog.globals[1]?).map (·.type) = some 134 by kernel_rfl).symm.trans ht')
  rw [space_data] at hd
  unfold Tab Lib.TabIs
  rw [hvar, ← Lib.cells_of_tab Tryz.underlying134 Tryz.underlying5 (by kernel_rfl) (by kernel_rfl) hd]
/-- A world that meets every row's condition on the listed variables. -/
theorem witness_laid {os : Os} {H : Type} {enc : TypeId × Value → H} {f : FuncId} {fn : Func} {s : ChangeSpec} (args : Array Value) (fuel : Nat)
    (hv : ((World.laidAll Tryz.prog os theLaid).forCall (fun _ _ => 0) ⟨#[], args, []⟩).variablesZipB Tryz.prog = true)
    (hr : (((World.laidAll Tryz.prog os theLaid).forCall (fun _ _ => 0) ⟨#[], args, []⟩).heap.toList.drop Tryz.prog.globals.size).take ((begin Tryz.prog (fun _ _ => 0) default).world.heap.size - Tryz.prog.globals.size) =
      (begin Tryz.prog (fun _ _ => 0) default).world.heap.toList.drop Tryz.prog.globals.size)
    (hok : Input.okWideB Tryz.prog ((World.laidAll Tryz.prog os theLaid).forCall (fun _ _ => 0) ⟨#[], args, []⟩) f ⟨#[], args, []⟩ = true)
    (hpre : s.preB enc Tryz.prog fn [] false ((World.laidAll Tryz.prog os theLaid).forCall (fun _ _ => 0) ⟨#[], args, []⟩).memory args fuel = true)
    (hsz : s.sizedB enc Tryz.prog fn false ((World.laidAll Tryz.prog os theLaid).forCall (fun _ _ => 0) ⟨#[], args, []⟩).memory args fuel = true)
    (hf : (World.holding Tryz.prog os ⟨#[], #[], []⟩).layFits Tryz.prog theLaid [] = true)
    (hi : (World.holding Tryz.prog os ⟨#[], #[], []⟩).layIfaces Tryz.prog theLaid (World.laidAll Tryz.prog os theLaid) = true) :
    ∃ (w : World) (tape : Tape) (i : Input), w.os = os ∧ (w.forCall tape i).Shaped Tryz.prog ∧ i.vars = [] ∧ Input.okWide Tryz.prog (w.forCall tape i) .any w.heap.size f i ∧
      ((s.pre enc Tryz.prog fn [] false (w.forCall tape i).memory i.args ∧ laidMetH Tryz.prog theLaid (w.forCall tape i).memory) ∧ sizedMet enc Tryz.prog fn (OpenSpec.ofChange s) false (w.forCall tape i).memory i.args) ∧ ({} : Assume).holds Tryz.prog (lone (Frame.enter Tryz.prog f i.args .normal) [] (w.forCall tape i)) :=
  ⟨World.laidAll Tryz.prog os theLaid, fun _ _ => 0, ⟨#[], args, []⟩, World.laidAll_os _ _ _, World.shaped_of_ZipB hv hr, (Input.okWide_of_okWideB (base := 0) hok).1, (Input.okWide_of_okWideB hok).2, ⟨⟨ChangeSpec.pre_of_preB hpre, by
    rw [MakeChecks.laidMetH_plain _ _ _ (by kernel_rfl)]; exact laidMet_laidAll _ hf hi⟩, sizedMet_of_sizedB hsz⟩, by
    simp only [Assume.holds]
    exact ⟨by simp, by simp, fun _ => Modest.zero, by simp, by simp⟩⟩
section
variable {H : Type} {enc : TypeId × Value → H} {P : Program}
/-- The row's last step, where of the call's world one knows that what was there has not turned. -/
theorem post_of_below {f : Func} {s : ChangeSpec} {apart fresh handsOn again : Bool} {W W' : World} {args : Array Value} {v : Value} {ds gs : List (DataW H)} {before pa pv : List MemPlace}
    (hW : DataW.Whole enc P f.params.toList s.vars apart W args.toList ds gs before)
    (hres : ∀ (b : Nat) (sp : Nat → Bool) (hd : Bool), DataW.TrodAll enc P W' b sp hd f.resultTypes.toList (v.resultList f.resultTypes.size) (s.fn H (ds ++ gs)).results [])
    (hargs : ∀ sp : Nat → Bool, (∀ p ∈ before, sp p.block = true) → DataW.TrodAll enc P W' 0 sp true f.params.toList args.toList (s.fn H (ds ++ gs)).args pa)
    (hvars : ∀ sp : Nat → Bool, (∀ p ∈ before, sp p.block = true) → DataW.TrodVars enc P W' sp s.vars (s.fn H (ds ++ gs)).vars pv)
    (hps : before = pa ++ pv) (hb : Below W.heap.size W W')
    (hok : ∀ (j : Nat) (t : TypeId) (r : Value), f.resultTypes[j]? = some t → (v.resultList f.resultTypes.size)[j]? = some r → Value.okWide P W' .any 0 t r) :
    s.post enc P f apart fresh handsOn again W args v W' := by
  have hlt : ∀ p ∈ before, p.block < W.heap.size := fun p hp => hW.lt p hp
  have hold : ∀ p ∈ before, (fun b => decide (b < W.heap.size)) p.block = true := fun p hp => by simpa using hlt p hp
  refine ⟨ds, gs, before, [], pa, pv, hW, hres _ _ _, hargs _ hold, hvars _ hold, World.keptBut_mono (fun p hp => ⟨hp, ?_⟩) (hb.frame (· ∈ before)), fun _ => ?_⟩
  · rw [hps, List.mem_append] at hp
    exact Or.inr hp
  · obtain ⟨_, _, _, _, _, hz, hn⟩ := hW
    refine ⟨hok, _, _, ([] ++ pa) ++ pv, ⟨[] ++ pa, pv, trodAll_append (hargs _ (fun _ _ => rfl)) (hres _ _ _), hvars _ (fun _ _ => rfl), rfl, ?_, ?_⟩, ?_⟩
    · intro b off hp
      have hin : MemPlace.cell b off ∈ before := by rw [hps]; simpa using hp
      rw [hb.frozen (hlt _ hin)]
      exact hz b off hin
    · intro ha
      have := hn ha
      rw [hps] at this
      simpa using this
    · intro p hp _
      rw [hps]
      simpa using hp
end
end Go.Proofs.YtnkmbddjekepkaaGreatDoor
/- The words of types, laid. -/
namespace Go.Proofs.YtnkmbddjekepkaaGreatDoor
open Go Go.RowKit Go.WideShapes Go.ChangeShapes
set_option linter.unusedSimpArgs false
set_option linter.unusedVariables false
set_option linter.unnecessarySimpa false
/-- A table of strings. -/
theorem cells_of_strtab {H : Type} {enc : TypeId × Value → H} {P : Program} {w : World} {base : Nat} {sp : Nat → Bool} {held : Bool} {fuel : Nat} {t e : TypeId} {n : Nat} {cs : List Value} {zs : List Bytes} {p : List MemPlace}
    (ht : P.underlying t = some (.array n e)) (he : P.underlying e = some .string) (hce : P.cellsOf e = 1) (hct : P.cellsOf t = n)
    (h : DataW.trod enc P w base sp held fuel t cs = some (.agg (zs.map fun z => .lit (.string z)), p)) : cs = zs.map fun z => Value.string ⟨z.toArray⟩ := by
  cases fuel with
  | zero => simp [DataW.trod] at h
  | succ fuel =>
    simp only [DataW.trod, ht, hce, hct, Nat.mul_one] at h
    split at h
    · rename_i hl
      obtain ⟨xs, hm, hx⟩ := Option.map_eq_some_iff.1 h
      have hxs : xs.map (·.1) = zs.map fun z => (DataW.lit (.string z) : DataW H) := by
        have := congrArg Prod.fst hx
        simpa using this
      have hxl : xs.length = n := by simpa using Lib.mapM_length hm
      have hzl : zs.length = n := by
        have := congrArg List.length hxs
        simp at this
        omega
      apply List.ext_getElem?
      intro i
      by_cases hi : i < n
      · obtain ⟨b, hb, hf⟩ := Lib.mapM_at hm i i (by simp [hi])
        obtain ⟨z, hc, rfl, _⟩ := DataW.trod_string he hf
        have h1 : cs[i]? = some (.string z) := by
          have := congrArg (·[0]?) hc
          simpa [List.getElem?_take, List.getElem?_drop] using this
        have h2 : (xs.map (·.1))[i]? = some (DataW.lit (.string z.data.toList) : DataW H) := by simp [hb]
        rw [hxs] at h2
        simp only [List.getElem?_map, Option.map_eq_some_iff, DataW.lit.injEq, Lit.string.injEq] at h2
        obtain ⟨z', hz', rfl⟩ := h2
        simp [h1, hz']
      · rw [List.getElem?_eq_none (by omega), List.getElem?_eq_none (by simp; omega)]
    · cases h
theorem words_data : (Rows.laid_rewind_signs_words : DataW Unit) = .agg ([[], [105, 110, 116], [98, 111, 111, 108], [97, 114, 114, 97, 121]].map fun z => .lit (.string z)) := rfl
theorem words_of_laid {W : World} (h : laidMetH Tryz.prog theLaid W) : Words W := by
  obtain ⟨g', t', cs, fuel, p, hg', ht', hvar, hd⟩ := laid_get h (n := "rewind/signs.words") (d := Rows.laid_rewind_signs_words) (by unfold theLaid; repeat (first | exact List.mem_cons_self | apply List.mem_cons_of_mem))
  have hg : Tryz.prog.globalNamed "rewind/signs.words" = some 0 := by kernel_rfl
  obtain rfl := Option.some.inj (hg.symm.trans hg')
  obtain rfl := Option.some.inj ((show (Tryz.prog.globals[0]?).map (·.type) = some 78 by kernel_rfl).symm.trans ht')
  rw [words_data] at hd
  have hcs := cells_of_strtab Tryz.underlying78 Tryz.underlying9 (by kernel_rfl) (by kernel_rfl) hd
  intro t ht
  rw [World.var?_cell hg hvar, ← Array.getElem?_toList, hcs]
  rcases t with _ | _ | _ | _ | t
  · rfl
  · rfl
  · rfl
  · rfl
  · omega
end Go.Proofs.YtnkmbddjekepkaaGreatDoor
/- The expressions of a draft's program have at most three levels. -/
namespace Go.Proofs.YtnkmbddjekepkaaGreatDoor
open Go Go.RowKit
set_option linter.unusedSimpArgs false
set_option linter.unusedVariables false
set_option linter.unnecessarySimpa false
def deep3 (e : Ex) : Bool := depthM 3 e != 0
/-- All expressions of statements have at most three levels. -/
def deepM : Nat → List St → Bool
  | 0, l => l.isEmpty
  | m + 1, l => l.all fun s => s.args.all deep3 && deepM m s.body && deepM m s.els
theorem deepM_nil : ∀ m, deepM m [] = true
  | 0 => rfl
  | _ + 1 => rfl
theorem exprsD_deep (L : List Nat) (n p : Nat) : (exprsD L n p).1.all deep3 = true := List.all_eq_true.2 fun e he => by simpa [deep3] using exprsD_ok L n p e he
theorem stmtD_deep (L : List Nat) (h : Nat) (blk : Sd → List St × Sd) (hb : ∀ q, deepM h (blk q).1 = true) (q : Sd) : (stmtD L blk q).1.args.all deep3 = true ∧ deepM h (stmtD L blk q).1.body = true ∧ deepM h (stmtD L blk q).1.els = true := by
  unfold stmtD
  simp only
  repeat' split
  all_goals simp only [St.args, St.body, St.els, exprsD_deep, deepM_nil, hb, List.all_nil, and_self]
theorem roundsD_deep (L : List Nat) (h : Nat) (blk : Sd → List St × Sd) (hb : ∀ q, deepM h (blk q).1 = true) : ∀ (n : Nat) (q : Sd), deepM (h + 1) (roundsD (stmtD L blk) n q).1 = true
  | 0, q => rfl
  | n + 1, q => by
    have h1 := roundsD_deep L h blk hb n q
    rw [roundsD]
    simp only
    split
    · exact h1
    · obtain ⟨g1, g2, g3⟩ := stmtD_deep L h blk hb ((roundsD (stmtD L blk) n q).2.1, (roundsD (stmtD L blk) n q).2.2 - 1)
      rw [deepM] at h1 ⊢
      rw [List.all_append, h1]
      simp [g1, g2, g3]
theorem blockD_deep (L : List Nat) : ∀ (h : Nat) (q : Sd), deepM h (blockD L h q).1 = true
  | 0, q => rfl
  | h + 1, q => roundsD_deep L h (blockD L h) (blockD_deep L h) _ _
theorem deepM_mono : ∀ (m : Nat) {k : Nat} {l : List St}, m ≤ k → deepM m l = true → deepM k l = true
  | 0, k, l, _, h => by
    rw [deepM, List.isEmpty_iff] at h
    subst h
    exact deepM_nil k
  | m + 1, 0, l, hk, _ => absurd hk (by omega)
  | m + 1, k + 1, l, hk, h => by
    rw [deepM, List.all_eq_true] at h ⊢
    intro s hs
    have := h s hs
    simp only [Bool.and_eq_true] at this ⊢
    exact ⟨⟨this.1.1, deepM_mono m (by omega) this.1.2⟩, deepM_mono m (by omega) this.2⟩
theorem deepM_app {m : Nat} {a b : List St} (ha : deepM m a = true) (hb : deepM m b = true) : deepM m (a ++ b) = true := by
  cases m with
  | zero => rw [deepM, List.isEmpty_iff] at *; subst ha; subst hb; rfl
  | succ m => rw [deepM] at *; rw [List.all_append, ha, hb]; rfl
theorem funcD_deep (L : List Nat) (name : Bytes) (q : Nat) : deepM 20 (funcD L name q).1.body = true := by
  unfold funcD
  simp only
  exact deepM_mono 3 (by omega) (deepM_app (blockD_deep L 3 _) (blockD_deep L 3 _))
theorem funcsD_deep (L : List Nat) : ∀ (n q : Nat), ∀ f ∈ (funcsD L n q).1, deepM 20 f.body = true
  | 0, q => by simp [funcsD]
  | n + 1, q => by
    intro f hf
    simp only [funcsD, List.mem_append, List.mem_singleton] at hf
    rcases hf with hf | rfl
    · exact funcsD_deep L n q f hf
    · exact funcD_deep L _ _
theorem deepM_ren : ∀ (m : Nat) (l : List St) (n : Nat), deepM m (renL l n) = deepM m l
  | 0, [], n => rfl
  | 0, s :: l, n => rfl
  | m + 1, [], n => rfl
  | m + 1, s :: l, n => by
    have h := deepM_ren (m + 1) l (n + s.cnt)
    rw [deepM, deepM] at h
    rw [deepM, deepM, renL, List.all_cons, List.all_cons, h]
    congr 1
    cases s with
    | mk k i s t c xs bs es =>
      simp only [St.ren, St.args, St.body, St.els, deepM_ren m]
theorem deepM_get {m : Nat} {l : List St} (h : deepM (m + 1) l = true) {s : St} (hs : s ∈ l) : (∀ e ∈ s.args, depthM 3 e ≠ 0) ∧ deepM m s.body = true ∧ deepM m s.els = true := by
  have := List.all_eq_true.1 h s hs
  simp only [Bool.and_eq_true] at this
  exact ⟨fun e he => by simpa [deep3] using List.all_eq_true.1 this.1.1 e he, this.1.2, this.2⟩
/-- What the programs of drafts are. -/
theorem madeD_ok (D : List Nat) : 1 ≤ (madeD D).length ∧ (madeD D).length ≤ 3 ∧ ∀ f ∈ madeD D, fnOk f = true ∧ fnNums f = true ∧ cntL f.body ≤ 12 ∧ f.body.length ≤ 6 ∧ f.params.length ≤ 2 := by
  obtain ⟨h1, h2, h3⟩ := draftD_ok (D.take 300)
  have e : madeD D = (draftD (D.take 300)).map numFn := by
    unfold madeD numberM
    rw [if_pos ⟨by omega, fun f hf => (h3 f hf).1⟩]
  rw [e]
  refine ⟨by simpa using h1, by simpa using h2, fun f hf => ?_⟩
  obtain ⟨g, hg, rfl⟩ := List.mem_map.1 hf
  obtain ⟨k1, k2, k3, k4⟩ := h3 g hg
  exact ⟨(fnOk_num g).trans k1, fnNums_num g, by simpa [numFn, cntL_ren] using k2, by simpa [numFn, renL_len] using k3, by simpa [numFn] using k4⟩
theorem madeD_deep (D : List Nat) : ∀ f ∈ madeD D, deepM 20 f.body = true := by
  intro f hf
  unfold madeD numberM at hf
  split at hf
  · obtain ⟨g, hg, rfl⟩ := List.mem_map.1 hf
    rw [numFn, deepM_ren]
    exact funcsD_deep _ _ _ g hg
  · cases hf
end Go.Proofs.YtnkmbddjekepkaaGreatDoor
/- Being equal is an equivalence; programs that differ in one statement are different: the plain laws. -/
namespace Go.Proofs.YtnkmbddjekepkaaGreatDoor
open Go Go.RowKit
set_option linter.unusedSimpArgs false
set_option linter.unusedVariables false
set_option linter.unnecessarySimpa false
theorem checkM_zero {l : List Fn} : checkM l = 0 ↔ l.length ≤ 20 ∧ ∀ f ∈ l, fnOk f = true ∧ fnNums f = true := by
  unfold checkM
  split
  · rename_i h
    exact ⟨fun _ => h, fun _ => rfl⟩
  · rename_i h
    exact ⟨fun h2 => absurd h2 (by decide), fun h2 => absurd h2 h⟩
theorem eqF_iff {f g : Fn} : eqF f g = true ↔ fnOk f = true ∧ fnOk g = true ∧ f.name = g.name ∧ f.result = g.result ∧ f.params = g.params ∧ eqSs f.body g.body = true := by
  simp only [eqF, Bool.and_eq_true, beq_iff_eq, decide_eq_true_eq, and_assoc]
theorem eqF_refl {f : Fn} (h : fnOk f = true) : eqF f f = true := eqF_iff.2 ⟨h, h, rfl, rfl, rfl, eqSs_refl _⟩
theorem eqF_symm (f g : Fn) : eqF f g = eqF g f := by
  rw [Bool.eq_iff_iff, eqF_iff, eqF_iff, eqSs_symm f.body g.body]
  exact ⟨fun ⟨a, b, c, d, e, h⟩ => ⟨b, a, c.symm, d.symm, e.symm, h⟩, fun ⟨a, b, c, d, e, h⟩ => ⟨b, a, c.symm, d.symm, e.symm, h⟩⟩
theorem eqF_trans {f g h : Fn} (a : eqF f g = true) (b : eqF g h = true) : eqF f h = true := by
  rw [eqF_iff] at *
  exact ⟨a.1, b.2.1, a.2.2.1.trans b.2.2.1, a.2.2.2.1.trans b.2.2.2.1, a.2.2.2.2.1.trans b.2.2.2.2.1, eqSs_trans a.2.2.2.2.2 b.2.2.2.2.2⟩
theorem eqFs_refl : ∀ {l : List Fn}, (∀ f ∈ l, fnOk f = true) → eqFs l l = true
  | [], _ => rfl
  | f :: l, h => by rw [eqFs, eqF_refl (h f (by simp)), eqFs_refl fun g hg => h g (by simp [hg])]; rfl
theorem eqFs_symm : ∀ (l m : List Fn), eqFs l m = eqFs m l
  | [], [] => rfl
  | a :: l, b :: m => by rw [eqFs, eqFs, eqF_symm a b, eqFs_symm l m]
  | [], _ :: _ => rfl
  | _ :: _, [] => rfl
theorem eqFs_trans : ∀ {l m n : List Fn}, eqFs l m = true → eqFs m n = true → eqFs l n = true
  | [], [], [], _, _ => rfl
  | a :: l, b :: m, c :: n, h, k => by
    simp only [eqFs, Bool.and_eq_true] at *
    exact ⟨eqF_trans h.1 k.1, eqFs_trans h.2 k.2⟩
  | [], _ :: _, _, h, _ => by cases h
  | _ :: _, [], _, h, _ => by cases h
  | [], [], _ :: _, _, k => by cases k
  | _ :: _, _ :: _, [], _, k => by cases k
theorem sameM_refl {l : List Fn} (h : checkM l = 0) : sameM l l = true := by
  have := eqFs_refl fun f hf => ((checkM_zero.1 h).2 f hf).1
  simp [sameM, h, this]
theorem sameM_symm (l m : List Fn) : sameM l m = sameM m l := by
  unfold sameM
  rw [eqFs_symm l m, Bool.and_comm (checkM l == 0)]
theorem sameM_trans {l m n : List Fn} (h : sameM l m = true) (k : sameM m n = true) : sameM l n = true := by
  simp only [sameM, Bool.and_eq_true] at *
  exact ⟨⟨h.1.1, k.1.2⟩, eqFs_trans h.2 k.2⟩
theorem made_check (D : List Nat) : checkM (madeD D) = 0 := by
  obtain ⟨_, h2, h3⟩ := madeD_ok D
  exact checkM_zero.2 ⟨by omega, fun f hf => ⟨(h3 f hf).1, (h3 f hf).2.1⟩⟩
/-- A program with right numbers is the one that Number returns. -/
theorem number_id {l : List Fn} (h : checkM l = 0) : numberM l = l := by
  obtain ⟨h1, h2⟩ := checkM_zero.1 h
  unfold numberM
  rw [if_pos ⟨h1, fun f hf => (h2 f hf).1⟩]
  conv => rhs; rw [← List.map_id l]
  exact List.map_congr_left fun f hf => numFn_nums (h2 f hf).2
theorem eqF_body {f g : Fn} (h : f.body.length ≠ g.body.length) : eqF f g = false := by
  rw [Bool.eq_false_iff]
  intro h2
  have := (eqF_iff.1 h2).2.2.2.2.2
  rw [eqSs_len h] at this
  cases this
/-- Without the first statement of one function it is another program. -/
theorem same_cut {l : List Fn} {j : Nat} (hj : j < l.length) {g : Fn} (hg : g.body.length ≠ l[j].body.length) : sameM l (numberM (l.set j g)) = false := by
  have key : eqFs l (numberM (l.set j g)) = false := by
    unfold numberM
    split
    · by_cases hl : l.length = ((l.set j g).map numFn).length
      · rw [Bool.eq_false_iff]
        intro h
        have := (eqFs_all l _ hl).1 h j hj (by simpa using hj)
        rw [eqF_body (by simp [numFn, renL_len]; exact fun e => hg e.symm)] at this
        cases this
      · exact eqFs_len hl
    · exact eqFs_len (by simp; intro e; rw [e] at hj; exact absurd hj (Nat.not_lt_zero _))
  simp [sameM, key]
end Go.Proofs.YtnkmbddjekepkaaGreatDoor
/- rewindref03.numbers answers whether statements have the numbers from n on, and Check answers checkM. -/
namespace Go.Proofs.YtnkmbddjekepkaaGreatDoor
open Go Go.RowKit
set_option linter.unusedSimpArgs false
set_option linter.unusedVariables false
set_option linter.unnecessarySimpa false
theorem ren_no (s : St) (n : Nat) : (s.ren n).no = (n : Nat) := by rw [St.ren_eq]; rfl
theorem ren_body (s : St) (n : Nat) : (s.ren n).body = renL s.body (n + 1) := by rw [St.ren_eq]; rfl
theorem ren_els (s : St) (n : Nat) : (s.ren n).els = renL s.els (n + 1 + cntL s.body) := by rw [St.ren_eq]; rfl
theorem renL_get (l : List St) (n k : Nat) (h : k < l.length) (h' : k < (renL l n).length) : (renL l n)[k] = l[k].ren (n + cntL (l.take k)) := by
  have h1 := renL_take l k n h
  have h2 : (renL l n).take (k + 1) = renL (l.take (k + 1)) n := by
    have h3 := renL_app (l.take (k + 1)) (l.drop (k + 1)) n
    rw [List.take_append_drop] at h3
    rw [h3, List.take_append_of_le_length (by rw [renL_len, List.length_take]; omega), List.take_of_length_le (by rw [renL_len, List.length_take]; omega)]
  have h4 : (renL l n)[k]? = ((renL l n).take (k + 1))[k]? := by rw [List.getElem?_take_of_lt (by omega)]
  rw [h2, h1, List.getElem?_append_right (by rw [renL_len, List.length_take]; omega), renL_len, List.length_take, Nat.min_eq_left (by omega), Nat.sub_self, List.getElem?_eq_getElem h'] at h4
  simpa using h4
theorem numsL_no {l : List St} {n k : Nat} (h : k < l.length) (hp : l[k].nums (n + cntL (l.take k)) = false) : numsL l n = false := by
  have h1 := numsL_app (l.take (k + 1)) (l.drop (k + 1)) n
  rw [List.take_append_drop, numsL_take l k n h, hp] at h1
  rw [h1]
  simp
theorem numsL_all : ∀ (l : List St) (n : Nat), (∀ (i : Nat) (h : i < l.length), l[i].nums (n + cntL (l.take i)) = true) → numsL l n = true
  | [], _, _ => rfl
  | s :: l, n, h => by
    rw [numsL, Bool.and_eq_true]
    refine ⟨by have := h 0 (by simp); simpa [cntL] using this, numsL_all l _ fun i hi => ?_⟩
    have := h (i + 1) (by simpa using hi)
    simpa [cntL, Nat.add_assoc] using this
set_option maxRecDepth 20000 in
set_option maxHeartbeats 8000000 in
theorem numbers1_any : ∀ (N : Nat) (l : List St) (n : Nat) (a a' : Option Addr) (cap cap' : Nat) (w : World), SizeOf.sizeOf l < N → l.length ≤ maxLen → n + cntL l ≤ 1000000 → St.Row w l a → St.Row w (renL l n) a' →
    Calls Tryz.prog 40 #[.slice a l.length cap, .slice a' l.length cap'] w (QtPost w (numsL l n)) := by
  intro N
  induction N with
  | zero => intro l n a a' cap cap' w h; exact absurd h (Nat.not_lt_zero _)
  | succ N ih =>
    intro l n a a' cap cap' w hN hll hn hl hm
    unfold maxLen at hll
    have HL := hide hl
    have HM := hide hm
    have IH := hide ih
    have HLM := hide (renL_len l n)
    clear ih hl hm
    go_enter Tryz.func40, Tryz.ntmps40
    go_wp2_with fail
    go_loopw [5] (fun i wr => ∃ k n0 : Nat, k ≤ l.length ∧ i = .int .i64 k ∧ Hid (∀ (i : Nat) (h : i < l.length), i < k → l[i].nums (n + cntL (l.take i)) = true) ∧ Hid (wr = w.drewN n0)) (fun i _ => l.length - (intOf i).toNat)
    case atStart => exact ⟨0, 0, Nat.zero_le _, rfl, fun i _ h => absurd h (Nat.not_lt_zero _), rfl⟩
    case round =>
      obtain ⟨k, nn, hk, rfl, hall, HWR⟩ := hrel
      have hasw : Has w wr := by rw [HWR.out]; exact has_drewN _
      by_cases hlt : k < l.length
      · have hlt' : k < (renL l n).length := by rw [renL_len]; exact hlt
        obtain ⟨b, o, rfl⟩ := HL.out.addr (by omega)
        obtain ⟨b', o', rfl⟩ := HM.out.addr (by omega)
        have hma := (HM.out.get k hlt').has hasw
        rw [renL_get l n k hlt hlt'] at hma
        obtain ⟨pa, pb, pe, ca, cb, ce, ⟨c0, c1, c2, c3, c4, c5, c6, c7⟩, hw, hx1, hx2, hx3⟩ := ((HL.out.get k hlt).has hasw).val
        obtain ⟨pa', pb', pe', ca', cb', ce', ⟨d0, d1, d2, d3, d4, d5, d6, d7⟩, hw', hy1, hy2, hy3⟩ := hma.val
        rw [ren_no] at d1
        rw [ren_body, renL_len] at d6
        rw [ren_els, renL_len] at d7
        rw [ren_body] at hy2
        rw [ren_els] at hy3
        have hbl1 := cell_lt c0
        have hbl2 := cell_lt d0
        simp only at hbl1 hbl2
        obtain ⟨hs1, hs2⟩ := sts_sz hlt
        have hct := cntL_take l k hlt
        have hcl := cntL_take_le l (k + 1)
        have hce := St.cnt_eq l[k]
        generalize hcc : n + cntL (l.take k) = c at *
        have h2 := hide fun (W : World) (hW : Has wr W) => IH.out l[k].body (c + 1) pb pb' cb cb' W (by omega) (Nat.le_trans hw.lb hw.cb) (by omega) (hx2.has hW) (hy2.has hW)
        have h3 := hide fun (W : World) (hW : Has wr W) => IH.out l[k].els (c + 1 + cntL l[k].body) pe pe' ce ce' W (by omega) (Nat.le_trans hw.le hw.ce) (by omega) (hx3.has hW) (hy3.has hW)
        have HCC := hide hcc
        have hc6 : (0 : Int) ≤ (k : Int) := by omega
        have hc7 : (k : Int) < (l.length : Int) := by omega
        clear hma hw hx1 hx2 hx3 hw' hy1 hy2 hy3 hs1 hs2 hct hcl hce hcc
        cases q1 : l[k].no == ((c : Nat) : Int)
        · have g1 := bne_no q1
          have HE : Hid (numsL l n = false) := hide (numsL_no hlt (by rw [HCC.out, St.nums_eq]; simp at q1; simp [q1]))
          clear q1 h2 h3
          go_wp2_with fail
          go_quiet (fail)
          go_wp2_with fail
          go_ret
          exact ⟨ret_bool HE.out.symm, _, by rw [HWR.out, World.drewN_drewN]⟩
        have g1 := bne_yes q1
        cases q6 : numsL l[k].body (c + 1)
        · have HE : Hid (numsL l n = false) := hide (numsL_no hlt (by rw [HCC.out, St.nums_eq, q6]; simp))
          rw [q6] at h2
          clear q1 q6 h3
          go_wp2_with fail
          go_quiet (first | (go_at_call 40; (with_reducible refine Calls.quiet_of (h2.out _ ?_)); exact fun _ _ _ h => h) | (go_at_call 40; (with_reducible refine Calls.quiet_of (h3.out _ ?_)); exact fun _ _ _ h => h))
          go_wp2_with fail
          go_ret
          exact ⟨ret_bool HE.out.symm, _, by rw [HWR.out, World.drewN_drewN]⟩
        rw [q6] at h2
        cases q7 : numsL l[k].els (c + 1 + cntL l[k].body)
        · have HE : Hid (numsL l n = false) := hide (numsL_no hlt (by rw [HCC.out, St.nums_eq, q7]; simp))
          rw [q7] at h3
          clear q1 q6 q7
          go_wp2_with fail
          go_quiet (first | (go_at_call 40; (with_reducible refine Calls.quiet_of (h2.out _ ?_)); exact fun _ _ _ h => h) | (go_at_call 40; (with_reducible refine Calls.quiet_of (h3.out _ ?_)); exact fun _ _ _ h => h))
          go_wp2_with fail
          go_ret
          exact ⟨ret_bool HE.out.symm, _, by rw [HWR.out, World.drewN_drewN]⟩
        rw [q7] at h3
        have HE : Hid (l[k].nums c = true) := hide (by rw [St.nums_eq, q6, q7]; simpa using q1)
        clear q1 q6 q7
        go_wp2_with fail
        go_quiet (first | (go_at_call 40; (with_reducible refine Calls.quiet_of (h2.out _ ?_)); exact fun _ _ _ h => h) | (go_at_call 40; (with_reducible refine Calls.quiet_of (h3.out _ ?_)); exact fun _ _ _ h => h))
        go_wp2_with fail
        go_roundw
        case rel =>
          refine ⟨k + 1, nn + nq, by omega, by go_num, ?_, hide (by rw [HWR.out, World.drewN_drewN])⟩
          intro i hi hik
          by_cases e : i = k
          · subst e; rw [HCC.out]; exact HE.out
          · exact hall.out i hi (by omega)
        case measure => simp [intOf]; omega
      · obtain rfl : k = l.length := by omega
        have HE := hide (numsL_all l n (fun i h => hall.out i h h))
        go_wp2_with fail
        go_ret
        exact ⟨ret_bool HE.out.symm, _, HWR.out⟩
end Go.Proofs.YtnkmbddjekepkaaGreatDoor
/- rewindref03.Check answers checkM. -/
namespace Go.Proofs.YtnkmbddjekepkaaGreatDoor
open Go Go.RowKit
set_option linter.unusedSimpArgs false
set_option linter.unusedVariables false
set_option linter.unnecessarySimpa false
set_option maxRecDepth 20000 in
set_option maxHeartbeats 8000000 in
theorem refCheck_any (l : List Fn) (a : Option Addr) (cap : Nat) (w : World) (hl : Fns w l a cap) : Calls Tryz.prog 22 #[.agg #[.slice a l.length cap]] w fun r w' => r = .returned (.int .i64 (checkM l)) ∧ Below w.heap.size w w' := by
  have hlen : l.length ≤ 9223372036854775807 := Nat.le_trans hl.len hl.cap
  have HN := hide (refNumber_any [] l a cap (w.alloc (.cells #[.slice a l.length cap] 24)) ((hl.has (has_below ((bl w).al (.cells #[.slice a l.length cap] 24)))).has (has_new (by simp))) (by simp))
  have HL := hide hl
  clear hl
  by_cases hall : l.length ≤ 20 ∧ ∀ f ∈ l, fnOk f = true
  · have hnm : numberM l = l.map numFn := by unfold numberM; rw [if_pos hall]
    rw [hnm] at HN
    have HALL := hide hall
    have HML : Hid ((l.map numFn).length = l.length) := hide (List.length_map ..)
    obtain ⟨h20, _⟩ := hall
    clear hnm
    go_enter Tryz.func22, Tryz.ntmps22
    go_wp2_with fail
    (with_reducible refine HN.out.mono ?_)
    rintro r w1 ⟨⟨v, rfl, hown⟩, hb1⟩
    obtain ⟨a2, c2, rfl, hfn⟩ := hown.fns (by simp)
    have HFQ := hide (hfn.has has_av)
    have HX := hide ((hb1.block _ (by simp)).trans (heap_alloc_new w (.cells #[.slice a l.length cap] 24)))
    have HB1 := hide (((bl w).al (.cells #[.slice a l.length cap] 24)).tr hb1)
    have hxl := (Array.getElem?_eq_some_iff.1 HX.out).1
    have x0 := cell_at (j := 0) HX.out rfl
    clear hown hb1 hfn
    rw [HML.out]
    have HY : Hid ((w1.alloc (.cells #[.slice a2 l.length c2] 24)).heap[w1.heap.size]? = some (.cells #[.slice a2 l.length c2] 24 (0, 0))) := hide (heap_alloc_new _ _)
    have HX2 := hide ((Below.heap_alloc _ (.cells #[.slice a2 l.length c2] 24) _ hxl).trans HX.out)
    have HL2 := hide (HL.out.has (has_below (HB1.out.al (.cells #[.slice a2 l.length c2] 24))))
    have HQ2 := hide (HFQ.out.has (has_below ((bl w1).al (.cells #[.slice a2 l.length c2] 24))))
    have HB2 := hide (HB1.out.al (.cells #[.slice a2 l.length c2] 24))
    have hne : ((l.length : Int) != (l.length : Int)) = false := by simp
    have hxl2 : w.heap.size < (w1.alloc (.cells #[.slice a2 l.length c2] 24)).heap.size := by simp; omega
    have hyl2 : w1.heap.size < (w1.alloc (.cells #[.slice a2 l.length c2] 24)).heap.size := by simp
    clear HX HB1 HFQ HL
    go_wp2_with fail
    clear x0
    generalize w1.alloc (.cells #[.slice a2 l.length c2] 24) = W0 at *
    go_loopw [4] (fun i wr => ∃ k n0 : Nat, k ≤ l.length ∧ i = .int .i64 k ∧ Hid (∀ f ∈ l.take k, fnNums f = true) ∧ Hid (wr = W0.drewN n0)) (fun i _ => l.length - (intOf i).toNat)
    case atStart => exact ⟨0, 0, Nat.zero_le _, rfl, by simp [Hid], rfl⟩
    case round =>
      obtain ⟨k, nn, hk, rfl, hls, HWR⟩ := hrel
      have hasw : Has W0 wr := by rw [HWR.out]; exact has_drewN _
      have x0 := hasw _ _ _ (cell_at (j := 0) HX2.out rfl)
      have y0 := hasw _ _ _ (cell_at (j := 0) HY.out rfl)
      have hxl3 := cell_lt x0
      have hyl3 := cell_lt y0
      simp only at hxl3 hyl3
      by_cases hlt : k < l.length
      · have hltm : k < (l.map numFn).length := by rw [HML.out]; exact hlt
        obtain ⟨b, o, rfl⟩ := HL2.out.addr (by omega)
        obtain ⟨b', o', rfl⟩ := HQ2.out.addr (by omega)
        obtain ⟨pp, pb, cp, cb, c0, c1, c2', c3, c4, hfw, hps, hrow⟩ := (HL2.out.at_ b o rfl k hlt).has hasw
        have hqa := (HQ2.out.at_ b' o' rfl k hltm).has hasw
        rw [List.getElem_map] at hqa
        obtain ⟨pp', pb', cp', cb', d0, d1, d2, d3, d4, hfw', hps', hrow'⟩ := hqa
        have hbl := cell_lt c0
        have hbl' := cell_lt d0
        simp only at hbl hbl'
        have e3 : (numFn l[k]).body = renL l[k].body 0 := rfl
        have e4 : (numFn l[k]).count = (cntL l[k].body : Nat) := rfl
        rw [e3, renL_len] at d3
        rw [e4] at d4
        rw [e3] at hrow'
        have hcn := fnOk_cnt (HALL.out.2 _ (List.getElem_mem hlt))
        have h2 := hide fun (W : World) (hW : Has wr W) => numbers1_any _ l[k].body 0 pb pb' cb cb' W (Nat.lt_succ_self _) (Nat.le_trans hfw.lb hfw.cb) (by omega) (hrow.has hW) (hrow'.has hW)
        have HTL := hide (List.take_succ_eq_append_getElem hlt)
        have hc6 : (0 : Int) ≤ (k : Int) := by omega
        have hc7 : (k : Int) < (l.length : Int) := by omega
        have HOKK := hide (HALL.out.2 _ (List.getElem_mem hlt))
        clear hfw hps hrow hfw' hps' hrow' e3 e4 hcn c0 c1 c2' d0 d1 d2
        cases q1 : l[k].count == ((cntL l[k].body : Nat) : Int)
        · have g1 := bne_no q1
          have HE : Hid (checkM l = 2) := hide (checkM_bad hlt (.inr (by unfold fnNums; rw [Bool.and_eq_false_iff]; right; rw [decide_eq_false_iff_not]; simpa using q1)))
          clear q1 h2
          go_wp2_with fail
          go_quiet (fail)
          go_wp2_with fail
          go_ret
          exact ⟨ret_int HE.out.symm, by rw [HWR.out, World.drewN_drewN]; exact below_dq HB2.out _⟩
        have g1 := bne_yes q1
        cases q2 : numsL l[k].body 0
        · have HE : Hid (checkM l = 2) := hide (checkM_bad hlt (.inr (by unfold fnNums; rw [q2]; rfl)))
          rw [q2] at h2
          clear q1 q2
          go_wp2_with fail
          go_quiet (first | (go_at_call 40; (with_reducible refine Calls.quiet_of (h2.out _ ?_)); exact fun _ _ _ h => h))
          go_wp2_with fail
          go_ret
          exact ⟨ret_int HE.out.symm, by rw [HWR.out, World.drewN_drewN]; exact below_dq HB2.out _⟩
        rw [q2] at h2
        have HE : Hid (fnNums l[k] = true) := hide (by unfold fnNums; rw [q2]; simpa using q1)
        clear q1 q2
        go_wp2_with fail
        go_quiet (first | (go_at_call 40; (with_reducible refine Calls.quiet_of (h2.out _ ?_)); exact fun _ _ _ h => h))
        go_wp2_with fail
        go_roundw
        case rel =>
          refine ⟨k + 1, nn + nq, by omega, by go_num, ?_, hide (by rw [HWR.out, World.drewN_drewN])⟩
          refine hide ?_
          rw [HTL.out]
          intro f hf
          rcases List.mem_append.1 hf with hf | hf
          · exact hls.out f hf
          · rw [List.mem_singleton] at hf
            subst hf
            exact HE.out
        case measure => simp [intOf]; omega
      · obtain rfl : k = l.length := by omega
        have HE : Hid (checkM l = 0) := hide (by
          have h := hls.out
          rw [List.take_length] at h
          unfold checkM
          rw [if_pos ⟨HALL.out.1, fun f hf => ⟨HALL.out.2 f hf, h f hf⟩⟩])
        go_wp2_with fail
        go_ret
        exact ⟨ret_int HE.out.symm, by rw [HWR.out]; exact below_dq HB2.out _⟩
  · have hne : l.length ≠ 0 := fun h0 => hall ⟨by omega, fun f hf => by
      rw [List.eq_nil_of_length_eq_zero h0] at hf
      cases hf⟩
    have hnm : numberM l = [] := by unfold numberM; rw [if_neg hall]
    have hck : checkM l = 2 := by
      unfold checkM
      rw [if_neg]
      rintro ⟨h1, h2⟩
      exact hall ⟨h1, fun f hf => (h2 f hf).1⟩
    rw [hnm] at HN
    rw [hck]
    have ht : ((0 : Int) != (l.length : Int)) = true := by
      rw [bne_iff_ne]
      omega
    clear hall hnm hck hne
    go_enter Tryz.func22, Tryz.ntmps22
    go_wp2_with fail
    (with_reducible refine HN.out.mono ?_)
    rintro r w1 ⟨⟨v, rfl, hown⟩, hb1⟩
    obtain ⟨a2, c2, rfl, hfn⟩ := hown.fns (by simp)
    have HFQ := hide (hfn.has has_av)
    have HX := hide ((hb1.block _ (by simp)).trans (heap_alloc_new w (.cells #[.slice a l.length cap] 24)))
    have HB1 := hide (((bl w).al (.cells #[.slice a l.length cap] 24)).tr hb1)
    have hxl := (Array.getElem?_eq_some_iff.1 HX.out).1
    have x0 := cell_at (j := 0) HX.out rfl
    clear hown hb1 hfn
    go_wp2_with fail
    go_ret
    exact ⟨rfl, HB1.out.al _⟩
end Go.Proofs.YtnkmbddjekepkaaGreatDoor
/- rewindref12.of, Lists and Of. -/
namespace Go.Proofs.YtnkmbddjekepkaaGreatDoor
open Go Go.RowKit
set_option linter.unusedSimpArgs false
set_option linter.unusedVariables false
set_option linter.unnecessarySimpa false
set_option maxRecDepth 20000 in
set_option maxHeartbeats 8000000 in
theorem refOf12_any (f : Fn) (v : Value) (w : World) (hv : f.Val w v) (hn : f.params.length ≤ 100000) :
    Calls Tryz.prog 24 #[v] w fun r w' => (∃ u, r = .returned u ∧ (sgOf f).Val (nw w.heap.size w') u) ∧ Below w.heap.size w w' := by
  obtain ⟨pp, pb, cp, cb, rfl, hfw, hp, hr⟩ := hv
  have HP := hide hp
  obtain ⟨i0, hi, hz0, hz1, hz2⟩ := info_parts info_in
  have HB0 : Hid (Below w.heap.size w (((w.alloc (.cells #[.string ⟨f.name.toArray⟩, .slice pp f.params.length cp, .int .i64 f.result, .slice pb f.body.length cb, .int .i64 f.count] 30)).alloc (.cells #[.string ⟨#[]⟩, .slice none 0 0, .int .i64 0] 59)).alloc (.cells #[.string ⟨f.name.toArray⟩, .slice none 0 0, .int .i64 f.result] 59))) := hide ((((bl w).al _).al _).al _)
  have HX0 : Hid ((((w.alloc (.cells #[.string ⟨f.name.toArray⟩, .slice pp f.params.length cp, .int .i64 f.result, .slice pb f.body.length cb, .int .i64 f.count] 30)).alloc (.cells #[.string ⟨#[]⟩, .slice none 0 0, .int .i64 0] 59)).alloc (.cells #[.string ⟨f.name.toArray⟩, .slice none 0 0, .int .i64 f.result] 59)).heap[w.heap.size + 1 + 1]? = some (.cells #[.string ⟨f.name.toArray⟩, .slice none 0 0, .int .i64 f.result] 59 (0, 0))) := hide (by
    have := heap_alloc_new ((w.alloc (.cells #[.string ⟨f.name.toArray⟩, .slice pp f.params.length cp, .int .i64 f.result, .slice pb f.body.length cb, .int .i64 f.count] 30)).alloc (.cells #[.string ⟨#[]⟩, .slice none 0 0, .int .i64 0] 59)) (.cells #[.string ⟨f.name.toArray⟩, .slice none 0 0, .int .i64 f.result] 59)
    simpa using this)
  have HR0 : Hid ((((w.alloc (.cells #[.string ⟨f.name.toArray⟩, .slice pp f.params.length cp, .int .i64 f.result, .slice pb f.body.length cb, .int .i64 f.count] 30)).alloc (.cells #[.string ⟨#[]⟩, .slice none 0 0, .int .i64 0] 59)).alloc (.cells #[.string ⟨f.name.toArray⟩, .slice none 0 0, .int .i64 f.result] 59)).heap[w.heap.size + 1]? = some (.cells #[.string ⟨#[]⟩, .slice none 0 0, .int .i64 0] 59 (0, 0))) := hide (by
    rw [Below.heap_alloc _ _ _ (by simp)]
    have := heap_alloc_new (w.alloc (.cells #[.string ⟨f.name.toArray⟩, .slice pp f.params.length cp, .int .i64 f.result, .slice pb f.body.length cb, .int .i64 f.count] 30)) (.cells #[.string ⟨#[]⟩, .slice none 0 0, .int .i64 0] 59)
    simpa using this)
  have HQ0 : Hid ((((w.alloc (.cells #[.string ⟨f.name.toArray⟩, .slice pp f.params.length cp, .int .i64 f.result, .slice pb f.body.length cb, .int .i64 f.count] 30)).alloc (.cells #[.string ⟨#[]⟩, .slice none 0 0, .int .i64 0] 59)).alloc (.cells #[.string ⟨f.name.toArray⟩, .slice none 0 0, .int .i64 f.result] 59)).heap[w.heap.size]? = some (.cells #[.string ⟨f.name.toArray⟩, .slice pp f.params.length cp, .int .i64 f.result, .slice pb f.body.length cb, .int .i64 f.count] 30 (0, 0))) := hide (by
    rw [Below.heap_alloc _ _ _ (by simp <;> omega), Below.heap_alloc _ _ _ (by simp)]
    have := heap_alloc_new w (.cells #[.string ⟨f.name.toArray⟩, .slice pp f.params.length cp, .int .i64 f.result, .slice pb f.body.length cb, .int .i64 f.count] 30)
    simpa using this)
  clear hp hr
  go_enter Tryz.func24, Tryz.ntmps24
  go_wp2_with fail
  go_loopw [4] (fun i wr => ∃ (k : Nat) (va : Option Addr) (vc : Nat), k ≤ f.params.length ∧ i = .int .i64 k ∧ Hid (wr.heap[w.heap.size + 1 + 1]? = some (.cells #[.string ⟨f.name.toArray⟩, .slice va k vc, .int .i64 f.result] 59 (0, 0))) ∧
    Hid (OwnL wr (w.heap.size + 3) 3 1 InC [w.heap.size + 1 + 1] (.slice va k vc) ((f.params.take k).map (·.typ))) ∧ Hid (Below w.heap.size w wr) ∧ w.heap.size + 3 ≤ wr.heap.size ∧ Hid (wr.heap[w.heap.size + 1]? = some (.cells #[.string ⟨#[]⟩, .slice none 0 0, .int .i64 0] 59 (0, 0))) ∧ Hid (wr.heap[w.heap.size]? = some (.cells #[.string ⟨f.name.toArray⟩, .slice pp f.params.length cp, .int .i64 f.result, .slice pb f.body.length cb, .int .i64 f.count] 30 (0, 0)))) (fun i _ => f.params.length - (intOf i).toNat)
  case atStart => exact ⟨0, none, 0, Nat.zero_le _, rfl, HX0, hide (OwnL.nil _ _ _ _ _ _), HB0, by simp, HR0, HQ0⟩
  case round =>
    obtain ⟨k, va, vc, hk, rfl, HX, HO, HB, hws, HR, HQ⟩ := hrel
    have x0 := cell_at (j := 0) HX.out rfl
    have x1 := cell_at (j := 1) HX.out rfl
    have x2 := cell_at (j := 2) HX.out rfl
    have y1 := free_at (j := 1) HX.out
    have p1 := cell_at (j := 1) HQ.out rfl
    have hsl : w.heap.size + 1 + 1 < wr.heap.size := by omega
    have hsl0 : w.heap.size < wr.heap.size := by omega
    by_cases hlt : k < f.params.length
    · obtain ⟨b, o, hpp⟩ := HP.out.addr (by omega)
      obtain ⟨c0, c1⟩ := (HP.out.has (has_below HB.out)).at_ b o hpp k hlt
      rw [hpp] at p1
      have HPP := hide hpp
      have hbl := cell_lt c0
      simp only at hbl
      obtain ⟨tk, htk⟩ : ∃ t, t = f.params[k].typ := ⟨_, rfl⟩
      rw [← htk] at c1
      have HTK : Hid ((f.params.take (k + 1)).map (·.typ) = (f.params.take k).map (·.typ) ++ [tk]) := hide (by rw [List.take_succ_eq_append_getElem hlt, List.map_append, htk]; rfl)
      have hll : ((f.params.take k).map (·.typ)).length = k := by simp; omega
      have HLL := hide hll
      have HO4 : Hid (OwnL ((wr.alloc (.cells #[.int .i64 tk] 3)).drew) (w.heap.size + 3) 3 1 InC [w.heap.size + 1 + 1] (.slice va k vc) ((f.params.take k).map (·.typ))) := hide ((HO.out.al InC.mono _).below InC.mono (bl _).dr)
      have HNW := hide (news_row wr [.int .i64 tk] 3 wr.heap.size rfl)
      have HML : Hid (((f.params.take k).map (·.typ)).length + 1 ≤ maxLen) := hide (by rw [hll]; unfold maxLen; omega)
      have HMB : Hid ((((f.params.take k).map (·.typ)).length + 1) * 8 ≤ 140737488355328) := hide (by rw [hll]; omega)
      have HONE : Hid (∀ u ∈ [Value.int .i64 tk], u.oneCell' = true) := hide (by simp [Value.oneCell'])
      have HSZ : Hid (w.heap.size + 3 ≤ ((wr.alloc (.cells #[.int .i64 tk] 3)).drew).heap.size) := hide (by simp; omega)
      have HIN : Hid (∀ W, InC W tk [.int .i64 tk]) := hide fun _ => rfl
      have e1 : w.heap.size + 1 + 1 < wr.heap.size + 1 := by omega
      have e2 : w.heap.size < wr.heap.size + 1 := by omega
      have e3 : b < wr.heap.size + 1 := by omega
      have n1 : ¬ w.heap.size + 1 + 1 = wr.heap.size := by omega
      have n3 : ¬ w.heap.size = wr.heap.size := by omega
      have n5 : ¬ b = wr.heap.size := by omega
      have HAPP : Hid (∀ (v' : Value) (w6 : World), OwnL w6 (w.heap.size + 3) 3 1 InC [w.heap.size + 1 + 1] v' ((f.params.take k).map (·.typ) ++ [tk]) → ((wr.alloc (.cells #[.int .i64 tk] 3)).drew).grownBy w6 (Value.slice va k vc).ownBlock →
            (∃ va' vc', v' = .slice va' (k + 1) vc') ∧ w6.frozen? ⟨w.heap.size + 1 + 1, 1, none⟩ = false ∧ w.heap.size + 1 + 1 < w6.heap.size ∧ w6.heap[w.heap.size + 1 + 1]? = some (.cells #[.string ⟨f.name.toArray⟩, .slice va k vc, .int .i64 f.result] 59 (0, 0)) ∧ w6.heap[w.heap.size]? = wr.heap[w.heap.size]? ∧ w6.heap[w.heap.size + 1]? = wr.heap[w.heap.size + 1]? ∧ Below w.heap.size w w6 ∧ w.heap.size + 3 ≤ w6.heap.size) := hide (by
          intro v' w6 hown hgrow
          have hs6 := hgrow.size
          have hlt' : wr.heap.size + 1 ≤ w6.heap.size := by simpa using hs6
          have hblk : ∀ g, g < w.heap.size + 3 → w6.heap[g]? = wr.heap[g]? := fun g hg => by
            rw [hgrow.block g (by simp; omega) (fun e => by have := (HO.out.lt _ e.symm).1; omega)]
            show (wr.alloc _).heap[g]? = _
            rw [Below.heap_alloc _ _ _ (by omega)]
          have h3 := (hblk (w.heap.size + 1 + 1) (by omega)).trans HX.out
          obtain ⟨va', vc', he, -, -⟩ := hown.slice
          rw [List.length_append, HLL.out] at he
          refine ⟨⟨va', vc', he⟩, free_at h3, by omega, h3, hblk _ (by omega), hblk _ (by omega), ?_, by omega⟩
          exact ((HB.out.al _).dr).grown hgrow (by have := HB.out.size; simp; omega) (fun g hg => by have := (HO.out.lt g hg).1; omega))
      clear hll htk hpp
      go_wp2_with fail
      go_region_law
        ((refine step_push _ (by rfl) _ _ 47 (by rfl) (w.heap.size + 3) 3 i0 _ 1 8 Tryz.underlying47 hi hz0 hz1 hz2 (by rfl) (Nat.succ_pos _) InC InC.mono [w.heap.size + 1 + 1] (.slice va k vc) _ (by rfl) HO4.out ⟨wr.heap.size, 0, none⟩ 1 _ tk (by rfl) (by rfl) HNW.out HONE.out (HIN.out _) HML.out HMB.out HSZ.out ?_; intro v' w6 hown6 hgrow; obtain ⟨⟨va', vc', rfl⟩, y6, hl6, hx6, hp6, hz6, hb6, hs6⟩ := HAPP.out _ _ hown6 hgrow; have HOWN6 := hide hown6; have HX6 := hide hx6; have HP6 := hide (hp6.trans HQ.out); have HZ6 := hide (hz6.trans HR.out); have x16 := cell_at (j := 1) hx6 rfl; have HB6 := hide hb6; clear hown6 hgrow hx6 hp6 hz6 hb6))
      all_goals
        have HO6 := HOWN6.out
        rw [← HTK.out] at HO6
        have HO7 := hide (HO6.kept InC.mono ((Kept.refl [w.heap.size + 1 + 1] w6).set (g := w.heap.size + 1 + 1) (.inl (by simp)) 1 (.slice va' (k + 1) vc')) (by simp))
        have HX7 := hide (heap_set (i := 1) HX6.out (.slice va' (k + 1) vc'))
        have HP7 := hide ((Below.heap_setCell w6 ⟨w.heap.size + 1 + 1, 1, none⟩ (.slice va' (k + 1) vc') w.heap.size (by simp only; omega)).trans HP6.out)
        have HZ7 := hide ((Below.heap_setCell w6 ⟨w.heap.size + 1 + 1, 1, none⟩ (.slice va' (k + 1) vc') (w.heap.size + 1) (by simp only; omega)).trans HZ6.out)
        have HB7 := hide (HB6.out.setCell (p := ⟨w.heap.size + 1 + 1, 1, none⟩) (by simp only; omega) (.slice va' (k + 1) vc'))
        go_wp2_with fail
        go_roundw
        case rel => exact ⟨k + 1, va', vc', by omega, by go_num, HX7.out, HO7.out, HB7.out, by simp [World.setCell]; omega, HZ7.out, HP7.out⟩
        case measure => simp [intOf]; omega
    · obtain rfl : k = f.params.length := by omega
      have r0 := cell_at (j := 0) HR.out rfl
      have r1 := cell_at (j := 1) HR.out rfl
      have r2 := cell_at (j := 2) HR.out rfl
      have z0 := free_at (j := 0) HR.out
      have z1 := free_at (j := 1) HR.out
      have z2 := free_at (j := 2) HR.out
      have hrl : w.heap.size + 1 < wr.heap.size := by omega
      go_wp2_with fail
      refine bodyPost_ret (v := .agg #[.string ⟨f.name.toArray⟩, .slice va f.params.length vc, .int .i64 f.result]) (by simp [results, Tryz.results24, go_sem, r0, r1, r2]) rfl ⟨⟨_, rfl, ?_⟩, ((HB.out.setCell (by simp) _).setCell (by simp) _).setCell (by simp) _⟩
      have ho := HO.out
      rw [List.take_length] at ho
      obtain ⟨a', c', he, hi'⟩ := own_ints ho (Nat.le_refl _)
      rw [List.length_map] at he
      cases he
      have hK : Kept [w.heap.size + 1] wr (((wr.setCell ⟨w.heap.size + 1, 0, none⟩ (.string ⟨f.name.toArray⟩)).setCell ⟨w.heap.size + 1, 1, none⟩ (.slice va f.params.length vc)).setCell ⟨w.heap.size + 1, 2, none⟩ (.int .i64 f.result)) :=
        (((Kept.refl _ wr).set (.inl (by simp)) _ _).set (.inl (by simp)) _ _).set (.inl (by simp)) _ _
      refine ⟨va, vc, by simp [sgOf], (hi'.has (has_nw_kept hK (by simp))).has (has_nws (by omega))⟩
def ListsPost (w : World) (r : Ending) (w' : World) : Prop := r = .returned (.bool true) ∧ Below w.heap.size w w'
theorem sameSg_self (s : Sg) : sameSg s s = true := by simp [sameSg]
set_option maxHeartbeats 2000000 in
/-- Two slices of the same signatures are equal. -/
theorem refLists_self (l : List Sg) (a a' : Option Addr) (cap cap' : Nat) (w : World) (hl : Sgs w l a cap) (hm : Sgs w l a' cap') :
    Calls Tryz.prog 9 #[.slice a l.length cap, .slice a' l.length cap'] w (ListsPost w) := by
  have hlen : l.length ≤ 9223372036854775807 := Nat.le_trans hl.len hl.cap
  have HL := hide hl
  have HM := hide hm
  have hne : ((l.length : Int) != (l.length : Int)) = false := by simp
  clear hl hm
  go_enter Tryz.func9, Tryz.ntmps9
  go_wp2_with fail
  go_loopw [5] (fun i wr => ∃ k : Nat, k ≤ l.length ∧ i = .int .i64 k ∧ Hid (Below w.heap.size w wr)) (fun i _ => l.length - (intOf i).toNat)
  case atStart => exact ⟨0, Nat.zero_le _, rfl, bl _⟩
  case round =>
    obtain ⟨k, hk, rfl, HB⟩ := hrel
    by_cases hlt : k < l.length
    · obtain ⟨b, o, rfl⟩ := HL.out.addr (by omega)
      obtain ⟨c, q, rfl⟩ := HM.out.addr (by omega)
      obtain ⟨pa, pc, a0, a1, a2, hp1⟩ := (HL.out.at_ b o rfl k hlt).has (has_below HB.out)
      obtain ⟨pe, pf, b0, b1, b2, hp2⟩ := (HM.out.at_ c q rfl k hlt).has (has_below HB.out)
      have HS1 := hide fun (W : World) (hW : Below wr.heap.size wr W) => refSame_any l[k] l[k] _ _ W ⟨pa, pc, rfl, hp1.keep hW (Nat.le_refl _)⟩ ⟨pe, pf, rfl, hp2.keep hW (Nat.le_refl _)⟩
      rw [sameSg_self] at HS1
      have hbl1 := cell_lt a0
      have hbl2 := cell_lt b0
      simp only at hbl1 hbl2
      have hc1 : (0 : Int) ≤ (k : Int) := by omega
      have hc2 : (k : Int) < (l.length : Int) := by omega
      clear hp1 hp2
      go_wp2_with fail
      have hB := (bl wr).dr
      go_region_held3 (fun w' => w'.cell? ⟨b, o + k * 3, none⟩ = some (.string ⟨l[k].name.toArray⟩) ∧ w'.cell? ⟨b, o + k * 3 + 1, none⟩ = some (.slice pa l[k].pars.length pc) ∧ w'.cell? ⟨b, o + k * 3 + 2, none⟩ = some (.int .i64 l[k].res) ∧
  w'.cell? ⟨c, q + k * 3, none⟩ = some (.string ⟨l[k].name.toArray⟩) ∧ w'.cell? ⟨c, q + k * 3 + 1, none⟩ = some (.slice pe l[k].pars.length pf) ∧ w'.cell? ⟨c, q + k * 3 + 2, none⟩ = some (.int .i64 l[k].res))
        (first | exact ⟨cell_keep a0 hB (Nat.le_refl _), cell_keep a1 hB (Nat.le_refl _), cell_keep a2 hB (Nat.le_refl _), cell_keep b0 hB (Nat.le_refl _), cell_keep b1 hB (Nat.le_refl _), cell_keep b2 hB (Nat.le_refl _)⟩ | go_keep)
        ((go_at_call 25; (with_reducible refine (HS1.out _ hB).mono ?_); rintro r w5 ⟨rfl, hb⟩; have hB := hB.tr hb; clear hb))
      all_goals
        have HBF := hide (HB.out.tr hB)
        go_wp2_with fail
        go_roundw
        case rel => exact ⟨k + 1, by omega, by go_num, HBF.out⟩
        case measure => simp [intOf]; omega
    · obtain rfl : k = l.length := by omega
      go_wp2_with fail
      go_ret
      exact ⟨rfl, HB.out⟩
theorem names_sg (l : List Fn) : (l.map sgOf).map (·.name) = l.map (·.name) := by simp [sgOf, Function.comp_def]
theorem findSg_some (l : List Sg) (n : Bytes) : (findSg l n).isSome = decide (n ∈ l.map (·.name)) := by
  unfold findSg
  rw [Bool.eq_iff_iff]
  simp
def FoundL (s0 : Sg) (is0 : Bool) (w : World) (r : Ending) (w' : World) : Prop :=
  (∃ pa pc, r = .returned (.tuple #[.agg #[.string ⟨s0.name.toArray⟩, .slice pa s0.pars.length pc, .int .i64 s0.res], .bool is0]) ∧ Ints w' s0.pars pa pc) ∧ Below w.heap.size w w'
theorem found_l {o : Option Sg} {w w' : World} {r : Ending} (h : FoundPost o w r w') : FoundL (o.getD noSg) o.isSome w r w' := by
  obtain ⟨⟨v, rfl, pa, pc, rfl, hi⟩, hb⟩ := h
  exact ⟨⟨pa, pc, rfl, hi⟩, hb⟩
set_option maxRecDepth 20000 in
set_option maxHeartbeats 8000000 in
theorem refSignsOf_any (l : List Fn) (a : Option Addr) (cap : Nat) (w : World) (hl : Fns w l a cap) : Calls Tryz.prog 8 #[.agg #[.slice a l.length cap]] w (SignsPost (signsOfM l) w) := by
  have hlen : l.length ≤ 9223372036854775807 := Nat.le_trans hl.len hl.cap
  have h1 := hide fun (W : World) (hW : Below w.heap.size w W) => refCheck_any l a cap W (hl.keep hW (Nat.le_refl _))
  have HL := hide hl
  have HX0 : Hid ((w.alloc (.cells #[.slice a l.length cap] 24)).heap[w.heap.size]? = some (.cells #[.slice a l.length cap] 24 (0, 0))) := hide (heap_alloc_new _ _)
  obtain ⟨i0, hi, hz0, hz1, hz2⟩ := info_parts info_rsg
  clear hl
  by_cases hc : checkM l = 0
  · have HE : Hid (signsOfM l = signsM l) := hide (by unfold signsOfM; rw [if_pos hc])
    obtain ⟨hl20, hp8⟩ := check_ok hc
    have HP8 := hide hp8
    rw [hc] at h1
    clear hc hp8
    go_enter Tryz.func8, Tryz.ntmps8
    go_wp2_with fail
    refine (h1.out _ ((bl w).al _)).mono ?_
    rintro r w1 ⟨rfl, hb1⟩
    have HX1 := hide ((hb1.block _ (by simp)).trans HX0.out)
    have hlt1 : w.heap.size + 1 ≤ w1.heap.size := (Array.getElem?_eq_some_iff.1 HX1.out).1
    have HB1 := hide (((bl w).al _).tr hb1)
    clear hb1 h1
    go_wp2_with fail
    go_loopw [5, 6] (fun lv i wr => ∃ (k : Nat) (va : Option Addr) (vc : Nat), k ≤ l.length ∧ i = .int .i64 k ∧ lv = .slice va k vc ∧ Hid (dupFrom [] l 0 = dupFrom ((l.take k).map (·.name)) (l.drop k) k) ∧
      Hid (OwnL wr (w.heap.size + 1) 59 3 SgC [] (.slice va k vc) ((l.take k).map sgOf)) ∧ Hid (wr.heap[w.heap.size]? = some (.cells #[.slice a l.length cap] 24 (0, 0))) ∧ Hid (Below w.heap.size w wr) ∧ w.heap.size + 1 ≤ wr.heap.size) (fun _ i _ => l.length - (intOf i).toNat)
    case atStart => exact ⟨0, none, 0, Nat.zero_le _, rfl, rfl, hide rfl, hide (OwnL.nil _ _ _ _ _ _), HX1, HB1, hlt1⟩
    case round =>
      obtain ⟨k, va, vc, hk, rfl, rfl, HD, HO, HX, HB, hws⟩ := hrel
      have x0 := cell_at (j := 0) HX.out rfl
      have hxl : w.heap.size < wr.heap.size := hws
      have hll : ((l.take k).map sgOf).length = k := by simp; omega
      have HLL := hide hll
      have hsg := OwnL.sgs HO.out (by simp)
      obtain ⟨va', vc', he, hsg⟩ := hsg
      rw [hll] at he
      cases he
      have HSG := hide (hsg.has has_av)
      clear hsg hll
      by_cases hlt : k < l.length
      · obtain ⟨b, o, rfl⟩ := HL.out.addr (by omega)
        have hfv := (HL.out.at_ b o rfl k hlt).has (has_below HB.out)
        obtain ⟨pp, pb, cp, cb, c0, c1, c2, c3, c4, hfw, hps, hrow⟩ := hfv
        have hbl := cell_lt c0
        simp only at hbl
        have HFV := hide fun (W : World) (hW : Below wr.heap.size wr W) => refOf12_any l[k] _ W (⟨pp, pb, cp, cb, rfl, hfw, hps.has (has_below hW), hrow.has (has_below hW)⟩ : Fn.Val W l[k] _) (by have := HP8.out _ (List.getElem_mem hlt); omega)
        have HFW := hide hfw
        have HPM := hide hps.wf
        have hnl : l[k].name.length ≤ maxLen := hfw.s
        clear hfw hps hrow
        have hF := fun (W : World) (hW : Below wr.heap.size wr W) => (refFind12_any ((l.take k).map sgOf) l[k].name va vc W (HSG.out.has (has_below hW))).mono (fun r w' h => found_l h)
        rw [HLL.out] at hF
        have hfs := findSg_some ((l.take k).map sgOf) l[k].name
        rw [names_sg] at hfs
        obtain ⟨s0, hs0⟩ : ∃ s, (findSg ((l.take k).map sgOf) l[k].name).getD noSg = s := ⟨_, rfl⟩
        rw [hfs, hs0] at hF
        clear hs0 hfs
        cases hmem : decide (l[k].name ∈ (l.take k).map (·.name))
        · rw [hmem] at hF
          have HF := hide hF
          have HNM := hide (of_decide_eq_false hmem)
          clear hF hmem
          go_wp2_with fail
          (with_reducible refine (HF.out _ (bl _)).mono ?_)
          rintro r w2 ⟨⟨pa, pc, rfl, _⟩, hb2⟩
          have HBa := hide (hb2.al (.cells #[.string ⟨s0.name.toArray⟩, .slice pa s0.pars.length pc, .int .i64 s0.res] 59))
          have c0 := cell_keep c0 HBa.out (Nat.le_refl _)
          have c1 := cell_keep c1 HBa.out (Nat.le_refl _)
          have c2 := cell_keep c2 HBa.out (Nat.le_refl _)
          have c3 := cell_keep c3 HBa.out (Nat.le_refl _)
          have c4 := cell_keep c4 HBa.out (Nat.le_refl _)
          have x0 := cell_keep x0 HBa.out (Nat.le_refl _)
          have hz2' := hb2.size
          have hbl' : b < w2.heap.size := by omega
          have hxl' : w.heap.size < w2.heap.size := by omega
          go_wp2_with fail
          (with_reducible refine (HFV.out _ HBa.out).mono ?_)
          rintro r w3 ⟨⟨u, rfl, hu⟩, hb3⟩
          obtain ⟨s1, hs1⟩ : ∃ s, s = sgOf l[k] := ⟨_, rfl⟩
          rw [← hs1] at hu
          obtain ⟨ua, uc, rfl, hui⟩ := hu
          have hbq := HBa.out.tr hb3
          have HBQ := hide (hbq.al (.cells #[.string ⟨s1.name.toArray⟩, .slice ua s1.pars.length uc, .int .i64 s1.res] 59))
          have hsw : s1.wf := by
            rw [hs1]
            refine ⟨hnl, HFW.out.r, fun p hp => ?_⟩
            obtain ⟨q, hq, rfl⟩ := List.mem_map.1 hp
            exact (HPM.out q hq).2
          have HO4 := hide (HO.out.below SgC.mono HBQ.out)
          have HV4 : Hid (SgC (av ((Value.slice va k vc).ownBlock.toList ++ []) (w3.alloc (.cells #[.string ⟨s1.name.toArray⟩, .slice ua s1.pars.length uc, .int .i64 s1.res] 59))) s1 [.string ⟨s1.name.toArray⟩, .slice ua s1.pars.length uc, .int .i64 s1.res]) := hide ⟨ua, uc, rfl, hsw, hui.has ((has_nw_below ((bl w3).al (.cells #[.string ⟨s1.name.toArray⟩, .slice ua s1.pars.length uc, .int .i64 s1.res] 59))).tr (has_nw_av (fun g hg => by
            simp only [List.append_nil, Option.mem_toList] at hg
            have := (HO.out.lt g hg).2
            simp only [World.size_alloc]
            omega)))⟩
          have HNW := hide (news_row w3 [.string ⟨s1.name.toArray⟩, .slice ua s1.pars.length uc, .int .i64 s1.res] 59 w3.heap.size rfl)
          have HML : Hid (((l.take k).map sgOf).length + 1 ≤ maxLen) := hide (by rw [HLL.out]; unfold maxLen; omega)
          have HMB : Hid ((((l.take k).map sgOf).length + 1) * 48 ≤ 140737488355328) := hide (by rw [HLL.out]; omega)
          have HSZ : Hid (w.heap.size + 1 ≤ (w3.alloc (.cells #[.string ⟨s1.name.toArray⟩, .slice ua s1.pars.length uc, .int .i64 s1.res] 59)).heap.size) := hide (by have := hbq.size; simp; omega)
          have HLEN : Hid (((l.take k).map sgOf ++ [s1]).length = k + 1) := hide (by rw [List.length_append, HLL.out]; rfl)
          have HTK : Hid ((l.take (k + 1)).map sgOf = (l.take k).map sgOf ++ [s1]) := hide (by rw [List.take_succ_eq_append_getElem hlt, List.map_append, hs1]; rfl)
          have HX9 := hide ((HBQ.out.block _ hxl).trans HX.out)
          have HB9 := hide (HB.out.tr HBQ.out)
          clear hui hbq hb3 hs1 hb2 hsw
          go_wp2_with (at_builtin; refine wpList_push _ rfl _ _ 35 rfl (w.heap.size + 1) 59 i0 _ 3 48 Tryz.underlying35 hi hz0 hz1 hz2 rfl (by decide) SgC SgC.mono [] _ _ rfl HO4.out ⟨w3.heap.size, 0, none⟩ 1 [.string ⟨s1.name.toArray⟩, .slice ua s1.pars.length uc, .int .i64 s1.res] s1 rfl rfl HNW.out (by simp [Value.oneCell']) HV4.out HML.out HMB.out HSZ.out ?_; intro v4 w4 hown4 hgrow4; obtain ⟨va4, vc4, he4, -, -⟩ := hown4.slice; rw [HLEN.out] at he4; subst he4)
          go_roundw
          case rel =>
            refine ⟨k + 1, va4, vc4, by omega, by go_num, rfl, ?_, hide (by rw [HTK.out]; exact hown4), (hgrow4.block _ (by have := HSZ.out; omega) (fun e => by have := (HO.out.lt _ e.symm).1; omega)).trans HX9.out, HB9.out.grown hgrow4 HB9.out.size (fun g hg => by have := (HO.out.lt g hg).1; omega), Nat.le_trans HSZ.out hgrow4.size⟩
            show dupFrom [] l 0 = _
            rw [HD.out, dup_step hlt, if_neg HNM.out, List.take_succ_eq_append_getElem hlt, List.map_append]
            rfl
          case measure => simp [intOf]; omega
        · rw [hmem] at hF
          have HF := hide hF
          have HE2 : Hid (signsM l = ([], ((k : Nat) : Int), 11)) := hide (by
            unfold signsM
            rw [HD.out, dup_step hlt, if_pos (of_decide_eq_true hmem)])
          clear hF hmem
          go_wp2_with fail
          (with_reducible refine (HF.out _ (bl _)).mono ?_)
          rintro r w2 ⟨⟨pa, pc, rfl, _⟩, hb2⟩
          go_wp2_with fail
          refine bodyPost_ret (v := .tuple #[.slice none 0 0, .int .i64 (k : Nat), .int .i64 11]) (by simp [results, Tryz.results8, go_sem]) rfl ?_
          rw [HE.out, HE2.out]
          exact ⟨⟨none, 0, rfl, Sgs.nil _⟩, (HB.out.tr hb2).al _⟩
      · obtain rfl : k = l.length := by omega
        have hdn : dupFrom [] l 0 = none := by rw [HD.out, List.drop_length]; rfl
        have hF := fun (W : World) (hW : Below wr.heap.size wr W) => (refFind12_any ((l.take l.length).map sgOf) mainB va vc W (HSG.out.has (has_below hW))).mono (fun r w' h => found_l h)
        rw [HLL.out] at hF
        rw [List.take_length] at hF
        have hmo : mainOk l = match findSg (l.map sgOf) mainB with | some s => decide (s.pars = []) && decide (s.res = 0) | none => false := rfl
        have HG := HSG.out
        rw [List.take_length] at HG
        have HSG := hide HG
        clear HG
        cases hf : findSg (l.map sgOf) mainB with
        | none =>
          have HE2 : Hid (signsM l = ([], -1, 15)) := hide (by unfold signsM; rw [hdn, hmo, hf]; rfl)
          rw [hf] at hF
          have HF : Hid (∀ W, Below wr.heap.size wr W → Calls Tryz.prog 23 #[.slice va l.length vc, .string ⟨#[109, 97, 105, 110]⟩] W (FoundL noSg false W)) := hide hF
          clear hF hf hmo hdn
          go_wp2_with fail
          (with_reducible refine (HF.out _ (bl _)).mono ?_)
          rintro r w2 ⟨⟨pa, pc, rfl, _⟩, hb2⟩
          go_wp2_with fail
          refine bodyPost_ret (v := .tuple #[.slice none 0 0, .int .i64 (-1), .int .i64 15]) (by simp [results, Tryz.results8, go_sem]) rfl ?_
          rw [HE.out, HE2.out]
          exact ⟨⟨none, 0, rfl, Sgs.nil _⟩, (HB.out.tr hb2).al _⟩
        | some s0 =>
          rw [hf] at hF hmo
          have hmo : mainOk l = (decide (s0.pars = []) && decide (s0.res = 0)) := hmo
          have HF : Hid (∀ W, Below wr.heap.size wr W → Calls Tryz.prog 23 #[.slice va l.length vc, .string ⟨#[109, 97, 105, 110]⟩] W (FoundL s0 true W)) := hide hF
          clear hF hf
          by_cases hp0 : s0.pars.length = 0
          · have hp1 : s0.pars = [] := List.eq_nil_of_length_eq_zero hp0
            cases hr0 : s0.res == 0
            · have g3 := bne_no' hr0
              have HE2 : Hid (signsM l = ([], -1, 15)) := hide (by unfold signsM; rw [hdn, hmo, hp1, show decide (s0.res = 0) = false from decide_eq_false (by simpa using hr0)]; rfl)
              have HP0 := hide hp0
              clear hmo hdn hp1
              go_wp2_with fail
              (with_reducible refine (HF.out _ (bl _)).mono ?_)
              rintro r w2 ⟨⟨pa, pc, rfl, _⟩, hb2⟩
              go_wp2_with fail
              refine bodyPost_ret (v := .tuple #[.slice none 0 0, .int .i64 (-1), .int .i64 15]) (by simp [results, Tryz.results8, go_sem]) rfl ?_
              rw [HE.out, HE2.out]
              exact ⟨⟨none, 0, rfl, Sgs.nil _⟩, (HB.out.tr hb2).al _⟩
            · have g3 := bne_yes' hr0
              have HE2 : Hid (signsM l = (l.map sgOf, 0, 0)) := hide (by unfold signsM; rw [hdn, hmo, hp1, show decide (s0.res = 0) = true from decide_eq_true (by simpa using hr0)]; rfl)
              clear hmo hdn hp1
              go_wp2_with fail
              (with_reducible refine (HF.out _ (bl _)).mono ?_)
              rintro r w2 ⟨⟨pa, pc, rfl, _⟩, hb2⟩
              go_wp2_with fail
              refine bodyPost_ret (v := .tuple #[.slice va l.length vc, .int .i64 0, .int .i64 0]) (by simp [results, Tryz.results8, go_sem]) rfl ?_
              rw [HE.out, HE2.out]
              exact ⟨⟨va, vc, by simp, HSG.out.has (has_below (hb2.al _))⟩, (HB.out.tr hb2).al _⟩
          · have hp1 : (0 : Int) < (s0.pars.length : Int) := by omega
            have HE2 : Hid (signsM l = ([], -1, 15)) := hide (by unfold signsM; rw [hdn, hmo, show decide (s0.pars = []) = false from decide_eq_false (fun e => hp0 (by rw [e]; rfl))]; rfl)
            clear hmo hdn
            go_wp2_with fail
            (with_reducible refine (HF.out _ (bl _)).mono ?_)
            rintro r w2 ⟨⟨pa, pc, rfl, _⟩, hb2⟩
            go_wp2_with fail
            refine bodyPost_ret (v := .tuple #[.slice none 0 0, .int .i64 (-1), .int .i64 15]) (by simp [results, Tryz.results8, go_sem]) rfl ?_
            rw [HE.out, HE2.out]
            exact ⟨⟨none, 0, rfl, Sgs.nil _⟩, (HB.out.tr hb2).al _⟩
  · have HE : Hid (signsOfM l = ([], 0, 2)) := hide (by unfold signsOfM; rw [if_neg hc])
    have h2 : checkM l = 2 := by
      unfold checkM at hc ⊢
      split at hc
      · exact absurd rfl hc
      · rename_i h; rw [if_neg h]
    rw [h2] at h1
    clear hc h2
    go_enter Tryz.func8, Tryz.ntmps8
    go_wp2_with fail
    refine (h1.out _ ((bl w).al _)).mono ?_
    rintro r w1 ⟨rfl, hb1⟩
    have hB := ((bl w).al _).tr hb1
    clear hb1
    go_wp2_with fail
    refine bodyPost_ret (v := .tuple #[.slice none 0 0, .int .i64 0, .int .i64 2]) (by simp [results, Tryz.results8, go_sem]) rfl ?_
    rw [HE.out]
    exact ⟨⟨none, 0, rfl, Sgs.nil _⟩, hB⟩
end Go.Proofs.YtnkmbddjekepkaaGreatDoor
/- SignsBodies returns true for every input, where the tables are laid: the plain words, and stores into a program of the call's own. -/
namespace Go.Proofs.YtnkmbddjekepkaaGreatDoor
open Go Go.RowKit
set_option linter.unusedSimpArgs false
set_option linter.unusedVariables false
set_option linter.unnecessarySimpa false
/-- A function without its statements. -/
def bareF (f : Fn) : Fn := ⟨f.name, f.params, f.result, [], 0⟩
theorem bare_sg (l : List Fn) : (l.map bareF).map sgOf = l.map sgOf := by simp [sgOf, bareF, Function.comp_def]
theorem dup_bare : ∀ (l : List Fn) (seen : List Bytes) (i : Nat), dupFrom seen (l.map bareF) i = dupFrom seen l i
  | [], _, _ => rfl
  | f :: l, seen, i => by
    simp only [List.map_cons, dupFrom]
    rw [dup_bare l]
    rfl
theorem bare_ok {f : Fn} (h : fnOk f = true) : fnOk (bareF f) = true ∧ fnNums (bareF f) = true := by
  refine ⟨?_, by simp [fnNums, bareF, numsL, cntL]⟩
  simp only [fnOk, bareF, Bool.and_eq_true] at h ⊢
  exact ⟨h.1, by simp [wellM], by simp [cntL]⟩
theorem signs_bare {l : List Fn} (h20 : l.length ≤ 20) (h : ∀ f ∈ l, fnOk f = true ∧ fnNums f = true) : signsOfM (l.map bareF) = signsOfM l := by
  have h1 : checkM l = 0 := by unfold checkM; rw [if_pos ⟨h20, h⟩]
  have h2 : checkM (l.map bareF) = 0 := by
    have hall : ∀ f ∈ l.map bareF, fnOk f = true ∧ fnNums f = true := fun f hf => by
      obtain ⟨g, hg, rfl⟩ := List.mem_map.1 hf
      exact bare_ok (h g hg).1
    unfold checkM
    rw [if_pos ⟨by simpa using h20, hall⟩]
  unfold signsOfM
  rw [if_pos h1, if_pos h2]
  unfold signsM mainOk
  rw [dup_bare, bare_sg]
theorem signs_bad {f : Fn} {l : List Fn} (h : fnOk f = false ∨ fnNums f = false) : signsOfM (f :: l) = ([], 0, 2) := by
  unfold signsOfM
  rw [if_neg]
  rw [checkM_bad (l := f :: l) (k := 0) (by simp) h]
  decide
theorem bad_name (f : Fn) : fnOk { f with name := [119, 104, 105, 108, 101] } = false := by
  have : nameOk [119, 104, 105, 108, 101] = false := by decide +kernel
  simp [fnOk, this]
theorem bad_res (f : Fn) : fnOk { f with result := 4 } = false := by
  have : (decide ((4 : Int) = 0) || typedM 4) = false := by decide +kernel
  simp only [fnOk, this, Bool.and_false, Bool.false_and]
theorem bad_cnt (f : Fn) (hb : f.body = []) : fnNums { f with count := 1 } = false := by
  simp [fnNums, hb, cntL]
theorem bad_pms (f : Fn) : fnOk { f with params := [⟨[], 0⟩] } = false := by
  have : [(⟨[], 0⟩ : Pm)].all pmOk = false := by decide +kernel
  simp only [fnOk, this, Bool.and_false, Bool.false_and]
theorem set_other12 {w : World} {g i j : Nat} {u v : Value} (h : w.cell? ⟨g, j, none⟩ = some v) (hj : j ≠ i) : (w.setCell ⟨g, i, none⟩ u).cell? ⟨g, j, none⟩ = some v := by
  have h1 : (w.setCell ⟨g, i, none⟩ u).cell? ⟨g, j, none⟩ = w.cell? ⟨g, j, none⟩ := World.cell?_setCell_other _ _ _ _ (by simp only [ne_eq, Addr.mk.injEq, and_true, true_and]; omega)
  rw [h1]
  exact h
/-- One cell of the first function of a row of the call's own is written. -/
theorem own_store0 {w : World} {base : Nat} {t : TypeId} {ban : List Nat} {g n cap : Nat} {l : List Fn} (h : OwnL w base t 5 FnC ban (.slice (some ⟨g, 0, none⟩) n cap) l) (hn : 0 < l.length) (j : Nat) (u : Value) (f' : Fn)
    (hf : ∀ c, FnC (av (g :: ban) w) l[0] c → c.length = 5 → FnC (av (g :: ban) w) f' (c.set j u)) (hj : j < 5) : Fns (w.setCell ⟨g, j, none⟩ u) (f' :: l.drop 1) (some ⟨g, 0, none⟩) cap := by
  obtain ⟨a, c', he, hlc, hcm⟩ := h.slice
  cases he
  have hlen : (f' :: l.drop 1).length = l.length := by simp; omega
  have hK : Has (av (g :: ban) w) (w.setCell ⟨g, j, none⟩ u) := fun b o v hv => by
    obtain ⟨h1, h2⟩ := av_cell.1 hv
    rw [World.cell?_setCell_far _ _ _ _ (by simp only; intro e; exact h1 (by simp [e]))]
    exact h2
  have key : ∀ i (hi : i < l.length), ∃ c, FnC (w.setCell ⟨g, j, none⟩ u) ((f' :: l.drop 1)[i]'(by omega)) c ∧ ∀ q v, c[q]? = some v → (w.setCell ⟨g, j, none⟩ u).cell? ⟨g, i * 5 + q, none⟩ = some v := by
    intro i hi
    obtain ⟨_, _, c, _, hv, hl, hc⟩ := h.get FnC.mono rfl i hi
    cases i with
    | zero =>
      refine ⟨c.set j u, FnC.mono _ _ _ _ hK (hf c hv hl), fun q v hq => ?_⟩
      rw [Nat.zero_mul, Nat.zero_add]
      by_cases e : q = j
      · subst e
        rw [List.getElem?_set_self (by omega)] at hq
        cases hq
        have h0 := hc q (c[q]'(by omega)) (by simp)
        rw [Nat.zero_mul, Nat.zero_add] at h0
        exact World.cell?_setCell_same _ _ _ h0
      · rw [List.getElem?_set_ne (by omega)] at hq
        have h0 := hc q v hq
        rw [Nat.zero_mul, Nat.zero_add] at h0
        rw [set_other12 h0 (by omega)]
    | succ i =>
      refine ⟨c, ?_, fun q v hq => ?_⟩
      · have e : (f' :: l.drop 1)[i + 1]'(by omega) = l[i + 1] := by simp
        rw [e]
        exact FnC.mono _ _ _ _ hK hv
      · have h0 := hc q v hq
        exact (set_other12 h0 (by omega))
  refine ⟨by omega, hcm, fun _ => ⟨_, _, rfl⟩, fun b o e i hi => ?_⟩
  simp only [Option.some.injEq, Addr.mk.injEq, and_true] at e
  obtain ⟨rfl, rfl⟩ := e
  obtain ⟨c, ⟨pp, pb, cp, cb, rfl, hw, hp, hr⟩, hc⟩ := key i (by omega)
  rw [Nat.zero_add]
  exact ⟨pp, pb, cp, cb, hc 0 _ rfl, hc 1 _ rfl, hc 2 _ rfl, hc 3 _ rfl, hc 4 _ rfl, hw, hp, hr⟩
/-- A new block without cells is an empty slice of the call's own. -/
theorem own_empty {w : World} {base g sz : Nat} {α : Type} {V : World → α → List Value → Prop} {t : TypeId} {ban : List Nat} (hb : base ≤ g) (hg : w.heap[g]? = some (.cells #[] t (0, 0))) : OwnL w base t sz V ban (.slice (some ⟨g, 0, none⟩) 0 0) ([] : List α) :=
  ⟨[], ⟨by simp, .inr ⟨g, 0, #[], rfl, hb, hg, Nat.le_refl _, Nat.zero_le _, by simp, by simp⟩⟩, rfl⟩
/-- All cells of a row of the call's own, for an append of all of them. -/
theorem own_news {α : Type} {w : World} {base sz : Nat} {t : TypeId} {V : World → α → List Value → Prop} {ban : List Nat} {v : Value} {l : List α} (h : OwnL w base t sz V ban v l) {g n cap : Nat} (hv : v = .slice (some ⟨g, 0, none⟩) n cap) :
    ∃ xs : List Value, Cut sz (V (av (v.ownBlock.toList ++ ban) w)) l xs ∧ ∀ ad, some (⟨g, 0, none⟩ : Addr) = some ad → ∀ (j : Nat) (u : Value), xs[j]? = some u → w.cell? (ad.add j) = some u := by
  obtain ⟨xs, h1, h2⟩ := h
  refine ⟨xs, h2, fun ad e j u hu => ?_⟩
  cases e
  exact h1.cells (by rw [hv]; rfl) j u hu
end Go.Proofs.YtnkmbddjekepkaaGreatDoor
/- SignsBodies returns true for every input, where the tables are laid: the walk. -/
namespace Go.Proofs.YtnkmbddjekepkaaGreatDoor
open Go Go.RowKit
set_option linter.unusedSimpArgs false
set_option linter.unusedVariables false
set_option linter.unnecessarySimpa false
def SignsLit2 (l : List Sg) (i e : Int) (w : World) (r : Ending) (w' : World) : Prop :=
  (∃ a cap, r = .returned (.tuple #[.slice a l.length cap, .int .i64 i, .int .i64 e]) ∧ Sgs w' l a cap) ∧ Below w.heap.size w w'
theorem signs_len2 (l : List Fn) : (signsOfM l).1.length ≤ l.length := by
  unfold signsOfM signsM
  split
  · split
    · simp
    · split <;> simp
  · simp
theorem own_free {α : Type} {w : World} {base sz : Nat} {t : TypeId} {V : World → α → List Value → Prop} {ban : List Nat} {l : List α} {g n cap : Nat} (h : OwnL w base t sz V ban (.slice (some ⟨g, 0, none⟩) n cap) l) : g < w.heap.size ∧ ∀ j, w.frozen? ⟨g, j, none⟩ = false := by
  obtain ⟨xs, h1, h2⟩ := h
  rcases h1.2 with ⟨e, _⟩ | ⟨g', cap', cur, e, _, hg, _⟩
  · cases e
  · cases e
    exact ⟨(Array.getElem?_eq_some_iff.1 hg).1, fun j => free_at hg⟩
set_option maxRecDepth 20000 in
set_option maxHeartbeats 16000000 in
theorem SignsBodies_any (D : List Nat) (a : Option Addr) (cap : Nat) (n : Nat) (w : World) (hd : U8s w D a cap) (hn : n ≤ 255) (hT : Tab w) (hWd : Words w) :
    Calls Tryz.prog 4 #[.slice a D.length cap, .int .u8 (n : Nat)] w fun r w' => r = .returned (.bool true) ∧ Below w.heap.size w w' := by
  have HM := hide (made_any D a cap w hd)
  have HT := hide hT
  have HWK := hide fun (W : World) (hW : Below w.heap.size w W) => works12_any W (hT.below hW) (hWd.below hW)
  obtain ⟨hl1, hl3, hok⟩ := madeD_ok D
  generalize madeD D = l at *
  have hS1 := fun (a : Option Addr) (cap : Nat) (W : World) (hW : Below w.heap.size w W) (h : Fns W l a cap) => signsOf_any l a cap W h (hT.below hW)
  have hS2 := fun (a : Option Addr) (cap : Nat) (W : World) (hW : Below w.heap.size w W) (h : Fns W (l.map bareF) a cap) => signsOf_any (l.map bareF) a cap W h (hT.below hW)
  have hlb : (l.map bareF).length = l.length := List.length_map ..
  rw [signs_bare (by omega) (fun f hf => ⟨(hok f hf).1, (hok f hf).2.1⟩), hlb] at hS2
  have hol := signs_len2 l
  generalize signsOfM l = o at hS1 hS2 hol
  obtain ⟨m, oi, oe⟩ := o
  have HS1 : Hid (∀ (a : Option Addr) (cap : Nat) (W : World), Below w.heap.size w W → Fns W l a cap → Calls Tryz.prog 7 #[.agg #[.slice a l.length cap]] W (SignsLit2 m oi oe W)) := hide hS1
  have HS2 : Hid (∀ (a : Option Addr) (cap : Nat) (W : World), Below w.heap.size w W → Fns W (l.map bareF) a cap → Calls Tryz.prog 7 #[.agg #[.slice a l.length cap]] W (SignsLit2 m oi oe W)) := hide hS2
  have HBAD : Hid (∀ (f : Fn) (ad : Option Addr) (c : Nat) (W : World), Tab W → Fns W (f :: (l.map bareF).drop 1) ad c → fnOk f = false ∨ fnNums f = false → Calls Tryz.prog 7 #[.agg #[.slice ad l.length c]] W fun r w' => (∃ a' c', r = .returned (.tuple #[.slice a' 0 c', .int .i64 0, .int .i64 2])) ∧ Below W.heap.size W w') := hide fun f ad c W hT hf hb => by
    have h := signsOf_any (f :: (l.map bareF).drop 1) ad c W hf hT
    rw [signs_bad hb] at h
    rw [show (f :: (l.map bareF).drop 1).length = l.length by simp; omega] at h
    refine h.mono ?_
    rintro r w' ⟨⟨a', c', rfl, _⟩, hb⟩
    exact ⟨⟨a', c', rfl⟩, hb⟩
  have HLB := hide hlb
  have hm : m.length ≤ 3 := Nat.le_trans hol hl3
  obtain ⟨i0, hi, hz0, hz1, hz2⟩ := info_parts info_fn
  clear hd hT hWd hS1 hS2 hol hok hlb
  go_enter Tryz.func4, Tryz.ntmps4
  go_wp2_with fail
  (with_reducible refine HM.out.mono ?_)
  rintro r w1 ⟨⟨v, rfl, hown⟩, hb⟩
  rcases hown.form with ⟨_, h0⟩ | ⟨g, cp, rfl, hg, hgl, h1, h2⟩
  · rw [h0] at hl1
    exact absurd hl1 (by decide)
  obtain ⟨a', c', he, hf⟩ := hown.fns (fun g hg => List.mem_range.1 hg)
  cases he
  have HL := hide (hf.has has_av)
  have HW := hide hb
  have HX50 : Hid (((w1.alloc (.cells #[.slice (some ⟨g, 0, none⟩) l.length cp] 24)).alloc (.cells #[.slice none 0 0] 24)).heap[w1.heap.size]? = some (.cells #[.slice (some ⟨g, 0, none⟩) l.length cp] 24 (0, 0))) := hide (by
    rw [Below.heap_alloc _ _ _ (by simp)]
    exact heap_alloc_new _ _)
  have HX60 : Hid (((w1.alloc (.cells #[.slice (some ⟨g, 0, none⟩) l.length cp] 24)).alloc (.cells #[.slice none 0 0] 24)).heap[w1.heap.size + 1]? = some (.cells #[.slice none 0 0] 24 (0, 0))) := hide (by
    have := heap_alloc_new (w1.alloc (.cells #[.slice (some ⟨g, 0, none⟩) l.length cp] 24)) (.cells #[.slice none 0 0] 24)
    simpa using this)
  clear hown hf hb HM
  go_wp2_with fail
  go_loopw [7] (fun i wr => ∃ (k : Nat) (va : Option Addr) (vc : Nat), k ≤ l.length ∧ i = .int .i64 k ∧ Hid (wr.heap[w1.heap.size]? = some (.cells #[.slice (some ⟨g, 0, none⟩) l.length cp] 24 (0, 0))) ∧ Hid (wr.heap[w1.heap.size + 1]? = some (.cells #[.slice va k vc] 24 (0, 0))) ∧
    Hid (OwnL wr (w1.heap.size + 2) 30 5 FnC [w1.heap.size + 1] (.slice va k vc) ((l.take k).map bareF)) ∧ Hid (Below w1.heap.size w1 wr) ∧ w1.heap.size + 2 ≤ wr.heap.size) (fun i _ => l.length - (intOf i).toNat)
  case atStart => exact ⟨0, none, 0, Nat.zero_le _, rfl, HX50, HX60, hide (OwnL.nil _ _ _ _ _ _), hide (((bl w1).al _).al _), by simp⟩
  case round =>
    obtain ⟨k, va, vc, hk, rfl, HX5, HX6, HO, HB, hws⟩ := hrel
    have x5 := cell_at (j := 0) HX5.out rfl
    have x6 := cell_at (j := 0) HX6.out rfl
    have hs5 : w1.heap.size < wr.heap.size := by omega
    have hs6 : w1.heap.size + 1 < wr.heap.size := by omega
    have hgw : g < wr.heap.size := by omega
    by_cases hlt : k < l.length
    · have hat := HL.out.at_ g 0 rfl k hlt
      have hat2 := hat.has (has_below HB.out)
      obtain ⟨pp, pb, pc, cb, c0, c1, c2, c3, c4, hfw, hps, hrow⟩ := hat2
      obtain ⟨pp', pb', pc', cb', e0, e1, e2, e3, e4, hfw', hps', hrow'⟩ := hat
      have e1 := cell_keep e1 HB.out (Nat.le_refl _)
      rw [c1] at e1
      simp only [Option.some.injEq, Value.slice.injEq, true_and] at e1
      obtain ⟨rfl, rfl⟩ := e1
      simp only [Nat.zero_add] at c0 c1 c2 c3 c4
      have hll : ((l.take k).map bareF).length = k := by simp; omega
      have HLL := hide hll
      have HO2 := hide ((HO.out.al FnC.mono (.cells #[.string ⟨l[k].name.toArray⟩, .slice pp l[k].params.length pc, .int .i64 l[k].result, .slice pb l[k].body.length cb, .int .i64 l[k].count] 30)).al FnC.mono (.cells #[.string ⟨l[k].name.toArray⟩, .slice pp l[k].params.length pc, .int .i64 l[k].result, .slice none 0 0, .int .i64 0] 30))
      have HB2 := hide ((HB.out.al (.cells #[.string ⟨l[k].name.toArray⟩, .slice pp l[k].params.length pc, .int .i64 l[k].result, .slice pb l[k].body.length cb, .int .i64 l[k].count] 30)).al (.cells #[.string ⟨l[k].name.toArray⟩, .slice pp l[k].params.length pc, .int .i64 l[k].result, .slice none 0 0, .int .i64 0] 30))
      have HX52 := hide ((Below.heap_alloc _ (.cells #[.string ⟨l[k].name.toArray⟩, .slice pp l[k].params.length pc, .int .i64 l[k].result, .slice none 0 0, .int .i64 0] 30) _ (by simp; omega)).trans ((Below.heap_alloc _ (.cells #[.string ⟨l[k].name.toArray⟩, .slice pp l[k].params.length pc, .int .i64 l[k].result, .slice pb l[k].body.length cb, .int .i64 l[k].count] 30) _ hs5).trans HX5.out))
      have HX62 := hide ((Below.heap_alloc _ (.cells #[.string ⟨l[k].name.toArray⟩, .slice pp l[k].params.length pc, .int .i64 l[k].result, .slice none 0 0, .int .i64 0] 30) _ (by simp; omega)).trans ((Below.heap_alloc _ (.cells #[.string ⟨l[k].name.toArray⟩, .slice pp l[k].params.length pc, .int .i64 l[k].result, .slice pb l[k].body.length cb, .int .i64 l[k].count] 30) _ hs6).trans HX6.out))
      have HV2 : Hid (FnC (av ((Value.slice va k vc).ownBlock.toList ++ [w1.heap.size + 1]) ((wr.alloc (.cells #[.string ⟨l[k].name.toArray⟩, .slice pp l[k].params.length pc, .int .i64 l[k].result, .slice pb l[k].body.length cb, .int .i64 l[k].count] 30)).alloc (.cells #[.string ⟨l[k].name.toArray⟩, .slice pp l[k].params.length pc, .int .i64 l[k].result, .slice none 0 0, .int .i64 0] 30))) (bareF l[k]) [.string ⟨l[k].name.toArray⟩, .slice pp l[k].params.length pc, .int .i64 l[k].result, .slice none 0 0, .int .i64 0]) := hide ⟨pp, none, pc, 0, rfl, ⟨hfw.s, hfw.r, Nat.le_refl _, Nat.zero_le _, by unfold I64; simp [bareF]⟩, hps'.has ((has_new (fun g hg => by
        simp only [List.mem_append, Option.mem_toList, List.mem_cons, List.not_mem_nil, or_false] at hg
        rcases hg with hg | rfl
        · have := (HO.out.lt g hg).1; omega
        · omega)).tr (has_av_below HB2.out)), trivial⟩
      have HNW := hide (news_row (wr.alloc (.cells #[.string ⟨l[k].name.toArray⟩, .slice pp l[k].params.length pc, .int .i64 l[k].result, .slice pb l[k].body.length cb, .int .i64 l[k].count] 30)) [.string ⟨l[k].name.toArray⟩, .slice pp l[k].params.length pc, .int .i64 l[k].result, .slice none 0 0, .int .i64 0] 30 (wr.heap.size + 1) (by simp))
      have HMA : Hid (((l.take k).map bareF).length + 1 ≤ maxLen) := hide (by rw [hll]; unfold maxLen; omega)
      have HMB : Hid ((((l.take k).map bareF).length + 1) * 80 ≤ 140737488355328) := hide (by rw [hll]; omega)
      have HBS : Hid (w1.heap.size + 2 ≤ ((wr.alloc (.cells #[.string ⟨l[k].name.toArray⟩, .slice pp l[k].params.length pc, .int .i64 l[k].result, .slice pb l[k].body.length cb, .int .i64 l[k].count] 30)).alloc (.cells #[.string ⟨l[k].name.toArray⟩, .slice pp l[k].params.length pc, .int .i64 l[k].result, .slice none 0 0, .int .i64 0] 30)).heap.size) := hide (by simp; omega)
      have HLEN : Hid (((l.take k).map bareF ++ [bareF l[k]]).length = k + 1) := hide (by rw [List.length_append, hll]; rfl)
      have HTK : Hid ((l.take (k + 1)).map bareF = (l.take k).map bareF ++ [bareF l[k]]) := hide (by rw [List.take_succ_eq_append_getElem hlt, List.map_append]; rfl)
      clear hll hfw hps hrow e0 e2 e3 e4 hfw' hps' hrow'
      go_wp2_with (at_builtin; refine wpList_push _ rfl _ _ 22 rfl (w1.heap.size + 2) 30 i0 _ 5 80 Tryz.underlying22 hi hz0 hz1 hz2 rfl (by decide) FnC FnC.mono [w1.heap.size + 1] _ _ rfl HO2.out ⟨wr.heap.size + 1, 0, none⟩ 1 [.string ⟨l[k].name.toArray⟩, .slice pp l[k].params.length pc, .int .i64 l[k].result, .slice none 0 0, .int .i64 0] (bareF l[k]) rfl rfl HNW.out (by simp [Value.oneCell']) HV2.out HMA.out HMB.out HBS.out ?_; intro v4 w4 hown4 hgrow4; obtain ⟨va4, vc4, he4, -, -⟩ := hown4.slice; rw [HLEN.out] at he4; subst he4; have HX54 := hide ((hgrow4.block _ (by simp; omega) (fun e => by have := (HO.out.lt _ e.symm).1; omega)).trans HX52.out); have HX64 := hide ((hgrow4.block _ (by simp; omega) (fun e => by have := (HO.out.lt _ e.symm).1; omega)).trans HX62.out); have HB4 := hide (HB2.out.grown hgrow4 HB2.out.size (fun g hg => by have := (HO.out.lt g hg).1; omega)); have HO4 := hide hown4; have hz4 := hgrow4.size; have x64 := cell_at (j := 0) HX64.out rfl; have y64 := free_at (j := 0) HX64.out; have hs64 : w1.heap.size + 1 < w4.heap.size := cell_lt x64; clear hgrow4 hown4)
      go_roundw
      case rel =>
        refine ⟨k + 1, va4, vc4, by omega, by go_num, (Below.heap_setCell _ _ _ _ (by simp only; omega)).trans HX54.out, ?_, ?_, HB4.out.setCell (by simp only; omega) _, ?_⟩
        · have := heap_set (i := 0) HX64.out (.slice va4 (k + 1) vc4)
          simpa [Hid] using this
        · rw [HTK.out]
          exact HO4.out.kept FnC.mono ((Kept.refl [w1.heap.size + 1] w4).set (g := w1.heap.size + 1) (.inl (by simp)) 0 (.slice va4 (k + 1) vc4)) (by simp)
        · simp at hz4
          simp [World.setCell]
          omega
      case measure => simp [intOf]; omega
    · obtain rfl : k = l.length := by omega
      have ho := HO.out
      rw [List.take_length] at ho
      have HOB := hide ho
      have HWR := hide (HW.out.tr HB.out)
      rcases ho.form with ⟨_, h0⟩ | ⟨g6, c6, h6, hg6, hgl6, _, _⟩
      · have h0' : (l.map bareF).length = 0 := by rw [h0]; rfl
        rw [HLB.out] at h0'
        omega
      rw [HLB.out] at h6
      cases h6
      obtain ⟨a6, c6', he6, hf6⟩ := ho.fns (by simp)
      rw [HLB.out] at he6
      cases he6
      have HFB := hide (hf6.has has_av)
      clear ho hf6 HW HO
      go_wp2_with fail
      (with_reducible refine (HS1.out _ _ _ HWR.out (HL.out.has (has_below HB.out))).mono ?_)
      rintro r w2 ⟨⟨a2, p2, rfl, hs⟩, hb⟩
      have HG1 := hide hs
      have HX6 := hide ((hb.block _ hs6).trans HX6.out)
      have x6 := cell_at (j := 0) HX6.out rfl
      have hs6 := (Array.getElem?_eq_some_iff.1 HX6.out).1
      have HFB := hide (HFB.out.has (has_below hb))
      have HOB := hide (HOB.out.below FnC.mono hb)
      have HW := hide (HWR.out.tr hb)
      clear hs hb HWR HX5 x5 hs5
      go_wp2_with fail
      (with_reducible refine (HS2.out _ _ _ HW.out HFB.out).mono ?_)
      rintro r w3 ⟨⟨a3, p3, rfl, hs⟩, hb⟩
      have HG2 := hide hs
      have HG1 := hide (HG1.out.has (has_below hb))
      have HX6 := hide ((hb.block _ hs6).trans HX6.out)
      have HOB := hide (HOB.out.below FnC.mono hb)
      have HW := hide (HW.out.tr hb)
      clear hs hb HFB x6 hs6
      go_wp2_with fail
      (with_reducible refine (refs12_any m a2 p2 _ HG1.out (by omega)).mono ?_)
      rintro r w4 ⟨⟨a4, p4, rfl, hs⟩, hb⟩
      have HG1 := hide hs
      have HG2 := hide (HG2.out.has (has_below hb))
      have HX6 := hide ((hb.block _ (Array.getElem?_eq_some_iff.1 HX6.out).1).trans HX6.out)
      have HOB := hide (HOB.out.below FnC.mono hb)
      have HW := hide (HW.out.tr hb)
      clear hs hb
      go_wp2_with fail
      (with_reducible refine (refs12_any m a3 p3 _ HG2.out (by omega)).mono ?_)
      rintro r w5 ⟨⟨a5, p5, rfl, hs⟩, hb⟩
      have HG2 := hide hs
      have HG1 := hide (HG1.out.has (has_below hb))
      have HX6 := hide ((hb.block _ (Array.getElem?_eq_some_iff.1 HX6.out).1).trans HX6.out)
      have HOB := hide (HOB.out.below FnC.mono hb)
      have HW := hide (HW.out.tr hb)
      clear hs hb
      go_wp2_with fail
      (with_reducible refine (refLists_self m a4 a5 p4 p5 _ HG1.out HG2.out).mono ?_)
      rintro r w8 ⟨rfl, hb⟩
      have HX6 := hide ((hb.block _ (Array.getElem?_eq_some_iff.1 HX6.out).1).trans HX6.out)
      have HOB := hide (HOB.out.below FnC.mono hb)
      have HW := hide (HW.out.tr hb)
      clear hb HG1 HG2
      have x6 := cell_at (j := 0) HX6.out rfl
      have hs6 := (Array.getElem?_eq_some_iff.1 HX6.out).1
      have hs6a : w1.heap.size < w8.heap.size := by omega
      have hs6b : w1.heap.size + 1 < w8.heap.size + 1 := by omega
      have hs6c : ¬ w1.heap.size + 1 = w8.heap.size := by omega
      have hs6d : ¬ w1.heap.size = w8.heap.size := by omega
      have hneo : (oi != oi) = false := by simp
      have hnee : (oe != oe) = false := by simp
      have HBW := hide (((bl w8).al (.cells #[.slice (some ⟨g6, 0, none⟩) l.length vc] 24)).al (.cells #[] 30))
      have HX150 : Hid (((w8.alloc (.cells #[.slice (some ⟨g6, 0, none⟩) l.length vc] 24)).alloc (.cells #[] 30)).heap[w8.heap.size]? = some (.cells #[.slice (some ⟨g6, 0, none⟩) l.length vc] 24 (0, 0))) := hide (by
        rw [Below.heap_alloc _ _ _ (by simp)]
        exact heap_alloc_new _ _)
      have HEM : Hid (OwnL ((w8.alloc (.cells #[.slice (some ⟨g6, 0, none⟩) l.length vc] 24)).alloc (.cells #[] 30)) (w8.heap.size + 1) 30 5 FnC [w8.heap.size] (.slice (some ⟨w8.heap.size + 1, 0, none⟩) 0 0) ([] : List Fn)) := hide (own_empty (Nat.le_refl _) (by
        have := heap_alloc_new (w8.alloc (.cells #[.slice (some ⟨g6, 0, none⟩) l.length vc] 24)) (.cells #[] 30)
        simpa using this))
      obtain ⟨xs, hcut, hcell⟩ := own_news HOB.out rfl
      have hone : ∀ u ∈ xs, u.oneCell' = true := by
        intro u hu
        obtain ⟨j, hj, rfl⟩ := List.mem_iff_getElem.1 hu
        have hlx := hcut.len
        have hji : j / 5 < (l.map bareF).length := by omega
        obtain ⟨c, ⟨_, _, _, _, rfl, _⟩, hc5, hcx⟩ := hcut.get (j / 5) hji
        have hjm : j % 5 < 5 := Nat.mod_lt _ (by decide)
        have h3 := hcx (j % 5) hjm
        rw [show j / 5 * 5 + j % 5 = j by omega, List.getElem?_eq_getElem hj] at h3
        have h4 : xs[j] ∈ [Value.string ⟨((l.map bareF)[j / 5]'hji).name.toArray⟩, _, _, _, _] := List.mem_of_getElem? h3.symm
        simp only [List.mem_cons, List.not_mem_nil, or_false] at h4
        rcases h4 with h | h | h | h | h <;> rw [h] <;> simp [Value.oneCell']
      have HONE := hide hone
      have HCUT : Hid (Cut 5 (FnC (av ((Value.slice (some ⟨w8.heap.size + 1, 0, none⟩) 0 0).ownBlock.toList ++ [w8.heap.size]) ((w8.alloc (.cells #[.slice (some ⟨g6, 0, none⟩) l.length vc] 24)).alloc (.cells #[] 30)))) (l.map bareF) xs) := hide (hcut.mono fun f c hc => FnC.mono _ _ _ _ (has_av.tr ((has_new (fun g hg => by
        simp only [Value.ownBlock, Option.toList_some, List.mem_append, List.mem_cons, List.not_mem_nil, or_false] at hg
        omega)).tr (has_av_below HBW.out))) hc)
      have HCE : Hid (∀ ad, some (⟨g6, 0, none⟩ : Addr) = some ad → ∀ (j : Nat) (u : Value), xs[j]? = some u → ((w8.alloc (.cells #[.slice (some ⟨g6, 0, none⟩) l.length vc] 24)).alloc (.cells #[] 30)).cell? (ad.add j) = some u) := hide fun ad e j u hu => cell_keep (hcell ad e j u hu) HBW.out (Nat.le_refl _)
      have HMA : Hid (([] : List Fn).length + (l.map bareF).length ≤ maxLen) := hide (by rw [HLB.out]; unfold maxLen; simp; omega)
      have HMB : Hid ((([] : List Fn).length + (l.map bareF).length) * 80 ≤ 140737488355328) := hide (by rw [HLB.out]; simp; omega)
      have HBS : Hid (w8.heap.size + 1 ≤ ((w8.alloc (.cells #[.slice (some ⟨g6, 0, none⟩) l.length vc] 24)).alloc (.cells #[] 30)).heap.size) := hide (by simp)
      have HG9 : Hid (∀ k, (Value.slice (some ⟨w8.heap.size + 1, 0, none⟩) 0 0).ownBlock = some k → w8.heap.size ≤ k) := hide (by simp [Value.ownBlock])
      have HNE9 : Hid (some w8.heap.size ≠ (Value.slice (some ⟨w8.heap.size + 1, 0, none⟩) 0 0).ownBlock) := hide (by simp [Value.ownBlock])
      have HLT9 : Hid (w8.heap.size < ((w8.alloc (.cells #[.slice (some ⟨g6, 0, none⟩) l.length vc] 24)).alloc (.cells #[] 30)).heap.size) := hide (by simp <;> omega)
      clear hcut hcell hone
      go_upto_region 14 with (at_builtin; refine wpList_pushes _ rfl _ _ 22 rfl (w8.heap.size + 1) 30 i0 _ 5 80 Tryz.underlying22 hi hz0 hz1 hz2 rfl (by decide) FnC FnC.mono [w8.heap.size] _ ([] : List Fn) rfl HEM.out (some ⟨g6, 0, none⟩) vc xs (l.map bareF) (by rw [HLB.out]; rfl) (fun h => by cases h) HCE.out HONE.out HCUT.out HMA.out HMB.out HBS.out ?_; intro v9 w9 hown9 hgrow9; rw [List.nil_append] at hown9; obtain ⟨va9, vc9, he9, -, -⟩ := hown9.slice; rw [HLB.out] at he9; subst he9; have HO9 := hide hown9; have HX159 := hide ((hgrow9.block w8.heap.size HLT9.out HNE9.out).trans HX150.out); have x15 := cell_at (j := 0) HX159.out rfl; have y15 := free_at (j := 0) HX159.out; have hs15 : w8.heap.size < w9.heap.size := cell_lt x15; have HW9 := hide (HW.out.tr (HBW.out.grown hgrow9 HBW.out.size HG9.out)); clear hown9 hgrow9)
      have HO10 := hide (HO9.out.kept FnC.mono ((Kept.refl [w8.heap.size] w9).set (g := w8.heap.size) (.inl (by simp)) 0 (.slice va9 l.length vc9)) (by simp))
      have HX10 := hide (heap_set (i := 0) HX159.out (.slice va9 l.length vc9))
      have hww := HW.out.size
      have HW10 := hide (HW9.out.setCell (p := ⟨w8.heap.size, 0, none⟩) (by simp only; omega) (.slice va9 l.length vc9))
      clear x15 y15 hs15 x6 hs6 hs6a hs6b hs6c hs6d HO9 HX159 HW9 hww
      generalize w9.setCell ⟨w8.heap.size, 0, none⟩ (.slice va9 l.length vc9) = W at *
      have x15 : W.cell? ⟨w8.heap.size, 0, none⟩ = some (.slice va9 l.length vc9) := cell_at (j := 0) HX10.out rfl
      have hs15 := cell_lt x15
      simp only at hs15
      have hl0 : 0 < (l.map bareF).length := by rw [HLB.out]; omega
      rcases HO10.out.form with ⟨_, h0⟩ | ⟨g9, c9, h9, hg9, hgl9, _, _⟩
      · rw [h0] at hl0
        exact absurd hl0 (by decide)
      rw [HLB.out] at h9
      cases h9
      obtain ⟨hgl9', hfr⟩ := own_free HO10.out
      obtain ⟨_, _, c, _, ⟨pp, pb, pc, cb, rfl, hfw, hps, hrow⟩, _, hcl⟩ := HO10.out.get FnC.mono rfl 0 hl0
      have k0 := hcl 0 _ rfl
      have k1 := hcl 1 _ rfl
      have k2 := hcl 2 _ rfl
      have k3 := hcl 3 _ rfl
      have k4 := hcl 4 _ rfl
      simp only [Nat.zero_mul, Nat.zero_add] at k0 k1 k2 k3 k4
      have f0 := hfr 0
      have f1 := hfr 1
      have f2 := hfr 2
      have f4 := hfr 4
      have hbd : ((l.map bareF)[0]'hl0).body = [] := by simp [bareF]
      have HBD := hide hbd
      obtain ⟨F, hF⟩ : ∃ F, F = (l.map bareF)[0]'hl0 := ⟨_, rfl⟩
      rw [← hF] at k0 k1 k2 k3 k4 HBD
      have HFF := hide hF
      have hng : ¬ g9 = w8.heap.size := by omega
      have hng' : ¬ w8.heap.size = g9 := by omega
      clear hfr hcl hfw hps hrow hbd hF HX10 HX6 HOB HONE HCUT HCE HMA HMB HBS HEM HX150 HBW HS1 HS2
      rcases (by omega : n % 4 = 0 ∨ n % 4 = 1 ∨ n % 4 = 2 ∨ n % 4 = 3) with hq | hq | hq | hq
      · have hqi : (n : Int) % 4 = 0 := by omega
        have HFN := hide (own_store0 HO10.out hl0 0 (.string ⟨#[119, 104, 105, 108, 101]⟩) { F with name := [119, 104, 105, 108, 101] } (fun c hc _ => by
          rw [← HFF.out] at hc
          obtain ⟨pp, pb, pc, cb, rfl, hfw, hps, hrow⟩ := hc
          exact ⟨pp, pb, pc, cb, rfl, ⟨by show ([119, 104, 105, 108, 101] : Bytes).length ≤ maxLen; decide, hfw.r, hfw.lb, hfw.cb, hfw.c⟩, hps, hrow⟩) (by decide))
        have HW := hide (HW10.out.setCell (p := ⟨g9, 0, none⟩) (by have := HW.out.size; simp only; omega) (.string ⟨#[119, 104, 105, 108, 101]⟩))
        clear HO10 HW10 hq
        go_wp2_with fail
        (with_reducible refine (HBAD.out _ _ _ _ (HT.out.below HW.out) HFN.out ?_).mono ?_)
        · exact .inl (bad_name F)
        rintro r w11 ⟨⟨a11, c11, rfl⟩, hb⟩
        have HW := hide (HW.out.tr hb)
        clear hb
        go_wp2_with fail
        (with_reducible refine (HWK.out _ HW.out).mono ?_)
        rintro r w12 ⟨rfl, hb⟩
        go_wp2_with fail
        go_ret
        exact ⟨rfl, HW.out.tr hb⟩
      · have hqi : (n : Int) % 4 = 1 := by omega
        have HFN := hide (own_store0 HO10.out hl0 2 (.int .i64 4) { F with result := 4 } (fun c hc _ => by
          rw [← HFF.out] at hc
          obtain ⟨pp, pb, pc, cb, rfl, hfw, hps, hrow⟩ := hc
          exact ⟨pp, pb, pc, cb, rfl, ⟨hfw.s, by unfold I64; simp, hfw.lb, hfw.cb, hfw.c⟩, hps, hrow⟩) (by decide))
        have HW := hide (HW10.out.setCell (p := ⟨g9, 2, none⟩) (by have := HW.out.size; simp only; omega) (.int .i64 4))
        clear HO10 HW10 hq
        go_wp2_with fail
        (with_reducible refine (HBAD.out _ _ _ _ (HT.out.below HW.out) HFN.out ?_).mono ?_)
        · exact .inl (bad_res F)
        rintro r w11 ⟨⟨a11, c11, rfl⟩, hb⟩
        have HW := hide (HW.out.tr hb)
        clear hb
        go_wp2_with fail
        (with_reducible refine (HWK.out _ HW.out).mono ?_)
        rintro r w12 ⟨rfl, hb⟩
        go_wp2_with fail
        go_ret
        exact ⟨rfl, HW.out.tr hb⟩
      · have hqi : (n : Int) % 4 = 2 := by omega
        have HFN := hide (own_store0 HO10.out hl0 4 (.int .i64 1) { F with count := 1 } (fun c hc _ => by
          rw [← HFF.out] at hc
          obtain ⟨pp, pb, pc, cb, rfl, hfw, hps, hrow⟩ := hc
          exact ⟨pp, pb, pc, cb, rfl, ⟨hfw.s, hfw.r, hfw.lb, hfw.cb, by unfold I64; simp⟩, hps, hrow⟩) (by decide))
        have HW := hide (HW10.out.setCell (p := ⟨g9, 4, none⟩) (by have := HW.out.size; simp only; omega) (.int .i64 1))
        clear HO10 HW10 hq
        go_wp2_with fail
        (with_reducible refine (HBAD.out _ _ _ _ (HT.out.below HW.out) HFN.out ?_).mono ?_)
        · exact .inr (bad_cnt F HBD.out)
        rintro r w11 ⟨⟨a11, c11, rfl⟩, hb⟩
        have HW := hide (HW.out.tr hb)
        clear hb
        go_wp2_with fail
        (with_reducible refine (HWK.out _ HW.out).mono ?_)
        rintro r w12 ⟨rfl, hb⟩
        go_wp2_with fail
        go_ret
        exact ⟨rfl, HW.out.tr hb⟩
      · have hqi : (n : Int) % 4 = 3 := by omega
        clear hq
        have hmk : ∀ w : World, (Instr.makeSlice 27 (.int .i64 1) (.int .i64 1)).run Tryz.prog w = .ok (.slice (some ⟨w.heap.size, 0, none⟩) 1 1) (w.alloc (.cells #[.string ⟨#[]⟩, .int .i64 0] 72)) := fun _ => by kernel_rfl
        have hl00 : 0 < l.length := by omega
        have hgW : g9 < W.heap.size + 1 := by omega
        have hgW' : ¬ g9 = W.heap.size := by omega
        have hsW : w8.heap.size < W.heap.size + 1 := by omega
        have hsW' : ¬ w8.heap.size = W.heap.size := by omega
        have hO3 := HO10.out.al FnC.mono (.cells #[.string ⟨#[]⟩, .int .i64 0] 72)
        have hfs := own_store0 hO3 hl0 1 (.slice (some ⟨W.heap.size, 0, none⟩) 1 1) { F with params := [⟨[], 0⟩] } (fun c hc _ => by
          rw [← HFF.out] at hc
          obtain ⟨pp, pb, pc, cb, rfl, hfw, hps, hrow⟩ := hc
          refine ⟨some ⟨W.heap.size, 0, none⟩, pb, 1, cb, rfl, ⟨hfw.s, hfw.r, hfw.lb, hfw.cb, hfw.c⟩, ⟨Nat.le_refl _, by decide, fun _ => ⟨_, _, rfl⟩, fun b o e i hi => ?_, ?_⟩, hrow⟩
          · cases e
            obtain rfl : i = 0 := by simp at hi; omega
            have hnm : W.heap.size ∉ [g9, w8.heap.size] := by simp; omega
            exact ⟨av_mk (cell_of_list W [.string ⟨#[]⟩, .int .i64 0] 72 0 _ rfl) hnm, av_mk (cell_of_list W [.string ⟨#[]⟩, .int .i64 0] 72 1 _ rfl) hnm⟩
          · intro p hp
            simp only [List.mem_cons, List.not_mem_nil, or_false] at hp
            subst hp
            exact ⟨by decide, by unfold I64; simp⟩) (by decide)
        have hsw := World.setCell_alloc_past (w := W) (.cells #[.string ⟨#[]⟩, .int .i64 0] 72) g9 1 (.slice (some ⟨W.heap.size, 0, none⟩) 1 1) hgl9
        rw [hsw] at hfs
        have HFN : Hid (Fns (((W.setCell ⟨g9, 1, none⟩ (.slice (some ⟨W.heap.size, 0, none⟩) 1 1)).alloc (.cells #[.string ⟨#[]⟩, .int .i64 0] 72)).drew) ({ F with params := [⟨[], 0⟩] } :: (l.map bareF).drop 1) (some ⟨g9, 0, none⟩) vc9) := hide (hfs.has (has_below (bl _).dr))
        have HW := hide (((HW10.out.setCell (p := ⟨g9, 1, none⟩) (by have := HW.out.size; simp only; omega) (.slice (some ⟨W.heap.size, 0, none⟩) 1 1)).al (.cells #[.string ⟨#[]⟩, .int .i64 0] 72)).dr)
        clear hO3 hfs hsw
        go_wp2_with fail
        go_region_law (fail)
        all_goals
          go_wp2_with fail
          (with_reducible refine (HBAD.out _ _ _ _ (HT.out.below HW.out) HFN.out ?_).mono ?_)
          · exact .inl (bad_pms F)
          rintro r w11 ⟨⟨a11, c11, rfl⟩, hb⟩
          have HW := hide (HW.out.tr hb)
          clear hb
          go_wp2_with fail
          (with_reducible refine (HWK.out _ HW.out).mono ?_)
          rintro r w12 ⟨rfl, hb⟩
          go_wp2_with fail
          go_ret
          exact ⟨rfl, HW.out.tr hb⟩
end Go.Proofs.YtnkmbddjekepkaaGreatDoor
namespace Go.Proofs.YtnkmbddjekepkaaGreatDoor.PrSgBody
open Go Go.ChangeShapes Go.WideShapes Go.ChangeAt Go.RowKit
set_option linter.unusedSimpArgs false
set_option linter.unusedVariables false
set_option linter.unnecessarySimpa false
theorem laidOut : laidOutB Tryz.prog = true := by kernel_rfl
/-- What came in reads behind the call as it did. -/
theorem stay {H : Type} {enc : TypeId × Value → H} {W W' : World} {sp : Nat → Bool} {t : TypeId} {v : Value} {d : DataW H} {ps : List MemPlace} (hr : Tryz.prog.readableRec t = true) (hrow : t < Tryz.prog.types.size)
    (h : DataW.Trod enc Tryz.prog W 0 (fun _ => true) true t v d ps) (hb : Below W.heap.size W W') (hs : ∀ p ∈ ps, sp p.block = true) : DataW.Trod enc Tryz.prog W' 0 sp true t v d ps := by
  refine WideElems.Trod_stays laidOut hr hrow h (fun p hp => ?_) hs
  obtain ⟨n, hn⟩ := h
  have hlt := DataW.trod_lt n t _ _ hn p hp
  cases p with
  | cell b o => exact hb.cell (p := ⟨b, o, none⟩) hlt
  | map b => exact hb.block b hlt
set_option maxRecDepth 100000 in
theorem lifted (os : Os) (started : os.Started) (H : Type) (enc : TypeId × Value → H) :
    ReturnsInHanded {} Tryz.checked os 4 .any (fun w args => (Rows.signsBodiesSpec.pre enc Tryz.prog Tryz.f4 [] false w args ∧ laidMetH Tryz.prog Rows.signsBodiesRow.laid w) ∧ sizedMet enc Tryz.prog Tryz.f4 (OpenSpec.ofChange Rows.signsBodiesSpec) false w args)
      (Rows.signsBodiesSpec.post enc Tryz.prog Tryz.f4 false true false false) := by
  refine returnsInHanded_of_change_and (C := Tryz.checked) (X := fun w _ => laidMetH Tryz.prog Rows.signsBodiesRow.laid w) (fun _ _ _ hh h => h.of_heap hh) own started (by kernel_rfl) Tryz.func4
    (witness_laid #[.slice none 0 0, .int .u8 0] 8 (by kernel_rfl) (by kernel_rfl) (by kernel_rfl) (by kernel_rfl) (by kernel_rfl) (by kernel_rfl) (by kernel_rfl)) ?_
  intro W base args ds gs before hval0 hW _ _ hL _
  have hval : ∀ (j : Nat) t v, Tryz.f4.params[j]? = some t → args[j]? = some v → Value.okWide Tryz.prog W .any base t v := hval0
  have hW' := hW
  obtain ⟨p, q, hA0, hV, rfl, hfz, hnd⟩ := hW
  have hA : DataW.TrodAll enc Tryz.prog W 0 (fun _ => true) true Tryz.f4.params.toList args.toList ds p := hA0
  rw [Tryz.params4] at hA hval
  obtain ⟨v0, vs0, d0, ds0, p0, q0, hargs, rfl, rfl, h0, r0⟩ := trodAll_cons hA
  obtain ⟨v1, vs1, d1, ds1, p1, q1, rfl, rfl, rfl, h1, r1⟩ := trodAll_cons r0
  obtain ⟨rfl, rfl, rfl⟩ := trodAll_nil r1
  obtain rfl : args = #[v0, v1] := by cases args; simp_all
  obtain ⟨rfl, rfl⟩ := trodVars_none hV
  obtain ⟨D0, a0, c0, hv0, hl0⟩ := read_draft (hval 0 42 v0 rfl rfl) h0
  obtain ⟨x1, rfl, rfl, rfl, w1⟩ := open_int Tryz.underlying5 (hval 1 5 v1 rfl rfl) h1
  subst hv0
  clear hA0 hval0
  have hb1 := u8_of_wf w1
  obtain ⟨n1, rfl⟩ : ∃ n : Nat, x1 = n := ⟨x1.toNat, by omega⟩
  refine (SignsBodies_any D0 a0 c0 n1 W hl0 (by omega) (tab_of_laid hL) (words_of_laid hL)).mono fun r W' ⟨hr, hb⟩ => ?_
  subst hr
  exact ⟨_, rfl, post_of_below (pa := (p0 ++ ([] ++ []))) (pv := []) hW' (fun _ _ _ => (trodAll_cons_mk (shut_bool Tryz.underlying4 _) trodAll_mk0))
    (fun sp hsp => (trodAll_cons_mk (stay (by kernel_rfl) (of_decide_eq_true (by kernel_rfl)) h0 hb (fun p hp => hsp p (by simp [hp]))) (trodAll_cons_mk (shut_int Tryz.underlying5 w1) trodAll_mk0))) (fun _ _ => rfl) rfl
    hb (ok_one (by kernel_rfl) rfl (okWide_bool_mk Tryz.underlying4 _))⟩
theorem over : Rows.signsBodiesRow.holds Tryz.pinned (OpenSpec.ofChange Rows.signsBodiesSpec) :=
  OpenClaim.holds_of_wide 4 Tryz.f4 rfl rfl rfl rfl rfl rfl rfl ⟨rfl, rfl, rfl, rfl, rfl⟩ rfl rfl rfl rfl rfl (by kernel_rfl) Tryz.func4 (by kernel_rfl)
    (of_decide_eq_true (by kernel_rfl)) (by unfold Func.isWrapper; first | (rw [if_pos (by decide +kernel)]; kernel_rfl) | (rw [if_neg (by decide +kernel)]; exact ⟨rfl, rfl⟩))
    (fun os started H enc _ => lifted os started H enc)
end Go.Proofs.YtnkmbddjekepkaaGreatDoor.PrSgBody
namespace Go.Proofs.YtnkmbddjekepkaaGreatDoor
open Go
theorem signsBodies_proved : Rows.SignsBodiesCardSaid :=
  Claim7.holds_tied_plain_at .later [] [.data, .listed, .data, .data, .pinned] true (true, "0cdf6745f7722a550afff931df861f430f1ab8f852d7f637ec88c967ce21e184") false
    PrSgBody.over (fun _ h => by cases h) (by kernel_rfl) (fun _ h => by cases h) signsBodies_row_tie rfl ⟨rfl, rfl⟩ (by kernel_rfl) rfl
    (fun f fn hf hfn => by
      obtain rfl : f = 4 := Option.some.inj ((show Tryz.prog.funcNamed "rewind/rewindlaw12.SignsBodies" = some 4 by kernel_rfl).symm.trans hf) |>.symm
      obtain rfl : fn = Tryz.f4 := (Option.some.inj (Tryz.func4.symm.trans hfn)).symm
      exact ⟨by kernel_rfl, fun j t ht => by
        rw [Tryz.params4] at ht
        have h3 : t = 42 ∨ t = 5 := by
          rcases j with _ | _ | j
          all_goals simp at ht
          · exact .inl ht.symm
          · exact .inr ht.symm
        rcases h3 with rfl | rfl
        · exact (show Tryz.prog.wantsStandIn 42 = false by kernel_rfl)
        · exact (show Tryz.prog.wantsStandIn 5 = false by kernel_rfl)⟩)
    (by kernel_rfl)
#print axioms signsBodies_proved
end Go.Proofs.YtnkmbddjekepkaaGreatDoor
