/- ShapeSame returns true for every input, whatever the world is in which the table of blanks is laid as the program lays it, and the input reads as it did. No further condition. -/
import Derived.Test.YthpmecbekpmijaaGreatDoorShC
import Derived.ProofKit
import Derived.OpenShut
import Derived.Test.YthpmecbekpmijaaGreatDoorMkI
import Derived.Test.YthpmecbekpmijaaGreatDoorRows
import Derived.Test.YthpmecbekpmijaaGreatDoorShA
import Derived.Lay
import Derived.MakeChecks
import Derived.Handed
import Derived.ChangeSame
import Derived.Test.YthpmecbekpmijaaGreatDoorSpI
import Derived.Test.YthpmecbekpmijaaGreatDoorNw
import Derived.Laws.StructEq
import Derived.Deep.QuietTactic
import Derived.BigQuiet
import Derived.Test.YthpmecbekpmijaaGreatDoorEq
import Derived.Test.YthpmecbekpmijaaGreatDoorMd1
import Derived.Test.YthpmecbekpmijaaGreatDoorSpO
import Derived.Test.YthpmecbekpmijaaGreatDoorLwA
import Derived.Deep.RegionHeld3
import Derived.Test.YthpmecbekpmijaaGreatDoorTie
import Derived.Test.YthpmecbekpmijaaGreatDoorCards
import Derived.SevenTiedAt
import Derived.WideKeyArgs
import Derived.ChangeMaps5
/- Expressions that come in: what the statement's reading of them gives, as trees in memory. -/
namespace Go.Proofs.YthpmecbekpmijaaGreatDoor
open Go Go.RowKit Go.WideShapes Go.ChangeShapes
set_option linter.unusedSimpArgs false
set_option linter.unusedVariables false
set_option linter.unnecessarySimpa false
set_option maxRecDepth 100000
theorem cells5 {w : World} {base : Nat} {a : Addr} {cs : List Value} (h : w.cells? base a 5 = some cs) :
    ∃ (b o : Nat) (v0 v1 v2 v3 v4 : Value), a = ⟨b, o, none⟩ ∧ cs = [v0, v1, v2, v3, v4] ∧ w.cell? ⟨b, o, none⟩ = some v0 ∧ w.cell? ⟨b, o + 1, none⟩ = some v1 ∧ w.cell? ⟨b, o + 2, none⟩ = some v2 ∧
      w.cell? ⟨b, o + 3, none⟩ = some v3 ∧ w.cell? ⟨b, o + 4, none⟩ = some v4 := by
  unfold World.cells? at h
  split at h
  · rw [show List.range 5 = [0, 1, 2, 3, 4] from rfl] at h
    simp only [List.mapM_cons, List.mapM_nil, Option.bind_eq_bind, Option.bind_eq_some_iff, Option.pure_def, Option.some.injEq] at h
    obtain ⟨v0, h0, _, ⟨v1, h1, _, ⟨v2, h2, _, ⟨v3, h3, _, ⟨v4, h4, _, rfl, rfl⟩, rfl⟩, rfl⟩, rfl⟩, rfl⟩ := h
    obtain ⟨b, o, s⟩ := a
    have hs : s = none := by simpa [Addr.add] using World.cell?_spot h0
    subst hs
    exact ⟨b, o, v0, v1, v2, v3, v4, rfl, rfl, by simpa [Addr.add] using h0, by simpa [Addr.add] using h1, by simpa [Addr.add] using h2, by simpa [Addr.add] using h3, by simpa [Addr.add] using h4⟩
  · cases h
theorem i64_of_wf {z : Int} (h : (Lit.int .i64 z).wf = true) : I64 z := by
  have h2 : -9223372036854775808 ≤ z ∧ z ≤ 9223372036854775807 := by simpa [Lit.wf, IntKind.min, IntKind.max, IntKind.signed, IntKind.bits] using h
  exact h2
theorem row_of_all {w : World} {b : Nat} : ∀ (n o : Nat), (∀ i, i < n → ∃ e, Ex.At w e b (o + i * 5)) → ∃ es : List Ex, es.length = n ∧ Ex.Row w es (some ⟨b, o, none⟩)
  | 0, o, _ => ⟨[], rfl, by simp only [Ex.Row]⟩
  | n + 1, o, h => by
    obtain ⟨e, he⟩ := h 0 (by omega)
    obtain ⟨es, hl, hr⟩ := row_of_all n (o + 5) (fun i hi => by
      have := h (i + 1) (by omega)
      rwa [show o + (i + 1) * 5 = o + 5 + i * 5 by omega] at this)
    refine ⟨e :: es, by simp [hl], ?_⟩
    simp only [Ex.Row]
    exact ⟨b, o, rfl, by simpa using he, hr⟩
section
variable {H : Type} {enc : TypeId × Value → H} {W : World} {sp : Nat → Bool} {held : Bool}
theorem read_ex : ∀ (N n : Nat), n < N → ∀ (cs : List Value) (x : DataW H × List MemPlace), DataW.trod enc Tryz.prog W 0 sp held n 27 cs = some x →
    ∃ (e : Ex) (a : Option Addr) (cap : Nat), cs = [.int .i64 e.kind, .int .i64 e.op, .int .i64 e.num, .string ⟨e.name.toArray⟩, .slice a e.args.length cap] ∧ ExWf e.kind e.op e.num e.name e.args.length cap ∧ Ex.Row W e.args a
  | 0, n, hn, _, _, _ => absurd hn (Nat.not_lt_zero _)
  | N + 1, n, hn, cs, x, h => by
    obtain ⟨xs, n1, rfl, _, hl, hxl, hf⟩ := DataW.trod_struct Tryz.underlying27 h
    have hl5 : cs.length = 5 := hl.trans (by kernel_rfl)
    have ci : Tryz.prog.cellsOf 3 = 1 := by kernel_rfl
    have c6 : Tryz.prog.cellsOf 2 = 1 := by kernel_rfl
    have cst : Tryz.prog.cellsOf 9 = 1 := by kernel_rfl
    have csl : Tryz.prog.cellsOf 25 = 1 := by kernel_rfl
    have ce : Tryz.prog.cellsOf 27 = 5 := by kernel_rfl
    match cs, hl5, xs, hxl with
    | [v0, v1, v2, v3, v4], _, [x0, x1, x2, x3, x4], _ =>
      have f0 : DataW.trod enc Tryz.prog W 0 sp held n1 3 (([v0, v1, v2, v3, v4].drop 0).take (Tryz.prog.cellsOf 3)) = [x0, x1, x2, x3, x4][0]? := hf 0 _ rfl
      have f1 : DataW.trod enc Tryz.prog W 0 sp held n1 3 (([v0, v1, v2, v3, v4].drop 1).take (Tryz.prog.cellsOf 3)) = [x0, x1, x2, x3, x4][1]? := hf 1 _ rfl
      have f2 : DataW.trod enc Tryz.prog W 0 sp held n1 2 (([v0, v1, v2, v3, v4].drop 2).take (Tryz.prog.cellsOf 2)) = [x0, x1, x2, x3, x4][2]? := hf 2 _ rfl
      have f3 : DataW.trod enc Tryz.prog W 0 sp held n1 9 (([v0, v1, v2, v3, v4].drop 3).take (Tryz.prog.cellsOf 9)) = [x0, x1, x2, x3, x4][3]? := hf 3 _ rfl
      have f4 : DataW.trod enc Tryz.prog W 0 sp held n1 25 (([v0, v1, v2, v3, v4].drop 4).take (Tryz.prog.cellsOf 25)) = [x0, x1, x2, x3, x4][4]? := hf 4 _ rfl
      simp only [ci, c6, cst, csl, List.drop_zero, List.drop_succ_cons, List.take_succ_cons, List.take_zero, List.getElem?_cons_zero, List.getElem?_cons_succ] at f0 f1 f2 f3 f4
      obtain ⟨k, e0, _, w0⟩ := DataW.trod_int Tryz.underlying3 f0
      obtain ⟨o, e1, _, w1⟩ := DataW.trod_int Tryz.underlying3 f1
      obtain ⟨m, e2, _, w2⟩ := DataW.trod_int Tryz.underlying2 f2
      obtain ⟨s, e3, _, w3⟩ := DataW.trod_string Tryz.underlying9 f3
      simp only [List.cons.injEq, and_true] at e0 e1 e2 e3
      subst e0 e1 e2 e3
      have hs : s = ⟨s.data.toList.toArray⟩ := by simp
      have hsl : s.data.toList.length ≤ maxLen := by rw [Array.length_toList]; exact w3
      rcases DataW.trod_slice Tryz.underlying25 f4 with ⟨e4, _⟩ | ⟨a, len, cap, elems, rest, n2, hn2, e4, _, hb, hlc, hcm, hel, hall, _, _⟩
      · simp only [List.cons.injEq, and_true] at e4
        subst e4
        refine ⟨.mk k o m s.data.toList [], none, 0, ?_, ⟨i64_of_wf w0, i64_of_wf w1, i64_of_wf w2, hsl, Nat.le_refl _, Nat.zero_le _⟩, by simp only [Ex.args, Ex.Row]⟩
        simp only [Ex.kind, Ex.op, Ex.num, Ex.name, Ex.args, List.length_nil, ← hs]
      · simp only [List.cons.injEq, and_true] at e4
        subst e4
        have key : ∀ i, i < len → ∃ (b o : Nat) (e : Ex), a.add (i * 5) = ⟨b, o, none⟩ ∧ Ex.At W e b o := by
          intro i hi
          have h1 := hall i hi
          rw [List.getElem?_eq_getElem (by omega), ce] at h1
          obtain ⟨cs', h2, h3⟩ := Option.bind_eq_some_iff.1 h1
          obtain ⟨b', o', u0, u1, u2, u3, u4, ha, rfl, k0, k1, k2, k3, k4⟩ := cells5 h2
          obtain ⟨e, a', cap', he, hw, hr⟩ := read_ex N n2 (by omega) _ _ h3
          refine ⟨b', o', e, ha, ?_⟩
          simp only [List.cons.injEq, and_true] at he
          obtain ⟨rfl, rfl, rfl, rfl, rfl⟩ := he
          cases e
          simp only [Ex.At]
          exact ⟨a', cap', k0, k1, k2, k3, k4, hw, hr⟩
        by_cases h0 : len = 0
        · subst h0
          refine ⟨.mk k o m s.data.toList [], some a, cap, ?_, ⟨i64_of_wf w0, i64_of_wf w1, i64_of_wf w2, hsl, Nat.zero_le _, hcm⟩, by simp only [Ex.args, Ex.Row]⟩
          simp only [Ex.kind, Ex.op, Ex.num, Ex.name, Ex.args, List.length_nil, ← hs]
        · obtain ⟨b0, o0, _, ha0, _⟩ := key 0 (by omega)
          have ha : a = ⟨b0, o0, none⟩ := by simpa [Addr.add] using ha0
          subst ha
          obtain ⟨es, hes, hrow⟩ := row_of_all (w := W) (b := b0) len o0 (fun i hi => by
            obtain ⟨b', o', e, he, hat⟩ := key i hi
            rw [Addr.add_lit] at he
            simp only [Addr.mk.injEq, and_true] at he
            obtain ⟨rfl, rfl⟩ := he
            exact ⟨e, hat⟩)
          subst hes
          refine ⟨.mk k o m s.data.toList es, some ⟨b0, o0, none⟩, cap, ?_, ⟨i64_of_wf w0, i64_of_wf w1, i64_of_wf w2, hsl, hlc, hcm⟩, hrow⟩
          simp only [Ex.kind, Ex.op, Ex.num, Ex.name, Ex.args, ← hs]
/-- An expression that comes in. -/
theorem read_expr {r : Reach} {b0 : Nat} {v : Value} {d : DataW H} {p : List MemPlace} (hv : Value.okWide Tryz.prog W r b0 27 v) (h : DataW.Trod enc Tryz.prog W 0 sp held 27 v d p) : ∃ e, Ex.Val W e v := by
  obtain ⟨cs, rfl, _⟩ := okWide_struct Tryz.underlying27 hv
  obtain ⟨n, hn⟩ := h
  obtain ⟨e, a, cap, he, hw, hr⟩ := read_ex (n + 1) n (Nat.lt_succ_self _) _ _ hn
  refine ⟨e, a, cap, ?_, hw, hr⟩
  have : cs.toList = _ := he
  rw [← Array.toArray_toList (xs := cs), this]
end
end Go.Proofs.YthpmecbekpmijaaGreatDoor
/- Drafts that come in: a list of bytes, as the statement's reading of it gives it. -/
namespace Go.Proofs.YthpmecbekpmijaaGreatDoor
open Go Go.RowKit Go.WideShapes Go.ChangeShapes
set_option linter.unusedSimpArgs false
set_option linter.unusedVariables false
set_option linter.unnecessarySimpa false
set_option maxRecDepth 100000
theorem cells1 {w : World} {base : Nat} {a : Addr} {cs : List Value} (h : w.cells? base a 1 = some cs) : ∃ (b o : Nat) (v0 : Value), a = ⟨b, o, none⟩ ∧ cs = [v0] ∧ w.cell? ⟨b, o, none⟩ = some v0 := by
  unfold World.cells? at h
  split at h
  · rw [show List.range 1 = [0] from rfl] at h
    simp only [List.mapM_cons, List.mapM_nil, Option.bind_eq_bind, Option.bind_eq_some_iff, Option.pure_def, Option.some.injEq] at h
    obtain ⟨v0, h0, _, rfl, rfl⟩ := h
    obtain ⟨b, o, s⟩ := a
    have hs : s = none := by simpa [Addr.add] using World.cell?_spot h0
    subst hs
    exact ⟨b, o, v0, rfl, rfl, by simpa [Addr.add] using h0⟩
  · cases h
theorem u8_of_wf {z : Int} (h : (Lit.int .u8 z).wf = true) : 0 ≤ z ∧ z ≤ 255 := by
  simpa [Lit.wf, IntKind.min, IntKind.max, IntKind.signed, IntKind.bits] using h
section
variable {H : Type} {enc : TypeId × Value → H} {W : World} {sp : Nat → Bool} {held : Bool}
/-- A draft that comes in. -/
theorem read_draft {r : Reach} {b0 : Nat} {v : Value} {d : DataW H} {p : List MemPlace} (hv : Value.okWide Tryz.prog W r b0 23 v) (h : DataW.Trod enc Tryz.prog W 0 sp held 23 v d p) :
    ∃ (D : List Nat) (a : Option Addr) (cap : Nat), v = .slice a D.length cap ∧ U8s W D a cap := by
  obtain ⟨a, len, cap, rfl⟩ := okWide_slice Tryz.underlying23 hv
  obtain ⟨n, hn⟩ := h
  have cv : Tryz.prog.cellsOf 5 = 1 := by kernel_rfl
  rcases DataW.trod_slice Tryz.underlying23 hn with ⟨e4, _⟩ | ⟨a', len', cap', elems, rest, n2, hn2, e4, _, hb, hlc, hcm, hel, hall, _, _⟩
  · simp only [Value.cells, List.cons.injEq, Value.slice.injEq, and_true] at e4
    obtain ⟨rfl, rfl, rfl⟩ := e4
    exact ⟨[], none, 0, rfl, ⟨Nat.le_refl _, Nat.zero_le _, by simp, fun b o e => by cases e⟩⟩
  · simp only [Value.cells, List.cons.injEq, Value.slice.injEq, and_true] at e4
    obtain ⟨rfl, rfl, rfl⟩ := e4
    have key : ∀ i, i < len → ∃ (b o : Nat) (x : Nat), a'.add (i * 1) = ⟨b, o, none⟩ ∧ x ≤ 255 ∧ W.cell? ⟨b, o, none⟩ = some (.int .u8 (x : Nat)) := by
      intro i hi
      have h1 := hall i hi
      rw [List.getElem?_eq_getElem (by omega), cv] at h1
      obtain ⟨cs', h2, h3⟩ := Option.bind_eq_some_iff.1 h1
      obtain ⟨b', o', u0, ha, rfl, k0⟩ := cells1 h2
      obtain ⟨z, e0, _, w0⟩ := DataW.trod_int Tryz.underlying5 h3
      simp only [List.cons.injEq, and_true] at e0
      subst e0
      have hz := u8_of_wf w0
      exact ⟨b', o', z.toNat, ha, by omega, by rw [k0, Int.toNat_of_nonneg hz.1]⟩
    by_cases h0 : len = 0
    · subst h0
      exact ⟨[], some a', cap, rfl, ⟨Nat.zero_le _, hcm, by simp, fun b o e i hi => absurd hi (Nat.not_lt_zero _)⟩⟩
    · obtain ⟨b0, o0, _, ha0, _⟩ := key 0 (by omega)
      have ha : a' = ⟨b0, o0, none⟩ := by simpa [Addr.add] using ha0
      subst ha
      have key2 : ∀ i, i < len → ∃ x : Nat, x ≤ 255 ∧ W.cell? ⟨b0, o0 + i, none⟩ = some (.int .u8 (x : Nat)) := fun i hi => by
        obtain ⟨b', o', x, he, hw, hat⟩ := key i hi
        rw [Addr.add_lit] at he
        simp only [Addr.mk.injEq, and_true] at he
        obtain ⟨rfl, rfl⟩ := he
        exact ⟨x, hw, by simpa using hat⟩
      refine ⟨(List.finRange len).map fun i => (key2 i.1 i.2).choose, some ⟨b0, o0, none⟩, cap, by simp, ⟨by simpa using hlc, hcm, fun _ => ⟨_, _, rfl⟩, ?_⟩⟩
      intro b o e i hi
      simp only [Option.some.injEq, Addr.mk.injEq, and_true] at e
      obtain ⟨rfl, rfl⟩ := e
      have hi' : i < len := by simpa using hi
      have := (key2 i hi').choose_spec
      simpa using this
end
end Go.Proofs.YthpmecbekpmijaaGreatDoor
/- What a row of this seat needs: its condition gives the table of blanks; a world that meets it; the last step of a row. -/
namespace Go.Proofs.YthpmecbekpmijaaGreatDoor
open Go Go.RowKit Go.WideShapes Go.ChangeShapes
set_option linter.unusedSimpArgs false
set_option linter.unusedVariables false
set_option linter.unnecessarySimpa false
theorem own : ownKnob Tryz.prog.godebug = none := by kernel_rfl
/-- The list of laid variables of every row of this seat. -/
def theLaid : List (String × DataW Unit) := [("unicode/utf8.acceptRanges", Rows.laid_unicode_utf8_acceptRanges), ("unicode.White_Space", Rows.laid_unicode_White_Space), ("strings.asciiSpace", Rows.laid_strings_asciiSpace), ("unicode/utf8.first", Rows.laid_unicode_utf8_first)]
theorem space_data : (Rows.laid_strings_asciiSpace : DataW Unit) = Lib.tabData .u8 Lib.asciiSpaceTab := by kernel_rfl
/-- What a row's condition on the listed variables gives a walk. -/
theorem tab_of_laid {W : World} (h : laidMetH Tryz.prog theLaid W) : Tab W := by
  rw [MakeChecks.laidMetH_plain _ _ _ (by kernel_rfl)] at h
  obtain ⟨ps, ⟨g1, t1, cs1, f1, p1, q1, _, _, _, _, ⟨g2, t2, cs2, f2, p2, q2, _, _, _, _, ⟨g', t', cs, fuel, p, q, hg', ht', hvar, hd, _, _⟩, _⟩, _⟩, _, _⟩ := h
  have hg : Tryz.prog.globalNamed "strings.asciiSpace" = some 0 := by kernel_rfl
  obtain rfl := Option.some.inj (hg.symm.trans hg')
  obtain rfl := Option.some.inj ((show (Tryz.prog.globals[0]?).map (·.type) = some 156 by kernel_rfl).symm.trans ht')
  rw [space_data] at hd
  unfold Tab Lib.TabIs
  rw [hvar, ← Lib.cells_of_tab Tryz.underlying156 Tryz.underlying5 (by kernel_rfl) (by kernel_rfl) hd]
/-- A world that meets every row's condition on the listed variables. -/
theorem witness_laid {os : Os} {H : Type} {enc : TypeId × Value → H} {f : FuncId} {fn : Func} {s : ChangeSpec} (args : Array Value) (fuel : Nat)
    (hv : ((World.laidAll Tryz.prog os theLaid).forCall (fun _ _ => 0) ⟨#[], args, []⟩).variablesZipB Tryz.prog = true)
    (hr : (((World.laidAll Tryz.prog os theLaid).forCall (fun _ _ => 0) ⟨#[], args, []⟩).heap.toList.drop Tryz.prog.globals.size).take ((begin Tryz.prog (fun _ _ => 0) default).world.heap.size - Tryz.prog.globals.size) =
      (begin Tryz.prog (fun _ _ => 0) default).world.heap.toList.drop Tryz.prog.globals.size)
    (hok : Input.okWideB Tryz.prog ((World.laidAll Tryz.prog os theLaid).forCall (fun _ _ => 0) ⟨#[], args, []⟩) f ⟨#[], args, []⟩ = true)
    (hpre : s.preB enc Tryz.prog fn [] false ((World.laidAll Tryz.prog os theLaid).forCall (fun _ _ => 0) ⟨#[], args, []⟩).memory args fuel = true)
    (hsz : s.sizedB enc Tryz.prog fn false ((World.laidAll Tryz.prog os theLaid).forCall (fun _ _ => 0) ⟨#[], args, []⟩).memory args fuel = true)
    (hf : (World.holding Tryz.prog os ⟨#[], #[], []⟩).layFits Tryz.prog theLaid [] = true)
    (hi : (World.holding Tryz.prog os ⟨#[], #[], []⟩).layIfaces Tryz.prog theLaid (World.laidAll Tryz.prog os theLaid) = true) :
    ∃ (w : World) (tape : Tape) (i : Input), w.os = os ∧ (w.forCall tape i).Shaped Tryz.prog ∧ i.vars = [] ∧ Input.okWide Tryz.prog (w.forCall tape i) .any w.heap.size f i ∧
      ((s.pre enc Tryz.prog fn [] false (w.forCall tape i).memory i.args ∧ laidMetH Tryz.prog theLaid (w.forCall tape i).memory) ∧ sizedMet enc Tryz.prog fn (OpenSpec.ofChange s) false (w.forCall tape i).memory i.args) ∧ ({} : Assume).holds Tryz.prog (lone (Frame.enter Tryz.prog f i.args .normal) [] (w.forCall tape i)) :=
  ⟨World.laidAll Tryz.prog os theLaid, fun _ _ => 0, ⟨#[], args, []⟩, World.laidAll_os _ _ _, World.shaped_of_ZipB hv hr, (Input.okWide_of_okWideB (base := 0) hok).1, (Input.okWide_of_okWideB hok).2, ⟨⟨ChangeSpec.pre_of_preB hpre, by
    rw [MakeChecks.laidMetH_plain _ _ _ (by kernel_rfl)]; exact laidMet_laidAll _ hf hi⟩, sizedMet_of_sizedB hsz⟩, by
    simp only [Assume.holds]
    exact ⟨by simp, by simp, fun _ => Modest.zero, by simp, by simp⟩⟩
section
variable {H : Type} {enc : TypeId × Value → H} {P : Program}
/-- The row's last step, where of the call's world one knows that what was there has not turned. -/
theorem post_of_below {f : Func} {s : ChangeSpec} {apart fresh handsOn again : Bool} {W W' : World} {args : Array Value} {v : Value} {ds gs : List (DataW H)} {before pa pv : List MemPlace}
    (hW : DataW.Whole enc P f.params.toList s.vars apart W args.toList ds gs before)
    (hres : ∀ (b : Nat) (sp : Nat → Bool) (hd : Bool), DataW.TrodAll enc P W' b sp hd f.resultTypes.toList (v.resultList f.resultTypes.size) (s.fn H (ds ++ gs)).results [])
    (hargs : ∀ sp : Nat → Bool, (∀ p ∈ before, sp p.block = true) → DataW.TrodAll enc P W' 0 sp true f.params.toList args.toList (s.fn H (ds ++ gs)).args pa)
    (hvars : ∀ sp : Nat → Bool, (∀ p ∈ before, sp p.block = true) → DataW.TrodVars enc P W' sp s.vars (s.fn H (ds ++ gs)).vars pv)
    (hps : before = pa ++ pv) (hb : Below W.heap.size W W')
    (hok : ∀ (j : Nat) (t : TypeId) (r : Value), f.resultTypes[j]? = some t → (v.resultList f.resultTypes.size)[j]? = some r → Value.okWide P W' .any 0 t r) :
    s.post enc P f apart fresh handsOn again W args v W' := by
  have hlt : ∀ p ∈ before, p.block < W.heap.size := fun p hp => hW.lt p hp
  have hold : ∀ p ∈ before, (fun b => decide (b < W.heap.size)) p.block = true := fun p hp => by simpa using hlt p hp
  refine ⟨ds, gs, before, [], pa, pv, hW, hres _ _ _, hargs _ hold, hvars _ hold, World.keptBut_mono (fun p hp => ⟨hp, ?_⟩) (hb.frame (· ∈ before)), fun _ => ?_⟩
  · rw [hps, List.mem_append] at hp
    exact Or.inr hp
  · obtain ⟨_, _, _, _, _, hz, hn⟩ := hW
    refine ⟨hok, _, _, ([] ++ pa) ++ pv, ⟨[] ++ pa, pv, trodAll_append (hargs _ (fun _ _ => rfl)) (hres _ _ _), hvars _ (fun _ _ => rfl), rfl, ?_, ?_⟩, ?_⟩
    · intro b off hp
      have hin : MemPlace.cell b off ∈ before := by rw [hps]; simpa using hp
      rw [hb.frozen (hlt _ hin)]
      exact hz b off hin
    · intro ha
      have := hn ha
      rw [hps] at this
      simpa using this
    · intro p hp _
      rw [hps]
      simpa using hp
end
end Go.Proofs.YthpmecbekpmijaaGreatDoor
/- slices.Equal over parameters; shape.SameFunc answers eqF. -/
namespace Go.Proofs.YthpmecbekpmijaaGreatDoor
open Go Go.RowKit
set_option linter.unusedSimpArgs false
set_option linter.unusedVariables false
set_option linter.unnecessarySimpa false
theorem ba_eq (s t : Bytes) : ((⟨s.toArray⟩ : ByteArray).toList == (⟨t.toArray⟩ : ByteArray).toList) = (s == t) := by
  rw [ByteArray.toList_eq, ByteArray.toList_eq]
/-- The model's == at parameters. -/
theorem pm_equal (x y : Pm) (W : World) : (Op.equalIn 10000 58 (.agg #[.string ⟨x.name.toArray⟩, .int .i64 x.typ]) (.agg #[.string ⟨y.name.toArray⟩, .int .i64 y.typ])).run Tryz.prog W = .ok (decide (x = y)) W := by
  have hS : Tryz.prog.underlying 58 = some (.struct (Tryz.prog.fieldsOf 58)) := by kernel_rfl
  have hp : Tryz.prog.stoodInHeld 58 = false := by kernel_rfl
  have u1 := Tryz.underlying9
  have u2 := Tryz.underlying3
  have a1 := Tryz.isAgg9
  have a2 := Tryz.isAgg3
  have z1 := Tryz.sizeOf9
  have z2 := Tryz.sizeOf3
  have hd : decide (x = y) = ((x.name == y.name) && (x.typ == y.typ)) := by
    cases x
    cases y
    rw [Bool.eq_iff_iff]
    simp
  rw [show (10000 : Nat) = 9999 + 1 from rfl, run_equalIn_agg W 9999 58 _ _ hS hp, hd]
  simp only [Program.fieldsOf, Tryz.underlying58]
  go_simp
  by_cases h1 : x.name = y.name <;> by_cases h2 : x.typ = y.typ <;> simp [h1, h2]
theorem pm_neq (x y : Pm) (b : Bool) (h : (!decide (x = y)) = b) (W : World) : (binOp .neq 58 (.agg #[.string ⟨x.name.toArray⟩, .int .i64 x.typ]) (.agg #[.string ⟨y.name.toArray⟩, .int .i64 y.typ])).run Tryz.prog W = .ok (.bool b) W := by
  subst h
  rw [run_neq_struct, pm_equal]
  rfl
def pmsEq (l m : List Pm) (k : Nat) : Prop := ∀ (i : Nat) (h : i < l.length) (h' : i < m.length), i < k → l[i] = m[i]
set_option maxHeartbeats 4000000 in
theorem equalPms_any (l m : List Pm) (a a' : Option Addr) (cap cap' : Nat) (w : World) (hl : Pms w l a cap) (hm : Pms w m a' cap') :
    Calls Tryz.prog 53 #[.slice a l.length cap, .slice a' m.length cap'] w fun e w' => e = .returned (.bool (decide (l = m))) ∧ Below w.heap.size w w' := by
  have hll : l.length ≤ 9223372036854775807 := Nat.le_trans hl.len hl.cap
  have hml : m.length ≤ 9223372036854775807 := Nat.le_trans hm.len hm.cap
  have hgt : Tryz.prog.eqGuardType Tryz.prog.depth 58 = false := by kernel_rfl
  have HL := hide hl
  have HM := hide hm
  clear hl hm
  by_cases hlen : ¬ (l.length : Int) = (m.length : Int)
  · have hlen2 : ((l.length : Int) != (m.length : Int)) = true := by simpa using hlen
    have HE : Hid (decide (l = m) = false) := hide (decide_eq_false fun e => hlen (by rw [e]))
    clear hlen
    go_enter Tryz.func53, Tryz.ntmps53
    go_wp2_with fail
    go_ret
    exact ⟨ret_bool HE.out.symm, bl _⟩
  have hlen2 : ((l.length : Int) != (m.length : Int)) = false := by simpa using hlen
  have hlm : Hid (l.length = m.length) := hide (by omega)
  clear hlen
  go_enter Tryz.func53, Tryz.ntmps53
  go_wp2_with fail
  go_loopw [5, 13] (fun _ i wr => ∃ k : Nat, k ≤ l.length ∧ i = .int .i64 k ∧ Hid (pmsEq l m k) ∧ Below w.heap.size w wr) (fun _ i _ => l.length - (intOf i).toNat)
  case atStart => exact ⟨0, Nat.zero_le _, rfl, fun i _ _ h => absurd h (Nat.not_lt_zero _), bl _⟩
  case round =>
    obtain ⟨k, hk, rfl, hall, hb⟩ := hrel
    by_cases hlt : k < l.length
    · have hlt' : k < m.length := by have := hlm.out; omega
      obtain ⟨b, o, rfl⟩ := HL.out.addr (by omega)
      obtain ⟨b', o', rfl⟩ := HM.out.addr (by omega)
      obtain ⟨c0, c1⟩ := HL.out.at_ b o rfl k hlt
      obtain ⟨d0, d1⟩ := HM.out.at_ b' o' rfl k hlt'
      replace c0 := cell_keep c0 hb (Nat.le_refl _)
      replace c1 := cell_keep c1 hb (Nat.le_refl _)
      replace d0 := cell_keep d0 hb (Nat.le_refl _)
      replace d1 := cell_keep d1 hb (Nat.le_refl _)
      have hk0 : (0 : Int) ≤ (k : Int) := by omega
      have hk1 : (k : Int) < (l.length : Int) := by omega
      have hk2 : (k : Int) < (m.length : Int) := by omega
      cases hq : decide (l[k] = m[k])
      · have hn := fun W => pm_neq l[k] m[k] true (by rw [hq]; rfl) W
        have HQ := hide hq
        have HE : Hid (decide (l = m) = false) := hide (decide_eq_false fun e => by
          have h1 := HQ.out
          simp only [decide_eq_false_iff_not] at h1
          apply h1
          subst e
          rfl)
        clear hq
        go_wp2_with fail
        go_quiet (fail)
        go_wp2_with fail
        go_ret
        exact ⟨ret_bool HE.out.symm, below_dq hb _⟩
      · have hn := fun W => pm_neq l[k] m[k] false (by rw [hq]; rfl) W
        have HQ := hide hq
        clear hq
        go_wp2_with fail
        go_quiet (fail)
        go_wp2_with fail
        go_roundw
        case rel =>
          refine ⟨k + 1, by omega, by go_num, ?_, below_dq hb _⟩
          intro i hi hi' hik
          by_cases e : i = k
          · subst e; exact of_decide_eq_true HQ.out
          · exact hall.out i hi hi' (by omega)
        case measure => simp [intOf]; omega
    · obtain rfl : k = l.length := by omega
      have HE : Hid (decide (l = m) = true) := hide (decide_eq_true (List.ext_getElem hlm.out fun i h h' => hall.out i h h' h))
      go_wp2_with fail
      go_ret
      exact ⟨ret_bool HE.out.symm, hb⟩
end Go.Proofs.YthpmecbekpmijaaGreatDoor
/- shape.SameFunc answers eqF; shape.Same answers sameM. -/
namespace Go.Proofs.YthpmecbekpmijaaGreatDoor
open Go Go.RowKit
set_option linter.unusedSimpArgs false
set_option linter.unusedVariables false
set_option linter.unnecessarySimpa false
set_option maxRecDepth 20000 in
set_option maxHeartbeats 8000000 in
theorem sameFunc_any (f g : Fn) (v u : Value) (w : World) (hf : Fn.Val w f v) (hg : Fn.Val w g u) (hT : Tab w) : Calls Tryz.prog 23 #[v, u] w fun r w' => r = .returned (.bool (eqF f g)) ∧ Below w.heap.size w w' := by
  have HF := hide fun (W : World) (hW : Below w.heap.size w W) => function_any f v W (hf.keep hW (Nat.le_refl _)) (hT.below hW)
  have HG := hide fun (W : World) (hW : Below w.heap.size w W) => function_any g u W (hg.keep hW (Nat.le_refl _)) (hT.below hW)
  obtain ⟨pp, pb, cp, cb, rfl, hw, hps, hr⟩ := hf
  obtain ⟨pp', pb', cp', cb', rfl, hw', hps', hr'⟩ := hg
  have HP := hide fun (W : World) (hW : Below w.heap.size w W) => equalPms_any f.params g.params pp pp' cp cp' W (hps.keep hW (Nat.le_refl _)) (hps'.keep hW (Nat.le_refl _))
  have hB := fun (W : World) (hW : Below w.heap.size w W) => equalFunc_sts f.body g.body eqS pb pb' cb cb' 33 #[] (fun _ _ => by kernel_rfl) W (Nat.le_trans hw.lb hw.cb) (Nat.le_trans hw'.lb hw'.cb) (hr.keep hW (Nat.le_refl _)) (hr'.keep hW (Nat.le_refl _))
    (fun i h h' v u W' hW' hv hu => by
      have := stmts_any f.body[i] g.body[i] v u W' hv hu
      exact this)
  simp only [← eqL_ss] at hB
  have HB := hide hB
  obtain ⟨R, hR⟩ : ∃ R, eqF f g = R := ⟨_, rfl⟩
  rw [hR]
  unfold eqF at hR
  obtain ⟨q1, hq1⟩ : ∃ q, fnOk f = q := ⟨_, rfl⟩
  obtain ⟨q2, hq2⟩ : ∃ q, fnOk g = q := ⟨_, rfl⟩
  obtain ⟨q5, hq5⟩ : ∃ q, decide (f.params = g.params) = q := ⟨_, rfl⟩
  obtain ⟨q6, hq6⟩ : ∃ q, eqSs f.body g.body = q := ⟨_, rfl⟩
  rw [hq1, hq2, hq5, hq6] at hR
  rw [hq1] at HF
  rw [hq2] at HG
  rw [hq5] at HP
  rw [hq6] at HB
  have HY : Hid (((w.alloc (.cells #[.string ⟨f.name.toArray⟩, .slice pp f.params.length cp, .int .i64 f.result, .slice pb f.body.length cb, .int .i64 f.count] 42)).alloc (.cells #[.string ⟨g.name.toArray⟩, .slice pp' g.params.length cp', .int .i64 g.result, .slice pb' g.body.length cb', .int .i64 g.count] 42)).heap[w.heap.size + 1]? = some (.cells #[.string ⟨g.name.toArray⟩, .slice pp' g.params.length cp', .int .i64 g.result, .slice pb' g.body.length cb', .int .i64 g.count] 42 (0, 0))) := hide (by
    rw [show w.heap.size + 1 = (w.alloc (.cells #[.string ⟨f.name.toArray⟩, .slice pp f.params.length cp, .int .i64 f.result, .slice pb f.body.length cb, .int .i64 f.count] 42)).heap.size by simp]
    exact heap_alloc_new _ _)
  have HX : Hid (((w.alloc (.cells #[.string ⟨f.name.toArray⟩, .slice pp f.params.length cp, .int .i64 f.result, .slice pb f.body.length cb, .int .i64 f.count] 42)).alloc (.cells #[.string ⟨g.name.toArray⟩, .slice pp' g.params.length cp', .int .i64 g.result, .slice pb' g.body.length cb', .int .i64 g.count] 42)).heap[w.heap.size]? = some (.cells #[.string ⟨f.name.toArray⟩, .slice pp f.params.length cp, .int .i64 f.result, .slice pb f.body.length cb, .int .i64 f.count] 42 (0, 0))) := hide (by
    rw [Below.heap_alloc _ _ _ (by simp)]
    exact heap_alloc_new _ _)
  have HW : Hid (Below w.heap.size w ((w.alloc (.cells #[.string ⟨f.name.toArray⟩, .slice pp f.params.length cp, .int .i64 f.result, .slice pb f.body.length cb, .int .i64 f.count] 42)).alloc (.cells #[.string ⟨g.name.toArray⟩, .slice pp' g.params.length cp', .int .i64 g.result, .slice pb' g.body.length cb', .int .i64 g.count] 42))) := hide (((bl w).al _).al _)
  clear hB hq1 hq2 hq5 hq6 hw hps hr hw' hps' hr' hT
  cases q1
  · have HR := hide hR
    clear hR
    go_enter Tryz.func23, Tryz.ntmps23
    go_wp2_with fail
    (with_reducible refine (HF.out _ HW.out).mono ?_)
    rintro r w1 ⟨rfl, hb1⟩
    have HX := hide ((hb1.block _ (Array.getElem?_eq_some_iff.1 HX.out).1).trans HX.out)
    have HY := hide ((hb1.block _ (Array.getElem?_eq_some_iff.1 HY.out).1).trans HY.out)
    have HW := hide (HW.out.tr hb1)
    clear hb1
    go_wp2_with fail
    go_ret
    exact ⟨ret_bool (by have := HR.out; simpa using this), HW.out⟩
  cases q2
  · have HR := hide hR
    clear hR
    go_enter Tryz.func23, Tryz.ntmps23
    go_wp2_with fail
    (with_reducible refine (HF.out _ HW.out).mono ?_)
    rintro r w1 ⟨rfl, hb1⟩
    have HX := hide ((hb1.block _ (Array.getElem?_eq_some_iff.1 HX.out).1).trans HX.out)
    have HY := hide ((hb1.block _ (Array.getElem?_eq_some_iff.1 HY.out).1).trans HY.out)
    have HW := hide (HW.out.tr hb1)
    clear hb1
    have x0 := cell_at (j := 0) HX.out rfl
    have x1 := cell_at (j := 1) HX.out rfl
    have x2 := cell_at (j := 2) HX.out rfl
    have x3 := cell_at (j := 3) HX.out rfl
    have x4 := cell_at (j := 4) HX.out rfl
    have y0 := cell_at (j := 0) HY.out rfl
    have y1 := cell_at (j := 1) HY.out rfl
    have y2 := cell_at (j := 2) HY.out rfl
    have y3 := cell_at (j := 3) HY.out rfl
    have y4 := cell_at (j := 4) HY.out rfl
    have lx := (Array.getElem?_eq_some_iff.1 HX.out).1
    have ly := (Array.getElem?_eq_some_iff.1 HY.out).1
    go_wp2_with fail
    (with_reducible refine (HG.out _ HW.out).mono ?_)
    rintro r w2 ⟨rfl, hb1⟩
    clear x0 x1 x2 x3 x4 y0 y1 y2 y3 y4 lx ly
    have HX := hide ((hb1.block _ (Array.getElem?_eq_some_iff.1 HX.out).1).trans HX.out)
    have HY := hide ((hb1.block _ (Array.getElem?_eq_some_iff.1 HY.out).1).trans HY.out)
    have HW := hide (HW.out.tr hb1)
    clear hb1
    have x0 := cell_at (j := 0) HX.out rfl
    have x1 := cell_at (j := 1) HX.out rfl
    have x2 := cell_at (j := 2) HX.out rfl
    have x3 := cell_at (j := 3) HX.out rfl
    have x4 := cell_at (j := 4) HX.out rfl
    have y0 := cell_at (j := 0) HY.out rfl
    have y1 := cell_at (j := 1) HY.out rfl
    have y2 := cell_at (j := 2) HY.out rfl
    have y3 := cell_at (j := 3) HY.out rfl
    have y4 := cell_at (j := 4) HY.out rfl
    have lx := (Array.getElem?_eq_some_iff.1 HX.out).1
    have ly := (Array.getElem?_eq_some_iff.1 HY.out).1
    go_wp2_with fail
    go_ret
    exact ⟨ret_bool (by have := HR.out; simpa using this), HW.out⟩
  cases h3 : f.name == g.name
  · rw [h3] at hR
    have HR := hide hR
    clear hR
    go_enter Tryz.func23, Tryz.ntmps23
    go_wp2_with fail
    (with_reducible refine (HF.out _ HW.out).mono ?_)
    rintro r w1 ⟨rfl, hb1⟩
    have HX := hide ((hb1.block _ (Array.getElem?_eq_some_iff.1 HX.out).1).trans HX.out)
    have HY := hide ((hb1.block _ (Array.getElem?_eq_some_iff.1 HY.out).1).trans HY.out)
    have HW := hide (HW.out.tr hb1)
    clear hb1
    have x0 := cell_at (j := 0) HX.out rfl
    have x1 := cell_at (j := 1) HX.out rfl
    have x2 := cell_at (j := 2) HX.out rfl
    have x3 := cell_at (j := 3) HX.out rfl
    have x4 := cell_at (j := 4) HX.out rfl
    have y0 := cell_at (j := 0) HY.out rfl
    have y1 := cell_at (j := 1) HY.out rfl
    have y2 := cell_at (j := 2) HY.out rfl
    have y3 := cell_at (j := 3) HY.out rfl
    have y4 := cell_at (j := 4) HY.out rfl
    have lx := (Array.getElem?_eq_some_iff.1 HX.out).1
    have ly := (Array.getElem?_eq_some_iff.1 HY.out).1
    go_wp2_with fail
    (with_reducible refine (HG.out _ HW.out).mono ?_)
    rintro r w2 ⟨rfl, hb1⟩
    clear x0 x1 x2 x3 x4 y0 y1 y2 y3 y4 lx ly
    have HX := hide ((hb1.block _ (Array.getElem?_eq_some_iff.1 HX.out).1).trans HX.out)
    have HY := hide ((hb1.block _ (Array.getElem?_eq_some_iff.1 HY.out).1).trans HY.out)
    have HW := hide (HW.out.tr hb1)
    clear hb1
    have x0 := cell_at (j := 0) HX.out rfl
    have x1 := cell_at (j := 1) HX.out rfl
    have x2 := cell_at (j := 2) HX.out rfl
    have x3 := cell_at (j := 3) HX.out rfl
    have x4 := cell_at (j := 4) HX.out rfl
    have y0 := cell_at (j := 0) HY.out rfl
    have y1 := cell_at (j := 1) HY.out rfl
    have y2 := cell_at (j := 2) HY.out rfl
    have y3 := cell_at (j := 3) HY.out rfl
    have y4 := cell_at (j := 4) HY.out rfl
    have lx := (Array.getElem?_eq_some_iff.1 HX.out).1
    have ly := (Array.getElem?_eq_some_iff.1 HY.out).1
    go_wp2_with fail
    go_ret
    exact ⟨ret_bool (by have := HR.out; simpa using this), HW.out⟩
  cases h4 : f.result == g.result
  · rw [h3, h4] at hR
    have HR := hide hR
    clear hR
    go_enter Tryz.func23, Tryz.ntmps23
    go_wp2_with fail
    (with_reducible refine (HF.out _ HW.out).mono ?_)
    rintro r w1 ⟨rfl, hb1⟩
    have HX := hide ((hb1.block _ (Array.getElem?_eq_some_iff.1 HX.out).1).trans HX.out)
    have HY := hide ((hb1.block _ (Array.getElem?_eq_some_iff.1 HY.out).1).trans HY.out)
    have HW := hide (HW.out.tr hb1)
    clear hb1
    have x0 := cell_at (j := 0) HX.out rfl
    have x1 := cell_at (j := 1) HX.out rfl
    have x2 := cell_at (j := 2) HX.out rfl
    have x3 := cell_at (j := 3) HX.out rfl
    have x4 := cell_at (j := 4) HX.out rfl
    have y0 := cell_at (j := 0) HY.out rfl
    have y1 := cell_at (j := 1) HY.out rfl
    have y2 := cell_at (j := 2) HY.out rfl
    have y3 := cell_at (j := 3) HY.out rfl
    have y4 := cell_at (j := 4) HY.out rfl
    have lx := (Array.getElem?_eq_some_iff.1 HX.out).1
    have ly := (Array.getElem?_eq_some_iff.1 HY.out).1
    go_wp2_with fail
    (with_reducible refine (HG.out _ HW.out).mono ?_)
    rintro r w2 ⟨rfl, hb1⟩
    clear x0 x1 x2 x3 x4 y0 y1 y2 y3 y4 lx ly
    have HX := hide ((hb1.block _ (Array.getElem?_eq_some_iff.1 HX.out).1).trans HX.out)
    have HY := hide ((hb1.block _ (Array.getElem?_eq_some_iff.1 HY.out).1).trans HY.out)
    have HW := hide (HW.out.tr hb1)
    clear hb1
    have x0 := cell_at (j := 0) HX.out rfl
    have x1 := cell_at (j := 1) HX.out rfl
    have x2 := cell_at (j := 2) HX.out rfl
    have x3 := cell_at (j := 3) HX.out rfl
    have x4 := cell_at (j := 4) HX.out rfl
    have y0 := cell_at (j := 0) HY.out rfl
    have y1 := cell_at (j := 1) HY.out rfl
    have y2 := cell_at (j := 2) HY.out rfl
    have y3 := cell_at (j := 3) HY.out rfl
    have y4 := cell_at (j := 4) HY.out rfl
    have lx := (Array.getElem?_eq_some_iff.1 HX.out).1
    have ly := (Array.getElem?_eq_some_iff.1 HY.out).1
    go_wp2_with fail
    go_ret
    exact ⟨ret_bool (by have := HR.out; simpa using this), HW.out⟩
  rw [h3, h4] at hR
  have HR := hide hR
  clear hR
  cases q5
  · go_enter Tryz.func23, Tryz.ntmps23
    go_wp2_with fail
    (with_reducible refine (HF.out _ HW.out).mono ?_)
    rintro r w1 ⟨rfl, hb1⟩
    have HX := hide ((hb1.block _ (Array.getElem?_eq_some_iff.1 HX.out).1).trans HX.out)
    have HY := hide ((hb1.block _ (Array.getElem?_eq_some_iff.1 HY.out).1).trans HY.out)
    have HW := hide (HW.out.tr hb1)
    clear hb1
    have x0 := cell_at (j := 0) HX.out rfl
    have x1 := cell_at (j := 1) HX.out rfl
    have x2 := cell_at (j := 2) HX.out rfl
    have x3 := cell_at (j := 3) HX.out rfl
    have x4 := cell_at (j := 4) HX.out rfl
    have y0 := cell_at (j := 0) HY.out rfl
    have y1 := cell_at (j := 1) HY.out rfl
    have y2 := cell_at (j := 2) HY.out rfl
    have y3 := cell_at (j := 3) HY.out rfl
    have y4 := cell_at (j := 4) HY.out rfl
    have lx := (Array.getElem?_eq_some_iff.1 HX.out).1
    have ly := (Array.getElem?_eq_some_iff.1 HY.out).1
    go_wp2_with fail
    (with_reducible refine (HG.out _ HW.out).mono ?_)
    rintro r w2 ⟨rfl, hb1⟩
    clear x0 x1 x2 x3 x4 y0 y1 y2 y3 y4 lx ly
    have HX := hide ((hb1.block _ (Array.getElem?_eq_some_iff.1 HX.out).1).trans HX.out)
    have HY := hide ((hb1.block _ (Array.getElem?_eq_some_iff.1 HY.out).1).trans HY.out)
    have HW := hide (HW.out.tr hb1)
    clear hb1
    have x0 := cell_at (j := 0) HX.out rfl
    have x1 := cell_at (j := 1) HX.out rfl
    have x2 := cell_at (j := 2) HX.out rfl
    have x3 := cell_at (j := 3) HX.out rfl
    have x4 := cell_at (j := 4) HX.out rfl
    have y0 := cell_at (j := 0) HY.out rfl
    have y1 := cell_at (j := 1) HY.out rfl
    have y2 := cell_at (j := 2) HY.out rfl
    have y3 := cell_at (j := 3) HY.out rfl
    have y4 := cell_at (j := 4) HY.out rfl
    have lx := (Array.getElem?_eq_some_iff.1 HX.out).1
    have ly := (Array.getElem?_eq_some_iff.1 HY.out).1
    go_wp2_with fail
    (with_reducible refine (HP.out _ HW.out).mono ?_)
    rintro r w3 ⟨rfl, hb1⟩
    clear x0 x1 x2 x3 x4 y0 y1 y2 y3 y4 lx ly
    have HX := hide ((hb1.block _ (Array.getElem?_eq_some_iff.1 HX.out).1).trans HX.out)
    have HY := hide ((hb1.block _ (Array.getElem?_eq_some_iff.1 HY.out).1).trans HY.out)
    have HW := hide (HW.out.tr hb1)
    clear hb1
    have x0 := cell_at (j := 0) HX.out rfl
    have x1 := cell_at (j := 1) HX.out rfl
    have x2 := cell_at (j := 2) HX.out rfl
    have x3 := cell_at (j := 3) HX.out rfl
    have x4 := cell_at (j := 4) HX.out rfl
    have y0 := cell_at (j := 0) HY.out rfl
    have y1 := cell_at (j := 1) HY.out rfl
    have y2 := cell_at (j := 2) HY.out rfl
    have y3 := cell_at (j := 3) HY.out rfl
    have y4 := cell_at (j := 4) HY.out rfl
    have lx := (Array.getElem?_eq_some_iff.1 HX.out).1
    have ly := (Array.getElem?_eq_some_iff.1 HY.out).1
    go_wp2_with fail
    go_ret
    exact ⟨ret_bool (by have := HR.out; simpa using this), HW.out⟩
  go_enter Tryz.func23, Tryz.ntmps23
  go_wp2_with fail
  (with_reducible refine (HF.out _ HW.out).mono ?_)
  rintro r w1 ⟨rfl, hb1⟩
  have HX := hide ((hb1.block _ (Array.getElem?_eq_some_iff.1 HX.out).1).trans HX.out)
  have HY := hide ((hb1.block _ (Array.getElem?_eq_some_iff.1 HY.out).1).trans HY.out)
  have HW := hide (HW.out.tr hb1)
  clear hb1
  have x0 := cell_at (j := 0) HX.out rfl
  have x1 := cell_at (j := 1) HX.out rfl
  have x2 := cell_at (j := 2) HX.out rfl
  have x3 := cell_at (j := 3) HX.out rfl
  have x4 := cell_at (j := 4) HX.out rfl
  have y0 := cell_at (j := 0) HY.out rfl
  have y1 := cell_at (j := 1) HY.out rfl
  have y2 := cell_at (j := 2) HY.out rfl
  have y3 := cell_at (j := 3) HY.out rfl
  have y4 := cell_at (j := 4) HY.out rfl
  have lx := (Array.getElem?_eq_some_iff.1 HX.out).1
  have ly := (Array.getElem?_eq_some_iff.1 HY.out).1
  go_wp2_with fail
  (with_reducible refine (HG.out _ HW.out).mono ?_)
  rintro r w2 ⟨rfl, hb1⟩
  clear x0 x1 x2 x3 x4 y0 y1 y2 y3 y4 lx ly
  have HX := hide ((hb1.block _ (Array.getElem?_eq_some_iff.1 HX.out).1).trans HX.out)
  have HY := hide ((hb1.block _ (Array.getElem?_eq_some_iff.1 HY.out).1).trans HY.out)
  have HW := hide (HW.out.tr hb1)
  clear hb1
  have x0 := cell_at (j := 0) HX.out rfl
  have x1 := cell_at (j := 1) HX.out rfl
  have x2 := cell_at (j := 2) HX.out rfl
  have x3 := cell_at (j := 3) HX.out rfl
  have x4 := cell_at (j := 4) HX.out rfl
  have y0 := cell_at (j := 0) HY.out rfl
  have y1 := cell_at (j := 1) HY.out rfl
  have y2 := cell_at (j := 2) HY.out rfl
  have y3 := cell_at (j := 3) HY.out rfl
  have y4 := cell_at (j := 4) HY.out rfl
  have lx := (Array.getElem?_eq_some_iff.1 HX.out).1
  have ly := (Array.getElem?_eq_some_iff.1 HY.out).1
  go_wp2_with fail
  (with_reducible refine (HP.out _ HW.out).mono ?_)
  rintro r w3 ⟨rfl, hb1⟩
  clear x0 x1 x2 x3 x4 y0 y1 y2 y3 y4 lx ly
  have HX := hide ((hb1.block _ (Array.getElem?_eq_some_iff.1 HX.out).1).trans HX.out)
  have HY := hide ((hb1.block _ (Array.getElem?_eq_some_iff.1 HY.out).1).trans HY.out)
  have HW := hide (HW.out.tr hb1)
  clear hb1
  have x0 := cell_at (j := 0) HX.out rfl
  have x1 := cell_at (j := 1) HX.out rfl
  have x2 := cell_at (j := 2) HX.out rfl
  have x3 := cell_at (j := 3) HX.out rfl
  have x4 := cell_at (j := 4) HX.out rfl
  have y0 := cell_at (j := 0) HY.out rfl
  have y1 := cell_at (j := 1) HY.out rfl
  have y2 := cell_at (j := 2) HY.out rfl
  have y3 := cell_at (j := 3) HY.out rfl
  have y4 := cell_at (j := 4) HY.out rfl
  have lx := (Array.getElem?_eq_some_iff.1 HX.out).1
  have ly := (Array.getElem?_eq_some_iff.1 HY.out).1
  go_wp2_with fail
  refine (same_sts_any _ _ _ (HB.out _ HW.out) _ _ _ rfl).mono ?_
  rintro r w4 ⟨rfl, hb1⟩
  clear x0 x1 x2 x3 x4 y0 y1 y2 y3 y4 lx ly
  have HX := hide ((hb1.block _ (Array.getElem?_eq_some_iff.1 HX.out).1).trans HX.out)
  have HY := hide ((hb1.block _ (Array.getElem?_eq_some_iff.1 HY.out).1).trans HY.out)
  have HW := hide (HW.out.tr hb1)
  clear hb1
  go_wp2_with fail
  go_ret
  exact ⟨ret_bool (by have := HR.out; simpa using this), HW.out⟩
set_option maxHeartbeats 4000000 in
theorem equalFunc_fns (l m : List Fn) (p : Fn → Fn → Bool) (a a' : Option Addr) (cap cap' g : Nat) (caps : Array Value) (eg : ∀ args w, (callFunc g args).run Tryz.prog w = .ok (.enter g args) w) (w : World) (hl : Fns w l a cap) (hm : Fns w m a' cap')
    (hp : ∀ (i : Nat) (h : i < l.length) (h' : i < m.length) (v u : Value) (W : World), Below w.heap.size w W → Fn.Val W l[i] v → Fn.Val W m[i] u → Calls Tryz.prog g (#[v, u] ++ caps) W fun e w' => e = .returned (.bool (p l[i] m[i])) ∧ Below W.heap.size W w') :
    Calls Tryz.prog 82 #[.slice a l.length cap, .slice a' m.length cap', .func (.func g) #[] caps] w fun e w' => e = .returned (.bool (eqL p l m)) ∧ Below w.heap.size w w' := by
  have hll : l.length ≤ 9223372036854775807 := Nat.le_trans hl.len hl.cap
  have hml : m.length ≤ 9223372036854775807 := Nat.le_trans hm.len hm.cap
  have HL := hide hl
  have HM := hide hm
  have HP := hide hp
  clear hl hm hp
  by_cases hlen : ¬ (l.length : Int) = (m.length : Int)
  · have hlen2 : ((l.length : Int) != (m.length : Int)) = true := by simpa using hlen
    have HE := hide (eqL_len (p := p) (l := l) (m := m) (by omega))
    clear hlen
    go_enter Tryz.func82, Tryz.ntmps82
    go_wp2_with fail
    go_ret
    exact ⟨ret_bool HE.out.symm, bl _⟩
  have hlen2 : ((l.length : Int) != (m.length : Int)) = false := by simpa using hlen
  have hlm : Hid (l.length = m.length) := hide (by omega)
  clear hlen
  go_enter Tryz.func82, Tryz.ntmps82
  go_wp2_with fail
  go_loopw [7, 17] (fun _ i wr => ∃ k : Nat, k ≤ l.length ∧ i = .int .i64 k ∧ Hid (∀ (i : Nat) (h : i < l.length) (h' : i < m.length), i < k → p l[i] m[i] = true) ∧ Below w.heap.size w wr) (fun _ i _ => l.length - (intOf i).toNat)
  case atStart => exact ⟨0, Nat.zero_le _, rfl, fun i _ _ h => absurd h (Nat.not_lt_zero _), bl _⟩
  case round =>
    obtain ⟨k, hk, rfl, hall, hb⟩ := hrel
    by_cases hlt : k < l.length
    · have hlt' : k < m.length := by have := hlm.out; omega
      obtain ⟨b, o, rfl⟩ := HL.out.addr (by omega)
      obtain ⟨b', o', rfl⟩ := HM.out.addr (by omega)
      obtain ⟨pp, pb, cp, cb, c0, c1, c2, c3, c4, hfw, hps, hrow⟩ := (HL.out.at_ b o rfl k hlt).has (has_below hb)
      obtain ⟨pp', pb', cp', cb', d0, d1, d2, d3, d4, hfw', hps', hrow'⟩ := (HM.out.at_ b' o' rfl k hlt').has (has_below hb)
      have h1 := hide fun (W : World) (hW : Below wr.heap.size wr W) => HP.out k hlt hlt' _ _ W (hb.tr hW) (⟨pp, pb, cp, cb, rfl, hfw, hps.has (has_below hW), hrow.has (has_below hW)⟩ : Fn.Val W l[k] _) (⟨pp', pb', cp', cb', rfl, hfw', hps'.has (has_below hW), hrow'.has (has_below hW)⟩ : Fn.Val W m[k] _)
      clear hfw hps hrow hfw' hps' hrow'
      have hl1 := cell_lt c0
      have hl2 := cell_lt d0
      simp only at hl1 hl2
      cases hq : p l[k] m[k]
      all_goals
        rw [hq] at h1
        have HQ := hide hq
        clear hq
      · have HE := hide (eqL_no (p := p) k hlt hlt' HQ.out)
        go_wp2_with (go_at_fn g; refine (h1.out _ (((bl wr).al _).al _)).mono ?_; rintro e w1 ⟨rfl, hb1⟩)
        go_ret
        exact ⟨ret_bool HE.out.symm, ((hb.al _).al _).tr hb1⟩
      · go_wp2_with (go_at_fn g; refine (h1.out _ (((bl wr).al _).al _)).mono ?_; rintro e w1 ⟨rfl, hb1⟩)
        go_roundw
        case rel =>
          refine ⟨k + 1, by omega, by go_num, ?_, ((hb.al _).al _).tr hb1⟩
          intro i hi hi' hik
          by_cases e : i = k
          · subst e; exact HQ.out
          · exact hall i hi hi' (by omega)
        case measure => simp [intOf]; omega
    · obtain rfl : k = l.length := by omega
      have HE := hide (eqL_yes (p := p) hlm.out (fun i h h' => hall i h h' h))
      go_wp2_with fail
      go_ret
      exact ⟨ret_bool HE.out.symm, hb⟩
theorem same_fns_any (args : Array Value) (q : Bool) (w : World) (h : Calls Tryz.prog 82 args w fun e w' => e = .returned (.bool q) ∧ Below w.heap.size w w') :
    ∀ (a b c : Value), args = #[a, b, c] → Calls Tryz.prog 52 #[a, b, c] w fun e w' => e = .returned (.bool q) ∧ Below w.heap.size w w' := by
  rintro a b c rfl
  have H := hide h
  clear h
  go_enter Tryz.func52, Tryz.ntmps52
  go_wp2_with fail
  refine H.out.mono ?_
  rintro r w1 ⟨rfl, hb⟩
  go_wp2_with fail
  go_ret
  exact ⟨rfl, hb⟩
set_option maxRecDepth 20000 in
set_option maxHeartbeats 8000000 in
theorem same_any (l m : List Fn) (a a' : Option Addr) (cap cap' : Nat) (w : World) (hl : Fns w l a cap) (hm : Fns w m a' cap') (hT : Tab w) :
    Calls Tryz.prog 21 #[.agg #[.slice a l.length cap], .agg #[.slice a' m.length cap']] w fun r w' => r = .returned (.bool (sameM l m)) ∧ Below w.heap.size w w' := by
  have hll : l.length ≤ 9223372036854775807 := Nat.le_trans hl.len hl.cap
  have hml : m.length ≤ 9223372036854775807 := Nat.le_trans hm.len hm.cap
  have HF := hide fun (W : World) (hW : Below w.heap.size w W) => check_any l a cap W (hl.keep hW (Nat.le_refl _)) (hT.below hW)
  have HG := hide fun (W : World) (hW : Below w.heap.size w W) => check_any m a' cap' W (hm.keep hW (Nat.le_refl _)) (hT.below hW)
  have hB := fun (W : World) (hW : Below w.heap.size w W) => equalFunc_fns l m eqF a a' cap cap' 23 #[] (fun _ _ => by kernel_rfl) W (hl.keep hW (Nat.le_refl _)) (hm.keep hW (Nat.le_refl _))
    (fun i h h' v u W' hW' hv hu => by
      have := sameFunc_any l[i] m[i] v u W' hv hu (hT.below (hW.tr hW'))
      exact this)
  simp only [← eqL_fs] at hB
  have HB := hide hB
  obtain ⟨R, hR⟩ : ∃ R, sameM l m = R := ⟨_, rfl⟩
  rw [hR]
  unfold sameM at hR
  obtain ⟨c1, hc1⟩ : ∃ c, checkM l = c := ⟨_, rfl⟩
  obtain ⟨c2, hc2⟩ : ∃ c, checkM m = c := ⟨_, rfl⟩
  obtain ⟨q6, hq6⟩ : ∃ q, eqFs l m = q := ⟨_, rfl⟩
  rw [hc1, hc2, hq6] at hR
  rw [hc1] at HF
  rw [hc2] at HG
  rw [hq6] at HB
  have HY : Hid (((w.alloc (.cells #[.slice a l.length cap] 38)).alloc (.cells #[.slice a' m.length cap'] 38)).heap[w.heap.size + 1]? = some (.cells #[.slice a' m.length cap'] 38 (0, 0))) := hide (by
    rw [show w.heap.size + 1 = (w.alloc (.cells #[.slice a l.length cap] 38)).heap.size by simp]
    exact heap_alloc_new _ _)
  have HX : Hid (((w.alloc (.cells #[.slice a l.length cap] 38)).alloc (.cells #[.slice a' m.length cap'] 38)).heap[w.heap.size]? = some (.cells #[.slice a l.length cap] 38 (0, 0))) := hide (by
    rw [Below.heap_alloc _ _ _ (by simp)]
    exact heap_alloc_new _ _)
  have HW : Hid (Below w.heap.size w ((w.alloc (.cells #[.slice a l.length cap] 38)).alloc (.cells #[.slice a' m.length cap'] 38))) := hide (((bl w).al _).al _)
  clear hB hc1 hc2 hq6 hl hm hT
  cases h1 : c1 == 0
  · rw [h1] at hR
    have HR := hide hR
    clear hR
    go_enter Tryz.func21, Tryz.ntmps21
    go_wp2_with fail
    (with_reducible refine (HF.out _ HW.out).mono ?_)
    rintro r w1 ⟨rfl, hb1⟩
    have HX := hide ((hb1.block _ (Array.getElem?_eq_some_iff.1 HX.out).1).trans HX.out)
    have HY := hide ((hb1.block _ (Array.getElem?_eq_some_iff.1 HY.out).1).trans HY.out)
    have HW := hide (HW.out.tr hb1)
    clear hb1
    go_wp2_with fail
    go_ret
    exact ⟨ret_bool (by have := HR.out; simpa using this), HW.out⟩
  cases h2 : c2 == 0
  · rw [h1, h2] at hR
    have HR := hide hR
    clear hR
    go_enter Tryz.func21, Tryz.ntmps21
    go_wp2_with fail
    (with_reducible refine (HF.out _ HW.out).mono ?_)
    rintro r w1 ⟨rfl, hb1⟩
    have HX := hide ((hb1.block _ (Array.getElem?_eq_some_iff.1 HX.out).1).trans HX.out)
    have HY := hide ((hb1.block _ (Array.getElem?_eq_some_iff.1 HY.out).1).trans HY.out)
    have HW := hide (HW.out.tr hb1)
    clear hb1
    have x0 := cell_at (j := 0) HX.out rfl
    have y0 := cell_at (j := 0) HY.out rfl
    have lx := (Array.getElem?_eq_some_iff.1 HX.out).1
    have ly := (Array.getElem?_eq_some_iff.1 HY.out).1
    go_wp2_with fail
    (with_reducible refine (HG.out _ HW.out).mono ?_)
    rintro r w2 ⟨rfl, hb1⟩
    clear x0 y0 lx ly
    have HX := hide ((hb1.block _ (Array.getElem?_eq_some_iff.1 HX.out).1).trans HX.out)
    have HY := hide ((hb1.block _ (Array.getElem?_eq_some_iff.1 HY.out).1).trans HY.out)
    have HW := hide (HW.out.tr hb1)
    clear hb1
    have x0 := cell_at (j := 0) HX.out rfl
    have y0 := cell_at (j := 0) HY.out rfl
    have lx := (Array.getElem?_eq_some_iff.1 HX.out).1
    have ly := (Array.getElem?_eq_some_iff.1 HY.out).1
    go_wp2_with fail
    go_ret
    exact ⟨ret_bool (by have := HR.out; simpa using this), HW.out⟩
  rw [h1, h2] at hR
  have HR := hide hR
  clear hR
  go_enter Tryz.func21, Tryz.ntmps21
  go_wp2_with fail
  (with_reducible refine (HF.out _ HW.out).mono ?_)
  rintro r w1 ⟨rfl, hb1⟩
  have HX := hide ((hb1.block _ (Array.getElem?_eq_some_iff.1 HX.out).1).trans HX.out)
  have HY := hide ((hb1.block _ (Array.getElem?_eq_some_iff.1 HY.out).1).trans HY.out)
  have HW := hide (HW.out.tr hb1)
  clear hb1
  have x0 := cell_at (j := 0) HX.out rfl
  have y0 := cell_at (j := 0) HY.out rfl
  have lx := (Array.getElem?_eq_some_iff.1 HX.out).1
  have ly := (Array.getElem?_eq_some_iff.1 HY.out).1
  go_wp2_with fail
  (with_reducible refine (HG.out _ HW.out).mono ?_)
  rintro r w2 ⟨rfl, hb1⟩
  clear x0 y0 lx ly
  have HX := hide ((hb1.block _ (Array.getElem?_eq_some_iff.1 HX.out).1).trans HX.out)
  have HY := hide ((hb1.block _ (Array.getElem?_eq_some_iff.1 HY.out).1).trans HY.out)
  have HW := hide (HW.out.tr hb1)
  clear hb1
  have x0 := cell_at (j := 0) HX.out rfl
  have y0 := cell_at (j := 0) HY.out rfl
  have lx := (Array.getElem?_eq_some_iff.1 HX.out).1
  have ly := (Array.getElem?_eq_some_iff.1 HY.out).1
  go_wp2_with fail
  refine (same_fns_any _ _ _ (HB.out _ HW.out) _ _ _ rfl).mono ?_
  rintro r w4 ⟨rfl, hb1⟩
  clear x0 y0 lx ly
  have HX := hide ((hb1.block _ (Array.getElem?_eq_some_iff.1 HX.out).1).trans HX.out)
  have HY := hide ((hb1.block _ (Array.getElem?_eq_some_iff.1 HY.out).1).trans HY.out)
  have HW := hide (HW.out.tr hb1)
  clear hb1
  go_wp2_with fail
  go_ret
  exact ⟨ret_bool (by have := HR.out; simpa using this), HW.out⟩
end Go.Proofs.YthpmecbekpmijaaGreatDoor
/- Being equal is an equivalence; programs that differ in one statement are different: the plain laws. -/
namespace Go.Proofs.YthpmecbekpmijaaGreatDoor
open Go Go.RowKit
set_option linter.unusedSimpArgs false
set_option linter.unusedVariables false
set_option linter.unnecessarySimpa false
theorem checkM_zero {l : List Fn} : checkM l = 0 ↔ l.length ≤ 20 ∧ ∀ f ∈ l, fnOk f = true ∧ fnNums f = true := by
  unfold checkM
  split
  · rename_i h
    exact ⟨fun _ => h, fun _ => rfl⟩
  · rename_i h
    exact ⟨fun h2 => absurd h2 (by decide), fun h2 => absurd h2 h⟩
theorem eqF_iff {f g : Fn} : eqF f g = true ↔ fnOk f = true ∧ fnOk g = true ∧ f.name = g.name ∧ f.result = g.result ∧ f.params = g.params ∧ eqSs f.body g.body = true := by
  simp only [eqF, Bool.and_eq_true, beq_iff_eq, decide_eq_true_eq, and_assoc]
theorem eqF_refl {f : Fn} (h : fnOk f = true) : eqF f f = true := eqF_iff.2 ⟨h, h, rfl, rfl, rfl, eqSs_refl _⟩
theorem eqF_symm (f g : Fn) : eqF f g = eqF g f := by
  rw [Bool.eq_iff_iff, eqF_iff, eqF_iff, eqSs_symm f.body g.body]
  exact ⟨fun ⟨a, b, c, d, e, h⟩ => ⟨b, a, c.symm, d.symm, e.symm, h⟩, fun ⟨a, b, c, d, e, h⟩ => ⟨b, a, c.symm, d.symm, e.symm, h⟩⟩
theorem eqF_trans {f g h : Fn} (a : eqF f g = true) (b : eqF g h = true) : eqF f h = true := by
  rw [eqF_iff] at *
  exact ⟨a.1, b.2.1, a.2.2.1.trans b.2.2.1, a.2.2.2.1.trans b.2.2.2.1, a.2.2.2.2.1.trans b.2.2.2.2.1, eqSs_trans a.2.2.2.2.2 b.2.2.2.2.2⟩
theorem eqFs_refl : ∀ {l : List Fn}, (∀ f ∈ l, fnOk f = true) → eqFs l l = true
  | [], _ => rfl
  | f :: l, h => by rw [eqFs, eqF_refl (h f (by simp)), eqFs_refl fun g hg => h g (by simp [hg])]; rfl
theorem eqFs_symm : ∀ (l m : List Fn), eqFs l m = eqFs m l
  | [], [] => rfl
  | a :: l, b :: m => by rw [eqFs, eqFs, eqF_symm a b, eqFs_symm l m]
  | [], _ :: _ => rfl
  | _ :: _, [] => rfl
theorem eqFs_trans : ∀ {l m n : List Fn}, eqFs l m = true → eqFs m n = true → eqFs l n = true
  | [], [], [], _, _ => rfl
  | a :: l, b :: m, c :: n, h, k => by
    simp only [eqFs, Bool.and_eq_true] at *
    exact ⟨eqF_trans h.1 k.1, eqFs_trans h.2 k.2⟩
  | [], _ :: _, _, h, _ => by cases h
  | _ :: _, [], _, h, _ => by cases h
  | [], [], _ :: _, _, k => by cases k
  | _ :: _, _ :: _, [], _, k => by cases k
theorem sameM_refl {l : List Fn} (h : checkM l = 0) : sameM l l = true := by
  have := eqFs_refl fun f hf => ((checkM_zero.1 h).2 f hf).1
  simp [sameM, h, this]
theorem sameM_symm (l m : List Fn) : sameM l m = sameM m l := by
  unfold sameM
  rw [eqFs_symm l m, Bool.and_comm (checkM l == 0)]
theorem sameM_trans {l m n : List Fn} (h : sameM l m = true) (k : sameM m n = true) : sameM l n = true := by
  simp only [sameM, Bool.and_eq_true] at *
  exact ⟨⟨h.1.1, k.1.2⟩, eqFs_trans h.2 k.2⟩
theorem made_check (D : List Nat) : checkM (madeD D) = 0 := by
  obtain ⟨_, h2, h3⟩ := madeD_ok D
  exact checkM_zero.2 ⟨by omega, fun f hf => ⟨(h3 f hf).1, (h3 f hf).2.1⟩⟩
/-- A program with right numbers is the one that Number returns. -/
theorem number_id {l : List Fn} (h : checkM l = 0) : numberM l = l := by
  obtain ⟨h1, h2⟩ := checkM_zero.1 h
  unfold numberM
  rw [if_pos ⟨h1, fun f hf => (h2 f hf).1⟩]
  conv => rhs; rw [← List.map_id l]
  exact List.map_congr_left fun f hf => numFn_nums (h2 f hf).2
theorem eqF_body {f g : Fn} (h : f.body.length ≠ g.body.length) : eqF f g = false := by
  rw [Bool.eq_false_iff]
  intro h2
  have := (eqF_iff.1 h2).2.2.2.2.2
  rw [eqSs_len h] at this
  cases this
/-- Without the first statement of one function it is another program. -/
theorem same_cut {l : List Fn} {j : Nat} (hj : j < l.length) {g : Fn} (hg : g.body.length ≠ l[j].body.length) : sameM l (numberM (l.set j g)) = false := by
  have key : eqFs l (numberM (l.set j g)) = false := by
    unfold numberM
    split
    · by_cases hl : l.length = ((l.set j g).map numFn).length
      · rw [Bool.eq_false_iff]
        intro h
        have := (eqFs_all l _ hl).1 h j hj (by simpa using hj)
        rw [eqF_body (by simp [numFn, renL_len]; exact fun e => hg e.symm)] at this
        cases this
      · exact eqFs_len hl
    · exact eqFs_len (by simp; intro e; rw [e] at hj; exact absurd hj (Nat.not_lt_zero _))
  simp [sameM, key]
end Go.Proofs.YthpmecbekpmijaaGreatDoor
/- Programs whose functions lie in a row of the call's own, and may be changed there; contracts in the words that the statements need. -/
namespace Go.Proofs.YthpmecbekpmijaaGreatDoor
open Go Go.RowKit
set_option linter.unusedSimpArgs false
set_option linter.unusedVariables false
set_option linter.unnecessarySimpa false
/-- The functions lie in block g; what hangs on them lies elsewhere. -/
def PrgAt (W : World) (l : List Fn) (g : Nat) : Prop :=
  (∃ C t, W.heap[g]? = some (.cells C t (0, 0))) ∧ ∀ (i : Nat) (h : i < l.length), ∃ c, FnC (av [g] W) l[i] c ∧ ∀ j u, c[j]? = some u → W.cell? ⟨g, i * 5 + j, none⟩ = some u
theorem PrgAt.lt {W : World} {l : List Fn} {g : Nat} (h : PrgAt W l g) : g < W.heap.size := by
  obtain ⟨⟨C, t, h1⟩, _⟩ := h
  exact (Array.getElem?_eq_some_iff.1 h1).1
theorem PrgAt.free {W : World} {l : List Fn} {g : Nat} (h : PrgAt W l g) (j : Nat) : W.frozen? ⟨g, j, none⟩ = false := by
  obtain ⟨⟨C, t, h1⟩, _⟩ := h
  exact free_at h1
theorem PrgAt.of {W : World} {base : Nat} {ban : List Nat} {l : List Fn} {g n cap : Nat} (h : OwnL W base 42 5 FnC ban (.slice (some ⟨g, 0, none⟩) n cap) l) : PrgAt W l g := by
  refine ⟨?_, fun i hi => ?_⟩
  · rcases h.block with ⟨h1, _⟩ | ⟨g', cap', C, hv, _, _, hC, _⟩
    · cases h1
    · simp only [Value.slice.injEq, Option.some.injEq, Addr.mk.injEq, and_true] at hv
      obtain ⟨rfl, _⟩ := hv
      exact ⟨C, _, hC⟩
  · obtain ⟨_, _, c, _, h2, _, h4⟩ := h.get FnC.mono rfl i hi
    exact ⟨c, FnC.mono _ _ _ _ (has_sub (by simp)) h2, h4⟩
theorem PrgAt.kept {W W' : World} {l : List Fn} {g : Nat} {m : List Nat} (h : PrgAt W l g) (hk : Kept m W W') (hm : g ∉ m) (hh : Has (av [g] W) (av [g] W')) : PrgAt W' l g := by
  obtain ⟨⟨C, t, h1⟩, h2⟩ := h
  refine ⟨⟨C, t, hk.heap hm h1⟩, fun i hi => ?_⟩
  obtain ⟨c, h3, h4⟩ := h2 i hi
  exact ⟨c, FnC.mono _ _ _ _ hh h3, fun j u hu => hk.cell hm (h4 j u hu)⟩
theorem PrgAt.below {W W' : World} {l : List Fn} {g : Nat} (h : PrgAt W l g) (hb : Below W.heap.size W W') : PrgAt W' l g := h.kept (m := []) (kept_below hb) (by simp) (has_av_below hb)
/-- The five cells of a function, and what hangs on it. -/
theorem PrgAt.cells {W : World} {l : List Fn} {g : Nat} (h : PrgAt W l g) (i : Nat) (hi : i < l.length) : ∃ (pp pb : Option Addr) (cp cb : Nat),
    W.cell? ⟨g, i * 5, none⟩ = some (.string ⟨l[i].name.toArray⟩) ∧ W.cell? ⟨g, i * 5 + 1, none⟩ = some (.slice pp l[i].params.length cp) ∧ W.cell? ⟨g, i * 5 + 2, none⟩ = some (.int .i64 l[i].result) ∧
    W.cell? ⟨g, i * 5 + 3, none⟩ = some (.slice pb l[i].body.length cb) ∧ W.cell? ⟨g, i * 5 + 4, none⟩ = some (.int .i64 l[i].count) ∧ FnWf l[i] cb ∧ Pms (av [g] W) l[i].params pp cp ∧ St.Row (av [g] W) l[i].body pb := by
  obtain ⟨c, ⟨pp, pb, cp, cb, rfl, h1, h2, h3⟩, h4⟩ := h.2 i hi
  exact ⟨pp, pb, cp, cb, h4 0 _ rfl, h4 1 _ rfl, h4 2 _ rfl, h4 3 _ rfl, h4 4 _ rfl, h1, h2, h3⟩
theorem PrgAt.fns {W : World} {l : List Fn} {g cap : Nat} (h : PrgAt W l g) (h1 : l.length ≤ cap) (h2 : cap ≤ maxLen) : Fns W l (some ⟨g, 0, none⟩) cap := by
  refine ⟨h1, h2, fun _ => ⟨_, _, rfl⟩, fun b o e i hi => ?_⟩
  simp only [Option.some.injEq, Addr.mk.injEq, and_true] at e
  obtain ⟨rfl, rfl⟩ := e
  obtain ⟨pp, pb, cp, cb, c0, c1, c2, c3, c4, hw, hp, hr⟩ := h.cells i hi
  rw [Nat.zero_add]
  exact ⟨pp, pb, cp, cb, c0, c1, c2, c3, c4, hw, hp.has has_av, hr.has has_av⟩
/-- One function is changed. -/
theorem PrgAt.store {W W' : World} {l : List Fn} {g : Nat} (h : PrgAt W l g) (hk : Kept [g] W W') (i : Nat) (f : Fn) (c : List Value) (hc : FnC (av [g] W) f c) (hcell : ∀ j u, c[j]? = some u → W'.cell? ⟨g, i * 5 + j, none⟩ = some u)
    (ho : ∀ k u, (k < i * 5 ∨ i * 5 + 5 ≤ k) → W.cell? ⟨g, k, none⟩ = some u → W'.cell? ⟨g, k, none⟩ = some u) (hb : ∃ C t, W'.heap[g]? = some (.cells C t (0, 0))) : PrgAt W' (l.set i f) g := by
  refine ⟨hb, fun k hk2 => ?_⟩
  have hkl : k < l.length := by simpa using hk2
  by_cases e : k = i
  · subst e
    rw [List.getElem_set_self]
    exact ⟨c, FnC.mono _ _ _ _ (has_kept hk) hc, hcell⟩
  · rw [List.getElem_set_ne (by omega)]
    obtain ⟨d, h1, h2⟩ := h.2 k hkl
    refine ⟨d, FnC.mono _ _ _ _ (has_kept hk) h1, fun j u hu => ho _ _ ?_ (h2 j u hu)⟩
    have hj : j < 5 := by
      obtain ⟨_, _, _, _, rfl, _⟩ := h1
      have := (List.getElem?_eq_some_iff.1 hu).1
      simpa using this
    omega
theorem heap_newS {X : World} {g : Nat} {C : Array Value} {t : TypeId} (h : g = X.heap.size) : (X.alloc (.cells C t)).heap[g]? = some (.cells C t (0, 0)) := by
  subst h
  exact heap_alloc_new _ _
theorem heap_setC {W : World} {g i : Nat} {v : Value} (h : ∃ C t, W.heap[g]? = some (.cells C t (0, 0))) : ∃ C t, (W.setCell ⟨g, i, none⟩ v).heap[g]? = some (.cells C t (0, 0)) := by
  obtain ⟨C, t, h⟩ := h
  exact ⟨_, t, heap_set h v⟩
/-- One cell of one function is changed. -/
theorem PrgAt.store1 {W : World} {l : List Fn} {g : Nat} (h : PrgAt W l g) (i : Nat) (hi : i < l.length) (f : Fn) (j0 : Nat) (v : Value) (hj : j0 < 5) (c : List Value)
    (hold : ∀ j u, c[j]? = some u → W.cell? ⟨g, i * 5 + j, none⟩ = some u) (hl : c.length = 5) (hc : FnC (av [g] W) f (c.set j0 v)) : PrgAt (W.setCell ⟨g, i * 5 + j0, none⟩ v) (l.set i f) g := by
  refine h.store ((Kept.refl [g] W).set (.inl (by simp)) _ _) i f _ hc (fun j u hu => ?_) (fun k u hk hu => set_other hu (by omega)) (heap_setC h.1)
  by_cases e : j = j0
  · subst e
    rw [List.getElem?_set_self (by omega)] at hu
    simp only [Option.some.injEq] at hu
    subst hu
    obtain ⟨u0, hu0⟩ : ∃ u0, c[j]? = some u0 := ⟨c[j]'(by omega), List.getElem?_eq_getElem _⟩
    exact set_same (hold j u0 hu0)
  · rw [List.getElem?_set_ne (by omega)] at hu
    exact set_other (hold j u hu) (by omega)
theorem row_tail {w : World} {l : List St} {b o : Nat} (h : St.Row w l (some ⟨b, o, none⟩)) : St.Row w (l.drop 1) (some ⟨b, o + 8, none⟩) := by
  cases l with
  | nil => simp only [List.drop_nil, St.Row]
  | cons s ss =>
    simp only [St.Row] at h
    obtain ⟨b', o', ha, _, hr⟩ := h
    simp only [Option.some.injEq, Addr.mk.injEq, and_true] at ha
    obtain ⟨rfl, rfl⟩ := ha
    exact hr
/-- The first statement of one function is left out. -/
theorem cut_store {W : World} {l : List Fn} {g j n o' c' : Nat} (h : PrgAt W l g) (hj : j < l.length) {pp : Option Addr} {b o cp cb : Nat} (h0 : W.cell? ⟨g, j * 5, none⟩ = some (.string ⟨l[j].name.toArray⟩)) (h1 : W.cell? ⟨g, j * 5 + 1, none⟩ = some (.slice pp l[j].params.length cp)) (h2 : W.cell? ⟨g, j * 5 + 2, none⟩ = some (.int .i64 l[j].result))
    (h3 : W.cell? ⟨g, j * 5 + 3, none⟩ = some (.slice (some ⟨b, o, none⟩) l[j].body.length cb)) (h4 : W.cell? ⟨g, j * 5 + 4, none⟩ = some (.int .i64 l[j].count)) (hfw : FnWf l[j] cb) (hps : Pms (av [g] W) l[j].params pp cp) (hr : St.Row (av [g] W) (l[j].body.drop 1) (some ⟨b, o', none⟩)) (hn : n = (l[j].body.drop 1).length) (hc1 : n ≤ c') (hc2 : c' ≤ maxLen) :
    PrgAt (W.setCell ⟨g, j * 5 + 3, none⟩ (.slice (some ⟨b, o', none⟩) n c')) (l.set j { l[j] with body := l[j].body.drop 1 }) g := by
  subst hn
  refine h.store1 j hj _ 3 _ (by omega) [.string ⟨l[j].name.toArray⟩, .slice pp l[j].params.length cp, .int .i64 l[j].result, .slice (some ⟨b, o, none⟩) l[j].body.length cb, .int .i64 l[j].count] (fun i u hu => ?_) rfl ⟨pp, some ⟨b, o', none⟩, cp, c', rfl, ⟨hfw.s, hfw.r, hc1, hc2, hfw.c⟩, hps, hr⟩
  rcases i with _ | _ | _ | _ | _ | i
  · simp at hu; subst hu; exact h0
  · simp at hu; subst hu; exact h1
  · simp at hu; subst hu; exact h2
  · simp at hu; subst hu; exact h3
  · simp at hu; subst hu; exact h4
  · simp at hu
/-- The draft's program, in a row of its own. -/
def MadePost (w : World) (l : List Fn) (r : Ending) (w' : World) : Prop :=
  (∃ g c, r = .returned (.agg #[.slice (some ⟨g, 0, none⟩) l.length c]) ∧ l.length ≤ c ∧ c ≤ maxLen ∧ w.heap.size ≤ g ∧ Hid (PrgAt w' l g)) ∧ Below w.heap.size w w'
theorem made_prg (D : List Nat) (a : Option Addr) (cap : Nat) (w : World) (hd : U8s w D a cap) : Calls Tryz.prog 14 #[.slice a D.length cap] w (MadePost w (madeD D)) := by
  refine (made_any D a cap w hd).mono ?_
  rintro r w' ⟨⟨v, rfl, hown⟩, hb⟩
  refine ⟨?_, hb⟩
  rcases hown.form with ⟨_, h0⟩ | ⟨g, c, rfl, hg, _, h1, h2⟩
  · have := (madeD_ok D).1
    rw [h0] at this
    exact absurd this (by decide)
  · exact ⟨g, c, rfl, h1, h2, hg, hide (PrgAt.of hown)⟩
/-- The numbered program, read only. -/
def NbfPost (w : World) (l : List Fn) (r : Ending) (w' : World) : Prop :=
  (∃ (a : Option Addr) (c : Nat), r = .returned (.agg #[.slice a l.length c]) ∧ Hid (Fns w' l a c)) ∧ Below w.heap.size w w'
theorem number_fns (l m : List Fn) (hm : numberM l = m) (n : Nat) (hn : l.length = n) (a : Option Addr) (cap : Nat) (w : World) (hl : Fns w l a cap) (hT : Tab w) :
    Calls Tryz.prog 17 #[.agg #[.slice a n cap]] w (NbfPost w m) := by
  subst hm
  subst hn
  refine (number_any l a cap w hl hT).mono ?_
  rintro r w' ⟨⟨a, c, rfl, h⟩, hb⟩
  exact ⟨⟨a, c, rfl, hide h.fns⟩, hb⟩
theorem sameM_is (l m : List Fn) (q : Bool) (hq : sameM l m = q) (n k : Nat) (hn : l.length = n) (hk : m.length = k) (a a' : Option Addr) (cap cap' : Nat) (w : World) (hl : Fns w l a cap) (hm : Fns w m a' cap') (hT : Tab w) :
    Calls Tryz.prog 21 #[.agg #[.slice a n cap], .agg #[.slice a' k cap']] w fun r w' => r = .returned (.bool q) ∧ Below w.heap.size w w' := by
  subst hq
  subst hn
  subst hk
  exact same_any l m a a' cap cap' w hl hm hT
theorem sameF_is (f g : Fn) (q : Bool) (hq : eqF f g = q) (v u : Value) (w : World) (hf : Fn.Val w f v) (hg : Fn.Val w g u) (hT : Tab w) : Calls Tryz.prog 23 #[v, u] w fun r w' => r = .returned (.bool q) ∧ Below w.heap.size w w' := by
  subst hq
  exact sameFunc_any f g v u w hf hg hT
end Go.Proofs.YthpmecbekpmijaaGreatDoor
/- ShapeSame returns true for every input, where the table of blanks is laid: the walk. -/
namespace Go.Proofs.YthpmecbekpmijaaGreatDoor
open Go Go.RowKit
set_option linter.unusedSimpArgs false
set_option linter.unusedVariables false
set_option linter.unnecessarySimpa false
set_option maxRecDepth 20000 in
set_option maxHeartbeats 8000000 in
theorem ShapeSame_any (D1 D2 D3 : List Nat) (a1 a2 a3 : Option Addr) (c1 c2 c3 : Nat) (which : Nat) (w : World) (hd1 : U8s w D1 a1 c1) (hd2 : U8s w D2 a2 c2) (hd3 : U8s w D3 a3 c3) (hwh : which < 256) (hT : Tab w) :
    Calls Tryz.prog 6 #[.slice a1 D1.length c1, .slice a2 D2.length c2, .slice a3 D3.length c3, .int .u8 which] w fun r w' => r = .returned (.bool true) ∧ Below w.heap.size w w' := by
  have HM1 := hide fun (W : World) (hW : Below w.heap.size w W) => made_prg D1 a1 c1 W (hd1.has (has_below hW))
  have HM2 := hide fun (W : World) (hW : Below w.heap.size w W) => made_prg D2 a2 c2 W (hd2.has (has_below hW))
  have HM3 := hide fun (W : World) (hW : Below w.heap.size w W) => made_prg D3 a3 c3 W (hd3.has (has_below hW))
  have HT := hide hT
  have HK1 := hide (made_check D1)
  have HK2 := hide (made_check D2)
  have hl3 := (madeD_ok D1).2.1
  have hl1 := (madeD_ok D1).1
  have hnn : numberM (madeD D1) = madeD D1 := number_id (made_check D1)
  have HNN := hide hnn
  clear hd1 hd2 hd3 hT hnn
  generalize madeD D1 = l at *
  generalize madeD D2 = m at *
  generalize madeD D3 = n at *
  go_enter Tryz.func6, Tryz.ntmps6
  go_wp2_with fail
  (with_reducible refine (HM1.out _ (bl w)).mono ?_)
  rintro r w1 ⟨⟨g1, k1, rfl, p1, p2, p3, hp⟩, hb1⟩
  go_wp2_with fail
  (with_reducible refine (HM2.out _ hb1).mono ?_)
  rintro r w2 ⟨⟨g2, k2, rfl, q1, q2, q3, hq⟩, hb2⟩
  go_wp2_with fail
  (with_reducible refine (HM3.out _ (hb1.tr hb2)).mono ?_)
  rintro r w3 ⟨⟨g3, k3, rfl, r1, r2, r3, hr⟩, hb3⟩
  have HG1 := hide ((hp.out.below hb2).below hb3)
  have HG2 := hide (hq.out.below hb3)
  have HG3 := hide hr.out
  have HB3 := hide ((hb1.tr hb2).tr hb3)
  have HL1 := hide (⟨p1, p2⟩ : _ ∧ _)
  have HGE := hide p3
  have HNE : Hid (g1 ≠ w3.heap.size) := hide (by have h1 := ((hp.out.below hb2).below hb3).lt; omega)
  have HL2 := hide (⟨q1, q2⟩ : _ ∧ _)
  have HL3 := hide (⟨r1, r2⟩ : _ ∧ _)
  have HBA : Hid (Below w3.heap.size w3 (((w3.alloc (.cells #[.slice (some ⟨g1, 0, none⟩) l.length k1] 38)).alloc (.cells #[.slice (some ⟨g2, 0, none⟩) m.length k2] 38)).alloc (.cells #[.slice (some ⟨g3, 0, none⟩) n.length k3] 38))) := hide ((((bl w3).al _).al _).al _)
  have HFP : Hid (∀ W, Below w3.heap.size w3 W → Fns W l (some ⟨g1, 0, none⟩) k1) := hide fun W hW => (HG1.out.below hW).fns HL1.out.1 HL1.out.2
  have HFQ : Hid (∀ W, Below w3.heap.size w3 W → Fns W m (some ⟨g2, 0, none⟩) k2) := hide fun W hW => (HG2.out.below hW).fns HL2.out.1 HL2.out.2
  have HFR : Hid (∀ W, Below w3.heap.size w3 W → Fns W n (some ⟨g3, 0, none⟩) k3) := hide fun W hW => (HG3.out.below hW).fns HL3.out.1 HL3.out.2
  have HP : Hid (((((w3.alloc (.cells #[.slice (some ⟨g1, 0, none⟩) l.length k1] 38)).alloc (.cells #[.slice (some ⟨g2, 0, none⟩) m.length k2] 38)).alloc (.cells #[.slice (some ⟨g3, 0, none⟩) n.length k3] 38))).heap[w3.heap.size]? = some (.cells #[.slice (some ⟨g1, 0, none⟩) l.length k1] 38 (0, 0))) := hide ((Below.heap_alloc _ _ _ (by simp; omega)).trans ((Below.heap_alloc _ _ _ (by simp)).trans (heap_alloc_new w3 _)))
  have HQ : Hid (((((w3.alloc (.cells #[.slice (some ⟨g1, 0, none⟩) l.length k1] 38)).alloc (.cells #[.slice (some ⟨g2, 0, none⟩) m.length k2] 38)).alloc (.cells #[.slice (some ⟨g3, 0, none⟩) n.length k3] 38))).heap[w3.heap.size + 1]? = some (.cells #[.slice (some ⟨g2, 0, none⟩) m.length k2] 38 (0, 0))) := hide ((Below.heap_alloc _ _ _ (by simp)).trans (heap_newS (by simp)))
  have HR : Hid (((((w3.alloc (.cells #[.slice (some ⟨g1, 0, none⟩) l.length k1] 38)).alloc (.cells #[.slice (some ⟨g2, 0, none⟩) m.length k2] 38)).alloc (.cells #[.slice (some ⟨g3, 0, none⟩) n.length k3] 38))).heap[w3.heap.size + 1 + 1]? = some (.cells #[.slice (some ⟨g3, 0, none⟩) n.length k3] 38 (0, 0))) := hide (heap_newS (by simp))
  clear hb1 hb2 hb3 p1 p2 p3 q1 q2 q3 r1 r2 r3 hp hq hr
  obtain ⟨b1, hb1⟩ : ∃ b, sameM l m = b := ⟨_, rfl⟩
  obtain ⟨b2, hb2⟩ : ∃ b, sameM m n = b := ⟨_, rfl⟩
  obtain ⟨b3, hb3⟩ : ∃ b, sameM l n = b := ⟨_, rfl⟩
  have HS0 : ∀ W, Below ((((w3.alloc (.cells #[.slice (some ⟨g1, 0, none⟩) l.length k1] 38)).alloc (.cells #[.slice (some ⟨g2, 0, none⟩) m.length k2] 38)).alloc (.cells #[.slice (some ⟨g3, 0, none⟩) n.length k3] 38))).heap.size (((w3.alloc (.cells #[.slice (some ⟨g1, 0, none⟩) l.length k1] 38)).alloc (.cells #[.slice (some ⟨g2, 0, none⟩) m.length k2] 38)).alloc (.cells #[.slice (some ⟨g3, 0, none⟩) n.length k3] 38)) W → Below w3.heap.size w3 W := fun W hW => HBA.out.tr hW
  have HS1 := hide fun (W : World) (hW : Below ((((w3.alloc (.cells #[.slice (some ⟨g1, 0, none⟩) l.length k1] 38)).alloc (.cells #[.slice (some ⟨g2, 0, none⟩) m.length k2] 38)).alloc (.cells #[.slice (some ⟨g3, 0, none⟩) n.length k3] 38))).heap.size (((w3.alloc (.cells #[.slice (some ⟨g1, 0, none⟩) l.length k1] 38)).alloc (.cells #[.slice (some ⟨g2, 0, none⟩) m.length k2] 38)).alloc (.cells #[.slice (some ⟨g3, 0, none⟩) n.length k3] 38)) W) => sameM_is l l true (sameM_refl HK1.out) _ _ rfl rfl _ _ k1 k1 W (HFP.out W (HS0 W hW)) (HFP.out W (HS0 W hW)) (HT.out.below (HB3.out.tr (HS0 W hW)))
  have HS2 := hide fun (W : World) (hW : Below ((((w3.alloc (.cells #[.slice (some ⟨g1, 0, none⟩) l.length k1] 38)).alloc (.cells #[.slice (some ⟨g2, 0, none⟩) m.length k2] 38)).alloc (.cells #[.slice (some ⟨g3, 0, none⟩) n.length k3] 38))).heap.size (((w3.alloc (.cells #[.slice (some ⟨g1, 0, none⟩) l.length k1] 38)).alloc (.cells #[.slice (some ⟨g2, 0, none⟩) m.length k2] 38)).alloc (.cells #[.slice (some ⟨g3, 0, none⟩) n.length k3] 38)) W) => sameM_is l m b1 hb1 _ _ rfl rfl _ _ k1 k2 W (HFP.out W (HS0 W hW)) (HFQ.out W (HS0 W hW)) (HT.out.below (HB3.out.tr (HS0 W hW)))
  have HS3 := hide fun (W : World) (hW : Below ((((w3.alloc (.cells #[.slice (some ⟨g1, 0, none⟩) l.length k1] 38)).alloc (.cells #[.slice (some ⟨g2, 0, none⟩) m.length k2] 38)).alloc (.cells #[.slice (some ⟨g3, 0, none⟩) n.length k3] 38))).heap.size (((w3.alloc (.cells #[.slice (some ⟨g1, 0, none⟩) l.length k1] 38)).alloc (.cells #[.slice (some ⟨g2, 0, none⟩) m.length k2] 38)).alloc (.cells #[.slice (some ⟨g3, 0, none⟩) n.length k3] 38)) W) => sameM_is m l b1 ((sameM_symm m l).trans hb1) _ _ rfl rfl _ _ k2 k1 W (HFQ.out W (HS0 W hW)) (HFP.out W (HS0 W hW)) (HT.out.below (HB3.out.tr (HS0 W hW)))
  have HS4 := hide fun (W : World) (hW : Below ((((w3.alloc (.cells #[.slice (some ⟨g1, 0, none⟩) l.length k1] 38)).alloc (.cells #[.slice (some ⟨g2, 0, none⟩) m.length k2] 38)).alloc (.cells #[.slice (some ⟨g3, 0, none⟩) n.length k3] 38))).heap.size (((w3.alloc (.cells #[.slice (some ⟨g1, 0, none⟩) l.length k1] 38)).alloc (.cells #[.slice (some ⟨g2, 0, none⟩) m.length k2] 38)).alloc (.cells #[.slice (some ⟨g3, 0, none⟩) n.length k3] 38)) W) => sameM_is m n b2 hb2 _ _ rfl rfl _ _ k2 k3 W (HFQ.out W (HS0 W hW)) (HFR.out W (HS0 W hW)) (HT.out.below (HB3.out.tr (HS0 W hW)))
  have HS5 := hide fun (W : World) (hW : Below ((((w3.alloc (.cells #[.slice (some ⟨g1, 0, none⟩) l.length k1] 38)).alloc (.cells #[.slice (some ⟨g2, 0, none⟩) m.length k2] 38)).alloc (.cells #[.slice (some ⟨g3, 0, none⟩) n.length k3] 38))).heap.size (((w3.alloc (.cells #[.slice (some ⟨g1, 0, none⟩) l.length k1] 38)).alloc (.cells #[.slice (some ⟨g2, 0, none⟩) m.length k2] 38)).alloc (.cells #[.slice (some ⟨g3, 0, none⟩) n.length k3] 38)) W) => sameM_is l n b3 hb3 _ _ rfl rfl _ _ k1 k3 W (HFP.out W (HS0 W hW)) (HFR.out W (HS0 W hW)) (HT.out.below (HB3.out.tr (HS0 W hW)))
  have HTR : Hid (b1 = true → b2 = true → b3 = true) := hide fun h1 h2 => by rw [← hb3]; exact sameM_trans (hb1.trans h1) (hb2.trans h2)
  have lp := (Array.getElem?_eq_some_iff.1 HP.out).1
  have lq := (Array.getElem?_eq_some_iff.1 HQ.out).1
  have lr := (Array.getElem?_eq_some_iff.1 HR.out).1
  clear hb1 hb2 hb3 HS0
  cases b1
  · have hB : Below ((((w3.alloc (.cells #[.slice (some ⟨g1, 0, none⟩) l.length k1] 38)).alloc (.cells #[.slice (some ⟨g2, 0, none⟩) m.length k2] 38)).alloc (.cells #[.slice (some ⟨g3, 0, none⟩) n.length k3] 38))).heap.size (((w3.alloc (.cells #[.slice (some ⟨g1, 0, none⟩) l.length k1] 38)).alloc (.cells #[.slice (some ⟨g2, 0, none⟩) m.length k2] 38)).alloc (.cells #[.slice (some ⟨g3, 0, none⟩) n.length k3] 38)) ((((w3.alloc (.cells #[.slice (some ⟨g1, 0, none⟩) l.length k1] 38)).alloc (.cells #[.slice (some ⟨g2, 0, none⟩) m.length k2] 38)).alloc (.cells #[.slice (some ⟨g3, 0, none⟩) n.length k3] 38))).drew := (bl _).dr
    go_wp2_with fail
    refine wp_region_held_drew (S := (fun w' => w'.cell? ⟨w3.heap.size, 0, none⟩ = some (.slice (some ⟨g1, 0, none⟩) l.length k1) ∧ w'.cell? ⟨w3.heap.size + 1, 0, none⟩ = some (.slice (some ⟨g2, 0, none⟩) m.length k2) ∧ w'.cell? ⟨w3.heap.size + 1 + 1, 0, none⟩ = some (.slice (some ⟨g3, 0, none⟩) n.length k3))) (by kernel_rfl) ?_ (fun hHeld => ?_)
    · ((try dsimp only); first | done | exact ⟨cell_at (j := 0) ((hB.block _ lp).trans HP.out) rfl, cell_at (j := 0) ((hB.block _ lq).trans HQ.out) rfl, cell_at (j := 0) ((hB.block _ lr).trans HR.out) rfl⟩)
    refine wpAnyH_take (i := 0) (v := ?_) (by simp only [List.getElem?_toArray, List.getElem?_cons_succ, List.getElem?_cons_zero]; rfl) (by kernel_rfl) (by kernel_rfl) (by kernel_rfl) (by exact fun _ _ _ h => h) (Or.inl ⟨by rfl, ?_⟩) (by assumption) ?_
    rotate_left 1
    · ((intro w hSw; (try dsimp only at hSw); go_simp) <;> with_reducible rfl)
    try simp only [Act.put, List.setIfInBounds_toArray, List.set_cons_zero, List.set_cons_succ]
    refine wpAnyH_take (i := 1) (v := ?_) (by simp only [List.getElem?_toArray, List.getElem?_cons_succ, List.getElem?_cons_zero]; rfl) (by kernel_rfl) (by kernel_rfl) (by kernel_rfl) (by exact fun _ _ _ h => h) (Or.inl ⟨by rfl, ?_⟩) (by assumption) ?_
    rotate_left 1
    · ((intro w hSw; (try dsimp only at hSw); go_simp) <;> with_reducible rfl)
    try simp only [Act.put, List.setIfInBounds_toArray, List.set_cons_zero, List.set_cons_succ]
    refine wpAnyH_ready (rs := [2]) (by kernel_rfl) (by simp) ?_
    refine AllReadyH.cons rfl (fun K hK => ?_) AllReadyH.nil
    go_simp
    (go_at_call 21; (with_reducible refine (HS1.out _ hB).mono ?_); rintro r w5 ⟨rfl, hb⟩; have hB := hB.tr hb; clear hb)
    try go_wp2_with fail
    refine hK.out _ _ ?_ (fun hHeld => ?_)
    · ((try dsimp only); first | done | exact ⟨cell_at (j := 0) ((hB.block _ lp).trans HP.out) rfl, cell_at (j := 0) ((hB.block _ lq).trans HQ.out) rfl, cell_at (j := 0) ((hB.block _ lr).trans HR.out) rfl⟩)
    clear hK K
    try simp only [Act.put, List.setIfInBounds_toArray, List.set_cons_zero, List.set_cons_succ]
    refine wpAnyH_take (i := 3) (v := ?_) (by simp only [List.getElem?_toArray, List.getElem?_cons_succ, List.getElem?_cons_zero]; rfl) (by kernel_rfl) (by kernel_rfl) (by kernel_rfl) (by exact fun _ _ _ h => h) (Or.inl ⟨by rfl, ?_⟩) (by assumption) ?_
    rotate_left 1
    · ((intro w hSw; (try dsimp only at hSw); go_simp) <;> with_reducible rfl)
    try simp only [Act.put, List.setIfInBounds_toArray, List.set_cons_zero, List.set_cons_succ]
    refine wpAnyH_take (i := 4) (v := ?_) (by simp only [List.getElem?_toArray, List.getElem?_cons_succ, List.getElem?_cons_zero]; rfl) (by kernel_rfl) (by kernel_rfl) (by kernel_rfl) (by exact fun _ _ _ h => h) (Or.inl ⟨by rfl, ?_⟩) (by assumption) ?_
    rotate_left 1
    · ((intro w hSw; (try dsimp only at hSw); go_simp) <;> with_reducible rfl)
    try simp only [Act.put, List.setIfInBounds_toArray, List.set_cons_zero, List.set_cons_succ]
    refine wpAnyH_take (i := 5) (v := ?_) (by simp only [List.getElem?_toArray, List.getElem?_cons_succ, List.getElem?_cons_zero]; rfl) (by kernel_rfl) (by kernel_rfl) (by kernel_rfl) (by exact fun _ _ _ h => h) (Or.inl ⟨by rfl, ?_⟩) (by assumption) ?_
    rotate_left 1
    · ((intro w hSw; (try dsimp only at hSw); go_simp) <;> with_reducible rfl)
    try simp only [Act.put, List.setIfInBounds_toArray, List.set_cons_zero, List.set_cons_succ]
    refine wpAnyH_take (i := 6) (v := ?_) (by simp only [List.getElem?_toArray, List.getElem?_cons_succ, List.getElem?_cons_zero]; rfl) (by kernel_rfl) (by kernel_rfl) (by kernel_rfl) (by exact fun _ _ _ h => h) (Or.inl ⟨by rfl, ?_⟩) (by assumption) ?_
    rotate_left 1
    · ((intro w hSw; (try dsimp only at hSw); go_simp) <;> with_reducible rfl)
    try simp only [Act.put, List.setIfInBounds_toArray, List.set_cons_zero, List.set_cons_succ]
    refine wpAnyH_take (i := 8) (v := ?_) (by simp only [List.getElem?_toArray, List.getElem?_cons_succ, List.getElem?_cons_zero]; rfl) (by kernel_rfl) (by kernel_rfl) (by kernel_rfl) (by exact fun _ _ _ h => h) (Or.inl ⟨by rfl, ?_⟩) (by assumption) ?_
    rotate_left 1
    · ((intro w hSw; (try dsimp only at hSw); go_simp) <;> with_reducible rfl)
    try simp only [Act.put, List.setIfInBounds_toArray, List.set_cons_zero, List.set_cons_succ]
    refine wpAnyH_take (i := 9) (v := ?_) (by simp only [List.getElem?_toArray, List.getElem?_cons_succ, List.getElem?_cons_zero]; rfl) (by kernel_rfl) (by kernel_rfl) (by kernel_rfl) (by exact fun _ _ _ h => h) (Or.inl ⟨by rfl, ?_⟩) (by assumption) ?_
    rotate_left 1
    · ((intro w hSw; (try dsimp only at hSw); go_simp) <;> with_reducible rfl)
    try simp only [Act.put, List.setIfInBounds_toArray, List.set_cons_zero, List.set_cons_succ]
    refine wpAnyH_ready (rs := [7]) (by kernel_rfl) (by simp) ?_
    refine AllReadyH.cons rfl (fun K hK => ?_) AllReadyH.nil
    go_simp
    (go_at_call 21; (with_reducible refine (HS2.out _ hB).mono ?_); rintro r w5 ⟨rfl, hb⟩; have hB := hB.tr hb; clear hb)
    try go_wp2_with fail
    refine hK.out _ _ ?_ (fun hHeld => ?_)
    · ((try dsimp only); first | done | exact ⟨cell_at (j := 0) ((hB.block _ lp).trans HP.out) rfl, cell_at (j := 0) ((hB.block _ lq).trans HQ.out) rfl, cell_at (j := 0) ((hB.block _ lr).trans HR.out) rfl⟩)
    clear hK K
    try simp only [Act.put, List.setIfInBounds_toArray, List.set_cons_zero, List.set_cons_succ]
    refine wpAnyH_ready (rs := [10]) (by kernel_rfl) (by simp) ?_
    refine AllReadyH.cons rfl (fun K hK => ?_) AllReadyH.nil
    go_simp
    (go_at_call 21; (with_reducible refine (HS3.out _ hB).mono ?_); rintro r w5 ⟨rfl, hb⟩; have hB := hB.tr hb; clear hb)
    try go_wp2_with fail
    refine hK.out _ _ ?_ (fun hHeld => ?_)
    · ((try dsimp only); first | done | exact ⟨cell_at (j := 0) ((hB.block _ lp).trans HP.out) rfl, cell_at (j := 0) ((hB.block _ lq).trans HQ.out) rfl, cell_at (j := 0) ((hB.block _ lr).trans HR.out) rfl⟩)
    clear hK K
    try simp only [Act.put, List.setIfInBounds_toArray, List.set_cons_zero, List.set_cons_succ]
    refine wpAnyH_take (i := 11) (v := ?_) (by simp only [List.getElem?_toArray, List.getElem?_cons_succ, List.getElem?_cons_zero]; rfl) (by kernel_rfl) (by kernel_rfl) (by kernel_rfl) (by exact fun _ _ _ h => h) (Or.inl ⟨by rfl, ?_⟩) (by assumption) ?_
    rotate_left 1
    · ((intro w hSw; (try dsimp only at hSw); go_simp) <;> with_reducible rfl)
    try simp only [Act.put, List.setIfInBounds_toArray, List.set_cons_zero, List.set_cons_succ]
    refine wpAnyH_take (i := 12) (v := ?_) (by simp only [List.getElem?_toArray, List.getElem?_cons_succ, List.getElem?_cons_zero]; rfl) (by kernel_rfl) (by kernel_rfl) (by kernel_rfl) (by exact fun _ _ _ h => h) (Or.inl ⟨by rfl, ?_⟩) (by assumption) ?_
    rotate_left 1
    · ((intro w hSw; (try dsimp only at hSw); go_simp) <;> with_reducible rfl)
    try simp only [Act.put, List.setIfInBounds_toArray, List.set_cons_zero, List.set_cons_succ]
    refine wpAnyH_take (i := 13) (v := ?_) (by simp only [List.getElem?_toArray, List.getElem?_cons_succ, List.getElem?_cons_zero]; rfl) (by kernel_rfl) (by kernel_rfl) (by kernel_rfl) (by exact fun _ _ _ h => h) (Or.inl ⟨by rfl, ?_⟩) (by assumption) ?_
    rotate_left 1
    · ((intro w hSw; (try dsimp only at hSw); go_simp) <;> with_reducible rfl)
    try simp only [Act.put, List.setIfInBounds_toArray, List.set_cons_zero, List.set_cons_succ]
    refine wpAnyH_take (i := 14) (v := ?_) (by simp only [List.getElem?_toArray, List.getElem?_cons_succ, List.getElem?_cons_zero]; rfl) (by kernel_rfl) (by kernel_rfl) (by kernel_rfl) (by exact fun _ _ _ h => h) (Or.inl ⟨by rfl, ?_⟩) (by assumption) ?_
    rotate_left 1
    · ((intro w hSw; (try dsimp only at hSw); go_simp) <;> with_reducible rfl)
    try simp only [Act.put, List.setIfInBounds_toArray, List.set_cons_zero, List.set_cons_succ]
    refine wpAnyH_take (i := 15) (v := ?_) (by simp only [List.getElem?_toArray, List.getElem?_cons_succ, List.getElem?_cons_zero]; rfl) (by kernel_rfl) (by kernel_rfl) (by kernel_rfl) (by exact fun _ _ _ h => h) (Or.inl ⟨by rfl, ?_⟩) (by assumption) ?_
    rotate_left 1
    · ((intro w hSw; (try dsimp only at hSw); go_simp) <;> with_reducible rfl)
    try simp only [Act.put, List.setIfInBounds_toArray, List.set_cons_zero, List.set_cons_succ]
    refine wpAnyH_ready (rs := [16]) (by kernel_rfl) (by simp) ?_
    refine AllReadyH.cons rfl (fun K hK => ?_) AllReadyH.nil
    go_simp
    (go_at_call 21; (with_reducible refine (HS2.out _ hB).mono ?_); rintro r w5 ⟨rfl, hb⟩; have hB := hB.tr hb; clear hb)
    try go_wp2_with fail
    refine hK.out _ _ ?_ (fun hHeld => ?_)
    · ((try dsimp only); first | done | exact ⟨cell_at (j := 0) ((hB.block _ lp).trans HP.out) rfl, cell_at (j := 0) ((hB.block _ lq).trans HQ.out) rfl, cell_at (j := 0) ((hB.block _ lr).trans HR.out) rfl⟩)
    clear hK K
    try simp only [Act.put, List.setIfInBounds_toArray, List.set_cons_zero, List.set_cons_succ]
    refine wpAnyH_take (i := 17) (v := ?_) (by simp only [List.getElem?_toArray, List.getElem?_cons_succ, List.getElem?_cons_zero]; rfl) (by kernel_rfl) (by kernel_rfl) (by kernel_rfl) (by exact fun _ _ _ h => h) (Or.inl ⟨by rfl, ?_⟩) (by assumption) ?_
    rotate_left 1
    · ((intro w hSw; (try dsimp only at hSw); go_simp) <;> with_reducible rfl)
    try simp only [Act.put, List.setIfInBounds_toArray, List.set_cons_zero, List.set_cons_succ]
    refine wpAnyH_take (i := 18) (v := undef) (by simp only [List.getElem?_toArray, List.getElem?_cons_succ, List.getElem?_cons_zero]; rfl) (by kernel_rfl) (by kernel_rfl) (by kernel_rfl) (by exact fun _ _ _ h => h) (Or.inr ⟨by rfl, rfl⟩) (by assumption) ?_
    try simp only [Act.put, List.setIfInBounds_toArray, List.set_cons_zero, List.set_cons_succ]
    refine wpAnyH_take (i := 19) (v := undef) (by simp only [List.getElem?_toArray, List.getElem?_cons_succ, List.getElem?_cons_zero]; rfl) (by kernel_rfl) (by kernel_rfl) (by kernel_rfl) (by exact fun _ _ _ h => h) (Or.inr ⟨by rfl, rfl⟩) (by assumption) ?_
    try simp only [Act.put, List.setIfInBounds_toArray, List.set_cons_zero, List.set_cons_succ]
    refine wpAnyH_take (i := 20) (v := undef) (by simp only [List.getElem?_toArray, List.getElem?_cons_succ, List.getElem?_cons_zero]; rfl) (by kernel_rfl) (by kernel_rfl) (by kernel_rfl) (by exact fun _ _ _ h => h) (Or.inr ⟨by rfl, rfl⟩) (by assumption) ?_
    try simp only [Act.put, List.setIfInBounds_toArray, List.set_cons_zero, List.set_cons_succ]
    refine wpAnyH_take (i := 21) (v := ?_) (by simp only [List.getElem?_toArray, List.getElem?_cons_succ, List.getElem?_cons_zero]; rfl) (by kernel_rfl) (by kernel_rfl) (by kernel_rfl) (by exact fun _ _ _ h => h) (Or.inl ⟨by rfl, ?_⟩) (by assumption) ?_
    rotate_left 1
    · ((intro w hSw; (try dsimp only at hSw); go_simp) <;> with_reducible rfl)
    try simp only [Act.put, List.setIfInBounds_toArray, List.set_cons_zero, List.set_cons_succ]
    refine wpAnyH_take (i := 22) (v := ?_) (by simp only [List.getElem?_toArray, List.getElem?_cons_succ, List.getElem?_cons_zero]; rfl) (by kernel_rfl) (by kernel_rfl) (by kernel_rfl) (by exact fun _ _ _ h => h) (Or.inl ⟨by rfl, ?_⟩) (by assumption) ?_
    rotate_left 1
    · ((intro w hSw; (try dsimp only at hSw); go_simp) <;> with_reducible rfl)
    try simp only [Act.put, List.setIfInBounds_toArray, List.set_cons_zero, List.set_cons_succ]
    refine wpAnyH_take (i := 23) (v := undef) (by simp only [List.getElem?_toArray, List.getElem?_cons_succ, List.getElem?_cons_zero]; rfl) (by kernel_rfl) (by kernel_rfl) (by kernel_rfl) (by exact fun _ _ _ h => h) (Or.inr ⟨by rfl, rfl⟩) (by assumption) ?_
    try simp only [Act.put, List.setIfInBounds_toArray, List.set_cons_zero, List.set_cons_succ]
    refine wpAnyH_take (i := 24) (v := undef) (by simp only [List.getElem?_toArray, List.getElem?_cons_succ, List.getElem?_cons_zero]; rfl) (by kernel_rfl) (by kernel_rfl) (by kernel_rfl) (by exact fun _ _ _ h => h) (Or.inr ⟨by rfl, rfl⟩) (by assumption) ?_
    try simp only [Act.put, List.setIfInBounds_toArray, List.set_cons_zero, List.set_cons_succ]
    refine wpAnyH_take (i := 25) (v := undef) (by simp only [List.getElem?_toArray, List.getElem?_cons_succ, List.getElem?_cons_zero]; rfl) (by kernel_rfl) (by kernel_rfl) (by kernel_rfl) (by exact fun _ _ _ h => h) (Or.inr ⟨by rfl, rfl⟩) (by assumption) ?_
    try simp only [Act.put, List.setIfInBounds_toArray, List.set_cons_zero, List.set_cons_succ]
    refine wpAnyH_take (i := 26) (v := undef) (by simp only [List.getElem?_toArray, List.getElem?_cons_succ, List.getElem?_cons_zero]; rfl) (by kernel_rfl) (by kernel_rfl) (by kernel_rfl) (by exact fun _ _ _ h => h) (Or.inr ⟨by rfl, rfl⟩) (by assumption) ?_
    try simp only [Act.put, List.setIfInBounds_toArray, List.set_cons_zero, List.set_cons_succ]
    refine wpAnyH_take (i := 27) (v := ?_) (by simp only [List.getElem?_toArray, List.getElem?_cons_succ, List.getElem?_cons_zero]; rfl) (by kernel_rfl) (by kernel_rfl) (by kernel_rfl) (by exact fun _ _ _ h => h) (Or.inl ⟨by rfl, ?_⟩) (by assumption) ?_
    rotate_left 1
    · ((intro w hSw; (try dsimp only at hSw); go_simp) <;> with_reducible rfl)
    try simp only [Act.put, List.setIfInBounds_toArray, List.set_cons_zero, List.set_cons_succ]
    refine wpAnyH_take (i := 28) (v := ?_) (by simp only [List.getElem?_toArray, List.getElem?_cons_succ, List.getElem?_cons_zero]; rfl) (by kernel_rfl) (by kernel_rfl) (by kernel_rfl) (by exact fun _ _ _ h => h) (Or.inl ⟨by rfl, ?_⟩) (by assumption) ?_
    rotate_left 1
    · ((intro w hSw; (try dsimp only at hSw); go_simp) <;> with_reducible rfl)
    try simp only [Act.put, List.setIfInBounds_toArray, List.set_cons_zero, List.set_cons_succ]
    refine wpAnyH_done (by kernel_rfl) ?_ _
    have HBW := hide (HBA.out.tr hB)
    have HPW := hide ((hB.block _ lp).trans HP.out)
    have HG := hide (HG1.out.below HBW.out)
    have p0 := cell_at (j := 0) HPW.out rfl
    have lp := (Array.getElem?_eq_some_iff.1 HPW.out).1
    clear hB HS1 HS2 HS3 HS4 HS5 HQ HR lq lr HBA HFP HFQ HFR HG2 HG3 HL2 HL3 HTR HM2 HM3 HK2 HG1
    obtain ⟨j, hj⟩ : ∃ j, which % l.length = j := ⟨_, rfl⟩
    have hjl : j < l.length := by rw [← hj]; exact Nat.mod_lt _ hl1
    have hjt : ((which : Nat) : Int).tmod ((l.length : Nat) : Int) = (j : Int) := by rw [← hj]; exact (Int.ofNat_tmod _ _).symm
    have hlz : (((l.length : Nat) : Int) == 0) = false := by rw [beq_eq_false_iff_ne]; omega
    have hj1 : (0 : Int) ≤ (j : Int) := by omega
    have hj2 : (j : Int) < (l.length : Int) := by omega
    have HJ := hide hj
    clear hj
    go_wp2_with fail
    go_quiet (fail)
    have hB6 := below_dq (bl w5) nq
    have HG6 := hide (HG.out.below hB6)
    have HBW6 := hide (HBW.out.tr hB6)
    have HPW6 := hide ((hB6.block _ lp).trans HPW.out)
    clear p0 lp HG HBW HPW
    generalize w5.drewN nq = w6 at *
    clear hB6 hjt hlz hj1 hj2
    obtain ⟨pp, pb, cp, cb, c0, c1, c2, c3, c4, hfw, hps, hrow⟩ := HG6.out.cells j hjl
    have hgl := HG6.out.lt
    by_cases hb0 : l[j].body.length = 0
    · have hbt : (((l[j].body.length : Nat) : Int) == 0) = true := by rw [hb0]; rfl
      clear hfw hps hrow hb0
      go_wp2_with fail
      refine (works_any _ (HT.out.below (HB3.out.tr HBW6.out))).mono ?_
      rintro r w7 ⟨rfl, hb7⟩
      have HF := hide ((HB3.out.tr HBW6.out).tr hb7)
      clear hb7
      go_wp2_with fail
      go_ret
      exact ⟨rfl, HF.out⟩
    · have hbt : (((l[j].body.length : Nat) : Int) == 0) = false := by rw [beq_eq_false_iff_ne]; omega
      obtain ⟨b, o, rfl⟩ := hrow.addr (by omega)
      have hlb := hfw.lb
      have hcbm := hfw.cb
      unfold maxLen at hcbm
      have hlpos : 1 ≤ l[j].body.length := by omega
      have f3 := HG6.out.free (j * 5 + 3)
      have HFW := hide hfw
      have HPS := hide hps
      have HROW := hide hrow
      clear hfw hps hrow hb0
      by_cases hcb : cb = 1
      · subst hcb
        have hl1 : l[j].body.length = 1 := by omega
        have hd0 : l[j].body.drop 1 = [] := List.drop_of_length_le (by omega)
        have HPG := hide (cut_store (o' := o) (c' := 0) HG6.out hjl c0 c1 c2 c3 c4 HFW.out HPS.out (by rw [hd0]; simp only [St.Row]) (n := 0) (by rw [hd0]; rfl) (Nat.le_refl _) (Nat.zero_le _))
        clear hl1 hd0
        go_wp2_with fail
        have hK : Kept [g1] w6 (w6.setCell ⟨g1, j * 5 + 3, none⟩ (.slice (some ⟨b, o, none⟩) 0 0)) := (Kept.refl [g1] w6).set (.inl (by simp)) _ _
        have hz6 : (w6.setCell ⟨g1, j * 5 + 3, none⟩ (.slice (some ⟨b, o, none⟩) 0 0)).heap.size = w6.heap.size := by simp [World.setCell]
        have HPG := hide (HPG.out.below ((bl _).al (.cells #[.string ⟨l[j].name.toArray⟩, .slice pp l[j].params.length cp, .int .i64 l[j].result, .slice (some ⟨b, o, none⟩) l[j].body.length 1, .int .i64 l[j].count] 42)))
        have HOL : Hid (((w6.setCell ⟨g1, j * 5 + 3, none⟩ (.slice (some ⟨b, o, none⟩) 0 0)).alloc (.cells #[.string ⟨l[j].name.toArray⟩, .slice pp l[j].params.length cp, .int .i64 l[j].result, .slice (some ⟨b, o, none⟩) l[j].body.length 1, .int .i64 l[j].count] 42)).heap[w6.heap.size]? = some (.cells #[.string ⟨l[j].name.toArray⟩, .slice pp l[j].params.length cp, .int .i64 l[j].result, .slice (some ⟨b, o, none⟩) l[j].body.length 1, .int .i64 l[j].count] 42 (0, 0))) := hide (heap_newS hz6.symm)
        have hpl : w3.heap.size < w6.heap.size := (Array.getElem?_eq_some_iff.1 HPW6.out).1
        have HPP := hide ((Below.heap_alloc _ (.cells #[.string ⟨l[j].name.toArray⟩, .slice pp l[j].params.length cp, .int .i64 l[j].result, .slice (some ⟨b, o, none⟩) l[j].body.length 1, .int .i64 l[j].count] 42) _ (by rw [hz6]; exact hpl)).trans (hK.heap (by simp; exact fun e => HNE.out e.symm) HPW6.out))
        have HHS := hide ((has_kept hK).tr (has_av_below (l := [g1]) ((bl _).al (.cells #[.string ⟨l[j].name.toArray⟩, .slice pp l[j].params.length cp, .int .i64 l[j].result, .slice (some ⟨b, o, none⟩) l[j].body.length 1, .int .i64 l[j].count] 42))))
        have HBS := hide (((HB3.out.tr HBW6.out).setCell (p := ⟨g1, j * 5 + 3, none⟩) HGE.out (.slice (some ⟨b, o, none⟩) 0 0)).al (.cells #[.string ⟨l[j].name.toArray⟩, .slice pp l[j].params.length cp, .int .i64 l[j].result, .slice (some ⟨b, o, none⟩) l[j].body.length 1, .int .i64 l[j].count] 42))
        clear hK hz6 hpl HPW6 HG6 HBW6 c0 c1 c2 c3 c4 f3 hgl
        generalize (w6.setCell ⟨g1, j * 5 + 3, none⟩ (.slice (some ⟨b, o, none⟩) 0 0)).alloc (.cells #[.string ⟨l[j].name.toArray⟩, .slice pp l[j].params.length cp, .int .i64 l[j].result, .slice (some ⟨b, o, none⟩) l[j].body.length 1, .int .i64 l[j].count] 42) = WS at *
        generalize hcbo : 1 = cbo at HOL HFW
        clear hcbo
        obtain ⟨f', hf'⟩ : ∃ f' : Fn, f' = { l[j] with body := l[j].body.drop 1 } := ⟨_, rfl⟩
        rw [← hf'] at HPG
        have hset : (l.set j f').length = l.length := List.length_set ..
        have hgs : (l.set j f')[j]'(by rw [hset]; exact hjl) = f' := List.getElem_set_self ..
        have hcc := HPG.out.cells j (by rw [hset]; exact hjl)
        rw [hgs] at hcc
        obtain ⟨pp2, pb2, cp2, cb2, d0, d1, d2, d3, d4, hfw2, hps2, hrow2⟩ := hcc
        have HVF : Hid (Fn.Val WS f' (.agg #[.string ⟨f'.name.toArray⟩, .slice pp2 f'.params.length cp2, .int .i64 f'.result, .slice pb2 f'.body.length cb2, .int .i64 f'.count])) := hide ⟨pp2, pb2, cp2, cb2, rfl, hfw2, hps2.has has_av, hrow2.has has_av⟩
        have HVO : Hid (Fn.Val WS l[j] (.agg #[.string ⟨l[j].name.toArray⟩, .slice pp l[j].params.length cp, .int .i64 l[j].result, .slice (some ⟨b, o, none⟩) l[j].body.length cbo, .int .i64 l[j].count])) := hide ⟨pp, some ⟨b, o, none⟩, cp, cbo, rfl, HFW.out, (HPS.out.has HHS.out).has has_av, (HROW.out.has HHS.out).has has_av⟩
        have hbl : f'.body.length ≠ l[j].body.length := by rw [hf']; simp only [List.length_drop]; omega
        have HSF := hide fun (W : World) (hW : Below WS.heap.size WS W) => sameF_is l[j] f' false (eqF_body (Ne.symm hbl)) _ _ W (HVO.out.keep hW (Nat.le_refl _)) (HVF.out.keep hW (Nat.le_refl _)) (HT.out.below (HBS.out.tr hW))
        have HSC := hide (same_cut hjl hbl)
        have HNM := hide fun (W : World) (hW : Below WS.heap.size WS W) => number_fns (l.set j f') _ rfl l.length hset (some ⟨g1, 0, none⟩) k1 W ((HPG.out.below hW).fns (by rw [hset]; exact HL1.out.1) HL1.out.2) (HT.out.below (HBS.out.tr hW))
        generalize numberM (l.set j f') = ln at *
        have HSM := hide fun (W : World) (g k : Nat) (a : Option Addr) (c : Nat) (h1 : Fns W l (some ⟨g, 0, none⟩) k) (h2 : Fns W ln a c) (hW : Below WS.heap.size WS W) => sameM_is l ln false HSC.out _ _ rfl rfl (some ⟨g, 0, none⟩) a k c W h1 h2 (HT.out.below (HBS.out.tr hW))
        have HWK := hide fun (W : World) (hW : Below WS.heap.size WS W) => works_any W (HT.out.below (HBS.out.tr hW))
        have o0 := cell_at (j := 0) HOL.out rfl
        have o1 := cell_at (j := 1) HOL.out rfl
        have o2 := cell_at (j := 2) HOL.out rfl
        have o3 := cell_at (j := 3) HOL.out rfl
        have o4 := cell_at (j := 4) HOL.out rfl
        have p0 := cell_at (j := 0) HPP.out rfl
        have hB := (bl WS).dr
        clear hfw2 hps2 hrow2 hset hgs hbl hf'
        refine wp_region_held_drew (S := (fun w' => w'.cell? ⟨w6.heap.size, 0, none⟩ = some (.string ⟨l[j].name.toArray⟩) ∧ w'.cell? ⟨w6.heap.size, 1, none⟩ = some (.slice pp l[j].params.length cp) ∧ w'.cell? ⟨w6.heap.size, 2, none⟩ = some (.int .i64 l[j].result) ∧ w'.cell? ⟨w6.heap.size, 3, none⟩ = some (.slice (some ⟨b, o, none⟩) l[j].body.length cbo) ∧ w'.cell? ⟨w6.heap.size, 4, none⟩ = some (.int .i64 l[j].count) ∧
  w'.cell? ⟨g1, j * 5, none⟩ = some (.string ⟨f'.name.toArray⟩) ∧ w'.cell? ⟨g1, j * 5 + 1, none⟩ = some (.slice pp2 f'.params.length cp2) ∧ w'.cell? ⟨g1, j * 5 + 2, none⟩ = some (.int .i64 f'.result) ∧ w'.cell? ⟨g1, j * 5 + 3, none⟩ = some (.slice pb2 f'.body.length cb2) ∧ w'.cell? ⟨g1, j * 5 + 4, none⟩ = some (.int .i64 f'.count) ∧ w'.cell? ⟨w3.heap.size, 0, none⟩ = some (.slice (some ⟨g1, 0, none⟩) l.length k1))) (by kernel_rfl) ?_ (fun hHeld => ?_)
        · ((try dsimp only); first | done | exact ⟨cell_keep o0 hB (Nat.le_refl _), cell_keep o1 hB (Nat.le_refl _), cell_keep o2 hB (Nat.le_refl _), cell_keep o3 hB (Nat.le_refl _), cell_keep o4 hB (Nat.le_refl _), cell_keep d0 hB (Nat.le_refl _), cell_keep d1 hB (Nat.le_refl _), cell_keep d2 hB (Nat.le_refl _), cell_keep d3 hB (Nat.le_refl _), cell_keep d4 hB (Nat.le_refl _), cell_keep p0 hB (Nat.le_refl _)⟩)
        refine wpAnyH_take (i := 0) (v := ?_) (by simp only [List.getElem?_toArray, List.getElem?_cons_succ, List.getElem?_cons_zero]; rfl) (by kernel_rfl) (by kernel_rfl) (by kernel_rfl) (by exact fun _ _ _ h => h) (Or.inl ⟨by rfl, ?_⟩) (by assumption) ?_
        rotate_left 1
        · ((intro w hSw; (try dsimp only at hSw); go_simp) <;> with_reducible rfl)
        try simp only [Act.put, List.setIfInBounds_toArray, List.set_cons_zero, List.set_cons_succ]
        refine wpAnyH_take (i := 1) (v := ?_) (by simp only [List.getElem?_toArray, List.getElem?_cons_succ, List.getElem?_cons_zero]; rfl) (by kernel_rfl) (by kernel_rfl) (by kernel_rfl) (by exact fun _ _ _ h => h) (Or.inl ⟨by rfl, ?_⟩) (by assumption) ?_
        rotate_left 1
        · ((intro w hSw; (try dsimp only at hSw); go_simp) <;> with_reducible rfl)
        try simp only [Act.put, List.setIfInBounds_toArray, List.set_cons_zero, List.set_cons_succ]
        refine wpAnyH_take (i := 2) (v := ?_) (by simp only [List.getElem?_toArray, List.getElem?_cons_succ, List.getElem?_cons_zero]; rfl) (by kernel_rfl) (by kernel_rfl) (by kernel_rfl) (by exact fun _ _ _ h => h) (Or.inl ⟨by rfl, ?_⟩) (by assumption) ?_
        rotate_left 1
        · ((intro w hSw; (try dsimp only at hSw); go_simp) <;> with_reducible rfl)
        try simp only [Act.put, List.setIfInBounds_toArray, List.set_cons_zero, List.set_cons_succ]
        refine wpAnyH_take (i := 3) (v := ?_) (by simp only [List.getElem?_toArray, List.getElem?_cons_succ, List.getElem?_cons_zero]; rfl) (by kernel_rfl) (by kernel_rfl) (by kernel_rfl) (by exact fun _ _ _ h => h) (Or.inl ⟨by rfl, ?_⟩) (by assumption) ?_
        rotate_left 1
        · ((intro w hSw; (try dsimp only at hSw); go_simp) <;> with_reducible rfl)
        try simp only [Act.put, List.setIfInBounds_toArray, List.set_cons_zero, List.set_cons_succ]
        refine wpAnyH_ready (rs := [4]) (by kernel_rfl) (by simp) ?_
        refine AllReadyH.cons rfl (fun K hK => ?_) AllReadyH.nil
        go_simp
        (go_at_call 23; (with_reducible refine (HSF.out _ hB).mono ?_); rintro r w7 ⟨rfl, hb⟩; have hB := hB.tr hb; clear hb)
        try go_wp2_with fail
        refine hK.out _ _ ?_ (fun hHeld => ?_)
        · ((try dsimp only); first | done | exact ⟨cell_keep o0 hB (Nat.le_refl _), cell_keep o1 hB (Nat.le_refl _), cell_keep o2 hB (Nat.le_refl _), cell_keep o3 hB (Nat.le_refl _), cell_keep o4 hB (Nat.le_refl _), cell_keep d0 hB (Nat.le_refl _), cell_keep d1 hB (Nat.le_refl _), cell_keep d2 hB (Nat.le_refl _), cell_keep d3 hB (Nat.le_refl _), cell_keep d4 hB (Nat.le_refl _), cell_keep p0 hB (Nat.le_refl _)⟩)
        clear hK K
        try simp only [Act.put, List.setIfInBounds_toArray, List.set_cons_zero, List.set_cons_succ]
        refine wpAnyH_take (i := 5) (v := ?_) (by simp only [List.getElem?_toArray, List.getElem?_cons_succ, List.getElem?_cons_zero]; rfl) (by kernel_rfl) (by kernel_rfl) (by kernel_rfl) (by exact fun _ _ _ h => h) (Or.inl ⟨by rfl, ?_⟩) (by assumption) ?_
        rotate_left 1
        · ((intro w hSw; (try dsimp only at hSw); go_simp) <;> with_reducible rfl)
        try simp only [Act.put, List.setIfInBounds_toArray, List.set_cons_zero, List.set_cons_succ]
        refine wpAnyH_take (i := 6) (v := ?_) (by simp only [List.getElem?_toArray, List.getElem?_cons_succ, List.getElem?_cons_zero]; rfl) (by kernel_rfl) (by kernel_rfl) (by kernel_rfl) (by exact fun _ _ _ h => h) (Or.inl ⟨by rfl, ?_⟩) (by assumption) ?_
        rotate_left 1
        · ((intro w hSw; (try dsimp only at hSw); go_simp) <;> with_reducible rfl)
        try simp only [Act.put, List.setIfInBounds_toArray, List.set_cons_zero, List.set_cons_succ]
        refine wpAnyH_take (i := 7) (v := ?_) (by simp only [List.getElem?_toArray, List.getElem?_cons_succ, List.getElem?_cons_zero]; rfl) (by kernel_rfl) (by kernel_rfl) (by kernel_rfl) (by exact fun _ _ _ h => h) (Or.inl ⟨by rfl, ?_⟩) (by assumption) ?_
        rotate_left 1
        · ((intro w hSw; (try dsimp only at hSw); go_simp) <;> with_reducible rfl)
        try simp only [Act.put, List.setIfInBounds_toArray, List.set_cons_zero, List.set_cons_succ]
        refine wpAnyH_take (i := 9) (v := ?_) (by simp only [List.getElem?_toArray, List.getElem?_cons_succ, List.getElem?_cons_zero]; rfl) (by kernel_rfl) (by kernel_rfl) (by kernel_rfl) (by exact fun _ _ _ h => h) (Or.inl ⟨by rfl, ?_⟩) (by assumption) ?_
        rotate_left 1
        · ((intro w hSw; (try dsimp only at hSw); go_simp) <;> with_reducible rfl)
        try simp only [Act.put, List.setIfInBounds_toArray, List.set_cons_zero, List.set_cons_succ]
        refine wpAnyH_ready (rs := [8]) (by kernel_rfl) (by simp) ?_
        refine AllReadyH.cons rfl (fun K hK => ?_) AllReadyH.nil
        go_simp
        (go_at_call 14; (with_reducible refine (HM1.out _ (HBS.out.tr hB)).mono ?_); rintro r w8 ⟨⟨g5, k5, rfl, q1, q2, q3, hp5⟩, hb⟩; have HP5 := hide hp5.out; have HL5 := hide (⟨q1, q2⟩ : _ ∧ _); have hB := hB.tr hb; clear hb q1 q2 q3 hp5)
        try go_wp2_with fail
        refine hK.out _ _ ?_ (fun hHeld => ?_)
        · ((try dsimp only); first | done | exact ⟨cell_keep o0 hB (Nat.le_refl _), cell_keep o1 hB (Nat.le_refl _), cell_keep o2 hB (Nat.le_refl _), cell_keep o3 hB (Nat.le_refl _), cell_keep o4 hB (Nat.le_refl _), cell_keep d0 hB (Nat.le_refl _), cell_keep d1 hB (Nat.le_refl _), cell_keep d2 hB (Nat.le_refl _), cell_keep d3 hB (Nat.le_refl _), cell_keep d4 hB (Nat.le_refl _), cell_keep p0 hB (Nat.le_refl _)⟩)
        clear hK K
        try simp only [Act.put, List.setIfInBounds_toArray, List.set_cons_zero, List.set_cons_succ]
        refine wpAnyH_ready (rs := [10]) (by kernel_rfl) (by simp) ?_
        refine AllReadyH.cons rfl (fun K hK => ?_) AllReadyH.nil
        go_simp
        (go_at_call 17; (with_reducible refine (HNM.out _ hB).mono ?_); rintro r w9 ⟨⟨a6, k6, rfl, hf6⟩, hb⟩; have HP5 := hide (HP5.out.below hb); have HF6 := hide hf6.out; have hB := hB.tr hb; clear hb hf6)
        try go_wp2_with fail
        refine hK.out _ _ ?_ (fun hHeld => ?_)
        · ((try dsimp only); first | done | exact ⟨cell_keep o0 hB (Nat.le_refl _), cell_keep o1 hB (Nat.le_refl _), cell_keep o2 hB (Nat.le_refl _), cell_keep o3 hB (Nat.le_refl _), cell_keep o4 hB (Nat.le_refl _), cell_keep d0 hB (Nat.le_refl _), cell_keep d1 hB (Nat.le_refl _), cell_keep d2 hB (Nat.le_refl _), cell_keep d3 hB (Nat.le_refl _), cell_keep d4 hB (Nat.le_refl _), cell_keep p0 hB (Nat.le_refl _)⟩)
        clear hK K
        try simp only [Act.put, List.setIfInBounds_toArray, List.set_cons_zero, List.set_cons_succ]
        refine wpAnyH_ready (rs := [11]) (by kernel_rfl) (by simp) ?_
        refine AllReadyH.cons rfl (fun K hK => ?_) AllReadyH.nil
        go_simp
        (go_at_call 21; (with_reducible refine (HSM.out _ _ _ _ _ (HP5.out.fns HL5.out.1 HL5.out.2) HF6.out hB).mono ?_); rintro r w10 ⟨rfl, hb⟩; have hB := hB.tr hb; clear hb)
        try go_wp2_with fail
        refine hK.out _ _ ?_ (fun hHeld => ?_)
        · ((try dsimp only); first | done | exact ⟨cell_keep o0 hB (Nat.le_refl _), cell_keep o1 hB (Nat.le_refl _), cell_keep o2 hB (Nat.le_refl _), cell_keep o3 hB (Nat.le_refl _), cell_keep o4 hB (Nat.le_refl _), cell_keep d0 hB (Nat.le_refl _), cell_keep d1 hB (Nat.le_refl _), cell_keep d2 hB (Nat.le_refl _), cell_keep d3 hB (Nat.le_refl _), cell_keep d4 hB (Nat.le_refl _), cell_keep p0 hB (Nat.le_refl _)⟩)
        clear hK K
        try simp only [Act.put, List.setIfInBounds_toArray, List.set_cons_zero, List.set_cons_succ]
        refine wpAnyH_take (i := 12) (v := ?_) (by simp only [List.getElem?_toArray, List.getElem?_cons_succ, List.getElem?_cons_zero]; rfl) (by kernel_rfl) (by kernel_rfl) (by kernel_rfl) (by exact fun _ _ _ h => h) (Or.inl ⟨by rfl, ?_⟩) (by assumption) ?_
        rotate_left 1
        · ((intro w hSw; (try dsimp only at hSw); go_simp) <;> with_reducible rfl)
        try simp only [Act.put, List.setIfInBounds_toArray, List.set_cons_zero, List.set_cons_succ]
        refine wpAnyH_take (i := 13) (v := ?_) (by simp only [List.getElem?_toArray, List.getElem?_cons_succ, List.getElem?_cons_zero]; rfl) (by kernel_rfl) (by kernel_rfl) (by kernel_rfl) (by exact fun _ _ _ h => h) (Or.inl ⟨by rfl, ?_⟩) (by assumption) ?_
        rotate_left 1
        · ((intro w hSw; (try dsimp only at hSw); go_simp) <;> with_reducible rfl)
        try simp only [Act.put, List.setIfInBounds_toArray, List.set_cons_zero, List.set_cons_succ]
        refine wpAnyH_take (i := 14) (v := ?_) (by simp only [List.getElem?_toArray, List.getElem?_cons_succ, List.getElem?_cons_zero]; rfl) (by kernel_rfl) (by kernel_rfl) (by kernel_rfl) (by exact fun _ _ _ h => h) (Or.inl ⟨by rfl, ?_⟩) (by assumption) ?_
        rotate_left 1
        · ((intro w hSw; (try dsimp only at hSw); go_simp) <;> with_reducible rfl)
        try simp only [Act.put, List.setIfInBounds_toArray, List.set_cons_zero, List.set_cons_succ]
        refine wpAnyH_ready (rs := [15]) (by kernel_rfl) (by simp) ?_
        refine AllReadyH.cons rfl (fun K hK => ?_) AllReadyH.nil
        go_simp
        (go_at_call 15; (with_reducible refine (HWK.out _ hB).mono ?_); rintro r w11 ⟨rfl, hb⟩; have hB := hB.tr hb; clear hb)
        try go_wp2_with fail
        refine hK.out _ _ ?_ (fun hHeld => ?_)
        · ((try dsimp only); first | done | exact ⟨cell_keep o0 hB (Nat.le_refl _), cell_keep o1 hB (Nat.le_refl _), cell_keep o2 hB (Nat.le_refl _), cell_keep o3 hB (Nat.le_refl _), cell_keep o4 hB (Nat.le_refl _), cell_keep d0 hB (Nat.le_refl _), cell_keep d1 hB (Nat.le_refl _), cell_keep d2 hB (Nat.le_refl _), cell_keep d3 hB (Nat.le_refl _), cell_keep d4 hB (Nat.le_refl _), cell_keep p0 hB (Nat.le_refl _)⟩)
        clear hK K
        try simp only [Act.put, List.setIfInBounds_toArray, List.set_cons_zero, List.set_cons_succ]
        refine wpAnyH_take (i := 16) (v := ?_) (by simp only [List.getElem?_toArray, List.getElem?_cons_succ, List.getElem?_cons_zero]; rfl) (by kernel_rfl) (by kernel_rfl) (by kernel_rfl) (by exact fun _ _ _ h => h) (Or.inl ⟨by rfl, ?_⟩) (by assumption) ?_
        rotate_left 1
        · ((intro w hSw; (try dsimp only at hSw); go_simp) <;> with_reducible rfl)
        try simp only [Act.put, List.setIfInBounds_toArray, List.set_cons_zero, List.set_cons_succ]
        refine wpAnyH_take (i := 17) (v := ?_) (by simp only [List.getElem?_toArray, List.getElem?_cons_succ, List.getElem?_cons_zero]; rfl) (by kernel_rfl) (by kernel_rfl) (by kernel_rfl) (by exact fun _ _ _ h => h) (Or.inl ⟨by rfl, ?_⟩) (by assumption) ?_
        rotate_left 1
        · ((intro w hSw; (try dsimp only at hSw); go_simp) <;> with_reducible rfl)
        try simp only [Act.put, List.setIfInBounds_toArray, List.set_cons_zero, List.set_cons_succ]
        refine wpAnyH_done (by kernel_rfl) ?_ _
        go_wp2_with fail
        go_ret
        exact ⟨rfl, HBS.out.tr hB⟩
      · have HPG := hide (cut_store (o' := o + 8) (c' := cb - 1) HG6.out hjl c0 c1 c2 c3 c4 HFW.out HPS.out (row_tail HROW.out) (n := l[j].body.length - 1) (by rw [List.length_drop]) (by omega) (by unfold maxLen; omega))
        go_wp2_with fail
        have hK : Kept [g1] w6 (w6.setCell ⟨g1, j * 5 + 3, none⟩ (.slice (some ⟨b, o + 8, none⟩) (l[j].body.length - 1) (cb - 1))) := (Kept.refl [g1] w6).set (.inl (by simp)) _ _
        have hz6 : (w6.setCell ⟨g1, j * 5 + 3, none⟩ (.slice (some ⟨b, o + 8, none⟩) (l[j].body.length - 1) (cb - 1))).heap.size = w6.heap.size := by simp [World.setCell]
        have HPG := hide (HPG.out.below ((bl _).al (.cells #[.string ⟨l[j].name.toArray⟩, .slice pp l[j].params.length cp, .int .i64 l[j].result, .slice (some ⟨b, o, none⟩) l[j].body.length cb, .int .i64 l[j].count] 42)))
        have HOL : Hid (((w6.setCell ⟨g1, j * 5 + 3, none⟩ (.slice (some ⟨b, o + 8, none⟩) (l[j].body.length - 1) (cb - 1))).alloc (.cells #[.string ⟨l[j].name.toArray⟩, .slice pp l[j].params.length cp, .int .i64 l[j].result, .slice (some ⟨b, o, none⟩) l[j].body.length cb, .int .i64 l[j].count] 42)).heap[w6.heap.size]? = some (.cells #[.string ⟨l[j].name.toArray⟩, .slice pp l[j].params.length cp, .int .i64 l[j].result, .slice (some ⟨b, o, none⟩) l[j].body.length cb, .int .i64 l[j].count] 42 (0, 0))) := hide (heap_newS hz6.symm)
        have hpl : w3.heap.size < w6.heap.size := (Array.getElem?_eq_some_iff.1 HPW6.out).1
        have HPP := hide ((Below.heap_alloc _ (.cells #[.string ⟨l[j].name.toArray⟩, .slice pp l[j].params.length cp, .int .i64 l[j].result, .slice (some ⟨b, o, none⟩) l[j].body.length cb, .int .i64 l[j].count] 42) _ (by rw [hz6]; exact hpl)).trans (hK.heap (by simp; exact fun e => HNE.out e.symm) HPW6.out))
        have HHS := hide ((has_kept hK).tr (has_av_below (l := [g1]) ((bl _).al (.cells #[.string ⟨l[j].name.toArray⟩, .slice pp l[j].params.length cp, .int .i64 l[j].result, .slice (some ⟨b, o, none⟩) l[j].body.length cb, .int .i64 l[j].count] 42))))
        have HBS := hide (((HB3.out.tr HBW6.out).setCell (p := ⟨g1, j * 5 + 3, none⟩) HGE.out (.slice (some ⟨b, o + 8, none⟩) (l[j].body.length - 1) (cb - 1))).al (.cells #[.string ⟨l[j].name.toArray⟩, .slice pp l[j].params.length cp, .int .i64 l[j].result, .slice (some ⟨b, o, none⟩) l[j].body.length cb, .int .i64 l[j].count] 42))
        clear hK hz6 hpl HPW6 HG6 HBW6 c0 c1 c2 c3 c4 f3 hgl
        generalize (w6.setCell ⟨g1, j * 5 + 3, none⟩ (.slice (some ⟨b, o + 8, none⟩) (l[j].body.length - 1) (cb - 1))).alloc (.cells #[.string ⟨l[j].name.toArray⟩, .slice pp l[j].params.length cp, .int .i64 l[j].result, .slice (some ⟨b, o, none⟩) l[j].body.length cb, .int .i64 l[j].count] 42) = WS at *
        generalize hcbo : cb = cbo at HOL HFW
        clear hcbo
        obtain ⟨f', hf'⟩ : ∃ f' : Fn, f' = { l[j] with body := l[j].body.drop 1 } := ⟨_, rfl⟩
        rw [← hf'] at HPG
        have hset : (l.set j f').length = l.length := List.length_set ..
        have hgs : (l.set j f')[j]'(by rw [hset]; exact hjl) = f' := List.getElem_set_self ..
        have hcc := HPG.out.cells j (by rw [hset]; exact hjl)
        rw [hgs] at hcc
        obtain ⟨pp2, pb2, cp2, cb2, d0, d1, d2, d3, d4, hfw2, hps2, hrow2⟩ := hcc
        have HVF : Hid (Fn.Val WS f' (.agg #[.string ⟨f'.name.toArray⟩, .slice pp2 f'.params.length cp2, .int .i64 f'.result, .slice pb2 f'.body.length cb2, .int .i64 f'.count])) := hide ⟨pp2, pb2, cp2, cb2, rfl, hfw2, hps2.has has_av, hrow2.has has_av⟩
        have HVO : Hid (Fn.Val WS l[j] (.agg #[.string ⟨l[j].name.toArray⟩, .slice pp l[j].params.length cp, .int .i64 l[j].result, .slice (some ⟨b, o, none⟩) l[j].body.length cbo, .int .i64 l[j].count])) := hide ⟨pp, some ⟨b, o, none⟩, cp, cbo, rfl, HFW.out, (HPS.out.has HHS.out).has has_av, (HROW.out.has HHS.out).has has_av⟩
        have hbl : f'.body.length ≠ l[j].body.length := by rw [hf']; simp only [List.length_drop]; omega
        have HSF := hide fun (W : World) (hW : Below WS.heap.size WS W) => sameF_is l[j] f' false (eqF_body (Ne.symm hbl)) _ _ W (HVO.out.keep hW (Nat.le_refl _)) (HVF.out.keep hW (Nat.le_refl _)) (HT.out.below (HBS.out.tr hW))
        have HSC := hide (same_cut hjl hbl)
        have HNM := hide fun (W : World) (hW : Below WS.heap.size WS W) => number_fns (l.set j f') _ rfl l.length hset (some ⟨g1, 0, none⟩) k1 W ((HPG.out.below hW).fns (by rw [hset]; exact HL1.out.1) HL1.out.2) (HT.out.below (HBS.out.tr hW))
        generalize numberM (l.set j f') = ln at *
        have HSM := hide fun (W : World) (g k : Nat) (a : Option Addr) (c : Nat) (h1 : Fns W l (some ⟨g, 0, none⟩) k) (h2 : Fns W ln a c) (hW : Below WS.heap.size WS W) => sameM_is l ln false HSC.out _ _ rfl rfl (some ⟨g, 0, none⟩) a k c W h1 h2 (HT.out.below (HBS.out.tr hW))
        have HWK := hide fun (W : World) (hW : Below WS.heap.size WS W) => works_any W (HT.out.below (HBS.out.tr hW))
        have o0 := cell_at (j := 0) HOL.out rfl
        have o1 := cell_at (j := 1) HOL.out rfl
        have o2 := cell_at (j := 2) HOL.out rfl
        have o3 := cell_at (j := 3) HOL.out rfl
        have o4 := cell_at (j := 4) HOL.out rfl
        have p0 := cell_at (j := 0) HPP.out rfl
        have hB := (bl WS).dr
        clear hfw2 hps2 hrow2 hset hgs hbl hf'
        refine wp_region_held_drew (S := (fun w' => w'.cell? ⟨w6.heap.size, 0, none⟩ = some (.string ⟨l[j].name.toArray⟩) ∧ w'.cell? ⟨w6.heap.size, 1, none⟩ = some (.slice pp l[j].params.length cp) ∧ w'.cell? ⟨w6.heap.size, 2, none⟩ = some (.int .i64 l[j].result) ∧ w'.cell? ⟨w6.heap.size, 3, none⟩ = some (.slice (some ⟨b, o, none⟩) l[j].body.length cbo) ∧ w'.cell? ⟨w6.heap.size, 4, none⟩ = some (.int .i64 l[j].count) ∧
  w'.cell? ⟨g1, j * 5, none⟩ = some (.string ⟨f'.name.toArray⟩) ∧ w'.cell? ⟨g1, j * 5 + 1, none⟩ = some (.slice pp2 f'.params.length cp2) ∧ w'.cell? ⟨g1, j * 5 + 2, none⟩ = some (.int .i64 f'.result) ∧ w'.cell? ⟨g1, j * 5 + 3, none⟩ = some (.slice pb2 f'.body.length cb2) ∧ w'.cell? ⟨g1, j * 5 + 4, none⟩ = some (.int .i64 f'.count) ∧ w'.cell? ⟨w3.heap.size, 0, none⟩ = some (.slice (some ⟨g1, 0, none⟩) l.length k1))) (by kernel_rfl) ?_ (fun hHeld => ?_)
        · ((try dsimp only); first | done | exact ⟨cell_keep o0 hB (Nat.le_refl _), cell_keep o1 hB (Nat.le_refl _), cell_keep o2 hB (Nat.le_refl _), cell_keep o3 hB (Nat.le_refl _), cell_keep o4 hB (Nat.le_refl _), cell_keep d0 hB (Nat.le_refl _), cell_keep d1 hB (Nat.le_refl _), cell_keep d2 hB (Nat.le_refl _), cell_keep d3 hB (Nat.le_refl _), cell_keep d4 hB (Nat.le_refl _), cell_keep p0 hB (Nat.le_refl _)⟩)
        refine wpAnyH_take (i := 0) (v := ?_) (by simp only [List.getElem?_toArray, List.getElem?_cons_succ, List.getElem?_cons_zero]; rfl) (by kernel_rfl) (by kernel_rfl) (by kernel_rfl) (by exact fun _ _ _ h => h) (Or.inl ⟨by rfl, ?_⟩) (by assumption) ?_
        rotate_left 1
        · ((intro w hSw; (try dsimp only at hSw); go_simp) <;> with_reducible rfl)
        try simp only [Act.put, List.setIfInBounds_toArray, List.set_cons_zero, List.set_cons_succ]
        refine wpAnyH_take (i := 1) (v := ?_) (by simp only [List.getElem?_toArray, List.getElem?_cons_succ, List.getElem?_cons_zero]; rfl) (by kernel_rfl) (by kernel_rfl) (by kernel_rfl) (by exact fun _ _ _ h => h) (Or.inl ⟨by rfl, ?_⟩) (by assumption) ?_
        rotate_left 1
        · ((intro w hSw; (try dsimp only at hSw); go_simp) <;> with_reducible rfl)
        try simp only [Act.put, List.setIfInBounds_toArray, List.set_cons_zero, List.set_cons_succ]
        refine wpAnyH_take (i := 2) (v := ?_) (by simp only [List.getElem?_toArray, List.getElem?_cons_succ, List.getElem?_cons_zero]; rfl) (by kernel_rfl) (by kernel_rfl) (by kernel_rfl) (by exact fun _ _ _ h => h) (Or.inl ⟨by rfl, ?_⟩) (by assumption) ?_
        rotate_left 1
        · ((intro w hSw; (try dsimp only at hSw); go_simp) <;> with_reducible rfl)
        try simp only [Act.put, List.setIfInBounds_toArray, List.set_cons_zero, List.set_cons_succ]
        refine wpAnyH_take (i := 3) (v := ?_) (by simp only [List.getElem?_toArray, List.getElem?_cons_succ, List.getElem?_cons_zero]; rfl) (by kernel_rfl) (by kernel_rfl) (by kernel_rfl) (by exact fun _ _ _ h => h) (Or.inl ⟨by rfl, ?_⟩) (by assumption) ?_
        rotate_left 1
        · ((intro w hSw; (try dsimp only at hSw); go_simp) <;> with_reducible rfl)
        try simp only [Act.put, List.setIfInBounds_toArray, List.set_cons_zero, List.set_cons_succ]
        refine wpAnyH_ready (rs := [4]) (by kernel_rfl) (by simp) ?_
        refine AllReadyH.cons rfl (fun K hK => ?_) AllReadyH.nil
        go_simp
        (go_at_call 23; (with_reducible refine (HSF.out _ hB).mono ?_); rintro r w7 ⟨rfl, hb⟩; have hB := hB.tr hb; clear hb)
        try go_wp2_with fail
        refine hK.out _ _ ?_ (fun hHeld => ?_)
        · ((try dsimp only); first | done | exact ⟨cell_keep o0 hB (Nat.le_refl _), cell_keep o1 hB (Nat.le_refl _), cell_keep o2 hB (Nat.le_refl _), cell_keep o3 hB (Nat.le_refl _), cell_keep o4 hB (Nat.le_refl _), cell_keep d0 hB (Nat.le_refl _), cell_keep d1 hB (Nat.le_refl _), cell_keep d2 hB (Nat.le_refl _), cell_keep d3 hB (Nat.le_refl _), cell_keep d4 hB (Nat.le_refl _), cell_keep p0 hB (Nat.le_refl _)⟩)
        clear hK K
        try simp only [Act.put, List.setIfInBounds_toArray, List.set_cons_zero, List.set_cons_succ]
        refine wpAnyH_take (i := 5) (v := ?_) (by simp only [List.getElem?_toArray, List.getElem?_cons_succ, List.getElem?_cons_zero]; rfl) (by kernel_rfl) (by kernel_rfl) (by kernel_rfl) (by exact fun _ _ _ h => h) (Or.inl ⟨by rfl, ?_⟩) (by assumption) ?_
        rotate_left 1
        · ((intro w hSw; (try dsimp only at hSw); go_simp) <;> with_reducible rfl)
        try simp only [Act.put, List.setIfInBounds_toArray, List.set_cons_zero, List.set_cons_succ]
        refine wpAnyH_take (i := 6) (v := ?_) (by simp only [List.getElem?_toArray, List.getElem?_cons_succ, List.getElem?_cons_zero]; rfl) (by kernel_rfl) (by kernel_rfl) (by kernel_rfl) (by exact fun _ _ _ h => h) (Or.inl ⟨by rfl, ?_⟩) (by assumption) ?_
        rotate_left 1
        · ((intro w hSw; (try dsimp only at hSw); go_simp) <;> with_reducible rfl)
        try simp only [Act.put, List.setIfInBounds_toArray, List.set_cons_zero, List.set_cons_succ]
        refine wpAnyH_take (i := 7) (v := ?_) (by simp only [List.getElem?_toArray, List.getElem?_cons_succ, List.getElem?_cons_zero]; rfl) (by kernel_rfl) (by kernel_rfl) (by kernel_rfl) (by exact fun _ _ _ h => h) (Or.inl ⟨by rfl, ?_⟩) (by assumption) ?_
        rotate_left 1
        · ((intro w hSw; (try dsimp only at hSw); go_simp) <;> with_reducible rfl)
        try simp only [Act.put, List.setIfInBounds_toArray, List.set_cons_zero, List.set_cons_succ]
        refine wpAnyH_take (i := 9) (v := ?_) (by simp only [List.getElem?_toArray, List.getElem?_cons_succ, List.getElem?_cons_zero]; rfl) (by kernel_rfl) (by kernel_rfl) (by kernel_rfl) (by exact fun _ _ _ h => h) (Or.inl ⟨by rfl, ?_⟩) (by assumption) ?_
        rotate_left 1
        · ((intro w hSw; (try dsimp only at hSw); go_simp) <;> with_reducible rfl)
        try simp only [Act.put, List.setIfInBounds_toArray, List.set_cons_zero, List.set_cons_succ]
        refine wpAnyH_ready (rs := [8]) (by kernel_rfl) (by simp) ?_
        refine AllReadyH.cons rfl (fun K hK => ?_) AllReadyH.nil
        go_simp
        (go_at_call 14; (with_reducible refine (HM1.out _ (HBS.out.tr hB)).mono ?_); rintro r w8 ⟨⟨g5, k5, rfl, q1, q2, q3, hp5⟩, hb⟩; have HP5 := hide hp5.out; have HL5 := hide (⟨q1, q2⟩ : _ ∧ _); have hB := hB.tr hb; clear hb q1 q2 q3 hp5)
        try go_wp2_with fail
        refine hK.out _ _ ?_ (fun hHeld => ?_)
        · ((try dsimp only); first | done | exact ⟨cell_keep o0 hB (Nat.le_refl _), cell_keep o1 hB (Nat.le_refl _), cell_keep o2 hB (Nat.le_refl _), cell_keep o3 hB (Nat.le_refl _), cell_keep o4 hB (Nat.le_refl _), cell_keep d0 hB (Nat.le_refl _), cell_keep d1 hB (Nat.le_refl _), cell_keep d2 hB (Nat.le_refl _), cell_keep d3 hB (Nat.le_refl _), cell_keep d4 hB (Nat.le_refl _), cell_keep p0 hB (Nat.le_refl _)⟩)
        clear hK K
        try simp only [Act.put, List.setIfInBounds_toArray, List.set_cons_zero, List.set_cons_succ]
        refine wpAnyH_ready (rs := [10]) (by kernel_rfl) (by simp) ?_
        refine AllReadyH.cons rfl (fun K hK => ?_) AllReadyH.nil
        go_simp
        (go_at_call 17; (with_reducible refine (HNM.out _ hB).mono ?_); rintro r w9 ⟨⟨a6, k6, rfl, hf6⟩, hb⟩; have HP5 := hide (HP5.out.below hb); have HF6 := hide hf6.out; have hB := hB.tr hb; clear hb hf6)
        try go_wp2_with fail
        refine hK.out _ _ ?_ (fun hHeld => ?_)
        · ((try dsimp only); first | done | exact ⟨cell_keep o0 hB (Nat.le_refl _), cell_keep o1 hB (Nat.le_refl _), cell_keep o2 hB (Nat.le_refl _), cell_keep o3 hB (Nat.le_refl _), cell_keep o4 hB (Nat.le_refl _), cell_keep d0 hB (Nat.le_refl _), cell_keep d1 hB (Nat.le_refl _), cell_keep d2 hB (Nat.le_refl _), cell_keep d3 hB (Nat.le_refl _), cell_keep d4 hB (Nat.le_refl _), cell_keep p0 hB (Nat.le_refl _)⟩)
        clear hK K
        try simp only [Act.put, List.setIfInBounds_toArray, List.set_cons_zero, List.set_cons_succ]
        refine wpAnyH_ready (rs := [11]) (by kernel_rfl) (by simp) ?_
        refine AllReadyH.cons rfl (fun K hK => ?_) AllReadyH.nil
        go_simp
        (go_at_call 21; (with_reducible refine (HSM.out _ _ _ _ _ (HP5.out.fns HL5.out.1 HL5.out.2) HF6.out hB).mono ?_); rintro r w10 ⟨rfl, hb⟩; have hB := hB.tr hb; clear hb)
        try go_wp2_with fail
        refine hK.out _ _ ?_ (fun hHeld => ?_)
        · ((try dsimp only); first | done | exact ⟨cell_keep o0 hB (Nat.le_refl _), cell_keep o1 hB (Nat.le_refl _), cell_keep o2 hB (Nat.le_refl _), cell_keep o3 hB (Nat.le_refl _), cell_keep o4 hB (Nat.le_refl _), cell_keep d0 hB (Nat.le_refl _), cell_keep d1 hB (Nat.le_refl _), cell_keep d2 hB (Nat.le_refl _), cell_keep d3 hB (Nat.le_refl _), cell_keep d4 hB (Nat.le_refl _), cell_keep p0 hB (Nat.le_refl _)⟩)
        clear hK K
        try simp only [Act.put, List.setIfInBounds_toArray, List.set_cons_zero, List.set_cons_succ]
        refine wpAnyH_take (i := 12) (v := ?_) (by simp only [List.getElem?_toArray, List.getElem?_cons_succ, List.getElem?_cons_zero]; rfl) (by kernel_rfl) (by kernel_rfl) (by kernel_rfl) (by exact fun _ _ _ h => h) (Or.inl ⟨by rfl, ?_⟩) (by assumption) ?_
        rotate_left 1
        · ((intro w hSw; (try dsimp only at hSw); go_simp) <;> with_reducible rfl)
        try simp only [Act.put, List.setIfInBounds_toArray, List.set_cons_zero, List.set_cons_succ]
        refine wpAnyH_take (i := 13) (v := ?_) (by simp only [List.getElem?_toArray, List.getElem?_cons_succ, List.getElem?_cons_zero]; rfl) (by kernel_rfl) (by kernel_rfl) (by kernel_rfl) (by exact fun _ _ _ h => h) (Or.inl ⟨by rfl, ?_⟩) (by assumption) ?_
        rotate_left 1
        · ((intro w hSw; (try dsimp only at hSw); go_simp) <;> with_reducible rfl)
        try simp only [Act.put, List.setIfInBounds_toArray, List.set_cons_zero, List.set_cons_succ]
        refine wpAnyH_take (i := 14) (v := ?_) (by simp only [List.getElem?_toArray, List.getElem?_cons_succ, List.getElem?_cons_zero]; rfl) (by kernel_rfl) (by kernel_rfl) (by kernel_rfl) (by exact fun _ _ _ h => h) (Or.inl ⟨by rfl, ?_⟩) (by assumption) ?_
        rotate_left 1
        · ((intro w hSw; (try dsimp only at hSw); go_simp) <;> with_reducible rfl)
        try simp only [Act.put, List.setIfInBounds_toArray, List.set_cons_zero, List.set_cons_succ]
        refine wpAnyH_ready (rs := [15]) (by kernel_rfl) (by simp) ?_
        refine AllReadyH.cons rfl (fun K hK => ?_) AllReadyH.nil
        go_simp
        (go_at_call 15; (with_reducible refine (HWK.out _ hB).mono ?_); rintro r w11 ⟨rfl, hb⟩; have hB := hB.tr hb; clear hb)
        try go_wp2_with fail
        refine hK.out _ _ ?_ (fun hHeld => ?_)
        · ((try dsimp only); first | done | exact ⟨cell_keep o0 hB (Nat.le_refl _), cell_keep o1 hB (Nat.le_refl _), cell_keep o2 hB (Nat.le_refl _), cell_keep o3 hB (Nat.le_refl _), cell_keep o4 hB (Nat.le_refl _), cell_keep d0 hB (Nat.le_refl _), cell_keep d1 hB (Nat.le_refl _), cell_keep d2 hB (Nat.le_refl _), cell_keep d3 hB (Nat.le_refl _), cell_keep d4 hB (Nat.le_refl _), cell_keep p0 hB (Nat.le_refl _)⟩)
        clear hK K
        try simp only [Act.put, List.setIfInBounds_toArray, List.set_cons_zero, List.set_cons_succ]
        refine wpAnyH_take (i := 16) (v := ?_) (by simp only [List.getElem?_toArray, List.getElem?_cons_succ, List.getElem?_cons_zero]; rfl) (by kernel_rfl) (by kernel_rfl) (by kernel_rfl) (by exact fun _ _ _ h => h) (Or.inl ⟨by rfl, ?_⟩) (by assumption) ?_
        rotate_left 1
        · ((intro w hSw; (try dsimp only at hSw); go_simp) <;> with_reducible rfl)
        try simp only [Act.put, List.setIfInBounds_toArray, List.set_cons_zero, List.set_cons_succ]
        refine wpAnyH_take (i := 17) (v := ?_) (by simp only [List.getElem?_toArray, List.getElem?_cons_succ, List.getElem?_cons_zero]; rfl) (by kernel_rfl) (by kernel_rfl) (by kernel_rfl) (by exact fun _ _ _ h => h) (Or.inl ⟨by rfl, ?_⟩) (by assumption) ?_
        rotate_left 1
        · ((intro w hSw; (try dsimp only at hSw); go_simp) <;> with_reducible rfl)
        try simp only [Act.put, List.setIfInBounds_toArray, List.set_cons_zero, List.set_cons_succ]
        refine wpAnyH_done (by kernel_rfl) ?_ _
        go_wp2_with fail
        go_ret
        exact ⟨rfl, HBS.out.tr hB⟩
  cases b2
  · have hB : Below ((((w3.alloc (.cells #[.slice (some ⟨g1, 0, none⟩) l.length k1] 38)).alloc (.cells #[.slice (some ⟨g2, 0, none⟩) m.length k2] 38)).alloc (.cells #[.slice (some ⟨g3, 0, none⟩) n.length k3] 38))).heap.size (((w3.alloc (.cells #[.slice (some ⟨g1, 0, none⟩) l.length k1] 38)).alloc (.cells #[.slice (some ⟨g2, 0, none⟩) m.length k2] 38)).alloc (.cells #[.slice (some ⟨g3, 0, none⟩) n.length k3] 38)) ((((w3.alloc (.cells #[.slice (some ⟨g1, 0, none⟩) l.length k1] 38)).alloc (.cells #[.slice (some ⟨g2, 0, none⟩) m.length k2] 38)).alloc (.cells #[.slice (some ⟨g3, 0, none⟩) n.length k3] 38))).drew := (bl _).dr
    go_wp2_with fail
    refine wp_region_held_drew (S := (fun w' => w'.cell? ⟨w3.heap.size, 0, none⟩ = some (.slice (some ⟨g1, 0, none⟩) l.length k1) ∧ w'.cell? ⟨w3.heap.size + 1, 0, none⟩ = some (.slice (some ⟨g2, 0, none⟩) m.length k2) ∧ w'.cell? ⟨w3.heap.size + 1 + 1, 0, none⟩ = some (.slice (some ⟨g3, 0, none⟩) n.length k3))) (by kernel_rfl) ?_ (fun hHeld => ?_)
    · ((try dsimp only); first | done | exact ⟨cell_at (j := 0) ((hB.block _ lp).trans HP.out) rfl, cell_at (j := 0) ((hB.block _ lq).trans HQ.out) rfl, cell_at (j := 0) ((hB.block _ lr).trans HR.out) rfl⟩)
    refine wpAnyH_take (i := 0) (v := ?_) (by simp only [List.getElem?_toArray, List.getElem?_cons_succ, List.getElem?_cons_zero]; rfl) (by kernel_rfl) (by kernel_rfl) (by kernel_rfl) (by exact fun _ _ _ h => h) (Or.inl ⟨by rfl, ?_⟩) (by assumption) ?_
    rotate_left 1
    · ((intro w hSw; (try dsimp only at hSw); go_simp) <;> with_reducible rfl)
    try simp only [Act.put, List.setIfInBounds_toArray, List.set_cons_zero, List.set_cons_succ]
    refine wpAnyH_take (i := 1) (v := ?_) (by simp only [List.getElem?_toArray, List.getElem?_cons_succ, List.getElem?_cons_zero]; rfl) (by kernel_rfl) (by kernel_rfl) (by kernel_rfl) (by exact fun _ _ _ h => h) (Or.inl ⟨by rfl, ?_⟩) (by assumption) ?_
    rotate_left 1
    · ((intro w hSw; (try dsimp only at hSw); go_simp) <;> with_reducible rfl)
    try simp only [Act.put, List.setIfInBounds_toArray, List.set_cons_zero, List.set_cons_succ]
    refine wpAnyH_ready (rs := [2]) (by kernel_rfl) (by simp) ?_
    refine AllReadyH.cons rfl (fun K hK => ?_) AllReadyH.nil
    go_simp
    (go_at_call 21; (with_reducible refine (HS1.out _ hB).mono ?_); rintro r w5 ⟨rfl, hb⟩; have hB := hB.tr hb; clear hb)
    try go_wp2_with fail
    refine hK.out _ _ ?_ (fun hHeld => ?_)
    · ((try dsimp only); first | done | exact ⟨cell_at (j := 0) ((hB.block _ lp).trans HP.out) rfl, cell_at (j := 0) ((hB.block _ lq).trans HQ.out) rfl, cell_at (j := 0) ((hB.block _ lr).trans HR.out) rfl⟩)
    clear hK K
    try simp only [Act.put, List.setIfInBounds_toArray, List.set_cons_zero, List.set_cons_succ]
    refine wpAnyH_take (i := 3) (v := ?_) (by simp only [List.getElem?_toArray, List.getElem?_cons_succ, List.getElem?_cons_zero]; rfl) (by kernel_rfl) (by kernel_rfl) (by kernel_rfl) (by exact fun _ _ _ h => h) (Or.inl ⟨by rfl, ?_⟩) (by assumption) ?_
    rotate_left 1
    · ((intro w hSw; (try dsimp only at hSw); go_simp) <;> with_reducible rfl)
    try simp only [Act.put, List.setIfInBounds_toArray, List.set_cons_zero, List.set_cons_succ]
    refine wpAnyH_take (i := 4) (v := ?_) (by simp only [List.getElem?_toArray, List.getElem?_cons_succ, List.getElem?_cons_zero]; rfl) (by kernel_rfl) (by kernel_rfl) (by kernel_rfl) (by exact fun _ _ _ h => h) (Or.inl ⟨by rfl, ?_⟩) (by assumption) ?_
    rotate_left 1
    · ((intro w hSw; (try dsimp only at hSw); go_simp) <;> with_reducible rfl)
    try simp only [Act.put, List.setIfInBounds_toArray, List.set_cons_zero, List.set_cons_succ]
    refine wpAnyH_take (i := 5) (v := ?_) (by simp only [List.getElem?_toArray, List.getElem?_cons_succ, List.getElem?_cons_zero]; rfl) (by kernel_rfl) (by kernel_rfl) (by kernel_rfl) (by exact fun _ _ _ h => h) (Or.inl ⟨by rfl, ?_⟩) (by assumption) ?_
    rotate_left 1
    · ((intro w hSw; (try dsimp only at hSw); go_simp) <;> with_reducible rfl)
    try simp only [Act.put, List.setIfInBounds_toArray, List.set_cons_zero, List.set_cons_succ]
    refine wpAnyH_take (i := 6) (v := ?_) (by simp only [List.getElem?_toArray, List.getElem?_cons_succ, List.getElem?_cons_zero]; rfl) (by kernel_rfl) (by kernel_rfl) (by kernel_rfl) (by exact fun _ _ _ h => h) (Or.inl ⟨by rfl, ?_⟩) (by assumption) ?_
    rotate_left 1
    · ((intro w hSw; (try dsimp only at hSw); go_simp) <;> with_reducible rfl)
    try simp only [Act.put, List.setIfInBounds_toArray, List.set_cons_zero, List.set_cons_succ]
    refine wpAnyH_take (i := 8) (v := ?_) (by simp only [List.getElem?_toArray, List.getElem?_cons_succ, List.getElem?_cons_zero]; rfl) (by kernel_rfl) (by kernel_rfl) (by kernel_rfl) (by exact fun _ _ _ h => h) (Or.inl ⟨by rfl, ?_⟩) (by assumption) ?_
    rotate_left 1
    · ((intro w hSw; (try dsimp only at hSw); go_simp) <;> with_reducible rfl)
    try simp only [Act.put, List.setIfInBounds_toArray, List.set_cons_zero, List.set_cons_succ]
    refine wpAnyH_take (i := 9) (v := ?_) (by simp only [List.getElem?_toArray, List.getElem?_cons_succ, List.getElem?_cons_zero]; rfl) (by kernel_rfl) (by kernel_rfl) (by kernel_rfl) (by exact fun _ _ _ h => h) (Or.inl ⟨by rfl, ?_⟩) (by assumption) ?_
    rotate_left 1
    · ((intro w hSw; (try dsimp only at hSw); go_simp) <;> with_reducible rfl)
    try simp only [Act.put, List.setIfInBounds_toArray, List.set_cons_zero, List.set_cons_succ]
    refine wpAnyH_ready (rs := [7]) (by kernel_rfl) (by simp) ?_
    refine AllReadyH.cons rfl (fun K hK => ?_) AllReadyH.nil
    go_simp
    (go_at_call 21; (with_reducible refine (HS2.out _ hB).mono ?_); rintro r w5 ⟨rfl, hb⟩; have hB := hB.tr hb; clear hb)
    try go_wp2_with fail
    refine hK.out _ _ ?_ (fun hHeld => ?_)
    · ((try dsimp only); first | done | exact ⟨cell_at (j := 0) ((hB.block _ lp).trans HP.out) rfl, cell_at (j := 0) ((hB.block _ lq).trans HQ.out) rfl, cell_at (j := 0) ((hB.block _ lr).trans HR.out) rfl⟩)
    clear hK K
    try simp only [Act.put, List.setIfInBounds_toArray, List.set_cons_zero, List.set_cons_succ]
    refine wpAnyH_ready (rs := [10]) (by kernel_rfl) (by simp) ?_
    refine AllReadyH.cons rfl (fun K hK => ?_) AllReadyH.nil
    go_simp
    (go_at_call 21; (with_reducible refine (HS3.out _ hB).mono ?_); rintro r w5 ⟨rfl, hb⟩; have hB := hB.tr hb; clear hb)
    try go_wp2_with fail
    refine hK.out _ _ ?_ (fun hHeld => ?_)
    · ((try dsimp only); first | done | exact ⟨cell_at (j := 0) ((hB.block _ lp).trans HP.out) rfl, cell_at (j := 0) ((hB.block _ lq).trans HQ.out) rfl, cell_at (j := 0) ((hB.block _ lr).trans HR.out) rfl⟩)
    clear hK K
    try simp only [Act.put, List.setIfInBounds_toArray, List.set_cons_zero, List.set_cons_succ]
    refine wpAnyH_take (i := 11) (v := ?_) (by simp only [List.getElem?_toArray, List.getElem?_cons_succ, List.getElem?_cons_zero]; rfl) (by kernel_rfl) (by kernel_rfl) (by kernel_rfl) (by exact fun _ _ _ h => h) (Or.inl ⟨by rfl, ?_⟩) (by assumption) ?_
    rotate_left 1
    · ((intro w hSw; (try dsimp only at hSw); go_simp) <;> with_reducible rfl)
    try simp only [Act.put, List.setIfInBounds_toArray, List.set_cons_zero, List.set_cons_succ]
    refine wpAnyH_take (i := 12) (v := ?_) (by simp only [List.getElem?_toArray, List.getElem?_cons_succ, List.getElem?_cons_zero]; rfl) (by kernel_rfl) (by kernel_rfl) (by kernel_rfl) (by exact fun _ _ _ h => h) (Or.inl ⟨by rfl, ?_⟩) (by assumption) ?_
    rotate_left 1
    · ((intro w hSw; (try dsimp only at hSw); go_simp) <;> with_reducible rfl)
    try simp only [Act.put, List.setIfInBounds_toArray, List.set_cons_zero, List.set_cons_succ]
    refine wpAnyH_take (i := 13) (v := ?_) (by simp only [List.getElem?_toArray, List.getElem?_cons_succ, List.getElem?_cons_zero]; rfl) (by kernel_rfl) (by kernel_rfl) (by kernel_rfl) (by exact fun _ _ _ h => h) (Or.inl ⟨by rfl, ?_⟩) (by assumption) ?_
    rotate_left 1
    · ((intro w hSw; (try dsimp only at hSw); go_simp) <;> with_reducible rfl)
    try simp only [Act.put, List.setIfInBounds_toArray, List.set_cons_zero, List.set_cons_succ]
    refine wpAnyH_take (i := 14) (v := ?_) (by simp only [List.getElem?_toArray, List.getElem?_cons_succ, List.getElem?_cons_zero]; rfl) (by kernel_rfl) (by kernel_rfl) (by kernel_rfl) (by exact fun _ _ _ h => h) (Or.inl ⟨by rfl, ?_⟩) (by assumption) ?_
    rotate_left 1
    · ((intro w hSw; (try dsimp only at hSw); go_simp) <;> with_reducible rfl)
    try simp only [Act.put, List.setIfInBounds_toArray, List.set_cons_zero, List.set_cons_succ]
    refine wpAnyH_take (i := 15) (v := ?_) (by simp only [List.getElem?_toArray, List.getElem?_cons_succ, List.getElem?_cons_zero]; rfl) (by kernel_rfl) (by kernel_rfl) (by kernel_rfl) (by exact fun _ _ _ h => h) (Or.inl ⟨by rfl, ?_⟩) (by assumption) ?_
    rotate_left 1
    · ((intro w hSw; (try dsimp only at hSw); go_simp) <;> with_reducible rfl)
    try simp only [Act.put, List.setIfInBounds_toArray, List.set_cons_zero, List.set_cons_succ]
    refine wpAnyH_ready (rs := [16]) (by kernel_rfl) (by simp) ?_
    refine AllReadyH.cons rfl (fun K hK => ?_) AllReadyH.nil
    go_simp
    (go_at_call 21; (with_reducible refine (HS2.out _ hB).mono ?_); rintro r w5 ⟨rfl, hb⟩; have hB := hB.tr hb; clear hb)
    try go_wp2_with fail
    refine hK.out _ _ ?_ (fun hHeld => ?_)
    · ((try dsimp only); first | done | exact ⟨cell_at (j := 0) ((hB.block _ lp).trans HP.out) rfl, cell_at (j := 0) ((hB.block _ lq).trans HQ.out) rfl, cell_at (j := 0) ((hB.block _ lr).trans HR.out) rfl⟩)
    clear hK K
    try simp only [Act.put, List.setIfInBounds_toArray, List.set_cons_zero, List.set_cons_succ]
    refine wpAnyH_take (i := 17) (v := ?_) (by simp only [List.getElem?_toArray, List.getElem?_cons_succ, List.getElem?_cons_zero]; rfl) (by kernel_rfl) (by kernel_rfl) (by kernel_rfl) (by exact fun _ _ _ h => h) (Or.inl ⟨by rfl, ?_⟩) (by assumption) ?_
    rotate_left 1
    · ((intro w hSw; (try dsimp only at hSw); go_simp) <;> with_reducible rfl)
    try simp only [Act.put, List.setIfInBounds_toArray, List.set_cons_zero, List.set_cons_succ]
    refine wpAnyH_take (i := 18) (v := ?_) (by simp only [List.getElem?_toArray, List.getElem?_cons_succ, List.getElem?_cons_zero]; rfl) (by kernel_rfl) (by kernel_rfl) (by kernel_rfl) (by exact fun _ _ _ h => h) (Or.inl ⟨by rfl, ?_⟩) (by assumption) ?_
    rotate_left 1
    · ((intro w hSw; (try dsimp only at hSw); go_simp) <;> with_reducible rfl)
    try simp only [Act.put, List.setIfInBounds_toArray, List.set_cons_zero, List.set_cons_succ]
    refine wpAnyH_take (i := 19) (v := ?_) (by simp only [List.getElem?_toArray, List.getElem?_cons_succ, List.getElem?_cons_zero]; rfl) (by kernel_rfl) (by kernel_rfl) (by kernel_rfl) (by exact fun _ _ _ h => h) (Or.inl ⟨by rfl, ?_⟩) (by assumption) ?_
    rotate_left 1
    · ((intro w hSw; (try dsimp only at hSw); go_simp) <;> with_reducible rfl)
    try simp only [Act.put, List.setIfInBounds_toArray, List.set_cons_zero, List.set_cons_succ]
    refine wpAnyH_ready (rs := [20]) (by kernel_rfl) (by simp) ?_
    refine AllReadyH.cons rfl (fun K hK => ?_) AllReadyH.nil
    go_simp
    (go_at_call 21; (with_reducible refine (HS4.out _ hB).mono ?_); rintro r w5 ⟨rfl, hb⟩; have hB := hB.tr hb; clear hb)
    try go_wp2_with fail
    refine hK.out _ _ ?_ (fun hHeld => ?_)
    · ((try dsimp only); first | done | exact ⟨cell_at (j := 0) ((hB.block _ lp).trans HP.out) rfl, cell_at (j := 0) ((hB.block _ lq).trans HQ.out) rfl, cell_at (j := 0) ((hB.block _ lr).trans HR.out) rfl⟩)
    clear hK K
    try simp only [Act.put, List.setIfInBounds_toArray, List.set_cons_zero, List.set_cons_succ]
    refine wpAnyH_take (i := 21) (v := ?_) (by simp only [List.getElem?_toArray, List.getElem?_cons_succ, List.getElem?_cons_zero]; rfl) (by kernel_rfl) (by kernel_rfl) (by kernel_rfl) (by exact fun _ _ _ h => h) (Or.inl ⟨by rfl, ?_⟩) (by assumption) ?_
    rotate_left 1
    · ((intro w hSw; (try dsimp only at hSw); go_simp) <;> with_reducible rfl)
    try simp only [Act.put, List.setIfInBounds_toArray, List.set_cons_zero, List.set_cons_succ]
    refine wpAnyH_take (i := 22) (v := ?_) (by simp only [List.getElem?_toArray, List.getElem?_cons_succ, List.getElem?_cons_zero]; rfl) (by kernel_rfl) (by kernel_rfl) (by kernel_rfl) (by exact fun _ _ _ h => h) (Or.inl ⟨by rfl, ?_⟩) (by assumption) ?_
    rotate_left 1
    · ((intro w hSw; (try dsimp only at hSw); go_simp) <;> with_reducible rfl)
    try simp only [Act.put, List.setIfInBounds_toArray, List.set_cons_zero, List.set_cons_succ]
    refine wpAnyH_take (i := 23) (v := undef) (by simp only [List.getElem?_toArray, List.getElem?_cons_succ, List.getElem?_cons_zero]; rfl) (by kernel_rfl) (by kernel_rfl) (by kernel_rfl) (by exact fun _ _ _ h => h) (Or.inr ⟨by rfl, rfl⟩) (by assumption) ?_
    try simp only [Act.put, List.setIfInBounds_toArray, List.set_cons_zero, List.set_cons_succ]
    refine wpAnyH_take (i := 24) (v := undef) (by simp only [List.getElem?_toArray, List.getElem?_cons_succ, List.getElem?_cons_zero]; rfl) (by kernel_rfl) (by kernel_rfl) (by kernel_rfl) (by exact fun _ _ _ h => h) (Or.inr ⟨by rfl, rfl⟩) (by assumption) ?_
    try simp only [Act.put, List.setIfInBounds_toArray, List.set_cons_zero, List.set_cons_succ]
    refine wpAnyH_take (i := 25) (v := undef) (by simp only [List.getElem?_toArray, List.getElem?_cons_succ, List.getElem?_cons_zero]; rfl) (by kernel_rfl) (by kernel_rfl) (by kernel_rfl) (by exact fun _ _ _ h => h) (Or.inr ⟨by rfl, rfl⟩) (by assumption) ?_
    try simp only [Act.put, List.setIfInBounds_toArray, List.set_cons_zero, List.set_cons_succ]
    refine wpAnyH_take (i := 26) (v := undef) (by simp only [List.getElem?_toArray, List.getElem?_cons_succ, List.getElem?_cons_zero]; rfl) (by kernel_rfl) (by kernel_rfl) (by kernel_rfl) (by exact fun _ _ _ h => h) (Or.inr ⟨by rfl, rfl⟩) (by assumption) ?_
    try simp only [Act.put, List.setIfInBounds_toArray, List.set_cons_zero, List.set_cons_succ]
    refine wpAnyH_take (i := 27) (v := ?_) (by simp only [List.getElem?_toArray, List.getElem?_cons_succ, List.getElem?_cons_zero]; rfl) (by kernel_rfl) (by kernel_rfl) (by kernel_rfl) (by exact fun _ _ _ h => h) (Or.inl ⟨by rfl, ?_⟩) (by assumption) ?_
    rotate_left 1
    · ((intro w hSw; (try dsimp only at hSw); go_simp) <;> with_reducible rfl)
    try simp only [Act.put, List.setIfInBounds_toArray, List.set_cons_zero, List.set_cons_succ]
    refine wpAnyH_take (i := 28) (v := ?_) (by simp only [List.getElem?_toArray, List.getElem?_cons_succ, List.getElem?_cons_zero]; rfl) (by kernel_rfl) (by kernel_rfl) (by kernel_rfl) (by exact fun _ _ _ h => h) (Or.inl ⟨by rfl, ?_⟩) (by assumption) ?_
    rotate_left 1
    · ((intro w hSw; (try dsimp only at hSw); go_simp) <;> with_reducible rfl)
    try simp only [Act.put, List.setIfInBounds_toArray, List.set_cons_zero, List.set_cons_succ]
    refine wpAnyH_done (by kernel_rfl) ?_ _
    have HBW := hide (HBA.out.tr hB)
    have HPW := hide ((hB.block _ lp).trans HP.out)
    have HG := hide (HG1.out.below HBW.out)
    have p0 := cell_at (j := 0) HPW.out rfl
    have lp := (Array.getElem?_eq_some_iff.1 HPW.out).1
    clear hB HS1 HS2 HS3 HS4 HS5 HQ HR lq lr HBA HFP HFQ HFR HG2 HG3 HL2 HL3 HTR HM2 HM3 HK2 HG1
    obtain ⟨j, hj⟩ : ∃ j, which % l.length = j := ⟨_, rfl⟩
    have hjl : j < l.length := by rw [← hj]; exact Nat.mod_lt _ hl1
    have hjt : ((which : Nat) : Int).tmod ((l.length : Nat) : Int) = (j : Int) := by rw [← hj]; exact (Int.ofNat_tmod _ _).symm
    have hlz : (((l.length : Nat) : Int) == 0) = false := by rw [beq_eq_false_iff_ne]; omega
    have hj1 : (0 : Int) ≤ (j : Int) := by omega
    have hj2 : (j : Int) < (l.length : Int) := by omega
    have HJ := hide hj
    clear hj
    go_wp2_with fail
    go_quiet (fail)
    have hB6 := below_dq (bl w5) nq
    have HG6 := hide (HG.out.below hB6)
    have HBW6 := hide (HBW.out.tr hB6)
    have HPW6 := hide ((hB6.block _ lp).trans HPW.out)
    clear p0 lp HG HBW HPW
    generalize w5.drewN nq = w6 at *
    clear hB6 hjt hlz hj1 hj2
    obtain ⟨pp, pb, cp, cb, c0, c1, c2, c3, c4, hfw, hps, hrow⟩ := HG6.out.cells j hjl
    have hgl := HG6.out.lt
    by_cases hb0 : l[j].body.length = 0
    · have hbt : (((l[j].body.length : Nat) : Int) == 0) = true := by rw [hb0]; rfl
      clear hfw hps hrow hb0
      go_wp2_with fail
      refine (works_any _ (HT.out.below (HB3.out.tr HBW6.out))).mono ?_
      rintro r w7 ⟨rfl, hb7⟩
      have HF := hide ((HB3.out.tr HBW6.out).tr hb7)
      clear hb7
      go_wp2_with fail
      go_ret
      exact ⟨rfl, HF.out⟩
    · have hbt : (((l[j].body.length : Nat) : Int) == 0) = false := by rw [beq_eq_false_iff_ne]; omega
      obtain ⟨b, o, rfl⟩ := hrow.addr (by omega)
      have hlb := hfw.lb
      have hcbm := hfw.cb
      unfold maxLen at hcbm
      have hlpos : 1 ≤ l[j].body.length := by omega
      have f3 := HG6.out.free (j * 5 + 3)
      have HFW := hide hfw
      have HPS := hide hps
      have HROW := hide hrow
      clear hfw hps hrow hb0
      by_cases hcb : cb = 1
      · subst hcb
        have hl1 : l[j].body.length = 1 := by omega
        have hd0 : l[j].body.drop 1 = [] := List.drop_of_length_le (by omega)
        have HPG := hide (cut_store (o' := o) (c' := 0) HG6.out hjl c0 c1 c2 c3 c4 HFW.out HPS.out (by rw [hd0]; simp only [St.Row]) (n := 0) (by rw [hd0]; rfl) (Nat.le_refl _) (Nat.zero_le _))
        clear hl1 hd0
        go_wp2_with fail
        have hK : Kept [g1] w6 (w6.setCell ⟨g1, j * 5 + 3, none⟩ (.slice (some ⟨b, o, none⟩) 0 0)) := (Kept.refl [g1] w6).set (.inl (by simp)) _ _
        have hz6 : (w6.setCell ⟨g1, j * 5 + 3, none⟩ (.slice (some ⟨b, o, none⟩) 0 0)).heap.size = w6.heap.size := by simp [World.setCell]
        have HPG := hide (HPG.out.below ((bl _).al (.cells #[.string ⟨l[j].name.toArray⟩, .slice pp l[j].params.length cp, .int .i64 l[j].result, .slice (some ⟨b, o, none⟩) l[j].body.length 1, .int .i64 l[j].count] 42)))
        have HOL : Hid (((w6.setCell ⟨g1, j * 5 + 3, none⟩ (.slice (some ⟨b, o, none⟩) 0 0)).alloc (.cells #[.string ⟨l[j].name.toArray⟩, .slice pp l[j].params.length cp, .int .i64 l[j].result, .slice (some ⟨b, o, none⟩) l[j].body.length 1, .int .i64 l[j].count] 42)).heap[w6.heap.size]? = some (.cells #[.string ⟨l[j].name.toArray⟩, .slice pp l[j].params.length cp, .int .i64 l[j].result, .slice (some ⟨b, o, none⟩) l[j].body.length 1, .int .i64 l[j].count] 42 (0, 0))) := hide (heap_newS hz6.symm)
        have hpl : w3.heap.size < w6.heap.size := (Array.getElem?_eq_some_iff.1 HPW6.out).1
        have HPP := hide ((Below.heap_alloc _ (.cells #[.string ⟨l[j].name.toArray⟩, .slice pp l[j].params.length cp, .int .i64 l[j].result, .slice (some ⟨b, o, none⟩) l[j].body.length 1, .int .i64 l[j].count] 42) _ (by rw [hz6]; exact hpl)).trans (hK.heap (by simp; exact fun e => HNE.out e.symm) HPW6.out))
        have HHS := hide ((has_kept hK).tr (has_av_below (l := [g1]) ((bl _).al (.cells #[.string ⟨l[j].name.toArray⟩, .slice pp l[j].params.length cp, .int .i64 l[j].result, .slice (some ⟨b, o, none⟩) l[j].body.length 1, .int .i64 l[j].count] 42))))
        have HBS := hide (((HB3.out.tr HBW6.out).setCell (p := ⟨g1, j * 5 + 3, none⟩) HGE.out (.slice (some ⟨b, o, none⟩) 0 0)).al (.cells #[.string ⟨l[j].name.toArray⟩, .slice pp l[j].params.length cp, .int .i64 l[j].result, .slice (some ⟨b, o, none⟩) l[j].body.length 1, .int .i64 l[j].count] 42))
        clear hK hz6 hpl HPW6 HG6 HBW6 c0 c1 c2 c3 c4 f3 hgl
        generalize (w6.setCell ⟨g1, j * 5 + 3, none⟩ (.slice (some ⟨b, o, none⟩) 0 0)).alloc (.cells #[.string ⟨l[j].name.toArray⟩, .slice pp l[j].params.length cp, .int .i64 l[j].result, .slice (some ⟨b, o, none⟩) l[j].body.length 1, .int .i64 l[j].count] 42) = WS at *
        generalize hcbo : 1 = cbo at HOL HFW
        clear hcbo
        obtain ⟨f', hf'⟩ : ∃ f' : Fn, f' = { l[j] with body := l[j].body.drop 1 } := ⟨_, rfl⟩
        rw [← hf'] at HPG
        have hset : (l.set j f').length = l.length := List.length_set ..
        have hgs : (l.set j f')[j]'(by rw [hset]; exact hjl) = f' := List.getElem_set_self ..
        have hcc := HPG.out.cells j (by rw [hset]; exact hjl)
        rw [hgs] at hcc
        obtain ⟨pp2, pb2, cp2, cb2, d0, d1, d2, d3, d4, hfw2, hps2, hrow2⟩ := hcc
        have HVF : Hid (Fn.Val WS f' (.agg #[.string ⟨f'.name.toArray⟩, .slice pp2 f'.params.length cp2, .int .i64 f'.result, .slice pb2 f'.body.length cb2, .int .i64 f'.count])) := hide ⟨pp2, pb2, cp2, cb2, rfl, hfw2, hps2.has has_av, hrow2.has has_av⟩
        have HVO : Hid (Fn.Val WS l[j] (.agg #[.string ⟨l[j].name.toArray⟩, .slice pp l[j].params.length cp, .int .i64 l[j].result, .slice (some ⟨b, o, none⟩) l[j].body.length cbo, .int .i64 l[j].count])) := hide ⟨pp, some ⟨b, o, none⟩, cp, cbo, rfl, HFW.out, (HPS.out.has HHS.out).has has_av, (HROW.out.has HHS.out).has has_av⟩
        have hbl : f'.body.length ≠ l[j].body.length := by rw [hf']; simp only [List.length_drop]; omega
        have HSF := hide fun (W : World) (hW : Below WS.heap.size WS W) => sameF_is l[j] f' false (eqF_body (Ne.symm hbl)) _ _ W (HVO.out.keep hW (Nat.le_refl _)) (HVF.out.keep hW (Nat.le_refl _)) (HT.out.below (HBS.out.tr hW))
        have HSC := hide (same_cut hjl hbl)
        have HNM := hide fun (W : World) (hW : Below WS.heap.size WS W) => number_fns (l.set j f') _ rfl l.length hset (some ⟨g1, 0, none⟩) k1 W ((HPG.out.below hW).fns (by rw [hset]; exact HL1.out.1) HL1.out.2) (HT.out.below (HBS.out.tr hW))
        generalize numberM (l.set j f') = ln at *
        have HSM := hide fun (W : World) (g k : Nat) (a : Option Addr) (c : Nat) (h1 : Fns W l (some ⟨g, 0, none⟩) k) (h2 : Fns W ln a c) (hW : Below WS.heap.size WS W) => sameM_is l ln false HSC.out _ _ rfl rfl (some ⟨g, 0, none⟩) a k c W h1 h2 (HT.out.below (HBS.out.tr hW))
        have HWK := hide fun (W : World) (hW : Below WS.heap.size WS W) => works_any W (HT.out.below (HBS.out.tr hW))
        have o0 := cell_at (j := 0) HOL.out rfl
        have o1 := cell_at (j := 1) HOL.out rfl
        have o2 := cell_at (j := 2) HOL.out rfl
        have o3 := cell_at (j := 3) HOL.out rfl
        have o4 := cell_at (j := 4) HOL.out rfl
        have p0 := cell_at (j := 0) HPP.out rfl
        have hB := (bl WS).dr
        clear hfw2 hps2 hrow2 hset hgs hbl hf'
        refine wp_region_held_drew (S := (fun w' => w'.cell? ⟨w6.heap.size, 0, none⟩ = some (.string ⟨l[j].name.toArray⟩) ∧ w'.cell? ⟨w6.heap.size, 1, none⟩ = some (.slice pp l[j].params.length cp) ∧ w'.cell? ⟨w6.heap.size, 2, none⟩ = some (.int .i64 l[j].result) ∧ w'.cell? ⟨w6.heap.size, 3, none⟩ = some (.slice (some ⟨b, o, none⟩) l[j].body.length cbo) ∧ w'.cell? ⟨w6.heap.size, 4, none⟩ = some (.int .i64 l[j].count) ∧
  w'.cell? ⟨g1, j * 5, none⟩ = some (.string ⟨f'.name.toArray⟩) ∧ w'.cell? ⟨g1, j * 5 + 1, none⟩ = some (.slice pp2 f'.params.length cp2) ∧ w'.cell? ⟨g1, j * 5 + 2, none⟩ = some (.int .i64 f'.result) ∧ w'.cell? ⟨g1, j * 5 + 3, none⟩ = some (.slice pb2 f'.body.length cb2) ∧ w'.cell? ⟨g1, j * 5 + 4, none⟩ = some (.int .i64 f'.count) ∧ w'.cell? ⟨w3.heap.size, 0, none⟩ = some (.slice (some ⟨g1, 0, none⟩) l.length k1))) (by kernel_rfl) ?_ (fun hHeld => ?_)
        · ((try dsimp only); first | done | exact ⟨cell_keep o0 hB (Nat.le_refl _), cell_keep o1 hB (Nat.le_refl _), cell_keep o2 hB (Nat.le_refl _), cell_keep o3 hB (Nat.le_refl _), cell_keep o4 hB (Nat.le_refl _), cell_keep d0 hB (Nat.le_refl _), cell_keep d1 hB (Nat.le_refl _), cell_keep d2 hB (Nat.le_refl _), cell_keep d3 hB (Nat.le_refl _), cell_keep d4 hB (Nat.le_refl _), cell_keep p0 hB (Nat.le_refl _)⟩)
        refine wpAnyH_take (i := 0) (v := ?_) (by simp only [List.getElem?_toArray, List.getElem?_cons_succ, List.getElem?_cons_zero]; rfl) (by kernel_rfl) (by kernel_rfl) (by kernel_rfl) (by exact fun _ _ _ h => h) (Or.inl ⟨by rfl, ?_⟩) (by assumption) ?_
        rotate_left 1
        · ((intro w hSw; (try dsimp only at hSw); go_simp) <;> with_reducible rfl)
        try simp only [Act.put, List.setIfInBounds_toArray, List.set_cons_zero, List.set_cons_succ]
        refine wpAnyH_take (i := 1) (v := ?_) (by simp only [List.getElem?_toArray, List.getElem?_cons_succ, List.getElem?_cons_zero]; rfl) (by kernel_rfl) (by kernel_rfl) (by kernel_rfl) (by exact fun _ _ _ h => h) (Or.inl ⟨by rfl, ?_⟩) (by assumption) ?_
        rotate_left 1
        · ((intro w hSw; (try dsimp only at hSw); go_simp) <;> with_reducible rfl)
        try simp only [Act.put, List.setIfInBounds_toArray, List.set_cons_zero, List.set_cons_succ]
        refine wpAnyH_take (i := 2) (v := ?_) (by simp only [List.getElem?_toArray, List.getElem?_cons_succ, List.getElem?_cons_zero]; rfl) (by kernel_rfl) (by kernel_rfl) (by kernel_rfl) (by exact fun _ _ _ h => h) (Or.inl ⟨by rfl, ?_⟩) (by assumption) ?_
        rotate_left 1
        · ((intro w hSw; (try dsimp only at hSw); go_simp) <;> with_reducible rfl)
        try simp only [Act.put, List.setIfInBounds_toArray, List.set_cons_zero, List.set_cons_succ]
        refine wpAnyH_take (i := 3) (v := ?_) (by simp only [List.getElem?_toArray, List.getElem?_cons_succ, List.getElem?_cons_zero]; rfl) (by kernel_rfl) (by kernel_rfl) (by kernel_rfl) (by exact fun _ _ _ h => h) (Or.inl ⟨by rfl, ?_⟩) (by assumption) ?_
        rotate_left 1
        · ((intro w hSw; (try dsimp only at hSw); go_simp) <;> with_reducible rfl)
        try simp only [Act.put, List.setIfInBounds_toArray, List.set_cons_zero, List.set_cons_succ]
        refine wpAnyH_ready (rs := [4]) (by kernel_rfl) (by simp) ?_
        refine AllReadyH.cons rfl (fun K hK => ?_) AllReadyH.nil
        go_simp
        (go_at_call 23; (with_reducible refine (HSF.out _ hB).mono ?_); rintro r w7 ⟨rfl, hb⟩; have hB := hB.tr hb; clear hb)
        try go_wp2_with fail
        refine hK.out _ _ ?_ (fun hHeld => ?_)
        · ((try dsimp only); first | done | exact ⟨cell_keep o0 hB (Nat.le_refl _), cell_keep o1 hB (Nat.le_refl _), cell_keep o2 hB (Nat.le_refl _), cell_keep o3 hB (Nat.le_refl _), cell_keep o4 hB (Nat.le_refl _), cell_keep d0 hB (Nat.le_refl _), cell_keep d1 hB (Nat.le_refl _), cell_keep d2 hB (Nat.le_refl _), cell_keep d3 hB (Nat.le_refl _), cell_keep d4 hB (Nat.le_refl _), cell_keep p0 hB (Nat.le_refl _)⟩)
        clear hK K
        try simp only [Act.put, List.setIfInBounds_toArray, List.set_cons_zero, List.set_cons_succ]
        refine wpAnyH_take (i := 5) (v := ?_) (by simp only [List.getElem?_toArray, List.getElem?_cons_succ, List.getElem?_cons_zero]; rfl) (by kernel_rfl) (by kernel_rfl) (by kernel_rfl) (by exact fun _ _ _ h => h) (Or.inl ⟨by rfl, ?_⟩) (by assumption) ?_
        rotate_left 1
        · ((intro w hSw; (try dsimp only at hSw); go_simp) <;> with_reducible rfl)
        try simp only [Act.put, List.setIfInBounds_toArray, List.set_cons_zero, List.set_cons_succ]
        refine wpAnyH_take (i := 6) (v := ?_) (by simp only [List.getElem?_toArray, List.getElem?_cons_succ, List.getElem?_cons_zero]; rfl) (by kernel_rfl) (by kernel_rfl) (by kernel_rfl) (by exact fun _ _ _ h => h) (Or.inl ⟨by rfl, ?_⟩) (by assumption) ?_
        rotate_left 1
        · ((intro w hSw; (try dsimp only at hSw); go_simp) <;> with_reducible rfl)
        try simp only [Act.put, List.setIfInBounds_toArray, List.set_cons_zero, List.set_cons_succ]
        refine wpAnyH_take (i := 7) (v := ?_) (by simp only [List.getElem?_toArray, List.getElem?_cons_succ, List.getElem?_cons_zero]; rfl) (by kernel_rfl) (by kernel_rfl) (by kernel_rfl) (by exact fun _ _ _ h => h) (Or.inl ⟨by rfl, ?_⟩) (by assumption) ?_
        rotate_left 1
        · ((intro w hSw; (try dsimp only at hSw); go_simp) <;> with_reducible rfl)
        try simp only [Act.put, List.setIfInBounds_toArray, List.set_cons_zero, List.set_cons_succ]
        refine wpAnyH_take (i := 9) (v := ?_) (by simp only [List.getElem?_toArray, List.getElem?_cons_succ, List.getElem?_cons_zero]; rfl) (by kernel_rfl) (by kernel_rfl) (by kernel_rfl) (by exact fun _ _ _ h => h) (Or.inl ⟨by rfl, ?_⟩) (by assumption) ?_
        rotate_left 1
        · ((intro w hSw; (try dsimp only at hSw); go_simp) <;> with_reducible rfl)
        try simp only [Act.put, List.setIfInBounds_toArray, List.set_cons_zero, List.set_cons_succ]
        refine wpAnyH_ready (rs := [8]) (by kernel_rfl) (by simp) ?_
        refine AllReadyH.cons rfl (fun K hK => ?_) AllReadyH.nil
        go_simp
        (go_at_call 14; (with_reducible refine (HM1.out _ (HBS.out.tr hB)).mono ?_); rintro r w8 ⟨⟨g5, k5, rfl, q1, q2, q3, hp5⟩, hb⟩; have HP5 := hide hp5.out; have HL5 := hide (⟨q1, q2⟩ : _ ∧ _); have hB := hB.tr hb; clear hb q1 q2 q3 hp5)
        try go_wp2_with fail
        refine hK.out _ _ ?_ (fun hHeld => ?_)
        · ((try dsimp only); first | done | exact ⟨cell_keep o0 hB (Nat.le_refl _), cell_keep o1 hB (Nat.le_refl _), cell_keep o2 hB (Nat.le_refl _), cell_keep o3 hB (Nat.le_refl _), cell_keep o4 hB (Nat.le_refl _), cell_keep d0 hB (Nat.le_refl _), cell_keep d1 hB (Nat.le_refl _), cell_keep d2 hB (Nat.le_refl _), cell_keep d3 hB (Nat.le_refl _), cell_keep d4 hB (Nat.le_refl _), cell_keep p0 hB (Nat.le_refl _)⟩)
        clear hK K
        try simp only [Act.put, List.setIfInBounds_toArray, List.set_cons_zero, List.set_cons_succ]
        refine wpAnyH_ready (rs := [10]) (by kernel_rfl) (by simp) ?_
        refine AllReadyH.cons rfl (fun K hK => ?_) AllReadyH.nil
        go_simp
        (go_at_call 17; (with_reducible refine (HNM.out _ hB).mono ?_); rintro r w9 ⟨⟨a6, k6, rfl, hf6⟩, hb⟩; have HP5 := hide (HP5.out.below hb); have HF6 := hide hf6.out; have hB := hB.tr hb; clear hb hf6)
        try go_wp2_with fail
        refine hK.out _ _ ?_ (fun hHeld => ?_)
        · ((try dsimp only); first | done | exact ⟨cell_keep o0 hB (Nat.le_refl _), cell_keep o1 hB (Nat.le_refl _), cell_keep o2 hB (Nat.le_refl _), cell_keep o3 hB (Nat.le_refl _), cell_keep o4 hB (Nat.le_refl _), cell_keep d0 hB (Nat.le_refl _), cell_keep d1 hB (Nat.le_refl _), cell_keep d2 hB (Nat.le_refl _), cell_keep d3 hB (Nat.le_refl _), cell_keep d4 hB (Nat.le_refl _), cell_keep p0 hB (Nat.le_refl _)⟩)
        clear hK K
        try simp only [Act.put, List.setIfInBounds_toArray, List.set_cons_zero, List.set_cons_succ]
        refine wpAnyH_ready (rs := [11]) (by kernel_rfl) (by simp) ?_
        refine AllReadyH.cons rfl (fun K hK => ?_) AllReadyH.nil
        go_simp
        (go_at_call 21; (with_reducible refine (HSM.out _ _ _ _ _ (HP5.out.fns HL5.out.1 HL5.out.2) HF6.out hB).mono ?_); rintro r w10 ⟨rfl, hb⟩; have hB := hB.tr hb; clear hb)
        try go_wp2_with fail
        refine hK.out _ _ ?_ (fun hHeld => ?_)
        · ((try dsimp only); first | done | exact ⟨cell_keep o0 hB (Nat.le_refl _), cell_keep o1 hB (Nat.le_refl _), cell_keep o2 hB (Nat.le_refl _), cell_keep o3 hB (Nat.le_refl _), cell_keep o4 hB (Nat.le_refl _), cell_keep d0 hB (Nat.le_refl _), cell_keep d1 hB (Nat.le_refl _), cell_keep d2 hB (Nat.le_refl _), cell_keep d3 hB (Nat.le_refl _), cell_keep d4 hB (Nat.le_refl _), cell_keep p0 hB (Nat.le_refl _)⟩)
        clear hK K
        try simp only [Act.put, List.setIfInBounds_toArray, List.set_cons_zero, List.set_cons_succ]
        refine wpAnyH_take (i := 12) (v := ?_) (by simp only [List.getElem?_toArray, List.getElem?_cons_succ, List.getElem?_cons_zero]; rfl) (by kernel_rfl) (by kernel_rfl) (by kernel_rfl) (by exact fun _ _ _ h => h) (Or.inl ⟨by rfl, ?_⟩) (by assumption) ?_
        rotate_left 1
        · ((intro w hSw; (try dsimp only at hSw); go_simp) <;> with_reducible rfl)
        try simp only [Act.put, List.setIfInBounds_toArray, List.set_cons_zero, List.set_cons_succ]
        refine wpAnyH_take (i := 13) (v := ?_) (by simp only [List.getElem?_toArray, List.getElem?_cons_succ, List.getElem?_cons_zero]; rfl) (by kernel_rfl) (by kernel_rfl) (by kernel_rfl) (by exact fun _ _ _ h => h) (Or.inl ⟨by rfl, ?_⟩) (by assumption) ?_
        rotate_left 1
        · ((intro w hSw; (try dsimp only at hSw); go_simp) <;> with_reducible rfl)
        try simp only [Act.put, List.setIfInBounds_toArray, List.set_cons_zero, List.set_cons_succ]
        refine wpAnyH_take (i := 14) (v := ?_) (by simp only [List.getElem?_toArray, List.getElem?_cons_succ, List.getElem?_cons_zero]; rfl) (by kernel_rfl) (by kernel_rfl) (by kernel_rfl) (by exact fun _ _ _ h => h) (Or.inl ⟨by rfl, ?_⟩) (by assumption) ?_
        rotate_left 1
        · ((intro w hSw; (try dsimp only at hSw); go_simp) <;> with_reducible rfl)
        try simp only [Act.put, List.setIfInBounds_toArray, List.set_cons_zero, List.set_cons_succ]
        refine wpAnyH_ready (rs := [15]) (by kernel_rfl) (by simp) ?_
        refine AllReadyH.cons rfl (fun K hK => ?_) AllReadyH.nil
        go_simp
        (go_at_call 15; (with_reducible refine (HWK.out _ hB).mono ?_); rintro r w11 ⟨rfl, hb⟩; have hB := hB.tr hb; clear hb)
        try go_wp2_with fail
        refine hK.out _ _ ?_ (fun hHeld => ?_)
        · ((try dsimp only); first | done | exact ⟨cell_keep o0 hB (Nat.le_refl _), cell_keep o1 hB (Nat.le_refl _), cell_keep o2 hB (Nat.le_refl _), cell_keep o3 hB (Nat.le_refl _), cell_keep o4 hB (Nat.le_refl _), cell_keep d0 hB (Nat.le_refl _), cell_keep d1 hB (Nat.le_refl _), cell_keep d2 hB (Nat.le_refl _), cell_keep d3 hB (Nat.le_refl _), cell_keep d4 hB (Nat.le_refl _), cell_keep p0 hB (Nat.le_refl _)⟩)
        clear hK K
        try simp only [Act.put, List.setIfInBounds_toArray, List.set_cons_zero, List.set_cons_succ]
        refine wpAnyH_take (i := 16) (v := ?_) (by simp only [List.getElem?_toArray, List.getElem?_cons_succ, List.getElem?_cons_zero]; rfl) (by kernel_rfl) (by kernel_rfl) (by kernel_rfl) (by exact fun _ _ _ h => h) (Or.inl ⟨by rfl, ?_⟩) (by assumption) ?_
        rotate_left 1
        · ((intro w hSw; (try dsimp only at hSw); go_simp) <;> with_reducible rfl)
        try simp only [Act.put, List.setIfInBounds_toArray, List.set_cons_zero, List.set_cons_succ]
        refine wpAnyH_take (i := 17) (v := ?_) (by simp only [List.getElem?_toArray, List.getElem?_cons_succ, List.getElem?_cons_zero]; rfl) (by kernel_rfl) (by kernel_rfl) (by kernel_rfl) (by exact fun _ _ _ h => h) (Or.inl ⟨by rfl, ?_⟩) (by assumption) ?_
        rotate_left 1
        · ((intro w hSw; (try dsimp only at hSw); go_simp) <;> with_reducible rfl)
        try simp only [Act.put, List.setIfInBounds_toArray, List.set_cons_zero, List.set_cons_succ]
        refine wpAnyH_done (by kernel_rfl) ?_ _
        go_wp2_with fail
        go_ret
        exact ⟨rfl, HBS.out.tr hB⟩
      · have HPG := hide (cut_store (o' := o + 8) (c' := cb - 1) HG6.out hjl c0 c1 c2 c3 c4 HFW.out HPS.out (row_tail HROW.out) (n := l[j].body.length - 1) (by rw [List.length_drop]) (by omega) (by unfold maxLen; omega))
        go_wp2_with fail
        have hK : Kept [g1] w6 (w6.setCell ⟨g1, j * 5 + 3, none⟩ (.slice (some ⟨b, o + 8, none⟩) (l[j].body.length - 1) (cb - 1))) := (Kept.refl [g1] w6).set (.inl (by simp)) _ _
        have hz6 : (w6.setCell ⟨g1, j * 5 + 3, none⟩ (.slice (some ⟨b, o + 8, none⟩) (l[j].body.length - 1) (cb - 1))).heap.size = w6.heap.size := by simp [World.setCell]
        have HPG := hide (HPG.out.below ((bl _).al (.cells #[.string ⟨l[j].name.toArray⟩, .slice pp l[j].params.length cp, .int .i64 l[j].result, .slice (some ⟨b, o, none⟩) l[j].body.length cb, .int .i64 l[j].count] 42)))
        have HOL : Hid (((w6.setCell ⟨g1, j * 5 + 3, none⟩ (.slice (some ⟨b, o + 8, none⟩) (l[j].body.length - 1) (cb - 1))).alloc (.cells #[.string ⟨l[j].name.toArray⟩, .slice pp l[j].params.length cp, .int .i64 l[j].result, .slice (some ⟨b, o, none⟩) l[j].body.length cb, .int .i64 l[j].count] 42)).heap[w6.heap.size]? = some (.cells #[.string ⟨l[j].name.toArray⟩, .slice pp l[j].params.length cp, .int .i64 l[j].result, .slice (some ⟨b, o, none⟩) l[j].body.length cb, .int .i64 l[j].count] 42 (0, 0))) := hide (heap_newS hz6.symm)
        have hpl : w3.heap.size < w6.heap.size := (Array.getElem?_eq_some_iff.1 HPW6.out).1
        have HPP := hide ((Below.heap_alloc _ (.cells #[.string ⟨l[j].name.toArray⟩, .slice pp l[j].params.length cp, .int .i64 l[j].result, .slice (some ⟨b, o, none⟩) l[j].body.length cb, .int .i64 l[j].count] 42) _ (by rw [hz6]; exact hpl)).trans (hK.heap (by simp; exact fun e => HNE.out e.symm) HPW6.out))
        have HHS := hide ((has_kept hK).tr (has_av_below (l := [g1]) ((bl _).al (.cells #[.string ⟨l[j].name.toArray⟩, .slice pp l[j].params.length cp, .int .i64 l[j].result, .slice (some ⟨b, o, none⟩) l[j].body.length cb, .int .i64 l[j].count] 42))))
        have HBS := hide (((HB3.out.tr HBW6.out).setCell (p := ⟨g1, j * 5 + 3, none⟩) HGE.out (.slice (some ⟨b, o + 8, none⟩) (l[j].body.length - 1) (cb - 1))).al (.cells #[.string ⟨l[j].name.toArray⟩, .slice pp l[j].params.length cp, .int .i64 l[j].result, .slice (some ⟨b, o, none⟩) l[j].body.length cb, .int .i64 l[j].count] 42))
        clear hK hz6 hpl HPW6 HG6 HBW6 c0 c1 c2 c3 c4 f3 hgl
        generalize (w6.setCell ⟨g1, j * 5 + 3, none⟩ (.slice (some ⟨b, o + 8, none⟩) (l[j].body.length - 1) (cb - 1))).alloc (.cells #[.string ⟨l[j].name.toArray⟩, .slice pp l[j].params.length cp, .int .i64 l[j].result, .slice (some ⟨b, o, none⟩) l[j].body.length cb, .int .i64 l[j].count] 42) = WS at *
        generalize hcbo : cb = cbo at HOL HFW
        clear hcbo
        obtain ⟨f', hf'⟩ : ∃ f' : Fn, f' = { l[j] with body := l[j].body.drop 1 } := ⟨_, rfl⟩
        rw [← hf'] at HPG
        have hset : (l.set j f').length = l.length := List.length_set ..
        have hgs : (l.set j f')[j]'(by rw [hset]; exact hjl) = f' := List.getElem_set_self ..
        have hcc := HPG.out.cells j (by rw [hset]; exact hjl)
        rw [hgs] at hcc
        obtain ⟨pp2, pb2, cp2, cb2, d0, d1, d2, d3, d4, hfw2, hps2, hrow2⟩ := hcc
        have HVF : Hid (Fn.Val WS f' (.agg #[.string ⟨f'.name.toArray⟩, .slice pp2 f'.params.length cp2, .int .i64 f'.result, .slice pb2 f'.body.length cb2, .int .i64 f'.count])) := hide ⟨pp2, pb2, cp2, cb2, rfl, hfw2, hps2.has has_av, hrow2.has has_av⟩
        have HVO : Hid (Fn.Val WS l[j] (.agg #[.string ⟨l[j].name.toArray⟩, .slice pp l[j].params.length cp, .int .i64 l[j].result, .slice (some ⟨b, o, none⟩) l[j].body.length cbo, .int .i64 l[j].count])) := hide ⟨pp, some ⟨b, o, none⟩, cp, cbo, rfl, HFW.out, (HPS.out.has HHS.out).has has_av, (HROW.out.has HHS.out).has has_av⟩
        have hbl : f'.body.length ≠ l[j].body.length := by rw [hf']; simp only [List.length_drop]; omega
        have HSF := hide fun (W : World) (hW : Below WS.heap.size WS W) => sameF_is l[j] f' false (eqF_body (Ne.symm hbl)) _ _ W (HVO.out.keep hW (Nat.le_refl _)) (HVF.out.keep hW (Nat.le_refl _)) (HT.out.below (HBS.out.tr hW))
        have HSC := hide (same_cut hjl hbl)
        have HNM := hide fun (W : World) (hW : Below WS.heap.size WS W) => number_fns (l.set j f') _ rfl l.length hset (some ⟨g1, 0, none⟩) k1 W ((HPG.out.below hW).fns (by rw [hset]; exact HL1.out.1) HL1.out.2) (HT.out.below (HBS.out.tr hW))
        generalize numberM (l.set j f') = ln at *
        have HSM := hide fun (W : World) (g k : Nat) (a : Option Addr) (c : Nat) (h1 : Fns W l (some ⟨g, 0, none⟩) k) (h2 : Fns W ln a c) (hW : Below WS.heap.size WS W) => sameM_is l ln false HSC.out _ _ rfl rfl (some ⟨g, 0, none⟩) a k c W h1 h2 (HT.out.below (HBS.out.tr hW))
        have HWK := hide fun (W : World) (hW : Below WS.heap.size WS W) => works_any W (HT.out.below (HBS.out.tr hW))
        have o0 := cell_at (j := 0) HOL.out rfl
        have o1 := cell_at (j := 1) HOL.out rfl
        have o2 := cell_at (j := 2) HOL.out rfl
        have o3 := cell_at (j := 3) HOL.out rfl
        have o4 := cell_at (j := 4) HOL.out rfl
        have p0 := cell_at (j := 0) HPP.out rfl
        have hB := (bl WS).dr
        clear hfw2 hps2 hrow2 hset hgs hbl hf'
        refine wp_region_held_drew (S := (fun w' => w'.cell? ⟨w6.heap.size, 0, none⟩ = some (.string ⟨l[j].name.toArray⟩) ∧ w'.cell? ⟨w6.heap.size, 1, none⟩ = some (.slice pp l[j].params.length cp) ∧ w'.cell? ⟨w6.heap.size, 2, none⟩ = some (.int .i64 l[j].result) ∧ w'.cell? ⟨w6.heap.size, 3, none⟩ = some (.slice (some ⟨b, o, none⟩) l[j].body.length cbo) ∧ w'.cell? ⟨w6.heap.size, 4, none⟩ = some (.int .i64 l[j].count) ∧
  w'.cell? ⟨g1, j * 5, none⟩ = some (.string ⟨f'.name.toArray⟩) ∧ w'.cell? ⟨g1, j * 5 + 1, none⟩ = some (.slice pp2 f'.params.length cp2) ∧ w'.cell? ⟨g1, j * 5 + 2, none⟩ = some (.int .i64 f'.result) ∧ w'.cell? ⟨g1, j * 5 + 3, none⟩ = some (.slice pb2 f'.body.length cb2) ∧ w'.cell? ⟨g1, j * 5 + 4, none⟩ = some (.int .i64 f'.count) ∧ w'.cell? ⟨w3.heap.size, 0, none⟩ = some (.slice (some ⟨g1, 0, none⟩) l.length k1))) (by kernel_rfl) ?_ (fun hHeld => ?_)
        · ((try dsimp only); first | done | exact ⟨cell_keep o0 hB (Nat.le_refl _), cell_keep o1 hB (Nat.le_refl _), cell_keep o2 hB (Nat.le_refl _), cell_keep o3 hB (Nat.le_refl _), cell_keep o4 hB (Nat.le_refl _), cell_keep d0 hB (Nat.le_refl _), cell_keep d1 hB (Nat.le_refl _), cell_keep d2 hB (Nat.le_refl _), cell_keep d3 hB (Nat.le_refl _), cell_keep d4 hB (Nat.le_refl _), cell_keep p0 hB (Nat.le_refl _)⟩)
        refine wpAnyH_take (i := 0) (v := ?_) (by simp only [List.getElem?_toArray, List.getElem?_cons_succ, List.getElem?_cons_zero]; rfl) (by kernel_rfl) (by kernel_rfl) (by kernel_rfl) (by exact fun _ _ _ h => h) (Or.inl ⟨by rfl, ?_⟩) (by assumption) ?_
        rotate_left 1
        · ((intro w hSw; (try dsimp only at hSw); go_simp) <;> with_reducible rfl)
        try simp only [Act.put, List.setIfInBounds_toArray, List.set_cons_zero, List.set_cons_succ]
        refine wpAnyH_take (i := 1) (v := ?_) (by simp only [List.getElem?_toArray, List.getElem?_cons_succ, List.getElem?_cons_zero]; rfl) (by kernel_rfl) (by kernel_rfl) (by kernel_rfl) (by exact fun _ _ _ h => h) (Or.inl ⟨by rfl, ?_⟩) (by assumption) ?_
        rotate_left 1
        · ((intro w hSw; (try dsimp only at hSw); go_simp) <;> with_reducible rfl)
        try simp only [Act.put, List.setIfInBounds_toArray, List.set_cons_zero, List.set_cons_succ]
        refine wpAnyH_take (i := 2) (v := ?_) (by simp only [List.getElem?_toArray, List.getElem?_cons_succ, List.getElem?_cons_zero]; rfl) (by kernel_rfl) (by kernel_rfl) (by kernel_rfl) (by exact fun _ _ _ h => h) (Or.inl ⟨by rfl, ?_⟩) (by assumption) ?_
        rotate_left 1
        · ((intro w hSw; (try dsimp only at hSw); go_simp) <;> with_reducible rfl)
        try simp only [Act.put, List.setIfInBounds_toArray, List.set_cons_zero, List.set_cons_succ]
        refine wpAnyH_take (i := 3) (v := ?_) (by simp only [List.getElem?_toArray, List.getElem?_cons_succ, List.getElem?_cons_zero]; rfl) (by kernel_rfl) (by kernel_rfl) (by kernel_rfl) (by exact fun _ _ _ h => h) (Or.inl ⟨by rfl, ?_⟩) (by assumption) ?_
        rotate_left 1
        · ((intro w hSw; (try dsimp only at hSw); go_simp) <;> with_reducible rfl)
        try simp only [Act.put, List.setIfInBounds_toArray, List.set_cons_zero, List.set_cons_succ]
        refine wpAnyH_ready (rs := [4]) (by kernel_rfl) (by simp) ?_
        refine AllReadyH.cons rfl (fun K hK => ?_) AllReadyH.nil
        go_simp
        (go_at_call 23; (with_reducible refine (HSF.out _ hB).mono ?_); rintro r w7 ⟨rfl, hb⟩; have hB := hB.tr hb; clear hb)
        try go_wp2_with fail
        refine hK.out _ _ ?_ (fun hHeld => ?_)
        · ((try dsimp only); first | done | exact ⟨cell_keep o0 hB (Nat.le_refl _), cell_keep o1 hB (Nat.le_refl _), cell_keep o2 hB (Nat.le_refl _), cell_keep o3 hB (Nat.le_refl _), cell_keep o4 hB (Nat.le_refl _), cell_keep d0 hB (Nat.le_refl _), cell_keep d1 hB (Nat.le_refl _), cell_keep d2 hB (Nat.le_refl _), cell_keep d3 hB (Nat.le_refl _), cell_keep d4 hB (Nat.le_refl _), cell_keep p0 hB (Nat.le_refl _)⟩)
        clear hK K
        try simp only [Act.put, List.setIfInBounds_toArray, List.set_cons_zero, List.set_cons_succ]
        refine wpAnyH_take (i := 5) (v := ?_) (by simp only [List.getElem?_toArray, List.getElem?_cons_succ, List.getElem?_cons_zero]; rfl) (by kernel_rfl) (by kernel_rfl) (by kernel_rfl) (by exact fun _ _ _ h => h) (Or.inl ⟨by rfl, ?_⟩) (by assumption) ?_
        rotate_left 1
        · ((intro w hSw; (try dsimp only at hSw); go_simp) <;> with_reducible rfl)
        try simp only [Act.put, List.setIfInBounds_toArray, List.set_cons_zero, List.set_cons_succ]
        refine wpAnyH_take (i := 6) (v := ?_) (by simp only [List.getElem?_toArray, List.getElem?_cons_succ, List.getElem?_cons_zero]; rfl) (by kernel_rfl) (by kernel_rfl) (by kernel_rfl) (by exact fun _ _ _ h => h) (Or.inl ⟨by rfl, ?_⟩) (by assumption) ?_
        rotate_left 1
        · ((intro w hSw; (try dsimp only at hSw); go_simp) <;> with_reducible rfl)
        try simp only [Act.put, List.setIfInBounds_toArray, List.set_cons_zero, List.set_cons_succ]
        refine wpAnyH_take (i := 7) (v := ?_) (by simp only [List.getElem?_toArray, List.getElem?_cons_succ, List.getElem?_cons_zero]; rfl) (by kernel_rfl) (by kernel_rfl) (by kernel_rfl) (by exact fun _ _ _ h => h) (Or.inl ⟨by rfl, ?_⟩) (by assumption) ?_
        rotate_left 1
        · ((intro w hSw; (try dsimp only at hSw); go_simp) <;> with_reducible rfl)
        try simp only [Act.put, List.setIfInBounds_toArray, List.set_cons_zero, List.set_cons_succ]
        refine wpAnyH_take (i := 9) (v := ?_) (by simp only [List.getElem?_toArray, List.getElem?_cons_succ, List.getElem?_cons_zero]; rfl) (by kernel_rfl) (by kernel_rfl) (by kernel_rfl) (by exact fun _ _ _ h => h) (Or.inl ⟨by rfl, ?_⟩) (by assumption) ?_
        rotate_left 1
        · ((intro w hSw; (try dsimp only at hSw); go_simp) <;> with_reducible rfl)
        try simp only [Act.put, List.setIfInBounds_toArray, List.set_cons_zero, List.set_cons_succ]
        refine wpAnyH_ready (rs := [8]) (by kernel_rfl) (by simp) ?_
        refine AllReadyH.cons rfl (fun K hK => ?_) AllReadyH.nil
        go_simp
        (go_at_call 14; (with_reducible refine (HM1.out _ (HBS.out.tr hB)).mono ?_); rintro r w8 ⟨⟨g5, k5, rfl, q1, q2, q3, hp5⟩, hb⟩; have HP5 := hide hp5.out; have HL5 := hide (⟨q1, q2⟩ : _ ∧ _); have hB := hB.tr hb; clear hb q1 q2 q3 hp5)
        try go_wp2_with fail
        refine hK.out _ _ ?_ (fun hHeld => ?_)
        · ((try dsimp only); first | done | exact ⟨cell_keep o0 hB (Nat.le_refl _), cell_keep o1 hB (Nat.le_refl _), cell_keep o2 hB (Nat.le_refl _), cell_keep o3 hB (Nat.le_refl _), cell_keep o4 hB (Nat.le_refl _), cell_keep d0 hB (Nat.le_refl _), cell_keep d1 hB (Nat.le_refl _), cell_keep d2 hB (Nat.le_refl _), cell_keep d3 hB (Nat.le_refl _), cell_keep d4 hB (Nat.le_refl _), cell_keep p0 hB (Nat.le_refl _)⟩)
        clear hK K
        try simp only [Act.put, List.setIfInBounds_toArray, List.set_cons_zero, List.set_cons_succ]
        refine wpAnyH_ready (rs := [10]) (by kernel_rfl) (by simp) ?_
        refine AllReadyH.cons rfl (fun K hK => ?_) AllReadyH.nil
        go_simp
        (go_at_call 17; (with_reducible refine (HNM.out _ hB).mono ?_); rintro r w9 ⟨⟨a6, k6, rfl, hf6⟩, hb⟩; have HP5 := hide (HP5.out.below hb); have HF6 := hide hf6.out; have hB := hB.tr hb; clear hb hf6)
        try go_wp2_with fail
        refine hK.out _ _ ?_ (fun hHeld => ?_)
        · ((try dsimp only); first | done | exact ⟨cell_keep o0 hB (Nat.le_refl _), cell_keep o1 hB (Nat.le_refl _), cell_keep o2 hB (Nat.le_refl _), cell_keep o3 hB (Nat.le_refl _), cell_keep o4 hB (Nat.le_refl _), cell_keep d0 hB (Nat.le_refl _), cell_keep d1 hB (Nat.le_refl _), cell_keep d2 hB (Nat.le_refl _), cell_keep d3 hB (Nat.le_refl _), cell_keep d4 hB (Nat.le_refl _), cell_keep p0 hB (Nat.le_refl _)⟩)
        clear hK K
        try simp only [Act.put, List.setIfInBounds_toArray, List.set_cons_zero, List.set_cons_succ]
        refine wpAnyH_ready (rs := [11]) (by kernel_rfl) (by simp) ?_
        refine AllReadyH.cons rfl (fun K hK => ?_) AllReadyH.nil
        go_simp
        (go_at_call 21; (with_reducible refine (HSM.out _ _ _ _ _ (HP5.out.fns HL5.out.1 HL5.out.2) HF6.out hB).mono ?_); rintro r w10 ⟨rfl, hb⟩; have hB := hB.tr hb; clear hb)
        try go_wp2_with fail
        refine hK.out _ _ ?_ (fun hHeld => ?_)
        · ((try dsimp only); first | done | exact ⟨cell_keep o0 hB (Nat.le_refl _), cell_keep o1 hB (Nat.le_refl _), cell_keep o2 hB (Nat.le_refl _), cell_keep o3 hB (Nat.le_refl _), cell_keep o4 hB (Nat.le_refl _), cell_keep d0 hB (Nat.le_refl _), cell_keep d1 hB (Nat.le_refl _), cell_keep d2 hB (Nat.le_refl _), cell_keep d3 hB (Nat.le_refl _), cell_keep d4 hB (Nat.le_refl _), cell_keep p0 hB (Nat.le_refl _)⟩)
        clear hK K
        try simp only [Act.put, List.setIfInBounds_toArray, List.set_cons_zero, List.set_cons_succ]
        refine wpAnyH_take (i := 12) (v := ?_) (by simp only [List.getElem?_toArray, List.getElem?_cons_succ, List.getElem?_cons_zero]; rfl) (by kernel_rfl) (by kernel_rfl) (by kernel_rfl) (by exact fun _ _ _ h => h) (Or.inl ⟨by rfl, ?_⟩) (by assumption) ?_
        rotate_left 1
        · ((intro w hSw; (try dsimp only at hSw); go_simp) <;> with_reducible rfl)
        try simp only [Act.put, List.setIfInBounds_toArray, List.set_cons_zero, List.set_cons_succ]
        refine wpAnyH_take (i := 13) (v := ?_) (by simp only [List.getElem?_toArray, List.getElem?_cons_succ, List.getElem?_cons_zero]; rfl) (by kernel_rfl) (by kernel_rfl) (by kernel_rfl) (by exact fun _ _ _ h => h) (Or.inl ⟨by rfl, ?_⟩) (by assumption) ?_
        rotate_left 1
        · ((intro w hSw; (try dsimp only at hSw); go_simp) <;> with_reducible rfl)
        try simp only [Act.put, List.setIfInBounds_toArray, List.set_cons_zero, List.set_cons_succ]
        refine wpAnyH_take (i := 14) (v := ?_) (by simp only [List.getElem?_toArray, List.getElem?_cons_succ, List.getElem?_cons_zero]; rfl) (by kernel_rfl) (by kernel_rfl) (by kernel_rfl) (by exact fun _ _ _ h => h) (Or.inl ⟨by rfl, ?_⟩) (by assumption) ?_
        rotate_left 1
        · ((intro w hSw; (try dsimp only at hSw); go_simp) <;> with_reducible rfl)
        try simp only [Act.put, List.setIfInBounds_toArray, List.set_cons_zero, List.set_cons_succ]
        refine wpAnyH_ready (rs := [15]) (by kernel_rfl) (by simp) ?_
        refine AllReadyH.cons rfl (fun K hK => ?_) AllReadyH.nil
        go_simp
        (go_at_call 15; (with_reducible refine (HWK.out _ hB).mono ?_); rintro r w11 ⟨rfl, hb⟩; have hB := hB.tr hb; clear hb)
        try go_wp2_with fail
        refine hK.out _ _ ?_ (fun hHeld => ?_)
        · ((try dsimp only); first | done | exact ⟨cell_keep o0 hB (Nat.le_refl _), cell_keep o1 hB (Nat.le_refl _), cell_keep o2 hB (Nat.le_refl _), cell_keep o3 hB (Nat.le_refl _), cell_keep o4 hB (Nat.le_refl _), cell_keep d0 hB (Nat.le_refl _), cell_keep d1 hB (Nat.le_refl _), cell_keep d2 hB (Nat.le_refl _), cell_keep d3 hB (Nat.le_refl _), cell_keep d4 hB (Nat.le_refl _), cell_keep p0 hB (Nat.le_refl _)⟩)
        clear hK K
        try simp only [Act.put, List.setIfInBounds_toArray, List.set_cons_zero, List.set_cons_succ]
        refine wpAnyH_take (i := 16) (v := ?_) (by simp only [List.getElem?_toArray, List.getElem?_cons_succ, List.getElem?_cons_zero]; rfl) (by kernel_rfl) (by kernel_rfl) (by kernel_rfl) (by exact fun _ _ _ h => h) (Or.inl ⟨by rfl, ?_⟩) (by assumption) ?_
        rotate_left 1
        · ((intro w hSw; (try dsimp only at hSw); go_simp) <;> with_reducible rfl)
        try simp only [Act.put, List.setIfInBounds_toArray, List.set_cons_zero, List.set_cons_succ]
        refine wpAnyH_take (i := 17) (v := ?_) (by simp only [List.getElem?_toArray, List.getElem?_cons_succ, List.getElem?_cons_zero]; rfl) (by kernel_rfl) (by kernel_rfl) (by kernel_rfl) (by exact fun _ _ _ h => h) (Or.inl ⟨by rfl, ?_⟩) (by assumption) ?_
        rotate_left 1
        · ((intro w hSw; (try dsimp only at hSw); go_simp) <;> with_reducible rfl)
        try simp only [Act.put, List.setIfInBounds_toArray, List.set_cons_zero, List.set_cons_succ]
        refine wpAnyH_done (by kernel_rfl) ?_ _
        go_wp2_with fail
        go_ret
        exact ⟨rfl, HBS.out.tr hB⟩
  obtain rfl : b3 = true := HTR.out rfl rfl
  have hB : Below ((((w3.alloc (.cells #[.slice (some ⟨g1, 0, none⟩) l.length k1] 38)).alloc (.cells #[.slice (some ⟨g2, 0, none⟩) m.length k2] 38)).alloc (.cells #[.slice (some ⟨g3, 0, none⟩) n.length k3] 38))).heap.size (((w3.alloc (.cells #[.slice (some ⟨g1, 0, none⟩) l.length k1] 38)).alloc (.cells #[.slice (some ⟨g2, 0, none⟩) m.length k2] 38)).alloc (.cells #[.slice (some ⟨g3, 0, none⟩) n.length k3] 38)) ((((w3.alloc (.cells #[.slice (some ⟨g1, 0, none⟩) l.length k1] 38)).alloc (.cells #[.slice (some ⟨g2, 0, none⟩) m.length k2] 38)).alloc (.cells #[.slice (some ⟨g3, 0, none⟩) n.length k3] 38))).drew := (bl _).dr
  go_wp2_with fail
  refine wp_region_held_drew (S := (fun w' => w'.cell? ⟨w3.heap.size, 0, none⟩ = some (.slice (some ⟨g1, 0, none⟩) l.length k1) ∧ w'.cell? ⟨w3.heap.size + 1, 0, none⟩ = some (.slice (some ⟨g2, 0, none⟩) m.length k2) ∧ w'.cell? ⟨w3.heap.size + 1 + 1, 0, none⟩ = some (.slice (some ⟨g3, 0, none⟩) n.length k3))) (by kernel_rfl) ?_ (fun hHeld => ?_)
  · ((try dsimp only); first | done | exact ⟨cell_at (j := 0) ((hB.block _ lp).trans HP.out) rfl, cell_at (j := 0) ((hB.block _ lq).trans HQ.out) rfl, cell_at (j := 0) ((hB.block _ lr).trans HR.out) rfl⟩)
  refine wpAnyH_take (i := 0) (v := ?_) (by simp only [List.getElem?_toArray, List.getElem?_cons_succ, List.getElem?_cons_zero]; rfl) (by kernel_rfl) (by kernel_rfl) (by kernel_rfl) (by exact fun _ _ _ h => h) (Or.inl ⟨by rfl, ?_⟩) (by assumption) ?_
  rotate_left 1
  · ((intro w hSw; (try dsimp only at hSw); go_simp) <;> with_reducible rfl)
  try simp only [Act.put, List.setIfInBounds_toArray, List.set_cons_zero, List.set_cons_succ]
  refine wpAnyH_take (i := 1) (v := ?_) (by simp only [List.getElem?_toArray, List.getElem?_cons_succ, List.getElem?_cons_zero]; rfl) (by kernel_rfl) (by kernel_rfl) (by kernel_rfl) (by exact fun _ _ _ h => h) (Or.inl ⟨by rfl, ?_⟩) (by assumption) ?_
  rotate_left 1
  · ((intro w hSw; (try dsimp only at hSw); go_simp) <;> with_reducible rfl)
  try simp only [Act.put, List.setIfInBounds_toArray, List.set_cons_zero, List.set_cons_succ]
  refine wpAnyH_ready (rs := [2]) (by kernel_rfl) (by simp) ?_
  refine AllReadyH.cons rfl (fun K hK => ?_) AllReadyH.nil
  go_simp
  (go_at_call 21; (with_reducible refine (HS1.out _ hB).mono ?_); rintro r w5 ⟨rfl, hb⟩; have hB := hB.tr hb; clear hb)
  try go_wp2_with fail
  refine hK.out _ _ ?_ (fun hHeld => ?_)
  · ((try dsimp only); first | done | exact ⟨cell_at (j := 0) ((hB.block _ lp).trans HP.out) rfl, cell_at (j := 0) ((hB.block _ lq).trans HQ.out) rfl, cell_at (j := 0) ((hB.block _ lr).trans HR.out) rfl⟩)
  clear hK K
  try simp only [Act.put, List.setIfInBounds_toArray, List.set_cons_zero, List.set_cons_succ]
  refine wpAnyH_take (i := 3) (v := ?_) (by simp only [List.getElem?_toArray, List.getElem?_cons_succ, List.getElem?_cons_zero]; rfl) (by kernel_rfl) (by kernel_rfl) (by kernel_rfl) (by exact fun _ _ _ h => h) (Or.inl ⟨by rfl, ?_⟩) (by assumption) ?_
  rotate_left 1
  · ((intro w hSw; (try dsimp only at hSw); go_simp) <;> with_reducible rfl)
  try simp only [Act.put, List.setIfInBounds_toArray, List.set_cons_zero, List.set_cons_succ]
  refine wpAnyH_take (i := 4) (v := ?_) (by simp only [List.getElem?_toArray, List.getElem?_cons_succ, List.getElem?_cons_zero]; rfl) (by kernel_rfl) (by kernel_rfl) (by kernel_rfl) (by exact fun _ _ _ h => h) (Or.inl ⟨by rfl, ?_⟩) (by assumption) ?_
  rotate_left 1
  · ((intro w hSw; (try dsimp only at hSw); go_simp) <;> with_reducible rfl)
  try simp only [Act.put, List.setIfInBounds_toArray, List.set_cons_zero, List.set_cons_succ]
  refine wpAnyH_take (i := 5) (v := ?_) (by simp only [List.getElem?_toArray, List.getElem?_cons_succ, List.getElem?_cons_zero]; rfl) (by kernel_rfl) (by kernel_rfl) (by kernel_rfl) (by exact fun _ _ _ h => h) (Or.inl ⟨by rfl, ?_⟩) (by assumption) ?_
  rotate_left 1
  · ((intro w hSw; (try dsimp only at hSw); go_simp) <;> with_reducible rfl)
  try simp only [Act.put, List.setIfInBounds_toArray, List.set_cons_zero, List.set_cons_succ]
  refine wpAnyH_take (i := 6) (v := ?_) (by simp only [List.getElem?_toArray, List.getElem?_cons_succ, List.getElem?_cons_zero]; rfl) (by kernel_rfl) (by kernel_rfl) (by kernel_rfl) (by exact fun _ _ _ h => h) (Or.inl ⟨by rfl, ?_⟩) (by assumption) ?_
  rotate_left 1
  · ((intro w hSw; (try dsimp only at hSw); go_simp) <;> with_reducible rfl)
  try simp only [Act.put, List.setIfInBounds_toArray, List.set_cons_zero, List.set_cons_succ]
  refine wpAnyH_take (i := 8) (v := ?_) (by simp only [List.getElem?_toArray, List.getElem?_cons_succ, List.getElem?_cons_zero]; rfl) (by kernel_rfl) (by kernel_rfl) (by kernel_rfl) (by exact fun _ _ _ h => h) (Or.inl ⟨by rfl, ?_⟩) (by assumption) ?_
  rotate_left 1
  · ((intro w hSw; (try dsimp only at hSw); go_simp) <;> with_reducible rfl)
  try simp only [Act.put, List.setIfInBounds_toArray, List.set_cons_zero, List.set_cons_succ]
  refine wpAnyH_take (i := 9) (v := ?_) (by simp only [List.getElem?_toArray, List.getElem?_cons_succ, List.getElem?_cons_zero]; rfl) (by kernel_rfl) (by kernel_rfl) (by kernel_rfl) (by exact fun _ _ _ h => h) (Or.inl ⟨by rfl, ?_⟩) (by assumption) ?_
  rotate_left 1
  · ((intro w hSw; (try dsimp only at hSw); go_simp) <;> with_reducible rfl)
  try simp only [Act.put, List.setIfInBounds_toArray, List.set_cons_zero, List.set_cons_succ]
  refine wpAnyH_ready (rs := [7]) (by kernel_rfl) (by simp) ?_
  refine AllReadyH.cons rfl (fun K hK => ?_) AllReadyH.nil
  go_simp
  (go_at_call 21; (with_reducible refine (HS2.out _ hB).mono ?_); rintro r w5 ⟨rfl, hb⟩; have hB := hB.tr hb; clear hb)
  try go_wp2_with fail
  refine hK.out _ _ ?_ (fun hHeld => ?_)
  · ((try dsimp only); first | done | exact ⟨cell_at (j := 0) ((hB.block _ lp).trans HP.out) rfl, cell_at (j := 0) ((hB.block _ lq).trans HQ.out) rfl, cell_at (j := 0) ((hB.block _ lr).trans HR.out) rfl⟩)
  clear hK K
  try simp only [Act.put, List.setIfInBounds_toArray, List.set_cons_zero, List.set_cons_succ]
  refine wpAnyH_ready (rs := [10]) (by kernel_rfl) (by simp) ?_
  refine AllReadyH.cons rfl (fun K hK => ?_) AllReadyH.nil
  go_simp
  (go_at_call 21; (with_reducible refine (HS3.out _ hB).mono ?_); rintro r w5 ⟨rfl, hb⟩; have hB := hB.tr hb; clear hb)
  try go_wp2_with fail
  refine hK.out _ _ ?_ (fun hHeld => ?_)
  · ((try dsimp only); first | done | exact ⟨cell_at (j := 0) ((hB.block _ lp).trans HP.out) rfl, cell_at (j := 0) ((hB.block _ lq).trans HQ.out) rfl, cell_at (j := 0) ((hB.block _ lr).trans HR.out) rfl⟩)
  clear hK K
  try simp only [Act.put, List.setIfInBounds_toArray, List.set_cons_zero, List.set_cons_succ]
  refine wpAnyH_take (i := 11) (v := ?_) (by simp only [List.getElem?_toArray, List.getElem?_cons_succ, List.getElem?_cons_zero]; rfl) (by kernel_rfl) (by kernel_rfl) (by kernel_rfl) (by exact fun _ _ _ h => h) (Or.inl ⟨by rfl, ?_⟩) (by assumption) ?_
  rotate_left 1
  · ((intro w hSw; (try dsimp only at hSw); go_simp) <;> with_reducible rfl)
  try simp only [Act.put, List.setIfInBounds_toArray, List.set_cons_zero, List.set_cons_succ]
  refine wpAnyH_take (i := 12) (v := ?_) (by simp only [List.getElem?_toArray, List.getElem?_cons_succ, List.getElem?_cons_zero]; rfl) (by kernel_rfl) (by kernel_rfl) (by kernel_rfl) (by exact fun _ _ _ h => h) (Or.inl ⟨by rfl, ?_⟩) (by assumption) ?_
  rotate_left 1
  · ((intro w hSw; (try dsimp only at hSw); go_simp) <;> with_reducible rfl)
  try simp only [Act.put, List.setIfInBounds_toArray, List.set_cons_zero, List.set_cons_succ]
  refine wpAnyH_take (i := 13) (v := ?_) (by simp only [List.getElem?_toArray, List.getElem?_cons_succ, List.getElem?_cons_zero]; rfl) (by kernel_rfl) (by kernel_rfl) (by kernel_rfl) (by exact fun _ _ _ h => h) (Or.inl ⟨by rfl, ?_⟩) (by assumption) ?_
  rotate_left 1
  · ((intro w hSw; (try dsimp only at hSw); go_simp) <;> with_reducible rfl)
  try simp only [Act.put, List.setIfInBounds_toArray, List.set_cons_zero, List.set_cons_succ]
  refine wpAnyH_take (i := 14) (v := ?_) (by simp only [List.getElem?_toArray, List.getElem?_cons_succ, List.getElem?_cons_zero]; rfl) (by kernel_rfl) (by kernel_rfl) (by kernel_rfl) (by exact fun _ _ _ h => h) (Or.inl ⟨by rfl, ?_⟩) (by assumption) ?_
  rotate_left 1
  · ((intro w hSw; (try dsimp only at hSw); go_simp) <;> with_reducible rfl)
  try simp only [Act.put, List.setIfInBounds_toArray, List.set_cons_zero, List.set_cons_succ]
  refine wpAnyH_take (i := 15) (v := ?_) (by simp only [List.getElem?_toArray, List.getElem?_cons_succ, List.getElem?_cons_zero]; rfl) (by kernel_rfl) (by kernel_rfl) (by kernel_rfl) (by exact fun _ _ _ h => h) (Or.inl ⟨by rfl, ?_⟩) (by assumption) ?_
  rotate_left 1
  · ((intro w hSw; (try dsimp only at hSw); go_simp) <;> with_reducible rfl)
  try simp only [Act.put, List.setIfInBounds_toArray, List.set_cons_zero, List.set_cons_succ]
  refine wpAnyH_ready (rs := [16]) (by kernel_rfl) (by simp) ?_
  refine AllReadyH.cons rfl (fun K hK => ?_) AllReadyH.nil
  go_simp
  (go_at_call 21; (with_reducible refine (HS2.out _ hB).mono ?_); rintro r w5 ⟨rfl, hb⟩; have hB := hB.tr hb; clear hb)
  try go_wp2_with fail
  refine hK.out _ _ ?_ (fun hHeld => ?_)
  · ((try dsimp only); first | done | exact ⟨cell_at (j := 0) ((hB.block _ lp).trans HP.out) rfl, cell_at (j := 0) ((hB.block _ lq).trans HQ.out) rfl, cell_at (j := 0) ((hB.block _ lr).trans HR.out) rfl⟩)
  clear hK K
  try simp only [Act.put, List.setIfInBounds_toArray, List.set_cons_zero, List.set_cons_succ]
  refine wpAnyH_take (i := 17) (v := ?_) (by simp only [List.getElem?_toArray, List.getElem?_cons_succ, List.getElem?_cons_zero]; rfl) (by kernel_rfl) (by kernel_rfl) (by kernel_rfl) (by exact fun _ _ _ h => h) (Or.inl ⟨by rfl, ?_⟩) (by assumption) ?_
  rotate_left 1
  · ((intro w hSw; (try dsimp only at hSw); go_simp) <;> with_reducible rfl)
  try simp only [Act.put, List.setIfInBounds_toArray, List.set_cons_zero, List.set_cons_succ]
  refine wpAnyH_take (i := 18) (v := ?_) (by simp only [List.getElem?_toArray, List.getElem?_cons_succ, List.getElem?_cons_zero]; rfl) (by kernel_rfl) (by kernel_rfl) (by kernel_rfl) (by exact fun _ _ _ h => h) (Or.inl ⟨by rfl, ?_⟩) (by assumption) ?_
  rotate_left 1
  · ((intro w hSw; (try dsimp only at hSw); go_simp) <;> with_reducible rfl)
  try simp only [Act.put, List.setIfInBounds_toArray, List.set_cons_zero, List.set_cons_succ]
  refine wpAnyH_take (i := 19) (v := ?_) (by simp only [List.getElem?_toArray, List.getElem?_cons_succ, List.getElem?_cons_zero]; rfl) (by kernel_rfl) (by kernel_rfl) (by kernel_rfl) (by exact fun _ _ _ h => h) (Or.inl ⟨by rfl, ?_⟩) (by assumption) ?_
  rotate_left 1
  · ((intro w hSw; (try dsimp only at hSw); go_simp) <;> with_reducible rfl)
  try simp only [Act.put, List.setIfInBounds_toArray, List.set_cons_zero, List.set_cons_succ]
  refine wpAnyH_ready (rs := [20]) (by kernel_rfl) (by simp) ?_
  refine AllReadyH.cons rfl (fun K hK => ?_) AllReadyH.nil
  go_simp
  (go_at_call 21; (with_reducible refine (HS4.out _ hB).mono ?_); rintro r w5 ⟨rfl, hb⟩; have hB := hB.tr hb; clear hb)
  try go_wp2_with fail
  refine hK.out _ _ ?_ (fun hHeld => ?_)
  · ((try dsimp only); first | done | exact ⟨cell_at (j := 0) ((hB.block _ lp).trans HP.out) rfl, cell_at (j := 0) ((hB.block _ lq).trans HQ.out) rfl, cell_at (j := 0) ((hB.block _ lr).trans HR.out) rfl⟩)
  clear hK K
  try simp only [Act.put, List.setIfInBounds_toArray, List.set_cons_zero, List.set_cons_succ]
  refine wpAnyH_take (i := 21) (v := ?_) (by simp only [List.getElem?_toArray, List.getElem?_cons_succ, List.getElem?_cons_zero]; rfl) (by kernel_rfl) (by kernel_rfl) (by kernel_rfl) (by exact fun _ _ _ h => h) (Or.inl ⟨by rfl, ?_⟩) (by assumption) ?_
  rotate_left 1
  · ((intro w hSw; (try dsimp only at hSw); go_simp) <;> with_reducible rfl)
  try simp only [Act.put, List.setIfInBounds_toArray, List.set_cons_zero, List.set_cons_succ]
  refine wpAnyH_take (i := 22) (v := ?_) (by simp only [List.getElem?_toArray, List.getElem?_cons_succ, List.getElem?_cons_zero]; rfl) (by kernel_rfl) (by kernel_rfl) (by kernel_rfl) (by exact fun _ _ _ h => h) (Or.inl ⟨by rfl, ?_⟩) (by assumption) ?_
  rotate_left 1
  · ((intro w hSw; (try dsimp only at hSw); go_simp) <;> with_reducible rfl)
  try simp only [Act.put, List.setIfInBounds_toArray, List.set_cons_zero, List.set_cons_succ]
  refine wpAnyH_take (i := 23) (v := ?_) (by simp only [List.getElem?_toArray, List.getElem?_cons_succ, List.getElem?_cons_zero]; rfl) (by kernel_rfl) (by kernel_rfl) (by kernel_rfl) (by exact fun _ _ _ h => h) (Or.inl ⟨by rfl, ?_⟩) (by assumption) ?_
  rotate_left 1
  · ((intro w hSw; (try dsimp only at hSw); go_simp) <;> with_reducible rfl)
  try simp only [Act.put, List.setIfInBounds_toArray, List.set_cons_zero, List.set_cons_succ]
  refine wpAnyH_take (i := 24) (v := ?_) (by simp only [List.getElem?_toArray, List.getElem?_cons_succ, List.getElem?_cons_zero]; rfl) (by kernel_rfl) (by kernel_rfl) (by kernel_rfl) (by exact fun _ _ _ h => h) (Or.inl ⟨by rfl, ?_⟩) (by assumption) ?_
  rotate_left 1
  · ((intro w hSw; (try dsimp only at hSw); go_simp) <;> with_reducible rfl)
  try simp only [Act.put, List.setIfInBounds_toArray, List.set_cons_zero, List.set_cons_succ]
  refine wpAnyH_ready (rs := [25]) (by kernel_rfl) (by simp) ?_
  refine AllReadyH.cons rfl (fun K hK => ?_) AllReadyH.nil
  go_simp
  (go_at_call 21; (with_reducible refine (HS5.out _ hB).mono ?_); rintro r w5 ⟨rfl, hb⟩; have hB := hB.tr hb; clear hb)
  try go_wp2_with fail
  refine hK.out _ _ ?_ (fun hHeld => ?_)
  · ((try dsimp only); first | done | exact ⟨cell_at (j := 0) ((hB.block _ lp).trans HP.out) rfl, cell_at (j := 0) ((hB.block _ lq).trans HQ.out) rfl, cell_at (j := 0) ((hB.block _ lr).trans HR.out) rfl⟩)
  clear hK K
  try simp only [Act.put, List.setIfInBounds_toArray, List.set_cons_zero, List.set_cons_succ]
  refine wpAnyH_take (i := 26) (v := ?_) (by simp only [List.getElem?_toArray, List.getElem?_cons_succ, List.getElem?_cons_zero]; rfl) (by kernel_rfl) (by kernel_rfl) (by kernel_rfl) (by exact fun _ _ _ h => h) (Or.inl ⟨by rfl, ?_⟩) (by assumption) ?_
  rotate_left 1
  · ((intro w hSw; (try dsimp only at hSw); go_simp) <;> with_reducible rfl)
  try simp only [Act.put, List.setIfInBounds_toArray, List.set_cons_zero, List.set_cons_succ]
  refine wpAnyH_take (i := 27) (v := ?_) (by simp only [List.getElem?_toArray, List.getElem?_cons_succ, List.getElem?_cons_zero]; rfl) (by kernel_rfl) (by kernel_rfl) (by kernel_rfl) (by exact fun _ _ _ h => h) (Or.inl ⟨by rfl, ?_⟩) (by assumption) ?_
  rotate_left 1
  · ((intro w hSw; (try dsimp only at hSw); go_simp) <;> with_reducible rfl)
  try simp only [Act.put, List.setIfInBounds_toArray, List.set_cons_zero, List.set_cons_succ]
  refine wpAnyH_take (i := 28) (v := ?_) (by simp only [List.getElem?_toArray, List.getElem?_cons_succ, List.getElem?_cons_zero]; rfl) (by kernel_rfl) (by kernel_rfl) (by kernel_rfl) (by exact fun _ _ _ h => h) (Or.inl ⟨by rfl, ?_⟩) (by assumption) ?_
  rotate_left 1
  · ((intro w hSw; (try dsimp only at hSw); go_simp) <;> with_reducible rfl)
  try simp only [Act.put, List.setIfInBounds_toArray, List.set_cons_zero, List.set_cons_succ]
  refine wpAnyH_done (by kernel_rfl) ?_ _
  have HBW := hide (HBA.out.tr hB)
  have HPW := hide ((hB.block _ lp).trans HP.out)
  have HG := hide (HG1.out.below HBW.out)
  have p0 := cell_at (j := 0) HPW.out rfl
  have lp := (Array.getElem?_eq_some_iff.1 HPW.out).1
  clear hB HS1 HS2 HS3 HS4 HS5 HQ HR lq lr HBA HFP HFQ HFR HG2 HG3 HL2 HL3 HTR HM2 HM3 HK2 HG1
  obtain ⟨j, hj⟩ : ∃ j, which % l.length = j := ⟨_, rfl⟩
  have hjl : j < l.length := by rw [← hj]; exact Nat.mod_lt _ hl1
  have hjt : ((which : Nat) : Int).tmod ((l.length : Nat) : Int) = (j : Int) := by rw [← hj]; exact (Int.ofNat_tmod _ _).symm
  have hlz : (((l.length : Nat) : Int) == 0) = false := by rw [beq_eq_false_iff_ne]; omega
  have hj1 : (0 : Int) ≤ (j : Int) := by omega
  have hj2 : (j : Int) < (l.length : Int) := by omega
  have HJ := hide hj
  clear hj
  go_wp2_with fail
  go_quiet (fail)
  have hB6 := below_dq (bl w5) nq
  have HG6 := hide (HG.out.below hB6)
  have HBW6 := hide (HBW.out.tr hB6)
  have HPW6 := hide ((hB6.block _ lp).trans HPW.out)
  clear p0 lp HG HBW HPW
  generalize w5.drewN nq = w6 at *
  clear hB6 hjt hlz hj1 hj2
  obtain ⟨pp, pb, cp, cb, c0, c1, c2, c3, c4, hfw, hps, hrow⟩ := HG6.out.cells j hjl
  have hgl := HG6.out.lt
  by_cases hb0 : l[j].body.length = 0
  · have hbt : (((l[j].body.length : Nat) : Int) == 0) = true := by rw [hb0]; rfl
    clear hfw hps hrow hb0
    go_wp2_with fail
    refine (works_any _ (HT.out.below (HB3.out.tr HBW6.out))).mono ?_
    rintro r w7 ⟨rfl, hb7⟩
    have HF := hide ((HB3.out.tr HBW6.out).tr hb7)
    clear hb7
    go_wp2_with fail
    go_ret
    exact ⟨rfl, HF.out⟩
  · have hbt : (((l[j].body.length : Nat) : Int) == 0) = false := by rw [beq_eq_false_iff_ne]; omega
    obtain ⟨b, o, rfl⟩ := hrow.addr (by omega)
    have hlb := hfw.lb
    have hcbm := hfw.cb
    unfold maxLen at hcbm
    have hlpos : 1 ≤ l[j].body.length := by omega
    have f3 := HG6.out.free (j * 5 + 3)
    have HFW := hide hfw
    have HPS := hide hps
    have HROW := hide hrow
    clear hfw hps hrow hb0
    by_cases hcb : cb = 1
    · subst hcb
      have hl1 : l[j].body.length = 1 := by omega
      have hd0 : l[j].body.drop 1 = [] := List.drop_of_length_le (by omega)
      have HPG := hide (cut_store (o' := o) (c' := 0) HG6.out hjl c0 c1 c2 c3 c4 HFW.out HPS.out (by rw [hd0]; simp only [St.Row]) (n := 0) (by rw [hd0]; rfl) (Nat.le_refl _) (Nat.zero_le _))
      clear hl1 hd0
      go_wp2_with fail
      have hK : Kept [g1] w6 (w6.setCell ⟨g1, j * 5 + 3, none⟩ (.slice (some ⟨b, o, none⟩) 0 0)) := (Kept.refl [g1] w6).set (.inl (by simp)) _ _
      have hz6 : (w6.setCell ⟨g1, j * 5 + 3, none⟩ (.slice (some ⟨b, o, none⟩) 0 0)).heap.size = w6.heap.size := by simp [World.setCell]
      have HPG := hide (HPG.out.below ((bl _).al (.cells #[.string ⟨l[j].name.toArray⟩, .slice pp l[j].params.length cp, .int .i64 l[j].result, .slice (some ⟨b, o, none⟩) l[j].body.length 1, .int .i64 l[j].count] 42)))
      have HOL : Hid (((w6.setCell ⟨g1, j * 5 + 3, none⟩ (.slice (some ⟨b, o, none⟩) 0 0)).alloc (.cells #[.string ⟨l[j].name.toArray⟩, .slice pp l[j].params.length cp, .int .i64 l[j].result, .slice (some ⟨b, o, none⟩) l[j].body.length 1, .int .i64 l[j].count] 42)).heap[w6.heap.size]? = some (.cells #[.string ⟨l[j].name.toArray⟩, .slice pp l[j].params.length cp, .int .i64 l[j].result, .slice (some ⟨b, o, none⟩) l[j].body.length 1, .int .i64 l[j].count] 42 (0, 0))) := hide (heap_newS hz6.symm)
      have hpl : w3.heap.size < w6.heap.size := (Array.getElem?_eq_some_iff.1 HPW6.out).1
      have HPP := hide ((Below.heap_alloc _ (.cells #[.string ⟨l[j].name.toArray⟩, .slice pp l[j].params.length cp, .int .i64 l[j].result, .slice (some ⟨b, o, none⟩) l[j].body.length 1, .int .i64 l[j].count] 42) _ (by rw [hz6]; exact hpl)).trans (hK.heap (by simp; exact fun e => HNE.out e.symm) HPW6.out))
      have HHS := hide ((has_kept hK).tr (has_av_below (l := [g1]) ((bl _).al (.cells #[.string ⟨l[j].name.toArray⟩, .slice pp l[j].params.length cp, .int .i64 l[j].result, .slice (some ⟨b, o, none⟩) l[j].body.length 1, .int .i64 l[j].count] 42))))
      have HBS := hide (((HB3.out.tr HBW6.out).setCell (p := ⟨g1, j * 5 + 3, none⟩) HGE.out (.slice (some ⟨b, o, none⟩) 0 0)).al (.cells #[.string ⟨l[j].name.toArray⟩, .slice pp l[j].params.length cp, .int .i64 l[j].result, .slice (some ⟨b, o, none⟩) l[j].body.length 1, .int .i64 l[j].count] 42))
      clear hK hz6 hpl HPW6 HG6 HBW6 c0 c1 c2 c3 c4 f3 hgl
      generalize (w6.setCell ⟨g1, j * 5 + 3, none⟩ (.slice (some ⟨b, o, none⟩) 0 0)).alloc (.cells #[.string ⟨l[j].name.toArray⟩, .slice pp l[j].params.length cp, .int .i64 l[j].result, .slice (some ⟨b, o, none⟩) l[j].body.length 1, .int .i64 l[j].count] 42) = WS at *
      generalize hcbo : 1 = cbo at HOL HFW
      clear hcbo
      obtain ⟨f', hf'⟩ : ∃ f' : Fn, f' = { l[j] with body := l[j].body.drop 1 } := ⟨_, rfl⟩
      rw [← hf'] at HPG
      have hset : (l.set j f').length = l.length := List.length_set ..
      have hgs : (l.set j f')[j]'(by rw [hset]; exact hjl) = f' := List.getElem_set_self ..
      have hcc := HPG.out.cells j (by rw [hset]; exact hjl)
      rw [hgs] at hcc
      obtain ⟨pp2, pb2, cp2, cb2, d0, d1, d2, d3, d4, hfw2, hps2, hrow2⟩ := hcc
      have HVF : Hid (Fn.Val WS f' (.agg #[.string ⟨f'.name.toArray⟩, .slice pp2 f'.params.length cp2, .int .i64 f'.result, .slice pb2 f'.body.length cb2, .int .i64 f'.count])) := hide ⟨pp2, pb2, cp2, cb2, rfl, hfw2, hps2.has has_av, hrow2.has has_av⟩
      have HVO : Hid (Fn.Val WS l[j] (.agg #[.string ⟨l[j].name.toArray⟩, .slice pp l[j].params.length cp, .int .i64 l[j].result, .slice (some ⟨b, o, none⟩) l[j].body.length cbo, .int .i64 l[j].count])) := hide ⟨pp, some ⟨b, o, none⟩, cp, cbo, rfl, HFW.out, (HPS.out.has HHS.out).has has_av, (HROW.out.has HHS.out).has has_av⟩
      have hbl : f'.body.length ≠ l[j].body.length := by rw [hf']; simp only [List.length_drop]; omega
      have HSF := hide fun (W : World) (hW : Below WS.heap.size WS W) => sameF_is l[j] f' false (eqF_body (Ne.symm hbl)) _ _ W (HVO.out.keep hW (Nat.le_refl _)) (HVF.out.keep hW (Nat.le_refl _)) (HT.out.below (HBS.out.tr hW))
      have HSC := hide (same_cut hjl hbl)
      have HNM := hide fun (W : World) (hW : Below WS.heap.size WS W) => number_fns (l.set j f') _ rfl l.length hset (some ⟨g1, 0, none⟩) k1 W ((HPG.out.below hW).fns (by rw [hset]; exact HL1.out.1) HL1.out.2) (HT.out.below (HBS.out.tr hW))
      generalize numberM (l.set j f') = ln at *
      have HSM := hide fun (W : World) (g k : Nat) (a : Option Addr) (c : Nat) (h1 : Fns W l (some ⟨g, 0, none⟩) k) (h2 : Fns W ln a c) (hW : Below WS.heap.size WS W) => sameM_is l ln false HSC.out _ _ rfl rfl (some ⟨g, 0, none⟩) a k c W h1 h2 (HT.out.below (HBS.out.tr hW))
      have HWK := hide fun (W : World) (hW : Below WS.heap.size WS W) => works_any W (HT.out.below (HBS.out.tr hW))
      have o0 := cell_at (j := 0) HOL.out rfl
      have o1 := cell_at (j := 1) HOL.out rfl
      have o2 := cell_at (j := 2) HOL.out rfl
      have o3 := cell_at (j := 3) HOL.out rfl
      have o4 := cell_at (j := 4) HOL.out rfl
      have p0 := cell_at (j := 0) HPP.out rfl
      have hB := (bl WS).dr
      clear hfw2 hps2 hrow2 hset hgs hbl hf'
      refine wp_region_held_drew (S := (fun w' => w'.cell? ⟨w6.heap.size, 0, none⟩ = some (.string ⟨l[j].name.toArray⟩) ∧ w'.cell? ⟨w6.heap.size, 1, none⟩ = some (.slice pp l[j].params.length cp) ∧ w'.cell? ⟨w6.heap.size, 2, none⟩ = some (.int .i64 l[j].result) ∧ w'.cell? ⟨w6.heap.size, 3, none⟩ = some (.slice (some ⟨b, o, none⟩) l[j].body.length cbo) ∧ w'.cell? ⟨w6.heap.size, 4, none⟩ = some (.int .i64 l[j].count) ∧
  w'.cell? ⟨g1, j * 5, none⟩ = some (.string ⟨f'.name.toArray⟩) ∧ w'.cell? ⟨g1, j * 5 + 1, none⟩ = some (.slice pp2 f'.params.length cp2) ∧ w'.cell? ⟨g1, j * 5 + 2, none⟩ = some (.int .i64 f'.result) ∧ w'.cell? ⟨g1, j * 5 + 3, none⟩ = some (.slice pb2 f'.body.length cb2) ∧ w'.cell? ⟨g1, j * 5 + 4, none⟩ = some (.int .i64 f'.count) ∧ w'.cell? ⟨w3.heap.size, 0, none⟩ = some (.slice (some ⟨g1, 0, none⟩) l.length k1))) (by kernel_rfl) ?_ (fun hHeld => ?_)
      · ((try dsimp only); first | done | exact ⟨cell_keep o0 hB (Nat.le_refl _), cell_keep o1 hB (Nat.le_refl _), cell_keep o2 hB (Nat.le_refl _), cell_keep o3 hB (Nat.le_refl _), cell_keep o4 hB (Nat.le_refl _), cell_keep d0 hB (Nat.le_refl _), cell_keep d1 hB (Nat.le_refl _), cell_keep d2 hB (Nat.le_refl _), cell_keep d3 hB (Nat.le_refl _), cell_keep d4 hB (Nat.le_refl _), cell_keep p0 hB (Nat.le_refl _)⟩)
      refine wpAnyH_take (i := 0) (v := ?_) (by simp only [List.getElem?_toArray, List.getElem?_cons_succ, List.getElem?_cons_zero]; rfl) (by kernel_rfl) (by kernel_rfl) (by kernel_rfl) (by exact fun _ _ _ h => h) (Or.inl ⟨by rfl, ?_⟩) (by assumption) ?_
      rotate_left 1
      · ((intro w hSw; (try dsimp only at hSw); go_simp) <;> with_reducible rfl)
      try simp only [Act.put, List.setIfInBounds_toArray, List.set_cons_zero, List.set_cons_succ]
      refine wpAnyH_take (i := 1) (v := ?_) (by simp only [List.getElem?_toArray, List.getElem?_cons_succ, List.getElem?_cons_zero]; rfl) (by kernel_rfl) (by kernel_rfl) (by kernel_rfl) (by exact fun _ _ _ h => h) (Or.inl ⟨by rfl, ?_⟩) (by assumption) ?_
      rotate_left 1
      · ((intro w hSw; (try dsimp only at hSw); go_simp) <;> with_reducible rfl)
      try simp only [Act.put, List.setIfInBounds_toArray, List.set_cons_zero, List.set_cons_succ]
      refine wpAnyH_take (i := 2) (v := ?_) (by simp only [List.getElem?_toArray, List.getElem?_cons_succ, List.getElem?_cons_zero]; rfl) (by kernel_rfl) (by kernel_rfl) (by kernel_rfl) (by exact fun _ _ _ h => h) (Or.inl ⟨by rfl, ?_⟩) (by assumption) ?_
      rotate_left 1
      · ((intro w hSw; (try dsimp only at hSw); go_simp) <;> with_reducible rfl)
      try simp only [Act.put, List.setIfInBounds_toArray, List.set_cons_zero, List.set_cons_succ]
      refine wpAnyH_take (i := 3) (v := ?_) (by simp only [List.getElem?_toArray, List.getElem?_cons_succ, List.getElem?_cons_zero]; rfl) (by kernel_rfl) (by kernel_rfl) (by kernel_rfl) (by exact fun _ _ _ h => h) (Or.inl ⟨by rfl, ?_⟩) (by assumption) ?_
      rotate_left 1
      · ((intro w hSw; (try dsimp only at hSw); go_simp) <;> with_reducible rfl)
      try simp only [Act.put, List.setIfInBounds_toArray, List.set_cons_zero, List.set_cons_succ]
      refine wpAnyH_ready (rs := [4]) (by kernel_rfl) (by simp) ?_
      refine AllReadyH.cons rfl (fun K hK => ?_) AllReadyH.nil
      go_simp
      (go_at_call 23; (with_reducible refine (HSF.out _ hB).mono ?_); rintro r w7 ⟨rfl, hb⟩; have hB := hB.tr hb; clear hb)
      try go_wp2_with fail
      refine hK.out _ _ ?_ (fun hHeld => ?_)
      · ((try dsimp only); first | done | exact ⟨cell_keep o0 hB (Nat.le_refl _), cell_keep o1 hB (Nat.le_refl _), cell_keep o2 hB (Nat.le_refl _), cell_keep o3 hB (Nat.le_refl _), cell_keep o4 hB (Nat.le_refl _), cell_keep d0 hB (Nat.le_refl _), cell_keep d1 hB (Nat.le_refl _), cell_keep d2 hB (Nat.le_refl _), cell_keep d3 hB (Nat.le_refl _), cell_keep d4 hB (Nat.le_refl _), cell_keep p0 hB (Nat.le_refl _)⟩)
      clear hK K
      try simp only [Act.put, List.setIfInBounds_toArray, List.set_cons_zero, List.set_cons_succ]
      refine wpAnyH_take (i := 5) (v := ?_) (by simp only [List.getElem?_toArray, List.getElem?_cons_succ, List.getElem?_cons_zero]; rfl) (by kernel_rfl) (by kernel_rfl) (by kernel_rfl) (by exact fun _ _ _ h => h) (Or.inl ⟨by rfl, ?_⟩) (by assumption) ?_
      rotate_left 1
      · ((intro w hSw; (try dsimp only at hSw); go_simp) <;> with_reducible rfl)
      try simp only [Act.put, List.setIfInBounds_toArray, List.set_cons_zero, List.set_cons_succ]
      refine wpAnyH_take (i := 6) (v := ?_) (by simp only [List.getElem?_toArray, List.getElem?_cons_succ, List.getElem?_cons_zero]; rfl) (by kernel_rfl) (by kernel_rfl) (by kernel_rfl) (by exact fun _ _ _ h => h) (Or.inl ⟨by rfl, ?_⟩) (by assumption) ?_
      rotate_left 1
      · ((intro w hSw; (try dsimp only at hSw); go_simp) <;> with_reducible rfl)
      try simp only [Act.put, List.setIfInBounds_toArray, List.set_cons_zero, List.set_cons_succ]
      refine wpAnyH_take (i := 7) (v := ?_) (by simp only [List.getElem?_toArray, List.getElem?_cons_succ, List.getElem?_cons_zero]; rfl) (by kernel_rfl) (by kernel_rfl) (by kernel_rfl) (by exact fun _ _ _ h => h) (Or.inl ⟨by rfl, ?_⟩) (by assumption) ?_
      rotate_left 1
      · ((intro w hSw; (try dsimp only at hSw); go_simp) <;> with_reducible rfl)
      try simp only [Act.put, List.setIfInBounds_toArray, List.set_cons_zero, List.set_cons_succ]
      refine wpAnyH_take (i := 9) (v := ?_) (by simp only [List.getElem?_toArray, List.getElem?_cons_succ, List.getElem?_cons_zero]; rfl) (by kernel_rfl) (by kernel_rfl) (by kernel_rfl) (by exact fun _ _ _ h => h) (Or.inl ⟨by rfl, ?_⟩) (by assumption) ?_
      rotate_left 1
      · ((intro w hSw; (try dsimp only at hSw); go_simp) <;> with_reducible rfl)
      try simp only [Act.put, List.setIfInBounds_toArray, List.set_cons_zero, List.set_cons_succ]
      refine wpAnyH_ready (rs := [8]) (by kernel_rfl) (by simp) ?_
      refine AllReadyH.cons rfl (fun K hK => ?_) AllReadyH.nil
      go_simp
      (go_at_call 14; (with_reducible refine (HM1.out _ (HBS.out.tr hB)).mono ?_); rintro r w8 ⟨⟨g5, k5, rfl, q1, q2, q3, hp5⟩, hb⟩; have HP5 := hide hp5.out; have HL5 := hide (⟨q1, q2⟩ : _ ∧ _); have hB := hB.tr hb; clear hb q1 q2 q3 hp5)
      try go_wp2_with fail
      refine hK.out _ _ ?_ (fun hHeld => ?_)
      · ((try dsimp only); first | done | exact ⟨cell_keep o0 hB (Nat.le_refl _), cell_keep o1 hB (Nat.le_refl _), cell_keep o2 hB (Nat.le_refl _), cell_keep o3 hB (Nat.le_refl _), cell_keep o4 hB (Nat.le_refl _), cell_keep d0 hB (Nat.le_refl _), cell_keep d1 hB (Nat.le_refl _), cell_keep d2 hB (Nat.le_refl _), cell_keep d3 hB (Nat.le_refl _), cell_keep d4 hB (Nat.le_refl _), cell_keep p0 hB (Nat.le_refl _)⟩)
      clear hK K
      try simp only [Act.put, List.setIfInBounds_toArray, List.set_cons_zero, List.set_cons_succ]
      refine wpAnyH_ready (rs := [10]) (by kernel_rfl) (by simp) ?_
      refine AllReadyH.cons rfl (fun K hK => ?_) AllReadyH.nil
      go_simp
      (go_at_call 17; (with_reducible refine (HNM.out _ hB).mono ?_); rintro r w9 ⟨⟨a6, k6, rfl, hf6⟩, hb⟩; have HP5 := hide (HP5.out.below hb); have HF6 := hide hf6.out; have hB := hB.tr hb; clear hb hf6)
      try go_wp2_with fail
      refine hK.out _ _ ?_ (fun hHeld => ?_)
      · ((try dsimp only); first | done | exact ⟨cell_keep o0 hB (Nat.le_refl _), cell_keep o1 hB (Nat.le_refl _), cell_keep o2 hB (Nat.le_refl _), cell_keep o3 hB (Nat.le_refl _), cell_keep o4 hB (Nat.le_refl _), cell_keep d0 hB (Nat.le_refl _), cell_keep d1 hB (Nat.le_refl _), cell_keep d2 hB (Nat.le_refl _), cell_keep d3 hB (Nat.le_refl _), cell_keep d4 hB (Nat.le_refl _), cell_keep p0 hB (Nat.le_refl _)⟩)
      clear hK K
      try simp only [Act.put, List.setIfInBounds_toArray, List.set_cons_zero, List.set_cons_succ]
      refine wpAnyH_ready (rs := [11]) (by kernel_rfl) (by simp) ?_
      refine AllReadyH.cons rfl (fun K hK => ?_) AllReadyH.nil
      go_simp
      (go_at_call 21; (with_reducible refine (HSM.out _ _ _ _ _ (HP5.out.fns HL5.out.1 HL5.out.2) HF6.out hB).mono ?_); rintro r w10 ⟨rfl, hb⟩; have hB := hB.tr hb; clear hb)
      try go_wp2_with fail
      refine hK.out _ _ ?_ (fun hHeld => ?_)
      · ((try dsimp only); first | done | exact ⟨cell_keep o0 hB (Nat.le_refl _), cell_keep o1 hB (Nat.le_refl _), cell_keep o2 hB (Nat.le_refl _), cell_keep o3 hB (Nat.le_refl _), cell_keep o4 hB (Nat.le_refl _), cell_keep d0 hB (Nat.le_refl _), cell_keep d1 hB (Nat.le_refl _), cell_keep d2 hB (Nat.le_refl _), cell_keep d3 hB (Nat.le_refl _), cell_keep d4 hB (Nat.le_refl _), cell_keep p0 hB (Nat.le_refl _)⟩)
      clear hK K
      try simp only [Act.put, List.setIfInBounds_toArray, List.set_cons_zero, List.set_cons_succ]
      refine wpAnyH_take (i := 12) (v := ?_) (by simp only [List.getElem?_toArray, List.getElem?_cons_succ, List.getElem?_cons_zero]; rfl) (by kernel_rfl) (by kernel_rfl) (by kernel_rfl) (by exact fun _ _ _ h => h) (Or.inl ⟨by rfl, ?_⟩) (by assumption) ?_
      rotate_left 1
      · ((intro w hSw; (try dsimp only at hSw); go_simp) <;> with_reducible rfl)
      try simp only [Act.put, List.setIfInBounds_toArray, List.set_cons_zero, List.set_cons_succ]
      refine wpAnyH_take (i := 13) (v := ?_) (by simp only [List.getElem?_toArray, List.getElem?_cons_succ, List.getElem?_cons_zero]; rfl) (by kernel_rfl) (by kernel_rfl) (by kernel_rfl) (by exact fun _ _ _ h => h) (Or.inl ⟨by rfl, ?_⟩) (by assumption) ?_
      rotate_left 1
      · ((intro w hSw; (try dsimp only at hSw); go_simp) <;> with_reducible rfl)
      try simp only [Act.put, List.setIfInBounds_toArray, List.set_cons_zero, List.set_cons_succ]
      refine wpAnyH_take (i := 14) (v := ?_) (by simp only [List.getElem?_toArray, List.getElem?_cons_succ, List.getElem?_cons_zero]; rfl) (by kernel_rfl) (by kernel_rfl) (by kernel_rfl) (by exact fun _ _ _ h => h) (Or.inl ⟨by rfl, ?_⟩) (by assumption) ?_
      rotate_left 1
      · ((intro w hSw; (try dsimp only at hSw); go_simp) <;> with_reducible rfl)
      try simp only [Act.put, List.setIfInBounds_toArray, List.set_cons_zero, List.set_cons_succ]
      refine wpAnyH_ready (rs := [15]) (by kernel_rfl) (by simp) ?_
      refine AllReadyH.cons rfl (fun K hK => ?_) AllReadyH.nil
      go_simp
      (go_at_call 15; (with_reducible refine (HWK.out _ hB).mono ?_); rintro r w11 ⟨rfl, hb⟩; have hB := hB.tr hb; clear hb)
      try go_wp2_with fail
      refine hK.out _ _ ?_ (fun hHeld => ?_)
      · ((try dsimp only); first | done | exact ⟨cell_keep o0 hB (Nat.le_refl _), cell_keep o1 hB (Nat.le_refl _), cell_keep o2 hB (Nat.le_refl _), cell_keep o3 hB (Nat.le_refl _), cell_keep o4 hB (Nat.le_refl _), cell_keep d0 hB (Nat.le_refl _), cell_keep d1 hB (Nat.le_refl _), cell_keep d2 hB (Nat.le_refl _), cell_keep d3 hB (Nat.le_refl _), cell_keep d4 hB (Nat.le_refl _), cell_keep p0 hB (Nat.le_refl _)⟩)
      clear hK K
      try simp only [Act.put, List.setIfInBounds_toArray, List.set_cons_zero, List.set_cons_succ]
      refine wpAnyH_take (i := 16) (v := ?_) (by simp only [List.getElem?_toArray, List.getElem?_cons_succ, List.getElem?_cons_zero]; rfl) (by kernel_rfl) (by kernel_rfl) (by kernel_rfl) (by exact fun _ _ _ h => h) (Or.inl ⟨by rfl, ?_⟩) (by assumption) ?_
      rotate_left 1
      · ((intro w hSw; (try dsimp only at hSw); go_simp) <;> with_reducible rfl)
      try simp only [Act.put, List.setIfInBounds_toArray, List.set_cons_zero, List.set_cons_succ]
      refine wpAnyH_take (i := 17) (v := ?_) (by simp only [List.getElem?_toArray, List.getElem?_cons_succ, List.getElem?_cons_zero]; rfl) (by kernel_rfl) (by kernel_rfl) (by kernel_rfl) (by exact fun _ _ _ h => h) (Or.inl ⟨by rfl, ?_⟩) (by assumption) ?_
      rotate_left 1
      · ((intro w hSw; (try dsimp only at hSw); go_simp) <;> with_reducible rfl)
      try simp only [Act.put, List.setIfInBounds_toArray, List.set_cons_zero, List.set_cons_succ]
      refine wpAnyH_done (by kernel_rfl) ?_ _
      go_wp2_with fail
      go_ret
      exact ⟨rfl, HBS.out.tr hB⟩
    · have HPG := hide (cut_store (o' := o + 8) (c' := cb - 1) HG6.out hjl c0 c1 c2 c3 c4 HFW.out HPS.out (row_tail HROW.out) (n := l[j].body.length - 1) (by rw [List.length_drop]) (by omega) (by unfold maxLen; omega))
      go_wp2_with fail
      have hK : Kept [g1] w6 (w6.setCell ⟨g1, j * 5 + 3, none⟩ (.slice (some ⟨b, o + 8, none⟩) (l[j].body.length - 1) (cb - 1))) := (Kept.refl [g1] w6).set (.inl (by simp)) _ _
      have hz6 : (w6.setCell ⟨g1, j * 5 + 3, none⟩ (.slice (some ⟨b, o + 8, none⟩) (l[j].body.length - 1) (cb - 1))).heap.size = w6.heap.size := by simp [World.setCell]
      have HPG := hide (HPG.out.below ((bl _).al (.cells #[.string ⟨l[j].name.toArray⟩, .slice pp l[j].params.length cp, .int .i64 l[j].result, .slice (some ⟨b, o, none⟩) l[j].body.length cb, .int .i64 l[j].count] 42)))
      have HOL : Hid (((w6.setCell ⟨g1, j * 5 + 3, none⟩ (.slice (some ⟨b, o + 8, none⟩) (l[j].body.length - 1) (cb - 1))).alloc (.cells #[.string ⟨l[j].name.toArray⟩, .slice pp l[j].params.length cp, .int .i64 l[j].result, .slice (some ⟨b, o, none⟩) l[j].body.length cb, .int .i64 l[j].count] 42)).heap[w6.heap.size]? = some (.cells #[.string ⟨l[j].name.toArray⟩, .slice pp l[j].params.length cp, .int .i64 l[j].result, .slice (some ⟨b, o, none⟩) l[j].body.length cb, .int .i64 l[j].count] 42 (0, 0))) := hide (heap_newS hz6.symm)
      have hpl : w3.heap.size < w6.heap.size := (Array.getElem?_eq_some_iff.1 HPW6.out).1
      have HPP := hide ((Below.heap_alloc _ (.cells #[.string ⟨l[j].name.toArray⟩, .slice pp l[j].params.length cp, .int .i64 l[j].result, .slice (some ⟨b, o, none⟩) l[j].body.length cb, .int .i64 l[j].count] 42) _ (by rw [hz6]; exact hpl)).trans (hK.heap (by simp; exact fun e => HNE.out e.symm) HPW6.out))
      have HHS := hide ((has_kept hK).tr (has_av_below (l := [g1]) ((bl _).al (.cells #[.string ⟨l[j].name.toArray⟩, .slice pp l[j].params.length cp, .int .i64 l[j].result, .slice (some ⟨b, o, none⟩) l[j].body.length cb, .int .i64 l[j].count] 42))))
      have HBS := hide (((HB3.out.tr HBW6.out).setCell (p := ⟨g1, j * 5 + 3, none⟩) HGE.out (.slice (some ⟨b, o + 8, none⟩) (l[j].body.length - 1) (cb - 1))).al (.cells #[.string ⟨l[j].name.toArray⟩, .slice pp l[j].params.length cp, .int .i64 l[j].result, .slice (some ⟨b, o, none⟩) l[j].body.length cb, .int .i64 l[j].count] 42))
      clear hK hz6 hpl HPW6 HG6 HBW6 c0 c1 c2 c3 c4 f3 hgl
      generalize (w6.setCell ⟨g1, j * 5 + 3, none⟩ (.slice (some ⟨b, o + 8, none⟩) (l[j].body.length - 1) (cb - 1))).alloc (.cells #[.string ⟨l[j].name.toArray⟩, .slice pp l[j].params.length cp, .int .i64 l[j].result, .slice (some ⟨b, o, none⟩) l[j].body.length cb, .int .i64 l[j].count] 42) = WS at *
      generalize hcbo : cb = cbo at HOL HFW
      clear hcbo
      obtain ⟨f', hf'⟩ : ∃ f' : Fn, f' = { l[j] with body := l[j].body.drop 1 } := ⟨_, rfl⟩
      rw [← hf'] at HPG
      have hset : (l.set j f').length = l.length := List.length_set ..
      have hgs : (l.set j f')[j]'(by rw [hset]; exact hjl) = f' := List.getElem_set_self ..
      have hcc := HPG.out.cells j (by rw [hset]; exact hjl)
      rw [hgs] at hcc
      obtain ⟨pp2, pb2, cp2, cb2, d0, d1, d2, d3, d4, hfw2, hps2, hrow2⟩ := hcc
      have HVF : Hid (Fn.Val WS f' (.agg #[.string ⟨f'.name.toArray⟩, .slice pp2 f'.params.length cp2, .int .i64 f'.result, .slice pb2 f'.body.length cb2, .int .i64 f'.count])) := hide ⟨pp2, pb2, cp2, cb2, rfl, hfw2, hps2.has has_av, hrow2.has has_av⟩
      have HVO : Hid (Fn.Val WS l[j] (.agg #[.string ⟨l[j].name.toArray⟩, .slice pp l[j].params.length cp, .int .i64 l[j].result, .slice (some ⟨b, o, none⟩) l[j].body.length cbo, .int .i64 l[j].count])) := hide ⟨pp, some ⟨b, o, none⟩, cp, cbo, rfl, HFW.out, (HPS.out.has HHS.out).has has_av, (HROW.out.has HHS.out).has has_av⟩
      have hbl : f'.body.length ≠ l[j].body.length := by rw [hf']; simp only [List.length_drop]; omega
      have HSF := hide fun (W : World) (hW : Below WS.heap.size WS W) => sameF_is l[j] f' false (eqF_body (Ne.symm hbl)) _ _ W (HVO.out.keep hW (Nat.le_refl _)) (HVF.out.keep hW (Nat.le_refl _)) (HT.out.below (HBS.out.tr hW))
      have HSC := hide (same_cut hjl hbl)
      have HNM := hide fun (W : World) (hW : Below WS.heap.size WS W) => number_fns (l.set j f') _ rfl l.length hset (some ⟨g1, 0, none⟩) k1 W ((HPG.out.below hW).fns (by rw [hset]; exact HL1.out.1) HL1.out.2) (HT.out.below (HBS.out.tr hW))
      generalize numberM (l.set j f') = ln at *
      have HSM := hide fun (W : World) (g k : Nat) (a : Option Addr) (c : Nat) (h1 : Fns W l (some ⟨g, 0, none⟩) k) (h2 : Fns W ln a c) (hW : Below WS.heap.size WS W) => sameM_is l ln false HSC.out _ _ rfl rfl (some ⟨g, 0, none⟩) a k c W h1 h2 (HT.out.below (HBS.out.tr hW))
      have HWK := hide fun (W : World) (hW : Below WS.heap.size WS W) => works_any W (HT.out.below (HBS.out.tr hW))
      have o0 := cell_at (j := 0) HOL.out rfl
      have o1 := cell_at (j := 1) HOL.out rfl
      have o2 := cell_at (j := 2) HOL.out rfl
      have o3 := cell_at (j := 3) HOL.out rfl
      have o4 := cell_at (j := 4) HOL.out rfl
      have p0 := cell_at (j := 0) HPP.out rfl
      have hB := (bl WS).dr
      clear hfw2 hps2 hrow2 hset hgs hbl hf'
      refine wp_region_held_drew (S := (fun w' => w'.cell? ⟨w6.heap.size, 0, none⟩ = some (.string ⟨l[j].name.toArray⟩) ∧ w'.cell? ⟨w6.heap.size, 1, none⟩ = some (.slice pp l[j].params.length cp) ∧ w'.cell? ⟨w6.heap.size, 2, none⟩ = some (.int .i64 l[j].result) ∧ w'.cell? ⟨w6.heap.size, 3, none⟩ = some (.slice (some ⟨b, o, none⟩) l[j].body.length cbo) ∧ w'.cell? ⟨w6.heap.size, 4, none⟩ = some (.int .i64 l[j].count) ∧
  w'.cell? ⟨g1, j * 5, none⟩ = some (.string ⟨f'.name.toArray⟩) ∧ w'.cell? ⟨g1, j * 5 + 1, none⟩ = some (.slice pp2 f'.params.length cp2) ∧ w'.cell? ⟨g1, j * 5 + 2, none⟩ = some (.int .i64 f'.result) ∧ w'.cell? ⟨g1, j * 5 + 3, none⟩ = some (.slice pb2 f'.body.length cb2) ∧ w'.cell? ⟨g1, j * 5 + 4, none⟩ = some (.int .i64 f'.count) ∧ w'.cell? ⟨w3.heap.size, 0, none⟩ = some (.slice (some ⟨g1, 0, none⟩) l.length k1))) (by kernel_rfl) ?_ (fun hHeld => ?_)
      · ((try dsimp only); first | done | exact ⟨cell_keep o0 hB (Nat.le_refl _), cell_keep o1 hB (Nat.le_refl _), cell_keep o2 hB (Nat.le_refl _), cell_keep o3 hB (Nat.le_refl _), cell_keep o4 hB (Nat.le_refl _), cell_keep d0 hB (Nat.le_refl _), cell_keep d1 hB (Nat.le_refl _), cell_keep d2 hB (Nat.le_refl _), cell_keep d3 hB (Nat.le_refl _), cell_keep d4 hB (Nat.le_refl _), cell_keep p0 hB (Nat.le_refl _)⟩)
      refine wpAnyH_take (i := 0) (v := ?_) (by simp only [List.getElem?_toArray, List.getElem?_cons_succ, List.getElem?_cons_zero]; rfl) (by kernel_rfl) (by kernel_rfl) (by kernel_rfl) (by exact fun _ _ _ h => h) (Or.inl ⟨by rfl, ?_⟩) (by assumption) ?_
      rotate_left 1
      · ((intro w hSw; (try dsimp only at hSw); go_simp) <;> with_reducible rfl)
      try simp only [Act.put, List.setIfInBounds_toArray, List.set_cons_zero, List.set_cons_succ]
      refine wpAnyH_take (i := 1) (v := ?_) (by simp only [List.getElem?_toArray, List.getElem?_cons_succ, List.getElem?_cons_zero]; rfl) (by kernel_rfl) (by kernel_rfl) (by kernel_rfl) (by exact fun _ _ _ h => h) (Or.inl ⟨by rfl, ?_⟩) (by assumption) ?_
      rotate_left 1
      · ((intro w hSw; (try dsimp only at hSw); go_simp) <;> with_reducible rfl)
      try simp only [Act.put, List.setIfInBounds_toArray, List.set_cons_zero, List.set_cons_succ]
      refine wpAnyH_take (i := 2) (v := ?_) (by simp only [List.getElem?_toArray, List.getElem?_cons_succ, List.getElem?_cons_zero]; rfl) (by kernel_rfl) (by kernel_rfl) (by kernel_rfl) (by exact fun _ _ _ h => h) (Or.inl ⟨by rfl, ?_⟩) (by assumption) ?_
      rotate_left 1
      · ((intro w hSw; (try dsimp only at hSw); go_simp) <;> with_reducible rfl)
      try simp only [Act.put, List.setIfInBounds_toArray, List.set_cons_zero, List.set_cons_succ]
      refine wpAnyH_take (i := 3) (v := ?_) (by simp only [List.getElem?_toArray, List.getElem?_cons_succ, List.getElem?_cons_zero]; rfl) (by kernel_rfl) (by kernel_rfl) (by kernel_rfl) (by exact fun _ _ _ h => h) (Or.inl ⟨by rfl, ?_⟩) (by assumption) ?_
      rotate_left 1
      · ((intro w hSw; (try dsimp only at hSw); go_simp) <;> with_reducible rfl)
      try simp only [Act.put, List.setIfInBounds_toArray, List.set_cons_zero, List.set_cons_succ]
      refine wpAnyH_ready (rs := [4]) (by kernel_rfl) (by simp) ?_
      refine AllReadyH.cons rfl (fun K hK => ?_) AllReadyH.nil
      go_simp
      (go_at_call 23; (with_reducible refine (HSF.out _ hB).mono ?_); rintro r w7 ⟨rfl, hb⟩; have hB := hB.tr hb; clear hb)
      try go_wp2_with fail
      refine hK.out _ _ ?_ (fun hHeld => ?_)
      · ((try dsimp only); first | done | exact ⟨cell_keep o0 hB (Nat.le_refl _), cell_keep o1 hB (Nat.le_refl _), cell_keep o2 hB (Nat.le_refl _), cell_keep o3 hB (Nat.le_refl _), cell_keep o4 hB (Nat.le_refl _), cell_keep d0 hB (Nat.le_refl _), cell_keep d1 hB (Nat.le_refl _), cell_keep d2 hB (Nat.le_refl _), cell_keep d3 hB (Nat.le_refl _), cell_keep d4 hB (Nat.le_refl _), cell_keep p0 hB (Nat.le_refl _)⟩)
      clear hK K
      try simp only [Act.put, List.setIfInBounds_toArray, List.set_cons_zero, List.set_cons_succ]
      refine wpAnyH_take (i := 5) (v := ?_) (by simp only [List.getElem?_toArray, List.getElem?_cons_succ, List.getElem?_cons_zero]; rfl) (by kernel_rfl) (by kernel_rfl) (by kernel_rfl) (by exact fun _ _ _ h => h) (Or.inl ⟨by rfl, ?_⟩) (by assumption) ?_
      rotate_left 1
      · ((intro w hSw; (try dsimp only at hSw); go_simp) <;> with_reducible rfl)
      try simp only [Act.put, List.setIfInBounds_toArray, List.set_cons_zero, List.set_cons_succ]
      refine wpAnyH_take (i := 6) (v := ?_) (by simp only [List.getElem?_toArray, List.getElem?_cons_succ, List.getElem?_cons_zero]; rfl) (by kernel_rfl) (by kernel_rfl) (by kernel_rfl) (by exact fun _ _ _ h => h) (Or.inl ⟨by rfl, ?_⟩) (by assumption) ?_
      rotate_left 1
      · ((intro w hSw; (try dsimp only at hSw); go_simp) <;> with_reducible rfl)
      try simp only [Act.put, List.setIfInBounds_toArray, List.set_cons_zero, List.set_cons_succ]
      refine wpAnyH_take (i := 7) (v := ?_) (by simp only [List.getElem?_toArray, List.getElem?_cons_succ, List.getElem?_cons_zero]; rfl) (by kernel_rfl) (by kernel_rfl) (by kernel_rfl) (by exact fun _ _ _ h => h) (Or.inl ⟨by rfl, ?_⟩) (by assumption) ?_
      rotate_left 1
      · ((intro w hSw; (try dsimp only at hSw); go_simp) <;> with_reducible rfl)
      try simp only [Act.put, List.setIfInBounds_toArray, List.set_cons_zero, List.set_cons_succ]
      refine wpAnyH_take (i := 9) (v := ?_) (by simp only [List.getElem?_toArray, List.getElem?_cons_succ, List.getElem?_cons_zero]; rfl) (by kernel_rfl) (by kernel_rfl) (by kernel_rfl) (by exact fun _ _ _ h => h) (Or.inl ⟨by rfl, ?_⟩) (by assumption) ?_
      rotate_left 1
      · ((intro w hSw; (try dsimp only at hSw); go_simp) <;> with_reducible rfl)
      try simp only [Act.put, List.setIfInBounds_toArray, List.set_cons_zero, List.set_cons_succ]
      refine wpAnyH_ready (rs := [8]) (by kernel_rfl) (by simp) ?_
      refine AllReadyH.cons rfl (fun K hK => ?_) AllReadyH.nil
      go_simp
      (go_at_call 14; (with_reducible refine (HM1.out _ (HBS.out.tr hB)).mono ?_); rintro r w8 ⟨⟨g5, k5, rfl, q1, q2, q3, hp5⟩, hb⟩; have HP5 := hide hp5.out; have HL5 := hide (⟨q1, q2⟩ : _ ∧ _); have hB := hB.tr hb; clear hb q1 q2 q3 hp5)
      try go_wp2_with fail
      refine hK.out _ _ ?_ (fun hHeld => ?_)
      · ((try dsimp only); first | done | exact ⟨cell_keep o0 hB (Nat.le_refl _), cell_keep o1 hB (Nat.le_refl _), cell_keep o2 hB (Nat.le_refl _), cell_keep o3 hB (Nat.le_refl _), cell_keep o4 hB (Nat.le_refl _), cell_keep d0 hB (Nat.le_refl _), cell_keep d1 hB (Nat.le_refl _), cell_keep d2 hB (Nat.le_refl _), cell_keep d3 hB (Nat.le_refl _), cell_keep d4 hB (Nat.le_refl _), cell_keep p0 hB (Nat.le_refl _)⟩)
      clear hK K
      try simp only [Act.put, List.setIfInBounds_toArray, List.set_cons_zero, List.set_cons_succ]
      refine wpAnyH_ready (rs := [10]) (by kernel_rfl) (by simp) ?_
      refine AllReadyH.cons rfl (fun K hK => ?_) AllReadyH.nil
      go_simp
      (go_at_call 17; (with_reducible refine (HNM.out _ hB).mono ?_); rintro r w9 ⟨⟨a6, k6, rfl, hf6⟩, hb⟩; have HP5 := hide (HP5.out.below hb); have HF6 := hide hf6.out; have hB := hB.tr hb; clear hb hf6)
      try go_wp2_with fail
      refine hK.out _ _ ?_ (fun hHeld => ?_)
      · ((try dsimp only); first | done | exact ⟨cell_keep o0 hB (Nat.le_refl _), cell_keep o1 hB (Nat.le_refl _), cell_keep o2 hB (Nat.le_refl _), cell_keep o3 hB (Nat.le_refl _), cell_keep o4 hB (Nat.le_refl _), cell_keep d0 hB (Nat.le_refl _), cell_keep d1 hB (Nat.le_refl _), cell_keep d2 hB (Nat.le_refl _), cell_keep d3 hB (Nat.le_refl _), cell_keep d4 hB (Nat.le_refl _), cell_keep p0 hB (Nat.le_refl _)⟩)
      clear hK K
      try simp only [Act.put, List.setIfInBounds_toArray, List.set_cons_zero, List.set_cons_succ]
      refine wpAnyH_ready (rs := [11]) (by kernel_rfl) (by simp) ?_
      refine AllReadyH.cons rfl (fun K hK => ?_) AllReadyH.nil
      go_simp
      (go_at_call 21; (with_reducible refine (HSM.out _ _ _ _ _ (HP5.out.fns HL5.out.1 HL5.out.2) HF6.out hB).mono ?_); rintro r w10 ⟨rfl, hb⟩; have hB := hB.tr hb; clear hb)
      try go_wp2_with fail
      refine hK.out _ _ ?_ (fun hHeld => ?_)
      · ((try dsimp only); first | done | exact ⟨cell_keep o0 hB (Nat.le_refl _), cell_keep o1 hB (Nat.le_refl _), cell_keep o2 hB (Nat.le_refl _), cell_keep o3 hB (Nat.le_refl _), cell_keep o4 hB (Nat.le_refl _), cell_keep d0 hB (Nat.le_refl _), cell_keep d1 hB (Nat.le_refl _), cell_keep d2 hB (Nat.le_refl _), cell_keep d3 hB (Nat.le_refl _), cell_keep d4 hB (Nat.le_refl _), cell_keep p0 hB (Nat.le_refl _)⟩)
      clear hK K
      try simp only [Act.put, List.setIfInBounds_toArray, List.set_cons_zero, List.set_cons_succ]
      refine wpAnyH_take (i := 12) (v := ?_) (by simp only [List.getElem?_toArray, List.getElem?_cons_succ, List.getElem?_cons_zero]; rfl) (by kernel_rfl) (by kernel_rfl) (by kernel_rfl) (by exact fun _ _ _ h => h) (Or.inl ⟨by rfl, ?_⟩) (by assumption) ?_
      rotate_left 1
      · ((intro w hSw; (try dsimp only at hSw); go_simp) <;> with_reducible rfl)
      try simp only [Act.put, List.setIfInBounds_toArray, List.set_cons_zero, List.set_cons_succ]
      refine wpAnyH_take (i := 13) (v := ?_) (by simp only [List.getElem?_toArray, List.getElem?_cons_succ, List.getElem?_cons_zero]; rfl) (by kernel_rfl) (by kernel_rfl) (by kernel_rfl) (by exact fun _ _ _ h => h) (Or.inl ⟨by rfl, ?_⟩) (by assumption) ?_
      rotate_left 1
      · ((intro w hSw; (try dsimp only at hSw); go_simp) <;> with_reducible rfl)
      try simp only [Act.put, List.setIfInBounds_toArray, List.set_cons_zero, List.set_cons_succ]
      refine wpAnyH_take (i := 14) (v := ?_) (by simp only [List.getElem?_toArray, List.getElem?_cons_succ, List.getElem?_cons_zero]; rfl) (by kernel_rfl) (by kernel_rfl) (by kernel_rfl) (by exact fun _ _ _ h => h) (Or.inl ⟨by rfl, ?_⟩) (by assumption) ?_
      rotate_left 1
      · ((intro w hSw; (try dsimp only at hSw); go_simp) <;> with_reducible rfl)
      try simp only [Act.put, List.setIfInBounds_toArray, List.set_cons_zero, List.set_cons_succ]
      refine wpAnyH_ready (rs := [15]) (by kernel_rfl) (by simp) ?_
      refine AllReadyH.cons rfl (fun K hK => ?_) AllReadyH.nil
      go_simp
      (go_at_call 15; (with_reducible refine (HWK.out _ hB).mono ?_); rintro r w11 ⟨rfl, hb⟩; have hB := hB.tr hb; clear hb)
      try go_wp2_with fail
      refine hK.out _ _ ?_ (fun hHeld => ?_)
      · ((try dsimp only); first | done | exact ⟨cell_keep o0 hB (Nat.le_refl _), cell_keep o1 hB (Nat.le_refl _), cell_keep o2 hB (Nat.le_refl _), cell_keep o3 hB (Nat.le_refl _), cell_keep o4 hB (Nat.le_refl _), cell_keep d0 hB (Nat.le_refl _), cell_keep d1 hB (Nat.le_refl _), cell_keep d2 hB (Nat.le_refl _), cell_keep d3 hB (Nat.le_refl _), cell_keep d4 hB (Nat.le_refl _), cell_keep p0 hB (Nat.le_refl _)⟩)
      clear hK K
      try simp only [Act.put, List.setIfInBounds_toArray, List.set_cons_zero, List.set_cons_succ]
      refine wpAnyH_take (i := 16) (v := ?_) (by simp only [List.getElem?_toArray, List.getElem?_cons_succ, List.getElem?_cons_zero]; rfl) (by kernel_rfl) (by kernel_rfl) (by kernel_rfl) (by exact fun _ _ _ h => h) (Or.inl ⟨by rfl, ?_⟩) (by assumption) ?_
      rotate_left 1
      · ((intro w hSw; (try dsimp only at hSw); go_simp) <;> with_reducible rfl)
      try simp only [Act.put, List.setIfInBounds_toArray, List.set_cons_zero, List.set_cons_succ]
      refine wpAnyH_take (i := 17) (v := ?_) (by simp only [List.getElem?_toArray, List.getElem?_cons_succ, List.getElem?_cons_zero]; rfl) (by kernel_rfl) (by kernel_rfl) (by kernel_rfl) (by exact fun _ _ _ h => h) (Or.inl ⟨by rfl, ?_⟩) (by assumption) ?_
      rotate_left 1
      · ((intro w hSw; (try dsimp only at hSw); go_simp) <;> with_reducible rfl)
      try simp only [Act.put, List.setIfInBounds_toArray, List.set_cons_zero, List.set_cons_succ]
      refine wpAnyH_done (by kernel_rfl) ?_ _
      go_wp2_with fail
      go_ret
      exact ⟨rfl, HBS.out.tr hB⟩
end Go.Proofs.YthpmecbekpmijaaGreatDoor
namespace Go.Proofs.YthpmecbekpmijaaGreatDoor.PrSame
open Go Go.ChangeShapes Go.WideShapes Go.ChangeAt Go.RowKit
set_option linter.unusedSimpArgs false
set_option linter.unusedVariables false
set_option linter.unnecessarySimpa false
theorem laidOut : laidOutB Tryz.prog = true := by kernel_rfl
/-- What came in reads behind the call as it did. -/
theorem stay {H : Type} {enc : TypeId × Value → H} {W W' : World} {sp : Nat → Bool} {t : TypeId} {v : Value} {d : DataW H} {ps : List MemPlace} (hr : Tryz.prog.readableRec t = true) (hrow : t < Tryz.prog.types.size)
    (h : DataW.Trod enc Tryz.prog W 0 (fun _ => true) true t v d ps) (hb : Below W.heap.size W W') (hs : ∀ p ∈ ps, sp p.block = true) : DataW.Trod enc Tryz.prog W' 0 sp true t v d ps := by
  refine WideElems.Trod_stays laidOut hr hrow h (fun p hp => ?_) hs
  obtain ⟨n, hn⟩ := h
  have hlt := DataW.trod_lt n t _ _ hn p hp
  cases p with
  | cell b o => exact hb.cell (p := ⟨b, o, none⟩) hlt
  | map b => exact hb.block b hlt
set_option maxRecDepth 100000 in
theorem lifted (os : Os) (started : os.Started) (H : Type) (enc : TypeId × Value → H) :
    ReturnsInHanded {} Tryz.checked os 6 .any (fun w args => (Rows.shapeSameSpec.pre enc Tryz.prog Tryz.f6 [] false w args ∧ laidMetH Tryz.prog Rows.shapeSameRow.laid w) ∧ sizedMet enc Tryz.prog Tryz.f6 (OpenSpec.ofChange Rows.shapeSameSpec) false w args)
      (Rows.shapeSameSpec.post enc Tryz.prog Tryz.f6 false true false false) := by
  refine returnsInHanded_of_change_and (C := Tryz.checked) (X := fun w _ => laidMetH Tryz.prog Rows.shapeSameRow.laid w) (fun _ _ _ hh h => h.of_heap hh) own started (by kernel_rfl) Tryz.func6
    (witness_laid #[.slice none 0 0, .slice none 0 0, .slice none 0 0, .int .u8 0] 8 (by kernel_rfl) (by kernel_rfl) (by kernel_rfl) (by kernel_rfl) (by kernel_rfl) (by kernel_rfl) (by kernel_rfl)) ?_
  intro W base args ds gs before hval0 hW _ _ hL _
  have hval : ∀ (j : Nat) t v, Tryz.f6.params[j]? = some t → args[j]? = some v → Value.okWide Tryz.prog W .any base t v := hval0
  have hW' := hW
  obtain ⟨p, q, hA0, hV, rfl, hfz, hnd⟩ := hW
  have hA : DataW.TrodAll enc Tryz.prog W 0 (fun _ => true) true Tryz.f6.params.toList args.toList ds p := hA0
  rw [Tryz.params6] at hA hval
  obtain ⟨v0, vs0, d0, ds0, p0, q0, hargs, rfl, rfl, h0, r0⟩ := trodAll_cons hA
  obtain ⟨v1, vs1, d1, ds1, p1, q1, rfl, rfl, rfl, h1, r1⟩ := trodAll_cons r0
  obtain ⟨v2, vs2, d2, ds2, p2, q2, rfl, rfl, rfl, h2, r2⟩ := trodAll_cons r1
  obtain ⟨v3, vs3, d3, ds3, p3, q3, rfl, rfl, rfl, h3, r3⟩ := trodAll_cons r2
  obtain ⟨rfl, rfl, rfl⟩ := trodAll_nil r3
  obtain rfl : args = #[v0, v1, v2, v3] := by cases args; simp_all
  obtain ⟨rfl, rfl⟩ := trodVars_none hV
  obtain ⟨D0, a0, c0, hv0, hl0⟩ := read_draft (hval 0 23 v0 rfl rfl) h0
  obtain ⟨D1, a1, c1, hv1, hl1⟩ := read_draft (hval 1 23 v1 rfl rfl) h1
  obtain ⟨D2, a2, c2, hv2, hl2⟩ := read_draft (hval 2 23 v2 rfl rfl) h2
  obtain ⟨x3, rfl, rfl, rfl, w3⟩ := open_int Tryz.underlying5 (hval 3 5 v3 rfl rfl) h3
  subst hv0
  subst hv1
  subst hv2
  clear hA0 hval0
  have hb3 := u8_of_wf w3
  obtain ⟨n3, rfl⟩ : ∃ n : Nat, x3 = n := ⟨x3.toNat, by omega⟩
  refine (ShapeSame_any D0 D1 D2 a0 a1 a2 c0 c1 c2 n3 W hl0 hl1 hl2 (by omega) (tab_of_laid hL)).mono fun r W' ⟨hr, hb⟩ => ?_
  subst hr
  exact ⟨_, rfl, post_of_below (pa := (p0 ++ (p1 ++ (p2 ++ ([] ++ []))))) (pv := []) hW' (fun _ _ _ => (trodAll_cons_mk (shut_bool Tryz.underlying4 _) trodAll_mk0))
    (fun sp hsp => (trodAll_cons_mk (stay (by kernel_rfl) (of_decide_eq_true (by kernel_rfl)) h0 hb (fun p hp => hsp p (by simp [hp]))) (trodAll_cons_mk (stay (by kernel_rfl) (of_decide_eq_true (by kernel_rfl)) h1 hb (fun p hp => hsp p (by simp [hp]))) (trodAll_cons_mk (stay (by kernel_rfl) (of_decide_eq_true (by kernel_rfl)) h2 hb (fun p hp => hsp p (by simp [hp]))) (trodAll_cons_mk (shut_int Tryz.underlying5 w3) trodAll_mk0))))) (fun _ _ => rfl) rfl
    hb (ok_one (by kernel_rfl) rfl (okWide_bool_mk Tryz.underlying4 _))⟩
theorem over : Rows.shapeSameRow.holds Tryz.pinned (OpenSpec.ofChange Rows.shapeSameSpec) :=
  OpenClaim.holds_of_wide 6 Tryz.f6 rfl rfl rfl rfl rfl rfl rfl ⟨rfl, rfl, rfl, rfl, rfl⟩ rfl rfl rfl rfl rfl (by kernel_rfl) Tryz.func6 (by kernel_rfl)
    (of_decide_eq_true (by kernel_rfl)) (by unfold Func.isWrapper; first | (rw [if_pos (by decide +kernel)]; kernel_rfl) | (rw [if_neg (by decide +kernel)]; exact ⟨rfl, rfl⟩))
    (fun os started H enc _ => lifted os started H enc)
end Go.Proofs.YthpmecbekpmijaaGreatDoor.PrSame
namespace Go.Proofs.YthpmecbekpmijaaGreatDoor
open Go
theorem shapeSame_proved : Rows.ShapeSameCardSaid :=
  Claim7.holds_tied_plain_at .later [] [.data, .listed, .data, .pinned] true (true, "f1029df70603543d5481013e3a44e28bed87f83257e9a103e9b9a1ccaf4ca870") false
    PrSame.over (fun _ h => by cases h) (by kernel_rfl) (fun _ h => by cases h) shapeSame_row_tie rfl ⟨rfl, rfl⟩ (by kernel_rfl) rfl
    (fun f fn hf hfn => by
      obtain rfl : f = 6 := Option.some.inj ((show Tryz.prog.funcNamed "rewind/rewindlaw03.ShapeSame" = some 6 by kernel_rfl).symm.trans hf) |>.symm
      obtain rfl : fn = Tryz.f6 := (Option.some.inj (Tryz.func6.symm.trans hfn)).symm
      exact ⟨by kernel_rfl, fun j t ht => by
        rw [Tryz.params6] at ht
        have h3 : t = 23 ∨ t = 23 ∨ t = 23 ∨ t = 5 := by
          rcases j with _ | _ | _ | _ | j
          all_goals simp at ht
          · exact .inl ht.symm
          · exact .inr (.inl ht.symm)
          · exact .inr (.inr (.inl ht.symm))
          · exact .inr (.inr (.inr ht.symm))
        rcases h3 with rfl | rfl | rfl | rfl
        · exact (show Tryz.prog.wantsStandIn 23 = false by kernel_rfl)
        · exact (show Tryz.prog.wantsStandIn 23 = false by kernel_rfl)
        · exact (show Tryz.prog.wantsStandIn 23 = false by kernel_rfl)
        · exact (show Tryz.prog.wantsStandIn 5 = false by kernel_rfl)⟩)
    (by kernel_rfl)
#print axioms shapeSame_proved
end Go.Proofs.YthpmecbekpmijaaGreatDoor
