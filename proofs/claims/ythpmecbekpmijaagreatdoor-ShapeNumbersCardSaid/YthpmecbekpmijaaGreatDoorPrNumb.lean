/- ShapeNumbers returns true for every input, whatever the world is in which the table of blanks is laid as the program lays it, and the input reads as it did. No further condition. -/
import Derived.Test.YthpmecbekpmijaaGreatDoorShC
import Derived.ProofKit
import Derived.OpenShut
import Derived.Test.YthpmecbekpmijaaGreatDoorMkI
import Derived.Test.YthpmecbekpmijaaGreatDoorRows
import Derived.Test.YthpmecbekpmijaaGreatDoorShA
import Derived.Lay
import Derived.MakeChecks
import Derived.Handed
import Derived.ChangeSame
import Derived.Test.YthpmecbekpmijaaGreatDoorSpI
import Derived.Test.YthpmecbekpmijaaGreatDoorNw
import Derived.Laws.StructEq
import Derived.Deep.QuietTactic
import Derived.BigQuiet
import Derived.Test.YthpmecbekpmijaaGreatDoorEq
import Derived.Test.YthpmecbekpmijaaGreatDoorMd1
import Derived.Test.YthpmecbekpmijaaGreatDoorSn
import Derived.Test.YthpmecbekpmijaaGreatDoorSpO
import Derived.Test.YthpmecbekpmijaaGreatDoorLwA
import Derived.Test.YthpmecbekpmijaaGreatDoorOw2
import Derived.Test.YthpmecbekpmijaaGreatDoorSpN
import Derived.Deep.RegionHeld3
import Derived.RegionTactic
import Derived.IntWalk
import Derived.Test.YthpmecbekpmijaaGreatDoorTie
import Derived.Test.YthpmecbekpmijaaGreatDoorCards
import Derived.SevenTiedAt
import Derived.WideKeyArgs
import Derived.ChangeMaps5
/- Expressions that come in: what the statement's reading of them gives, as trees in memory. -/
namespace Go.Proofs.YthpmecbekpmijaaGreatDoor
open Go Go.RowKit Go.WideShapes Go.ChangeShapes
set_option linter.unusedSimpArgs false
set_option linter.unusedVariables false
set_option linter.unnecessarySimpa false
set_option maxRecDepth 100000
theorem cells5 {w : World} {base : Nat} {a : Addr} {cs : List Value} (h : w.cells? base a 5 = some cs) :
    ∃ (b o : Nat) (v0 v1 v2 v3 v4 : Value), a = ⟨b, o, none⟩ ∧ cs = [v0, v1, v2, v3, v4] ∧ w.cell? ⟨b, o, none⟩ = some v0 ∧ w.cell? ⟨b, o + 1, none⟩ = some v1 ∧ w.cell? ⟨b, o + 2, none⟩ = some v2 ∧
      w.cell? ⟨b, o + 3, none⟩ = some v3 ∧ w.cell? ⟨b, o + 4, none⟩ = some v4 := by
  unfold World.cells? at h
  split at h
  · rw [show List.range 5 = [0, 1, 2, 3, 4] from rfl] at h
    simp only [List.mapM_cons, List.mapM_nil, Option.bind_eq_bind, Option.bind_eq_some_iff, Option.pure_def, Option.some.injEq] at h
    obtain ⟨v0, h0, _, ⟨v1, h1, _, ⟨v2, h2, _, ⟨v3, h3, _, ⟨v4, h4, _, rfl, rfl⟩, rfl⟩, rfl⟩, rfl⟩, rfl⟩ := h
    obtain ⟨b, o, s⟩ := a
    have hs : s = none := by simpa [Addr.add] using World.cell?_spot h0
    subst hs
    exact ⟨b, o, v0, v1, v2, v3, v4, rfl, rfl, by simpa [Addr.add] using h0, by simpa [Addr.add] using h1, by simpa [Addr.add] using h2, by simpa [Addr.add] using h3, by simpa [Addr.add] using h4⟩
  · cases h
theorem i64_of_wf {z : Int} (h : (Lit.int .i64 z).wf = true) : I64 z := by
  have h2 : -9223372036854775808 ≤ z ∧ z ≤ 9223372036854775807 := by simpa [Lit.wf, IntKind.min, IntKind.max, IntKind.signed, IntKind.bits] using h
  exact h2
theorem row_of_all {w : World} {b : Nat} : ∀ (n o : Nat), (∀ i, i < n → ∃ e, Ex.At w e b (o + i * 5)) → ∃ es : List Ex, es.length = n ∧ Ex.Row w es (some ⟨b, o, none⟩)
  | 0, o, _ => ⟨[], rfl, by simp only [Ex.Row]⟩
  | n + 1, o, h => by
    obtain ⟨e, he⟩ := h 0 (by omega)
    obtain ⟨es, hl, hr⟩ := row_of_all n (o + 5) (fun i hi => by
      have := h (i + 1) (by omega)
      rwa [show o + (i + 1) * 5 = o + 5 + i * 5 by omega] at this)
    refine ⟨e :: es, by simp [hl], ?_⟩
    simp only [Ex.Row]
    exact ⟨b, o, rfl, by simpa using he, hr⟩
section
variable {H : Type} {enc : TypeId × Value → H} {W : World} {sp : Nat → Bool} {held : Bool}
theorem read_ex : ∀ (N n : Nat), n < N → ∀ (cs : List Value) (x : DataW H × List MemPlace), DataW.trod enc Tryz.prog W 0 sp held n 27 cs = some x →
    ∃ (e : Ex) (a : Option Addr) (cap : Nat), cs = [.int .i64 e.kind, .int .i64 e.op, .int .i64 e.num, .string ⟨e.name.toArray⟩, .slice a e.args.length cap] ∧ ExWf e.kind e.op e.num e.name e.args.length cap ∧ Ex.Row W e.args a
  | 0, n, hn, _, _, _ => absurd hn (Nat.not_lt_zero _)
  | N + 1, n, hn, cs, x, h => by
    obtain ⟨xs, n1, rfl, _, hl, hxl, hf⟩ := DataW.trod_struct Tryz.underlying27 h
    have hl5 : cs.length = 5 := hl.trans (by kernel_rfl)
    have ci : Tryz.prog.cellsOf 3 = 1 := by kernel_rfl
    have c6 : Tryz.prog.cellsOf 2 = 1 := by kernel_rfl
    have cst : Tryz.prog.cellsOf 9 = 1 := by kernel_rfl
    have csl : Tryz.prog.cellsOf 25 = 1 := by kernel_rfl
    have ce : Tryz.prog.cellsOf 27 = 5 := by kernel_rfl
    match cs, hl5, xs, hxl with
    | [v0, v1, v2, v3, v4], _, [x0, x1, x2, x3, x4], _ =>
      have f0 : DataW.trod enc Tryz.prog W 0 sp held n1 3 (([v0, v1, v2, v3, v4].drop 0).take (Tryz.prog.cellsOf 3)) = [x0, x1, x2, x3, x4][0]? := hf 0 _ rfl
      have f1 : DataW.trod enc Tryz.prog W 0 sp held n1 3 (([v0, v1, v2, v3, v4].drop 1).take (Tryz.prog.cellsOf 3)) = [x0, x1, x2, x3, x4][1]? := hf 1 _ rfl
      have f2 : DataW.trod enc Tryz.prog W 0 sp held n1 2 (([v0, v1, v2, v3, v4].drop 2).take (Tryz.prog.cellsOf 2)) = [x0, x1, x2, x3, x4][2]? := hf 2 _ rfl
      have f3 : DataW.trod enc Tryz.prog W 0 sp held n1 9 (([v0, v1, v2, v3, v4].drop 3).take (Tryz.prog.cellsOf 9)) = [x0, x1, x2, x3, x4][3]? := hf 3 _ rfl
      have f4 : DataW.trod enc Tryz.prog W 0 sp held n1 25 (([v0, v1, v2, v3, v4].drop 4).take (Tryz.prog.cellsOf 25)) = [x0, x1, x2, x3, x4][4]? := hf 4 _ rfl
      simp only [ci, c6, cst, csl, List.drop_zero, List.drop_succ_cons, List.take_succ_cons, List.take_zero, List.getElem?_cons_zero, List.getElem?_cons_succ] at f0 f1 f2 f3 f4
      obtain ⟨k, e0, _, w0⟩ := DataW.trod_int Tryz.underlying3 f0
      obtain ⟨o, e1, _, w1⟩ := DataW.trod_int Tryz.underlying3 f1
      obtain ⟨m, e2, _, w2⟩ := DataW.trod_int Tryz.underlying2 f2
      obtain ⟨s, e3, _, w3⟩ := DataW.trod_string Tryz.underlying9 f3
      simp only [List.cons.injEq, and_true] at e0 e1 e2 e3
      subst e0 e1 e2 e3
      have hs : s = ⟨s.data.toList.toArray⟩ := by simp
      have hsl : s.data.toList.length ≤ maxLen := by rw [Array.length_toList]; exact w3
      rcases DataW.trod_slice Tryz.underlying25 f4 with ⟨e4, _⟩ | ⟨a, len, cap, elems, rest, n2, hn2, e4, _, hb, hlc, hcm, hel, hall, _, _⟩
      · simp only [List.cons.injEq, and_true] at e4
        subst e4
        refine ⟨.mk k o m s.data.toList [], none, 0, ?_, ⟨i64_of_wf w0, i64_of_wf w1, i64_of_wf w2, hsl, Nat.le_refl _, Nat.zero_le _⟩, by simp only [Ex.args, Ex.Row]⟩
        simp only [Ex.kind, Ex.op, Ex.num, Ex.name, Ex.args, List.length_nil, ← hs]
      · simp only [List.cons.injEq, and_true] at e4
        subst e4
        have key : ∀ i, i < len → ∃ (b o : Nat) (e : Ex), a.add (i * 5) = ⟨b, o, none⟩ ∧ Ex.At W e b o := by
          intro i hi
          have h1 := hall i hi
          rw [List.getElem?_eq_getElem (by omega), ce] at h1
          obtain ⟨cs', h2, h3⟩ := Option.bind_eq_some_iff.1 h1
          obtain ⟨b', o', u0, u1, u2, u3, u4, ha, rfl, k0, k1, k2, k3, k4⟩ := cells5 h2
          obtain ⟨e, a', cap', he, hw, hr⟩ := read_ex N n2 (by omega) _ _ h3
          refine ⟨b', o', e, ha, ?_⟩
          simp only [List.cons.injEq, and_true] at he
          obtain ⟨rfl, rfl, rfl, rfl, rfl⟩ := he
          cases e
          simp only [Ex.At]
          exact ⟨a', cap', k0, k1, k2, k3, k4, hw, hr⟩
        by_cases h0 : len = 0
        · subst h0
          refine ⟨.mk k o m s.data.toList [], some a, cap, ?_, ⟨i64_of_wf w0, i64_of_wf w1, i64_of_wf w2, hsl, Nat.zero_le _, hcm⟩, by simp only [Ex.args, Ex.Row]⟩
          simp only [Ex.kind, Ex.op, Ex.num, Ex.name, Ex.args, List.length_nil, ← hs]
        · obtain ⟨b0, o0, _, ha0, _⟩ := key 0 (by omega)
          have ha : a = ⟨b0, o0, none⟩ := by simpa [Addr.add] using ha0
          subst ha
          obtain ⟨es, hes, hrow⟩ := row_of_all (w := W) (b := b0) len o0 (fun i hi => by
            obtain ⟨b', o', e, he, hat⟩ := key i hi
            rw [Addr.add_lit] at he
            simp only [Addr.mk.injEq, and_true] at he
            obtain ⟨rfl, rfl⟩ := he
            exact ⟨e, hat⟩)
          subst hes
          refine ⟨.mk k o m s.data.toList es, some ⟨b0, o0, none⟩, cap, ?_, ⟨i64_of_wf w0, i64_of_wf w1, i64_of_wf w2, hsl, hlc, hcm⟩, hrow⟩
          simp only [Ex.kind, Ex.op, Ex.num, Ex.name, Ex.args, ← hs]
/-- An expression that comes in. -/
theorem read_expr {r : Reach} {b0 : Nat} {v : Value} {d : DataW H} {p : List MemPlace} (hv : Value.okWide Tryz.prog W r b0 27 v) (h : DataW.Trod enc Tryz.prog W 0 sp held 27 v d p) : ∃ e, Ex.Val W e v := by
  obtain ⟨cs, rfl, _⟩ := okWide_struct Tryz.underlying27 hv
  obtain ⟨n, hn⟩ := h
  obtain ⟨e, a, cap, he, hw, hr⟩ := read_ex (n + 1) n (Nat.lt_succ_self _) _ _ hn
  refine ⟨e, a, cap, ?_, hw, hr⟩
  have : cs.toList = _ := he
  rw [← Array.toArray_toList (xs := cs), this]
end
end Go.Proofs.YthpmecbekpmijaaGreatDoor
/- Drafts that come in: a list of bytes, as the statement's reading of it gives it. -/
namespace Go.Proofs.YthpmecbekpmijaaGreatDoor
open Go Go.RowKit Go.WideShapes Go.ChangeShapes
set_option linter.unusedSimpArgs false
set_option linter.unusedVariables false
set_option linter.unnecessarySimpa false
set_option maxRecDepth 100000
theorem cells1 {w : World} {base : Nat} {a : Addr} {cs : List Value} (h : w.cells? base a 1 = some cs) : ∃ (b o : Nat) (v0 : Value), a = ⟨b, o, none⟩ ∧ cs = [v0] ∧ w.cell? ⟨b, o, none⟩ = some v0 := by
  unfold World.cells? at h
  split at h
  · rw [show List.range 1 = [0] from rfl] at h
    simp only [List.mapM_cons, List.mapM_nil, Option.bind_eq_bind, Option.bind_eq_some_iff, Option.pure_def, Option.some.injEq] at h
    obtain ⟨v0, h0, _, rfl, rfl⟩ := h
    obtain ⟨b, o, s⟩ := a
    have hs : s = none := by simpa [Addr.add] using World.cell?_spot h0
    subst hs
    exact ⟨b, o, v0, rfl, rfl, by simpa [Addr.add] using h0⟩
  · cases h
theorem u8_of_wf {z : Int} (h : (Lit.int .u8 z).wf = true) : 0 ≤ z ∧ z ≤ 255 := by
  simpa [Lit.wf, IntKind.min, IntKind.max, IntKind.signed, IntKind.bits] using h
section
variable {H : Type} {enc : TypeId × Value → H} {W : World} {sp : Nat → Bool} {held : Bool}
/-- A draft that comes in. -/
theorem read_draft {r : Reach} {b0 : Nat} {v : Value} {d : DataW H} {p : List MemPlace} (hv : Value.okWide Tryz.prog W r b0 23 v) (h : DataW.Trod enc Tryz.prog W 0 sp held 23 v d p) :
    ∃ (D : List Nat) (a : Option Addr) (cap : Nat), v = .slice a D.length cap ∧ U8s W D a cap := by
  obtain ⟨a, len, cap, rfl⟩ := okWide_slice Tryz.underlying23 hv
  obtain ⟨n, hn⟩ := h
  have cv : Tryz.prog.cellsOf 5 = 1 := by kernel_rfl
  rcases DataW.trod_slice Tryz.underlying23 hn with ⟨e4, _⟩ | ⟨a', len', cap', elems, rest, n2, hn2, e4, _, hb, hlc, hcm, hel, hall, _, _⟩
  · simp only [Value.cells, List.cons.injEq, Value.slice.injEq, and_true] at e4
    obtain ⟨rfl, rfl, rfl⟩ := e4
    exact ⟨[], none, 0, rfl, ⟨Nat.le_refl _, Nat.zero_le _, by simp, fun b o e => by cases e⟩⟩
  · simp only [Value.cells, List.cons.injEq, Value.slice.injEq, and_true] at e4
    obtain ⟨rfl, rfl, rfl⟩ := e4
    have key : ∀ i, i < len → ∃ (b o : Nat) (x : Nat), a'.add (i * 1) = ⟨b, o, none⟩ ∧ x ≤ 255 ∧ W.cell? ⟨b, o, none⟩ = some (.int .u8 (x : Nat)) := by
      intro i hi
      have h1 := hall i hi
      rw [List.getElem?_eq_getElem (by omega), cv] at h1
      obtain ⟨cs', h2, h3⟩ := Option.bind_eq_some_iff.1 h1
      obtain ⟨b', o', u0, ha, rfl, k0⟩ := cells1 h2
      obtain ⟨z, e0, _, w0⟩ := DataW.trod_int Tryz.underlying5 h3
      simp only [List.cons.injEq, and_true] at e0
      subst e0
      have hz := u8_of_wf w0
      exact ⟨b', o', z.toNat, ha, by omega, by rw [k0, Int.toNat_of_nonneg hz.1]⟩
    by_cases h0 : len = 0
    · subst h0
      exact ⟨[], some a', cap, rfl, ⟨Nat.zero_le _, hcm, by simp, fun b o e i hi => absurd hi (Nat.not_lt_zero _)⟩⟩
    · obtain ⟨b0, o0, _, ha0, _⟩ := key 0 (by omega)
      have ha : a' = ⟨b0, o0, none⟩ := by simpa [Addr.add] using ha0
      subst ha
      have key2 : ∀ i, i < len → ∃ x : Nat, x ≤ 255 ∧ W.cell? ⟨b0, o0 + i, none⟩ = some (.int .u8 (x : Nat)) := fun i hi => by
        obtain ⟨b', o', x, he, hw, hat⟩ := key i hi
        rw [Addr.add_lit] at he
        simp only [Addr.mk.injEq, and_true] at he
        obtain ⟨rfl, rfl⟩ := he
        exact ⟨x, hw, by simpa using hat⟩
      refine ⟨(List.finRange len).map fun i => (key2 i.1 i.2).choose, some ⟨b0, o0, none⟩, cap, by simp, ⟨by simpa using hlc, hcm, fun _ => ⟨_, _, rfl⟩, ?_⟩⟩
      intro b o e i hi
      simp only [Option.some.injEq, Addr.mk.injEq, and_true] at e
      obtain ⟨rfl, rfl⟩ := e
      have hi' : i < len := by simpa using hi
      have := (key2 i hi').choose_spec
      simpa using this
end
end Go.Proofs.YthpmecbekpmijaaGreatDoor
/- What a row of this seat needs: its condition gives the table of blanks; a world that meets it; the last step of a row. -/
namespace Go.Proofs.YthpmecbekpmijaaGreatDoor
open Go Go.RowKit Go.WideShapes Go.ChangeShapes
set_option linter.unusedSimpArgs false
set_option linter.unusedVariables false
set_option linter.unnecessarySimpa false
theorem own : ownKnob Tryz.prog.godebug = none := by kernel_rfl
/-- The list of laid variables of every row of this seat. -/
def theLaid : List (String × DataW Unit) := [("unicode/utf8.acceptRanges", Rows.laid_unicode_utf8_acceptRanges), ("unicode.White_Space", Rows.laid_unicode_White_Space), ("strings.asciiSpace", Rows.laid_strings_asciiSpace), ("unicode/utf8.first", Rows.laid_unicode_utf8_first)]
theorem space_data : (Rows.laid_strings_asciiSpace : DataW Unit) = Lib.tabData .u8 Lib.asciiSpaceTab := by kernel_rfl
/-- What a row's condition on the listed variables gives a walk. -/
theorem tab_of_laid {W : World} (h : laidMetH Tryz.prog theLaid W) : Tab W := by
  rw [MakeChecks.laidMetH_plain _ _ _ (by kernel_rfl)] at h
  obtain ⟨ps, ⟨g1, t1, cs1, f1, p1, q1, _, _, _, _, ⟨g2, t2, cs2, f2, p2, q2, _, _, _, _, ⟨g', t', cs, fuel, p, q, hg', ht', hvar, hd, _, _⟩, _⟩, _⟩, _, _⟩ := h
  have hg : Tryz.prog.globalNamed "strings.asciiSpace" = some 0 := by kernel_rfl
  obtain rfl := Option.some.inj (hg.symm.trans hg')
  obtain rfl := Option.some.inj ((show (Tryz.prog.globals[0]?).map (·.type) = some 156 by kernel_rfl).symm.trans ht')
  rw [space_data] at hd
  unfold Tab Lib.TabIs
  rw [hvar, ← Lib.cells_of_tab Tryz.underlying156 Tryz.underlying5 (by kernel_rfl) (by kernel_rfl) hd]
/-- A world that meets every row's condition on the listed variables. -/
theorem witness_laid {os : Os} {H : Type} {enc : TypeId × Value → H} {f : FuncId} {fn : Func} {s : ChangeSpec} (args : Array Value) (fuel : Nat)
    (hv : ((World.laidAll Tryz.prog os theLaid).forCall (fun _ _ => 0) ⟨#[], args, []⟩).variablesZipB Tryz.prog = true)
    (hr : (((World.laidAll Tryz.prog os theLaid).forCall (fun _ _ => 0) ⟨#[], args, []⟩).heap.toList.drop Tryz.prog.globals.size).take ((begin Tryz.prog (fun _ _ => 0) default).world.heap.size - Tryz.prog.globals.size) =
      (begin Tryz.prog (fun _ _ => 0) default).world.heap.toList.drop Tryz.prog.globals.size)
    (hok : Input.okWideB Tryz.prog ((World.laidAll Tryz.prog os theLaid).forCall (fun _ _ => 0) ⟨#[], args, []⟩) f ⟨#[], args, []⟩ = true)
    (hpre : s.preB enc Tryz.prog fn [] false ((World.laidAll Tryz.prog os theLaid).forCall (fun _ _ => 0) ⟨#[], args, []⟩).memory args fuel = true)
    (hsz : s.sizedB enc Tryz.prog fn false ((World.laidAll Tryz.prog os theLaid).forCall (fun _ _ => 0) ⟨#[], args, []⟩).memory args fuel = true)
    (hf : (World.holding Tryz.prog os ⟨#[], #[], []⟩).layFits Tryz.prog theLaid [] = true)
    (hi : (World.holding Tryz.prog os ⟨#[], #[], []⟩).layIfaces Tryz.prog theLaid (World.laidAll Tryz.prog os theLaid) = true) :
    ∃ (w : World) (tape : Tape) (i : Input), w.os = os ∧ (w.forCall tape i).Shaped Tryz.prog ∧ i.vars = [] ∧ Input.okWide Tryz.prog (w.forCall tape i) .any w.heap.size f i ∧
      ((s.pre enc Tryz.prog fn [] false (w.forCall tape i).memory i.args ∧ laidMetH Tryz.prog theLaid (w.forCall tape i).memory) ∧ sizedMet enc Tryz.prog fn (OpenSpec.ofChange s) false (w.forCall tape i).memory i.args) ∧ ({} : Assume).holds Tryz.prog (lone (Frame.enter Tryz.prog f i.args .normal) [] (w.forCall tape i)) :=
  ⟨World.laidAll Tryz.prog os theLaid, fun _ _ => 0, ⟨#[], args, []⟩, World.laidAll_os _ _ _, World.shaped_of_ZipB hv hr, (Input.okWide_of_okWideB (base := 0) hok).1, (Input.okWide_of_okWideB hok).2, ⟨⟨ChangeSpec.pre_of_preB hpre, by
    rw [MakeChecks.laidMetH_plain _ _ _ (by kernel_rfl)]; exact laidMet_laidAll _ hf hi⟩, sizedMet_of_sizedB hsz⟩, by
    simp only [Assume.holds]
    exact ⟨by simp, by simp, fun _ => Modest.zero, by simp, by simp⟩⟩
section
variable {H : Type} {enc : TypeId × Value → H} {P : Program}
/-- The row's last step, where of the call's world one knows that what was there has not turned. -/
theorem post_of_below {f : Func} {s : ChangeSpec} {apart fresh handsOn again : Bool} {W W' : World} {args : Array Value} {v : Value} {ds gs : List (DataW H)} {before pa pv : List MemPlace}
    (hW : DataW.Whole enc P f.params.toList s.vars apart W args.toList ds gs before)
    (hres : ∀ (b : Nat) (sp : Nat → Bool) (hd : Bool), DataW.TrodAll enc P W' b sp hd f.resultTypes.toList (v.resultList f.resultTypes.size) (s.fn H (ds ++ gs)).results [])
    (hargs : ∀ sp : Nat → Bool, (∀ p ∈ before, sp p.block = true) → DataW.TrodAll enc P W' 0 sp true f.params.toList args.toList (s.fn H (ds ++ gs)).args pa)
    (hvars : ∀ sp : Nat → Bool, (∀ p ∈ before, sp p.block = true) → DataW.TrodVars enc P W' sp s.vars (s.fn H (ds ++ gs)).vars pv)
    (hps : before = pa ++ pv) (hb : Below W.heap.size W W')
    (hok : ∀ (j : Nat) (t : TypeId) (r : Value), f.resultTypes[j]? = some t → (v.resultList f.resultTypes.size)[j]? = some r → Value.okWide P W' .any 0 t r) :
    s.post enc P f apart fresh handsOn again W args v W' := by
  have hlt : ∀ p ∈ before, p.block < W.heap.size := fun p hp => hW.lt p hp
  have hold : ∀ p ∈ before, (fun b => decide (b < W.heap.size)) p.block = true := fun p hp => by simpa using hlt p hp
  refine ⟨ds, gs, before, [], pa, pv, hW, hres _ _ _, hargs _ hold, hvars _ hold, World.keptBut_mono (fun p hp => ⟨hp, ?_⟩) (hb.frame (· ∈ before)), fun _ => ?_⟩
  · rw [hps, List.mem_append] at hp
    exact Or.inr hp
  · obtain ⟨_, _, _, _, _, hz, hn⟩ := hW
    refine ⟨hok, _, _, ([] ++ pa) ++ pv, ⟨[] ++ pa, pv, trodAll_append (hargs _ (fun _ _ => rfl)) (hres _ _ _), hvars _ (fun _ _ => rfl), rfl, ?_, ?_⟩, ?_⟩
    · intro b off hp
      have hin : MemPlace.cell b off ∈ before := by rw [hps]; simpa using hp
      rw [hb.frozen (hlt _ hin)]
      exact hz b off hin
    · intro ha
      have := hn ha
      rw [hps] at this
      simpa using this
    · intro p hp _
      rw [hps]
      simpa using hp
end
end Go.Proofs.YthpmecbekpmijaaGreatDoor
/- slices.Equal over parameters; shape.SameFunc answers eqF. -/
namespace Go.Proofs.YthpmecbekpmijaaGreatDoor
open Go Go.RowKit
set_option linter.unusedSimpArgs false
set_option linter.unusedVariables false
set_option linter.unnecessarySimpa false
theorem ba_eq (s t : Bytes) : ((⟨s.toArray⟩ : ByteArray).toList == (⟨t.toArray⟩ : ByteArray).toList) = (s == t) := by
  rw [ByteArray.toList_eq, ByteArray.toList_eq]
/-- The model's == at parameters. -/
theorem pm_equal (x y : Pm) (W : World) : (Op.equalIn 10000 58 (.agg #[.string ⟨x.name.toArray⟩, .int .i64 x.typ]) (.agg #[.string ⟨y.name.toArray⟩, .int .i64 y.typ])).run Tryz.prog W = .ok (decide (x = y)) W := by
  have hS : Tryz.prog.underlying 58 = some (.struct (Tryz.prog.fieldsOf 58)) := by kernel_rfl
  have hp : Tryz.prog.stoodInHeld 58 = false := by kernel_rfl
  have u1 := Tryz.underlying9
  have u2 := Tryz.underlying3
  have a1 := Tryz.isAgg9
  have a2 := Tryz.isAgg3
  have z1 := Tryz.sizeOf9
  have z2 := Tryz.sizeOf3
  have hd : decide (x = y) = ((x.name == y.name) && (x.typ == y.typ)) := by
    cases x
    cases y
    rw [Bool.eq_iff_iff]
    simp
  rw [show (10000 : Nat) = 9999 + 1 from rfl, run_equalIn_agg W 9999 58 _ _ hS hp, hd]
  simp only [Program.fieldsOf, Tryz.underlying58]
  go_simp
  by_cases h1 : x.name = y.name <;> by_cases h2 : x.typ = y.typ <;> simp [h1, h2]
theorem pm_neq (x y : Pm) (b : Bool) (h : (!decide (x = y)) = b) (W : World) : (binOp .neq 58 (.agg #[.string ⟨x.name.toArray⟩, .int .i64 x.typ]) (.agg #[.string ⟨y.name.toArray⟩, .int .i64 y.typ])).run Tryz.prog W = .ok (.bool b) W := by
  subst h
  rw [run_neq_struct, pm_equal]
  rfl
def pmsEq (l m : List Pm) (k : Nat) : Prop := ∀ (i : Nat) (h : i < l.length) (h' : i < m.length), i < k → l[i] = m[i]
set_option maxHeartbeats 4000000 in
theorem equalPms_any (l m : List Pm) (a a' : Option Addr) (cap cap' : Nat) (w : World) (hl : Pms w l a cap) (hm : Pms w m a' cap') :
    Calls Tryz.prog 53 #[.slice a l.length cap, .slice a' m.length cap'] w fun e w' => e = .returned (.bool (decide (l = m))) ∧ Below w.heap.size w w' := by
  have hll : l.length ≤ 9223372036854775807 := Nat.le_trans hl.len hl.cap
  have hml : m.length ≤ 9223372036854775807 := Nat.le_trans hm.len hm.cap
  have hgt : Tryz.prog.eqGuardType Tryz.prog.depth 58 = false := by kernel_rfl
  have HL := hide hl
  have HM := hide hm
  clear hl hm
  by_cases hlen : ¬ (l.length : Int) = (m.length : Int)
  · have hlen2 : ((l.length : Int) != (m.length : Int)) = true := by simpa using hlen
    have HE : Hid (decide (l = m) = false) := hide (decide_eq_false fun e => hlen (by rw [e]))
    clear hlen
    go_enter Tryz.func53, Tryz.ntmps53
    go_wp2_with fail
    go_ret
    exact ⟨ret_bool HE.out.symm, bl _⟩
  have hlen2 : ((l.length : Int) != (m.length : Int)) = false := by simpa using hlen
  have hlm : Hid (l.length = m.length) := hide (by omega)
  clear hlen
  go_enter Tryz.func53, Tryz.ntmps53
  go_wp2_with fail
  go_loopw [5, 13] (fun _ i wr => ∃ k : Nat, k ≤ l.length ∧ i = .int .i64 k ∧ Hid (pmsEq l m k) ∧ Below w.heap.size w wr) (fun _ i _ => l.length - (intOf i).toNat)
  case atStart => exact ⟨0, Nat.zero_le _, rfl, fun i _ _ h => absurd h (Nat.not_lt_zero _), bl _⟩
  case round =>
    obtain ⟨k, hk, rfl, hall, hb⟩ := hrel
    by_cases hlt : k < l.length
    · have hlt' : k < m.length := by have := hlm.out; omega
      obtain ⟨b, o, rfl⟩ := HL.out.addr (by omega)
      obtain ⟨b', o', rfl⟩ := HM.out.addr (by omega)
      obtain ⟨c0, c1⟩ := HL.out.at_ b o rfl k hlt
      obtain ⟨d0, d1⟩ := HM.out.at_ b' o' rfl k hlt'
      replace c0 := cell_keep c0 hb (Nat.le_refl _)
      replace c1 := cell_keep c1 hb (Nat.le_refl _)
      replace d0 := cell_keep d0 hb (Nat.le_refl _)
      replace d1 := cell_keep d1 hb (Nat.le_refl _)
      have hk0 : (0 : Int) ≤ (k : Int) := by omega
      have hk1 : (k : Int) < (l.length : Int) := by omega
      have hk2 : (k : Int) < (m.length : Int) := by omega
      cases hq : decide (l[k] = m[k])
      · have hn := fun W => pm_neq l[k] m[k] true (by rw [hq]; rfl) W
        have HQ := hide hq
        have HE : Hid (decide (l = m) = false) := hide (decide_eq_false fun e => by
          have h1 := HQ.out
          simp only [decide_eq_false_iff_not] at h1
          apply h1
          subst e
          rfl)
        clear hq
        go_wp2_with fail
        go_quiet (fail)
        go_wp2_with fail
        go_ret
        exact ⟨ret_bool HE.out.symm, below_dq hb _⟩
      · have hn := fun W => pm_neq l[k] m[k] false (by rw [hq]; rfl) W
        have HQ := hide hq
        clear hq
        go_wp2_with fail
        go_quiet (fail)
        go_wp2_with fail
        go_roundw
        case rel =>
          refine ⟨k + 1, by omega, by go_num, ?_, below_dq hb _⟩
          intro i hi hi' hik
          by_cases e : i = k
          · subst e; exact of_decide_eq_true HQ.out
          · exact hall.out i hi hi' (by omega)
        case measure => simp [intOf]; omega
    · obtain rfl : k = l.length := by omega
      have HE : Hid (decide (l = m) = true) := hide (decide_eq_true (List.ext_getElem hlm.out fun i h h' => hall.out i h h' h))
      go_wp2_with fail
      go_ret
      exact ⟨ret_bool HE.out.symm, hb⟩
end Go.Proofs.YthpmecbekpmijaaGreatDoor
/- shape.SameFunc answers eqF; shape.Same answers sameM. -/
namespace Go.Proofs.YthpmecbekpmijaaGreatDoor
open Go Go.RowKit
set_option linter.unusedSimpArgs false
set_option linter.unusedVariables false
set_option linter.unnecessarySimpa false
set_option maxRecDepth 20000 in
set_option maxHeartbeats 8000000 in
theorem sameFunc_any (f g : Fn) (v u : Value) (w : World) (hf : Fn.Val w f v) (hg : Fn.Val w g u) (hT : Tab w) : Calls Tryz.prog 23 #[v, u] w fun r w' => r = .returned (.bool (eqF f g)) ∧ Below w.heap.size w w' := by
  have HF := hide fun (W : World) (hW : Below w.heap.size w W) => function_any f v W (hf.keep hW (Nat.le_refl _)) (hT.below hW)
  have HG := hide fun (W : World) (hW : Below w.heap.size w W) => function_any g u W (hg.keep hW (Nat.le_refl _)) (hT.below hW)
  obtain ⟨pp, pb, cp, cb, rfl, hw, hps, hr⟩ := hf
  obtain ⟨pp', pb', cp', cb', rfl, hw', hps', hr'⟩ := hg
  have HP := hide fun (W : World) (hW : Below w.heap.size w W) => equalPms_any f.params g.params pp pp' cp cp' W (hps.keep hW (Nat.le_refl _)) (hps'.keep hW (Nat.le_refl _))
  have hB := fun (W : World) (hW : Below w.heap.size w W) => equalFunc_sts f.body g.body eqS pb pb' cb cb' 33 #[] (fun _ _ => by kernel_rfl) W (Nat.le_trans hw.lb hw.cb) (Nat.le_trans hw'.lb hw'.cb) (hr.keep hW (Nat.le_refl _)) (hr'.keep hW (Nat.le_refl _))
    (fun i h h' v u W' hW' hv hu => by
      have := stmts_any f.body[i] g.body[i] v u W' hv hu
      exact this)
  simp only [← eqL_ss] at hB
  have HB := hide hB
  obtain ⟨R, hR⟩ : ∃ R, eqF f g = R := ⟨_, rfl⟩
  rw [hR]
  unfold eqF at hR
  obtain ⟨q1, hq1⟩ : ∃ q, fnOk f = q := ⟨_, rfl⟩
  obtain ⟨q2, hq2⟩ : ∃ q, fnOk g = q := ⟨_, rfl⟩
  obtain ⟨q5, hq5⟩ : ∃ q, decide (f.params = g.params) = q := ⟨_, rfl⟩
  obtain ⟨q6, hq6⟩ : ∃ q, eqSs f.body g.body = q := ⟨_, rfl⟩
  rw [hq1, hq2, hq5, hq6] at hR
  rw [hq1] at HF
  rw [hq2] at HG
  rw [hq5] at HP
  rw [hq6] at HB
  have HY : Hid (((w.alloc (.cells #[.string ⟨f.name.toArray⟩, .slice pp f.params.length cp, .int .i64 f.result, .slice pb f.body.length cb, .int .i64 f.count] 42)).alloc (.cells #[.string ⟨g.name.toArray⟩, .slice pp' g.params.length cp', .int .i64 g.result, .slice pb' g.body.length cb', .int .i64 g.count] 42)).heap[w.heap.size + 1]? = some (.cells #[.string ⟨g.name.toArray⟩, .slice pp' g.params.length cp', .int .i64 g.result, .slice pb' g.body.length cb', .int .i64 g.count] 42 (0, 0))) := hide (by
    rw [show w.heap.size + 1 = (w.alloc (.cells #[.string ⟨f.name.toArray⟩, .slice pp f.params.length cp, .int .i64 f.result, .slice pb f.body.length cb, .int .i64 f.count] 42)).heap.size by simp]
    exact heap_alloc_new _ _)
  have HX : Hid (((w.alloc (.cells #[.string ⟨f.name.toArray⟩, .slice pp f.params.length cp, .int .i64 f.result, .slice pb f.body.length cb, .int .i64 f.count] 42)).alloc (.cells #[.string ⟨g.name.toArray⟩, .slice pp' g.params.length cp', .int .i64 g.result, .slice pb' g.body.length cb', .int .i64 g.count] 42)).heap[w.heap.size]? = some (.cells #[.string ⟨f.name.toArray⟩, .slice pp f.params.length cp, .int .i64 f.result, .slice pb f.body.length cb, .int .i64 f.count] 42 (0, 0))) := hide (by
    rw [Below.heap_alloc _ _ _ (by simp)]
    exact heap_alloc_new _ _)
  have HW : Hid (Below w.heap.size w ((w.alloc (.cells #[.string ⟨f.name.toArray⟩, .slice pp f.params.length cp, .int .i64 f.result, .slice pb f.body.length cb, .int .i64 f.count] 42)).alloc (.cells #[.string ⟨g.name.toArray⟩, .slice pp' g.params.length cp', .int .i64 g.result, .slice pb' g.body.length cb', .int .i64 g.count] 42))) := hide (((bl w).al _).al _)
  clear hB hq1 hq2 hq5 hq6 hw hps hr hw' hps' hr' hT
  cases q1
  · have HR := hide hR
    clear hR
    go_enter Tryz.func23, Tryz.ntmps23
    go_wp2_with fail
    (with_reducible refine (HF.out _ HW.out).mono ?_)
    rintro r w1 ⟨rfl, hb1⟩
    have HX := hide ((hb1.block _ (Array.getElem?_eq_some_iff.1 HX.out).1).trans HX.out)
    have HY := hide ((hb1.block _ (Array.getElem?_eq_some_iff.1 HY.out).1).trans HY.out)
    have HW := hide (HW.out.tr hb1)
    clear hb1
    go_wp2_with fail
    go_ret
    exact ⟨ret_bool (by have := HR.out; simpa using this), HW.out⟩
  cases q2
  · have HR := hide hR
    clear hR
    go_enter Tryz.func23, Tryz.ntmps23
    go_wp2_with fail
    (with_reducible refine (HF.out _ HW.out).mono ?_)
    rintro r w1 ⟨rfl, hb1⟩
    have HX := hide ((hb1.block _ (Array.getElem?_eq_some_iff.1 HX.out).1).trans HX.out)
    have HY := hide ((hb1.block _ (Array.getElem?_eq_some_iff.1 HY.out).1).trans HY.out)
    have HW := hide (HW.out.tr hb1)
    clear hb1
    have x0 := cell_at (j := 0) HX.out rfl
    have x1 := cell_at (j := 1) HX.out rfl
    have x2 := cell_at (j := 2) HX.out rfl
    have x3 := cell_at (j := 3) HX.out rfl
    have x4 := cell_at (j := 4) HX.out rfl
    have y0 := cell_at (j := 0) HY.out rfl
    have y1 := cell_at (j := 1) HY.out rfl
    have y2 := cell_at (j := 2) HY.out rfl
    have y3 := cell_at (j := 3) HY.out rfl
    have y4 := cell_at (j := 4) HY.out rfl
    have lx := (Array.getElem?_eq_some_iff.1 HX.out).1
    have ly := (Array.getElem?_eq_some_iff.1 HY.out).1
    go_wp2_with fail
    (with_reducible refine (HG.out _ HW.out).mono ?_)
    rintro r w2 ⟨rfl, hb1⟩
    clear x0 x1 x2 x3 x4 y0 y1 y2 y3 y4 lx ly
    have HX := hide ((hb1.block _ (Array.getElem?_eq_some_iff.1 HX.out).1).trans HX.out)
    have HY := hide ((hb1.block _ (Array.getElem?_eq_some_iff.1 HY.out).1).trans HY.out)
    have HW := hide (HW.out.tr hb1)
    clear hb1
    have x0 := cell_at (j := 0) HX.out rfl
    have x1 := cell_at (j := 1) HX.out rfl
    have x2 := cell_at (j := 2) HX.out rfl
    have x3 := cell_at (j := 3) HX.out rfl
    have x4 := cell_at (j := 4) HX.out rfl
    have y0 := cell_at (j := 0) HY.out rfl
    have y1 := cell_at (j := 1) HY.out rfl
    have y2 := cell_at (j := 2) HY.out rfl
    have y3 := cell_at (j := 3) HY.out rfl
    have y4 := cell_at (j := 4) HY.out rfl
    have lx := (Array.getElem?_eq_some_iff.1 HX.out).1
    have ly := (Array.getElem?_eq_some_iff.1 HY.out).1
    go_wp2_with fail
    go_ret
    exact ⟨ret_bool (by have := HR.out; simpa using this), HW.out⟩
  cases h3 : f.name == g.name
  · rw [h3] at hR
    have HR := hide hR
    clear hR
    go_enter Tryz.func23, Tryz.ntmps23
    go_wp2_with fail
    (with_reducible refine (HF.out _ HW.out).mono ?_)
    rintro r w1 ⟨rfl, hb1⟩
    have HX := hide ((hb1.block _ (Array.getElem?_eq_some_iff.1 HX.out).1).trans HX.out)
    have HY := hide ((hb1.block _ (Array.getElem?_eq_some_iff.1 HY.out).1).trans HY.out)
    have HW := hide (HW.out.tr hb1)
    clear hb1
    have x0 := cell_at (j := 0) HX.out rfl
    have x1 := cell_at (j := 1) HX.out rfl
    have x2 := cell_at (j := 2) HX.out rfl
    have x3 := cell_at (j := 3) HX.out rfl
    have x4 := cell_at (j := 4) HX.out rfl
    have y0 := cell_at (j := 0) HY.out rfl
    have y1 := cell_at (j := 1) HY.out rfl
    have y2 := cell_at (j := 2) HY.out rfl
    have y3 := cell_at (j := 3) HY.out rfl
    have y4 := cell_at (j := 4) HY.out rfl
    have lx := (Array.getElem?_eq_some_iff.1 HX.out).1
    have ly := (Array.getElem?_eq_some_iff.1 HY.out).1
    go_wp2_with fail
    (with_reducible refine (HG.out _ HW.out).mono ?_)
    rintro r w2 ⟨rfl, hb1⟩
    clear x0 x1 x2 x3 x4 y0 y1 y2 y3 y4 lx ly
    have HX := hide ((hb1.block _ (Array.getElem?_eq_some_iff.1 HX.out).1).trans HX.out)
    have HY := hide ((hb1.block _ (Array.getElem?_eq_some_iff.1 HY.out).1).trans HY.out)
    have HW := hide (HW.out.tr hb1)
    clear hb1
    have x0 := cell_at (j := 0) HX.out rfl
    have x1 := cell_at (j := 1) HX.out rfl
    have x2 := cell_at (j := 2) HX.out rfl
    have x3 := cell_at (j := 3) HX.out rfl
    have x4 := cell_at (j := 4) HX.out rfl
    have y0 := cell_at (j := 0) HY.out rfl
    have y1 := cell_at (j := 1) HY.out rfl
    have y2 := cell_at (j := 2) HY.out rfl
    have y3 := cell_at (j := 3) HY.out rfl
    have y4 := cell_at (j := 4) HY.out rfl
    have lx := (Array.getElem?_eq_some_iff.1 HX.out).1
    have ly := (Array.getElem?_eq_some_iff.1 HY.out).1
    go_wp2_with fail
    go_ret
    exact ⟨ret_bool (by have := HR.out; simpa using this), HW.out⟩
  cases h4 : f.result == g.result
  · rw [h3, h4] at hR
    have HR := hide hR
    clear hR
    go_enter Tryz.func23, Tryz.ntmps23
    go_wp2_with fail
    (with_reducible refine (HF.out _ HW.out).mono ?_)
    rintro r w1 ⟨rfl, hb1⟩
    have HX := hide ((hb1.block _ (Array.getElem?_eq_some_iff.1 HX.out).1).trans HX.out)
    have HY := hide ((hb1.block _ (Array.getElem?_eq_some_iff.1 HY.out).1).trans HY.out)
    have HW := hide (HW.out.tr hb1)
    clear hb1
    have x0 := cell_at (j := 0) HX.out rfl
    have x1 := cell_at (j := 1) HX.out rfl
    have x2 := cell_at (j := 2) HX.out rfl
    have x3 := cell_at (j := 3) HX.out rfl
    have x4 := cell_at (j := 4) HX.out rfl
    have y0 := cell_at (j := 0) HY.out rfl
    have y1 := cell_at (j := 1) HY.out rfl
    have y2 := cell_at (j := 2) HY.out rfl
    have y3 := cell_at (j := 3) HY.out rfl
    have y4 := cell_at (j := 4) HY.out rfl
    have lx := (Array.getElem?_eq_some_iff.1 HX.out).1
    have ly := (Array.getElem?_eq_some_iff.1 HY.out).1
    go_wp2_with fail
    (with_reducible refine (HG.out _ HW.out).mono ?_)
    rintro r w2 ⟨rfl, hb1⟩
    clear x0 x1 x2 x3 x4 y0 y1 y2 y3 y4 lx ly
    have HX := hide ((hb1.block _ (Array.getElem?_eq_some_iff.1 HX.out).1).trans HX.out)
    have HY := hide ((hb1.block _ (Array.getElem?_eq_some_iff.1 HY.out).1).trans HY.out)
    have HW := hide (HW.out.tr hb1)
    clear hb1
    have x0 := cell_at (j := 0) HX.out rfl
    have x1 := cell_at (j := 1) HX.out rfl
    have x2 := cell_at (j := 2) HX.out rfl
    have x3 := cell_at (j := 3) HX.out rfl
    have x4 := cell_at (j := 4) HX.out rfl
    have y0 := cell_at (j := 0) HY.out rfl
    have y1 := cell_at (j := 1) HY.out rfl
    have y2 := cell_at (j := 2) HY.out rfl
    have y3 := cell_at (j := 3) HY.out rfl
    have y4 := cell_at (j := 4) HY.out rfl
    have lx := (Array.getElem?_eq_some_iff.1 HX.out).1
    have ly := (Array.getElem?_eq_some_iff.1 HY.out).1
    go_wp2_with fail
    go_ret
    exact ⟨ret_bool (by have := HR.out; simpa using this), HW.out⟩
  rw [h3, h4] at hR
  have HR := hide hR
  clear hR
  cases q5
  · go_enter Tryz.func23, Tryz.ntmps23
    go_wp2_with fail
    (with_reducible refine (HF.out _ HW.out).mono ?_)
    rintro r w1 ⟨rfl, hb1⟩
    have HX := hide ((hb1.block _ (Array.getElem?_eq_some_iff.1 HX.out).1).trans HX.out)
    have HY := hide ((hb1.block _ (Array.getElem?_eq_some_iff.1 HY.out).1).trans HY.out)
    have HW := hide (HW.out.tr hb1)
    clear hb1
    have x0 := cell_at (j := 0) HX.out rfl
    have x1 := cell_at (j := 1) HX.out rfl
    have x2 := cell_at (j := 2) HX.out rfl
    have x3 := cell_at (j := 3) HX.out rfl
    have x4 := cell_at (j := 4) HX.out rfl
    have y0 := cell_at (j := 0) HY.out rfl
    have y1 := cell_at (j := 1) HY.out rfl
    have y2 := cell_at (j := 2) HY.out rfl
    have y3 := cell_at (j := 3) HY.out rfl
    have y4 := cell_at (j := 4) HY.out rfl
    have lx := (Array.getElem?_eq_some_iff.1 HX.out).1
    have ly := (Array.getElem?_eq_some_iff.1 HY.out).1
    go_wp2_with fail
    (with_reducible refine (HG.out _ HW.out).mono ?_)
    rintro r w2 ⟨rfl, hb1⟩
    clear x0 x1 x2 x3 x4 y0 y1 y2 y3 y4 lx ly
    have HX := hide ((hb1.block _ (Array.getElem?_eq_some_iff.1 HX.out).1).trans HX.out)
    have HY := hide ((hb1.block _ (Array.getElem?_eq_some_iff.1 HY.out).1).trans HY.out)
    have HW := hide (HW.out.tr hb1)
    clear hb1
    have x0 := cell_at (j := 0) HX.out rfl
    have x1 := cell_at (j := 1) HX.out rfl
    have x2 := cell_at (j := 2) HX.out rfl
    have x3 := cell_at (j := 3) HX.out rfl
    have x4 := cell_at (j := 4) HX.out rfl
    have y0 := cell_at (j := 0) HY.out rfl
    have y1 := cell_at (j := 1) HY.out rfl
    have y2 := cell_at (j := 2) HY.out rfl
    have y3 := cell_at (j := 3) HY.out rfl
    have y4 := cell_at (j := 4) HY.out rfl
    have lx := (Array.getElem?_eq_some_iff.1 HX.out).1
    have ly := (Array.getElem?_eq_some_iff.1 HY.out).1
    go_wp2_with fail
    (with_reducible refine (HP.out _ HW.out).mono ?_)
    rintro r w3 ⟨rfl, hb1⟩
    clear x0 x1 x2 x3 x4 y0 y1 y2 y3 y4 lx ly
    have HX := hide ((hb1.block _ (Array.getElem?_eq_some_iff.1 HX.out).1).trans HX.out)
    have HY := hide ((hb1.block _ (Array.getElem?_eq_some_iff.1 HY.out).1).trans HY.out)
    have HW := hide (HW.out.tr hb1)
    clear hb1
    have x0 := cell_at (j := 0) HX.out rfl
    have x1 := cell_at (j := 1) HX.out rfl
    have x2 := cell_at (j := 2) HX.out rfl
    have x3 := cell_at (j := 3) HX.out rfl
    have x4 := cell_at (j := 4) HX.out rfl
    have y0 := cell_at (j := 0) HY.out rfl
    have y1 := cell_at (j := 1) HY.out rfl
    have y2 := cell_at (j := 2) HY.out rfl
    have y3 := cell_at (j := 3) HY.out rfl
    have y4 := cell_at (j := 4) HY.out rfl
    have lx := (Array.getElem?_eq_some_iff.1 HX.out).1
    have ly := (Array.getElem?_eq_some_iff.1 HY.out).1
    go_wp2_with fail
    go_ret
    exact ⟨ret_bool (by have := HR.out; simpa using this), HW.out⟩
  go_enter Tryz.func23, Tryz.ntmps23
  go_wp2_with fail
  (with_reducible refine (HF.out _ HW.out).mono ?_)
  rintro r w1 ⟨rfl, hb1⟩
  have HX := hide ((hb1.block _ (Array.getElem?_eq_some_iff.1 HX.out).1).trans HX.out)
  have HY := hide ((hb1.block _ (Array.getElem?_eq_some_iff.1 HY.out).1).trans HY.out)
  have HW := hide (HW.out.tr hb1)
  clear hb1
  have x0 := cell_at (j := 0) HX.out rfl
  have x1 := cell_at (j := 1) HX.out rfl
  have x2 := cell_at (j := 2) HX.out rfl
  have x3 := cell_at (j := 3) HX.out rfl
  have x4 := cell_at (j := 4) HX.out rfl
  have y0 := cell_at (j := 0) HY.out rfl
  have y1 := cell_at (j := 1) HY.out rfl
  have y2 := cell_at (j := 2) HY.out rfl
  have y3 := cell_at (j := 3) HY.out rfl
  have y4 := cell_at (j := 4) HY.out rfl
  have lx := (Array.getElem?_eq_some_iff.1 HX.out).1
  have ly := (Array.getElem?_eq_some_iff.1 HY.out).1
  go_wp2_with fail
  (with_reducible refine (HG.out _ HW.out).mono ?_)
  rintro r w2 ⟨rfl, hb1⟩
  clear x0 x1 x2 x3 x4 y0 y1 y2 y3 y4 lx ly
  have HX := hide ((hb1.block _ (Array.getElem?_eq_some_iff.1 HX.out).1).trans HX.out)
  have HY := hide ((hb1.block _ (Array.getElem?_eq_some_iff.1 HY.out).1).trans HY.out)
  have HW := hide (HW.out.tr hb1)
  clear hb1
  have x0 := cell_at (j := 0) HX.out rfl
  have x1 := cell_at (j := 1) HX.out rfl
  have x2 := cell_at (j := 2) HX.out rfl
  have x3 := cell_at (j := 3) HX.out rfl
  have x4 := cell_at (j := 4) HX.out rfl
  have y0 := cell_at (j := 0) HY.out rfl
  have y1 := cell_at (j := 1) HY.out rfl
  have y2 := cell_at (j := 2) HY.out rfl
  have y3 := cell_at (j := 3) HY.out rfl
  have y4 := cell_at (j := 4) HY.out rfl
  have lx := (Array.getElem?_eq_some_iff.1 HX.out).1
  have ly := (Array.getElem?_eq_some_iff.1 HY.out).1
  go_wp2_with fail
  (with_reducible refine (HP.out _ HW.out).mono ?_)
  rintro r w3 ⟨rfl, hb1⟩
  clear x0 x1 x2 x3 x4 y0 y1 y2 y3 y4 lx ly
  have HX := hide ((hb1.block _ (Array.getElem?_eq_some_iff.1 HX.out).1).trans HX.out)
  have HY := hide ((hb1.block _ (Array.getElem?_eq_some_iff.1 HY.out).1).trans HY.out)
  have HW := hide (HW.out.tr hb1)
  clear hb1
  have x0 := cell_at (j := 0) HX.out rfl
  have x1 := cell_at (j := 1) HX.out rfl
  have x2 := cell_at (j := 2) HX.out rfl
  have x3 := cell_at (j := 3) HX.out rfl
  have x4 := cell_at (j := 4) HX.out rfl
  have y0 := cell_at (j := 0) HY.out rfl
  have y1 := cell_at (j := 1) HY.out rfl
  have y2 := cell_at (j := 2) HY.out rfl
  have y3 := cell_at (j := 3) HY.out rfl
  have y4 := cell_at (j := 4) HY.out rfl
  have lx := (Array.getElem?_eq_some_iff.1 HX.out).1
  have ly := (Array.getElem?_eq_some_iff.1 HY.out).1
  go_wp2_with fail
  refine (same_sts_any _ _ _ (HB.out _ HW.out) _ _ _ rfl).mono ?_
  rintro r w4 ⟨rfl, hb1⟩
  clear x0 x1 x2 x3 x4 y0 y1 y2 y3 y4 lx ly
  have HX := hide ((hb1.block _ (Array.getElem?_eq_some_iff.1 HX.out).1).trans HX.out)
  have HY := hide ((hb1.block _ (Array.getElem?_eq_some_iff.1 HY.out).1).trans HY.out)
  have HW := hide (HW.out.tr hb1)
  clear hb1
  go_wp2_with fail
  go_ret
  exact ⟨ret_bool (by have := HR.out; simpa using this), HW.out⟩
set_option maxHeartbeats 4000000 in
theorem equalFunc_fns (l m : List Fn) (p : Fn → Fn → Bool) (a a' : Option Addr) (cap cap' g : Nat) (caps : Array Value) (eg : ∀ args w, (callFunc g args).run Tryz.prog w = .ok (.enter g args) w) (w : World) (hl : Fns w l a cap) (hm : Fns w m a' cap')
    (hp : ∀ (i : Nat) (h : i < l.length) (h' : i < m.length) (v u : Value) (W : World), Below w.heap.size w W → Fn.Val W l[i] v → Fn.Val W m[i] u → Calls Tryz.prog g (#[v, u] ++ caps) W fun e w' => e = .returned (.bool (p l[i] m[i])) ∧ Below W.heap.size W w') :
    Calls Tryz.prog 82 #[.slice a l.length cap, .slice a' m.length cap', .func (.func g) #[] caps] w fun e w' => e = .returned (.bool (eqL p l m)) ∧ Below w.heap.size w w' := by
  have hll : l.length ≤ 9223372036854775807 := Nat.le_trans hl.len hl.cap
  have hml : m.length ≤ 9223372036854775807 := Nat.le_trans hm.len hm.cap
  have HL := hide hl
  have HM := hide hm
  have HP := hide hp
  clear hl hm hp
  by_cases hlen : ¬ (l.length : Int) = (m.length : Int)
  · have hlen2 : ((l.length : Int) != (m.length : Int)) = true := by simpa using hlen
    have HE := hide (eqL_len (p := p) (l := l) (m := m) (by omega))
    clear hlen
    go_enter Tryz.func82, Tryz.ntmps82
    go_wp2_with fail
    go_ret
    exact ⟨ret_bool HE.out.symm, bl _⟩
  have hlen2 : ((l.length : Int) != (m.length : Int)) = false := by simpa using hlen
  have hlm : Hid (l.length = m.length) := hide (by omega)
  clear hlen
  go_enter Tryz.func82, Tryz.ntmps82
  go_wp2_with fail
  go_loopw [7, 17] (fun _ i wr => ∃ k : Nat, k ≤ l.length ∧ i = .int .i64 k ∧ Hid (∀ (i : Nat) (h : i < l.length) (h' : i < m.length), i < k → p l[i] m[i] = true) ∧ Below w.heap.size w wr) (fun _ i _ => l.length - (intOf i).toNat)
  case atStart => exact ⟨0, Nat.zero_le _, rfl, fun i _ _ h => absurd h (Nat.not_lt_zero _), bl _⟩
  case round =>
    obtain ⟨k, hk, rfl, hall, hb⟩ := hrel
    by_cases hlt : k < l.length
    · have hlt' : k < m.length := by have := hlm.out; omega
      obtain ⟨b, o, rfl⟩ := HL.out.addr (by omega)
      obtain ⟨b', o', rfl⟩ := HM.out.addr (by omega)
      obtain ⟨pp, pb, cp, cb, c0, c1, c2, c3, c4, hfw, hps, hrow⟩ := (HL.out.at_ b o rfl k hlt).has (has_below hb)
      obtain ⟨pp', pb', cp', cb', d0, d1, d2, d3, d4, hfw', hps', hrow'⟩ := (HM.out.at_ b' o' rfl k hlt').has (has_below hb)
      have h1 := hide fun (W : World) (hW : Below wr.heap.size wr W) => HP.out k hlt hlt' _ _ W (hb.tr hW) (⟨pp, pb, cp, cb, rfl, hfw, hps.has (has_below hW), hrow.has (has_below hW)⟩ : Fn.Val W l[k] _) (⟨pp', pb', cp', cb', rfl, hfw', hps'.has (has_below hW), hrow'.has (has_below hW)⟩ : Fn.Val W m[k] _)
      clear hfw hps hrow hfw' hps' hrow'
      have hl1 := cell_lt c0
      have hl2 := cell_lt d0
      simp only at hl1 hl2
      cases hq : p l[k] m[k]
      all_goals
        rw [hq] at h1
        have HQ := hide hq
        clear hq
      · have HE := hide (eqL_no (p := p) k hlt hlt' HQ.out)
        go_wp2_with (go_at_fn g; refine (h1.out _ (((bl wr).al _).al _)).mono ?_; rintro e w1 ⟨rfl, hb1⟩)
        go_ret
        exact ⟨ret_bool HE.out.symm, ((hb.al _).al _).tr hb1⟩
      · go_wp2_with (go_at_fn g; refine (h1.out _ (((bl wr).al _).al _)).mono ?_; rintro e w1 ⟨rfl, hb1⟩)
        go_roundw
        case rel =>
          refine ⟨k + 1, by omega, by go_num, ?_, ((hb.al _).al _).tr hb1⟩
          intro i hi hi' hik
          by_cases e : i = k
          · subst e; exact HQ.out
          · exact hall i hi hi' (by omega)
        case measure => simp [intOf]; omega
    · obtain rfl : k = l.length := by omega
      have HE := hide (eqL_yes (p := p) hlm.out (fun i h h' => hall i h h' h))
      go_wp2_with fail
      go_ret
      exact ⟨ret_bool HE.out.symm, hb⟩
theorem same_fns_any (args : Array Value) (q : Bool) (w : World) (h : Calls Tryz.prog 82 args w fun e w' => e = .returned (.bool q) ∧ Below w.heap.size w w') :
    ∀ (a b c : Value), args = #[a, b, c] → Calls Tryz.prog 52 #[a, b, c] w fun e w' => e = .returned (.bool q) ∧ Below w.heap.size w w' := by
  rintro a b c rfl
  have H := hide h
  clear h
  go_enter Tryz.func52, Tryz.ntmps52
  go_wp2_with fail
  refine H.out.mono ?_
  rintro r w1 ⟨rfl, hb⟩
  go_wp2_with fail
  go_ret
  exact ⟨rfl, hb⟩
set_option maxRecDepth 20000 in
set_option maxHeartbeats 8000000 in
theorem same_any (l m : List Fn) (a a' : Option Addr) (cap cap' : Nat) (w : World) (hl : Fns w l a cap) (hm : Fns w m a' cap') (hT : Tab w) :
    Calls Tryz.prog 21 #[.agg #[.slice a l.length cap], .agg #[.slice a' m.length cap']] w fun r w' => r = .returned (.bool (sameM l m)) ∧ Below w.heap.size w w' := by
  have hll : l.length ≤ 9223372036854775807 := Nat.le_trans hl.len hl.cap
  have hml : m.length ≤ 9223372036854775807 := Nat.le_trans hm.len hm.cap
  have HF := hide fun (W : World) (hW : Below w.heap.size w W) => check_any l a cap W (hl.keep hW (Nat.le_refl _)) (hT.below hW)
  have HG := hide fun (W : World) (hW : Below w.heap.size w W) => check_any m a' cap' W (hm.keep hW (Nat.le_refl _)) (hT.below hW)
  have hB := fun (W : World) (hW : Below w.heap.size w W) => equalFunc_fns l m eqF a a' cap cap' 23 #[] (fun _ _ => by kernel_rfl) W (hl.keep hW (Nat.le_refl _)) (hm.keep hW (Nat.le_refl _))
    (fun i h h' v u W' hW' hv hu => by
      have := sameFunc_any l[i] m[i] v u W' hv hu (hT.below (hW.tr hW'))
      exact this)
  simp only [← eqL_fs] at hB
  have HB := hide hB
  obtain ⟨R, hR⟩ : ∃ R, sameM l m = R := ⟨_, rfl⟩
  rw [hR]
  unfold sameM at hR
  obtain ⟨c1, hc1⟩ : ∃ c, checkM l = c := ⟨_, rfl⟩
  obtain ⟨c2, hc2⟩ : ∃ c, checkM m = c := ⟨_, rfl⟩
  obtain ⟨q6, hq6⟩ : ∃ q, eqFs l m = q := ⟨_, rfl⟩
  rw [hc1, hc2, hq6] at hR
  rw [hc1] at HF
  rw [hc2] at HG
  rw [hq6] at HB
  have HY : Hid (((w.alloc (.cells #[.slice a l.length cap] 38)).alloc (.cells #[.slice a' m.length cap'] 38)).heap[w.heap.size + 1]? = some (.cells #[.slice a' m.length cap'] 38 (0, 0))) := hide (by
    rw [show w.heap.size + 1 = (w.alloc (.cells #[.slice a l.length cap] 38)).heap.size by simp]
    exact heap_alloc_new _ _)
  have HX : Hid (((w.alloc (.cells #[.slice a l.length cap] 38)).alloc (.cells #[.slice a' m.length cap'] 38)).heap[w.heap.size]? = some (.cells #[.slice a l.length cap] 38 (0, 0))) := hide (by
    rw [Below.heap_alloc _ _ _ (by simp)]
    exact heap_alloc_new _ _)
  have HW : Hid (Below w.heap.size w ((w.alloc (.cells #[.slice a l.length cap] 38)).alloc (.cells #[.slice a' m.length cap'] 38))) := hide (((bl w).al _).al _)
  clear hB hc1 hc2 hq6 hl hm hT
  cases h1 : c1 == 0
  · rw [h1] at hR
    have HR := hide hR
    clear hR
    go_enter Tryz.func21, Tryz.ntmps21
    go_wp2_with fail
    (with_reducible refine (HF.out _ HW.out).mono ?_)
    rintro r w1 ⟨rfl, hb1⟩
    have HX := hide ((hb1.block _ (Array.getElem?_eq_some_iff.1 HX.out).1).trans HX.out)
    have HY := hide ((hb1.block _ (Array.getElem?_eq_some_iff.1 HY.out).1).trans HY.out)
    have HW := hide (HW.out.tr hb1)
    clear hb1
    go_wp2_with fail
    go_ret
    exact ⟨ret_bool (by have := HR.out; simpa using this), HW.out⟩
  cases h2 : c2 == 0
  · rw [h1, h2] at hR
    have HR := hide hR
    clear hR
    go_enter Tryz.func21, Tryz.ntmps21
    go_wp2_with fail
    (with_reducible refine (HF.out _ HW.out).mono ?_)
    rintro r w1 ⟨rfl, hb1⟩
    have HX := hide ((hb1.block _ (Array.getElem?_eq_some_iff.1 HX.out).1).trans HX.out)
    have HY := hide ((hb1.block _ (Array.getElem?_eq_some_iff.1 HY.out).1).trans HY.out)
    have HW := hide (HW.out.tr hb1)
    clear hb1
    have x0 := cell_at (j := 0) HX.out rfl
    have y0 := cell_at (j := 0) HY.out rfl
    have lx := (Array.getElem?_eq_some_iff.1 HX.out).1
    have ly := (Array.getElem?_eq_some_iff.1 HY.out).1
    go_wp2_with fail
    (with_reducible refine (HG.out _ HW.out).mono ?_)
    rintro r w2 ⟨rfl, hb1⟩
    clear x0 y0 lx ly
    have HX := hide ((hb1.block _ (Array.getElem?_eq_some_iff.1 HX.out).1).trans HX.out)
    have HY := hide ((hb1.block _ (Array.getElem?_eq_some_iff.1 HY.out).1).trans HY.out)
    have HW := hide (HW.out.tr hb1)
    clear hb1
    have x0 := cell_at (j := 0) HX.out rfl
    have y0 := cell_at (j := 0) HY.out rfl
    have lx := (Array.getElem?_eq_some_iff.1 HX.out).1
    have ly := (Array.getElem?_eq_some_iff.1 HY.out).1
    go_wp2_with fail
    go_ret
    exact ⟨ret_bool (by have := HR.out; simpa using this), HW.out⟩
  rw [h1, h2] at hR
  have HR := hide hR
  clear hR
  go_enter Tryz.func21, Tryz.ntmps21
  go_wp2_with fail
  (with_reducible refine (HF.out _ HW.out).mono ?_)
  rintro r w1 ⟨rfl, hb1⟩
  have HX := hide ((hb1.block _ (Array.getElem?_eq_some_iff.1 HX.out).1).trans HX.out)
  have HY := hide ((hb1.block _ (Array.getElem?_eq_some_iff.1 HY.out).1).trans HY.out)
  have HW := hide (HW.out.tr hb1)
  clear hb1
  have x0 := cell_at (j := 0) HX.out rfl
  have y0 := cell_at (j := 0) HY.out rfl
  have lx := (Array.getElem?_eq_some_iff.1 HX.out).1
  have ly := (Array.getElem?_eq_some_iff.1 HY.out).1
  go_wp2_with fail
  (with_reducible refine (HG.out _ HW.out).mono ?_)
  rintro r w2 ⟨rfl, hb1⟩
  clear x0 y0 lx ly
  have HX := hide ((hb1.block _ (Array.getElem?_eq_some_iff.1 HX.out).1).trans HX.out)
  have HY := hide ((hb1.block _ (Array.getElem?_eq_some_iff.1 HY.out).1).trans HY.out)
  have HW := hide (HW.out.tr hb1)
  clear hb1
  have x0 := cell_at (j := 0) HX.out rfl
  have y0 := cell_at (j := 0) HY.out rfl
  have lx := (Array.getElem?_eq_some_iff.1 HX.out).1
  have ly := (Array.getElem?_eq_some_iff.1 HY.out).1
  go_wp2_with fail
  refine (same_fns_any _ _ _ (HB.out _ HW.out) _ _ _ rfl).mono ?_
  rintro r w4 ⟨rfl, hb1⟩
  clear x0 y0 lx ly
  have HX := hide ((hb1.block _ (Array.getElem?_eq_some_iff.1 HX.out).1).trans HX.out)
  have HY := hide ((hb1.block _ (Array.getElem?_eq_some_iff.1 HY.out).1).trans HY.out)
  have HW := hide (HW.out.tr hb1)
  clear hb1
  go_wp2_with fail
  go_ret
  exact ⟨ret_bool (by have := HR.out; simpa using this), HW.out⟩
end Go.Proofs.YthpmecbekpmijaaGreatDoor
/- Being equal is an equivalence; programs that differ in one statement are different: the plain laws. -/
namespace Go.Proofs.YthpmecbekpmijaaGreatDoor
open Go Go.RowKit
set_option linter.unusedSimpArgs false
set_option linter.unusedVariables false
set_option linter.unnecessarySimpa false
theorem checkM_zero {l : List Fn} : checkM l = 0 ↔ l.length ≤ 20 ∧ ∀ f ∈ l, fnOk f = true ∧ fnNums f = true := by
  unfold checkM
  split
  · rename_i h
    exact ⟨fun _ => h, fun _ => rfl⟩
  · rename_i h
    exact ⟨fun h2 => absurd h2 (by decide), fun h2 => absurd h2 h⟩
theorem eqF_iff {f g : Fn} : eqF f g = true ↔ fnOk f = true ∧ fnOk g = true ∧ f.name = g.name ∧ f.result = g.result ∧ f.params = g.params ∧ eqSs f.body g.body = true := by
  simp only [eqF, Bool.and_eq_true, beq_iff_eq, decide_eq_true_eq, and_assoc]
theorem eqF_refl {f : Fn} (h : fnOk f = true) : eqF f f = true := eqF_iff.2 ⟨h, h, rfl, rfl, rfl, eqSs_refl _⟩
theorem eqF_symm (f g : Fn) : eqF f g = eqF g f := by
  rw [Bool.eq_iff_iff, eqF_iff, eqF_iff, eqSs_symm f.body g.body]
  exact ⟨fun ⟨a, b, c, d, e, h⟩ => ⟨b, a, c.symm, d.symm, e.symm, h⟩, fun ⟨a, b, c, d, e, h⟩ => ⟨b, a, c.symm, d.symm, e.symm, h⟩⟩
theorem eqF_trans {f g h : Fn} (a : eqF f g = true) (b : eqF g h = true) : eqF f h = true := by
  rw [eqF_iff] at *
  exact ⟨a.1, b.2.1, a.2.2.1.trans b.2.2.1, a.2.2.2.1.trans b.2.2.2.1, a.2.2.2.2.1.trans b.2.2.2.2.1, eqSs_trans a.2.2.2.2.2 b.2.2.2.2.2⟩
theorem eqFs_refl : ∀ {l : List Fn}, (∀ f ∈ l, fnOk f = true) → eqFs l l = true
  | [], _ => rfl
  | f :: l, h => by rw [eqFs, eqF_refl (h f (by simp)), eqFs_refl fun g hg => h g (by simp [hg])]; rfl
theorem eqFs_symm : ∀ (l m : List Fn), eqFs l m = eqFs m l
  | [], [] => rfl
  | a :: l, b :: m => by rw [eqFs, eqFs, eqF_symm a b, eqFs_symm l m]
  | [], _ :: _ => rfl
  | _ :: _, [] => rfl
theorem eqFs_trans : ∀ {l m n : List Fn}, eqFs l m = true → eqFs m n = true → eqFs l n = true
  | [], [], [], _, _ => rfl
  | a :: l, b :: m, c :: n, h, k => by
    simp only [eqFs, Bool.and_eq_true] at *
    exact ⟨eqF_trans h.1 k.1, eqFs_trans h.2 k.2⟩
  | [], _ :: _, _, h, _ => by cases h
  | _ :: _, [], _, h, _ => by cases h
  | [], [], _ :: _, _, k => by cases k
  | _ :: _, _ :: _, [], _, k => by cases k
theorem sameM_refl {l : List Fn} (h : checkM l = 0) : sameM l l = true := by
  have := eqFs_refl fun f hf => ((checkM_zero.1 h).2 f hf).1
  simp [sameM, h, this]
theorem sameM_symm (l m : List Fn) : sameM l m = sameM m l := by
  unfold sameM
  rw [eqFs_symm l m, Bool.and_comm (checkM l == 0)]
theorem sameM_trans {l m n : List Fn} (h : sameM l m = true) (k : sameM m n = true) : sameM l n = true := by
  simp only [sameM, Bool.and_eq_true] at *
  exact ⟨⟨h.1.1, k.1.2⟩, eqFs_trans h.2 k.2⟩
theorem made_check (D : List Nat) : checkM (madeD D) = 0 := by
  obtain ⟨_, h2, h3⟩ := madeD_ok D
  exact checkM_zero.2 ⟨by omega, fun f hf => ⟨(h3 f hf).1, (h3 f hf).2.1⟩⟩
/-- A program with right numbers is the one that Number returns. -/
theorem number_id {l : List Fn} (h : checkM l = 0) : numberM l = l := by
  obtain ⟨h1, h2⟩ := checkM_zero.1 h
  unfold numberM
  rw [if_pos ⟨h1, fun f hf => (h2 f hf).1⟩]
  conv => rhs; rw [← List.map_id l]
  exact List.map_congr_left fun f hf => numFn_nums (h2 f hf).2
theorem eqF_body {f g : Fn} (h : f.body.length ≠ g.body.length) : eqF f g = false := by
  rw [Bool.eq_false_iff]
  intro h2
  have := (eqF_iff.1 h2).2.2.2.2.2
  rw [eqSs_len h] at this
  cases this
/-- Without the first statement of one function it is another program. -/
theorem same_cut {l : List Fn} {j : Nat} (hj : j < l.length) {g : Fn} (hg : g.body.length ≠ l[j].body.length) : sameM l (numberM (l.set j g)) = false := by
  have key : eqFs l (numberM (l.set j g)) = false := by
    unfold numberM
    split
    · by_cases hl : l.length = ((l.set j g).map numFn).length
      · rw [Bool.eq_false_iff]
        intro h
        have := (eqFs_all l _ hl).1 h j hj (by simpa using hj)
        rw [eqF_body (by simp [numFn, renL_len]; exact fun e => hg e.symm)] at this
        cases this
      · exact eqFs_len hl
    · exact eqFs_len (by simp; intro e; rw [e] at hj; exact absurd hj (Nat.not_lt_zero _))
  simp [sameM, key]
end Go.Proofs.YthpmecbekpmijaaGreatDoor
/- A program of which one number, or one count, is wrong: the plain laws. -/
namespace Go.Proofs.YthpmecbekpmijaaGreatDoor
open Go Go.RowKit
set_option linter.unusedSimpArgs false
set_option linter.unusedVariables false
set_option linter.unnecessarySimpa false
/-- A statement with another number. -/
def St.setNo : St → Int → St | .mk k _ s t c xs bs es, n => .mk k n s t c xs bs es
theorem St.setNo_eq (s : St) (n : Int) : s.setNo n = .mk s.kind n s.name s.typ s.callee s.args s.body s.els := by cases s; rfl
theorem St.setNo_same (s : St) : s.setNo s.no = s := by cases s; rfl
theorem St.ren_setNo (s : St) (n : Int) (m : Nat) : (s.setNo n).ren m = s.ren m := by cases s; simp only [St.setNo, St.ren]
theorem St.cnt_setNo (s : St) (n : Int) : (s.setNo n).cnt = s.cnt := by cases s; simp only [St.setNo, St.cnt]
theorem St.bare_setNo (s : St) (n : Int) : (s.setNo n).bare = s.bare := by cases s; simp only [St.setNo, St.bare]
theorem headM_setNo (s : St) (n : Int) : headM (s.setNo n) = headM s := by cases s; rfl
section
variable (n : Int)
theorem renL_set : ∀ (l : List St) (k : Nat) (h : k < l.length) (m : Nat), renL (l.set k (l[k].setNo n)) m = renL l m
  | [], k, h, _ => absurd h (Nat.not_lt_zero _)
  | s :: l, 0, _, m => by simp only [List.set_cons_zero, List.getElem_cons_zero, renL, St.ren_setNo, St.cnt_setNo]
  | s :: l, k + 1, h, m => by simp only [List.set_cons_succ, List.getElem_cons_succ, renL, renL_set l k (by simpa using h)]
theorem cntL_set : ∀ (l : List St) (k : Nat) (h : k < l.length), cntL (l.set k (l[k].setNo n)) = cntL l
  | [], k, h => absurd h (Nat.not_lt_zero _)
  | s :: l, 0, _ => by simp only [List.set_cons_zero, List.getElem_cons_zero, cntL, St.cnt_setNo]
  | s :: l, k + 1, h => by simp only [List.set_cons_succ, List.getElem_cons_succ, cntL, cntL_set l k (by simpa using h)]
theorem bareL_set : ∀ (l : List St) (k : Nat) (h : k < l.length), bareL (l.set k (l[k].setNo n)) = bareL l
  | [], k, h => absurd h (Nat.not_lt_zero _)
  | s :: l, 0, _ => by simp only [List.set_cons_zero, List.getElem_cons_zero, bareL, St.bare_setNo]
  | s :: l, k + 1, h => by simp only [List.set_cons_succ, List.getElem_cons_succ, bareL, bareL_set l k (by simpa using h)]
theorem wellM_set (m : Nat) : ∀ (l : List St) (k : Nat) (h : k < l.length), wellM (m + 1) (l.set k (l[k].setNo n)) = wellM (m + 1) l
  | [], k, h => absurd h (Nat.not_lt_zero _)
  | s :: l, 0, _ => by
    simp only [List.set_cons_zero, List.getElem_cons_zero, wellM, List.all_cons, headM_setNo]
    cases s
    rfl
  | s :: l, k + 1, h => by
    have := wellM_set m l k (by simpa using h)
    rw [wellM, wellM] at this
    simp only [List.set_cons_succ, List.getElem_cons_succ, wellM, List.all_cons, this]
theorem nums_set : ∀ (l : List St) (k : Nat) (h : k < l.length) (m : Nat), numsL l m = true → n ≠ l[k].no → numsL (l.set k (l[k].setNo n)) m = false
  | [], k, h, _, _, _ => absurd h (Nat.not_lt_zero _)
  | s :: l, 0, _, m, h, hn => by
    simp only [numsL, Bool.and_eq_true] at h
    simp only [List.set_cons_zero, List.getElem_cons_zero, numsL] at hn ⊢
    rw [Bool.and_eq_false_iff]
    left
    rw [St.nums_eq] at h ⊢
    simp only [Bool.and_eq_true, decide_eq_true_eq] at h
    have : (s.setNo n).no = n := by cases s; rfl
    rw [this, Bool.and_eq_false_iff, Bool.and_eq_false_iff]
    left
    left
    rw [decide_eq_false_iff_not]
    rw [← h.1.1.1]
    exact hn
  | s :: l, k + 1, h0, m, h, hn => by
    simp only [numsL, Bool.and_eq_true] at h
    simp only [List.set_cons_succ, List.getElem_cons_succ, numsL] at hn ⊢
    rw [nums_set l k (by simpa using h0) _ h.2 hn, Bool.and_false]
end
/-- A function with a wrong number, or a wrong count. -/
def spoilNo (f : Fn) (k : Nat) (n : Int) : Fn := { f with body := match f.body[k]? with | some s => f.body.set k (s.setNo n) | none => f.body }
theorem spoilNo_eq {f : Fn} {k : Nat} (h : k < f.body.length) (n : Int) : spoilNo f k n = { f with body := f.body.set k (f.body[k].setNo n) } := by
  unfold spoilNo
  rw [List.getElem?_eq_getElem h]
theorem spoilNo_laws {f : Fn} {k : Nat} (h : k < f.body.length) {n : Int} (hn : n ≠ f.body[k].no) (ho : fnOk f = true) (hs : fnNums f = true) : fnOk (spoilNo f k n) = true ∧ fnNums (spoilNo f k n) = false ∧ numFn (spoilNo f k n) = f ∧ eqF f (spoilNo f k n) = true := by
  have e := spoilNo_eq h n
  have hok : fnOk (spoilNo f k n) = true := by
    rw [e]
    unfold fnOk at ho ⊢
    simp only [wellM_set, cntL_set]
    exact ho
  refine ⟨hok, ?_, ?_, eqF_iff.2 ⟨ho, hok, by rw [e], by rw [e], by rw [e], by rw [e]; exact (eqSs_iff _ _).2 (bareL_set n _ k h).symm⟩⟩
  · rw [e]
    simp only [fnNums, Bool.and_eq_true] at hs ⊢
    rw [nums_set n _ k h 0 hs.1 hn, Bool.false_and]
  · rw [e]
    have := numFn_nums hs
    rw [numFn] at this ⊢
    simp only [renL_set, cntL_set]
    exact this
theorem spoilCount_laws {f : Fn} {c : Int} (hc : c ≠ f.count) (ho : fnOk f = true) (hs : fnNums f = true) : fnOk { f with count := c } = true ∧ fnNums { f with count := c } = false ∧ numFn { f with count := c } = f ∧ eqF f { f with count := c } = true := by
  have hok : fnOk { f with count := c } = true := ho
  refine ⟨hok, ?_, ?_, eqF_iff.2 ⟨ho, hok, rfl, rfl, rfl, eqSs_refl _⟩⟩
  · simp only [fnNums, Bool.and_eq_true, decide_eq_true_eq] at hs ⊢
    rw [Bool.and_eq_false_iff]
    right
    rw [decide_eq_false_iff_not, ← hs.2]
    exact hc
  · exact numFn_nums hs
/-- One function spoilt: what is said of the program. -/
theorem spoilt_laws {l : List Fn} (hl : checkM l = 0) {j : Nat} (hj : j < l.length) {g : Fn} (h1 : fnOk g = true) (h2 : fnNums g = false) (h3 : numFn g = l[j]) :
    checkM (l.set j g) = 2 ∧ sameM l (l.set j g) = false ∧ numberM (l.set j g) = l := by
  obtain ⟨k1, k2⟩ := checkM_zero.1 hl
  have hc : checkM (l.set j g) = 2 := by
    unfold checkM
    rw [if_neg]
    rintro ⟨_, h⟩
    have := (h g (by rw [List.mem_iff_getElem]; exact ⟨j, by simpa using hj, by simp⟩)).2
    rw [h2] at this
    cases this
  refine ⟨hc, by simp [sameM, hc], ?_⟩
  unfold numberM
  rw [if_pos]
  · apply List.ext_getElem
    · simp
    · intro i hi hi'
      rw [List.getElem_map, List.getElem_set]
      split
      · rename_i e
        subst e
        exact h3
      · exact numFn_nums (k2 _ (List.getElem_mem _)).2
  · refine ⟨by simpa using k1, fun f hf => ?_⟩
    rcases List.mem_or_eq_of_mem_set hf with hf | rfl
    · exact (k2 f hf).1
    · exact h1
/-- The numbers of a function with right numbers. -/
theorem count_law {f : Fn} (hs : fnNums f = true) : f.count = ((nosL f.body).length : Nat) ∧ ∀ (i : Nat) (h : i < (nosL f.body).length), (nosL f.body)[i] = (i : Nat) := by
  simp only [fnNums, Bool.and_eq_true, decide_eq_true_eq] at hs
  refine ⟨by rw [nosL_len]; exact hs.2, fun i hi => ?_⟩
  rw [nums_up] at hs
  have := upM_get hs.1 i hi
  simpa using this
end Go.Proofs.YthpmecbekpmijaaGreatDoor
/- Programs whose functions lie in a row of the call's own, and may be changed there; contracts in the words that the statements need. -/
namespace Go.Proofs.YthpmecbekpmijaaGreatDoor
open Go Go.RowKit
set_option linter.unusedSimpArgs false
set_option linter.unusedVariables false
set_option linter.unnecessarySimpa false
/-- The functions lie in block g; what hangs on them lies elsewhere. -/
def PrgAt (W : World) (l : List Fn) (g : Nat) : Prop :=
  (∃ C t, W.heap[g]? = some (.cells C t (0, 0))) ∧ ∀ (i : Nat) (h : i < l.length), ∃ c, FnC (av [g] W) l[i] c ∧ ∀ j u, c[j]? = some u → W.cell? ⟨g, i * 5 + j, none⟩ = some u
theorem PrgAt.lt {W : World} {l : List Fn} {g : Nat} (h : PrgAt W l g) : g < W.heap.size := by
  obtain ⟨⟨C, t, h1⟩, _⟩ := h
  exact (Array.getElem?_eq_some_iff.1 h1).1
theorem PrgAt.free {W : World} {l : List Fn} {g : Nat} (h : PrgAt W l g) (j : Nat) : W.frozen? ⟨g, j, none⟩ = false := by
  obtain ⟨⟨C, t, h1⟩, _⟩ := h
  exact free_at h1
theorem PrgAt.of {W : World} {base : Nat} {ban : List Nat} {l : List Fn} {g n cap : Nat} (h : OwnL W base 42 5 FnC ban (.slice (some ⟨g, 0, none⟩) n cap) l) : PrgAt W l g := by
  refine ⟨?_, fun i hi => ?_⟩
  · rcases h.block with ⟨h1, _⟩ | ⟨g', cap', C, hv, _, _, hC, _⟩
    · cases h1
    · simp only [Value.slice.injEq, Option.some.injEq, Addr.mk.injEq, and_true] at hv
      obtain ⟨rfl, _⟩ := hv
      exact ⟨C, _, hC⟩
  · obtain ⟨_, _, c, _, h2, _, h4⟩ := h.get FnC.mono rfl i hi
    exact ⟨c, FnC.mono _ _ _ _ (has_sub (by simp)) h2, h4⟩
theorem PrgAt.kept {W W' : World} {l : List Fn} {g : Nat} {m : List Nat} (h : PrgAt W l g) (hk : Kept m W W') (hm : g ∉ m) (hh : Has (av [g] W) (av [g] W')) : PrgAt W' l g := by
  obtain ⟨⟨C, t, h1⟩, h2⟩ := h
  refine ⟨⟨C, t, hk.heap hm h1⟩, fun i hi => ?_⟩
  obtain ⟨c, h3, h4⟩ := h2 i hi
  exact ⟨c, FnC.mono _ _ _ _ hh h3, fun j u hu => hk.cell hm (h4 j u hu)⟩
theorem PrgAt.below {W W' : World} {l : List Fn} {g : Nat} (h : PrgAt W l g) (hb : Below W.heap.size W W') : PrgAt W' l g := h.kept (m := []) (kept_below hb) (by simp) (has_av_below hb)
/-- The five cells of a function, and what hangs on it. -/
theorem PrgAt.cells {W : World} {l : List Fn} {g : Nat} (h : PrgAt W l g) (i : Nat) (hi : i < l.length) : ∃ (pp pb : Option Addr) (cp cb : Nat),
    W.cell? ⟨g, i * 5, none⟩ = some (.string ⟨l[i].name.toArray⟩) ∧ W.cell? ⟨g, i * 5 + 1, none⟩ = some (.slice pp l[i].params.length cp) ∧ W.cell? ⟨g, i * 5 + 2, none⟩ = some (.int .i64 l[i].result) ∧
    W.cell? ⟨g, i * 5 + 3, none⟩ = some (.slice pb l[i].body.length cb) ∧ W.cell? ⟨g, i * 5 + 4, none⟩ = some (.int .i64 l[i].count) ∧ FnWf l[i] cb ∧ Pms (av [g] W) l[i].params pp cp ∧ St.Row (av [g] W) l[i].body pb := by
  obtain ⟨c, ⟨pp, pb, cp, cb, rfl, h1, h2, h3⟩, h4⟩ := h.2 i hi
  exact ⟨pp, pb, cp, cb, h4 0 _ rfl, h4 1 _ rfl, h4 2 _ rfl, h4 3 _ rfl, h4 4 _ rfl, h1, h2, h3⟩
theorem PrgAt.fns {W : World} {l : List Fn} {g cap : Nat} (h : PrgAt W l g) (h1 : l.length ≤ cap) (h2 : cap ≤ maxLen) : Fns W l (some ⟨g, 0, none⟩) cap := by
  refine ⟨h1, h2, fun _ => ⟨_, _, rfl⟩, fun b o e i hi => ?_⟩
  simp only [Option.some.injEq, Addr.mk.injEq, and_true] at e
  obtain ⟨rfl, rfl⟩ := e
  obtain ⟨pp, pb, cp, cb, c0, c1, c2, c3, c4, hw, hp, hr⟩ := h.cells i hi
  rw [Nat.zero_add]
  exact ⟨pp, pb, cp, cb, c0, c1, c2, c3, c4, hw, hp.has has_av, hr.has has_av⟩
/-- One function is changed. -/
theorem PrgAt.store {W W' : World} {l : List Fn} {g : Nat} (h : PrgAt W l g) (hk : Kept [g] W W') (i : Nat) (f : Fn) (c : List Value) (hc : FnC (av [g] W) f c) (hcell : ∀ j u, c[j]? = some u → W'.cell? ⟨g, i * 5 + j, none⟩ = some u)
    (ho : ∀ k u, (k < i * 5 ∨ i * 5 + 5 ≤ k) → W.cell? ⟨g, k, none⟩ = some u → W'.cell? ⟨g, k, none⟩ = some u) (hb : ∃ C t, W'.heap[g]? = some (.cells C t (0, 0))) : PrgAt W' (l.set i f) g := by
  refine ⟨hb, fun k hk2 => ?_⟩
  have hkl : k < l.length := by simpa using hk2
  by_cases e : k = i
  · subst e
    rw [List.getElem_set_self]
    exact ⟨c, FnC.mono _ _ _ _ (has_kept hk) hc, hcell⟩
  · rw [List.getElem_set_ne (by omega)]
    obtain ⟨d, h1, h2⟩ := h.2 k hkl
    refine ⟨d, FnC.mono _ _ _ _ (has_kept hk) h1, fun j u hu => ho _ _ ?_ (h2 j u hu)⟩
    have hj : j < 5 := by
      obtain ⟨_, _, _, _, rfl, _⟩ := h1
      have := (List.getElem?_eq_some_iff.1 hu).1
      simpa using this
    omega
theorem heap_newS {X : World} {g : Nat} {C : Array Value} {t : TypeId} (h : g = X.heap.size) : (X.alloc (.cells C t)).heap[g]? = some (.cells C t (0, 0)) := by
  subst h
  exact heap_alloc_new _ _
theorem heap_setC {W : World} {g i : Nat} {v : Value} (h : ∃ C t, W.heap[g]? = some (.cells C t (0, 0))) : ∃ C t, (W.setCell ⟨g, i, none⟩ v).heap[g]? = some (.cells C t (0, 0)) := by
  obtain ⟨C, t, h⟩ := h
  exact ⟨_, t, heap_set h v⟩
/-- One cell of one function is changed. -/
theorem PrgAt.store1 {W : World} {l : List Fn} {g : Nat} (h : PrgAt W l g) (i : Nat) (hi : i < l.length) (f : Fn) (j0 : Nat) (v : Value) (hj : j0 < 5) (c : List Value)
    (hold : ∀ j u, c[j]? = some u → W.cell? ⟨g, i * 5 + j, none⟩ = some u) (hl : c.length = 5) (hc : FnC (av [g] W) f (c.set j0 v)) : PrgAt (W.setCell ⟨g, i * 5 + j0, none⟩ v) (l.set i f) g := by
  refine h.store ((Kept.refl [g] W).set (.inl (by simp)) _ _) i f _ hc (fun j u hu => ?_) (fun k u hk hu => set_other hu (by omega)) (heap_setC h.1)
  by_cases e : j = j0
  · subst e
    rw [List.getElem?_set_self (by omega)] at hu
    simp only [Option.some.injEq] at hu
    subst hu
    obtain ⟨u0, hu0⟩ : ∃ u0, c[j]? = some u0 := ⟨c[j]'(by omega), List.getElem?_eq_getElem _⟩
    exact set_same (hold j u0 hu0)
  · rw [List.getElem?_set_ne (by omega)] at hu
    exact set_other (hold j u hu) (by omega)
theorem row_tail {w : World} {l : List St} {b o : Nat} (h : St.Row w l (some ⟨b, o, none⟩)) : St.Row w (l.drop 1) (some ⟨b, o + 8, none⟩) := by
  cases l with
  | nil => simp only [List.drop_nil, St.Row]
  | cons s ss =>
    simp only [St.Row] at h
    obtain ⟨b', o', ha, _, hr⟩ := h
    simp only [Option.some.injEq, Addr.mk.injEq, and_true] at ha
    obtain ⟨rfl, rfl⟩ := ha
    exact hr
/-- The first statement of one function is left out. -/
theorem cut_store {W : World} {l : List Fn} {g j n o' c' : Nat} (h : PrgAt W l g) (hj : j < l.length) {pp : Option Addr} {b o cp cb : Nat} (h0 : W.cell? ⟨g, j * 5, none⟩ = some (.string ⟨l[j].name.toArray⟩)) (h1 : W.cell? ⟨g, j * 5 + 1, none⟩ = some (.slice pp l[j].params.length cp)) (h2 : W.cell? ⟨g, j * 5 + 2, none⟩ = some (.int .i64 l[j].result))
    (h3 : W.cell? ⟨g, j * 5 + 3, none⟩ = some (.slice (some ⟨b, o, none⟩) l[j].body.length cb)) (h4 : W.cell? ⟨g, j * 5 + 4, none⟩ = some (.int .i64 l[j].count)) (hfw : FnWf l[j] cb) (hps : Pms (av [g] W) l[j].params pp cp) (hr : St.Row (av [g] W) (l[j].body.drop 1) (some ⟨b, o', none⟩)) (hn : n = (l[j].body.drop 1).length) (hc1 : n ≤ c') (hc2 : c' ≤ maxLen) :
    PrgAt (W.setCell ⟨g, j * 5 + 3, none⟩ (.slice (some ⟨b, o', none⟩) n c')) (l.set j { l[j] with body := l[j].body.drop 1 }) g := by
  subst hn
  refine h.store1 j hj _ 3 _ (by omega) [.string ⟨l[j].name.toArray⟩, .slice pp l[j].params.length cp, .int .i64 l[j].result, .slice (some ⟨b, o, none⟩) l[j].body.length cb, .int .i64 l[j].count] (fun i u hu => ?_) rfl ⟨pp, some ⟨b, o', none⟩, cp, c', rfl, ⟨hfw.s, hfw.r, hc1, hc2, hfw.c⟩, hps, hr⟩
  rcases i with _ | _ | _ | _ | _ | i
  · simp at hu; subst hu; exact h0
  · simp at hu; subst hu; exact h1
  · simp at hu; subst hu; exact h2
  · simp at hu; subst hu; exact h3
  · simp at hu; subst hu; exact h4
  · simp at hu
/-- The draft's program, in a row of its own. -/
def MadePost (w : World) (l : List Fn) (r : Ending) (w' : World) : Prop :=
  (∃ g c, r = .returned (.agg #[.slice (some ⟨g, 0, none⟩) l.length c]) ∧ l.length ≤ c ∧ c ≤ maxLen ∧ w.heap.size ≤ g ∧ Hid (PrgAt w' l g)) ∧ Below w.heap.size w w'
theorem made_prg (D : List Nat) (a : Option Addr) (cap : Nat) (w : World) (hd : U8s w D a cap) : Calls Tryz.prog 14 #[.slice a D.length cap] w (MadePost w (madeD D)) := by
  refine (made_any D a cap w hd).mono ?_
  rintro r w' ⟨⟨v, rfl, hown⟩, hb⟩
  refine ⟨?_, hb⟩
  rcases hown.form with ⟨_, h0⟩ | ⟨g, c, rfl, hg, _, h1, h2⟩
  · have := (madeD_ok D).1
    rw [h0] at this
    exact absurd this (by decide)
  · exact ⟨g, c, rfl, h1, h2, hg, hide (PrgAt.of hown)⟩
/-- The numbered program, read only. -/
def NbfPost (w : World) (l : List Fn) (r : Ending) (w' : World) : Prop :=
  (∃ (a : Option Addr) (c : Nat), r = .returned (.agg #[.slice a l.length c]) ∧ Hid (Fns w' l a c)) ∧ Below w.heap.size w w'
theorem number_fns (l m : List Fn) (hm : numberM l = m) (n : Nat) (hn : l.length = n) (a : Option Addr) (cap : Nat) (w : World) (hl : Fns w l a cap) (hT : Tab w) :
    Calls Tryz.prog 17 #[.agg #[.slice a n cap]] w (NbfPost w m) := by
  subst hm
  subst hn
  refine (number_any l a cap w hl hT).mono ?_
  rintro r w' ⟨⟨a, c, rfl, h⟩, hb⟩
  exact ⟨⟨a, c, rfl, hide h.fns⟩, hb⟩
theorem sameM_is (l m : List Fn) (q : Bool) (hq : sameM l m = q) (n k : Nat) (hn : l.length = n) (hk : m.length = k) (a a' : Option Addr) (cap cap' : Nat) (w : World) (hl : Fns w l a cap) (hm : Fns w m a' cap') (hT : Tab w) :
    Calls Tryz.prog 21 #[.agg #[.slice a n cap], .agg #[.slice a' k cap']] w fun r w' => r = .returned (.bool q) ∧ Below w.heap.size w w' := by
  subst hq
  subst hn
  subst hk
  exact same_any l m a a' cap cap' w hl hm hT
theorem sameF_is (f g : Fn) (q : Bool) (hq : eqF f g = q) (v u : Value) (w : World) (hf : Fn.Val w f v) (hg : Fn.Val w g u) (hT : Tab w) : Calls Tryz.prog 23 #[v, u] w fun r w' => r = .returned (.bool q) ∧ Below w.heap.size w w' := by
  subst hq
  exact sameFunc_any f g v u w hf hg hT
end Go.Proofs.YthpmecbekpmijaaGreatDoor
/- rewindlaw03.count answers the numbers of statements, in the order of the text, in a row of its own. -/
namespace Go.Proofs.YthpmecbekpmijaaGreatDoor
open Go Go.RowKit
set_option linter.unusedSimpArgs false
set_option linter.unusedVariables false
set_option linter.unnecessarySimpa false
/-- The cell of a number. -/
def IntC (_ : World) (n : Int) (c : List Value) : Prop := c = [.int .i64 n]
theorem IntC.mono : Mono IntC := fun _ _ _ _ _ h => h
theorem IntC.one {W : World} {a : Int} {c : List Value} (h : IntC W a c) : ∀ u ∈ c, u.oneCell' = true := by
  obtain rfl := h
  simp [Value.oneCell']
theorem info_int : (Tryz.prog.info? 3).map (fun i => (i.zero, i.size, i.bytes)) = some (some (.int .i64 0), 1, 8) := by kernel_rfl
def CntPost (w : World) (l : List Int) (r : Ending) (w' : World) : Prop :=
  (∃ a c, r = .returned (.slice a l.length c) ∧ Hid (OwnL w' w.heap.size 3 1 IntC [] (.slice a l.length c) l)) ∧ Below w.heap.size w w'
theorem cntL_part {l : List St} {k : Nat} (h : k < l.length) : cntL l[k].body < cntL l ∧ cntL l[k].els < cntL l := by
  have h1 := cntL_mem (List.getElem_mem h)
  have h2 := St.cnt_eq l[k]
  omega
theorem nosL_len1 (l : List St) (k : Nat) (h : k < l.length) : (nosL (l.take k)).length + 1 + (nosL l[k].body).length + (nosL l[k].els).length = (nosL (l.take (k + 1))).length := by
  rw [nosL_take l k h, St.nos_eq]
  simp
  omega
/-- What has grown is the call's own. -/
theorem grown_below {α : Type} {w a b : World} {base sz : Nat} {t : TypeId} {V : World → α → List Value → Prop} {ban : List Nat} {v : Value} {l : List α} (hb : Below w.heap.size w a) (h : OwnL a base t sz V ban v l) (hbase : w.heap.size ≤ base) (hg : a.grownBy b v.ownBlock) : Below w.heap.size w b := by
  have hk : Kept v.ownBlock.toList a b := (Kept.refl _ a).grown hg fun k hk => .inl (by simpa using hk)
  exact hk.below hb fun g hg => by
    have := (h.lt g (by simpa using hg)).1
    omega
theorem grown_heap {α : Type} {a b : World} {base sz : Nat} {t : TypeId} {V : World → α → List Value → Prop} {ban : List Nat} {v : Value} {l : List α} (h : OwnL a base t sz V ban v l) (hg : a.grownBy b v.ownBlock) {g : Nat} {o : Obj} (ho : a.heap[g]? = some o) (hn : v.ownBlock ≠ some g) : b.heap[g]? = some o := by
  have hk : Kept v.ownBlock.toList a b := (Kept.refl _ a).grown hg fun k hk => .inl (by simpa using hk)
  exact hk.heap (by simpa using fun e => hn e) ho
/-- A block of another type is not the slice's own. -/
theorem own_ne {α : Type} {w : World} {base sz : Nat} {t t' : TypeId} {V : World → α → List Value → Prop} {ban : List Nat} {v : Value} {l : List α} {g : Nat} {C : Array Value} {z : Nat × Nat} (h : OwnL w base t sz V ban v l) (hg : w.heap[g]? = some (.cells C t' z)) (ht : t ≠ t') : v.ownBlock ≠ some g := by
  obtain ⟨xs, hown, _⟩ := h
  rcases hown.2 with ⟨rfl, _⟩ | ⟨g', cap, cur, rfl, _, hgg, _⟩
  · intro e
    cases e
  · intro e
    simp only [Value.ownBlock, Option.some.injEq] at e
    subst e
    rw [hg] at hgg
    simp only [Option.some.injEq, Obj.cells.injEq] at hgg
    exact ht hgg.2.1.symm
theorem own_len {α : Type} {w : World} {base sz n m c : Nat} {t : TypeId} {V : World → α → List Value → Prop} {ban : List Nat} {a : Option Addr} {l : List α} (h : OwnL w base t sz V ban (.slice a n c) l) (e : n = m) : OwnL w base t sz V ban (.slice a m c) l := e ▸ h
theorem int_news {w : World} {base n c : Nat} {a : Option Addr} {l : List Int} (h : OwnL w base 3 1 IntC [] (.slice a n c) l) (X : List Nat) :
    (a = none ∧ l = []) ∨ ∃ ad news, a = some ad ∧ (∀ j u, news[j]? = some u → w.cell? (ad.add j) = some u) ∧ (∀ u ∈ news, u.oneCell' = true) ∧ Cut 1 (IntC (av X w)) l news := by
  obtain ⟨pa, cap, hv, h⟩ := h.news (fun _ _ _ h => h.one)
  simp only [Value.slice.injEq] at hv
  obtain ⟨rfl, rfl, rfl⟩ := hv
  rcases h with h | ⟨ad, news, h1, h2, h3, h4⟩
  · exact .inl h
  · exact .inr ⟨ad, news, h1, h2, h3, h4.mono fun _ _ h => h⟩
set_option maxRecDepth 20000 in
set_option maxHeartbeats 4000000 in
theorem count_any : ∀ (N : Nat) (l : List St) (a : Option Addr) (cap : Nat) (w : World), cntL l < N → cntL l ≤ 1000 → St.Row w l a → Calls Tryz.prog 25 #[.slice a l.length cap] w (CntPost w (nosL l)) := by
  intro N
  induction N with
  | zero => intro l a cap w h; exact absurd h (Nat.not_lt_zero _)
  | succ N ih =>
    intro l a cap w hN hc hr
    obtain ⟨i0, hi, hz0, hz1, hz2⟩ := info_parts info_int
    have hlen := len_cnt l
    have IH := hide ih
    have HR := hide hr
    clear ih hr
    go_enter Tryz.func25, Tryz.ntmps25
    go_wp2_with fail
    go_loopw [3, 8] (fun v i wr => ∃ (k : Nat) (va : Option Addr) (vc : Nat), k ≤ l.length ∧ i = .int .i64 k ∧ v = .slice va (nosL (l.take k)).length vc ∧ Hid (OwnL wr w.heap.size 3 1 IntC [] (.slice va (nosL (l.take k)).length vc) (nosL (l.take k))) ∧ Hid (Below w.heap.size w wr)) (fun _ i _ => l.length - (intOf i).toNat)
    case atStart => exact ⟨0, none, 0, Nat.zero_le _, rfl, rfl, OwnL.nil _ _ _ _ _ _, bl w⟩
    case round =>
      obtain ⟨k, va, vc, hk, rfl, rfl, HO, HB⟩ := hrel
      by_cases hlt : k < l.length
      · obtain ⟨b, o, rfl⟩ := HR.out.addr (by omega)
        obtain ⟨pa, pb, pe, ca, cb, ce, hcs, hw, ha, hbo, hel⟩ := (HR.out.get k hlt).val
        obtain ⟨c0, c1, c2, c3, c4, c5, c6, c7⟩ := hcs.has (has_below HB.out)
        have hbl := cell_lt c0
        simp only at hbl
        have hp := cntL_part hlt
        have hct := cntL_take l k hlt
        have hcl := cntL_take_le l (k + 1)
        have hce := St.cnt_eq l[k]
        have hn0 : (nosL (l.take k)).length = cntL (l.take k) := nosL_len _
        have hn1 : (nosL l[k].body).length = cntL l[k].body := nosL_len _
        have hn2 : (nosL l[k].els).length = cntL l[k].els := nosL_len _
        have HIB := hide fun (W : World) (hW : Below w.heap.size w W) => IH.out l[k].body pb cb W (by omega) (by omega) (hbo.has (has_below hW))
        have HIE := hide fun (W : World) (hW : Below w.heap.size w W) => IH.out l[k].els pe ce W (by omega) (by omega) (hel.has (has_below hW))
        have HBX : Hid ((wr.alloc (.cells #[.int .i64 l[k].kind, .int .i64 l[k].no, .string ⟨l[k].name.toArray⟩, .int .i64 l[k].typ, .string ⟨l[k].callee.toArray⟩, .slice pa l[k].args.length ca, .slice pb l[k].body.length cb, .slice pe l[k].els.length ce] 34)).heap[wr.heap.size]? = some (.cells #[.int .i64 l[k].kind, .int .i64 l[k].no, .string ⟨l[k].name.toArray⟩, .int .i64 l[k].typ, .string ⟨l[k].callee.toArray⟩, .slice pa l[k].args.length ca, .slice pb l[k].body.length cb, .slice pe l[k].els.length ce] 34 (0, 0))) := hide (heap_alloc_new _ _)
        have HTK : Hid (nosL (l.take (k + 1)) = nosL (l.take k) ++ [l[k].no] ++ nosL l[k].body ++ nosL l[k].els) := hide (by rw [nosL_take l k hlt, St.nos_eq]; simp)
        have HM : Hid ((nosL (l.take k)).length + 1 + (nosL l[k].body).length + (nosL l[k].els).length ≤ 1000) := hide (by omega)
        clear hcs ha hbo hel hw hp hct hcl hce hn0 hn1 hn2
        have HO2 := hide ((HO.out.al IntC.mono (.cells #[.int .i64 l[k].kind, .int .i64 l[k].no, .string ⟨l[k].name.toArray⟩, .int .i64 l[k].typ, .string ⟨l[k].callee.toArray⟩, .slice pa l[k].args.length ca, .slice pb l[k].body.length cb, .slice pe l[k].els.length ce] 34)).al IntC.mono (.cells #[.int .i64 l[k].no] 3))
        have HB2 := hide ((HB.out.al (.cells #[.int .i64 l[k].kind, .int .i64 l[k].no, .string ⟨l[k].name.toArray⟩, .int .i64 l[k].typ, .string ⟨l[k].callee.toArray⟩, .slice pa l[k].args.length ca, .slice pb l[k].body.length cb, .slice pe l[k].els.length ce] 34)).al (.cells #[.int .i64 l[k].no] 3))
        have HMA : Hid ((nosL (l.take k)).length + 1 ≤ maxLen) := hide (by have := HM.out; unfold maxLen; omega)
        have HMB : Hid (((nosL (l.take k)).length + 1) * 8 ≤ 140737488355328) := hide (by have := HM.out; omega)
        have HX2 := hide ((Below.heap_alloc _ (.cells #[.int .i64 l[k].no] 3) _ (by simp)).trans HBX.out)
        have HNW := hide (news_row (wr.alloc (.cells #[.int .i64 l[k].kind, .int .i64 l[k].no, .string ⟨l[k].name.toArray⟩, .int .i64 l[k].typ, .string ⟨l[k].callee.toArray⟩, .slice pa l[k].args.length ca, .slice pb l[k].body.length cb, .slice pe l[k].els.length ce] 34)) [.int .i64 l[k].no] 3 (wr.heap.size + 1) (by simp))
        have HBXN := hide (own_ne HO2.out HX2.out (by decide))
        go_wp2_with (at_builtin; refine wpList_push _ rfl _ _ 50 rfl w.heap.size 3 i0 _ 1 8 Tryz.underlying50 hi hz0 hz1 hz2 rfl (by decide) IntC IntC.mono [] _ (nosL (l.take k)) rfl HO2.out ⟨wr.heap.size + 1, 0, none⟩ 1 [.int .i64 l[k].no] l[k].no rfl rfl HNW.out (by simp [Value.oneCell']) rfl HMA.out HMB.out HB2.out.size ?_; intro v2 w2 hown2 hgrow2; obtain ⟨va2, vc2, rfl, -, -⟩ := hown2.slice; have HX3 := hide (grown_heap HO2.out hgrow2 HX2.out HBXN.out); have HB3 := hide (grown_below HB2.out HO2.out (Nat.le_refl _) hgrow2); have HO3 := hide hown2; have x6 := cell_at (j := 6) HX3.out rfl; have hxl := (Array.getElem?_eq_some_iff.1 HX3.out).1; clear hgrow2 hown2)
        have HO3 : Hid (OwnL w2 w.heap.size 3 1 IntC [] (.slice va2 ((nosL (l.take k)).length + 1) vc2) (nosL (l.take k) ++ [l[k].no])) := hide (own_len HO3.out (by simp))
        (with_reducible refine (HIB.out _ HB3.out).mono ?_)
        rintro r w3 ⟨⟨a3, c3', rfl, hown3⟩, hb3⟩
        have HX4 := hide ((hb3.block _ hxl).trans HX3.out)
        have HB4 := hide (HB3.out.tr hb3)
        have HO4 := hide (HO3.out.below IntC.mono hb3)
        have HIN := hide (int_news hown3.out ((Value.slice va2 ((nosL (l.take k)).length + 1) vc2).ownBlock.toList ++ []))
        have HMA : Hid ((nosL (l.take k) ++ [l[k].no]).length + (nosL l[k].body).length ≤ maxLen) := hide (by have := HM.out; unfold maxLen; simp; omega)
        have HMB : Hid (((nosL (l.take k) ++ [l[k].no]).length + (nosL l[k].body).length) * 8 ≤ 140737488355328) := hide (by have := HM.out; simp; omega)
        have HBXN : Hid ((Value.slice va2 ((nosL (l.take k)).length + 1) vc2).ownBlock ≠ some wr.heap.size) := hide (own_ne HO4.out HX4.out (by decide))
        clear x6 hxl hb3 hown3
        go_wp2_with (at_builtin; refine wpList_pushin _ rfl _ _ 50 rfl w.heap.size 3 i0 _ 1 8 Tryz.underlying50 hi hz0 hz1 hz2 rfl (by decide) IntC IntC.mono [] (.slice va2 ((nosL (l.take k)).length + 1) vc2) (nosL (l.take k) ++ [l[k].no]) rfl HO4.out a3 c3' (nosL l[k].body) rfl HIN.out HMA.out HMB.out HB4.out.size ?_; intro v4 w4 hown4 hgrow4; obtain ⟨va4, vc4, rfl, -, -⟩ := hown4.slice; have HX5 := hide (grown_heap HO4.out hgrow4 HX4.out HBXN.out); have HB5 := hide (grown_below HB4.out HO4.out (Nat.le_refl _) hgrow4); have HO5 := hide hown4; have x7 := cell_at (j := 7) HX5.out rfl; have hxl := (Array.getElem?_eq_some_iff.1 HX5.out).1; clear hgrow4 hown4)
        have HO5 : Hid (OwnL w4 w.heap.size 3 1 IntC [] (.slice va4 ((nosL (l.take k)).length + ((nosL l[k].body).length + 1)) vc4) (nosL (l.take k) ++ [l[k].no] ++ nosL l[k].body)) := hide (own_len HO5.out (by simp))
        (with_reducible refine (HIE.out _ HB5.out).mono ?_)
        rintro r w5 ⟨⟨a5, c5', rfl, hown5⟩, hb5⟩
        have HB6 := hide (HB5.out.tr hb5)
        have HO6 := hide (HO5.out.below IntC.mono hb5)
        have HIN := hide (int_news hown5.out ((Value.slice va4 ((nosL (l.take k)).length + ((nosL l[k].body).length + 1)) vc4).ownBlock.toList ++ []))
        have HMA : Hid ((nosL (l.take k) ++ [l[k].no] ++ nosL l[k].body).length + (nosL l[k].els).length ≤ maxLen) := hide (by have := HM.out; unfold maxLen; simp; omega)
        have HMB : Hid (((nosL (l.take k) ++ [l[k].no] ++ nosL l[k].body).length + (nosL l[k].els).length) * 8 ≤ 140737488355328) := hide (by have := HM.out; simp; omega)
        clear x7 hxl hb5 hown5
        go_wp2_with (at_builtin; refine wpList_pushin _ rfl _ _ 50 rfl w.heap.size 3 i0 _ 1 8 Tryz.underlying50 hi hz0 hz1 hz2 rfl (by decide) IntC IntC.mono [] (.slice va4 ((nosL (l.take k)).length + ((nosL l[k].body).length + 1)) vc4) (nosL (l.take k) ++ [l[k].no] ++ nosL l[k].body) rfl HO6.out a5 c5' (nosL l[k].els) rfl HIN.out HMA.out HMB.out HB6.out.size ?_; intro v6 w6 hown6 hgrow6; obtain ⟨va6, vc6, rfl, -, -⟩ := hown6.slice; have HB7 := hide (grown_below HB6.out HO6.out (Nat.le_refl _) hgrow6); have HO7 := hide hown6; clear hgrow6 hown6)
        go_roundw
        case rel =>
          refine ⟨k + 1, va6, vc6, by omega, by go_num, ?_⟩
          rw [HTK.out]
          exact ⟨congrArg (fun n => Value.slice va6 n vc6) (by simp; try omega), HO7.out, HB7.out⟩
        case measure => simp [intOf]; omega
      · obtain rfl : k = l.length := by omega
        go_wp2_with fail
        go_ret
        rw [List.take_length] at HO ⊢
        exact ⟨⟨_, _, rfl, HO⟩, HB.out⟩
end Go.Proofs.YthpmecbekpmijaaGreatDoor
/- A numbered program of the call's own in which one number, or one count, is changed. -/
namespace Go.Proofs.YthpmecbekpmijaaGreatDoor
open Go Go.RowKit
set_option linter.unusedSimpArgs false
set_option linter.unusedVariables false
set_option linter.unnecessarySimpa false
theorem PrOwn.below {w W : World} {base : Nat} {l : List Fn} {a : Option Addr} {cap : Nat} (h : PrOwn w base l a cap) (hb : Below w.heap.size w W) : PrOwn W base l a cap := by
  obtain ⟨h1, h2, h3⟩ := h
  refine ⟨h1, h2, ?_⟩
  rcases h3 with rfl | ⟨g, C, t, rfl, hg, hC, h4⟩
  · exact .inl rfl
  · have hl := (Array.getElem?_eq_some_iff.1 hC).1
    exact .inr ⟨g, C, t, rfl, hg, (hb.block _ hl).trans hC, (h4.stay (fun j v _ _ hv => cell_keep hv hb (Nat.le_refl _)) (stay_below hb)).wide hb.size⟩
theorem fnsOwn.split {w : World} {f : Fn} {B : List Fn} : ∀ {A : List Fn} {g i lo hi : Nat}, fnsOwn w (A ++ f :: B) g i lo hi → ∃ m1 m2, fnsOwn w A g i lo m1 ∧ FnOwn w f g (i + A.length) m1 m2 ∧ m1 ≤ m2 ∧ m2 ≤ hi ∧ lo ≤ m1 ∧ fnsOwn w B g (i + A.length + 1) m2 hi
  | [], g, i, lo, hi, h => by
    obtain ⟨m, h1, h2, ho, hl⟩ := h
    exact ⟨lo, m, Nat.le_refl lo, by simpa using ho, h1, h2, Nat.le_refl _, by simpa using hl⟩
  | a :: A, g, i, lo, hi, h => by
    obtain ⟨m, h1, h2, ho, hl⟩ := h
    obtain ⟨m1, m2, q1, q2, q3, q4, q5, q6⟩ := hl.split
    have e : i + 1 + A.length = i + (a :: A).length := by simp only [List.length_cons]; omega
    rw [e] at q2 q6
    exact ⟨m1, m2, ⟨m, h1, q5, ho, q1⟩, q2, q3, q4, by omega, q6⟩
theorem fnsOwn.join {w : World} {f : Fn} {B : List Fn} : ∀ {A : List Fn} {g i lo m1 m2 hi : Nat}, fnsOwn w A g i lo m1 → FnOwn w f g (i + A.length) m1 m2 → m1 ≤ m2 → m2 ≤ hi → fnsOwn w B g (i + A.length + 1) m2 hi → fnsOwn w (A ++ f :: B) g i lo hi
  | [], g, i, lo, m1, m2, hi, h1, h2, h3, h4, h5 => ⟨m2, Nat.le_trans h1 h3, h4, by simpa using h2.wide h1 (Nat.le_refl _), by simpa using h5⟩
  | a :: A, g, i, lo, m1, m2, hi, h1, h2, h3, h4, h5 => by
    obtain ⟨m, q1, q2, q3, q4⟩ := h1
    have e : i + 1 + A.length = i + (a :: A).length := by simp only [List.length_cons]; omega
    rw [← e] at h2 h5
    exact ⟨m, q1, by omega, q3, fnsOwn.join q4 h2 h3 h4 h5⟩
theorem set_split {α : Type} (l : List α) (j : Nat) (h : j < l.length) (y : α) : l.set j y = l.take j ++ y :: l.drop (j + 1) := by
  rw [List.set_eq_take_append_cons_drop, if_pos h]
theorem get_split {α : Type} (l : List α) (j : Nat) (h : j < l.length) : l = l.take j ++ l[j] :: l.drop (j + 1) := by
  rw [List.getElem_cons_drop, List.take_append_drop]
/-- The number of one statement of a row is changed. -/
theorem rowOwn.setNo {w : World} {l : List St} {g lo hi : Nat} (h : rowOwn w l (some ⟨g, 0, none⟩) lo hi) (k : Nat) (hk : k < l.length) (n : Int) (hn : I64 n) :
    w.cell? ⟨g, k * 8 + 1, none⟩ = some (.int .i64 l[k].no) ∧ w.frozen? ⟨g, k * 8 + 1, none⟩ = false ∧ lo ≤ g ∧ g < hi ∧ g < w.heap.size ∧ rowOwn (w.setCell ⟨g, k * 8 + 1, none⟩ (.int .i64 n)) (l.set k (l[k].setNo n)) (some ⟨g, 0, none⟩) lo hi := by
  have h0 : ∃ C t, w.heap[g]? = some (.cells C t (0, 0)) ∧ lo ≤ g ∧ g < hi ∧ elsOwn w l g 0 (g + 1) hi := by
    cases l with
    | nil => cases hk
    | cons s l =>
      simp only [rowOwn] at h
      obtain ⟨g', m, C, t, ha, h1, h2, hC, h3, h4, ho, hl⟩ := h
      simp only [Option.some.injEq, Addr.mk.injEq, and_true] at ha
      obtain rfl := ha
      exact ⟨C, t, hC, h1, h2, by simp only [elsOwn]; exact ⟨m, h3, h4, ho, hl⟩⟩
  obtain ⟨C, t, hC, h1, h2, hels⟩ := h0
  rw [get_split l k hk] at hels
  obtain ⟨m1, m2, q1, q2, q3, q4⟩ := hels.split
  have hlk : (l.take k).length = k := by rw [List.length_take]; omega
  rw [hlk, Nat.zero_add] at q3 q4
  obtain ⟨pa, pb, pe, ca, cb, ce, p1, p2, hcs, hwf, r1, r2, r3, ra, rb, re⟩ := q3.get
  have hK : Kept [g] w (w.setCell ⟨g, k * 8 + 1, none⟩ (.int .i64 n)) := (Kept.refl [g] w).set (.inl (by simp)) _ _
  have hSt : ∀ a b, g < a → Stay a b w (w.setCell ⟨g, k * 8 + 1, none⟩ (.int .i64 n)) := fun a b hab => Stay.of hK (by simp; omega)
  have ho : ∀ {j v}, w.cell? ⟨g, j, none⟩ = some v → j ≠ k * 8 + 1 → (w.setCell ⟨g, k * 8 + 1, none⟩ (.int .i64 n)).cell? ⟨g, j, none⟩ = some v := fun hv hj => set_other hv hj
  refine ⟨hcs.c1, free_at hC, h1, h2, (Array.getElem?_eq_some_iff.1 hC).1, ?_⟩
  have hown : St.Own (w.setCell ⟨g, k * 8 + 1, none⟩ (.int .i64 n)) (l[k].setNo n) g k m1 m2 := by
    rw [St.setNo_eq]
    simp only [St.Own]
    exact ⟨pa, pb, pe, ca, cb, ce, p1, p2, ⟨ho hcs.c0 (by omega), set_same hcs.c1, ho hcs.c2 (by omega), ho hcs.c3 (by omega), ho hcs.c4 (by omega), ho hcs.c5 (by omega), ho hcs.c6 (by omega), ho hcs.c7 (by omega)⟩,
      ⟨hwf.k, hn, hwf.s, hwf.t, hwf.c, hwf.la, hwf.ca, hwf.lb, hwf.cb, hwf.le, hwf.ce⟩, r1, r2, r3, ra.has (has_stay (hSt _ _ (by omega))), rb.stay (hSt _ _ (by omega)), re.stay (hSt _ _ (by omega))⟩
  have hels2 : elsOwn (w.setCell ⟨g, k * 8 + 1, none⟩ (.int .i64 n)) (l.set k (l[k].setNo n)) g 0 (g + 1) hi := by
    rw [set_split l k hk]
    refine elsOwn.join (q2.stay (fun j v a b hv => ho hv (by rw [hlk] at b; omega)) (hSt _ _ (by omega))) (by rw [hlk, Nat.zero_add]; exact hown) ?_
    rw [hlk, Nat.zero_add]
    exact q4.stay (fun j v a b hv => ho hv (by omega)) (hSt _ _ (by have := q3.le; omega))
  exact rowOwn.of (heap_set hC _) h1 h2 hels2
theorem FnOwn.row {w : World} {f : Fn} {g i lo hi : Nat} (h : FnOwn w f g i lo hi) : ∃ (pb : Option Addr) (cb m : Nat), w.cell? ⟨g, i * 5 + 3, none⟩ = some (.slice pb f.body.length cb) ∧ lo ≤ m ∧ m ≤ hi ∧ rowOwn w f.body pb lo m := by
  obtain ⟨pp, pb, cp, cb, m, h0, hw, h1, h2, h3, h4⟩ := h
  exact ⟨pb, cb, m, h0.c3, h1, h2, h3⟩
/-- One number is changed. -/
theorem PrOwn.setNo {w : World} {base : Nat} {l : List Fn} {g cap : Nat} (h : PrOwn w base l (some ⟨g, 0, none⟩) cap) (j : Nat) (hj : j < l.length) (k : Nat) (hk : k < l[j].body.length) (n : Int) (hn : I64 n) :
    ∃ gb cb, w.cell? ⟨g, j * 5 + 3, none⟩ = some (.slice (some ⟨gb, 0, none⟩) l[j].body.length cb) ∧ base ≤ gb ∧ w.cell? ⟨gb, k * 8 + 1, none⟩ = some (.int .i64 l[j].body[k].no) ∧ w.frozen? ⟨gb, k * 8 + 1, none⟩ = false ∧ gb < w.heap.size ∧
      Fns (w.setCell ⟨gb, k * 8 + 1, none⟩ (.int .i64 n)) (l.set j (spoilNo l[j] k n)) (some ⟨g, 0, none⟩) cap := by
  obtain ⟨h1, h2, h3⟩ := h
  rcases h3 with rfl | ⟨g', C, t, e, hg, hC, h4⟩
  · cases hj
  simp only [Option.some.injEq, Addr.mk.injEq, and_true] at e
  obtain rfl := e
  rw [get_split l j hj] at h4
  obtain ⟨m1, m2, q1, q2, q3, q4, q5, q6⟩ := h4.split
  have hlj : (l.take j).length = j := by rw [List.length_take]; omega
  rw [hlj, Nat.zero_add] at q2 q6
  obtain ⟨pp, pb, cp, cb, m, c0, hw, r1, r2, rr, rp⟩ := q2
  have hpb : ∃ gb, pb = some ⟨gb, 0, none⟩ := by
    cases hbd : l[j].body with
    | nil => rw [hbd] at hk; cases hk
    | cons s l2 =>
      rw [hbd] at rr
      simp only [rowOwn] at rr
      obtain ⟨gb, _, _, _, ha, _⟩ := rr
      exact ⟨gb, ha⟩
  obtain ⟨gb, rfl⟩ := hpb
  obtain ⟨s1, s2, s3, s4, s5, s6⟩ := rr.setNo k hk n hn
  refine ⟨gb, cb, c0.c3, by omega, s1, s2, s5, ?_⟩
  have hK : Kept [gb] w (w.setCell ⟨gb, k * 8 + 1, none⟩ (.int .i64 n)) := (Kept.refl [gb] w).set (.inl (by simp)) _ _
  have hng : g ∉ [gb] := by simp; omega
  have hF : ∀ j v, w.cell? ⟨g, j, none⟩ = some v → (w.setCell ⟨gb, k * 8 + 1, none⟩ (.int .i64 n)).cell? ⟨g, j, none⟩ = some v := fun j v hv => hK.cell hng hv
  have hown : FnOwn (w.setCell ⟨gb, k * 8 + 1, none⟩ (.int .i64 n)) (spoilNo l[j] k n) g j m1 m2 := by
    rw [spoilNo_eq hk]
    refine ⟨pp, some ⟨gb, 0, none⟩, cp, cb, m, ⟨hF _ _ c0.c0, hF _ _ c0.c1, hF _ _ c0.c2, by simp only [List.length_set]; exact hF _ _ c0.c3, hF _ _ c0.c4⟩, ⟨hw.s, hw.r, by simp only [List.length_set]; exact hw.lb, hw.cb, hw.c⟩, r1, r2, s6, rp.has (has_stay (Stay.of hK (by simp; omega)))⟩
  have hfin : fnsOwn (w.setCell ⟨gb, k * 8 + 1, none⟩ (.int .i64 n)) (l.set j (spoilNo l[j] k n)) g 0 (g + 1) (w.setCell ⟨gb, k * 8 + 1, none⟩ (.int .i64 n)).heap.size := by
    rw [set_split l j hj]
    refine fnsOwn.join (q1.stay (fun j v _ _ hv => hF j v hv) (Stay.of hK (by simp; omega))) (by rw [hlj, Nat.zero_add]; exact hown) q3 (Nat.le_trans q4 hK.size) ?_
    rw [hlj, Nat.zero_add]
    exact (q6.stay (fun j v _ _ hv => hF j v hv) (Stay.of hK (by simp; omega))).wide hK.size
  exact PrOwn.fns (base := base) ⟨by simpa using h1, h2, .inr ⟨g, C, t, rfl, hg, hK.heap hng hC, hfin⟩⟩
/-- One count is changed. -/
theorem PrOwn.setCount {w : World} {base : Nat} {l : List Fn} {g cap : Nat} (h : PrOwn w base l (some ⟨g, 0, none⟩) cap) (j : Nat) (hj : j < l.length) (n : Int) (hn : I64 n) :
    w.cell? ⟨g, j * 5 + 4, none⟩ = some (.int .i64 l[j].count) ∧ w.frozen? ⟨g, j * 5 + 4, none⟩ = false ∧ base ≤ g ∧ g < w.heap.size ∧
      Fns (w.setCell ⟨g, j * 5 + 4, none⟩ (.int .i64 n)) (l.set j { l[j] with count := n }) (some ⟨g, 0, none⟩) cap := by
  obtain ⟨h1, h2, h3⟩ := h
  rcases h3 with rfl | ⟨g', C, t, e, hg, hC, h4⟩
  · cases hj
  simp only [Option.some.injEq, Addr.mk.injEq, and_true] at e
  obtain rfl := e
  rw [get_split l j hj] at h4
  obtain ⟨m1, m2, q1, q2, q3, q4, q5, q6⟩ := h4.split
  have hlj : (l.take j).length = j := by rw [List.length_take]; omega
  rw [hlj, Nat.zero_add] at q2 q6
  obtain ⟨pp, pb, cp, cb, m, c0, hw, r1, r2, rr, rp⟩ := q2
  have hK : Kept [g] w (w.setCell ⟨g, j * 5 + 4, none⟩ (.int .i64 n)) := (Kept.refl [g] w).set (.inl (by simp)) _ _
  have hSt : ∀ a b, g < a → Stay a b w (w.setCell ⟨g, j * 5 + 4, none⟩ (.int .i64 n)) := fun a b hab => Stay.of hK (by simp; omega)
  have ho : ∀ {i v}, w.cell? ⟨g, i, none⟩ = some v → i ≠ j * 5 + 4 → (w.setCell ⟨g, j * 5 + 4, none⟩ (.int .i64 n)).cell? ⟨g, i, none⟩ = some v := fun hv hi => set_other hv hi
  refine ⟨c0.c4, free_at hC, hg, (Array.getElem?_eq_some_iff.1 hC).1, ?_⟩
  have hown : FnOwn (w.setCell ⟨g, j * 5 + 4, none⟩ (.int .i64 n)) { l[j] with count := n } g j m1 m2 :=
    ⟨pp, pb, cp, cb, m, ⟨ho c0.c0 (by omega), ho c0.c1 (by omega), ho c0.c2 (by omega), ho c0.c3 (by omega), set_same c0.c4⟩, ⟨hw.s, hw.r, hw.lb, hw.cb, hn⟩, r1, r2, rr.stay (hSt _ _ (by omega)), rp.has (has_stay (hSt _ _ (by omega)))⟩
  have hfin : fnsOwn (w.setCell ⟨g, j * 5 + 4, none⟩ (.int .i64 n)) (l.set j { l[j] with count := n }) g 0 (g + 1) (w.setCell ⟨g, j * 5 + 4, none⟩ (.int .i64 n)).heap.size := by
    rw [set_split l j hj]
    refine fnsOwn.join (q1.stay (fun i v a b hv => ho hv (by rw [hlj] at b; omega)) (hSt _ _ (by omega))) (by rw [hlj, Nat.zero_add]; exact hown) q3 (Nat.le_trans q4 hK.size) ?_
    rw [hlj, Nat.zero_add]
    exact (q6.stay (fun i v a b hv => ho hv (by omega)) (hSt _ _ (by omega))).wide hK.size
  exact PrOwn.fns (base := base) ⟨by simpa using h1, h2, .inr ⟨g, _, t, rfl, hg, heap_set hC _, hfin⟩⟩
end Go.Proofs.YthpmecbekpmijaaGreatDoor
/- ShapeNumbers returns true for every input, where the table of blanks is laid: the walk. -/
namespace Go.Proofs.YthpmecbekpmijaaGreatDoor
open Go Go.RowKit
set_option linter.unusedSimpArgs false
set_option linter.unusedVariables false
set_option linter.unnecessarySimpa false
theorem nosL_mem : ∀ (l : List St) (k : Nat) (h : k < l.length), l[k].no ∈ nosL l
  | [], _, h => absurd h (Nat.not_lt_zero _)
  | s :: l, 0, _ => by simp only [List.getElem_cons_zero, nosL, St.nos_eq]; simp
  | s :: l, k + 1, h => by
    simp only [List.getElem_cons_succ, nosL]
    exact List.mem_append.2 (.inr (nosL_mem l k (by simpa using h)))
theorem no_bound {f : Fn} (hs : fnNums f = true) (hc : cntL f.body ≤ 200) (k : Nat) (h : k < f.body.length) : 0 ≤ f.body[k].no ∧ f.body[k].no ≤ 200 := by
  obtain ⟨i, hi, e⟩ := List.mem_iff_getElem.1 (nosL_mem f.body k h)
  have h2 := (count_law hs).2 i hi
  rw [e] at h2
  have h3 : (nosL f.body).length = cntL f.body := nosL_len _
  omega
/-- The numbered program, in rows of its own. -/
theorem number_own (l : List Fn) (hl0 : 1 ≤ l.length) (hm : numberM l = l) (a : Option Addr) (cap : Nat) (w : World) (hl : Fns w l a cap) (hT : Tab w) :
    Calls Tryz.prog 17 #[.agg #[.slice a l.length cap]] w fun r w' => (∃ g c, r = .returned (.agg #[.slice (some ⟨g, 0, none⟩) l.length c]) ∧ w.heap.size ≤ g ∧ Hid (PrOwn w' w.heap.size l (some ⟨g, 0, none⟩) c)) ∧ Below w.heap.size w w' := by
  refine (number_any l a cap w hl hT).mono ?_
  rintro r w' ⟨⟨a', c, rfl, h⟩, hb⟩
  rw [hm] at h ⊢
  refine ⟨?_, hb⟩
  have h0 := h
  obtain ⟨_, _, h3⟩ := h
  rcases h3 with h3 | ⟨g, C, t, rfl, hg, _, _⟩
  · rw [h3] at hl0
    exact absurd hl0 (by decide)
  · exact ⟨g, c, rfl, hg, hide h0⟩
theorem check_is (l : List Fn) (c : Int) (h : checkM l = c) (n : Nat) (hn : l.length = n) (a : Option Addr) (cap : Nat) (w : World) (hl : Fns w l a cap) (hT : Tab w) :
    Calls Tryz.prog 19 #[.agg #[.slice a n cap]] w fun r w' => r = .returned (.int .i64 c) ∧ Below w.heap.size w w' := by
  subst h
  subst hn
  exact check_any l a cap w hl hT
set_option maxRecDepth 20000 in
set_option maxHeartbeats 8000000 in
theorem ShapeNumbers_any (D : List Nat) (a : Option Addr) (c : Nat) (which how : Nat) (w : World) (hd : U8s w D a c) (hwh : which < 256) (hho : how < 256) (hT : Tab w) :
    Calls Tryz.prog 5 #[.slice a D.length c, .int .u8 which, .int .u8 how] w fun r w' => r = .returned (.bool true) ∧ Below w.heap.size w w' := by
  have HM := hide (made_prg D a c w hd)
  have HT := hide hT
  have hck := made_check D
  have hl1 := (madeD_ok D).1
  have hl3 := (madeD_ok D).2.1
  have HALL := hide (madeD_ok D).2.2
  have HNN := hide (number_id hck)
  have HCK := hide hck
  clear hd hT hck
  generalize madeD D = l at *
  go_enter Tryz.func5, Tryz.ntmps5
  go_wp2_with fail
  (with_reducible refine HM.out.mono ?_)
  rintro r w1 ⟨⟨g1, k1, rfl, p1, p2, p3, hp⟩, hb1⟩
  have HB1 := hide hb1
  have HFP : Hid (∀ W, Below w1.heap.size w1 W → Fns W l (some ⟨g1, 0, none⟩) k1) := hide fun W hW => (hp.out.below hW).fns p1 p2
  have HP : Hid ((w1.alloc (.cells #[.slice (some ⟨g1, 0, none⟩) l.length k1] 38)).heap[w1.heap.size]? = some (.cells #[.slice (some ⟨g1, 0, none⟩) l.length k1] 38 (0, 0))) := hide (heap_alloc_new _ _)
  have HW : Hid (Below w1.heap.size w1 (w1.alloc (.cells #[.slice (some ⟨g1, 0, none⟩) l.length k1] 38))) := hide ((bl w1).al _)
  have HC1 := hide fun (W : World) (hW : Below w1.heap.size w1 W) => check_is l 0 HCK.out _ rfl (some ⟨g1, 0, none⟩) k1 W (HFP.out W hW) (HT.out.below (HB1.out.tr hW))
  have HS1 := hide fun (W : World) (hW : Below w1.heap.size w1 W) => sameM_is l l true (sameM_refl HCK.out) _ _ rfl rfl _ _ k1 k1 W (HFP.out W hW) (HFP.out W hW) (HT.out.below (HB1.out.tr hW))
  have HN1 := hide fun (W : World) (hW : Below w1.heap.size w1 W) => number_own l hl1 HNN.out (some ⟨g1, 0, none⟩) k1 W (HFP.out W hW) (HT.out.below (HB1.out.tr hW))
  clear p1 p2 p3 hp hb1 HM
  have p0 := cell_at (j := 0) HP.out rfl
  have lp := (Array.getElem?_eq_some_iff.1 HP.out).1
  go_wp2_with fail
  (with_reducible refine (HC1.out _ HW.out).mono ?_)
  rintro r w2 ⟨rfl, hb⟩
  have HP := hide ((hb.block _ lp).trans HP.out)
  have HW := hide (HW.out.tr hb)
  clear hb p0 lp
  have p0 := cell_at (j := 0) HP.out rfl
  have lp := (Array.getElem?_eq_some_iff.1 HP.out).1
  go_wp2_with fail
  (with_reducible refine (HS1.out _ HW.out).mono ?_)
  rintro r w3 ⟨rfl, hb⟩
  have HP := hide ((hb.block _ lp).trans HP.out)
  have HW := hide (HW.out.tr hb)
  clear hb p0 lp
  have p0 := cell_at (j := 0) HP.out rfl
  have lp := (Array.getElem?_eq_some_iff.1 HP.out).1
  go_wp2_with fail
  (with_reducible refine (HN1.out _ HW.out).mono ?_)
  rintro r w4 ⟨⟨gq, kq, rfl, hgq, hq⟩, hb⟩
  have HGQ := hide hgq
  have hq1 := hq.out.1
  have hq2 := hq.out.2.1
  have HW3 := hide HW.out
  have hp3 : w1.heap.size < w3.heap.size := lp
  have HB34 := hide hb
  have HP := hide ((hb.block _ lp).trans HP.out)
  have HW := hide (HW.out.tr hb)
  clear hb p0 lp
  have p0 := cell_at (j := 0) HP.out rfl
  have lp := (Array.getElem?_eq_some_iff.1 HP.out).1
  have HQ : Hid ((w4.alloc (.cells #[.slice (some ⟨gq, 0, none⟩) l.length kq] 38)).heap[w4.heap.size]? = some (.cells #[.slice (some ⟨gq, 0, none⟩) l.length kq] 38 (0, 0))) := hide (heap_alloc_new _ _)
  have HPO := hide hq.out
  have HFQ : Hid (∀ W, Below w4.heap.size w4 W → Fns W l (some ⟨gq, 0, none⟩) kq) := hide fun W hW => (hq.out.below hW).fns
  have HW4 := hide HW.out
  have hb := (bl w4).al (.cells #[.slice (some ⟨gq, 0, none⟩) l.length kq] 38)
  have HP := hide ((hb.block _ lp).trans HP.out)
  have HV := hide hb
  have HC2 := hide fun (W : World) (hW : Below w4.heap.size w4 W) => check_is l 0 HCK.out _ rfl (some ⟨gq, 0, none⟩) kq W (HFQ.out W hW) (HT.out.below (HB1.out.tr (HW4.out.tr hW)))
  have HS2 := hide fun (W : World) (hW : Below w4.heap.size w4 W) => sameM_is l l true (sameM_refl HCK.out) _ _ rfl rfl _ _ k1 kq W (HFP.out W (HW4.out.tr hW)) (HFQ.out W hW) (HT.out.below (HB1.out.tr (HW4.out.tr hW)))
  clear hq hb p0 lp hgq HW HN1 HS1 HC1
  have p0 := cell_at (j := 0) HP.out rfl
  have lp := (Array.getElem?_eq_some_iff.1 HP.out).1
  have q0 := cell_at (j := 0) HQ.out rfl
  have lq := (Array.getElem?_eq_some_iff.1 HQ.out).1
  go_wp2_with fail
  (with_reducible refine (HC2.out _ HV.out).mono ?_)
  rintro r w5 ⟨rfl, hb⟩
  have HP := hide ((hb.block _ lp).trans HP.out)
  have HQ := hide ((hb.block _ lq).trans HQ.out)
  have HV := hide (HV.out.tr hb)
  clear hb p0 lp q0 lq
  have p0 := cell_at (j := 0) HP.out rfl
  have lp := (Array.getElem?_eq_some_iff.1 HP.out).1
  have q0 := cell_at (j := 0) HQ.out rfl
  have lq := (Array.getElem?_eq_some_iff.1 HQ.out).1
  go_wp2_with fail
  (with_reducible refine (HS2.out _ HV.out).mono ?_)
  rintro r w6 ⟨rfl, hb⟩
  have HP := hide ((hb.block _ lp).trans HP.out)
  have HQ := hide ((hb.block _ lq).trans HQ.out)
  have HV := hide (HV.out.tr hb)
  clear hb p0 lp q0 lq
  have p0 := cell_at (j := 0) HP.out rfl
  have lp := (Array.getElem?_eq_some_iff.1 HP.out).1
  have q0 := cell_at (j := 0) HQ.out rfl
  have lq := (Array.getElem?_eq_some_iff.1 HQ.out).1
  go_wp2_with fail
  clear HC2 HS2
  clear p0 q0
  go_loopw [42] (fun i wr => ∃ k : Nat, k ≤ l.length ∧ i = .int .i64 k ∧ Hid (Below w6.heap.size w6 wr)) (fun i _ => l.length - (intOf i).toNat)
  case atStart => exact ⟨0, Nat.zero_le _, rfl, bl _⟩
  case round =>
    obtain ⟨k, hk, rfl, HB⟩ := hrel
    have HV2 := hide (HV.out.tr HB.out)
    by_cases hlt : k < l.length
    · obtain ⟨b, o, hao⟩ := (HFQ.out _ HV2.out).addr (by omega)
      simp only [Option.some.injEq, Addr.mk.injEq, and_true] at hao
      obtain ⟨rfl, rfl⟩ := hao
      obtain ⟨pp, pb, cp, cb, c0, c1, c2, c3, c4, hfw, hps, hrow⟩ := (HFQ.out _ HV2.out).at_ _ _ rfl k hlt
      rw [Nat.zero_add] at c0 c1 c2 c3 c4
      have hok := HALL.out _ (List.getElem_mem hlt)
      have HCL := hide (count_law hok.2.1)
      have HCT := hide fun (W : World) (hW : Below wr.heap.size wr W) => count_any _ l[k].body pb cb W (Nat.lt_succ_self _) (by omega) (hrow.has (has_below hW))
      have HFB : Hid ((wr.alloc (.cells #[.string ⟨l[k].name.toArray⟩, .slice pp l[k].params.length cp, .int .i64 l[k].result, .slice pb l[k].body.length cb, .int .i64 l[k].count] 42)).heap[wr.heap.size]? = some (.cells #[.string ⟨l[k].name.toArray⟩, .slice pp l[k].params.length cp, .int .i64 l[k].result, .slice pb l[k].body.length cb, .int .i64 l[k].count] 42 (0, 0))) := hide (heap_alloc_new _ _)
      have hlw := cell_lt c0
      simp only at hlw
      clear hok hfw hps hrow
      go_wp2_with fail
      (with_reducible refine (HCT.out _ ((bl wr).al _)).mono ?_)
      rintro r w7 ⟨⟨ca, cc, rfl, hown⟩, hb7⟩
      have HFB := hide ((hb7.block _ (by simp)).trans HFB.out)
      have HB7 := hide ((HB.out.al (.cells #[.string ⟨l[k].name.toArray⟩, .slice pp l[k].params.length cp, .int .i64 l[k].result, .slice pb l[k].body.length cb, .int .i64 l[k].count] 42)).tr hb7)
      have z4 := cell_at (j := 4) HFB.out rfl
      have lz := (Array.getElem?_eq_some_iff.1 HFB.out).1
      rw [HCL.out.1] at z4
      have HOW := hide hown.out
      have hnl : (nosL l[k].body).length ≤ 9223372036854775807 := by
        have h1 : (nosL l[k].body).length = cntL l[k].body := nosL_len _
        have h2 := (HALL.out _ (List.getElem_mem hlt)).2.2.1
        omega
      clear hown hb7 c0 c1 c2 c3 c4
      go_wp2_with fail
      go_loopw [51] (fun i wr => ∃ n : Nat, n ≤ (nosL l[k].body).length ∧ i = .int .i64 n ∧ w7 = wr) (fun i _ => (nosL l[k].body).length - (intOf i).toNat)
      case atStart => exact ⟨0, Nat.zero_le _, rfl, rfl⟩
      case round =>
        obtain ⟨n, hn, rfl, rfl⟩ := hrel
        by_cases hnt : n < (nosL l[k].body).length
        · rcases HOW.out.form with ⟨_, h0⟩ | ⟨gi, ci, hv, _, hgi, _, _⟩
          · rw [h0] at hnt
            exact absurd hnt (Nat.not_lt_zero _)
          · simp only [Value.slice.injEq] at hv
            obtain ⟨rfl, _, _⟩ := hv
            obtain ⟨_, _, cN, hcN, _, _, hcell⟩ := HOW.out.get IntC.mono rfl n hnt
            have hcn := hcell 0 (.int .i64 (n : Int)) (by rw [show cN = [.int .i64 (nosL l[k].body)[n]] from hcN, HCL.out.2 n hnt]; rfl)
            rw [Nat.mul_one, Nat.add_zero] at hcn
            have hne : ((n : Int) != (n : Int)) = false := by simp
            clear hcell hcN
            go_wp2_with fail
            go_roundw
            case rel => exact ⟨n + 1, by omega, by go_num, trivial⟩
            case measure => simp [intOf]; omega
        · obtain rfl : n = (nosL l[k].body).length := by omega
          have hne : (((nosL l[k].body).length : Int) != ((nosL l[k].body).length : Int)) = false := by simp
          go_wp2_with fail
          go_roundw
          case rel => exact ⟨k + 1, by omega, by go_num, HB7.out⟩
          case measure => simp [intOf]; omega
    · have HP := hide ((HB.out.block _ lp).trans HP.out)
      have HQ := hide ((HB.out.block _ lq).trans HQ.out)
      clear lp lq
      have p0 := cell_at (j := 0) HP.out rfl
      have lp := (Array.getElem?_eq_some_iff.1 HP.out).1
      have q0 := cell_at (j := 0) HQ.out rfl
      have lq := (Array.getElem?_eq_some_iff.1 HQ.out).1
      obtain ⟨j, hj⟩ : ∃ j, which % l.length = j := ⟨_, rfl⟩
      have hjl : j < l.length := by rw [← hj]; exact Nat.mod_lt _ hl1
      have hjt : ((which : Nat) : Int).tmod ((l.length : Nat) : Int) = (j : Int) := by rw [← hj]; exact (Int.ofNat_tmod _ _).symm
      have hlz : (((l.length : Nat) : Int) == 0) = false := by rw [beq_eq_false_iff_ne]; omega
      have hj1 : (0 : Int) ≤ (j : Int) := by omega
      have hj2 : (j : Int) < (l.length : Int) := by omega
      have HJ := hide hj
      clear hj
      go_wp2_with fail
      go_quiet (fail)
      have hB6 := below_dq (bl wr) nq
      have HV8 := hide (HV2.out.tr hB6)
      have HP := hide ((hB6.block _ lp).trans HP.out)
      have HQ := hide ((hB6.block _ lq).trans HQ.out)
      clear p0 q0 lp lq HV2 HB HV
      generalize wr.drewN nq = w8 at *
      clear hB6 hjt hlz hj1 hj2
      have HPO8 := hide (HPO.out.below HV8.out)
      have hok := HALL.out _ (List.getElem_mem hjl)
      obtain ⟨gb0, cb0, m0, hgqs⟩ : ∃ (pb : Option Addr) (cb : Nat), w8.cell? ⟨gq, j * 5 + 3, none⟩ = some (.slice pb l[j].body.length cb) ∧ gq < w8.heap.size := by
        obtain ⟨pp, pb, cp, cb, _, _, _, c3, _⟩ := (HPO8.out.fns).at_ _ _ rfl j hjl
        rw [Nat.zero_add] at c3
        exact ⟨pb, cb, c3, by have := cell_lt c3; exact this⟩
      have hnb : l[j].body.length ≤ 200 := by have h1 := len_cnt l[j].body; have h2 := hok.2.2.1; omega
      by_cases hA : (200 : Int) ≤ (how : Int)
      · by_cases hA2 : (0 : Int) < (l[j].body.length : Int)
        · obtain ⟨k, hkk⟩ : ∃ k, how % l[j].body.length = k := ⟨_, rfl⟩
          have hkl : k < l[j].body.length := by rw [← hkk]; exact Nat.mod_lt _ (by omega)
          have hkt : ((how : Nat) : Int).tmod ((l[j].body.length : Nat) : Int) = (k : Int) := by rw [← hkk]; exact (Int.ofNat_tmod _ _).symm
          have hkz : (((l[j].body.length : Nat) : Int) == 0) = false := by rw [beq_eq_false_iff_ne]; omega
          have hk1 : (0 : Int) ≤ (k : Int) := by omega
          have hk2 : (k : Int) < (l[j].body.length : Int) := by omega
          have hnob := no_bound hok.2.1 (by omega) k hkl
          have hset := HPO8.out.setNo j hjl k hkl (l[j].body[k].no + (1 + (how : Int) % 100)) (by unfold I64; omega)
          obtain ⟨gb, cb, e3, hgb, e1, f1, hgl, hfs⟩ := hset
          obtain ⟨gb', cb', e3', _, _, _, hgl4, _⟩ := HPO.out.setNo j hjl k hkl 0 (by unfold I64; omega)
          have e3'' := cell_keep e3' HV8.out (Nat.le_refl _)
          rw [e3] at e3''
          simp only [Option.some.injEq, Value.slice.injEq, Addr.mk.injEq, and_true, true_and] at e3''
          obtain ⟨rfl, _⟩ := e3''
          clear e3'
          rw [e3] at m0
          simp only [Option.some.injEq, Value.slice.injEq, and_true] at m0
          have hwr : IntKind.i64.wrap (l[j].body[k].no + (1 + (how : Int) % 100)) = l[j].body[k].no + (1 + (how : Int) % 100) := IntWalk.i64_in _ (by omega)
          have HFS := hide hfs
          have HGB := hide hgb
          have HLW := hide (spoilNo_laws hkl (n := l[j].body[k].no + (1 + (how : Int) % 100)) (by omega) hok.1 hok.2.1)
          have hd0 : decide (0 < l[j].body.length) = true := decide_eq_true (by omega)
          have hch : (0 : Int) ≤ 1 + (how : Int) % 100 := by omega
          have hch2 : 1 + (how : Int) % 100 ≤ 100 := by omega
          clear hfs hgb hkk hok m0
          go_wp2_with fail
          have HGN := hide (⟨by omega, by omega⟩ : gb ≠ w1.heap.size ∧ gb ≠ w4.heap.size)
          obtain ⟨f', hf'⟩ : ∃ f' : Fn, f' = spoilNo l[j] k (l[j].body[k].no + (1 + (how : Int) % 100)) := ⟨_, rfl⟩
          rw [← hf'] at HFS HLW
          clear hf' hgl4
          go_region
          all_goals
            have hK : Kept [gb] w8 ((w8.setCell ⟨gb, k * 8 + 1, none⟩ (.int .i64 (l[j].body[k].no + (1 + (how : Int) % 100)))).drew) := ((Kept.refl [gb] w8).set (.inl (by simp)) _ _).dr
            have HP := hide (hK.heap (by simp; exact fun e => HGN.out.1 e.symm) HP.out)
            have HQ := hide (hK.heap (by simp; exact fun e => HGN.out.2 e.symm) HQ.out)
            have HFS := hide (HFS.out.has (w' := (w8.setCell ⟨gb, k * 8 + 1, none⟩ (.int .i64 (l[j].body[k].no + (1 + (how : Int) % 100)))).drew) (fun _ _ _ h => h))
            have HWS := hide (((HW4.out.tr HV8.out).setCell (p := ⟨gb, k * 8 + 1, none⟩) (by have := HGB.out; have := HW3.out.size; simp only; omega) (.int .i64 (l[j].body[k].no + (1 + (how : Int) % 100)))).dr)
            clear hK e1 e3 f1 hwr
            generalize (w8.setCell ⟨gb, k * 8 + 1, none⟩ (.int .i64 (l[j].body[k].no + (1 + (how : Int) % 100)))).drew = WS at *
            have q0 := cell_at (j := 0) HQ.out rfl
            have lq := (Array.getElem?_eq_some_iff.1 HQ.out).1
            go_wp2_with fail
            clear q0 lq
            obtain ⟨h1, h2, h3, h4⟩ := HLW.out
            have HSL := hide (spoilt_laws HCK.out hjl h1 h2 h3)
            have hl2 : (l.set j f').length = l.length := List.length_set ..
            have HEQ : Hid (∀ (i : Nat) (h : i < l.length) (h' : i < (l.set j f').length), eqF l[i] (l.set j f')[i] = true) := hide fun i h h' => by
              by_cases e : j = i
              · subst e
                rw [List.getElem_set_self]
                exact h4
              · rw [List.getElem_set_ne e]
                exact eqF_refl (HALL.out _ (List.getElem_mem h)).1
            generalize l.set j f' = l2 at *
            have HL2 := hide hl2
            clear h1 h2 h3 h4 HLW hl2
            have HV9 := hide (bl WS)
            go_loopw [16, 119] (fun _ x wr => ∃ i : Nat, i ≤ l.length ∧ x = .int .i64 i ∧ Hid (Below WS.heap.size WS wr)) (fun _ x _ => l.length - (intOf x).toNat)
            case atStart => exact ⟨0, Nat.zero_le _, rfl, bl _⟩
            case round =>
              obtain ⟨i, hi, rfl, HB⟩ := hrel
              have HP := hide ((HB.out.block _ (Array.getElem?_eq_some_iff.1 HP.out).1).trans HP.out)
              have HQ := hide ((HB.out.block _ (Array.getElem?_eq_some_iff.1 HQ.out).1).trans HQ.out)
              have HW9 := hide (HWS.out.tr HB.out)
              by_cases hit : i < l.length
              · have hit2 : i < l2.length := by rw [HL2.out]; exact hit
                obtain ⟨pp, pb, cp, cb, c0, c1, c2, c3, c4, hfw, hps, hrow⟩ := (HFP.out _ HW9.out).at_ _ _ rfl i hit
                obtain ⟨pp2, pb2, cp2, cb2, d0, d1, d2, d3, d4, hfw2, hps2, hrow2⟩ := (HFS.out.keep HB.out (Nat.le_refl _)).at_ _ _ rfl i hit2
                rw [Nat.zero_add] at c0 c1 c2 c3 c4 d0 d1 d2 d3 d4
                have HSF := hide fun (W : World) (hW : Below wr.heap.size wr W) => sameF_is l[i] l2[i] true (HEQ.out i hit hit2) _ _ W (⟨pp, pb, cp, cb, rfl, hfw, hps.has (has_below hW), hrow.has (has_below hW)⟩ : Fn.Val W l[i] _) (⟨pp2, pb2, cp2, cb2, rfl, hfw2, hps2.has (has_below hW), hrow2.has (has_below hW)⟩ : Fn.Val W l2[i] _) (HT.out.below (HB1.out.tr (HW9.out.tr hW)))
                have p0 := cell_at (j := 0) HP.out rfl
                have q0 := cell_at (j := 0) HQ.out rfl
                have hi0 : (0 : Int) ≤ (i : Int) := by omega
                have hi1 : (i : Int) < (l.length : Int) := by omega
                have hB := (bl wr).dr
                clear hfw hps hrow hfw2 hps2 hrow2
                go_wp2_with fail
                go_region_held3 (fun w' => w'.cell? ⟨w1.heap.size, 0, none⟩ = some (.slice (some ⟨g1, 0, none⟩) l.length k1) ∧ w'.cell? ⟨w4.heap.size, 0, none⟩ = some (.slice (some ⟨gq, 0, none⟩) l.length kq) ∧ w'.cell? ⟨g1, i * 5, none⟩ = some (.string ⟨l[i].name.toArray⟩) ∧ w'.cell? ⟨g1, i * 5 + 1, none⟩ = some (.slice pp l[i].params.length cp) ∧ w'.cell? ⟨g1, i * 5 + 2, none⟩ = some (.int .i64 l[i].result) ∧ w'.cell? ⟨g1, i * 5 + 3, none⟩ = some (.slice pb l[i].body.length cb) ∧ w'.cell? ⟨g1, i * 5 + 4, none⟩ = some (.int .i64 l[i].count) ∧
  w'.cell? ⟨gq, i * 5, none⟩ = some (.string ⟨l2[i].name.toArray⟩) ∧ w'.cell? ⟨gq, i * 5 + 1, none⟩ = some (.slice pp2 l2[i].params.length cp2) ∧ w'.cell? ⟨gq, i * 5 + 2, none⟩ = some (.int .i64 l2[i].result) ∧ w'.cell? ⟨gq, i * 5 + 3, none⟩ = some (.slice pb2 l2[i].body.length cb2) ∧ w'.cell? ⟨gq, i * 5 + 4, none⟩ = some (.int .i64 l2[i].count))
                  (first | exact ⟨cell_keep p0 hB (Nat.le_refl _), cell_keep q0 hB (Nat.le_refl _), cell_keep c0 hB (Nat.le_refl _), cell_keep c1 hB (Nat.le_refl _), cell_keep c2 hB (Nat.le_refl _), cell_keep c3 hB (Nat.le_refl _), cell_keep c4 hB (Nat.le_refl _), cell_keep d0 hB (Nat.le_refl _), cell_keep d1 hB (Nat.le_refl _), cell_keep d2 hB (Nat.le_refl _), cell_keep d3 hB (Nat.le_refl _), cell_keep d4 hB (Nat.le_refl _)⟩ | go_keep)
                  (first | (go_at_call 23; (with_reducible refine (HSF.out _ hB).mono ?_); rintro r w10 ⟨rfl, hb⟩; have hB := hB.tr hb; clear hb))
                all_goals
                  have HBB := hide (HB.out.tr hB)
                  go_wp2_with fail
                  go_roundw
                  case rel => exact ⟨i + 1, by omega, by go_num, HBB.out⟩
                  case measure => simp [intOf]; omega
              · have p0 := cell_at (j := 0) HP.out rfl
                have q0 := cell_at (j := 0) HQ.out rfl
                have hB := (bl wr).dr
                have HSLo := HSL.out
                have HCK2 := hide fun (W : World) (hW : Below wr.heap.size wr W) => check_is l2 2 HSLo.1 _ HL2.out (some ⟨gq, 0, none⟩) kq W (HFS.out.has (has_below (HB.out.tr hW))) (HT.out.below (HB1.out.tr (HW9.out.tr hW)))
                have HSM2 := hide fun (W : World) (hW : Below wr.heap.size wr W) => sameM_is l l2 false HSLo.2.1 _ _ rfl HL2.out _ _ k1 kq W (HFP.out W (HW9.out.tr hW)) (HFS.out.has (has_below (HB.out.tr hW))) (HT.out.below (HB1.out.tr (HW9.out.tr hW)))
                have HNM2 := hide fun (W : World) (hW : Below wr.heap.size wr W) => number_fns l2 l HSLo.2.2 _ HL2.out (some ⟨gq, 0, none⟩) kq W (HFS.out.has (has_below (HB.out.tr hW))) (HT.out.below (HB1.out.tr (HW9.out.tr hW)))
                have HSM3 := hide fun (W : World) (a : Option Addr) (c : Nat) (hF : Fns W l a c) (hW : Below wr.heap.size wr W) => sameM_is l l true (sameM_refl HCK.out) _ _ rfl rfl a (some ⟨g1, 0, none⟩) c k1 W hF (HFP.out W (HW9.out.tr hW)) (HT.out.below (HB1.out.tr (HW9.out.tr hW)))
                have HWK := hide fun (W : World) (hW : Below wr.heap.size wr W) => works_any W (HT.out.below (HB1.out.tr (HW9.out.tr hW)))
                clear HSLo
                go_wp2_with fail
                refine wp_region_held_drew (S := (fun w' => w'.cell? ⟨w1.heap.size, 0, none⟩ = some (.slice (some ⟨g1, 0, none⟩) l.length k1) ∧ w'.cell? ⟨w4.heap.size, 0, none⟩ = some (.slice (some ⟨gq, 0, none⟩) l.length kq))) (by kernel_rfl) ?_ (fun hHeld => ?_)
                · ((try dsimp only); first | done | exact ⟨cell_keep p0 hB (Nat.le_refl _), cell_keep q0 hB (Nat.le_refl _)⟩)
                refine wpAnyH_take (i := 0) (v := ?_) (by simp only [List.getElem?_toArray, List.getElem?_cons_succ, List.getElem?_cons_zero]; rfl) (by kernel_rfl) (by kernel_rfl) (by kernel_rfl) (by exact fun _ _ _ h => h) (Or.inl ⟨by rfl, ?_⟩) (by assumption) ?_
                rotate_left 1
                · ((intro w hSw; (try dsimp only at hSw); go_simp) <;> with_reducible rfl)
                try simp only [Act.put, List.setIfInBounds_toArray, List.set_cons_zero, List.set_cons_succ]
                refine wpAnyH_ready (rs := [1]) (by kernel_rfl) (by simp) ?_
                refine AllReadyH.cons rfl (fun K hK => ?_) AllReadyH.nil
                go_simp
                (go_at_call 19; (with_reducible refine (HCK2.out _ hB).mono ?_); rintro r w10 ⟨rfl, hb⟩; have hB := hB.tr hb; clear hb)
                try go_wp2_with fail
                refine hK.out _ _ ?_ (fun hHeld => ?_)
                · ((try dsimp only); first | done | exact ⟨cell_keep p0 hB (Nat.le_refl _), cell_keep q0 hB (Nat.le_refl _)⟩)
                clear hK K
                try simp only [Act.put, List.setIfInBounds_toArray, List.set_cons_zero, List.set_cons_succ]
                refine wpAnyH_take (i := 2) (v := ?_) (by simp only [List.getElem?_toArray, List.getElem?_cons_succ, List.getElem?_cons_zero]; rfl) (by kernel_rfl) (by kernel_rfl) (by kernel_rfl) (by exact fun _ _ _ h => h) (Or.inl ⟨by rfl, ?_⟩) (by assumption) ?_
                rotate_left 1
                · ((intro w hSw; (try dsimp only at hSw); go_simp) <;> with_reducible rfl)
                try simp only [Act.put, List.setIfInBounds_toArray, List.set_cons_zero, List.set_cons_succ]
                refine wpAnyH_take (i := 3) (v := ?_) (by simp only [List.getElem?_toArray, List.getElem?_cons_succ, List.getElem?_cons_zero]; rfl) (by kernel_rfl) (by kernel_rfl) (by kernel_rfl) (by exact fun _ _ _ h => h) (Or.inl ⟨by rfl, ?_⟩) (by assumption) ?_
                rotate_left 1
                · ((intro w hSw; (try dsimp only at hSw); go_simp) <;> with_reducible rfl)
                try simp only [Act.put, List.setIfInBounds_toArray, List.set_cons_zero, List.set_cons_succ]
                refine wpAnyH_take (i := 4) (v := ?_) (by simp only [List.getElem?_toArray, List.getElem?_cons_succ, List.getElem?_cons_zero]; rfl) (by kernel_rfl) (by kernel_rfl) (by kernel_rfl) (by exact fun _ _ _ h => h) (Or.inl ⟨by rfl, ?_⟩) (by assumption) ?_
                rotate_left 1
                · ((intro w hSw; (try dsimp only at hSw); go_simp) <;> with_reducible rfl)
                try simp only [Act.put, List.setIfInBounds_toArray, List.set_cons_zero, List.set_cons_succ]
                refine wpAnyH_take (i := 5) (v := ?_) (by simp only [List.getElem?_toArray, List.getElem?_cons_succ, List.getElem?_cons_zero]; rfl) (by kernel_rfl) (by kernel_rfl) (by kernel_rfl) (by exact fun _ _ _ h => h) (Or.inl ⟨by rfl, ?_⟩) (by assumption) ?_
                rotate_left 1
                · ((intro w hSw; (try dsimp only at hSw); go_simp) <;> with_reducible rfl)
                try simp only [Act.put, List.setIfInBounds_toArray, List.set_cons_zero, List.set_cons_succ]
                refine wpAnyH_ready (rs := [6]) (by kernel_rfl) (by simp) ?_
                refine AllReadyH.cons rfl (fun K hK => ?_) AllReadyH.nil
                go_simp
                (go_at_call 21; (with_reducible refine (HSM2.out _ hB).mono ?_); rintro r w11 ⟨rfl, hb⟩; have hB := hB.tr hb; clear hb)
                try go_wp2_with fail
                refine hK.out _ _ ?_ (fun hHeld => ?_)
                · ((try dsimp only); first | done | exact ⟨cell_keep p0 hB (Nat.le_refl _), cell_keep q0 hB (Nat.le_refl _)⟩)
                clear hK K
                try simp only [Act.put, List.setIfInBounds_toArray, List.set_cons_zero, List.set_cons_succ]
                refine wpAnyH_take (i := 7) (v := ?_) (by simp only [List.getElem?_toArray, List.getElem?_cons_succ, List.getElem?_cons_zero]; rfl) (by kernel_rfl) (by kernel_rfl) (by kernel_rfl) (by exact fun _ _ _ h => h) (Or.inl ⟨by rfl, ?_⟩) (by assumption) ?_
                rotate_left 1
                · ((intro w hSw; (try dsimp only at hSw); go_simp) <;> with_reducible rfl)
                try simp only [Act.put, List.setIfInBounds_toArray, List.set_cons_zero, List.set_cons_succ]
                refine wpAnyH_take (i := 8) (v := ?_) (by simp only [List.getElem?_toArray, List.getElem?_cons_succ, List.getElem?_cons_zero]; rfl) (by kernel_rfl) (by kernel_rfl) (by kernel_rfl) (by exact fun _ _ _ h => h) (Or.inl ⟨by rfl, ?_⟩) (by assumption) ?_
                rotate_left 1
                · ((intro w hSw; (try dsimp only at hSw); go_simp) <;> with_reducible rfl)
                try simp only [Act.put, List.setIfInBounds_toArray, List.set_cons_zero, List.set_cons_succ]
                refine wpAnyH_take (i := 9) (v := ?_) (by simp only [List.getElem?_toArray, List.getElem?_cons_succ, List.getElem?_cons_zero]; rfl) (by kernel_rfl) (by kernel_rfl) (by kernel_rfl) (by exact fun _ _ _ h => h) (Or.inl ⟨by rfl, ?_⟩) (by assumption) ?_
                rotate_left 1
                · ((intro w hSw; (try dsimp only at hSw); go_simp) <;> with_reducible rfl)
                try simp only [Act.put, List.setIfInBounds_toArray, List.set_cons_zero, List.set_cons_succ]
                refine wpAnyH_take (i := 10) (v := ?_) (by simp only [List.getElem?_toArray, List.getElem?_cons_succ, List.getElem?_cons_zero]; rfl) (by kernel_rfl) (by kernel_rfl) (by kernel_rfl) (by exact fun _ _ _ h => h) (Or.inl ⟨by rfl, ?_⟩) (by assumption) ?_
                rotate_left 1
                · ((intro w hSw; (try dsimp only at hSw); go_simp) <;> with_reducible rfl)
                try simp only [Act.put, List.setIfInBounds_toArray, List.set_cons_zero, List.set_cons_succ]
                refine wpAnyH_take (i := 12) (v := ?_) (by simp only [List.getElem?_toArray, List.getElem?_cons_succ, List.getElem?_cons_zero]; rfl) (by kernel_rfl) (by kernel_rfl) (by kernel_rfl) (by exact fun _ _ _ h => h) (Or.inl ⟨by rfl, ?_⟩) (by assumption) ?_
                rotate_left 1
                · ((intro w hSw; (try dsimp only at hSw); go_simp) <;> with_reducible rfl)
                try simp only [Act.put, List.setIfInBounds_toArray, List.set_cons_zero, List.set_cons_succ]
                refine wpAnyH_ready (rs := [11]) (by kernel_rfl) (by simp) ?_
                refine AllReadyH.cons rfl (fun K hK => ?_) AllReadyH.nil
                go_simp
                (go_at_call 17; (with_reducible refine (HNM2.out _ hB).mono ?_); rintro r w12 ⟨⟨a6, k6, rfl, hf6⟩, hb⟩; have HF6 := hide hf6.out; have hB := hB.tr hb; clear hb hf6)
                try go_wp2_with fail
                refine hK.out _ _ ?_ (fun hHeld => ?_)
                · ((try dsimp only); first | done | exact ⟨cell_keep p0 hB (Nat.le_refl _), cell_keep q0 hB (Nat.le_refl _)⟩)
                clear hK K
                try simp only [Act.put, List.setIfInBounds_toArray, List.set_cons_zero, List.set_cons_succ]
                refine wpAnyH_ready (rs := [13]) (by kernel_rfl) (by simp) ?_
                refine AllReadyH.cons rfl (fun K hK => ?_) AllReadyH.nil
                go_simp
                (go_at_call 21; (with_reducible refine (HSM3.out _ _ _ HF6.out hB).mono ?_); rintro r w13 ⟨rfl, hb⟩; have hB := hB.tr hb; clear hb)
                try go_wp2_with fail
                refine hK.out _ _ ?_ (fun hHeld => ?_)
                · ((try dsimp only); first | done | exact ⟨cell_keep p0 hB (Nat.le_refl _), cell_keep q0 hB (Nat.le_refl _)⟩)
                clear hK K
                try simp only [Act.put, List.setIfInBounds_toArray, List.set_cons_zero, List.set_cons_succ]
                refine wpAnyH_take (i := 14) (v := ?_) (by simp only [List.getElem?_toArray, List.getElem?_cons_succ, List.getElem?_cons_zero]; rfl) (by kernel_rfl) (by kernel_rfl) (by kernel_rfl) (by exact fun _ _ _ h => h) (Or.inl ⟨by rfl, ?_⟩) (by assumption) ?_
                rotate_left 1
                · ((intro w hSw; (try dsimp only at hSw); go_simp) <;> with_reducible rfl)
                try simp only [Act.put, List.setIfInBounds_toArray, List.set_cons_zero, List.set_cons_succ]
                refine wpAnyH_take (i := 15) (v := ?_) (by simp only [List.getElem?_toArray, List.getElem?_cons_succ, List.getElem?_cons_zero]; rfl) (by kernel_rfl) (by kernel_rfl) (by kernel_rfl) (by exact fun _ _ _ h => h) (Or.inl ⟨by rfl, ?_⟩) (by assumption) ?_
                rotate_left 1
                · ((intro w hSw; (try dsimp only at hSw); go_simp) <;> with_reducible rfl)
                try simp only [Act.put, List.setIfInBounds_toArray, List.set_cons_zero, List.set_cons_succ]
                refine wpAnyH_ready (rs := [16]) (by kernel_rfl) (by simp) ?_
                refine AllReadyH.cons rfl (fun K hK => ?_) AllReadyH.nil
                go_simp
                (go_at_call 15; (with_reducible refine (HWK.out _ hB).mono ?_); rintro r w14 ⟨rfl, hb⟩; have hB := hB.tr hb; clear hb)
                try go_wp2_with fail
                refine hK.out _ _ ?_ (fun hHeld => ?_)
                · ((try dsimp only); first | done | exact ⟨cell_keep p0 hB (Nat.le_refl _), cell_keep q0 hB (Nat.le_refl _)⟩)
                clear hK K
                try simp only [Act.put, List.setIfInBounds_toArray, List.set_cons_zero, List.set_cons_succ]
                refine wpAnyH_take (i := 17) (v := ?_) (by simp only [List.getElem?_toArray, List.getElem?_cons_succ, List.getElem?_cons_zero]; rfl) (by kernel_rfl) (by kernel_rfl) (by kernel_rfl) (by exact fun _ _ _ h => h) (Or.inl ⟨by rfl, ?_⟩) (by assumption) ?_
                rotate_left 1
                · ((intro w hSw; (try dsimp only at hSw); go_simp) <;> with_reducible rfl)
                try simp only [Act.put, List.setIfInBounds_toArray, List.set_cons_zero, List.set_cons_succ]
                refine wpAnyH_take (i := 18) (v := ?_) (by simp only [List.getElem?_toArray, List.getElem?_cons_succ, List.getElem?_cons_zero]; rfl) (by kernel_rfl) (by kernel_rfl) (by kernel_rfl) (by exact fun _ _ _ h => h) (Or.inl ⟨by rfl, ?_⟩) (by assumption) ?_
                rotate_left 1
                · ((intro w hSw; (try dsimp only at hSw); go_simp) <;> with_reducible rfl)
                try simp only [Act.put, List.setIfInBounds_toArray, List.set_cons_zero, List.set_cons_succ]
                refine wpAnyH_done (by kernel_rfl) ?_ _
                go_wp2_with fail
                go_ret
                exact ⟨rfl, HB1.out.tr (HW9.out.tr hB)⟩
        · have hgq4 := (HPO.out.setCount j hjl 0 (by unfold I64; omega)).2.2.2.1
          have hsc := HPO8.out.setCount j hjl (l[j].count + (1 + (how : Int) % 100)) (by have := (count_law hok.2.1).1; have h3 : (nosL l[j].body).length = cntL l[j].body := nosL_len _; have := hok.2.2.1; unfold I64; omega)
          obtain ⟨e1, f1, hgb, _, hfs⟩ := hsc
          have hcn : l[j].count = ((nosL l[j].body).length : Nat) := (count_law hok.2.1).1
          have hc3 : (nosL l[j].body).length ≤ 200 := by have h3 : (nosL l[j].body).length = cntL l[j].body := nosL_len _; have := hok.2.2.1; omega
          have HFS := hide hfs
          have HGB := hide hgb
          have HLW := hide (spoilCount_laws (f := l[j]) (c := l[j].count + (1 + (how : Int) % 100)) (by omega) hok.1 hok.2.1)
          have hch : (0 : Int) ≤ 1 + (how : Int) % 100 := by omega
          have hch2 : 1 + (how : Int) % 100 ≤ 100 := by omega
          have hc0 : (0 : Int) ≤ l[j].count := by omega
          have hc1 : l[j].count ≤ 200 := by omega
          clear hfs hgb hok hcn hc3
          have hg3 := HGQ.out
          have HGN := hide (⟨by omega, by omega⟩ : gq ≠ w1.heap.size ∧ gq ≠ w4.heap.size)
          obtain ⟨f', hf'⟩ : ∃ f' : Fn, f' = { l[j] with count := l[j].count + (1 + (how : Int) % 100) } := ⟨_, rfl⟩
          rw [← hf'] at HFS HLW
          clear hf'
          have hK : Kept [gq] w8 (w8.setCell ⟨gq, j * 5 + 4, none⟩ (.int .i64 (l[j].count + (1 + (how : Int) % 100)))) := (Kept.refl [gq] w8).set (.inl (by simp)) _ _
          have HP := hide (hK.heap (by simp; exact fun e => HGN.out.1 e.symm) HP.out)
          have HQ := hide (hK.heap (by simp; exact fun e => HGN.out.2 e.symm) HQ.out)
          have HWS := hide ((HW4.out.tr HV8.out).setCell (p := ⟨gq, j * 5 + 4, none⟩) (by have := HGB.out; have := HW3.out.size; simp only; omega) (.int .i64 (l[j].count + (1 + (how : Int) % 100))))
          have q0 := cell_at (j := 0) HQ.out rfl
          have lq := (Array.getElem?_eq_some_iff.1 HQ.out).1
          clear hK
          go_wp2_with fail
          clear e1 f1 q0 lq
          generalize w8.setCell ⟨gq, j * 5 + 4, none⟩ (.int .i64 (l[j].count + (1 + (how : Int) % 100))) = WS at *
          obtain ⟨h1, h2, h3, h4⟩ := HLW.out
          have HSL := hide (spoilt_laws HCK.out hjl h1 h2 h3)
          have hl2 : (l.set j f').length = l.length := List.length_set ..
          have HEQ : Hid (∀ (i : Nat) (h : i < l.length) (h' : i < (l.set j f').length), eqF l[i] (l.set j f')[i] = true) := hide fun i h h' => by
            by_cases e : j = i
            · subst e
              rw [List.getElem_set_self]
              exact h4
            · rw [List.getElem_set_ne e]
              exact eqF_refl (HALL.out _ (List.getElem_mem h)).1
          generalize l.set j f' = l2 at *
          have HL2 := hide hl2
          clear h1 h2 h3 h4 HLW hl2
          have HV9 := hide (bl WS)
          go_loopw [16, 119] (fun _ x wr => ∃ i : Nat, i ≤ l.length ∧ x = .int .i64 i ∧ Hid (Below WS.heap.size WS wr)) (fun _ x _ => l.length - (intOf x).toNat)
          case atStart => exact ⟨0, Nat.zero_le _, rfl, bl _⟩
          case round =>
            obtain ⟨i, hi, rfl, HB⟩ := hrel
            have HP := hide ((HB.out.block _ (Array.getElem?_eq_some_iff.1 HP.out).1).trans HP.out)
            have HQ := hide ((HB.out.block _ (Array.getElem?_eq_some_iff.1 HQ.out).1).trans HQ.out)
            have HW9 := hide (HWS.out.tr HB.out)
            by_cases hit : i < l.length
            · have hit2 : i < l2.length := by rw [HL2.out]; exact hit
              obtain ⟨pp, pb, cp, cb, c0, c1, c2, c3, c4, hfw, hps, hrow⟩ := (HFP.out _ HW9.out).at_ _ _ rfl i hit
              obtain ⟨pp2, pb2, cp2, cb2, d0, d1, d2, d3, d4, hfw2, hps2, hrow2⟩ := (HFS.out.keep HB.out (Nat.le_refl _)).at_ _ _ rfl i hit2
              rw [Nat.zero_add] at c0 c1 c2 c3 c4 d0 d1 d2 d3 d4
              have HSF := hide fun (W : World) (hW : Below wr.heap.size wr W) => sameF_is l[i] l2[i] true (HEQ.out i hit hit2) _ _ W (⟨pp, pb, cp, cb, rfl, hfw, hps.has (has_below hW), hrow.has (has_below hW)⟩ : Fn.Val W l[i] _) (⟨pp2, pb2, cp2, cb2, rfl, hfw2, hps2.has (has_below hW), hrow2.has (has_below hW)⟩ : Fn.Val W l2[i] _) (HT.out.below (HB1.out.tr (HW9.out.tr hW)))
              have p0 := cell_at (j := 0) HP.out rfl
              have q0 := cell_at (j := 0) HQ.out rfl
              have hi0 : (0 : Int) ≤ (i : Int) := by omega
              have hi1 : (i : Int) < (l.length : Int) := by omega
              have hB := (bl wr).dr
              clear hfw hps hrow hfw2 hps2 hrow2
              go_wp2_with fail
              go_region_held3 (fun w' => w'.cell? ⟨w1.heap.size, 0, none⟩ = some (.slice (some ⟨g1, 0, none⟩) l.length k1) ∧ w'.cell? ⟨w4.heap.size, 0, none⟩ = some (.slice (some ⟨gq, 0, none⟩) l.length kq) ∧ w'.cell? ⟨g1, i * 5, none⟩ = some (.string ⟨l[i].name.toArray⟩) ∧ w'.cell? ⟨g1, i * 5 + 1, none⟩ = some (.slice pp l[i].params.length cp) ∧ w'.cell? ⟨g1, i * 5 + 2, none⟩ = some (.int .i64 l[i].result) ∧ w'.cell? ⟨g1, i * 5 + 3, none⟩ = some (.slice pb l[i].body.length cb) ∧ w'.cell? ⟨g1, i * 5 + 4, none⟩ = some (.int .i64 l[i].count) ∧
  w'.cell? ⟨gq, i * 5, none⟩ = some (.string ⟨l2[i].name.toArray⟩) ∧ w'.cell? ⟨gq, i * 5 + 1, none⟩ = some (.slice pp2 l2[i].params.length cp2) ∧ w'.cell? ⟨gq, i * 5 + 2, none⟩ = some (.int .i64 l2[i].result) ∧ w'.cell? ⟨gq, i * 5 + 3, none⟩ = some (.slice pb2 l2[i].body.length cb2) ∧ w'.cell? ⟨gq, i * 5 + 4, none⟩ = some (.int .i64 l2[i].count))
                (first | exact ⟨cell_keep p0 hB (Nat.le_refl _), cell_keep q0 hB (Nat.le_refl _), cell_keep c0 hB (Nat.le_refl _), cell_keep c1 hB (Nat.le_refl _), cell_keep c2 hB (Nat.le_refl _), cell_keep c3 hB (Nat.le_refl _), cell_keep c4 hB (Nat.le_refl _), cell_keep d0 hB (Nat.le_refl _), cell_keep d1 hB (Nat.le_refl _), cell_keep d2 hB (Nat.le_refl _), cell_keep d3 hB (Nat.le_refl _), cell_keep d4 hB (Nat.le_refl _)⟩ | go_keep)
                (first | (go_at_call 23; (with_reducible refine (HSF.out _ hB).mono ?_); rintro r w10 ⟨rfl, hb⟩; have hB := hB.tr hb; clear hb))
              all_goals
                have HBB := hide (HB.out.tr hB)
                go_wp2_with fail
                go_roundw
                case rel => exact ⟨i + 1, by omega, by go_num, HBB.out⟩
                case measure => simp [intOf]; omega
            · have p0 := cell_at (j := 0) HP.out rfl
              have q0 := cell_at (j := 0) HQ.out rfl
              have hB := (bl wr).dr
              have HSLo := HSL.out
              have HCK2 := hide fun (W : World) (hW : Below wr.heap.size wr W) => check_is l2 2 HSLo.1 _ HL2.out (some ⟨gq, 0, none⟩) kq W (HFS.out.has (has_below (HB.out.tr hW))) (HT.out.below (HB1.out.tr (HW9.out.tr hW)))
              have HSM2 := hide fun (W : World) (hW : Below wr.heap.size wr W) => sameM_is l l2 false HSLo.2.1 _ _ rfl HL2.out _ _ k1 kq W (HFP.out W (HW9.out.tr hW)) (HFS.out.has (has_below (HB.out.tr hW))) (HT.out.below (HB1.out.tr (HW9.out.tr hW)))
              have HNM2 := hide fun (W : World) (hW : Below wr.heap.size wr W) => number_fns l2 l HSLo.2.2 _ HL2.out (some ⟨gq, 0, none⟩) kq W (HFS.out.has (has_below (HB.out.tr hW))) (HT.out.below (HB1.out.tr (HW9.out.tr hW)))
              have HSM3 := hide fun (W : World) (a : Option Addr) (c : Nat) (hF : Fns W l a c) (hW : Below wr.heap.size wr W) => sameM_is l l true (sameM_refl HCK.out) _ _ rfl rfl a (some ⟨g1, 0, none⟩) c k1 W hF (HFP.out W (HW9.out.tr hW)) (HT.out.below (HB1.out.tr (HW9.out.tr hW)))
              have HWK := hide fun (W : World) (hW : Below wr.heap.size wr W) => works_any W (HT.out.below (HB1.out.tr (HW9.out.tr hW)))
              clear HSLo
              go_wp2_with fail
              refine wp_region_held_drew (S := (fun w' => w'.cell? ⟨w1.heap.size, 0, none⟩ = some (.slice (some ⟨g1, 0, none⟩) l.length k1) ∧ w'.cell? ⟨w4.heap.size, 0, none⟩ = some (.slice (some ⟨gq, 0, none⟩) l.length kq))) (by kernel_rfl) ?_ (fun hHeld => ?_)
              · ((try dsimp only); first | done | exact ⟨cell_keep p0 hB (Nat.le_refl _), cell_keep q0 hB (Nat.le_refl _)⟩)
              refine wpAnyH_take (i := 0) (v := ?_) (by simp only [List.getElem?_toArray, List.getElem?_cons_succ, List.getElem?_cons_zero]; rfl) (by kernel_rfl) (by kernel_rfl) (by kernel_rfl) (by exact fun _ _ _ h => h) (Or.inl ⟨by rfl, ?_⟩) (by assumption) ?_
              rotate_left 1
              · ((intro w hSw; (try dsimp only at hSw); go_simp) <;> with_reducible rfl)
              try simp only [Act.put, List.setIfInBounds_toArray, List.set_cons_zero, List.set_cons_succ]
              refine wpAnyH_ready (rs := [1]) (by kernel_rfl) (by simp) ?_
              refine AllReadyH.cons rfl (fun K hK => ?_) AllReadyH.nil
              go_simp
              (go_at_call 19; (with_reducible refine (HCK2.out _ hB).mono ?_); rintro r w10 ⟨rfl, hb⟩; have hB := hB.tr hb; clear hb)
              try go_wp2_with fail
              refine hK.out _ _ ?_ (fun hHeld => ?_)
              · ((try dsimp only); first | done | exact ⟨cell_keep p0 hB (Nat.le_refl _), cell_keep q0 hB (Nat.le_refl _)⟩)
              clear hK K
              try simp only [Act.put, List.setIfInBounds_toArray, List.set_cons_zero, List.set_cons_succ]
              refine wpAnyH_take (i := 2) (v := ?_) (by simp only [List.getElem?_toArray, List.getElem?_cons_succ, List.getElem?_cons_zero]; rfl) (by kernel_rfl) (by kernel_rfl) (by kernel_rfl) (by exact fun _ _ _ h => h) (Or.inl ⟨by rfl, ?_⟩) (by assumption) ?_
              rotate_left 1
              · ((intro w hSw; (try dsimp only at hSw); go_simp) <;> with_reducible rfl)
              try simp only [Act.put, List.setIfInBounds_toArray, List.set_cons_zero, List.set_cons_succ]
              refine wpAnyH_take (i := 3) (v := ?_) (by simp only [List.getElem?_toArray, List.getElem?_cons_succ, List.getElem?_cons_zero]; rfl) (by kernel_rfl) (by kernel_rfl) (by kernel_rfl) (by exact fun _ _ _ h => h) (Or.inl ⟨by rfl, ?_⟩) (by assumption) ?_
              rotate_left 1
              · ((intro w hSw; (try dsimp only at hSw); go_simp) <;> with_reducible rfl)
              try simp only [Act.put, List.setIfInBounds_toArray, List.set_cons_zero, List.set_cons_succ]
              refine wpAnyH_take (i := 4) (v := ?_) (by simp only [List.getElem?_toArray, List.getElem?_cons_succ, List.getElem?_cons_zero]; rfl) (by kernel_rfl) (by kernel_rfl) (by kernel_rfl) (by exact fun _ _ _ h => h) (Or.inl ⟨by rfl, ?_⟩) (by assumption) ?_
              rotate_left 1
              · ((intro w hSw; (try dsimp only at hSw); go_simp) <;> with_reducible rfl)
              try simp only [Act.put, List.setIfInBounds_toArray, List.set_cons_zero, List.set_cons_succ]
              refine wpAnyH_take (i := 5) (v := ?_) (by simp only [List.getElem?_toArray, List.getElem?_cons_succ, List.getElem?_cons_zero]; rfl) (by kernel_rfl) (by kernel_rfl) (by kernel_rfl) (by exact fun _ _ _ h => h) (Or.inl ⟨by rfl, ?_⟩) (by assumption) ?_
              rotate_left 1
              · ((intro w hSw; (try dsimp only at hSw); go_simp) <;> with_reducible rfl)
              try simp only [Act.put, List.setIfInBounds_toArray, List.set_cons_zero, List.set_cons_succ]
              refine wpAnyH_ready (rs := [6]) (by kernel_rfl) (by simp) ?_
              refine AllReadyH.cons rfl (fun K hK => ?_) AllReadyH.nil
              go_simp
              (go_at_call 21; (with_reducible refine (HSM2.out _ hB).mono ?_); rintro r w11 ⟨rfl, hb⟩; have hB := hB.tr hb; clear hb)
              try go_wp2_with fail
              refine hK.out _ _ ?_ (fun hHeld => ?_)
              · ((try dsimp only); first | done | exact ⟨cell_keep p0 hB (Nat.le_refl _), cell_keep q0 hB (Nat.le_refl _)⟩)
              clear hK K
              try simp only [Act.put, List.setIfInBounds_toArray, List.set_cons_zero, List.set_cons_succ]
              refine wpAnyH_take (i := 7) (v := ?_) (by simp only [List.getElem?_toArray, List.getElem?_cons_succ, List.getElem?_cons_zero]; rfl) (by kernel_rfl) (by kernel_rfl) (by kernel_rfl) (by exact fun _ _ _ h => h) (Or.inl ⟨by rfl, ?_⟩) (by assumption) ?_
              rotate_left 1
              · ((intro w hSw; (try dsimp only at hSw); go_simp) <;> with_reducible rfl)
              try simp only [Act.put, List.setIfInBounds_toArray, List.set_cons_zero, List.set_cons_succ]
              refine wpAnyH_take (i := 8) (v := ?_) (by simp only [List.getElem?_toArray, List.getElem?_cons_succ, List.getElem?_cons_zero]; rfl) (by kernel_rfl) (by kernel_rfl) (by kernel_rfl) (by exact fun _ _ _ h => h) (Or.inl ⟨by rfl, ?_⟩) (by assumption) ?_
              rotate_left 1
              · ((intro w hSw; (try dsimp only at hSw); go_simp) <;> with_reducible rfl)
              try simp only [Act.put, List.setIfInBounds_toArray, List.set_cons_zero, List.set_cons_succ]
              refine wpAnyH_take (i := 9) (v := ?_) (by simp only [List.getElem?_toArray, List.getElem?_cons_succ, List.getElem?_cons_zero]; rfl) (by kernel_rfl) (by kernel_rfl) (by kernel_rfl) (by exact fun _ _ _ h => h) (Or.inl ⟨by rfl, ?_⟩) (by assumption) ?_
              rotate_left 1
              · ((intro w hSw; (try dsimp only at hSw); go_simp) <;> with_reducible rfl)
              try simp only [Act.put, List.setIfInBounds_toArray, List.set_cons_zero, List.set_cons_succ]
              refine wpAnyH_take (i := 10) (v := ?_) (by simp only [List.getElem?_toArray, List.getElem?_cons_succ, List.getElem?_cons_zero]; rfl) (by kernel_rfl) (by kernel_rfl) (by kernel_rfl) (by exact fun _ _ _ h => h) (Or.inl ⟨by rfl, ?_⟩) (by assumption) ?_
              rotate_left 1
              · ((intro w hSw; (try dsimp only at hSw); go_simp) <;> with_reducible rfl)
              try simp only [Act.put, List.setIfInBounds_toArray, List.set_cons_zero, List.set_cons_succ]
              refine wpAnyH_take (i := 12) (v := ?_) (by simp only [List.getElem?_toArray, List.getElem?_cons_succ, List.getElem?_cons_zero]; rfl) (by kernel_rfl) (by kernel_rfl) (by kernel_rfl) (by exact fun _ _ _ h => h) (Or.inl ⟨by rfl, ?_⟩) (by assumption) ?_
              rotate_left 1
              · ((intro w hSw; (try dsimp only at hSw); go_simp) <;> with_reducible rfl)
              try simp only [Act.put, List.setIfInBounds_toArray, List.set_cons_zero, List.set_cons_succ]
              refine wpAnyH_ready (rs := [11]) (by kernel_rfl) (by simp) ?_
              refine AllReadyH.cons rfl (fun K hK => ?_) AllReadyH.nil
              go_simp
              (go_at_call 17; (with_reducible refine (HNM2.out _ hB).mono ?_); rintro r w12 ⟨⟨a6, k6, rfl, hf6⟩, hb⟩; have HF6 := hide hf6.out; have hB := hB.tr hb; clear hb hf6)
              try go_wp2_with fail
              refine hK.out _ _ ?_ (fun hHeld => ?_)
              · ((try dsimp only); first | done | exact ⟨cell_keep p0 hB (Nat.le_refl _), cell_keep q0 hB (Nat.le_refl _)⟩)
              clear hK K
              try simp only [Act.put, List.setIfInBounds_toArray, List.set_cons_zero, List.set_cons_succ]
              refine wpAnyH_ready (rs := [13]) (by kernel_rfl) (by simp) ?_
              refine AllReadyH.cons rfl (fun K hK => ?_) AllReadyH.nil
              go_simp
              (go_at_call 21; (with_reducible refine (HSM3.out _ _ _ HF6.out hB).mono ?_); rintro r w13 ⟨rfl, hb⟩; have hB := hB.tr hb; clear hb)
              try go_wp2_with fail
              refine hK.out _ _ ?_ (fun hHeld => ?_)
              · ((try dsimp only); first | done | exact ⟨cell_keep p0 hB (Nat.le_refl _), cell_keep q0 hB (Nat.le_refl _)⟩)
              clear hK K
              try simp only [Act.put, List.setIfInBounds_toArray, List.set_cons_zero, List.set_cons_succ]
              refine wpAnyH_take (i := 14) (v := ?_) (by simp only [List.getElem?_toArray, List.getElem?_cons_succ, List.getElem?_cons_zero]; rfl) (by kernel_rfl) (by kernel_rfl) (by kernel_rfl) (by exact fun _ _ _ h => h) (Or.inl ⟨by rfl, ?_⟩) (by assumption) ?_
              rotate_left 1
              · ((intro w hSw; (try dsimp only at hSw); go_simp) <;> with_reducible rfl)
              try simp only [Act.put, List.setIfInBounds_toArray, List.set_cons_zero, List.set_cons_succ]
              refine wpAnyH_take (i := 15) (v := ?_) (by simp only [List.getElem?_toArray, List.getElem?_cons_succ, List.getElem?_cons_zero]; rfl) (by kernel_rfl) (by kernel_rfl) (by kernel_rfl) (by exact fun _ _ _ h => h) (Or.inl ⟨by rfl, ?_⟩) (by assumption) ?_
              rotate_left 1
              · ((intro w hSw; (try dsimp only at hSw); go_simp) <;> with_reducible rfl)
              try simp only [Act.put, List.setIfInBounds_toArray, List.set_cons_zero, List.set_cons_succ]
              refine wpAnyH_ready (rs := [16]) (by kernel_rfl) (by simp) ?_
              refine AllReadyH.cons rfl (fun K hK => ?_) AllReadyH.nil
              go_simp
              (go_at_call 15; (with_reducible refine (HWK.out _ hB).mono ?_); rintro r w14 ⟨rfl, hb⟩; have hB := hB.tr hb; clear hb)
              try go_wp2_with fail
              refine hK.out _ _ ?_ (fun hHeld => ?_)
              · ((try dsimp only); first | done | exact ⟨cell_keep p0 hB (Nat.le_refl _), cell_keep q0 hB (Nat.le_refl _)⟩)
              clear hK K
              try simp only [Act.put, List.setIfInBounds_toArray, List.set_cons_zero, List.set_cons_succ]
              refine wpAnyH_take (i := 17) (v := ?_) (by simp only [List.getElem?_toArray, List.getElem?_cons_succ, List.getElem?_cons_zero]; rfl) (by kernel_rfl) (by kernel_rfl) (by kernel_rfl) (by exact fun _ _ _ h => h) (Or.inl ⟨by rfl, ?_⟩) (by assumption) ?_
              rotate_left 1
              · ((intro w hSw; (try dsimp only at hSw); go_simp) <;> with_reducible rfl)
              try simp only [Act.put, List.setIfInBounds_toArray, List.set_cons_zero, List.set_cons_succ]
              refine wpAnyH_take (i := 18) (v := ?_) (by simp only [List.getElem?_toArray, List.getElem?_cons_succ, List.getElem?_cons_zero]; rfl) (by kernel_rfl) (by kernel_rfl) (by kernel_rfl) (by exact fun _ _ _ h => h) (Or.inl ⟨by rfl, ?_⟩) (by assumption) ?_
              rotate_left 1
              · ((intro w hSw; (try dsimp only at hSw); go_simp) <;> with_reducible rfl)
              try simp only [Act.put, List.setIfInBounds_toArray, List.set_cons_zero, List.set_cons_succ]
              refine wpAnyH_done (by kernel_rfl) ?_ _
              go_wp2_with fail
              go_ret
              exact ⟨rfl, HB1.out.tr (HW9.out.tr hB)⟩
      · have hgq4 := (HPO.out.setCount j hjl 0 (by unfold I64; omega)).2.2.2.1
        have hsc := HPO8.out.setCount j hjl (l[j].count + (1 + (how : Int) % 100)) (by have := (count_law hok.2.1).1; have h3 : (nosL l[j].body).length = cntL l[j].body := nosL_len _; have := hok.2.2.1; unfold I64; omega)
        obtain ⟨e1, f1, hgb, _, hfs⟩ := hsc
        have hcn : l[j].count = ((nosL l[j].body).length : Nat) := (count_law hok.2.1).1
        have hc3 : (nosL l[j].body).length ≤ 200 := by have h3 : (nosL l[j].body).length = cntL l[j].body := nosL_len _; have := hok.2.2.1; omega
        have HFS := hide hfs
        have HGB := hide hgb
        have HLW := hide (spoilCount_laws (f := l[j]) (c := l[j].count + (1 + (how : Int) % 100)) (by omega) hok.1 hok.2.1)
        have hch : (0 : Int) ≤ 1 + (how : Int) % 100 := by omega
        have hch2 : 1 + (how : Int) % 100 ≤ 100 := by omega
        have hc0 : (0 : Int) ≤ l[j].count := by omega
        have hc1 : l[j].count ≤ 200 := by omega
        clear hfs hgb hok hcn hc3
        have hg3 := HGQ.out
        have HGN := hide (⟨by omega, by omega⟩ : gq ≠ w1.heap.size ∧ gq ≠ w4.heap.size)
        obtain ⟨f', hf'⟩ : ∃ f' : Fn, f' = { l[j] with count := l[j].count + (1 + (how : Int) % 100) } := ⟨_, rfl⟩
        rw [← hf'] at HFS HLW
        clear hf'
        have hK : Kept [gq] w8 (w8.setCell ⟨gq, j * 5 + 4, none⟩ (.int .i64 (l[j].count + (1 + (how : Int) % 100)))) := (Kept.refl [gq] w8).set (.inl (by simp)) _ _
        have HP := hide (hK.heap (by simp; exact fun e => HGN.out.1 e.symm) HP.out)
        have HQ := hide (hK.heap (by simp; exact fun e => HGN.out.2 e.symm) HQ.out)
        have HWS := hide ((HW4.out.tr HV8.out).setCell (p := ⟨gq, j * 5 + 4, none⟩) (by have := HGB.out; have := HW3.out.size; simp only; omega) (.int .i64 (l[j].count + (1 + (how : Int) % 100))))
        have q0 := cell_at (j := 0) HQ.out rfl
        have lq := (Array.getElem?_eq_some_iff.1 HQ.out).1
        clear hK
        go_wp2_with fail
        clear e1 f1 q0 lq
        generalize w8.setCell ⟨gq, j * 5 + 4, none⟩ (.int .i64 (l[j].count + (1 + (how : Int) % 100))) = WS at *
        obtain ⟨h1, h2, h3, h4⟩ := HLW.out
        have HSL := hide (spoilt_laws HCK.out hjl h1 h2 h3)
        have hl2 : (l.set j f').length = l.length := List.length_set ..
        have HEQ : Hid (∀ (i : Nat) (h : i < l.length) (h' : i < (l.set j f').length), eqF l[i] (l.set j f')[i] = true) := hide fun i h h' => by
          by_cases e : j = i
          · subst e
            rw [List.getElem_set_self]
            exact h4
          · rw [List.getElem_set_ne e]
            exact eqF_refl (HALL.out _ (List.getElem_mem h)).1
        generalize l.set j f' = l2 at *
        have HL2 := hide hl2
        clear h1 h2 h3 h4 HLW hl2
        have HV9 := hide (bl WS)
        go_loopw [16, 119] (fun _ x wr => ∃ i : Nat, i ≤ l.length ∧ x = .int .i64 i ∧ Hid (Below WS.heap.size WS wr)) (fun _ x _ => l.length - (intOf x).toNat)
        case atStart => exact ⟨0, Nat.zero_le _, rfl, bl _⟩
        case round =>
          obtain ⟨i, hi, rfl, HB⟩ := hrel
          have HP := hide ((HB.out.block _ (Array.getElem?_eq_some_iff.1 HP.out).1).trans HP.out)
          have HQ := hide ((HB.out.block _ (Array.getElem?_eq_some_iff.1 HQ.out).1).trans HQ.out)
          have HW9 := hide (HWS.out.tr HB.out)
          by_cases hit : i < l.length
          · have hit2 : i < l2.length := by rw [HL2.out]; exact hit
            obtain ⟨pp, pb, cp, cb, c0, c1, c2, c3, c4, hfw, hps, hrow⟩ := (HFP.out _ HW9.out).at_ _ _ rfl i hit
            obtain ⟨pp2, pb2, cp2, cb2, d0, d1, d2, d3, d4, hfw2, hps2, hrow2⟩ := (HFS.out.keep HB.out (Nat.le_refl _)).at_ _ _ rfl i hit2
            rw [Nat.zero_add] at c0 c1 c2 c3 c4 d0 d1 d2 d3 d4
            have HSF := hide fun (W : World) (hW : Below wr.heap.size wr W) => sameF_is l[i] l2[i] true (HEQ.out i hit hit2) _ _ W (⟨pp, pb, cp, cb, rfl, hfw, hps.has (has_below hW), hrow.has (has_below hW)⟩ : Fn.Val W l[i] _) (⟨pp2, pb2, cp2, cb2, rfl, hfw2, hps2.has (has_below hW), hrow2.has (has_below hW)⟩ : Fn.Val W l2[i] _) (HT.out.below (HB1.out.tr (HW9.out.tr hW)))
            have p0 := cell_at (j := 0) HP.out rfl
            have q0 := cell_at (j := 0) HQ.out rfl
            have hi0 : (0 : Int) ≤ (i : Int) := by omega
            have hi1 : (i : Int) < (l.length : Int) := by omega
            have hB := (bl wr).dr
            clear hfw hps hrow hfw2 hps2 hrow2
            go_wp2_with fail
            go_region_held3 (fun w' => w'.cell? ⟨w1.heap.size, 0, none⟩ = some (.slice (some ⟨g1, 0, none⟩) l.length k1) ∧ w'.cell? ⟨w4.heap.size, 0, none⟩ = some (.slice (some ⟨gq, 0, none⟩) l.length kq) ∧ w'.cell? ⟨g1, i * 5, none⟩ = some (.string ⟨l[i].name.toArray⟩) ∧ w'.cell? ⟨g1, i * 5 + 1, none⟩ = some (.slice pp l[i].params.length cp) ∧ w'.cell? ⟨g1, i * 5 + 2, none⟩ = some (.int .i64 l[i].result) ∧ w'.cell? ⟨g1, i * 5 + 3, none⟩ = some (.slice pb l[i].body.length cb) ∧ w'.cell? ⟨g1, i * 5 + 4, none⟩ = some (.int .i64 l[i].count) ∧
  w'.cell? ⟨gq, i * 5, none⟩ = some (.string ⟨l2[i].name.toArray⟩) ∧ w'.cell? ⟨gq, i * 5 + 1, none⟩ = some (.slice pp2 l2[i].params.length cp2) ∧ w'.cell? ⟨gq, i * 5 + 2, none⟩ = some (.int .i64 l2[i].result) ∧ w'.cell? ⟨gq, i * 5 + 3, none⟩ = some (.slice pb2 l2[i].body.length cb2) ∧ w'.cell? ⟨gq, i * 5 + 4, none⟩ = some (.int .i64 l2[i].count))
              (first | exact ⟨cell_keep p0 hB (Nat.le_refl _), cell_keep q0 hB (Nat.le_refl _), cell_keep c0 hB (Nat.le_refl _), cell_keep c1 hB (Nat.le_refl _), cell_keep c2 hB (Nat.le_refl _), cell_keep c3 hB (Nat.le_refl _), cell_keep c4 hB (Nat.le_refl _), cell_keep d0 hB (Nat.le_refl _), cell_keep d1 hB (Nat.le_refl _), cell_keep d2 hB (Nat.le_refl _), cell_keep d3 hB (Nat.le_refl _), cell_keep d4 hB (Nat.le_refl _)⟩ | go_keep)
              (first | (go_at_call 23; (with_reducible refine (HSF.out _ hB).mono ?_); rintro r w10 ⟨rfl, hb⟩; have hB := hB.tr hb; clear hb))
            all_goals
              have HBB := hide (HB.out.tr hB)
              go_wp2_with fail
              go_roundw
              case rel => exact ⟨i + 1, by omega, by go_num, HBB.out⟩
              case measure => simp [intOf]; omega
          · have p0 := cell_at (j := 0) HP.out rfl
            have q0 := cell_at (j := 0) HQ.out rfl
            have hB := (bl wr).dr
            have HSLo := HSL.out
            have HCK2 := hide fun (W : World) (hW : Below wr.heap.size wr W) => check_is l2 2 HSLo.1 _ HL2.out (some ⟨gq, 0, none⟩) kq W (HFS.out.has (has_below (HB.out.tr hW))) (HT.out.below (HB1.out.tr (HW9.out.tr hW)))
            have HSM2 := hide fun (W : World) (hW : Below wr.heap.size wr W) => sameM_is l l2 false HSLo.2.1 _ _ rfl HL2.out _ _ k1 kq W (HFP.out W (HW9.out.tr hW)) (HFS.out.has (has_below (HB.out.tr hW))) (HT.out.below (HB1.out.tr (HW9.out.tr hW)))
            have HNM2 := hide fun (W : World) (hW : Below wr.heap.size wr W) => number_fns l2 l HSLo.2.2 _ HL2.out (some ⟨gq, 0, none⟩) kq W (HFS.out.has (has_below (HB.out.tr hW))) (HT.out.below (HB1.out.tr (HW9.out.tr hW)))
            have HSM3 := hide fun (W : World) (a : Option Addr) (c : Nat) (hF : Fns W l a c) (hW : Below wr.heap.size wr W) => sameM_is l l true (sameM_refl HCK.out) _ _ rfl rfl a (some ⟨g1, 0, none⟩) c k1 W hF (HFP.out W (HW9.out.tr hW)) (HT.out.below (HB1.out.tr (HW9.out.tr hW)))
            have HWK := hide fun (W : World) (hW : Below wr.heap.size wr W) => works_any W (HT.out.below (HB1.out.tr (HW9.out.tr hW)))
            clear HSLo
            go_wp2_with fail
            refine wp_region_held_drew (S := (fun w' => w'.cell? ⟨w1.heap.size, 0, none⟩ = some (.slice (some ⟨g1, 0, none⟩) l.length k1) ∧ w'.cell? ⟨w4.heap.size, 0, none⟩ = some (.slice (some ⟨gq, 0, none⟩) l.length kq))) (by kernel_rfl) ?_ (fun hHeld => ?_)
            · ((try dsimp only); first | done | exact ⟨cell_keep p0 hB (Nat.le_refl _), cell_keep q0 hB (Nat.le_refl _)⟩)
            refine wpAnyH_take (i := 0) (v := ?_) (by simp only [List.getElem?_toArray, List.getElem?_cons_succ, List.getElem?_cons_zero]; rfl) (by kernel_rfl) (by kernel_rfl) (by kernel_rfl) (by exact fun _ _ _ h => h) (Or.inl ⟨by rfl, ?_⟩) (by assumption) ?_
            rotate_left 1
            · ((intro w hSw; (try dsimp only at hSw); go_simp) <;> with_reducible rfl)
            try simp only [Act.put, List.setIfInBounds_toArray, List.set_cons_zero, List.set_cons_succ]
            refine wpAnyH_ready (rs := [1]) (by kernel_rfl) (by simp) ?_
            refine AllReadyH.cons rfl (fun K hK => ?_) AllReadyH.nil
            go_simp
            (go_at_call 19; (with_reducible refine (HCK2.out _ hB).mono ?_); rintro r w10 ⟨rfl, hb⟩; have hB := hB.tr hb; clear hb)
            try go_wp2_with fail
            refine hK.out _ _ ?_ (fun hHeld => ?_)
            · ((try dsimp only); first | done | exact ⟨cell_keep p0 hB (Nat.le_refl _), cell_keep q0 hB (Nat.le_refl _)⟩)
            clear hK K
            try simp only [Act.put, List.setIfInBounds_toArray, List.set_cons_zero, List.set_cons_succ]
            refine wpAnyH_take (i := 2) (v := ?_) (by simp only [List.getElem?_toArray, List.getElem?_cons_succ, List.getElem?_cons_zero]; rfl) (by kernel_rfl) (by kernel_rfl) (by kernel_rfl) (by exact fun _ _ _ h => h) (Or.inl ⟨by rfl, ?_⟩) (by assumption) ?_
            rotate_left 1
            · ((intro w hSw; (try dsimp only at hSw); go_simp) <;> with_reducible rfl)
            try simp only [Act.put, List.setIfInBounds_toArray, List.set_cons_zero, List.set_cons_succ]
            refine wpAnyH_take (i := 3) (v := ?_) (by simp only [List.getElem?_toArray, List.getElem?_cons_succ, List.getElem?_cons_zero]; rfl) (by kernel_rfl) (by kernel_rfl) (by kernel_rfl) (by exact fun _ _ _ h => h) (Or.inl ⟨by rfl, ?_⟩) (by assumption) ?_
            rotate_left 1
            · ((intro w hSw; (try dsimp only at hSw); go_simp) <;> with_reducible rfl)
            try simp only [Act.put, List.setIfInBounds_toArray, List.set_cons_zero, List.set_cons_succ]
            refine wpAnyH_take (i := 4) (v := ?_) (by simp only [List.getElem?_toArray, List.getElem?_cons_succ, List.getElem?_cons_zero]; rfl) (by kernel_rfl) (by kernel_rfl) (by kernel_rfl) (by exact fun _ _ _ h => h) (Or.inl ⟨by rfl, ?_⟩) (by assumption) ?_
            rotate_left 1
            · ((intro w hSw; (try dsimp only at hSw); go_simp) <;> with_reducible rfl)
            try simp only [Act.put, List.setIfInBounds_toArray, List.set_cons_zero, List.set_cons_succ]
            refine wpAnyH_take (i := 5) (v := ?_) (by simp only [List.getElem?_toArray, List.getElem?_cons_succ, List.getElem?_cons_zero]; rfl) (by kernel_rfl) (by kernel_rfl) (by kernel_rfl) (by exact fun _ _ _ h => h) (Or.inl ⟨by rfl, ?_⟩) (by assumption) ?_
            rotate_left 1
            · ((intro w hSw; (try dsimp only at hSw); go_simp) <;> with_reducible rfl)
            try simp only [Act.put, List.setIfInBounds_toArray, List.set_cons_zero, List.set_cons_succ]
            refine wpAnyH_ready (rs := [6]) (by kernel_rfl) (by simp) ?_
            refine AllReadyH.cons rfl (fun K hK => ?_) AllReadyH.nil
            go_simp
            (go_at_call 21; (with_reducible refine (HSM2.out _ hB).mono ?_); rintro r w11 ⟨rfl, hb⟩; have hB := hB.tr hb; clear hb)
            try go_wp2_with fail
            refine hK.out _ _ ?_ (fun hHeld => ?_)
            · ((try dsimp only); first | done | exact ⟨cell_keep p0 hB (Nat.le_refl _), cell_keep q0 hB (Nat.le_refl _)⟩)
            clear hK K
            try simp only [Act.put, List.setIfInBounds_toArray, List.set_cons_zero, List.set_cons_succ]
            refine wpAnyH_take (i := 7) (v := ?_) (by simp only [List.getElem?_toArray, List.getElem?_cons_succ, List.getElem?_cons_zero]; rfl) (by kernel_rfl) (by kernel_rfl) (by kernel_rfl) (by exact fun _ _ _ h => h) (Or.inl ⟨by rfl, ?_⟩) (by assumption) ?_
            rotate_left 1
            · ((intro w hSw; (try dsimp only at hSw); go_simp) <;> with_reducible rfl)
            try simp only [Act.put, List.setIfInBounds_toArray, List.set_cons_zero, List.set_cons_succ]
            refine wpAnyH_take (i := 8) (v := ?_) (by simp only [List.getElem?_toArray, List.getElem?_cons_succ, List.getElem?_cons_zero]; rfl) (by kernel_rfl) (by kernel_rfl) (by kernel_rfl) (by exact fun _ _ _ h => h) (Or.inl ⟨by rfl, ?_⟩) (by assumption) ?_
            rotate_left 1
            · ((intro w hSw; (try dsimp only at hSw); go_simp) <;> with_reducible rfl)
            try simp only [Act.put, List.setIfInBounds_toArray, List.set_cons_zero, List.set_cons_succ]
            refine wpAnyH_take (i := 9) (v := ?_) (by simp only [List.getElem?_toArray, List.getElem?_cons_succ, List.getElem?_cons_zero]; rfl) (by kernel_rfl) (by kernel_rfl) (by kernel_rfl) (by exact fun _ _ _ h => h) (Or.inl ⟨by rfl, ?_⟩) (by assumption) ?_
            rotate_left 1
            · ((intro w hSw; (try dsimp only at hSw); go_simp) <;> with_reducible rfl)
            try simp only [Act.put, List.setIfInBounds_toArray, List.set_cons_zero, List.set_cons_succ]
            refine wpAnyH_take (i := 10) (v := ?_) (by simp only [List.getElem?_toArray, List.getElem?_cons_succ, List.getElem?_cons_zero]; rfl) (by kernel_rfl) (by kernel_rfl) (by kernel_rfl) (by exact fun _ _ _ h => h) (Or.inl ⟨by rfl, ?_⟩) (by assumption) ?_
            rotate_left 1
            · ((intro w hSw; (try dsimp only at hSw); go_simp) <;> with_reducible rfl)
            try simp only [Act.put, List.setIfInBounds_toArray, List.set_cons_zero, List.set_cons_succ]
            refine wpAnyH_take (i := 12) (v := ?_) (by simp only [List.getElem?_toArray, List.getElem?_cons_succ, List.getElem?_cons_zero]; rfl) (by kernel_rfl) (by kernel_rfl) (by kernel_rfl) (by exact fun _ _ _ h => h) (Or.inl ⟨by rfl, ?_⟩) (by assumption) ?_
            rotate_left 1
            · ((intro w hSw; (try dsimp only at hSw); go_simp) <;> with_reducible rfl)
            try simp only [Act.put, List.setIfInBounds_toArray, List.set_cons_zero, List.set_cons_succ]
            refine wpAnyH_ready (rs := [11]) (by kernel_rfl) (by simp) ?_
            refine AllReadyH.cons rfl (fun K hK => ?_) AllReadyH.nil
            go_simp
            (go_at_call 17; (with_reducible refine (HNM2.out _ hB).mono ?_); rintro r w12 ⟨⟨a6, k6, rfl, hf6⟩, hb⟩; have HF6 := hide hf6.out; have hB := hB.tr hb; clear hb hf6)
            try go_wp2_with fail
            refine hK.out _ _ ?_ (fun hHeld => ?_)
            · ((try dsimp only); first | done | exact ⟨cell_keep p0 hB (Nat.le_refl _), cell_keep q0 hB (Nat.le_refl _)⟩)
            clear hK K
            try simp only [Act.put, List.setIfInBounds_toArray, List.set_cons_zero, List.set_cons_succ]
            refine wpAnyH_ready (rs := [13]) (by kernel_rfl) (by simp) ?_
            refine AllReadyH.cons rfl (fun K hK => ?_) AllReadyH.nil
            go_simp
            (go_at_call 21; (with_reducible refine (HSM3.out _ _ _ HF6.out hB).mono ?_); rintro r w13 ⟨rfl, hb⟩; have hB := hB.tr hb; clear hb)
            try go_wp2_with fail
            refine hK.out _ _ ?_ (fun hHeld => ?_)
            · ((try dsimp only); first | done | exact ⟨cell_keep p0 hB (Nat.le_refl _), cell_keep q0 hB (Nat.le_refl _)⟩)
            clear hK K
            try simp only [Act.put, List.setIfInBounds_toArray, List.set_cons_zero, List.set_cons_succ]
            refine wpAnyH_take (i := 14) (v := ?_) (by simp only [List.getElem?_toArray, List.getElem?_cons_succ, List.getElem?_cons_zero]; rfl) (by kernel_rfl) (by kernel_rfl) (by kernel_rfl) (by exact fun _ _ _ h => h) (Or.inl ⟨by rfl, ?_⟩) (by assumption) ?_
            rotate_left 1
            · ((intro w hSw; (try dsimp only at hSw); go_simp) <;> with_reducible rfl)
            try simp only [Act.put, List.setIfInBounds_toArray, List.set_cons_zero, List.set_cons_succ]
            refine wpAnyH_take (i := 15) (v := ?_) (by simp only [List.getElem?_toArray, List.getElem?_cons_succ, List.getElem?_cons_zero]; rfl) (by kernel_rfl) (by kernel_rfl) (by kernel_rfl) (by exact fun _ _ _ h => h) (Or.inl ⟨by rfl, ?_⟩) (by assumption) ?_
            rotate_left 1
            · ((intro w hSw; (try dsimp only at hSw); go_simp) <;> with_reducible rfl)
            try simp only [Act.put, List.setIfInBounds_toArray, List.set_cons_zero, List.set_cons_succ]
            refine wpAnyH_ready (rs := [16]) (by kernel_rfl) (by simp) ?_
            refine AllReadyH.cons rfl (fun K hK => ?_) AllReadyH.nil
            go_simp
            (go_at_call 15; (with_reducible refine (HWK.out _ hB).mono ?_); rintro r w14 ⟨rfl, hb⟩; have hB := hB.tr hb; clear hb)
            try go_wp2_with fail
            refine hK.out _ _ ?_ (fun hHeld => ?_)
            · ((try dsimp only); first | done | exact ⟨cell_keep p0 hB (Nat.le_refl _), cell_keep q0 hB (Nat.le_refl _)⟩)
            clear hK K
            try simp only [Act.put, List.setIfInBounds_toArray, List.set_cons_zero, List.set_cons_succ]
            refine wpAnyH_take (i := 17) (v := ?_) (by simp only [List.getElem?_toArray, List.getElem?_cons_succ, List.getElem?_cons_zero]; rfl) (by kernel_rfl) (by kernel_rfl) (by kernel_rfl) (by exact fun _ _ _ h => h) (Or.inl ⟨by rfl, ?_⟩) (by assumption) ?_
            rotate_left 1
            · ((intro w hSw; (try dsimp only at hSw); go_simp) <;> with_reducible rfl)
            try simp only [Act.put, List.setIfInBounds_toArray, List.set_cons_zero, List.set_cons_succ]
            refine wpAnyH_take (i := 18) (v := ?_) (by simp only [List.getElem?_toArray, List.getElem?_cons_succ, List.getElem?_cons_zero]; rfl) (by kernel_rfl) (by kernel_rfl) (by kernel_rfl) (by exact fun _ _ _ h => h) (Or.inl ⟨by rfl, ?_⟩) (by assumption) ?_
            rotate_left 1
            · ((intro w hSw; (try dsimp only at hSw); go_simp) <;> with_reducible rfl)
            try simp only [Act.put, List.setIfInBounds_toArray, List.set_cons_zero, List.set_cons_succ]
            refine wpAnyH_done (by kernel_rfl) ?_ _
            go_wp2_with fail
            go_ret
            exact ⟨rfl, HB1.out.tr (HW9.out.tr hB)⟩
end Go.Proofs.YthpmecbekpmijaaGreatDoor
namespace Go.Proofs.YthpmecbekpmijaaGreatDoor.PrNumb
open Go Go.ChangeShapes Go.WideShapes Go.ChangeAt Go.RowKit
set_option linter.unusedSimpArgs false
set_option linter.unusedVariables false
set_option linter.unnecessarySimpa false
theorem laidOut : laidOutB Tryz.prog = true := by kernel_rfl
/-- What came in reads behind the call as it did. -/
theorem stay {H : Type} {enc : TypeId × Value → H} {W W' : World} {sp : Nat → Bool} {t : TypeId} {v : Value} {d : DataW H} {ps : List MemPlace} (hr : Tryz.prog.readableRec t = true) (hrow : t < Tryz.prog.types.size)
    (h : DataW.Trod enc Tryz.prog W 0 (fun _ => true) true t v d ps) (hb : Below W.heap.size W W') (hs : ∀ p ∈ ps, sp p.block = true) : DataW.Trod enc Tryz.prog W' 0 sp true t v d ps := by
  refine WideElems.Trod_stays laidOut hr hrow h (fun p hp => ?_) hs
  obtain ⟨n, hn⟩ := h
  have hlt := DataW.trod_lt n t _ _ hn p hp
  cases p with
  | cell b o => exact hb.cell (p := ⟨b, o, none⟩) hlt
  | map b => exact hb.block b hlt
set_option maxRecDepth 100000 in
theorem lifted (os : Os) (started : os.Started) (H : Type) (enc : TypeId × Value → H) :
    ReturnsInHanded {} Tryz.checked os 5 .any (fun w args => (Rows.shapeNumbersSpec.pre enc Tryz.prog Tryz.f5 [] false w args ∧ laidMetH Tryz.prog Rows.shapeNumbersRow.laid w) ∧ sizedMet enc Tryz.prog Tryz.f5 (OpenSpec.ofChange Rows.shapeNumbersSpec) false w args)
      (Rows.shapeNumbersSpec.post enc Tryz.prog Tryz.f5 false true false false) := by
  refine returnsInHanded_of_change_and (C := Tryz.checked) (X := fun w _ => laidMetH Tryz.prog Rows.shapeNumbersRow.laid w) (fun _ _ _ hh h => h.of_heap hh) own started (by kernel_rfl) Tryz.func5
    (witness_laid #[.slice none 0 0, .int .u8 0, .int .u8 0] 8 (by kernel_rfl) (by kernel_rfl) (by kernel_rfl) (by kernel_rfl) (by kernel_rfl) (by kernel_rfl) (by kernel_rfl)) ?_
  intro W base args ds gs before hval0 hW _ _ hL _
  have hval : ∀ (j : Nat) t v, Tryz.f5.params[j]? = some t → args[j]? = some v → Value.okWide Tryz.prog W .any base t v := hval0
  have hW' := hW
  obtain ⟨p, q, hA0, hV, rfl, hfz, hnd⟩ := hW
  have hA : DataW.TrodAll enc Tryz.prog W 0 (fun _ => true) true Tryz.f5.params.toList args.toList ds p := hA0
  rw [Tryz.params5] at hA hval
  obtain ⟨v0, vs0, d0, ds0, p0, q0, hargs, rfl, rfl, h0, r0⟩ := trodAll_cons hA
  obtain ⟨v1, vs1, d1, ds1, p1, q1, rfl, rfl, rfl, h1, r1⟩ := trodAll_cons r0
  obtain ⟨v2, vs2, d2, ds2, p2, q2, rfl, rfl, rfl, h2, r2⟩ := trodAll_cons r1
  obtain ⟨rfl, rfl, rfl⟩ := trodAll_nil r2
  obtain rfl : args = #[v0, v1, v2] := by cases args; simp_all
  obtain ⟨rfl, rfl⟩ := trodVars_none hV
  obtain ⟨D0, a0, c0, hv0, hl0⟩ := read_draft (hval 0 23 v0 rfl rfl) h0
  obtain ⟨x1, rfl, rfl, rfl, w1⟩ := open_int Tryz.underlying5 (hval 1 5 v1 rfl rfl) h1
  obtain ⟨x2, rfl, rfl, rfl, w2⟩ := open_int Tryz.underlying5 (hval 2 5 v2 rfl rfl) h2
  subst hv0
  clear hA0 hval0
  have hb1 := u8_of_wf w1
  have hb2 := u8_of_wf w2
  obtain ⟨n1, rfl⟩ : ∃ n : Nat, x1 = n := ⟨x1.toNat, by omega⟩
  obtain ⟨n2, rfl⟩ : ∃ n : Nat, x2 = n := ⟨x2.toNat, by omega⟩
  refine (ShapeNumbers_any D0 a0 c0 n1 n2 W hl0 (by omega) (by omega) (tab_of_laid hL)).mono fun r W' ⟨hr, hb⟩ => ?_
  subst hr
  exact ⟨_, rfl, post_of_below (pa := (p0 ++ ([] ++ ([] ++ [])))) (pv := []) hW' (fun _ _ _ => (trodAll_cons_mk (shut_bool Tryz.underlying4 _) trodAll_mk0))
    (fun sp hsp => (trodAll_cons_mk (stay (by kernel_rfl) (of_decide_eq_true (by kernel_rfl)) h0 hb (fun p hp => hsp p (by simp [hp]))) (trodAll_cons_mk (shut_int Tryz.underlying5 w1) (trodAll_cons_mk (shut_int Tryz.underlying5 w2) trodAll_mk0)))) (fun _ _ => rfl) rfl
    hb (ok_one (by kernel_rfl) rfl (okWide_bool_mk Tryz.underlying4 _))⟩
theorem over : Rows.shapeNumbersRow.holds Tryz.pinned (OpenSpec.ofChange Rows.shapeNumbersSpec) :=
  OpenClaim.holds_of_wide 5 Tryz.f5 rfl rfl rfl rfl rfl rfl rfl ⟨rfl, rfl, rfl, rfl, rfl⟩ rfl rfl rfl rfl rfl (by kernel_rfl) Tryz.func5 (by kernel_rfl)
    (of_decide_eq_true (by kernel_rfl)) (by unfold Func.isWrapper; first | (rw [if_pos (by decide +kernel)]; kernel_rfl) | (rw [if_neg (by decide +kernel)]; exact ⟨rfl, rfl⟩))
    (fun os started H enc _ => lifted os started H enc)
end Go.Proofs.YthpmecbekpmijaaGreatDoor.PrNumb
namespace Go.Proofs.YthpmecbekpmijaaGreatDoor
open Go
theorem shapeNumbers_proved : Rows.ShapeNumbersCardSaid :=
  Claim7.holds_tied_plain_at .later [] [.data, .listed, .data, .pinned] true (true, "f1029df70603543d5481013e3a44e28bed87f83257e9a103e9b9a1ccaf4ca870") false
    PrNumb.over (fun _ h => by cases h) (by kernel_rfl) (fun _ h => by cases h) shapeNumbers_row_tie rfl ⟨rfl, rfl⟩ (by kernel_rfl) rfl
    (fun f fn hf hfn => by
      obtain rfl : f = 5 := Option.some.inj ((show Tryz.prog.funcNamed "rewind/rewindlaw03.ShapeNumbers" = some 5 by kernel_rfl).symm.trans hf) |>.symm
      obtain rfl : fn = Tryz.f5 := (Option.some.inj (Tryz.func5.symm.trans hfn)).symm
      exact ⟨by kernel_rfl, fun j t ht => by
        rw [Tryz.params5] at ht
        have h3 : t = 23 ∨ t = 5 ∨ t = 5 := by
          rcases j with _ | _ | _ | j
          all_goals simp at ht
          · exact .inl ht.symm
          · exact .inr (.inl ht.symm)
          · exact .inr (.inr ht.symm)
        rcases h3 with rfl | rfl | rfl
        · exact (show Tryz.prog.wantsStandIn 23 = false by kernel_rfl)
        · exact (show Tryz.prog.wantsStandIn 5 = false by kernel_rfl)
        · exact (show Tryz.prog.wantsStandIn 5 = false by kernel_rfl)⟩)
    (by kernel_rfl)
#print axioms shapeNumbers_proved
end Go.Proofs.YthpmecbekpmijaaGreatDoor
