/- ShapeParts returns true for every input, whatever the world is in which the table of blanks is laid as the program lays it, and the input reads as it did. No further condition. -/
import Derived.Test.YthpmecbekpmijaaGreatDoorShC
import Derived.ProofKit
import Derived.OpenShut
import Derived.Test.YthpmecbekpmijaaGreatDoorMkI
import Derived.Test.YthpmecbekpmijaaGreatDoorRows
import Derived.Test.YthpmecbekpmijaaGreatDoorShA
import Derived.Lay
import Derived.MakeChecks
import Derived.Handed
import Derived.ChangeSame
import Derived.Test.YthpmecbekpmijaaGreatDoorMd1
import Derived.Test.YthpmecbekpmijaaGreatDoorLwA
import Derived.Test.YthpmecbekpmijaaGreatDoorTie
import Derived.Test.YthpmecbekpmijaaGreatDoorCards
import Derived.SevenTiedAt
import Derived.WideKeyArgs
import Derived.ChangeMaps5
/- Expressions that come in: what the statement's reading of them gives, as trees in memory. -/
namespace Go.Proofs.YthpmecbekpmijaaGreatDoor
open Go Go.RowKit Go.WideShapes Go.ChangeShapes
set_option linter.unusedSimpArgs false
set_option linter.unusedVariables false
set_option linter.unnecessarySimpa false
set_option maxRecDepth 100000
theorem cells5 {w : World} {base : Nat} {a : Addr} {cs : List Value} (h : w.cells? base a 5 = some cs) :
    ∃ (b o : Nat) (v0 v1 v2 v3 v4 : Value), a = ⟨b, o, none⟩ ∧ cs = [v0, v1, v2, v3, v4] ∧ w.cell? ⟨b, o, none⟩ = some v0 ∧ w.cell? ⟨b, o + 1, none⟩ = some v1 ∧ w.cell? ⟨b, o + 2, none⟩ = some v2 ∧
      w.cell? ⟨b, o + 3, none⟩ = some v3 ∧ w.cell? ⟨b, o + 4, none⟩ = some v4 := by
  unfold World.cells? at h
  split at h
  · rw [show List.range 5 = [0, 1, 2, 3, 4] from rfl] at h
    simp only [List.mapM_cons, List.mapM_nil, Option.bind_eq_bind, Option.bind_eq_some_iff, Option.pure_def, Option.some.injEq] at h
    obtain ⟨v0, h0, _, ⟨v1, h1, _, ⟨v2, h2, _, ⟨v3, h3, _, ⟨v4, h4, _, rfl, rfl⟩, rfl⟩, rfl⟩, rfl⟩, rfl⟩ := h
    obtain ⟨b, o, s⟩ := a
    have hs : s = none := by simpa [Addr.add] using World.cell?_spot h0
    subst hs
    exact ⟨b, o, v0, v1, v2, v3, v4, rfl, rfl, by simpa [Addr.add] using h0, by simpa [Addr.add] using h1, by simpa [Addr.add] using h2, by simpa [Addr.add] using h3, by simpa [Addr.add] using h4⟩
  · cases h
theorem i64_of_wf {z : Int} (h : (Lit.int .i64 z).wf = true) : I64 z := by
  have h2 : -9223372036854775808 ≤ z ∧ z ≤ 9223372036854775807 := by simpa [Lit.wf, IntKind.min, IntKind.max, IntKind.signed, IntKind.bits] using h
  exact h2
theorem row_of_all {w : World} {b : Nat} : ∀ (n o : Nat), (∀ i, i < n → ∃ e, Ex.At w e b (o + i * 5)) → ∃ es : List Ex, es.length = n ∧ Ex.Row w es (some ⟨b, o, none⟩)
  | 0, o, _ => ⟨[], rfl, by simp only [Ex.Row]⟩
  | n + 1, o, h => by
    obtain ⟨e, he⟩ := h 0 (by omega)
    obtain ⟨es, hl, hr⟩ := row_of_all n (o + 5) (fun i hi => by
      have := h (i + 1) (by omega)
      rwa [show o + (i + 1) * 5 = o + 5 + i * 5 by omega] at this)
    refine ⟨e :: es, by simp [hl], ?_⟩
    simp only [Ex.Row]
    exact ⟨b, o, rfl, by simpa using he, hr⟩
section
variable {H : Type} {enc : TypeId × Value → H} {W : World} {sp : Nat → Bool} {held : Bool}
theorem read_ex : ∀ (N n : Nat), n < N → ∀ (cs : List Value) (x : DataW H × List MemPlace), DataW.trod enc Tryz.prog W 0 sp held n 27 cs = some x →
    ∃ (e : Ex) (a : Option Addr) (cap : Nat), cs = [.int .i64 e.kind, .int .i64 e.op, .int .i64 e.num, .string ⟨e.name.toArray⟩, .slice a e.args.length cap] ∧ ExWf e.kind e.op e.num e.name e.args.length cap ∧ Ex.Row W e.args a
  | 0, n, hn, _, _, _ => absurd hn (Nat.not_lt_zero _)
  | N + 1, n, hn, cs, x, h => by
    obtain ⟨xs, n1, rfl, _, hl, hxl, hf⟩ := DataW.trod_struct Tryz.underlying27 h
    have hl5 : cs.length = 5 := hl.trans (by kernel_rfl)
    have ci : Tryz.prog.cellsOf 3 = 1 := by kernel_rfl
    have c6 : Tryz.prog.cellsOf 2 = 1 := by kernel_rfl
    have cst : Tryz.prog.cellsOf 9 = 1 := by kernel_rfl
    have csl : Tryz.prog.cellsOf 25 = 1 := by kernel_rfl
    have ce : Tryz.prog.cellsOf 27 = 5 := by kernel_rfl
    match cs, hl5, xs, hxl with
    | [v0, v1, v2, v3, v4], _, [x0, x1, x2, x3, x4], _ =>
      have f0 : DataW.trod enc Tryz.prog W 0 sp held n1 3 (([v0, v1, v2, v3, v4].drop 0).take (Tryz.prog.cellsOf 3)) = [x0, x1, x2, x3, x4][0]? := hf 0 _ rfl
      have f1 : DataW.trod enc Tryz.prog W 0 sp held n1 3 (([v0, v1, v2, v3, v4].drop 1).take (Tryz.prog.cellsOf 3)) = [x0, x1, x2, x3, x4][1]? := hf 1 _ rfl
      have f2 : DataW.trod enc Tryz.prog W 0 sp held n1 2 (([v0, v1, v2, v3, v4].drop 2).take (Tryz.prog.cellsOf 2)) = [x0, x1, x2, x3, x4][2]? := hf 2 _ rfl
      have f3 : DataW.trod enc Tryz.prog W 0 sp held n1 9 (([v0, v1, v2, v3, v4].drop 3).take (Tryz.prog.cellsOf 9)) = [x0, x1, x2, x3, x4][3]? := hf 3 _ rfl
      have f4 : DataW.trod enc Tryz.prog W 0 sp held n1 25 (([v0, v1, v2, v3, v4].drop 4).take (Tryz.prog.cellsOf 25)) = [x0, x1, x2, x3, x4][4]? := hf 4 _ rfl
      simp only [ci, c6, cst, csl, List.drop_zero, List.drop_succ_cons, List.take_succ_cons, List.take_zero, List.getElem?_cons_zero, List.getElem?_cons_succ] at f0 f1 f2 f3 f4
      obtain ⟨k, e0, _, w0⟩ := DataW.trod_int Tryz.underlying3 f0
      obtain ⟨o, e1, _, w1⟩ := DataW.trod_int Tryz.underlying3 f1
      obtain ⟨m, e2, _, w2⟩ := DataW.trod_int Tryz.underlying2 f2
      obtain ⟨s, e3, _, w3⟩ := DataW.trod_string Tryz.underlying9 f3
      simp only [List.cons.injEq, and_true] at e0 e1 e2 e3
      subst e0 e1 e2 e3
      have hs : s = ⟨s.data.toList.toArray⟩ := by simp
      have hsl : s.data.toList.length ≤ maxLen := by rw [Array.length_toList]; exact w3
      rcases DataW.trod_slice Tryz.underlying25 f4 with ⟨e4, _⟩ | ⟨a, len, cap, elems, rest, n2, hn2, e4, _, hb, hlc, hcm, hel, hall, _, _⟩
      · simp only [List.cons.injEq, and_true] at e4
        subst e4
        refine ⟨.mk k o m s.data.toList [], none, 0, ?_, ⟨i64_of_wf w0, i64_of_wf w1, i64_of_wf w2, hsl, Nat.le_refl _, Nat.zero_le _⟩, by simp only [Ex.args, Ex.Row]⟩
        simp only [Ex.kind, Ex.op, Ex.num, Ex.name, Ex.args, List.length_nil, ← hs]
      · simp only [List.cons.injEq, and_true] at e4
        subst e4
        have key : ∀ i, i < len → ∃ (b o : Nat) (e : Ex), a.add (i * 5) = ⟨b, o, none⟩ ∧ Ex.At W e b o := by
          intro i hi
          have h1 := hall i hi
          rw [List.getElem?_eq_getElem (by omega), ce] at h1
          obtain ⟨cs', h2, h3⟩ := Option.bind_eq_some_iff.1 h1
          obtain ⟨b', o', u0, u1, u2, u3, u4, ha, rfl, k0, k1, k2, k3, k4⟩ := cells5 h2
          obtain ⟨e, a', cap', he, hw, hr⟩ := read_ex N n2 (by omega) _ _ h3
          refine ⟨b', o', e, ha, ?_⟩
          simp only [List.cons.injEq, and_true] at he
          obtain ⟨rfl, rfl, rfl, rfl, rfl⟩ := he
          cases e
          simp only [Ex.At]
          exact ⟨a', cap', k0, k1, k2, k3, k4, hw, hr⟩
        by_cases h0 : len = 0
        · subst h0
          refine ⟨.mk k o m s.data.toList [], some a, cap, ?_, ⟨i64_of_wf w0, i64_of_wf w1, i64_of_wf w2, hsl, Nat.zero_le _, hcm⟩, by simp only [Ex.args, Ex.Row]⟩
          simp only [Ex.kind, Ex.op, Ex.num, Ex.name, Ex.args, List.length_nil, ← hs]
        · obtain ⟨b0, o0, _, ha0, _⟩ := key 0 (by omega)
          have ha : a = ⟨b0, o0, none⟩ := by simpa [Addr.add] using ha0
          subst ha
          obtain ⟨es, hes, hrow⟩ := row_of_all (w := W) (b := b0) len o0 (fun i hi => by
            obtain ⟨b', o', e, he, hat⟩ := key i hi
            rw [Addr.add_lit] at he
            simp only [Addr.mk.injEq, and_true] at he
            obtain ⟨rfl, rfl⟩ := he
            exact ⟨e, hat⟩)
          subst hes
          refine ⟨.mk k o m s.data.toList es, some ⟨b0, o0, none⟩, cap, ?_, ⟨i64_of_wf w0, i64_of_wf w1, i64_of_wf w2, hsl, hlc, hcm⟩, hrow⟩
          simp only [Ex.kind, Ex.op, Ex.num, Ex.name, Ex.args, ← hs]
/-- An expression that comes in. -/
theorem read_expr {r : Reach} {b0 : Nat} {v : Value} {d : DataW H} {p : List MemPlace} (hv : Value.okWide Tryz.prog W r b0 27 v) (h : DataW.Trod enc Tryz.prog W 0 sp held 27 v d p) : ∃ e, Ex.Val W e v := by
  obtain ⟨cs, rfl, _⟩ := okWide_struct Tryz.underlying27 hv
  obtain ⟨n, hn⟩ := h
  obtain ⟨e, a, cap, he, hw, hr⟩ := read_ex (n + 1) n (Nat.lt_succ_self _) _ _ hn
  refine ⟨e, a, cap, ?_, hw, hr⟩
  have : cs.toList = _ := he
  rw [← Array.toArray_toList (xs := cs), this]
end
end Go.Proofs.YthpmecbekpmijaaGreatDoor
/- Drafts that come in: a list of bytes, as the statement's reading of it gives it. -/
namespace Go.Proofs.YthpmecbekpmijaaGreatDoor
open Go Go.RowKit Go.WideShapes Go.ChangeShapes
set_option linter.unusedSimpArgs false
set_option linter.unusedVariables false
set_option linter.unnecessarySimpa false
set_option maxRecDepth 100000
theorem cells1 {w : World} {base : Nat} {a : Addr} {cs : List Value} (h : w.cells? base a 1 = some cs) : ∃ (b o : Nat) (v0 : Value), a = ⟨b, o, none⟩ ∧ cs = [v0] ∧ w.cell? ⟨b, o, none⟩ = some v0 := by
  unfold World.cells? at h
  split at h
  · rw [show List.range 1 = [0] from rfl] at h
    simp only [List.mapM_cons, List.mapM_nil, Option.bind_eq_bind, Option.bind_eq_some_iff, Option.pure_def, Option.some.injEq] at h
    obtain ⟨v0, h0, _, rfl, rfl⟩ := h
    obtain ⟨b, o, s⟩ := a
    have hs : s = none := by simpa [Addr.add] using World.cell?_spot h0
    subst hs
    exact ⟨b, o, v0, rfl, rfl, by simpa [Addr.add] using h0⟩
  · cases h
theorem u8_of_wf {z : Int} (h : (Lit.int .u8 z).wf = true) : 0 ≤ z ∧ z ≤ 255 := by
  simpa [Lit.wf, IntKind.min, IntKind.max, IntKind.signed, IntKind.bits] using h
section
variable {H : Type} {enc : TypeId × Value → H} {W : World} {sp : Nat → Bool} {held : Bool}
/-- A draft that comes in. -/
theorem read_draft {r : Reach} {b0 : Nat} {v : Value} {d : DataW H} {p : List MemPlace} (hv : Value.okWide Tryz.prog W r b0 23 v) (h : DataW.Trod enc Tryz.prog W 0 sp held 23 v d p) :
    ∃ (D : List Nat) (a : Option Addr) (cap : Nat), v = .slice a D.length cap ∧ U8s W D a cap := by
  obtain ⟨a, len, cap, rfl⟩ := okWide_slice Tryz.underlying23 hv
  obtain ⟨n, hn⟩ := h
  have cv : Tryz.prog.cellsOf 5 = 1 := by kernel_rfl
  rcases DataW.trod_slice Tryz.underlying23 hn with ⟨e4, _⟩ | ⟨a', len', cap', elems, rest, n2, hn2, e4, _, hb, hlc, hcm, hel, hall, _, _⟩
  · simp only [Value.cells, List.cons.injEq, Value.slice.injEq, and_true] at e4
    obtain ⟨rfl, rfl, rfl⟩ := e4
    exact ⟨[], none, 0, rfl, ⟨Nat.le_refl _, Nat.zero_le _, by simp, fun b o e => by cases e⟩⟩
  · simp only [Value.cells, List.cons.injEq, Value.slice.injEq, and_true] at e4
    obtain ⟨rfl, rfl, rfl⟩ := e4
    have key : ∀ i, i < len → ∃ (b o : Nat) (x : Nat), a'.add (i * 1) = ⟨b, o, none⟩ ∧ x ≤ 255 ∧ W.cell? ⟨b, o, none⟩ = some (.int .u8 (x : Nat)) := by
      intro i hi
      have h1 := hall i hi
      rw [List.getElem?_eq_getElem (by omega), cv] at h1
      obtain ⟨cs', h2, h3⟩ := Option.bind_eq_some_iff.1 h1
      obtain ⟨b', o', u0, ha, rfl, k0⟩ := cells1 h2
      obtain ⟨z, e0, _, w0⟩ := DataW.trod_int Tryz.underlying5 h3
      simp only [List.cons.injEq, and_true] at e0
      subst e0
      have hz := u8_of_wf w0
      exact ⟨b', o', z.toNat, ha, by omega, by rw [k0, Int.toNat_of_nonneg hz.1]⟩
    by_cases h0 : len = 0
    · subst h0
      exact ⟨[], some a', cap, rfl, ⟨Nat.zero_le _, hcm, by simp, fun b o e i hi => absurd hi (Nat.not_lt_zero _)⟩⟩
    · obtain ⟨b0, o0, _, ha0, _⟩ := key 0 (by omega)
      have ha : a' = ⟨b0, o0, none⟩ := by simpa [Addr.add] using ha0
      subst ha
      have key2 : ∀ i, i < len → ∃ x : Nat, x ≤ 255 ∧ W.cell? ⟨b0, o0 + i, none⟩ = some (.int .u8 (x : Nat)) := fun i hi => by
        obtain ⟨b', o', x, he, hw, hat⟩ := key i hi
        rw [Addr.add_lit] at he
        simp only [Addr.mk.injEq, and_true] at he
        obtain ⟨rfl, rfl⟩ := he
        exact ⟨x, hw, by simpa using hat⟩
      refine ⟨(List.finRange len).map fun i => (key2 i.1 i.2).choose, some ⟨b0, o0, none⟩, cap, by simp, ⟨by simpa using hlc, hcm, fun _ => ⟨_, _, rfl⟩, ?_⟩⟩
      intro b o e i hi
      simp only [Option.some.injEq, Addr.mk.injEq, and_true] at e
      obtain ⟨rfl, rfl⟩ := e
      have hi' : i < len := by simpa using hi
      have := (key2 i hi').choose_spec
      simpa using this
end
end Go.Proofs.YthpmecbekpmijaaGreatDoor
/- What a row of this seat needs: its condition gives the table of blanks; a world that meets it; the last step of a row. -/
namespace Go.Proofs.YthpmecbekpmijaaGreatDoor
open Go Go.RowKit Go.WideShapes Go.ChangeShapes
set_option linter.unusedSimpArgs false
set_option linter.unusedVariables false
set_option linter.unnecessarySimpa false
theorem own : ownKnob Tryz.prog.godebug = none := by kernel_rfl
/-- The list of laid variables of every row of this seat. -/
def theLaid : List (String × DataW Unit) := [("unicode/utf8.acceptRanges", Rows.laid_unicode_utf8_acceptRanges), ("unicode.White_Space", Rows.laid_unicode_White_Space), ("strings.asciiSpace", Rows.laid_strings_asciiSpace), ("unicode/utf8.first", Rows.laid_unicode_utf8_first)]
theorem space_data : (Rows.laid_strings_asciiSpace : DataW Unit) = Lib.tabData .u8 Lib.asciiSpaceTab := by kernel_rfl
/-- What a row's condition on the listed variables gives a walk. -/
theorem tab_of_laid {W : World} (h : laidMetH Tryz.prog theLaid W) : Tab W := by
  rw [MakeChecks.laidMetH_plain _ _ _ (by kernel_rfl)] at h
  obtain ⟨ps, ⟨g1, t1, cs1, f1, p1, q1, _, _, _, _, ⟨g2, t2, cs2, f2, p2, q2, _, _, _, _, ⟨g', t', cs, fuel, p, q, hg', ht', hvar, hd, _, _⟩, _⟩, _⟩, _, _⟩ := h
  have hg : Tryz.prog.globalNamed "strings.asciiSpace" = some 0 := by kernel_rfl
  obtain rfl := Option.some.inj (hg.symm.trans hg')
  obtain rfl := Option.some.inj ((show (Tryz.prog.globals[0]?).map (·.type) = some 156 by kernel_rfl).symm.trans ht')
  rw [space_data] at hd
  unfold Tab Lib.TabIs
  rw [hvar, ← Lib.cells_of_tab Tryz.underlying156 Tryz.underlying5 (by kernel_rfl) (by kernel_rfl) hd]
/-- A world that meets every row's condition on the listed variables. -/
theorem witness_laid {os : Os} {H : Type} {enc : TypeId × Value → H} {f : FuncId} {fn : Func} {s : ChangeSpec} (args : Array Value) (fuel : Nat)
    (hv : ((World.laidAll Tryz.prog os theLaid).forCall (fun _ _ => 0) ⟨#[], args, []⟩).variablesZipB Tryz.prog = true)
    (hr : (((World.laidAll Tryz.prog os theLaid).forCall (fun _ _ => 0) ⟨#[], args, []⟩).heap.toList.drop Tryz.prog.globals.size).take ((begin Tryz.prog (fun _ _ => 0) default).world.heap.size - Tryz.prog.globals.size) =
      (begin Tryz.prog (fun _ _ => 0) default).world.heap.toList.drop Tryz.prog.globals.size)
    (hok : Input.okWideB Tryz.prog ((World.laidAll Tryz.prog os theLaid).forCall (fun _ _ => 0) ⟨#[], args, []⟩) f ⟨#[], args, []⟩ = true)
    (hpre : s.preB enc Tryz.prog fn [] false ((World.laidAll Tryz.prog os theLaid).forCall (fun _ _ => 0) ⟨#[], args, []⟩).memory args fuel = true)
    (hsz : s.sizedB enc Tryz.prog fn false ((World.laidAll Tryz.prog os theLaid).forCall (fun _ _ => 0) ⟨#[], args, []⟩).memory args fuel = true)
    (hf : (World.holding Tryz.prog os ⟨#[], #[], []⟩).layFits Tryz.prog theLaid [] = true)
    (hi : (World.holding Tryz.prog os ⟨#[], #[], []⟩).layIfaces Tryz.prog theLaid (World.laidAll Tryz.prog os theLaid) = true) :
    ∃ (w : World) (tape : Tape) (i : Input), w.os = os ∧ (w.forCall tape i).Shaped Tryz.prog ∧ i.vars = [] ∧ Input.okWide Tryz.prog (w.forCall tape i) .any w.heap.size f i ∧
      ((s.pre enc Tryz.prog fn [] false (w.forCall tape i).memory i.args ∧ laidMetH Tryz.prog theLaid (w.forCall tape i).memory) ∧ sizedMet enc Tryz.prog fn (OpenSpec.ofChange s) false (w.forCall tape i).memory i.args) ∧ ({} : Assume).holds Tryz.prog (lone (Frame.enter Tryz.prog f i.args .normal) [] (w.forCall tape i)) :=
  ⟨World.laidAll Tryz.prog os theLaid, fun _ _ => 0, ⟨#[], args, []⟩, World.laidAll_os _ _ _, World.shaped_of_ZipB hv hr, (Input.okWide_of_okWideB (base := 0) hok).1, (Input.okWide_of_okWideB hok).2, ⟨⟨ChangeSpec.pre_of_preB hpre, by
    rw [MakeChecks.laidMetH_plain _ _ _ (by kernel_rfl)]; exact laidMet_laidAll _ hf hi⟩, sizedMet_of_sizedB hsz⟩, by
    simp only [Assume.holds]
    exact ⟨by simp, by simp, fun _ => Modest.zero, by simp, by simp⟩⟩
section
variable {H : Type} {enc : TypeId × Value → H} {P : Program}
/-- The row's last step, where of the call's world one knows that what was there has not turned. -/
theorem post_of_below {f : Func} {s : ChangeSpec} {apart fresh handsOn again : Bool} {W W' : World} {args : Array Value} {v : Value} {ds gs : List (DataW H)} {before pa pv : List MemPlace}
    (hW : DataW.Whole enc P f.params.toList s.vars apart W args.toList ds gs before)
    (hres : ∀ (b : Nat) (sp : Nat → Bool) (hd : Bool), DataW.TrodAll enc P W' b sp hd f.resultTypes.toList (v.resultList f.resultTypes.size) (s.fn H (ds ++ gs)).results [])
    (hargs : ∀ sp : Nat → Bool, (∀ p ∈ before, sp p.block = true) → DataW.TrodAll enc P W' 0 sp true f.params.toList args.toList (s.fn H (ds ++ gs)).args pa)
    (hvars : ∀ sp : Nat → Bool, (∀ p ∈ before, sp p.block = true) → DataW.TrodVars enc P W' sp s.vars (s.fn H (ds ++ gs)).vars pv)
    (hps : before = pa ++ pv) (hb : Below W.heap.size W W')
    (hok : ∀ (j : Nat) (t : TypeId) (r : Value), f.resultTypes[j]? = some t → (v.resultList f.resultTypes.size)[j]? = some r → Value.okWide P W' .any 0 t r) :
    s.post enc P f apart fresh handsOn again W args v W' := by
  have hlt : ∀ p ∈ before, p.block < W.heap.size := fun p hp => hW.lt p hp
  have hold : ∀ p ∈ before, (fun b => decide (b < W.heap.size)) p.block = true := fun p hp => by simpa using hlt p hp
  refine ⟨ds, gs, before, [], pa, pv, hW, hres _ _ _, hargs _ hold, hvars _ hold, World.keptBut_mono (fun p hp => ⟨hp, ?_⟩) (hb.frame (· ∈ before)), fun _ => ?_⟩
  · rw [hps, List.mem_append] at hp
    exact Or.inr hp
  · obtain ⟨_, _, _, _, _, hz, hn⟩ := hW
    refine ⟨hok, _, _, ([] ++ pa) ++ pv, ⟨[] ++ pa, pv, trodAll_append (hargs _ (fun _ _ => rfl)) (hres _ _ _), hvars _ (fun _ _ => rfl), rfl, ?_, ?_⟩, ?_⟩
    · intro b off hp
      have hin : MemPlace.cell b off ∈ before := by rw [hps]; simpa using hp
      rw [hb.frozen (hlt _ hin)]
      exact hz b off hin
    · intro ha
      have := hn ha
      rw [hps] at this
      simpa using this
    · intro p hp _
      rw [hps]
      simpa using hp
end
end Go.Proofs.YthpmecbekpmijaaGreatDoor
/- ShapeParts: its closure that looks at expressions. -/
namespace Go.Proofs.YthpmecbekpmijaaGreatDoor
open Go Go.RowKit
set_option linter.unusedSimpArgs false
set_option linter.unusedVariables false
set_option linter.unnecessarySimpa false
theorem sameE_self {m : Nat} {e : Ex} (hm : m ≤ 20) (h : depthM m e ≠ 0) : sameE e e = true := by
  unfold sameE
  rw [exOk_of hm h, (eqE_iff e e).2 rfl]
  rfl
theorem sameS_self {m : Nat} {s : St} (hm : m ≤ 20) (h : wellM m [s] = true) (hc : s.cnt ≤ 200) : sameS s s = true := by
  unfold sameS bodyOk
  rw [wellM_mono m hm h, cntL_one, decide_eq_true hc, (eqS_iff s s).2 rfl]
  rfl
theorem wellM_partP {m : Nat} {l : List St} (h : wellM (m + 1) l = true) {s : St} (hs : s ∈ l) : headM s = true ∧ wellM m s.body = true ∧ wellM m s.els = true := by
  rw [wellM, List.all_eq_true] at h
  have := h s hs
  simp only [Bool.and_eq_true] at this
  exact ⟨this.1.1, this.1.2, this.2⟩
theorem wellM_singP {m : Nat} {l : List St} (h : wellM m l = true) {s : St} (hs : s ∈ l) : wellM m [s] = true := by
  cases m with
  | zero =>
    rw [wellM, List.isEmpty_iff] at h
    subst h
    cases hs
  | succ m =>
    rw [wellM, List.all_eq_true] at h
    rw [wellM, List.all_cons, h s hs]
    rfl
theorem headM_argsP {s : St} (h : headM s = true) : ∀ e ∈ s.args, depthM 20 e ≠ 0 := by
  unfold headM at h
  split at h
  · cases h
  · simp only [Bool.and_eq_true] at h
    intro e he
    have := List.all_eq_true.1 h.2 e he
    simpa [exOk] using this
set_option maxRecDepth 20000 in
set_option maxHeartbeats 2000000 in
theorem look_any (lb ob : Nat) : ∀ (m : Nat) (e : Ex) (v : Value) (w : World), m ≤ 20 → depthM m e ≠ 0 → Ex.Val w e v → Tab w → w.cell? ⟨lb, 0, none⟩ = some (.func (.func 8) #[] #[.pointer (some ⟨lb, 0, none⟩), .pointer (some ⟨ob, 0, none⟩)]) →
    Calls Tryz.prog 8 #[v, .pointer (some ⟨lb, 0, none⟩), .pointer (some ⟨ob, 0, none⟩)] w fun r w' => r = .returned (.int .i64 (depthM m e)) ∧ Below w.heap.size w w' := by
  intro m
  induction m with
  | zero => intro e v w _ h; exact absurd rfl h
  | succ m ih =>
    intro e v w hm hd hv hT hlk
    obtain ⟨hfit, hkids⟩ := depthM_kids hd
    have hn0 : 0 ∉ e.args.map (depthM m) := by
      intro h
      obtain ⟨x, hx, h0⟩ := List.mem_map.1 h
      exact hkids x hx h0
    have hsucc := depthM_succ hfit hn0
    have hle := depthM_le (m + 1) e
    obtain ⟨g, hg⟩ : ∃ g, (e.args.map (depthM m)).foldl max 0 = g := ⟨_, rfl⟩
    rw [hg] at hsucc
    have h20 : depthM 20 e = g + 1 := by rw [exOk_mono (m + 1) hm hd, hsucc]
    have hg20 : g ≤ 20 := by omega
    have HEXPR := hide fun (W : World) (hW : Below w.heap.size w W) => expr_any e v W (hv.keep hW (Nat.le_refl _)) (hT.below hW)
    have HDEPTH := hide fun (W : World) (hW : Below w.heap.size w W) => depth_any e v W (hv.keep hW (Nat.le_refl _)) (hT.below hW)
    have HSAME := hide fun (W : World) (hW : Below w.heap.size w W) => sameExpr_any e e v v W (hv.keep hW (Nat.le_refl _)) (hv.keep hW (Nat.le_refl _)) (hT.below hW)
    rw [sameE_self hm hd] at HSAME
    rw [h20] at HEXPR HDEPTH
    simp only [Nat.succ_ne_zero, if_false, Int.natCast_add, Int.natCast_one] at HEXPR HDEPTH
    rw [hsucc]
    obtain ⟨a, cap, rfl, hw, hr⟩ := hv
    have hlen : e.args.length ≤ 9223372036854775807 := Nat.le_trans hw.len hw.cap
    have HBX : Hid ((w.alloc (.cells #[.int .i64 e.kind, .int .i64 e.op, .int .i64 e.num, .string ⟨e.name.toArray⟩, .slice a e.args.length cap] 27)).heap[w.heap.size]? = some (.cells #[.int .i64 e.kind, .int .i64 e.op, .int .i64 e.num, .string ⟨e.name.toArray⟩, .slice a e.args.length cap] 27 (0, 0))) := hide (heap_alloc_new _ _)
    have HG := hide hg
    have IH := hide ih
    have HT := hide hT
    have HR := hide hr
    have HW := hide hw
    have HK := hide hkids
    have HLK := hide hlk
    clear ih hT hr hw hkids hn0 hsucc hle hg h20 hd hfit hlk
    go_enter Tryz.func8, Tryz.ntmps8
    go_wp2_with fail
    go_loopw [5, 11] (fun d i wr => ∃ k : Nat, k ≤ e.args.length ∧ i = .int .i64 k ∧ d = .int .i64 (((e.args.map (depthM m)).take k).foldl max 0 : Nat) ∧ Hid (wr.heap[w.heap.size]? = some (.cells #[.int .i64 e.kind, .int .i64 e.op, .int .i64 e.num, .string ⟨e.name.toArray⟩, .slice a e.args.length cap] 27 (0, 0))) ∧ Hid (Below w.heap.size w wr)) (fun _ i _ => e.args.length - (intOf i).toNat)
    case atStart => exact ⟨0, Nat.zero_le _, rfl, rfl, HBX.out, (bl w).al _⟩
    case round =>
      obtain ⟨k, hk, rfl, rfl, HB, HBW⟩ := hrel
      by_cases hlt : k < e.args.length
      · have hlk1 := cell_keep HLK.out HBW.out (Nat.le_refl _)
        have hlb : lb < wr.heap.size := cell_lt hlk1
        obtain ⟨b, o, rfl⟩ := HR.out.addr (by omega)
        obtain ⟨a', cap', c0, c1, c2, c3, c4, hw', hr'⟩ := ((HR.out.get k hlt).keep HBW.out (Nat.le_refl _)).val
        have HE := hide (Ex.Val.mk hw' hr')
        have HK1 := hide (HK.out _ (List.getElem_mem hlt))
        clear hw' hr'
        go_wp2_with fail
        refine (IH.out e.args[k] _ _ (by omega) HK1.out (HE.out.keep ((bl wr).al _) (Nat.le_refl _)) (HT.out.below (HBW.out.al _)) (cell_keep hlk1 ((bl wr).al _) (Nat.le_refl _))).mono ?_
        rintro r w2 ⟨rfl, hb2⟩
        have HB2 := hide ((HBW.out.al (.cells #[.int .i64 e.args[k].kind, .int .i64 e.args[k].op, .int .i64 e.args[k].num, .string ⟨e.args[k].name.toArray⟩, .slice a' e.args[k].args.length cap'] 27)).tr hb2)
        have HBB := hide ((((bl wr).al (.cells #[.int .i64 e.args[k].kind, .int .i64 e.args[k].op, .int .i64 e.args[k].num, .string ⟨e.args[k].name.toArray⟩, .slice a' e.args[k].args.length cap'] 27)).tr hb2).block _ (Array.getElem?_eq_some_iff.1 HB.out).1 |>.trans HB.out)
        clear hb2
        go_wp2_with fail
        go_roundw
        case rel =>
          refine ⟨k + 1, by omega, by go_num, ?_, HBB.out, HB2.out⟩
          rw [take_map_succ _ _ _ hlt, List.foldl_append]
          exact congrArg (Value.int .i64) (show max (_ : Int) _ = ((max _ _ : Nat) : Int) by omega)
        case measure => simp [intOf]; omega
      · obtain rfl : k = e.args.length := by omega
        rw [show (e.args.map (depthM m)).take e.args.length = e.args.map (depthM m) by rw [List.take_of_length_le (by simp)], HG.out]
        have x0 := cell_at (j := 0) HB.out rfl
        have x1 := cell_at (j := 1) HB.out rfl
        have x2 := cell_at (j := 2) HB.out rfl
        have x3 := cell_at (j := 3) HB.out rfl
        have x4 := cell_at (j := 4) HB.out rfl
        have hxl := (Array.getElem?_eq_some_iff.1 HB.out).1
        go_wp2_with fail
        (with_reducible refine (HEXPR.out _ HBW.out).mono ?_)
        rintro r w1 ⟨rfl, hb1⟩
        have HB1 := hide ((hb1.block _ hxl).trans HB.out)
        have HBW1 := hide (HBW.out.tr hb1)
        clear x0 x1 x2 x3 x4
        have x0 := cell_at (j := 0) HB1.out rfl
        have x1 := cell_at (j := 1) HB1.out rfl
        have x2 := cell_at (j := 2) HB1.out rfl
        have x3 := cell_at (j := 3) HB1.out rfl
        have x4 := cell_at (j := 4) HB1.out rfl
        have hxl1 := Nat.lt_of_lt_of_le hxl hb1.size
        clear hb1
        go_wp2_with fail
        (with_reducible refine (HDEPTH.out _ HBW1.out).mono ?_)
        rintro r w2 ⟨rfl, hb2⟩
        have HB2 := hide ((hb2.block _ hxl1).trans HB1.out)
        have HBW2 := hide (HBW1.out.tr hb2)
        clear x0 x1 x2 x3 x4
        have x0 := cell_at (j := 0) HB2.out rfl
        have x1 := cell_at (j := 1) HB2.out rfl
        have x2 := cell_at (j := 2) HB2.out rfl
        have x3 := cell_at (j := 3) HB2.out rfl
        have x4 := cell_at (j := 4) HB2.out rfl
        clear hb2
        go_wp2_with fail
        (with_reducible refine (HSAME.out _ HBW2.out).mono ?_)
        rintro r w3 ⟨rfl, hb3⟩
        have HBW3 := hide (HBW2.out.tr hb3)
        clear x0 x1 x2 x3 x4 hb3
        go_wp2_with fail
        go_ret
        exact ⟨ret_int (by omega), HBW3.out⟩
end Go.Proofs.YthpmecbekpmijaaGreatDoor
/- ShapeParts: its closure that visits statements, and the walk. -/
namespace Go.Proofs.YthpmecbekpmijaaGreatDoor
open Go Go.RowKit
set_option linter.unusedSimpArgs false
set_option linter.unusedVariables false
set_option linter.unnecessarySimpa false
set_option maxRecDepth 20000 in
set_option maxHeartbeats 4000000 in
theorem walk_any (lb ob xb : Nat) : ∀ (N : Nat) (m : Nat) (l : List St) (a : Option Addr) (cap : Nat) (w : World), cntL l < N → m ≤ 20 → wellM m l = true → cntL l ≤ 200 → St.Row w l a → Tab w → w.cell? ⟨lb, 0, none⟩ = some (.func (.func 8) #[] #[.pointer (some ⟨lb, 0, none⟩), .pointer (some ⟨ob, 0, none⟩)]) → w.cell? ⟨xb, 0, none⟩ = some (.func (.func 12) #[] #[.pointer (some ⟨lb, 0, none⟩), .pointer (some ⟨ob, 0, none⟩), .pointer (some ⟨xb, 0, none⟩)]) →
    Calls Tryz.prog 12 #[.slice a l.length cap, .pointer (some ⟨lb, 0, none⟩), .pointer (some ⟨ob, 0, none⟩), .pointer (some ⟨xb, 0, none⟩)] w fun r w' => r = .returned (.tuple #[]) ∧ Below w.heap.size w w' := by
  intro N
  induction N with
  | zero => intro m l a cap w h; exact absurd h (Nat.not_lt_zero _)
  | succ N ih =>
    intro m l a cap w hN hm hwl hc hr hT hlk hxk
    have hlen := len_cnt l
    have IH := hide ih
    have HR := hide hr
    have HT := hide hT
    have HWL := hide hwl
    have HLK := hide hlk
    have HXK := hide hxk
    clear ih hr hT hwl hlk hxk
    go_enter Tryz.func12, Tryz.ntmps12
    go_wp2_with fail
    go_loopw [11] (fun i wr => ∃ k : Nat, k ≤ l.length ∧ i = .int .i64 k ∧ Hid (Below w.heap.size w wr)) (fun i _ => l.length - (intOf i).toNat)
    case atStart => exact ⟨0, Nat.zero_le _, rfl, bl w⟩
    case round =>
      obtain ⟨k, hk, rfl, HBW⟩ := hrel
      by_cases hlt : k < l.length
      · obtain ⟨m, rfl⟩ : ∃ m', m = m' + 1 := by
          cases m with
          | zero =>
            have h := HWL.out
            rw [wellM, List.isEmpty_iff] at h
            subst h
            cases hlt
          | succ m => exact ⟨m, rfl⟩
        have hmem := List.getElem_mem hlt
        obtain ⟨hhead, hwb, hwe⟩ := wellM_partP HWL.out hmem
        have hargs := headM_argsP hhead
        have hcnt := St.cnt_eq l[k]
        have hcm := cntL_mem hmem
        have hself := sameS_self hm (wellM_singP HWL.out hmem) (by omega)
        have hat := (HR.out.addr (by omega))
        obtain ⟨b, o, rfl⟩ := hat
        obtain ⟨pa, pb, pe, ca, cb, ce, hcs, hw, ha, hbo, hel⟩ := ((HR.out.get k hlt).has (has_below HBW.out)).val
        have HV := hide (St.Val.mk hw ha hbo hel)
        obtain ⟨c0, c1, c2, c3, c4, c5, c6, c7⟩ := hcs
        have hbl := cell_lt c0
        simp only at hbl
        have HA := hide ha
        have hal : l[k].args.length ≤ 9223372036854775807 := Nat.le_trans hw.la hw.ca
        have HARG := hide hargs
        have HS := hide fun (W : World) (hW : Below wr.heap.size wr W) => sameStmt_any l[k] l[k] _ _ W (HV.out.keep hW (Nat.le_refl _)) (HV.out.keep hW (Nat.le_refl _)) (HT.out.below (HBW.out.tr hW))
        rw [hself] at HS
        have HIB := hide fun (W : World) (hW : Below wr.heap.size wr W) => IH.out m l[k].body pb cb W (by omega) (by omega) hwb (by omega) (hbo.has (has_below hW)) (HT.out.below (HBW.out.tr hW)) (cell_keep HLK.out (HBW.out.tr hW) (Nat.le_refl _)) (cell_keep HXK.out (HBW.out.tr hW) (Nat.le_refl _))
        have HIE := hide fun (W : World) (hW : Below wr.heap.size wr W) => IH.out m l[k].els pe ce W (by omega) (by omega) hwe (by omega) (hel.has (has_below hW)) (HT.out.below (HBW.out.tr hW)) (cell_keep HLK.out (HBW.out.tr hW) (Nat.le_refl _)) (cell_keep HXK.out (HBW.out.tr hW) (Nat.le_refl _))
        have HBX : Hid ((wr.alloc (.cells #[.int .i64 l[k].kind, .int .i64 l[k].no, .string ⟨l[k].name.toArray⟩, .int .i64 l[k].typ, .string ⟨l[k].callee.toArray⟩, .slice pa l[k].args.length ca, .slice pb l[k].body.length cb, .slice pe l[k].els.length ce] 34)).heap[wr.heap.size]? = some (.cells #[.int .i64 l[k].kind, .int .i64 l[k].no, .string ⟨l[k].name.toArray⟩, .int .i64 l[k].typ, .string ⟨l[k].callee.toArray⟩, .slice pa l[k].args.length ca, .slice pb l[k].body.length cb, .slice pe l[k].els.length ce] 34 (0, 0))) := hide (heap_alloc_new _ _)
        clear ha hbo hel hw hself hargs hhead hwb hwe hcnt hcm hmem
        go_wp2_with fail
        obtain ⟨wo, rfl⟩ : ∃ wo : World, wo = wr := ⟨_, rfl⟩
        go_loopw [18] (fun i wr => ∃ j : Nat, j ≤ l[k].args.length ∧ i = .int .i64 j ∧ Hid (wr.heap[wo.heap.size]? = some (.cells #[.int .i64 l[k].kind, .int .i64 l[k].no, .string ⟨l[k].name.toArray⟩, .int .i64 l[k].typ, .string ⟨l[k].callee.toArray⟩, .slice pa l[k].args.length ca, .slice pb l[k].body.length cb, .slice pe l[k].els.length ce] 34 (0, 0))) ∧ Hid (Below wo.heap.size wo wr)) (fun i _ => l[k].args.length - (intOf i).toNat)
        case atStart => exact ⟨0, Nat.zero_le _, rfl, HBX.out, (bl wo).al _⟩
        case round =>
          obtain ⟨j, hj, rfl, HB, HBI⟩ := hrel
          have HW2 := hide (HBW.out.tr HBI.out)
          by_cases hjt : j < l[k].args.length
          · obtain ⟨b2, o2, rfl⟩ := HA.out.addr (by omega)
            obtain ⟨a', cap', d0, d1, d2, d3, d4, hw', hr'⟩ := ((HA.out.get j hjt).keep HBI.out (Nat.le_refl _)).val
            have HE := hide (Ex.Val.mk hw' hr')
            have HD := hide (HARG.out _ (List.getElem_mem hjt))
            have hlk1 := cell_keep HLK.out HW2.out (Nat.le_refl _)
            have hlb : lb < wr.heap.size := cell_lt hlk1
            clear hw' hr'
            go_wp2_with fail
            refine (look_any lb ob 20 l[k].args[j] _ _ (by omega) HD.out (HE.out.keep ((bl wr).al _) (Nat.le_refl _)) (HT.out.below (HW2.out.al _)) (cell_keep hlk1 ((bl wr).al _) (Nat.le_refl _))).mono ?_
            rintro r w2 ⟨rfl, hb2⟩
            have hb3 := ((bl wr).al (.cells #[.int .i64 l[k].args[j].kind, .int .i64 l[k].args[j].op, .int .i64 l[k].args[j].num, .string ⟨l[k].args[j].name.toArray⟩, .slice a' l[k].args[j].args.length cap'] 27)).tr hb2
            have HB3 := hide ((hb3.block _ (Array.getElem?_eq_some_iff.1 HB.out).1).trans HB.out)
            have HBI3 := hide (HBI.out.tr hb3)
            clear hb2 hb3
            go_wp2_with fail
            go_roundw
            case rel => exact ⟨j + 1, by omega, by go_num, HB3.out, HBI3.out⟩
            case measure => simp [intOf]; omega
          · obtain rfl : j = l[k].args.length := by omega
            have x0 := cell_at (j := 0) HB.out rfl
            have x1 := cell_at (j := 1) HB.out rfl
            have x2 := cell_at (j := 2) HB.out rfl
            have x3 := cell_at (j := 3) HB.out rfl
            have x4 := cell_at (j := 4) HB.out rfl
            have x5 := cell_at (j := 5) HB.out rfl
            have x6 := cell_at (j := 6) HB.out rfl
            have x7 := cell_at (j := 7) HB.out rfl
            have hxl := (Array.getElem?_eq_some_iff.1 HB.out).1
            go_wp2_with fail
            (with_reducible refine (HS.out _ HBI.out).mono ?_)
            rintro r w1 ⟨rfl, hb1⟩
            have HB1 := hide ((hb1.block _ hxl).trans HB.out)
            have HBI1 := hide (HBI.out.tr hb1)
            clear x0 x1 x2 x3 x4 x5 x6 x7
            have x6 := cell_at (j := 6) HB1.out rfl
            have hxl1 := Nat.lt_of_lt_of_le hxl hb1.size
            have hxk1 := cell_keep HXK.out (HBW.out.tr HBI1.out) (Nat.le_refl _)
            have hxb : xb < w1.heap.size := cell_lt hxk1
            clear hb1
            go_wp2_with fail
            (with_reducible refine (HIB.out _ HBI1.out).mono ?_)
            rintro r w2 ⟨rfl, hb2⟩
            have HB2 := hide ((hb2.block _ hxl1).trans HB1.out)
            have HBI2 := hide (HBI1.out.tr hb2)
            clear x6 hxk1
            have x7 := cell_at (j := 7) HB2.out rfl
            have hxk2 := cell_keep HXK.out (HBW.out.tr HBI2.out) (Nat.le_refl _)
            have hxb2 : xb < w2.heap.size := cell_lt hxk2
            have hxl2 := Nat.lt_of_lt_of_le hxl1 hb2.size
            clear hb2
            go_wp2_with fail
            (with_reducible refine (HIE.out _ HBI2.out).mono ?_)
            rintro r w3 ⟨rfl, hb3⟩
            have HBW3 := hide ((HBW.out.tr HBI2.out).tr hb3)
            clear x7 hxk2 hb3
            go_wp2_with fail
            go_roundw
            case rel => exact ⟨k + 1, by omega, by go_num, HBW3.out⟩
            case measure => simp [intOf]; omega
      · obtain rfl : k = l.length := by omega
        go_wp2_with fail
        go_end0
        exact ⟨rfl, HBW.out⟩
end Go.Proofs.YthpmecbekpmijaaGreatDoor
/- ShapeParts returns true for every draft, where the table of blanks is laid: the walk. -/
namespace Go.Proofs.YthpmecbekpmijaaGreatDoor
open Go Go.RowKit
set_option linter.unusedSimpArgs false
set_option linter.unusedVariables false
set_option linter.unnecessarySimpa false
theorem heap_newP {X : World} {g : Nat} {C : Array Value} {t : TypeId} (h : g = X.heap.size) : (X.alloc (.cells C t)).heap[g]? = some (.cells C t (0, 0)) := by
  subst h
  exact heap_alloc_new _ _
set_option maxRecDepth 20000 in
set_option maxHeartbeats 4000000 in
theorem ShapeParts_any (D : List Nat) (a : Option Addr) (cap : Nat) (w : World) (hd : U8s w D a cap) (hT : Tab w) :
    Calls Tryz.prog 3 #[.slice a D.length cap] w fun r w' => r = .returned (.bool true) ∧ Below w.heap.size w w' := by
  have HM := hide fun (W : World) (hW : Below w.heap.size w W) => made_any D a cap W (hd.has (has_below hW))
  obtain ⟨h1, h3, hall⟩ := madeD_ok D
  have HALL := hide hall
  have HT := hide hT
  clear hd hT hall
  go_enter Tryz.func3, Tryz.ntmps3
  have HB0 : Hid (Below w.heap.size w (((w.alloc (.cells #[.bool true] 4)).alloc (.cells #[(.func (.func 8) #[] #[.pointer (some ⟨w.heap.size + 1, 0, none⟩), .pointer (some ⟨w.heap.size, 0, none⟩)])] 24)).alloc (.cells #[(.func (.func 12) #[] #[.pointer (some ⟨w.heap.size + 1, 0, none⟩), .pointer (some ⟨w.heap.size, 0, none⟩), .pointer (some ⟨w.heap.size + 1 + 1, 0, none⟩)])] 31))) := hide ((((bl w).al _).al _).al _)
  have HC0 : Hid (((((w.alloc (.cells #[.bool true] 4)).alloc (.cells #[(.func (.func 8) #[] #[.pointer (some ⟨w.heap.size + 1, 0, none⟩), .pointer (some ⟨w.heap.size, 0, none⟩)])] 24)).alloc (.cells #[(.func (.func 12) #[] #[.pointer (some ⟨w.heap.size + 1, 0, none⟩), .pointer (some ⟨w.heap.size, 0, none⟩), .pointer (some ⟨w.heap.size + 1 + 1, 0, none⟩)])] 31))).cell? ⟨w.heap.size, 0, none⟩ = some (.bool true)) := hide (cell_at (j := 0) ((Below.heap_alloc _ _ _ (by simp; omega)).trans ((Below.heap_alloc _ _ _ (by simp)).trans (heap_alloc_new w _))) rfl)
  have HC1 : Hid (((((w.alloc (.cells #[.bool true] 4)).alloc (.cells #[(.func (.func 8) #[] #[.pointer (some ⟨w.heap.size + 1, 0, none⟩), .pointer (some ⟨w.heap.size, 0, none⟩)])] 24)).alloc (.cells #[(.func (.func 12) #[] #[.pointer (some ⟨w.heap.size + 1, 0, none⟩), .pointer (some ⟨w.heap.size, 0, none⟩), .pointer (some ⟨w.heap.size + 1 + 1, 0, none⟩)])] 31))).cell? ⟨w.heap.size + 1, 0, none⟩ = some (.func (.func 8) #[] #[.pointer (some ⟨w.heap.size + 1, 0, none⟩), .pointer (some ⟨w.heap.size, 0, none⟩)])) := hide (cell_at (j := 0) ((Below.heap_alloc _ _ _ (by simp)).trans (heap_newP (by simp))) rfl)
  have HC2 : Hid (((((w.alloc (.cells #[.bool true] 4)).alloc (.cells #[(.func (.func 8) #[] #[.pointer (some ⟨w.heap.size + 1, 0, none⟩), .pointer (some ⟨w.heap.size, 0, none⟩)])] 24)).alloc (.cells #[(.func (.func 12) #[] #[.pointer (some ⟨w.heap.size + 1, 0, none⟩), .pointer (some ⟨w.heap.size, 0, none⟩), .pointer (some ⟨w.heap.size + 1 + 1, 0, none⟩)])] 31))).cell? ⟨w.heap.size + 1 + 1, 0, none⟩ = some (.func (.func 12) #[] #[.pointer (some ⟨w.heap.size + 1, 0, none⟩), .pointer (some ⟨w.heap.size, 0, none⟩), .pointer (some ⟨w.heap.size + 1 + 1, 0, none⟩)])) := hide (cell_at (j := 0) (heap_newP (by simp)) rfl)
  go_wp2_with fail
  refine (HM.out _ HB0.out).mono ?_
  rintro r w1 ⟨⟨v, rfl, hown⟩, hb1⟩
  obtain ⟨fa, fc, rfl, hfn⟩ := hown.fns (by simp)
  have HF := hide (hfn.has has_av)
  have HB1 := hide (HB0.out.tr hb1)
  have HD0 := hide (cell_keep HC0.out hb1 (Nat.le_refl _))
  have HD1 := hide (cell_keep HC1.out hb1 (Nat.le_refl _))
  have HD2 := hide (cell_keep HC2.out hb1 (Nat.le_refl _))
  clear hown hb1 hfn HC0 HC1 HC2 HB0 HM
  generalize madeD D = l at *
  have hlen : l.length ≤ 3 := h3
  have hfld : ∀ W, (Instr.field 38 (.agg #[.slice fa l.length fc]) 0).run Tryz.prog W = .ok (.slice fa l.length fc) W := fun _ => by kernel_rfl
  go_wp2_with fail
  clear hfld
  go_loopw [14] (fun i wr => ∃ k : Nat, k ≤ l.length ∧ i = .int .i64 k ∧ Hid (Below w1.heap.size w1 wr)) (fun i _ => l.length - (intOf i).toNat)
  case atStart => exact ⟨0, Nat.zero_le _, rfl, bl _⟩
  case round =>
    obtain ⟨k, hk, rfl, HB⟩ := hrel
    have HT1 := hide (HT.out.below (HB1.out.tr HB.out))
    by_cases hlt : k < l.length
    · obtain ⟨b, o, rfl⟩ := HF.out.addr (by omega)
      obtain ⟨pp, pb, cp, cb, c0, c1, c2, c3, c4, hfw, hps, hrow⟩ := (HF.out.at_ b o rfl k hlt).has (has_below HB.out)
      obtain ⟨hwl, hcn, hp8⟩ := fn_parts (HALL.out _ (List.getElem_mem hlt)).1
      have hxk := cell_keep HD2.out HB.out (Nat.le_refl _)
      have hxl := cell_lt hxk
      simp only at hxl
      have HW := hide fun (W : World) (hW : Below wr.heap.size wr W) => walk_any (w.heap.size + 1) w.heap.size (w.heap.size + 1 + 1) _ 20 l[k].body pb cb W (Nat.lt_succ_self _) (Nat.le_refl _) hwl hcn (hrow.has (has_below hW)) (HT1.out.below hW) (cell_keep HD1.out (HB.out.tr hW) (Nat.le_refl _)) (cell_keep HD2.out (HB.out.tr hW) (Nat.le_refl _))
      clear hfw hps hrow hwl hcn hp8
      go_wp2_with fail
      (with_reducible refine (HW.out _ ((bl wr).al _)).mono ?_)
      rintro r w2 ⟨rfl, hb2⟩
      have HB2 := hide ((HB.out.al _).tr hb2)
      clear hb2
      go_wp2_with fail
      go_roundw
      case rel => exact ⟨k + 1, by omega, by go_num, HB2.out⟩
      case measure => simp [intOf]; omega
    · obtain rfl : k = l.length := by omega
      have hc0 := cell_keep HD0.out HB.out (Nat.le_refl _)
      have hcl := cell_lt hc0
      simp only at hcl
      go_wp2_with fail
      refine (works_any _ HT1.out).mono ?_
      rintro r w2 ⟨rfl, hb2⟩
      have HB2 := hide ((HB1.out.tr HB.out).tr hb2)
      clear hb2
      go_wp2_with fail
      go_ret
      exact ⟨rfl, HB2.out⟩
end Go.Proofs.YthpmecbekpmijaaGreatDoor
namespace Go.Proofs.YthpmecbekpmijaaGreatDoor.PrSParts
open Go Go.ChangeShapes Go.WideShapes Go.ChangeAt Go.RowKit
set_option linter.unusedSimpArgs false
set_option linter.unusedVariables false
set_option linter.unnecessarySimpa false
theorem laidOut : laidOutB Tryz.prog = true := by kernel_rfl
/-- What came in reads behind the call as it did. -/
theorem stay {H : Type} {enc : TypeId × Value → H} {W W' : World} {sp : Nat → Bool} {t : TypeId} {v : Value} {d : DataW H} {ps : List MemPlace} (hr : Tryz.prog.readableRec t = true) (hrow : t < Tryz.prog.types.size)
    (h : DataW.Trod enc Tryz.prog W 0 (fun _ => true) true t v d ps) (hb : Below W.heap.size W W') (hs : ∀ p ∈ ps, sp p.block = true) : DataW.Trod enc Tryz.prog W' 0 sp true t v d ps := by
  refine WideElems.Trod_stays laidOut hr hrow h (fun p hp => ?_) hs
  obtain ⟨n, hn⟩ := h
  have hlt := DataW.trod_lt n t _ _ hn p hp
  cases p with
  | cell b o => exact hb.cell (p := ⟨b, o, none⟩) hlt
  | map b => exact hb.block b hlt
set_option maxRecDepth 100000 in
theorem lifted (os : Os) (started : os.Started) (H : Type) (enc : TypeId × Value → H) :
    ReturnsInHanded {} Tryz.checked os 3 .any (fun w args => (Rows.shapePartsSpec.pre enc Tryz.prog Tryz.f3 [] false w args ∧ laidMetH Tryz.prog Rows.shapePartsRow.laid w) ∧ sizedMet enc Tryz.prog Tryz.f3 (OpenSpec.ofChange Rows.shapePartsSpec) false w args)
      (Rows.shapePartsSpec.post enc Tryz.prog Tryz.f3 false true false false) := by
  refine returnsInHanded_of_change_and (C := Tryz.checked) (X := fun w _ => laidMetH Tryz.prog Rows.shapePartsRow.laid w) (fun _ _ _ hh h => h.of_heap hh) own started (by kernel_rfl) Tryz.func3
    (witness_laid #[.slice none 0 0] 8 (by kernel_rfl) (by kernel_rfl) (by kernel_rfl) (by kernel_rfl) (by kernel_rfl) (by kernel_rfl) (by kernel_rfl)) ?_
  intro W base args ds gs before hval0 hW _ _ hL _
  have hval : ∀ (j : Nat) t v, Tryz.f3.params[j]? = some t → args[j]? = some v → Value.okWide Tryz.prog W .any base t v := hval0
  have hW' := hW
  obtain ⟨p, q, hA0, hV, rfl, hfz, hnd⟩ := hW
  have hA : DataW.TrodAll enc Tryz.prog W 0 (fun _ => true) true Tryz.f3.params.toList args.toList ds p := hA0
  rw [Tryz.params3] at hA hval
  obtain ⟨v0, vs0, d0, ds0, p0, q0, hargs, rfl, rfl, h0, r0⟩ := trodAll_cons hA
  obtain ⟨rfl, rfl, rfl⟩ := trodAll_nil r0
  obtain rfl : args = #[v0] := by cases args; simp_all
  obtain ⟨rfl, rfl⟩ := trodVars_none hV
  obtain ⟨D0, a0, c0, hv0, hl0⟩ := read_draft (hval 0 23 v0 rfl rfl) h0
  subst hv0
  clear hA0 hval0
  refine (ShapeParts_any D0 a0 c0 W hl0 (tab_of_laid hL)).mono fun r W' ⟨hr, hb⟩ => ?_
  subst hr
  exact ⟨_, rfl, post_of_below (pa := (p0 ++ [])) (pv := []) hW' (fun _ _ _ => (trodAll_cons_mk (shut_bool Tryz.underlying4 _) trodAll_mk0))
    (fun sp hsp => (trodAll_cons_mk (stay (by kernel_rfl) (of_decide_eq_true (by kernel_rfl)) h0 hb (fun p hp => hsp p (by simp [hp]))) trodAll_mk0)) (fun _ _ => rfl) rfl
    hb (ok_one (by kernel_rfl) rfl (okWide_bool_mk Tryz.underlying4 _))⟩
theorem over : Rows.shapePartsRow.holds Tryz.pinned (OpenSpec.ofChange Rows.shapePartsSpec) :=
  OpenClaim.holds_of_wide 3 Tryz.f3 rfl rfl rfl rfl rfl rfl rfl ⟨rfl, rfl, rfl, rfl, rfl⟩ rfl rfl rfl rfl rfl (by kernel_rfl) Tryz.func3 (by kernel_rfl)
    (of_decide_eq_true (by kernel_rfl)) (by unfold Func.isWrapper; first | (rw [if_pos (by decide +kernel)]; kernel_rfl) | (rw [if_neg (by decide +kernel)]; exact ⟨rfl, rfl⟩))
    (fun os started H enc _ => lifted os started H enc)
end Go.Proofs.YthpmecbekpmijaaGreatDoor.PrSParts
namespace Go.Proofs.YthpmecbekpmijaaGreatDoor
open Go
theorem shapeParts_proved : Rows.ShapePartsCardSaid :=
  Claim7.holds_tied_plain_at .later [] [.data, .listed, .data, .pinned] true (true, "f1029df70603543d5481013e3a44e28bed87f83257e9a103e9b9a1ccaf4ca870") false
    PrSParts.over (fun _ h => by cases h) (by kernel_rfl) (fun _ h => by cases h) shapeParts_row_tie rfl ⟨rfl, rfl⟩ (by kernel_rfl) rfl
    (fun f fn hf hfn => by
      obtain rfl : f = 3 := Option.some.inj ((show Tryz.prog.funcNamed "rewind/rewindlaw03.ShapeParts" = some 3 by kernel_rfl).symm.trans hf) |>.symm
      obtain rfl : fn = Tryz.f3 := (Option.some.inj (Tryz.func3.symm.trans hfn)).symm
      exact ⟨by kernel_rfl, fun j t ht => by
        rw [Tryz.params3] at ht
        have h3 : t = 23 := by
          rcases j with _ | j
          all_goals simp at ht
          · exact ht.symm
        rcases h3 with rfl
        · exact (show Tryz.prog.wantsStandIn 23 = false by kernel_rfl)⟩)
    (by kernel_rfl)
#print axioms shapeParts_proved
end Go.Proofs.YthpmecbekpmijaaGreatDoor
