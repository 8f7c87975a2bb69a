/- NamesOnce returns true for every input, whatever the world is in which the table of blanks is laid as the program lays it, and the input reads as it did. No further condition. -/
import Derived.Test.YtccgpmncpemmdaaDoorShC
import Derived.ProofKit
import Derived.OpenShut
import Derived.Test.YtccgpmncpemmdaaDoorDnE
import Derived.Test.YtccgpmncpemmdaaDoorRows
import Derived.Test.YtccgpmncpemmdaaDoorShA
import Derived.Lay
import Derived.MakeChecks
import Derived.Handed
import Derived.ChangeSame
import Derived.Test.YtccgpmncpemmdaaDoorDnA
import Derived.Test.YtccgpmncpemmdaaDoorNmC
import Derived.Test.YtccgpmncpemmdaaDoorIn
import Derived.Test.YtccgpmncpemmdaaDoorRg
import Derived.WalkKit
import Derived.OwnWalk
import Derived.Test.YtccgpmncpemmdaaDoorNmA
import Derived.Test.YtccgpmncpemmdaaDoorNmJ
import Derived.BigQuiet
import Derived.Test.YtccgpmncpemmdaaDoorTie
import Derived.Test.YtccgpmncpemmdaaDoorCards
import Derived.SevenTiedAt
import Derived.WideKeyArgs
import Derived.ChangeMaps5
/- Slices that come in: a list of whatever their elements read as. -/
namespace Go.Proofs.YtccgpmncpemmdaaDoor
open Go Go.RowKit Go.WideShapes Go.ChangeShapes
set_option linter.unusedSimpArgs false
set_option linter.unusedVariables false
set_option linter.unnecessarySimpa false
/-- The slice a, cap holds things that lie, sz cells each, as At says. -/
structure Sl {α : Type} (sz : Nat) (At : α → Nat → Nat → Prop) (l : List α) (a : Option Addr) (cap : Nat) : Prop where
  len : l.length ≤ cap
  cap : cap ≤ maxLen
  addr : 0 < l.length → ∃ b o, a = some ⟨b, o, none⟩
  at_ : ∀ (b o : Nat), a = some ⟨b, o, none⟩ → ∀ (i : Nat) (h : i < l.length), At l[i] b (o + i * sz)
section
variable {H : Type} {enc : TypeId × Value → H} {W : World} {sp : Nat → Bool} {held : Bool} {P : Program}
theorem read_slice {α : Type} {T E : TypeId} {sz : Nat} (At : α → Nat → Nat → Prop) (hu : P.underlying T = some (.slice E)) (hc : P.cellsOf E = sz) (h0 : 0 < sz) {n : Nat} {v : Value} {x : DataW H × List MemPlace}
    (helem : ∀ (n : Nat) (cs : List Value) (x : DataW H × List MemPlace), DataW.trod enc P W 0 sp held n E cs = some x → ∃ y : α, ∀ b o, (∀ j u, cs[j]? = some u → W.cell? ⟨b, o + j, none⟩ = some u) → At y b o)
    (h : DataW.trod enc P W 0 sp held n T [v] = some x) : ∃ (l : List α) (a : Option Addr) (cap : Nat), v = .slice a l.length cap ∧ Sl sz At l a cap := by
  rcases DataW.trod_slice hu h with ⟨e4, _⟩ | ⟨a', len, cap, elems, rest, n2, hn2, e4, _, hb, hlc, hcm, hel, hall, _, _⟩
  · simp only [List.cons.injEq, and_true] at e4
    exact ⟨[], none, 0, e4, ⟨Nat.le_refl _, Nat.zero_le _, by simp, fun b o e => by cases e⟩⟩
  · simp only [List.cons.injEq, and_true] at e4
    subst e4
    have key : ∀ i, i < len → ∃ (b o : Nat) (y : α), a'.add (i * sz) = ⟨b, o, none⟩ ∧ At y b o := by
      intro i hi
      have h1 := hall i hi
      rw [List.getElem?_eq_getElem (by omega), hc] at h1
      obtain ⟨cs', h2, h3⟩ := Option.bind_eq_some_iff.1 h1
      obtain ⟨_, hl, hg⟩ := World.cells?_some h2
      obtain ⟨y, hy⟩ := helem _ _ _ h3
      have hs : (a'.add (i * sz)).spot = none := by
        have := hg 0 h0
        rw [List.getElem?_eq_getElem (by omega)] at this
        exact World.cell?_spot this
      generalize a'.add (i * sz) = q at *
      obtain ⟨b, o, s⟩ := q
      have hs : s = none := hs
      subst hs
      exact ⟨b, o, y, rfl, hy b o fun j u hu => by
        have hj : j < sz := by have := (List.getElem?_eq_some_iff.1 hu).1; omega
        have h4 := hg j hj
        rw [hu, Addr.add_lit] at h4
        exact h4⟩
    by_cases hz : len = 0
    · subst hz
      exact ⟨[], some a', cap, rfl, ⟨Nat.zero_le _, hcm, by simp, fun b o e i hi => absurd hi (Nat.not_lt_zero _)⟩⟩
    · obtain ⟨b0, o0, _, ha0, _⟩ := key 0 (by omega)
      have ha : a' = ⟨b0, o0, none⟩ := by simpa [Addr.add] using ha0
      subst ha
      have key2 : ∀ i, i < len → ∃ y : α, At y b0 (o0 + i * sz) := fun i hi => by
        obtain ⟨b', o', x, he, hat⟩ := key i hi
        rw [Addr.add_lit] at he
        simp only [Addr.mk.injEq, and_true] at he
        obtain ⟨rfl, rfl⟩ := he
        exact ⟨x, hat⟩
      refine ⟨(List.finRange len).map fun i => (key2 i.1 i.2).choose, some ⟨b0, o0, none⟩, cap, by simp, ⟨by simpa using hlc, hcm, fun _ => ⟨_, _, rfl⟩, ?_⟩⟩
      intro b o e i hi
      simp only [Option.some.injEq, Addr.mk.injEq, and_true] at e
      obtain ⟨rfl, rfl⟩ := e
      have hi' : i < len := by simpa using hi
      have := (key2 i hi').choose_spec
      simpa using this
theorem read_arg {α : Type} {T E : TypeId} {sz : Nat} (At : α → Nat → Nat → Prop) (hu : P.underlying T = some (.slice E)) (hc : P.cellsOf E = sz) (h0 : 0 < sz) {v : Value} {d : DataW H} {p : List MemPlace} {r : Reach} {b0 : Nat}
    (helem : ∀ (n : Nat) (cs : List Value) (x : DataW H × List MemPlace), DataW.trod enc P W 0 sp held n E cs = some x → ∃ y : α, ∀ b o, (∀ j u, cs[j]? = some u → W.cell? ⟨b, o + j, none⟩ = some u) → At y b o)
    (hv : Value.okWide P W r b0 T v) (h : DataW.Trod enc P W 0 sp held T v d p) : ∃ (l : List α) (a : Option Addr) (cap : Nat), v = .slice a l.length cap ∧ Sl sz At l a cap := by
  obtain ⟨a, len, cap, rfl⟩ := okWide_slice hu hv
  obtain ⟨n, hn⟩ := h
  exact read_slice At hu hc h0 helem hn
theorem i64_wf {z : Int} (h : (Lit.int .i64 z).wf = true) : I64 z := by
  have h2 : -9223372036854775808 ≤ z ∧ z ≤ 9223372036854775807 := by simpa [Lit.wf, IntKind.min, IntKind.max, IntKind.signed, IntKind.bits] using h
  exact h2
theorem u8_wf {z : Int} (h : (Lit.int .u8 z).wf = true) : 0 ≤ z ∧ z ≤ 255 := by
  simpa [Lit.wf, IntKind.min, IntKind.max, IntKind.signed, IntKind.bits] using h
/-- A number's cell. -/
theorem elem_int {E : TypeId} (he : P.underlying E = some (.int .i64)) (n : Nat) (cs : List Value) (x : DataW H × List MemPlace) (h : DataW.trod enc P W 0 sp held n E cs = some x) : ∃ z : Int, I64 z ∧ cs = [.int .i64 z] := by
  obtain ⟨z, e0, _, w0⟩ := DataW.trod_int he h
  exact ⟨z, i64_wf w0, e0⟩
theorem elem_u8 {E : TypeId} (he : P.underlying E = some (.int .u8)) (n : Nat) (cs : List Value) (x : DataW H × List MemPlace) (h : DataW.trod enc P W 0 sp held n E cs = some x) : ∃ z : Nat, z ≤ 255 ∧ cs = [.int .u8 (z : Nat)] := by
  obtain ⟨z, e0, _, w0⟩ := DataW.trod_int he h
  have := u8_wf w0
  refine ⟨z.toNat, by omega, ?_⟩
  rw [Int.toNat_of_nonneg this.1]
  exact e0
/-- A string's cell. -/
theorem elem_str {E : TypeId} (he : P.underlying E = some .string) (n : Nat) (cs : List Value) (x : DataW H × List MemPlace) (h : DataW.trod enc P W 0 sp held n E cs = some x) : ∃ s : Bytes, s.length ≤ maxLen ∧ cs = [.string ⟨s.toArray⟩] := by
  obtain ⟨s, e0, _, w0⟩ := DataW.trod_string he h
  refine ⟨s.data.toList, by rw [Array.length_toList]; exact w0, ?_⟩
  have hs : (⟨s.data.toList.toArray⟩ : ByteArray) = s := by simp
  rw [hs]
  exact e0
/-- A bool's cell. -/
theorem elem_bool {E : TypeId} (he : P.underlying E = some .bool) (n : Nat) (cs : List Value) (x : DataW H × List MemPlace) (h : DataW.trod enc P W 0 sp held n E cs = some x) : ∃ b : Bool, cs = [.bool b] := by
  obtain ⟨b, e0, _⟩ := DataW.trod_bool he h
  exact ⟨b, e0⟩
/-- The fields of a struct. -/
theorem elem_struct {T : TypeId} {fs : Array Field} (ht : P.underlying T = some (.struct fs)) {n : Nat} {cs : List Value} {x : DataW H × List MemPlace} (h : DataW.trod enc P W 0 sp held n T cs = some x) :
    cs.length = P.cellsOf T ∧ ∀ (i : Nat) (f : Field), fs[i]? = some f → ∃ (m : Nat) (y : DataW H × List MemPlace), DataW.trod enc P W 0 sp held m f.type ((cs.drop f.offset).take (P.cellsOf f.type)) = some y := by
  obtain ⟨xs, n1, _, _, hl, hxl, hf⟩ := DataW.trod_struct ht h
  refine ⟨hl, fun i f hi => ?_⟩
  have h1 := hf i f hi
  have h2 : i < xs.length := by rw [hxl]; exact (Array.getElem?_eq_some_iff.1 hi).1
  rw [List.getElem?_eq_getElem h2] at h1
  exact ⟨n1, _, h1⟩
end
end Go.Proofs.YtccgpmncpemmdaaDoor
/- Drafts of layer 10 that come in. -/
namespace Go.Proofs.YtccgpmncpemmdaaDoor
open Go Go.RowKit Go.WideShapes Go.ChangeShapes
set_option linter.unusedSimpArgs false
set_option linter.unusedVariables false
set_option linter.unnecessarySimpa false
set_option maxRecDepth 100000
section
variable {H : Type} {enc : TypeId × Value → H} {W : World} {sp : Nat → Bool} {held : Bool}
theorem u16_wf {z : Int} (h : (Lit.int .u16 z).wf = true) : 0 ≤ z ∧ z ≤ 65535 := by
  simpa [Lit.wf, IntKind.min, IntKind.max, IntKind.signed, IntKind.bits] using h
def ByteAt (W : World) (z : Nat) (b o : Nat) : Prop := z ≤ 255 ∧ W.cell? ⟨b, o, none⟩ = some (.int .u8 (z : Nat))
theorem elem_byteAt (n : Nat) (cs : List Value) (x : DataW H × List MemPlace) (h : DataW.trod enc Tryd.prog W 0 sp held n 5 cs = some x) : ∃ y : Nat, ∀ b o, (∀ j u, cs[j]? = some u → W.cell? ⟨b, o + j, none⟩ = some u) → ByteAt W y b o := by
  obtain ⟨z, hz, rfl⟩ := elem_u8 Tryd.underlying5 n cs x h
  exact ⟨z, fun b o hc => ⟨hz, hc 0 _ rfl⟩⟩
theorem Sl.bys {l : List Nat} {a : Option Addr} {cap : Nat} (h : Sl 1 (ByteAt W) l a cap) : Bys W l a cap :=
  ⟨h.len, h.cap, h.addr, fun b o e i hi => by have := h.at_ b o e i hi; rwa [Nat.mul_one] at this⟩
theorem read_bys0 {n : Nat} {v : Value} {x : DataW H × List MemPlace} (h : DataW.trod enc Tryd.prog W 0 sp held n 36 [v] = some x) : ∃ (l : List Nat) (a : Option Addr) (cap : Nat), v = .slice a l.length cap ∧ Bys W l a cap := by
  obtain ⟨l, a, cap, rfl, hs⟩ := read_slice (ByteAt W) Tryd.underlying36 (by kernel_rfl : Tryd.prog.cellsOf 5 = 1) (by decide) elem_byteAt h
  exact ⟨l, a, cap, rfl, hs.bys⟩
theorem read_drn {r : Reach} {b0 : Nat} {v : Value} {d : DataW H} {p : List MemPlace} (hv : Value.okWide Tryd.prog W r b0 38 v) (h : DataW.Trod enc Tryd.prog W 0 sp held 38 v d p) : ∃ P C : List Nat, DrN W P C v := by
  obtain ⟨cs, rfl, _⟩ := okWide_struct Tryd.underlying38 hv
  obtain ⟨n, hn⟩ := h
  have hn' : DataW.trod enc Tryd.prog W 0 sp held n 38 cs.toList = some (d, p) := hn
  obtain ⟨hl, hf⟩ := elem_struct Tryd.underlying38 hn'
  have hl2 : cs.toList.length = 2 := hl.trans (by kernel_rfl)
  have csl : Tryd.prog.cellsOf 36 = 1 := by kernel_rfl
  obtain ⟨l⟩ := cs
  match l, hl2, hf with
  | [v0, v1], _, hf =>
    have g0 : ∃ m y, DataW.trod enc Tryd.prog W 0 sp held m 36 (([v0, v1].drop 0).take (Tryd.prog.cellsOf 36)) = some y := hf 0 _ rfl
    have g1 : ∃ m y, DataW.trod enc Tryd.prog W 0 sp held m 36 (([v0, v1].drop 1).take (Tryd.prog.cellsOf 36)) = some y := hf 1 _ rfl
    obtain ⟨m0, y0, f0⟩ := g0
    obtain ⟨m1, y1, f1⟩ := g1
    simp only [csl, List.drop_zero, List.drop_succ_cons, List.take_succ_cons, List.take_zero] at f0 f1
    obtain ⟨l0, a0, c0, rfl, hb0⟩ := read_bys0 f0
    obtain ⟨l1, a1, c1, rfl, hb1⟩ := read_bys0 f1
    exact ⟨l0, l1, a0, c0, a1, c1, rfl, hb0, hb1⟩
end
end Go.Proofs.YtccgpmncpemmdaaDoor
/- What a row of this seat needs: its condition gives the table of blanks; a world that meets it; the last step of a row. -/
namespace Go.Proofs.YtccgpmncpemmdaaDoor
open Go Go.RowKit Go.WideShapes Go.ChangeShapes
set_option linter.unusedSimpArgs false
set_option linter.unusedVariables false
set_option linter.unnecessarySimpa false
theorem own : ownKnob Tryd.prog.godebug = none := by kernel_rfl
/-- The list of laid variables of every row of this seat. -/
def theLaid : List (String × DataW Unit) := [("unicode/utf8.acceptRanges", Rows.laid_unicode_utf8_acceptRanges), ("unicode.White_Space", Rows.laid_unicode_White_Space), ("strings.asciiSpace", Rows.laid_strings_asciiSpace), ("unicode/utf8.first", Rows.laid_unicode_utf8_first)]
theorem space_data : (Rows.laid_strings_asciiSpace : DataW Unit) = Lib.tabData .u8 Lib.asciiSpaceTab := by kernel_rfl
/-- What a row's condition says of one of the listed variables. -/
theorem laid_get0 {P : Program} {W : World} : ∀ {l : List (String × DataW Unit)} {ps : List MemPlace}, DataW.LaidVars P W l ps → ∀ {n : String} {d : DataW Unit}, (n, d) ∈ l →
    ∃ g t cs fuel p, P.globalNamed n = some g ∧ (P.globals[g]?).map (·.type) = some t ∧ W.var? P n = some cs ∧ DataW.trod (fun _ => ()) P W 0 (fun _ => true) false fuel t cs.toList = some (d, p)
  | [], _, _, _, _, hm => by cases hm
  | (m, e) :: l, ps, h, n, d, hm => by
    obtain ⟨g, t, cs, fuel, p, q, h1, h2, h3, h4, h5, _⟩ := h
    cases hm with
    | head => exact ⟨g, t, cs, fuel, p, h1, h2, h3, h4⟩
    | tail _ hm => exact laid_get0 h5 hm
theorem laid_get {W : World} (h : laidMetH Tryd.prog theLaid W) {n : String} {d : DataW Unit} (hm : (n, d) ∈ theLaid) :
    ∃ g t cs fuel p, Tryd.prog.globalNamed n = some g ∧ (Tryd.prog.globals[g]?).map (·.type) = some t ∧ W.var? Tryd.prog n = some cs ∧ DataW.trod (fun _ => ()) Tryd.prog W 0 (fun _ => true) false fuel t cs.toList = some (d, p) := by
  rw [MakeChecks.laidMetH_plain _ _ _ (by kernel_rfl)] at h
  obtain ⟨ps, h, _⟩ := h
  exact laid_get0 h hm
/-- What a row's condition on the listed variables gives a walk. -/
theorem tab_of_laid {W : World} (h : laidMetH Tryd.prog theLaid W) : Tab W := by
  obtain ⟨g', t', cs, fuel, p, hg', ht', hvar, hd⟩ := laid_get h (n := "strings.asciiSpace") (d := Rows.laid_strings_asciiSpace) (by unfold theLaid; repeat (first | exact List.mem_cons_self | apply List.mem_cons_of_mem))
  have hg : Tryd.prog.globalNamed "strings.asciiSpace" = some 0 := by kernel_rfl
  obtain rfl := Option.some.inj (hg.symm.trans hg')
  obtain rfl := Option.some.inj ((show (Tryd.prog.globals[0]?).map (·.type) = some 150 by kernel_rfl).symm.trans ht')
  rw [space_data] at hd
  unfold Tab Lib.TabIs
  rw [hvar, ← Lib.cells_of_tab Tryd.underlying150 Tryd.underlying5 (by kernel_rfl) (by kernel_rfl) hd]
/-- A world that meets every row's condition on the listed variables. -/
theorem witness_laid {os : Os} {H : Type} {enc : TypeId × Value → H} {f : FuncId} {fn : Func} {s : ChangeSpec} (args : Array Value) (fuel : Nat)
    (hv : ((World.laidAll Tryd.prog os theLaid).forCall (fun _ _ => 0) ⟨#[], args, []⟩).variablesZipB Tryd.prog = true)
    (hr : (((World.laidAll Tryd.prog os theLaid).forCall (fun _ _ => 0) ⟨#[], args, []⟩).heap.toList.drop Tryd.prog.globals.size).take ((begin Tryd.prog (fun _ _ => 0) default).world.heap.size - Tryd.prog.globals.size) =
      (begin Tryd.prog (fun _ _ => 0) default).world.heap.toList.drop Tryd.prog.globals.size)
    (hok : Input.okWideB Tryd.prog ((World.laidAll Tryd.prog os theLaid).forCall (fun _ _ => 0) ⟨#[], args, []⟩) f ⟨#[], args, []⟩ = true)
    (hpre : s.preB enc Tryd.prog fn [] false ((World.laidAll Tryd.prog os theLaid).forCall (fun _ _ => 0) ⟨#[], args, []⟩).memory args fuel = true)
    (hsz : s.sizedB enc Tryd.prog fn false ((World.laidAll Tryd.prog os theLaid).forCall (fun _ _ => 0) ⟨#[], args, []⟩).memory args fuel = true)
    (hf : (World.holding Tryd.prog os ⟨#[], #[], []⟩).layFits Tryd.prog theLaid [] = true)
    (hi : (World.holding Tryd.prog os ⟨#[], #[], []⟩).layIfaces Tryd.prog theLaid (World.laidAll Tryd.prog os theLaid) = true) :
    ∃ (w : World) (tape : Tape) (i : Input), w.os = os ∧ (w.forCall tape i).Shaped Tryd.prog ∧ i.vars = [] ∧ Input.okWide Tryd.prog (w.forCall tape i) .any w.heap.size f i ∧
      ((s.pre enc Tryd.prog fn [] false (w.forCall tape i).memory i.args ∧ laidMetH Tryd.prog theLaid (w.forCall tape i).memory) ∧ sizedMet enc Tryd.prog fn (OpenSpec.ofChange s) false (w.forCall tape i).memory i.args) ∧ ({} : Assume).holds Tryd.prog (lone (Frame.enter Tryd.prog f i.args .normal) [] (w.forCall tape i)) :=
  ⟨World.laidAll Tryd.prog os theLaid, fun _ _ => 0, ⟨#[], args, []⟩, World.laidAll_os _ _ _, World.shaped_of_ZipB hv hr, (Input.okWide_of_okWideB (base := 0) hok).1, (Input.okWide_of_okWideB hok).2, ⟨⟨ChangeSpec.pre_of_preB hpre, by
    rw [MakeChecks.laidMetH_plain _ _ _ (by kernel_rfl)]; exact laidMet_laidAll _ hf hi⟩, sizedMet_of_sizedB hsz⟩, by
    simp only [Assume.holds]
    exact ⟨by simp, by simp, fun _ => Modest.zero, by simp, by simp⟩⟩
section
variable {H : Type} {enc : TypeId × Value → H} {P : Program}
/-- The row's last step, where of the call's world one knows that what was there has not turned. -/
theorem post_of_below {f : Func} {s : ChangeSpec} {apart fresh handsOn again : Bool} {W W' : World} {args : Array Value} {v : Value} {ds gs : List (DataW H)} {before pa pv : List MemPlace}
    (hW : DataW.Whole enc P f.params.toList s.vars apart W args.toList ds gs before)
    (hres : ∀ (b : Nat) (sp : Nat → Bool) (hd : Bool), DataW.TrodAll enc P W' b sp hd f.resultTypes.toList (v.resultList f.resultTypes.size) (s.fn H (ds ++ gs)).results [])
    (hargs : ∀ sp : Nat → Bool, (∀ p ∈ before, sp p.block = true) → DataW.TrodAll enc P W' 0 sp true f.params.toList args.toList (s.fn H (ds ++ gs)).args pa)
    (hvars : ∀ sp : Nat → Bool, (∀ p ∈ before, sp p.block = true) → DataW.TrodVars enc P W' sp s.vars (s.fn H (ds ++ gs)).vars pv)
    (hps : before = pa ++ pv) (hb : Below W.heap.size W W')
    (hok : ∀ (j : Nat) (t : TypeId) (r : Value), f.resultTypes[j]? = some t → (v.resultList f.resultTypes.size)[j]? = some r → Value.okWide P W' .any 0 t r) :
    s.post enc P f apart fresh handsOn again W args v W' := by
  have hlt : ∀ p ∈ before, p.block < W.heap.size := fun p hp => hW.lt p hp
  have hold : ∀ p ∈ before, (fun b => decide (b < W.heap.size)) p.block = true := fun p hp => by simpa using hlt p hp
  refine ⟨ds, gs, before, [], pa, pv, hW, hres _ _ _, hargs _ hold, hvars _ hold, World.keptBut_mono (fun p hp => ⟨hp, ?_⟩) (hb.frame (· ∈ before)), fun _ => ?_⟩
  · rw [hps, List.mem_append] at hp
    exact Or.inr hp
  · obtain ⟨_, _, _, _, _, hz, hn⟩ := hW
    refine ⟨hok, _, _, ([] ++ pa) ++ pv, ⟨[] ++ pa, pv, trodAll_append (hargs _ (fun _ _ => rfl)) (hres _ _ _), hvars _ (fun _ _ => rfl), rfl, ?_, ?_⟩, ?_⟩
    · intro b off hp
      have hin : MemPlace.cell b off ∈ before := by rw [hps]; simpa using hp
      rw [hb.frozen (hlt _ hin)]
      exact hz b off hin
    · intro ha
      have := hn ha
      rw [hps] at this
      simpa using this
    · intro p hp _
      rw [hps]
      simpa using hp
end
end Go.Proofs.YtccgpmncpemmdaaDoor
/- NamesOnce, the plain law: what names.Of answers of a function whose names are among 24 words. -/
namespace Go.Proofs.YtccgpmncpemmdaaDoor
open Go Go.RowKit
set_option linter.unusedSimpArgs false
set_option linter.unusedVariables false
set_option linter.unnecessarySimpa false
def decD (l : List St) : List St := (stsL l).filter isVar
theorem decD_nil : decD [] = [] := rfl
theorem decD_app (a b : List St) : decD (a ++ b) = decD a ++ decD b := by
  have h : ∀ a b : List St, stsL (a ++ b) = stsL a ++ stsL b := by
    intro a b
    induction a with
    | nil => rfl
    | cons s a ih => simp only [List.cons_append, stsL, ih, List.append_assoc]
  unfold decD
  rw [h, List.filter_append]
theorem decD_one (s : St) : decD [s] = (if isVar s then [s] else []) ++ decD s.body ++ decD s.els := by
  unfold decD
  rw [stsL, stsL, List.append_nil, St.sts_eq, List.filter_cons, List.filter_append]
  split <;> simp
def oW (f : Fn) : List Bytes := f.params.map (·.name) ++ (decD f.body).map (·.name)
def oN (f : Fn) : List Int := f.params.map (fun _ => (-1 : Int)) ++ (decD f.body).map (·.no)
def oV (f : Fn) : List Vr := f.params.map (pmV f) ++ (decD f.body).map (stV f)
theorem oV_names (f : Fn) : (oV f).map (·.name) = oW f := by
  unfold oV oW
  rw [List.map_append, List.map_map, List.map_map]
  rfl
theorem oV_nos (f : Fn) : (oV f).map (·.no) = oN f := by
  unfold oV oN
  rw [List.map_append, List.map_map, List.map_map]
  rfl
def isWd (s : Bytes) : Prop := ∃ i, i < 24 ∧ s = wdN i
theorem isWd_wdN (b : Nat) : isWd (wdN b) := ⟨b % 24, Nat.mod_lt _ (by omega), by unfold wdN; rw [Nat.mod_mod]⟩
/-! ### The names of a draft's function -/
mutual
def St.wv : St → Prop | .mk k _ s _ _ _ bs es => (k = 1 → isWd s) ∧ wvL bs ∧ wvL es
def wvL : List St → Prop | [] => True | s :: l => s.wv ∧ wvL l
end
theorem wvL_app : ∀ {a b : List St}, wvL a → wvL b → wvL (a ++ b)
  | [], _, _, h => h
  | _ :: _, _, h, k => ⟨h.1, wvL_app h.2 k⟩
mutual
theorem St.wv_sts : ∀ (s : St), s.wv → ∀ t ∈ s.sts, isVar t = true → isWd t.name
  | .mk k n s t c xs bs es, h, u, hu, hv => by
    obtain ⟨h1, h2, h3⟩ := h
    rw [St.sts] at hu
    rcases List.mem_cons.1 hu with rfl | hu
    · exact h1 (of_decide_eq_true hv)
    · rcases List.mem_append.1 hu with hu | hu
      · exact wvL_sts bs h2 u hu hv
      · exact wvL_sts es h3 u hu hv
theorem wvL_sts : ∀ (l : List St), wvL l → ∀ t ∈ stsL l, isVar t = true → isWd t.name
  | [], _, t, ht, _ => by simp [stsL] at ht
  | s :: l, h, t, ht, hv => by
    rw [stsL] at ht
    rcases List.mem_append.1 ht with ht | ht
    · exact St.wv_sts s h.1 t ht hv
    · exact wvL_sts l h.2 t ht hv
end
theorem stN_wv (L : List Nat) (h : Nat) (blk : Qn → List St × Qn) (hb : ∀ q, wvL (blk q).1) (b no : Nat) (q : Qn) : (stN L h blk b no q).1.wv := by
  have hw := isWd_wdN (rbN L q.1).1
  unfold stN
  simp only
  split
  · split <;> exact ⟨fun _ => hw, trivial, trivial⟩
  split
  · rename_i h24
    exact ⟨fun e => by omega, trivial, trivial⟩
  split
  · exact ⟨fun e => by omega, trivial, trivial⟩
  split
  · exact ⟨fun e => by omega, trivial, trivial⟩
  split
  · exact ⟨fun e => by omega, trivial, trivial⟩
  split
  · exact ⟨fun e => by omega, trivial, trivial⟩
  split
  · split <;> exact ⟨fun e => by omega, trivial, trivial⟩
  split
  · split
    · exact ⟨fun e => by omega, hb _, hb _⟩
    · exact ⟨fun e => by omega, hb _, trivial⟩
  · exact ⟨fun e => by omega, hb _, trivial⟩
theorem rdsN_wv (L : List Nat) (h : Nat) (blk : Qn → List St × Qn) (hb : ∀ q, wvL (blk q).1) : ∀ (n : Nat) (l : List St) (q : Qn), wvL l → wvL (rdsN L h blk n l q).1
  | 0, l, q, hl => hl
  | n + 1, l, q, hl => by
    rw [rdsN]
    split
    · split
      · exact hl
      · exact rdsN_wv L h blk hb n _ _ (wvL_app hl ⟨stN_wv L h blk hb _ _ _, trivial⟩)
    · exact hl
theorem blN_wv (L : List Nat) : ∀ (h : Nat) (q : Qn), wvL (blN L h q).1
  | 0, q => rdsN_wv L 0 (fun q => ([], q)) (fun _ => trivial) _ _ _ trivial
  | h + 1, q => rdsN_wv L (h + 1) _ (fun q => blN_wv L h q) _ _ _ trivial
theorem mdsN_wv (L : List Nat) : ∀ (n : Nat) (l : List St) (q : Qn), wvL l → wvL (mdsN L n l q).1
  | 0, l, q, hl => hl
  | n + 1, l, q, hl => by
    rw [mdsN]
    split
    · exact mdsN_wv L n _ _ (wvL_app hl (blN_wv L 4 q))
    · exact hl
theorem oW_wd (P C : List Nat) : ∀ s ∈ oW (mkN P C), isWd s := by
  intro s hs
  rcases List.mem_append.1 hs with hs | hs
  · obtain ⟨p, hp, rfl⟩ := List.mem_map.1 hs
    obtain ⟨b, _, rfl⟩ := List.mem_map.1 hp
    exact isWd_wdN b
  · obtain ⟨t, ht, rfl⟩ := List.mem_map.1 hs
    obtain ⟨h1, h2⟩ := List.mem_filter.1 ht
    exact wvL_sts _ (mdsN_wv C C.length [] (0, 0) trivial) t h1 h2
/-! ### At most 24 different words -/
theorem nodup_le : ∀ (n : Nat) (l : List Nat), l.Nodup → (∀ x ∈ l, x < n) → l.length ≤ n
  | 0, l, _, h => by
    cases l with
    | nil => simp
    | cons a l => exact absurd (h a (by simp)) (Nat.not_lt_zero _)
  | n + 1, l, hd, h => by
    by_cases hn : n ∈ l
    · have h1 := nodup_le n (l.erase n) (hd.erase n) (fun x hx => by
        have h2 := (hd.mem_erase_iff).1 hx
        have := h x h2.2
        have := h2.1
        omega)
      rw [List.length_erase_of_mem hn] at h1
      have : 0 < l.length := List.length_pos_of_mem hn
      omega
    · have := nodup_le n l hd (fun x hx => by
        have := h x hx
        have : x ≠ n := fun e => hn (e ▸ hx)
        omega)
      omega
theorem words_le (l : List Bytes) (hd : l.Nodup) (h : ∀ s ∈ l, isWd s) : l.length ≤ 24 := by
  have h1 := nodup_le 256 (l.map fun s => (s.headD 0).toNat)
  have h2 := nodup_le 24 (l.map fun s => (s.headD 0).toNat - 97) ?_ ?_
  · simpa using h2
  · unfold List.Nodup
    rw [List.pairwise_map]
    refine List.Pairwise.imp_of_mem (fun {a b} ha hb hab => ?_) hd
    obtain ⟨i, hi, rfl⟩ := h a ha
    obtain ⟨j, hj, rfl⟩ := h b hb
    intro e
    apply hab
    have hv : ∀ k, k < 24 → ((wdN k).headD 0).toNat = 97 + k := fun k hk => by
      simp only [wdN, List.headD_cons, Nat.mod_eq_of_lt hk]
      rw [UInt8.toNat_ofNat']
      omega
    rw [hv i hi, hv j hj] at e
    have : i = j := by omega
    rw [this]
  · intro x hx
    obtain ⟨s, hs, rfl⟩ := List.mem_map.1 hx
    obtain ⟨i, hi, rfl⟩ := h s hs
    simp only [wdN, List.headD_cons, Nat.mod_eq_of_lt hi]
    rw [UInt8.toNat_ofNat']
    omega
/-! ### What is taken in -/
theorem hasN_iff (l : List Vr) (n : Bytes) : hasN l n = true ↔ n ∈ l.map (·.name) := by
  unfold hasN
  rw [List.any_eq_true, List.mem_map]
  simp only [decide_eq_true_eq]
theorem goV_go {acc : List Vr} {v : Vr} {vs : List Vr} (hn : v.name ∉ acc.map (·.name)) (hl : acc.length ≤ 24) : goV acc (v :: vs) = goV (acc ++ [v]) vs := by
  have h1 : hasN acc v.name = false := by
    cases hq : hasN acc v.name
    · rfl
    · exact absurd ((hasN_iff _ _).1 hq) hn
  rw [goV, h1, if_neg (by simp), if_neg (by omega)]
theorem goV_at : ∀ (i : Nat) (acc vs : List Vr) (hi : i < vs.length), ((acc ++ vs.take i).map (·.name)).Nodup → (∀ s ∈ (acc ++ vs).map (·.name), isWd s) → vs[i].name ∈ (acc ++ vs.take i).map (·.name) → goV acc vs = ([], vs[i].no, 11)
  | 0, acc, v :: vs, _, _, _, h => by
    rw [goV, (hasN_iff _ _).2 (by simpa using h), if_pos rfl]
    rfl
  | i + 1, acc, v :: vs, hi, hd, hw, h => by
    rw [List.take_succ_cons] at hd h
    have hd2 : ((acc ++ [v] ++ vs.take i).map (·.name)).Nodup := by simpa using hd
    have ha : (acc.map (·.name)).Nodup := by
      rw [List.map_append] at hd
      exact (List.nodup_append.1 hd).1
    have hl := words_le _ ha (fun s hs => hw s (by rw [List.map_append]; exact List.mem_append_left _ hs))
    rw [List.length_map] at hl
    have hn : v.name ∉ acc.map (·.name) := by
      rw [List.map_append] at hd
      intro hm
      exact (List.nodup_append.1 hd).2.2 _ hm v.name (by simp) rfl
    rw [goV_go hn hl]
    have := goV_at i (acc ++ [v]) vs (by simpa using hi) hd2 (by simpa using hw) (by simpa using h)
    rw [this]
    rfl
theorem goV_full : ∀ (vs acc : List Vr), ((acc ++ vs).map (·.name)).Nodup → (∀ s ∈ (acc ++ vs).map (·.name), isWd s) → goV acc vs = (acc ++ vs, 0, 0)
  | [], acc, _, _ => by rw [goV, List.append_nil]
  | v :: vs, acc, hd, hw => by
    have ha : (acc.map (·.name)).Nodup := by
      rw [List.map_append] at hd
      exact (List.nodup_append.1 hd).1
    have hl := words_le _ ha (fun s hs => hw s (by rw [List.map_append]; exact List.mem_append_left _ hs))
    rw [List.length_map] at hl
    have hn : v.name ∉ acc.map (·.name) := by
      rw [List.map_append] at hd
      intro hm
      exact (List.nodup_append.1 hd).2.2 _ hm v.name (by simp) rfl
    rw [goV_go hn hl, goV_full vs (acc ++ [v]) (by simpa using hd) (by simpa using hw)]
    simp
/-- Up to i no name is there twice. -/
def onceTo (l : List Bytes) (i : Nat) : Prop := ∀ j (_ : j < i) (hj : j < l.length) k (hk : k < j), l[k]'(by omega) ≠ l[j]
theorem once_nodup {l : List Bytes} : ∀ {i : Nat}, onceTo l i → (l.take i).Nodup
  | 0, _ => by simp
  | i + 1, h => by
    by_cases hi : i < l.length
    · rw [List.take_succ_eq_append_getElem hi, List.nodup_append]
      refine ⟨once_nodup fun j hj => h j (by omega), by simp, fun a ha b hb => ?_⟩
      rw [List.mem_singleton] at hb
      subst hb
      obtain ⟨k, hk, rfl⟩ := List.mem_iff_getElem.1 ha
      rw [List.length_take] at hk
      rw [List.getElem_take]
      exact h i (by omega) hi k (by omega)
    · rw [List.take_of_length_le (by omega)]
      have := once_nodup (l := l) (i := i) fun j hj => h j (by omega)
      rwa [List.take_of_length_le (by omega)] at this
theorem names_eq {f : Fn} (hc : checkM [f] = 0) : namesM f = goV [] (oV f) := by
  rw [namesM, if_pos hc]
  rfl
theorem once_dup {f : Fn} (hc : checkM [f] = 0) (hw : ∀ s ∈ oW f, isWd s) {i k : Nat} (hi : i < (oW f).length) (hk : k < i) (he : (oW f)[k]'(by omega) = (oW f)[i]) (ho : onceTo (oW f) i) (hi2 : i < (oN f).length) : namesM f = ([], (oN f)[i], 11) := by
  have hl : (oV f).length = (oW f).length := by rw [← oV_names, List.length_map]
  rw [names_eq hc]
  have h := goV_at i [] (oV f) (by omega) (by
    rw [List.nil_append, List.map_take, oV_names]
    exact once_nodup ho) (by
    rw [List.nil_append, oV_names]
    exact hw) (by
    rw [List.nil_append, List.map_take, oV_names]
    have e : (oV f)[i].name = (oW f)[i] := by
      simp only [← oV_names, List.getElem_map]
    rw [e, ← he]
    exact List.mem_iff_getElem.2 ⟨k, by rw [List.length_take]; omega, by rw [List.getElem_take]⟩)
  rw [h]
  congr 2
  simp only [← oV_nos, List.getElem_map]
theorem once_all {f : Fn} (hc : checkM [f] = 0) (hw : ∀ s ∈ oW f, isWd s) (ho : onceTo (oW f) (oW f).length) : namesM f = (oV f, 0, 0) := by
  have hd := once_nodup ho
  rw [List.take_length] at hd
  rw [names_eq hc, goV_full (oV f) [] (by rw [List.nil_append, oV_names]; exact hd) (by rw [List.nil_append, oV_names]; exact hw)]
  rfl
end Go.Proofs.YtccgpmncpemmdaaDoor
/- rewindlaw10.declarations answers the names and numbers of the declarations. -/
namespace Go.Proofs.YtccgpmncpemmdaaDoor
open Go Go.RowKit
set_option linter.unusedSimpArgs false
set_option linter.unusedVariables false
set_option linter.unnecessarySimpa false
attribute [local go_sem] Oper.semAt_some
mutual
theorem St.sts_len : ∀ s : St, s.sts.length = s.cnt
  | .mk k n s t c xs bs es => by
    rw [St.sts, St.cnt, List.length_cons, List.length_append, stsL_len bs, stsL_len es]
    omega
theorem stsL_len : ∀ l : List St, (stsL l).length = cntL l
  | [] => by simp [stsL, cntL]
  | s :: l => by rw [stsL, cntL, List.length_append, St.sts_len s, stsL_len l]
end
theorem decD_len (l : List St) : (decD l).length ≤ cntL l := by
  rw [← stsL_len]
  exact List.length_filter_le _ _
/-- The cell of a word. -/
def WdC (_ : World) (s : Bytes) (c : List Value) : Prop := c = [.string ⟨s.toArray⟩]
theorem WdC.mono : Mono WdC := fun _ _ _ _ _ h => h
theorem info_wd : (Tryd.prog.info? 9).map (fun i => (i.zero, i.size, i.bytes)) = some (some (.string ⟨#[]⟩), 1, 16) := by kernel_rfl
theorem OwnL.stay {α : Type} {V : World → α → List Value → Prop} (hV : ∀ w w' a c, V w a c → V w' a c) {w w' : World} {base sz : Nat} {t : TypeId} {v : Value} {l : List α} (h : OwnL w base t sz V [] v l) {row : Option Nat} (hg : w.grownBy w' row) (hne : ∀ k, v.ownBlock = some k → row ≠ some k) : OwnL w' base t sz V [] v l := by
  obtain ⟨xs, hown, hcut⟩ := h
  refine ⟨xs, ⟨hown.1, ?_⟩, hcut.mono fun a c hv => hV _ _ _ _ hv⟩
  rcases hown.2 with hn | ⟨g, cap, cur, rfl, hbg, hgg, rest⟩
  · exact .inl hn
  · refine .inr ⟨g, cap, cur, rfl, hbg, ?_, rest⟩
    rw [hg.block g (Array.getElem?_eq_some_iff.1 hgg).1 (fun e => hne g (by simp [Value.ownBlock]) e.symm)]
    exact hgg
/-- Values that lie where a slice points. -/
def SrcL (w : World) (xs : List Value) (pa : Option Addr) (cp : Nat) : Prop := (pa = none → xs = [] ∧ cp = 0) ∧ ∀ ad, pa = some ad → ∀ j u, xs[j]? = some u → w.cell? (ad.add j) = some u
theorem SrcL.has {w w' : World} {xs : List Value} {pa : Option Addr} {cp : Nat} (h : SrcL w xs pa cp) (hh : ∀ g o u, pa = some ⟨g, 0, none⟩ → w.cell? ⟨g, o, none⟩ = some u → w'.cell? ⟨g, o, none⟩ = some u) (hp : ∀ ad, pa = some ad → ∃ g, ad = ⟨g, 0, none⟩) : SrcL w' xs pa cp := by
  refine ⟨h.1, fun ad e j u hj => ?_⟩
  obtain ⟨g, rfl⟩ := hp ad e
  have := h.2 _ e j u hj
  rw [Addr.add_lit] at this ⊢
  exact hh g _ _ e this
theorem OwnL.src {α : Type} {V : World → α → List Value → Prop} (f : α → Value) (hV : ∀ w a c, V w a c → c = [f a]) {w : World} {base : Nat} {t : TypeId} {v : Value} {l : List α} (h : OwnL w base t 1 V [] v l) : ∃ pa cp, v = .slice pa l.length cp ∧ SrcL w (l.map f) pa cp := by
  have hx : ∀ (l : List α) (xs : List Value) (W : World), Cut 1 (V W) l xs → xs = l.map f := by
    intro l
    induction l with
    | nil => intro xs W h; exact h
    | cons a l ih =>
      intro xs W h
      obtain ⟨c, r, rfl, hc, hv, hr⟩ := h
      rw [hV _ _ _ hv, ih _ _ hr]
      rfl
  obtain ⟨xs, hown, hcut⟩ := h
  obtain rfl := hx _ _ _ hcut
  have hcell := fun g h => hown.cells (g := g) h
  rcases hown.2 with ⟨rfl, h0⟩ | ⟨g, cap, cur, rfl, hbg, hgg, rest⟩
  · refine ⟨none, 0, by rw [h0], fun _ => ⟨by rw [List.eq_nil_of_length_eq_zero h0]; rfl, rfl⟩, fun ad e => by cases e⟩
  · refine ⟨_, cap, rfl, fun e => (by cases e), fun ad e j u hj => ?_⟩
    simp only [Option.some.injEq] at e
    subst e
    exact hcell g rfl j u hj
def wdV (s : Bytes) : Value := .string ⟨s.toArray⟩
def noV (n : Int) : Value := .int .i64 n
theorem cut_wd {W : World} : ∀ l : List Bytes, Cut 1 (WdC W) l (l.map wdV)
  | [] => rfl
  | s :: l => ⟨[wdV s], l.map wdV, rfl, rfl, rfl, cut_wd l⟩
theorem cut_no {W : World} : ∀ l : List Int, Cut 1 (InC W) l (l.map noV)
  | [] => rfl
  | s :: l => ⟨[noV s], l.map noV, rfl, rfl, rfl, cut_no l⟩
/-- Two slices of the call's own: words and numbers; apart, and apart from the blocks of R. -/
structure Two (base : Nat) (R : List Nat) (w : World) (v1 v2 : Value) (L1 : List Bytes) (L2 : List Int) : Prop where
  a : OwnL w base 9 1 WdC [] v1 L1
  b : OwnL w base 3 1 InC [] v2 L2
  n : ∀ k, v1.ownBlock = some k → v2.ownBlock ≠ some k
  r : ∀ g ∈ R, v1.ownBlock ≠ some g ∧ v2.ownBlock ≠ some g
theorem Two.nil (base : Nat) (w : World) : Two base [] w (.slice none 0 0) (.slice none 0 0) [] [] :=
  ⟨OwnL.nil _ _ _ _ _ _, OwnL.nil _ _ _ _ _ _, fun k h => by simp [Value.ownBlock] at h, fun g hg => by simp at hg⟩
theorem Two.below {base : Nat} {R : List Nat} {w w' : World} {v1 v2 : Value} {L1 : List Bytes} {L2 : List Int} (h : Two base R w v1 v2 L1 L2) (hb : Below w.heap.size w w') : Two base R w' v1 v2 L1 L2 :=
  ⟨h.a.below WdC.mono hb, h.b.below InC.mono hb, h.n, h.r⟩
theorem Two.ban {base : Nat} {w : World} {v1 v2 : Value} {L1 : List Bytes} {L2 : List Int} (h : Two base [] w v1 v2 L1 L2) {R : List Nat} (hR : ∀ g ∈ R, w.heap.size ≤ g) : Two base R w v1 v2 L1 L2 :=
  ⟨h.a, h.b, h.n, fun g hg => ⟨fun e => by have := (h.a.lt g e).2; have := hR g hg; omega, fun e => by have := (h.b.lt g e).2; have := hR g hg; omega⟩⟩
theorem Two.free {base : Nat} {R : List Nat} {w : World} {v1 v2 : Value} {L1 : List Bytes} {L2 : List Int} (h : Two base R w v1 v2 L1 L2) : Two base [] w v1 v2 L1 L2 := ⟨h.a, h.b, h.n, fun g hg => by simp at hg⟩
theorem two1 (w : World) {ops : Array Oper} {rest : List Oper} {o : Oper} {a : Act} {Qx : Exit → Act → World → Prop} (hgd : o.guard = none) (s x : Operand)
    (ho : o.op = .call { callee := .builtin .append, args := #[s, x], argTypes := #[54, 54] })
    (base : Nat) (R : List Nat) {v1 v2 : Value} {L1 : List Bytes} {L2 : List Int} (hT : Two base R w v1 v2 L1 L2) (hs : a.eval s = v1) (pa : Option Addr) (m cp : Nat) (ms : List Bytes) (hml : m = ms.length) (hx : a.eval x = .slice pa m cp)
    (hp : SrcL w (ms.map wdV) pa cp) (hlen : L1.length + ms.length ≤ 5000) (hbase : base ≤ w.heap.size) (hR : ∀ g ∈ R, g < w.heap.size)
    (h : ∀ v' w', Two base R w' v' v2 (L1 ++ ms) L2 → w.grownBy w' v1.ownBlock → wpList Tryd.prog ops Qx rest (a.put o.dst v') w') :
    wpList Tryd.prog ops Qx (o :: rest) a w := by
  obtain ⟨i0, hi, hz0, hz1, hz2⟩ := info_parts info_wd
  subst hml
  have h1 : ∀ u ∈ ms.map wdV, u.oneCell' = true := fun u hu => by
    obtain ⟨s, _, rfl⟩ := List.mem_map.1 hu
    rfl
  have hT0 := hT
  obtain ⟨xs, hown, hcut⟩ := hT.a
  cases hpa : pa with
  | none =>
    subst hpa
    obtain ⟨hm, rfl⟩ := hp.1 rfl
    obtain rfl : ms = [] := by simpa using hm
    refine wpList_append_own_none hgd s x 54 ho base 9 i0 1 Tryd.underlying54 hi v1 L1.length xs hs hown hx ?_
    refine h v1 w ?_ ⟨rfl, rfl, rfl, Nat.le_refl _, fun _ _ _ => rfl⟩
    rw [List.append_nil]
    exact hT0
  | some ad =>
    refine wpList_append_own_at w hgd s x 54 ho base 9 i0 _ 1 16 Tryd.underlying54 hi hz0 hz1 hz2 rfl (by decide) v1 L1.length xs hs hown ad ms.length cp (ms.map wdV) (by rw [hx, hpa]) (by simp) (hp.2 ad hpa) h1 (by unfold maxLen; omega) (by omega) hbase fun v' w' hown' hgrow _ hat => ?_
    refine h v' w' ⟨own_push WdC.mono hown hcut hown' hgrow hat (cut_wd ms), hT0.b.stay (fun _ _ _ _ h => h) hgrow (fun k e e2 => hT0.n k e2 e), fun k e => ?_, fun g hg => ⟨fun e => ?_, (hT0.r g hg).2⟩⟩ hgrow
    · rcases hat with e2 | e2
      · exact hT0.n k (by rw [← e2]; exact e)
      · rw [e2] at e
        intro e3
        have := (hT0.b.lt k e3).2
        simp at e
        omega
    · rcases hat with e2 | e2
      · exact (hT0.r g hg).1 (by rw [← e2]; exact e)
      · rw [e2] at e
        have := hR g hg
        simp at e
        omega
theorem two2 (w : World) {ops : Array Oper} {rest : List Oper} {o : Oper} {a : Act} {Qx : Exit → Act → World → Prop} (hgd : o.guard = none) (s x : Operand)
    (ho : o.op = .call { callee := .builtin .append, args := #[s, x], argTypes := #[32, 32] })
    (base : Nat) (R : List Nat) {v1 v2 : Value} {L1 : List Bytes} {L2 : List Int} (hT : Two base R w v1 v2 L1 L2) (hs : a.eval s = v2) (pa : Option Addr) (m cp : Nat) (ms : List Int) (hml : m = ms.length) (hx : a.eval x = .slice pa m cp)
    (hp : SrcL w (ms.map noV) pa cp) (hlen : L2.length + ms.length ≤ 5000) (hbase : base ≤ w.heap.size) (hR : ∀ g ∈ R, g < w.heap.size)
    (h : ∀ v' w', Two base R w' v1 v' L1 (L2 ++ ms) → w.grownBy w' v2.ownBlock → wpList Tryd.prog ops Qx rest (a.put o.dst v') w') :
    wpList Tryd.prog ops Qx (o :: rest) a w := by
  obtain ⟨i0, hi, hz0, hz1, hz2⟩ := info_parts info_in
  subst hml
  have h1 : ∀ u ∈ ms.map noV, u.oneCell' = true := fun u hu => by
    obtain ⟨s, _, rfl⟩ := List.mem_map.1 hu
    rfl
  have hT0 := hT
  obtain ⟨xs, hown, hcut⟩ := hT.b
  cases hpa : pa with
  | none =>
    subst hpa
    obtain ⟨hm, rfl⟩ := hp.1 rfl
    obtain rfl : ms = [] := by simpa using hm
    refine wpList_append_own_none hgd s x 32 ho base 3 i0 1 Tryd.underlying32 hi v2 L2.length xs hs hown hx ?_
    refine h v2 w ?_ ⟨rfl, rfl, rfl, Nat.le_refl _, fun _ _ _ => rfl⟩
    rw [List.append_nil]
    exact hT0
  | some ad =>
    refine wpList_append_own_at w hgd s x 32 ho base 3 i0 _ 1 8 Tryd.underlying32 hi hz0 hz1 hz2 rfl (by decide) v2 L2.length xs hs hown ad ms.length cp (ms.map noV) (by rw [hx, hpa]) (by simp) (hp.2 ad hpa) h1 (by unfold maxLen; omega) (by omega) hbase fun v' w' hown' hgrow _ hat => ?_
    refine h v' w' ⟨hT0.a.stay (fun _ _ _ _ h => h) hgrow (fun k e e2 => hT0.n k e e2), own_push InC.mono hown hcut hown' hgrow hat (cut_no ms), fun k e => ?_, fun g hg => ⟨(hT0.r g hg).1, fun e => ?_⟩⟩ hgrow
    · rcases hat with e2 | e2
      · intro e3
        exact hT0.n k e (by rw [← e2]; exact e3)
      · rw [e2]
        intro e3
        have := (hT0.a.lt k e).2
        simp at e3
        omega
    · rcases hat with e2 | e2
      · exact (hT0.r g hg).2 (by rw [← e2]; exact e)
      · rw [e2] at e
        have := hR g hg
        simp at e
        omega
theorem Two.src1 {base : Nat} {R : List Nat} {w : World} {v1 v2 : Value} {L1 : List Bytes} {L2 : List Int} (h : Two base R w v1 v2 L1 L2) : ∃ pa cp, v1 = .slice pa L1.length cp ∧ SrcL w (L1.map wdV) pa cp := h.a.src wdV (fun _ _ _ h => h)
theorem Two.src2 {base : Nat} {R : List Nat} {w : World} {v1 v2 : Value} {L1 : List Bytes} {L2 : List Int} (h : Two base R w v1 v2 L1 L2) : ∃ pa cp, v2 = .slice pa L2.length cp ∧ SrcL w (L2.map noV) pa cp := h.b.src noV (fun _ _ _ h => h)
def DeclQ (w : World) (l : List St) (e : Ending) (w' : World) : Prop :=
  (∃ v1 v2, e = .returned (.tuple #[v1, v2]) ∧ Two w.heap.size [] w' v1 v2 ((decD l).map (·.name)) ((decD l).map (·.no))) ∧ Below w.heap.size w w'
end Go.Proofs.YtccgpmncpemmdaaDoor
/- rewindlaw10.declarations: the walk. -/
namespace Go.Proofs.YtccgpmncpemmdaaDoor
open Go Go.RowKit
set_option linter.unusedSimpArgs false
set_option linter.unusedVariables false
set_option linter.unnecessarySimpa false
theorem dcl_cnt {l : List St} {k n : Nat} (h : k < l.length) (hn : cntL l < n + 1) : cntL l[k].body < n ∧ cntL l[k].els < n := by
  have h1 := cntL_mem (List.getElem_mem h)
  have h2 := St.cnt_eq l[k]
  omega
/-- What the first m blocks of a statement bring. -/
def prt (s : St) (m : Nat) : List St := (if 1 ≤ m then decD s.body else []) ++ (if 2 ≤ m then decD s.els else [])
def own1 (s : St) : List St := if isVar s then [s] else []
theorem dec_take {l : List St} {k : Nat} (h : k < l.length) : decD (l.take (k + 1)) = decD (l.take k) ++ own1 l[k] ++ prt l[k] 2 := by
  rw [List.take_succ_eq_append_getElem h, decD_app, decD_one]
  simp [prt, own1]
theorem srcl_one (w : World) (u : Value) (t : TypeId) : SrcL (w.alloc (.cells #[u] t)) [u] (some ⟨w.heap.size, 0, none⟩) 1 :=
  ⟨fun e => (by cases e), fun ad e j v hj => by
    simp only [Option.some.injEq] at e
    subst e
    exact cell_one_new w u t j v hj⟩
set_option maxRecDepth 20000 in
set_option maxHeartbeats 8000000 in
theorem decl_step (n : Nat) (hn : n ≤ 1000) (IH : Hid (∀ (l : List St) (a : Option Addr) (cap : Nat) (w : World), cntL l < n → St.Row w l a → l.length ≤ cap → cap ≤ maxLen → Calls Tryd.prog 22 #[.slice a l.length cap] w (DeclQ w l)))
    (l : List St) (a : Option Addr) (cap : Nat) (w : World) (hl : cntL l < n + 1) (hr : St.Row w l a) (hc : l.length ≤ cap) (hm : cap ≤ maxLen) : Calls Tryd.prog 22 #[.slice a l.length cap] w (DeclQ w l) := by
  have hlen := len_cnt l
  have hl1 : l.length ≤ 9223372036854775807 := by omega
  have HR := hide hr
  clear hr
  go_enter Tryd.func22, Tryd.ntmps22
  go_wp2_with fail
  go_loopw [4, 5, 6] (fun v1 v2 i wr => ∃ k : Nat, k ≤ l.length ∧ i = .int .i64 k ∧ Hid (Two w.heap.size [] wr v1 v2 ((decD (l.take k)).map (·.name)) ((decD (l.take k)).map (·.no))) ∧ Hid (Below w.heap.size w wr)) (fun _ _ i _ => l.length - (intOf i).toNat)
  case atStart => exact ⟨0, Nat.zero_le _, rfl, hide (Two.nil _ _), hide (bl w)⟩
  case round =>
    obtain ⟨k, hk, rfl, HT, HB⟩ := hrel
    by_cases hlt : k < l.length
    · have hlt' : (k : Int) < (l.length : Int) := by omega
      obtain ⟨b, o, rfl⟩ := HR.out.addr (by omega)
      obtain ⟨pa, pb, pe, ca, cb, ce, hcell, hwf, ra, rb, re⟩ := (HR.out.get k hlt).val
      have HG := hide (fun (W : World) (hb : Below w.heap.size w W) => hcell.has (has_below hb))
      have HWF := hide hwf
      have HRB := hide rb
      have HRE := hide re
      clear ra rb re hwf hcell
      have hcb := dcl_cnt hlt hl
      have HPT := hide (dec_take hlt)
      have hdl : (decD (l.take k)).length ≤ 1000 := by
        have := decD_len (l.take k)
        have := cntL_take_le l k
        omega
      generalize l[k] = s at *
      generalize decD (l.take k) = D at *
      obtain ⟨c0, c1, c2, c3, c4, c5, c6, c7⟩ := HG.out wr HB.out
      have hbl := cell_lt c0
      simp only at hbl
      clear c3 c4 c5 c6 c7
      go_upto_if 22 with fail
      go_cut [4, 5] (fun v1 v2 wx => Hid (Two w.heap.size [] wx v1 v2 ((D ++ own1 s).map (·.name)) ((D ++ own1 s).map (·.no))) ∧ Hid (Below w.heap.size w wx))
      case first =>
        refine wp_noexit ?_
        by_cases hk : s.kind = 1
        · have HE : Hid (own1 s = [s]) := hide (by unfold own1 isVar; rw [if_pos (decide_eq_true hk)])
          have hb1 := HB.out.size
          go_upto_region 8 with (at_builtin; refine two1 _ rfl _ _ rfl w.heap.size [] (HT.out.below ((bl wr).al _)) rfl (some ⟨wr.heap.size, 0, none⟩) 1 1 [s.name] rfl rfl (srcl_one wr _ _) (by simp; omega) (by simp; omega) (by simp) ?_; intro v' w' hT' hg')
          have HB' := hide ((HB.out.al _).grown hg' (by simp; omega) (fun k hk => (HT.out.a.lt k hk).1))
          have hb2 := HB'.out.size
          obtain ⟨d0, d1, d2, d3, d4, d5, d6, d7⟩ := HG.out w' HB'.out
          clear d0 d2 d3 d4 d5 d6 d7 hg'
          have HT' := hide hT'
          clear hT'
          go_wp2_with (at_builtin; refine two2 _ rfl _ _ rfl w.heap.size [] (HT'.out.below ((bl w').al _)) rfl (some ⟨w'.heap.size, 0, none⟩) 1 1 [s.no] rfl rfl (srcl_one w' _ _) (by simp; omega) (by simp; omega) (by simp) ?_; intro v2' w2' hT2 hg2)
          go_meet
          refine ⟨hide ?_, hide ((HB'.out.al _).grown hg2 (by simp; omega) (fun k hk => (HT'.out.b.lt k hk).1))⟩
          rw [HE.out, List.map_append, List.map_append]
          exact hT2
        · have HE : Hid (own1 s = []) := hide (by unfold own1 isVar; rw [if_neg (by simpa using hk)])
          go_wp2_with fail
          go_meet
          refine ⟨hide ?_, HB⟩
          rw [HE.out, List.append_nil]
          exact HT.out
      case rest =>
        obtain ⟨HT1, HB1⟩ := hcut
        obtain ⟨d0, d1, d2, d3, d4, d5, d6, d7⟩ := HG.out wc HB1.out
        clear d0 d1 d2 d3 d4 d5 c0 c1 c2
        have hb1 := HB1.out.size
        go_upto_region 9 with fail
        go_region
        all_goals
          have HX := hide (show ((wc.alloc (.cells #[.slice pb s.body.length cb, .slice pe s.els.length ce] 40)).drew).heap[wc.heap.size]? = some (.cells #[.slice pb s.body.length cb, .slice pe s.els.length ce] 40 (0, 0)) from heap_alloc_new _ _)
          have HT2 := hide (((HT1.out.ban (R := [wc.heap.size]) (by simp)).below ((bl wc).al (.cells #[.slice pb s.body.length cb, .slice pe s.els.length ce] 40))).below (bl _).dr)
          have HB2 := hide ((HB1.out.al (.cells #[.slice pb s.body.length cb, .slice pe s.els.length ce] 40)).dr)
          clear d6 d7 HT1 HT HB HB1 hbl
          generalize (wc.alloc (.cells #[.slice pb s.body.length cb, .slice pe s.els.length ce] 40)).drew = wd at *
          generalize wc.heap.size = g at *
          go_wp2_with fail
          go_loopw [4, 5, 51] (fun v1 v2 j wi => ∃ m : Nat, m ≤ 2 ∧ j = .int .i64 m ∧ Hid (Two w.heap.size [g] wi v1 v2 ((D ++ own1 s ++ prt s m).map (·.name)) ((D ++ own1 s ++ prt s m).map (·.no))) ∧ Hid (Below w.heap.size w wi) ∧ Hid (wi.heap[g]? = some (.cells #[.slice pb s.body.length cb, .slice pe s.els.length ce] 40 (0, 0)))) (fun _ _ j _ => 2 - (intOf j).toNat)
          case atStart => exact ⟨0, by omega, rfl, hide (by simpa [prt] using HT2.out), HB2, HX⟩
          case round =>
            obtain ⟨m, hm2, rfl, HTi, HBi, HXi⟩ := hrel
            by_cases hlt2 : m < 2
            · have hlt2' : (m : Int) < 2 := by omega
              obtain ⟨l', p', c', hc6, hrow, hle1, hle2, hcl, HPR⟩ : ∃ (l' : List St) (p' : Option Addr) (c' : Nat), wr.cell? ⟨g, m, none⟩ = some (.slice p' l'.length c') ∧ St.Row w l' p' ∧ l'.length ≤ c' ∧ c' ≤ maxLen ∧ cntL l' < n ∧ Hid (prt s (m + 1) = prt s m ++ decD l') := by
                have hm01 : m = 0 ∨ m = 1 := by omega
                rcases hm01 with rfl | rfl
                · exact ⟨s.body, pb, cb, cell_at (j := 0) HXi.out rfl, HRB.out, HWF.out.lb, HWF.out.cb, hcb.1, hide (by simp [prt])⟩
                · exact ⟨s.els, pe, ce, cell_at (j := 1) HXi.out rfl, HRE.out, HWF.out.le, HWF.out.ce, hcb.2, hide (by simp [prt])⟩
              have HLN : Hid ((D ++ own1 s ++ prt s m).length + (decD l').length ≤ 5000) := hide (by
                have h1 := decD_len l'
                have h2 := decD_len s.body
                have h3 := decD_len s.els
                have h4 : (own1 s).length ≤ 1 := by unfold own1; split <;> simp
                have h5 : (prt s m).length ≤ (decD s.body).length + (decD s.els).length := by unfold prt; split <;> split <;> simp
                simp only [List.length_append]
                omega)
              have hgl := (Array.getElem?_eq_some_iff.1 HXi.out).1
              have hwi := HBi.out.size
              have HROW := hide (St.Row.keep hrow HBi.out (Nat.le_refl _))
              clear hrow
              go_wp2_with fail
              refine (IH.out l' p' c' _ hcl HROW.out hle1 hle2).mono ?_
              rintro e w3 ⟨⟨r1, r2, rfl, hT3⟩, hb3⟩
              go_upto_region 13 with fail
              have hb3s := hb3.size
              obtain ⟨q1, k1, hq1, hs1⟩ := hT3.src1
              subst hq1
              go_upto_region 14 with (at_builtin; refine two1 _ rfl _ _ rfl w.heap.size [g] (HTi.out.below hb3) rfl q1 _ k1 _ rfl rfl hs1 (by simp only [List.length_map]; exact HLN.out) (by omega) (by simp; omega) ?_; intro v' w4 hT4 hg4)
              have h4 := hT3.b.stay (fun _ _ _ _ h => h) hg4 (fun k e e2 => by have h1 := (hT3.b.lt k e).1; have h2 := (HTi.out.a.lt k e2).2; omega)
              obtain ⟨q2, k2, hq2, hs2⟩ := h4.src noV (fun _ _ _ h => h)
              subst hq2
              have hg4s := hg4.size
              have HB4 := hide ((HBi.out.tr hb3).grown hg4 (by omega) (fun k hk => (HTi.out.a.lt k hk).1))
              have HX4 : Hid (w4.heap[g]? = some (.cells #[.slice pb s.body.length cb, .slice pe s.els.length ce] 40 (0, 0))) := hide ((hg4.block g (by omega) (fun e => (HTi.out.r g (by simp)).1 e.symm)).trans ((hb3.block g hgl).trans HXi.out))
              have HT4 := hide hT4
              clear hT4 h4 hg4 hb3 hc6
              go_wp2_with (at_builtin; refine two2 _ rfl _ _ rfl w.heap.size [g] HT4.out rfl q2 _ k2 _ rfl rfl hs2 (by simp only [List.length_map]; exact HLN.out) (by omega) (by simp; omega) ?_; intro v5 w5 hT5 hg5)
              have hb4k := fun k hk => (HT4.out.b.lt k hk).1
              have HB5 := hide (HB4.out.grown hg5 (by omega) hb4k)
              have HX5 : Hid (w5.heap[g]? = some (.cells #[.slice pb s.body.length cb, .slice pe s.els.length ce] 40 (0, 0))) := hide ((hg5.block g (by omega) (fun e => (HT4.out.r g (by simp)).2 e.symm)).trans HX4.out)
              go_roundw
              case rel =>
                refine ⟨m + 1, by omega, by go_num, hide ?_, HB5, HX5⟩
                rw [HPR.out, ← List.append_assoc, List.map_append (l₂ := decD l'), List.map_append (l₂ := decD l')]
                exact hT5
              case measure => simp [intOf]; omega
            · obtain rfl : m = 2 := by omega
              go_wp2_with fail
              go_roundw
              case rel =>
                refine ⟨k + 1, by omega, by go_num, hide ?_, HBi⟩
                rw [HPT.out]
                exact HTi.out.free
              case measure => simp [intOf]; omega
    · obtain rfl : k = l.length := by omega
      go_wp2_with fail
      go_ret2
      refine ⟨⟨_, _, rfl, ?_⟩, HB.out⟩
      have := HT.out
      rw [List.take_length] at this
      exact this
theorem decl_any : ∀ (n : Nat), n ≤ 1000 → ∀ (l : List St) (a : Option Addr) (cap : Nat) (w : World), cntL l < n → St.Row w l a → l.length ≤ cap → cap ≤ maxLen → Calls Tryd.prog 22 #[.slice a l.length cap] w (DeclQ w l)
  | 0, _, _, _, _, _, h, _, _, _ => absurd h (Nat.not_lt_zero _)
  | n + 1, hn, l, a, cap, w, h1, h2, h3, h4 => decl_step n (by omega) (hide (decl_any n (by omega))) l a cap w h1 h2 h3 h4
end Go.Proofs.YtccgpmncpemmdaaDoor
/- NamesOnce: what Find and Seen answer among different names; the slice in front. -/
namespace Go.Proofs.YtccgpmncpemmdaaDoor
open Go Go.RowKit
set_option linter.unusedSimpArgs false
set_option linter.unusedVariables false
set_option linter.unnecessarySimpa false
theorem firstM_hit {l : List Vr} {p : Vr → Bool} {i : Nat} (hi : i < l.length) (hp : p l[i] = true) (hn : ∀ j (hj : j < i), p (l[j]'(by omega)) = false) : firstM l p = (i, true) := by
  have : l.findIdx? p = some i := List.findIdx?_eq_some_iff_getElem.2 ⟨hi, hp, fun j hj => by rw [hn j hj]; simp⟩
  rw [firstM, this]
theorem firstM_miss {l : List Vr} {p : Vr → Bool} (h : ∀ v ∈ l, p v = false) : firstM l p = (0, false) := by
  have : l.findIdx? p = none := List.findIdx?_eq_none_iff.2 h
  rw [firstM, this]
theorem names_ne {l : List Vr} (hd : onceTo (l.map (·.name)) l.length) {i j : Nat} (hi : i < l.length) (hj : j < l.length) (h : l[j].name = l[i].name) : j = i := by
  rcases Nat.lt_trichotomy j i with hlt | rfl | hlt
  · have := hd i hi (by simpa using hi) j hlt
    simp only [List.getElem_map] at this
    exact absurd h this
  · rfl
  · have := hd j hj (by simpa using hj) i hlt
    simp only [List.getElem_map] at this
    exact absurd h.symm this
theorem find_at {l : List Vr} (hd : onceTo (l.map (·.name)) l.length) {i : Nat} (hi : i < l.length) : findM l l[i].name = (i, true) :=
  firstM_hit hi (by simp) fun j hj => by
    simp only [beq_eq_false_iff_ne, ne_eq]
    intro e
    have := names_ne hd hi (by omega) e
    omega
theorem seen_at {l : List Vr} (hd : onceTo (l.map (·.name)) l.length) {i : Nat} (hi : i < l.length) (p : Int) : seenM l l[i].name p = if l[i].sees p then (i, true) else (0, false) := by
  unfold seenM
  split
  · rename_i h
    exact firstM_hit hi (by simp [h]) fun j hj => by
      simp only [Bool.and_eq_false_iff, beq_eq_false_iff_ne, ne_eq]
      left
      intro e
      have := names_ne hd hi (by omega) e
      omega
  · rename_i h
    refine firstM_miss fun v hv => ?_
    obtain ⟨j, hj, rfl⟩ := List.mem_iff_getElem.1 hv
    by_cases e : l[j].name = l[i].name
    · obtain rfl := names_ne hd hi hj e
      simp only [Bool.and_eq_false_iff]
      right
      simpa using h
    · simp only [Bool.and_eq_false_iff, beq_eq_false_iff_ne, ne_eq]
      exact .inl e
theorem Two.fresh1 {base : Nat} {R : List Nat} {w : World} {v1 v2 : Value} {L1 : List Bytes} {L2 : List Int} (h : Two base R w v1 v2 L1 L2) (hb : base ≤ w.heap.size) (s : Bytes) :
    Two base [] (w.alloc (.cells #[.string ⟨s.toArray⟩] 9)) (.slice (some ⟨w.heap.size, 0, none⟩) 1 1) v2 [s] L2 :=
  ⟨⟨[.string ⟨s.toArray⟩], ⟨rfl, .inr ⟨w.heap.size, 1, _, rfl, hb, heap_alloc_new w _, Nat.le_refl _, by unfold maxLen; omega, rfl, rfl⟩⟩, cut_wd [s]⟩, h.b.al InC.mono _,
    fun k e e2 => by simp [Value.ownBlock] at e; have := (h.b.lt k e2).2; omega, fun g hg => by simp at hg⟩
theorem Two.fresh2 {base : Nat} {R : List Nat} {w : World} {v1 v2 : Value} {L1 : List Bytes} {L2 : List Int} (h : Two base R w v1 v2 L1 L2) (hb : base ≤ w.heap.size) (n : Int) :
    Two base [] (w.alloc (.cells #[.int .i64 n] 3)) v1 (.slice (some ⟨w.heap.size, 0, none⟩) 1 1) L1 [n] :=
  ⟨h.a.al WdC.mono _, ⟨[.int .i64 n], ⟨rfl, .inr ⟨w.heap.size, 1, _, rfl, hb, heap_alloc_new w _, Nat.le_refl _, by unfold maxLen; omega, rfl, rfl⟩⟩, cut_no [n]⟩,
    fun k e e2 => by simp [Value.ownBlock] at e2; have := (h.a.lt k e).2; omega, fun g hg => by simp at hg⟩
theorem SrcL.below {w w' : World} {xs : List Value} {pa : Option Addr} {cp : Nat} (h : SrcL w xs pa cp) (hb : Below w.heap.size w w') : SrcL w' xs pa cp :=
  ⟨h.1, fun ad e j u hj => cell_keep (h.2 ad e j u hj) hb (Nat.le_refl _)⟩
theorem Two.at1 {base : Nat} {R : List Nat} {w : World} {v1 v2 : Value} {L1 : List Bytes} {L2 : List Int} (h : Two base R w v1 v2 L1 L2) : ∃ g k, (v1 = .slice none 0 0 ∧ L1 = [] ∨ v1 = .slice (some ⟨g, 0, none⟩) L1.length k) ∧ ∀ i (hi : i < L1.length), w.cell? ⟨g, i, none⟩ = some (.string ⟨L1[i].toArray⟩) := by
  have h0 := h.a
  rcases h.a.form with ⟨rfl, rfl⟩ | ⟨g, cap, rfl, _, _, _, _⟩
  · exact ⟨0, 0, .inl ⟨rfl, rfl⟩, fun i hi => by simp at hi⟩
  · refine ⟨g, cap, .inr rfl, fun i hi => ?_⟩
    obtain ⟨_, _, c, hc, _, _, hcell⟩ := h0.get WdC.mono rfl i hi
    rw [show c = _ from hc] at hcell
    simpa using hcell 0 _ rfl
theorem Two.at2 {base : Nat} {R : List Nat} {w : World} {v1 v2 : Value} {L1 : List Bytes} {L2 : List Int} (h : Two base R w v1 v2 L1 L2) : ∃ g k, (v2 = .slice none 0 0 ∧ L2 = [] ∨ v2 = .slice (some ⟨g, 0, none⟩) L2.length k) ∧ ∀ i (hi : i < L2.length), w.cell? ⟨g, i, none⟩ = some (.int .i64 L2[i]) := by
  have h0 := h.b
  rcases h.b.form with ⟨rfl, rfl⟩ | ⟨g, cap, rfl, _, _, _, _⟩
  · exact ⟨0, 0, .inl ⟨rfl, rfl⟩, fun i hi => by simp at hi⟩
  · refine ⟨g, cap, .inr rfl, fun i hi => ?_⟩
    obtain ⟨_, _, c, hc, _, _, hcell⟩ := h0.get InC.mono rfl i hi
    rw [show c = _ from hc] at hcell
    simpa using hcell 0 _ rfl
theorem Two.sl1 {base : Nat} {R : List Nat} {w : World} {v1 v2 : Value} {L1 : List Bytes} {L2 : List Int} (h : Two base R w v1 v2 L1 L2) : ∃ q k g, v1 = .slice q L1.length k ∧ (0 < L1.length → q = some ⟨g, 0, none⟩) ∧ ∀ i (hi : i < L1.length), w.cell? ⟨g, i, none⟩ = some (.string ⟨L1[i].toArray⟩) := by
  obtain ⟨g, k, ⟨rfl, rfl⟩ | rfl, hc⟩ := h.at1
  · exact ⟨_, _, g, rfl, by simp, hc⟩
  · exact ⟨_, _, g, rfl, fun _ => rfl, hc⟩
theorem Two.sl2 {base : Nat} {R : List Nat} {w : World} {v1 v2 : Value} {L1 : List Bytes} {L2 : List Int} (h : Two base R w v1 v2 L1 L2) : ∃ q k g, v2 = .slice q L2.length k ∧ (0 < L2.length → q = some ⟨g, 0, none⟩) ∧ ∀ i (hi : i < L2.length), w.cell? ⟨g, i, none⟩ = some (.int .i64 L2[i]) := by
  obtain ⟨g, k, ⟨rfl, rfl⟩ | rfl, hc⟩ := h.at2
  · exact ⟨_, _, g, rfl, by simp, hc⟩
  · exact ⟨_, _, g, rfl, fun _ => rfl, hc⟩
theorem oW_len (f : Fn) : (oW f).length = (oN f).length := by simp [oW, oN]
theorem once_sum {f : Fn} (hc : checkM [f] = 0) (hw : ∀ s ∈ oW f, isWd s) : ∃ (LW : List Bytes) (LN : List Int), LW = oW f ∧ LN = oN f ∧ (oV f).map (·.name) = LW ∧ (oV f).map (·.no) = LN ∧ LW.length = LN.length ∧
    (∀ (i k : Nat) (hi : i < LW.length) (hk : k < i) (hi2 : i < LN.length), LW[k]'(Nat.lt_trans hk hi) = LW[i] → onceTo LW i → namesM f = ([], LN[i], 11)) ∧ (onceTo LW LW.length → namesM f = (oV f, 0, 0)) :=
  ⟨oW f, oN f, rfl, rfl, oV_names f, oV_nos f, oW_len f, fun _ _ hi hk hi2 he ho => once_dup hc hw hi hk he ho hi2, once_all hc hw⟩
theorem onceTo_succ {l : List Bytes} {i : Nat} (hi : i < l.length) (h : onceTo l i) (h2 : ∀ k (hk : k < i), l[k]'(by omega) ≠ l[i]) : onceTo l (i + 1) := by
  intro j hj hjl k hk
  by_cases e : j = i
  · subst e
    exact h2 k hk
  · exact h j (by omega) hjl k hk
end Go.Proofs.YtccgpmncpemmdaaDoor
/- NamesOnce returns true for every draft. -/
namespace Go.Proofs.YtccgpmncpemmdaaDoor
open Go Go.RowKit
set_option linter.unusedSimpArgs false
set_option linter.unusedVariables false
set_option linter.unnecessarySimpa false
set_option maxRecDepth 20000 in
set_option maxHeartbeats 8000000 in
theorem NamesOnce_any (P C : List Nat) (v : Value) (w : World) (hv : DrN w P C v) (hT : Tab w) : Calls Tryd.prog 5 #[v] w fun r w' => r = .returned (.bool true) ∧ Below w.heap.size w w' := by
  have HWK := hide fun (W : World) (hW : Below w.heap.size w W) => works10_any W (hT.below hW)
  have HTB := hide fun (W : World) (hW : Below w.heap.size w W) => hT.below hW
  have HM := hide fun (W : World) (hW : Below w.heap.size w W) => made10_any P C v W (hv.has (has_below hW))
  have hgood := mkN_good P C
  have hck := mkN_check P C
  have hwd := oW_wd P C
  obtain ⟨pa, pc, ca, cc, rfl, -, -⟩ := hv
  have hcnt : 0 ≤ (mkN P C).count ∧ (mkN P C).count ≤ 60 := by have := hgood.2.2; omega
  have hpl : (mkN P C).params.length ≤ 8 := by simp [mkN]; omega
  obtain ⟨LW, LN, hLW, hLN, hvn, hvo, hol, hdup, hall⟩ := once_sum hck hwd
  have HLW := hide hLW
  have HLN := hide hLN
  have HVN := hide hvn
  have HVO := hide hvo
  have HDUP := hide hdup
  have HALL := hide hall
  clear hLW hLN hvn hvo hdup hall
  have HLB : Hid (cntL (mkN P C).body ≤ 60) := hide hgood.2.2.2
  unfold MadeQ at HM
  generalize mkN P C = f at *
  obtain ⟨hc0, hc60⟩ := hcnt
  have hlb := len_cnt f.body
  have hlb60 : f.body.length ≤ 60 := Nat.le_trans hlb HLB.out
  have hdl : (decD f.body).length ≤ 60 := Nat.le_trans (decD_len _) HLB.out
  clear hgood hck hT hlb hwd
  go_enter Tryd.func5, Tryd.ntmps5
  go_wp2_with fail
  refine (HM.out _ ((bl w).al _)).mono ?_
  rintro r w1 ⟨⟨v1, rfl, hv1⟩, hb1⟩
  have HB1 := hide (((bl w).al (.cells #[.slice pa P.length pc, .slice ca C.length cc] 38)).tr hb1)
  obtain ⟨pp, pb, cp, cb, rfl, hfw, hps, hrow⟩ := hv1
  have HFW := hide hfw
  have hbA := (bl w1).al (.cells #[.string ⟨List.toArray f.name⟩, .slice pp f.params.length cp, .int .i64 f.result, .slice pb f.body.length cb, .int .i64 f.count] 42)
  have HX := hide (heap_alloc_new w1 (.cells #[.string ⟨List.toArray f.name⟩, .slice pp f.params.length cp, .int .i64 f.result, .slice pb f.body.length cb, .int .i64 f.count] 42))
  have HPS := hide ((hps.has has_nw).has (has_below hbA))
  have HROW := hide ((hrow.has has_nw).has (has_below hbA))
  have HB := hide (HB1.out.tr hbA)
  clear hb1 hfw hps hrow hbA HB1
  go_upto_region 2 with fail
  generalize w1.alloc (.cells #[.string ⟨List.toArray f.name⟩, .slice pp f.params.length cp, .int .i64 f.result, .slice pb f.body.length cb, .int .i64 f.count] 42) = wf at *
  generalize w1.heap.size = x1 at *
  have a0 := cell_at (j := 0) HX.out rfl
  have a1 := cell_at (j := 1) HX.out rfl
  have a2 := cell_at (j := 2) HX.out rfl
  have a3 := cell_at (j := 3) HX.out rfl
  have a4 := cell_at (j := 4) HX.out rfl
  have hxl := (Array.getElem?_eq_some_iff.1 HX.out).1
  have HV0 : Hid (f.Val wf (.agg #[.string ⟨List.toArray f.name⟩, .slice pp f.params.length cp, .int .i64 f.result, .slice pb f.body.length cb, .int .i64 f.count])) := hide ⟨pp, pb, cp, cb, rfl, HFW.out, HPS.out, HROW.out⟩
  go_wp2_with fail
  refine (of_any f _ wf HV0.out (HTB.out _ HB.out)).mono ?_
  unfold OfPost
  rintro r w3 ⟨⟨va, vc, rfl, hvr⟩, hb3⟩
  replace HB := hide (HB.out.tr hb3)
  replace HX := hide ((hb3.block _ hxl).trans HX.out)
  replace HPS := hide (HPS.out.has (has_below hb3))
  replace HROW := hide (HROW.out.has (has_below hb3))
  have HVR := hide hvr
  clear hvr hb3 a0 a1 a2 a3 a4 hxl HV0
  generalize namesM f = N at *
  obtain ⟨l, n0, e⟩ := N
  simp only at HVR ⊢
  go_upto_region 3 with fail
  have a0 := cell_at (j := 0) HX.out rfl
  have a1 := cell_at (j := 1) HX.out rfl
  have a2 := cell_at (j := 2) HX.out rfl
  have a3 := cell_at (j := 3) HX.out rfl
  have a4 := cell_at (j := 4) HX.out rfl
  have hxl := (Array.getElem?_eq_some_iff.1 HX.out).1
  go_wp2_with fail
  refine (decl_any 1000 (Nat.le_refl _) f.body pb cb w3 (by have := HLB.out; omega) HROW.out HFW.out.lb HFW.out.cb).mono ?_
  rintro r w4 ⟨⟨r1, r2, rfl, hT4⟩, hb4⟩
  have HT4 := hide hT4
  have HB4 := hide hb4
  have HX4 := hide ((hb4.block _ hxl).trans HX.out)
  clear hT4 hb4
  go_upto_region 4 with fail
  clear a0 a1 a2 a3 a4 hxl
  have a1 := cell_at (j := 1) HX4.out rfl
  go_wp2_with fail
  go_loopw [7, 8, 9] (fun v1 v2 i wr => ∃ (m : Nat) (q : Int), m ≤ f.params.length ∧ i = .int .i64 q ∧ q = (m : Int) - 1 ∧ Hid (Two w3.heap.size [] wr v1 v2 ((f.params.drop m).map (·.name) ++ (decD f.body).map (·.name)) ((f.params.drop m).map (fun _ => (-1 : Int)) ++ (decD f.body).map (·.no))) ∧ Hid (Below w3.heap.size w3 wr)) (fun _ _ i _ => (intOf i + 1).toNat)
  case atStart => exact ⟨f.params.length, _, Nat.le_refl _, rfl, rfl, hide (by simpa using HT4.out), HB4⟩
  case round =>
    obtain ⟨m, q, hm, rfl, hq, HT, HBw⟩ := hrel
    clear a1
    have hws := HBw.out.size
    have hx3 := (Array.getElem?_eq_some_iff.1 HX.out).1
    have HXw := hide ((HBw.out.block _ hx3).trans HX.out)
    by_cases hm0 : 0 < m
    · obtain ⟨k, rfl⟩ : ∃ k, m = k + 1 := ⟨m - 1, by omega⟩
      obtain rfl : q = (k : Int) := by omega
      clear hq hm0
      obtain ⟨b, o, rfl⟩ := HPS.out.addr (by omega)
      have hk : k < f.params.length := by omega
      have hk' : (k : Int) < (f.params.length : Int) := by omega
      have hnm := cell_keep (HPS.out.at_ b o rfl k hk).1 HBw.out (Nat.le_refl _)
      have a1 := cell_at (j := 1) HXw.out rfl
      have hle1 : ((f.params.drop (k + 1)).map (·.name) ++ (decD f.body).map (·.name)).length ≤ 100 := by simp; omega
      have hle2 : ((f.params.drop (k + 1)).map (fun _ => (-1 : Int)) ++ (decD f.body).map (·.no)).length ≤ 100 := by simp; omega
      have HDR : Hid (f.params.drop k = f.params[k] :: f.params.drop (k + 1)) := hide (List.drop_eq_getElem_cons hk)
      generalize f.params[k] = pm at *
      obtain ⟨q1, k1, hq1, hs1⟩ := HT.out.src1
      subst hq1
      go_upto_region 8 with (at_builtin; refine two1 _ rfl _ _ rfl w3.heap.size [] (HT.out.fresh1 hws pm.name) rfl q1 _ k1 _ rfl rfl (hs1.below ((bl wr).al _)) (by simp only [List.length_cons, List.length_nil]; omega) (by simp; omega) (by simp) ?_; intro v' w5 hT5 hg5)
      have HB5 := hide ((HBw.out.al _).grown hg5 (by simp; omega) (fun k hk => by simp [Value.ownBlock] at hk; omega))
      have hws5 := HB5.out.size
      have HT5 := hide hT5
      clear hT5 hg5 hnm a1
      obtain ⟨q2, k2, hq2, hs2⟩ := HT5.out.src2
      subst hq2
      go_wp2_with (at_builtin; refine two2 _ rfl _ _ rfl w3.heap.size [] (HT5.out.fresh2 hws5 (-1)) rfl q2 _ k2 _ rfl rfl (hs2.below ((bl w5).al _)) (by simp only [List.length_cons, List.length_nil]; omega) (by simp; omega) (by simp) ?_; intro v6 w6 hT6 hg6)
      have HB6 := hide ((HB5.out.al _).grown hg6 (by simp; omega) (fun k hk => by simp [Value.ownBlock] at hk; omega))
      go_roundw
      case rel =>
        refine ⟨k, (k : Int) - 1, by omega, by go_num, rfl, hide ?_, HB6⟩
        rw [HDR.out]
        exact hT6
      case measure => simp [intOf]
    · obtain rfl : m = 0 := by omega
      obtain rfl : q = -1 := by omega
      clear hq hm0
      have HT0 : Hid (Two w3.heap.size [] wr _ _ LW LN) := hide (by rw [HLW.out, HLN.out]; exact HT.out)
      clear HT HT4 HB4
      go_upto_region 9 with fail
      obtain ⟨q1, k1, g1, hq1, hg1, hc1⟩ := HT0.out.sl1
      obtain ⟨q2, k2, g2, hq2, hg2, hc2⟩ := HT0.out.sl2
      subst hq1 hq2
      have HB5 := hide (HB.out.tr HBw.out)
      have HVR5 := hide (HVR.out.keep HBw.out (Nat.le_refl _))
      have HC1 := hide hc1
      have HC2 := hide hc2
      have holn : LW.length ≤ 100 := by rw [HLW.out]; simp [oW]; omega
      rw [← hol] at hg2 ⊢
      have HOL := hide hol
      clear hol
      clear HT0 HB HX HX4 HVR HBw HPS HROW hc1 hc2 hx3
      obtain ⟨W5, hW5⟩ : ∃ W5, W5 = wr := ⟨_, rfl⟩
      rw [← hW5] at HB5 HVR5 HC1 HC2 HXw
      go_wp2_with fail
      go_loopw [10] (fun i wr => ∃ k : Nat, k ≤ LW.length ∧ i = .int .i64 k ∧ Hid (onceTo LW k) ∧ Hid (Below W5.heap.size W5 wr)) (fun i _ => LW.length - (intOf i).toNat)
      case atStart => exact ⟨0, Nat.zero_le _, rfl, hide (fun j hj => absurd hj (Nat.not_lt_zero _)), hide (by rw [hW5]; exact bl _)⟩
      case round =>
        clear hW5
        obtain ⟨i, hi, rfl, HON, HBi⟩ := hrel
        by_cases hlt : i < LW.length
        · have hlt' : (i : Int) < (LW.length : Int) := by omega
          obtain rfl := hg1 (by omega)
          obtain rfl := hg2 (by omega)
          go_upto_region 12 with fail
          go_wp2_with fail
          go_loopw [11] (fun k wk => ∃ j : Nat, j ≤ i ∧ k = .int .i64 j ∧ Hid (∀ k' (hk : k' < j) (hj : j ≤ i), LW[k']'(by omega) ≠ LW[i]) ∧ Hid (Below W5.heap.size W5 wk)) (fun k _ => i - (intOf k).toNat)
          case atStart => exact ⟨0, Nat.zero_le _, rfl, hide (fun k' hk => absurd hk (Nat.not_lt_zero _)), HBi⟩
          case round =>
            obtain ⟨j, hj, rfl, HNE, HBj⟩ := hrel
            by_cases hjl : j < i
            · have hjl' : (j : Int) < (i : Int) := by omega
              have x1 := cell_keep (HC1.out j (by omega)) HBj.out (Nat.le_refl _)
              have x2 := cell_keep (HC1.out i hlt) HBj.out (Nat.le_refl _)
              go_upto_region 15 with fail
              by_cases he : LW[j] = LW[i]
              · have hiN : i < LN.length := by rw [← HOL.out]; exact hlt
                have hN := HDUP.out i j hlt hjl hiN he HON.out
                obtain ⟨rfl, hN2⟩ := Prod.mk.inj hN
                obtain ⟨rfl, rfl⟩ := Prod.mk.inj hN2
                have x3 := cell_keep (HC2.out i hiN) HBj.out (Nat.le_refl _)
                have hbb : (LW[j] == LW[i]) = true := by simpa using he
                clear hN hN2
                generalize LN[i] = ni at *
                generalize LW[j] = sj at *
                generalize LW[i] = si at *
                go_quiet (fail)
                go_wp2_with fail
                refine (HWK.out _ (below_dq (HB5.out.tr HBj.out) _)).mono ?_
                rintro r w6 ⟨rfl, hb6⟩
                go_wp2_with fail
                go_ret
                exact ⟨rfl, (below_dq (HB5.out.tr HBj.out) _).tr hb6⟩
              · have HNE2 : Hid (∀ k' (hk : k' < j + 1) (hj : j + 1 ≤ i), LW[k']'(by omega) ≠ LW[i]) := hide (fun k' hk hj => by
                  by_cases e : k' = j
                  · subst e
                    exact he
                  · exact HNE.out k' (by omega) (by omega))
                have hbb : (LW[j] == LW[i]) = false := by simpa using he
                clear he
                generalize LW[j] = sj at x1 hbb
                generalize LW[i] = si at x2 hbb
                go_quiet (fail)
                go_wp2_with fail
                go_roundw
                case rel => exact ⟨j + 1, by omega, by go_num, HNE2, hide (below_dq HBj.out _)⟩
                case measure => simp [intOf]; omega
            · obtain rfl : j = i := by omega
              go_wp2_with fail
              go_roundw
              case rel =>
                exact ⟨j + 1, by omega, by go_num, hide (onceTo_succ hlt HON.out fun k hk => HNE.out k hk (Nat.le_refl _)), HBj⟩
              case measure => simp [intOf]; omega
        · obtain rfl : i = LW.length := by omega
          have hA := HALL.out HON.out
          obtain ⟨rfl, hA2⟩ := Prod.mk.inj hA
          obtain ⟨rfl, rfl⟩ := Prod.mk.inj hA2
          have HLV : Hid ((oV f).length = LW.length) := hide (by rw [← HVN.out, List.length_map])
          clear hA hA2
          have HON2 : Hid (onceTo ((oV f).map (·.name)) (oV f).length) := hide (by rw [HVN.out, HLV.out]; exact HON.out)
          have HNM : Hid (∀ i (hi : i < LW.length) (h2 : i < (oV f).length), (oV f)[i].name = LW[i]) := hide (fun i hi h2 => by simp only [← HVN.out, List.getElem_map])
          have HNO : Hid (∀ i (hi : i < LN.length) (h2 : i < (oV f).length), (oV f)[i].no = LN[i]) := hide (fun i hi h2 => by simp only [← HVO.out, List.getElem_map])
          clear HVN HVO HALL HDUP HON HLW HLN
          generalize oV f = LV at *
          have HF : Hid (∀ i (hi : i < LW.length) W, Below W5.heap.size W5 W → Calls Tryd.prog 11 #[.slice va LW.length vc, .string ⟨LW[i].toArray⟩] W fun e w' => e = .returned (.tuple #[.int .i64 i, .bool true]) ∧ Below W.heap.size W w') := hide (fun i hi W hW => by
            have hi2 : i < LV.length := by rw [HLV.out]; exact hi
            have h := find_any LV va vc LV[i].name W (HVR5.out.keep hW (Nat.le_refl _))
            rw [find_at HON2.out hi2, HNM.out i hi hi2, HLV.out] at h
            exact h)
          have HS : Hid (∀ i (hi : i < LW.length) (hi2 : i < LV.length) (p : Int) W, Below W5.heap.size W5 W → Calls Tryd.prog 13 #[.slice va LW.length vc, .string ⟨LW[i].toArray⟩, .int .i64 p] W fun e w' => e = .returned (.tuple #[.int .i64 ((if LV[i].sees p then (i, true) else (0, false) : Nat × Bool)).1, .bool (if LV[i].sees p then (i, true) else (0, false) : Nat × Bool).2]) ∧ Below W.heap.size W w') := hide (fun i hi hi2 p W hW => by
            have h := seen_any LV va vc LV[i].name p W (HVR5.out.keep hW (Nat.le_refl _))
            rw [seen_at HON2.out hi2, HNM.out i hi hi2, HLV.out] at h
            exact h)
          have HAT := hide HVR5.out.at_
          have HAD : Hid (0 < LV.length → ∃ b o, va = some ⟨b, o, none⟩) := hide HVR5.out.addr
          clear HVR5 HON2
          rw [HLV.out]
          go_upto_region 19 with fail
          go_wp2_with fail
          go_loopw [12] (fun i wr => ∃ k : Nat, k ≤ LW.length ∧ i = .int .i64 k ∧ Hid (Below W5.heap.size W5 wr)) (fun i _ => LW.length - (intOf i).toNat)
          case atStart => exact ⟨0, Nat.zero_le _, rfl, HBi⟩
          case round =>
            clear hlt hi
            obtain ⟨i, hi, rfl, HBk⟩ := hrel
            by_cases hlt : i < LW.length
            · have hlt' : (i : Int) < (LW.length : Int) := by omega
              have hiN : i < LN.length := by rw [← HOL.out]; exact hlt
              have hiV : i < LV.length := by rw [HLV.out]; exact hlt
              obtain rfl := hg1 (by omega)
              obtain rfl := hg2 (by omega)
              obtain ⟨b, o, rfl⟩ := HAD.out (by omega)
              have hat := HAT.out b o rfl i hiV
              have HF1 := hide (HF.out i hlt)
              have HS1 := hide (HS.out i hlt hiV)
              have hnm := HNM.out i hlt hiV
              have hno := HNO.out i hiN hiV
              have hx1 := HC1.out i hlt
              have hx2 := HC2.out i hiN
              clear HF HS
              generalize LV[i] = V at *
              generalize LW[i] = si at *
              generalize LN[i] = ni at *
              subst hnm hno
              have x1 := cell_keep hx1 HBk.out (Nat.le_refl _)
              go_wp2_with fail
              refine (HF1.out _ HBk.out).mono ?_
              rintro r w6 ⟨rfl, hb6⟩
              have HB6 := hide (HBk.out.tr hb6)
              obtain ⟨y0, y1, y2, y3, y4⟩ := hat
              have HCS := hide (fun (W : World) (hW : Below W5.heap.size W5 W) => (⟨cell_keep hx1 hW (Nat.le_refl _), cell_keep hx2 hW (Nat.le_refl _), cell_keep y0 hW (Nat.le_refl _), cell_keep y2 hW (Nat.le_refl _), cell_keep y3 hW (Nat.le_refl _), cell_keep y4 hW (Nat.le_refl _)⟩ : _ ∧ _ ∧ _ ∧ _ ∧ _ ∧ _))
              clear hb6 x1 hx1 hx2 y0 y1 y2 y3 y4
              obtain ⟨x1, x2, y0, y2, y3, y4⟩ := HCS.out w6 HB6.out
              go_upto_region 23 with fail
              go_quiet (fail)
              have HB6' := hide (below_dq HB6.out nq)
              generalize w6.drewN nq = w6' at *
              clear x1 x2 y0 y2 y3 y4
              have ha4 := cell_at (j := 4) HXw.out rfl
              go_wp2_with fail
              go_loopw [15] (fun i wk => ∃ p : Int, -1 ≤ p ∧ p ≤ f.count + 2 ∧ i = .int .i64 p ∧ Hid (Below W5.heap.size W5 wk)) (fun i _ => (f.count + 2 - intOf i).toNat)
              case atStart => exact ⟨-1, by omega, by omega, rfl, HB6'⟩
              case round =>
                obtain ⟨p, hp1, hp2, rfl, HBp⟩ := hrel
                have a4 := cell_keep ha4 HBp.out (Nat.le_refl _)
                by_cases hp : p ≤ f.count + 1
                · have hS := HS1.out p _ HBp.out
                  by_cases hf : V.frm ≤ p
                  · by_cases ht : p < V.til
                    · have hse : V.sees p = true := by simp [Vr.sees, hf, ht]
                      simp only [hse, if_true, Bool.false_eq_true, if_false] at hS
                      obtain ⟨z1, z2, z0, z4, z5, z6⟩ := HCS.out wr HBp.out
                      go_wp2_with fail
                      refine hS.mono ?_
                      rintro r w7 ⟨rfl, hb7⟩
                      have HB7 := hide (HBp.out.tr hb7)
                      clear hb7 z1 z2 z0 z4 z5 z6 hS a4
                      obtain ⟨z1, z2, z0, z4, z5, z6⟩ := HCS.out w7 HB7.out
                      go_wp2_with fail
                      go_roundw
                      case rel => exact ⟨p + 1, by omega, by omega, by go_num, HB7⟩
                      case measure => simp [intOf]; omega
                    · have hse : V.sees p = false := by simp [Vr.sees, ht]
                      simp only [hse, if_true, Bool.false_eq_true, if_false] at hS
                      obtain ⟨z1, z2, z0, z4, z5, z6⟩ := HCS.out wr HBp.out
                      go_wp2_with fail
                      refine hS.mono ?_
                      rintro r w7 ⟨rfl, hb7⟩
                      have HB7 := hide (HBp.out.tr hb7)
                      clear hb7 z1 z2 z0 z4 z5 z6 hS a4
                      obtain ⟨z1, z2, z0, z4, z5, z6⟩ := HCS.out w7 HB7.out
                      go_wp2_with fail
                      go_roundw
                      case rel => exact ⟨p + 1, by omega, by omega, by go_num, HB7⟩
                      case measure => simp [intOf]; omega
                  · have hse : V.sees p = false := by simp [Vr.sees, hf]
                    simp only [hse, if_true, Bool.false_eq_true, if_false] at hS
                    obtain ⟨z1, z2, z0, z4, z5, z6⟩ := HCS.out wr HBp.out
                    go_wp2_with fail
                    refine hS.mono ?_
                    rintro r w7 ⟨rfl, hb7⟩
                    have HB7 := hide (HBp.out.tr hb7)
                    clear hb7 z1 z2 z0 z4 z5 z6 hS a4
                    obtain ⟨z1, z2, z0, z4, z5, z6⟩ := HCS.out w7 HB7.out
                    go_wp2_with fail
                    go_roundw
                    case rel => exact ⟨p + 1, by omega, by omega, by go_num, HB7⟩
                    case measure => simp [intOf]; omega
                · go_wp2_with fail
                  go_roundw
                  case rel => exact ⟨i + 1, by omega, by go_num, HBp⟩
                  case measure => simp [intOf]; omega
            · obtain rfl : i = LW.length := by omega
              go_wp2_with fail
              refine (HWK.out _ (HB5.out.tr HBk.out)).mono ?_
              rintro r w6 ⟨rfl, hb6⟩
              go_wp2_with fail
              go_ret
              exact ⟨rfl, (HB5.out.tr HBk.out).tr hb6⟩
end Go.Proofs.YtccgpmncpemmdaaDoor
namespace Go.Proofs.YtccgpmncpemmdaaDoor.PrOnce
open Go Go.ChangeShapes Go.WideShapes Go.ChangeAt Go.RowKit
set_option linter.unusedSimpArgs false
set_option linter.unusedVariables false
set_option linter.unnecessarySimpa false
theorem laidOut : laidOutB Tryd.prog = true := by kernel_rfl
/-- What came in reads behind the call as it did. -/
theorem stay {H : Type} {enc : TypeId × Value → H} {W W' : World} {sp : Nat → Bool} {t : TypeId} {v : Value} {d : DataW H} {ps : List MemPlace} (hr : Tryd.prog.readableRec t = true) (hrow : t < Tryd.prog.types.size)
    (h : DataW.Trod enc Tryd.prog W 0 (fun _ => true) true t v d ps) (hb : Below W.heap.size W W') (hs : ∀ p ∈ ps, sp p.block = true) : DataW.Trod enc Tryd.prog W' 0 sp true t v d ps := by
  refine WideElems.Trod_stays laidOut hr hrow h (fun p hp => ?_) hs
  obtain ⟨n, hn⟩ := h
  have hlt := DataW.trod_lt n t _ _ hn p hp
  cases p with
  | cell b o => exact hb.cell (p := ⟨b, o, none⟩) hlt
  | map b => exact hb.block b hlt
set_option maxRecDepth 100000 in
theorem lifted (os : Os) (started : os.Started) (H : Type) (enc : TypeId × Value → H) :
    ReturnsInHanded {} Tryd.checked os 5 .any (fun w args => (Rows.namesOnceSpec.pre enc Tryd.prog Tryd.f5 [] false w args ∧ laidMetH Tryd.prog Rows.namesOnceRow.laid w) ∧ sizedMet enc Tryd.prog Tryd.f5 (OpenSpec.ofChange Rows.namesOnceSpec) false w args)
      (Rows.namesOnceSpec.post enc Tryd.prog Tryd.f5 false true false false) := by
  refine returnsInHanded_of_change_and (C := Tryd.checked) (X := fun w _ => laidMetH Tryd.prog Rows.namesOnceRow.laid w) (fun _ _ _ hh h => h.of_heap hh) own started (by kernel_rfl) Tryd.func5
    (witness_laid #[.agg #[.slice none 0 0, .slice none 0 0]] 8 (by kernel_rfl) (by kernel_rfl) (by kernel_rfl) (by kernel_rfl) (by kernel_rfl) (by kernel_rfl) (by kernel_rfl)) ?_
  intro W base args ds gs before hval0 hW _ _ hL _
  have hval : ∀ (j : Nat) t v, Tryd.f5.params[j]? = some t → args[j]? = some v → Value.okWide Tryd.prog W .any base t v := hval0
  have hW' := hW
  obtain ⟨p, q, hA0, hV, rfl, hfz, hnd⟩ := hW
  have hA : DataW.TrodAll enc Tryd.prog W 0 (fun _ => true) true Tryd.f5.params.toList args.toList ds p := hA0
  rw [Tryd.params5] at hA hval
  obtain ⟨v0, vs0, d0, ds0, p0, q0, hargs, rfl, rfl, h0, r0⟩ := trodAll_cons hA
  obtain ⟨rfl, rfl, rfl⟩ := trodAll_nil r0
  obtain rfl : args = #[v0] := by cases args; simp_all
  obtain ⟨rfl, rfl⟩ := trodVars_none hV
  obtain ⟨P0, C0, hd0⟩ := read_drn (hval 0 38 v0 rfl rfl) h0
  clear hA0 hval0
  refine (NamesOnce_any P0 C0 v0 W hd0 (tab_of_laid hL)).mono fun r W' ⟨hr, hb⟩ => ?_
  subst hr
  exact ⟨_, rfl, post_of_below (pa := (p0 ++ [])) (pv := []) hW' (fun _ _ _ => (trodAll_cons_mk (shut_bool Tryd.underlying4 _) trodAll_mk0))
    (fun sp hsp => (trodAll_cons_mk (stay (by kernel_rfl) (of_decide_eq_true (by kernel_rfl)) h0 hb (fun p hp => hsp p (by simp [hp]))) trodAll_mk0)) (fun _ _ => rfl) rfl
    hb (ok_one (by kernel_rfl) rfl (okWide_bool_mk Tryd.underlying4 _))⟩
theorem over : Rows.namesOnceRow.holds Tryd.pinned (OpenSpec.ofChange Rows.namesOnceSpec) :=
  OpenClaim.holds_of_wide 5 Tryd.f5 rfl rfl rfl rfl rfl rfl rfl ⟨rfl, rfl, rfl, rfl, rfl⟩ rfl rfl rfl rfl rfl (by kernel_rfl) Tryd.func5 (by kernel_rfl)
    (of_decide_eq_true (by kernel_rfl)) (by unfold Func.isWrapper; first | (rw [if_pos (by decide +kernel)]; kernel_rfl) | (rw [if_neg (by decide +kernel)]; exact ⟨rfl, rfl⟩))
    (fun os started H enc _ => lifted os started H enc)
end Go.Proofs.YtccgpmncpemmdaaDoor.PrOnce
namespace Go.Proofs.YtccgpmncpemmdaaDoor
open Go
theorem namesOnce_proved : Rows.NamesOnceCardSaid :=
  Claim7.holds_tied_plain_at .later [] [.data, .listed, .data, .pinned] true (true, "e6060c3e9f00db02bd710517d1386f908ac2896a23d583f87d7a410536a4e989") false
    PrOnce.over (fun _ h => by cases h) (by kernel_rfl) (fun _ h => by cases h) namesOnce_row_tie rfl ⟨rfl, rfl⟩ (by kernel_rfl) rfl
    (fun f fn hf hfn => by
      obtain rfl : f = 5 := Option.some.inj ((show Tryd.prog.funcNamed "rewind/rewindlaw10.NamesOnce" = some 5 by kernel_rfl).symm.trans hf) |>.symm
      obtain rfl : fn = Tryd.f5 := (Option.some.inj (Tryd.func5.symm.trans hfn)).symm
      exact ⟨by kernel_rfl, fun j t ht => by
        rw [Tryd.params5] at ht
        have h3 : t = 38 := by
          rcases j with _ | j
          all_goals simp at ht
          · exact ht.symm
        rcases h3 with rfl
        · exact (show Tryd.prog.wantsStandIn 38 = false by kernel_rfl)⟩)
    (by kernel_rfl)
#print axioms namesOnce_proved
end Go.Proofs.YtccgpmncpemmdaaDoor
