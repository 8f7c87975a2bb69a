/- NamesRefuses returns true for every input, whatever the world is in which the table of blanks is laid as the program lays it, and the input reads as it did. No further condition. -/
import Derived.Test.YtccgpmncpemmdaaDoorShC
import Derived.ProofKit
import Derived.OpenShut
import Derived.Test.YtccgpmncpemmdaaDoorDnE
import Derived.Test.YtccgpmncpemmdaaDoorRows
import Derived.Test.YtccgpmncpemmdaaDoorShA
import Derived.Lay
import Derived.MakeChecks
import Derived.Handed
import Derived.ChangeSame
import Derived.Test.YtccgpmncpemmdaaDoorDnA
import Derived.Test.YtccgpmncpemmdaaDoorNmE
import Derived.Test.YtccgpmncpemmdaaDoorNmC
import Derived.Test.YtccgpmncpemmdaaDoorNmJ
import Derived.Test.YtccgpmncpemmdaaDoorTie
import Derived.Test.YtccgpmncpemmdaaDoorCards
import Derived.SevenTiedAt
import Derived.WideKeyArgs
import Derived.ChangeMaps5
/- Slices that come in: a list of whatever their elements read as. -/
namespace Go.Proofs.YtccgpmncpemmdaaDoor
open Go Go.RowKit Go.WideShapes Go.ChangeShapes
set_option linter.unusedSimpArgs false
set_option linter.unusedVariables false
set_option linter.unnecessarySimpa false
/-- The slice a, cap holds things that lie, sz cells each, as At says. -/
structure Sl {α : Type} (sz : Nat) (At : α → Nat → Nat → Prop) (l : List α) (a : Option Addr) (cap : Nat) : Prop where
  len : l.length ≤ cap
  cap : cap ≤ maxLen
  addr : 0 < l.length → ∃ b o, a = some ⟨b, o, none⟩
  at_ : ∀ (b o : Nat), a = some ⟨b, o, none⟩ → ∀ (i : Nat) (h : i < l.length), At l[i] b (o + i * sz)
section
variable {H : Type} {enc : TypeId × Value → H} {W : World} {sp : Nat → Bool} {held : Bool} {P : Program}
theorem read_slice {α : Type} {T E : TypeId} {sz : Nat} (At : α → Nat → Nat → Prop) (hu : P.underlying T = some (.slice E)) (hc : P.cellsOf E = sz) (h0 : 0 < sz) {n : Nat} {v : Value} {x : DataW H × List MemPlace}
    (helem : ∀ (n : Nat) (cs : List Value) (x : DataW H × List MemPlace), DataW.trod enc P W 0 sp held n E cs = some x → ∃ y : α, ∀ b o, (∀ j u, cs[j]? = some u → W.cell? ⟨b, o + j, none⟩ = some u) → At y b o)
    (h : DataW.trod enc P W 0 sp held n T [v] = some x) : ∃ (l : List α) (a : Option Addr) (cap : Nat), v = .slice a l.length cap ∧ Sl sz At l a cap := by
  rcases DataW.trod_slice hu h with ⟨e4, _⟩ | ⟨a', len, cap, elems, rest, n2, hn2, e4, _, hb, hlc, hcm, hel, hall, _, _⟩
  · simp only [List.cons.injEq, and_true] at e4
    exact ⟨[], none, 0, e4, ⟨Nat.le_refl _, Nat.zero_le _, by simp, fun b o e => by cases e⟩⟩
  · simp only [List.cons.injEq, and_true] at e4
    subst e4
    have key : ∀ i, i < len → ∃ (b o : Nat) (y : α), a'.add (i * sz) = ⟨b, o, none⟩ ∧ At y b o := by
      intro i hi
      have h1 := hall i hi
      rw [List.getElem?_eq_getElem (by omega), hc] at h1
      obtain ⟨cs', h2, h3⟩ := Option.bind_eq_some_iff.1 h1
      obtain ⟨_, hl, hg⟩ := World.cells?_some h2
      obtain ⟨y, hy⟩ := helem _ _ _ h3
      have hs : (a'.add (i * sz)).spot = none := by
        have := hg 0 h0
        rw [List.getElem?_eq_getElem (by omega)] at this
        exact World.cell?_spot this
      generalize a'.add (i * sz) = q at *
      obtain ⟨b, o, s⟩ := q
      have hs : s = none := hs
      subst hs
      exact ⟨b, o, y, rfl, hy b o fun j u hu => by
        have hj : j < sz := by have := (List.getElem?_eq_some_iff.1 hu).1; omega
        have h4 := hg j hj
        rw [hu, Addr.add_lit] at h4
        exact h4⟩
    by_cases hz : len = 0
    · subst hz
      exact ⟨[], some a', cap, rfl, ⟨Nat.zero_le _, hcm, by simp, fun b o e i hi => absurd hi (Nat.not_lt_zero _)⟩⟩
    · obtain ⟨b0, o0, _, ha0, _⟩ := key 0 (by omega)
      have ha : a' = ⟨b0, o0, none⟩ := by simpa [Addr.add] using ha0
      subst ha
      have key2 : ∀ i, i < len → ∃ y : α, At y b0 (o0 + i * sz) := fun i hi => by
        obtain ⟨b', o', x, he, hat⟩ := key i hi
        rw [Addr.add_lit] at he
        simp only [Addr.mk.injEq, and_true] at he
        obtain ⟨rfl, rfl⟩ := he
        exact ⟨x, hat⟩
      refine ⟨(List.finRange len).map fun i => (key2 i.1 i.2).choose, some ⟨b0, o0, none⟩, cap, by simp, ⟨by simpa using hlc, hcm, fun _ => ⟨_, _, rfl⟩, ?_⟩⟩
      intro b o e i hi
      simp only [Option.some.injEq, Addr.mk.injEq, and_true] at e
      obtain ⟨rfl, rfl⟩ := e
      have hi' : i < len := by simpa using hi
      have := (key2 i hi').choose_spec
      simpa using this
theorem read_arg {α : Type} {T E : TypeId} {sz : Nat} (At : α → Nat → Nat → Prop) (hu : P.underlying T = some (.slice E)) (hc : P.cellsOf E = sz) (h0 : 0 < sz) {v : Value} {d : DataW H} {p : List MemPlace} {r : Reach} {b0 : Nat}
    (helem : ∀ (n : Nat) (cs : List Value) (x : DataW H × List MemPlace), DataW.trod enc P W 0 sp held n E cs = some x → ∃ y : α, ∀ b o, (∀ j u, cs[j]? = some u → W.cell? ⟨b, o + j, none⟩ = some u) → At y b o)
    (hv : Value.okWide P W r b0 T v) (h : DataW.Trod enc P W 0 sp held T v d p) : ∃ (l : List α) (a : Option Addr) (cap : Nat), v = .slice a l.length cap ∧ Sl sz At l a cap := by
  obtain ⟨a, len, cap, rfl⟩ := okWide_slice hu hv
  obtain ⟨n, hn⟩ := h
  exact read_slice At hu hc h0 helem hn
theorem i64_wf {z : Int} (h : (Lit.int .i64 z).wf = true) : I64 z := by
  have h2 : -9223372036854775808 ≤ z ∧ z ≤ 9223372036854775807 := by simpa [Lit.wf, IntKind.min, IntKind.max, IntKind.signed, IntKind.bits] using h
  exact h2
theorem u8_wf {z : Int} (h : (Lit.int .u8 z).wf = true) : 0 ≤ z ∧ z ≤ 255 := by
  simpa [Lit.wf, IntKind.min, IntKind.max, IntKind.signed, IntKind.bits] using h
/-- A number's cell. -/
theorem elem_int {E : TypeId} (he : P.underlying E = some (.int .i64)) (n : Nat) (cs : List Value) (x : DataW H × List MemPlace) (h : DataW.trod enc P W 0 sp held n E cs = some x) : ∃ z : Int, I64 z ∧ cs = [.int .i64 z] := by
  obtain ⟨z, e0, _, w0⟩ := DataW.trod_int he h
  exact ⟨z, i64_wf w0, e0⟩
theorem elem_u8 {E : TypeId} (he : P.underlying E = some (.int .u8)) (n : Nat) (cs : List Value) (x : DataW H × List MemPlace) (h : DataW.trod enc P W 0 sp held n E cs = some x) : ∃ z : Nat, z ≤ 255 ∧ cs = [.int .u8 (z : Nat)] := by
  obtain ⟨z, e0, _, w0⟩ := DataW.trod_int he h
  have := u8_wf w0
  refine ⟨z.toNat, by omega, ?_⟩
  rw [Int.toNat_of_nonneg this.1]
  exact e0
/-- A string's cell. -/
theorem elem_str {E : TypeId} (he : P.underlying E = some .string) (n : Nat) (cs : List Value) (x : DataW H × List MemPlace) (h : DataW.trod enc P W 0 sp held n E cs = some x) : ∃ s : Bytes, s.length ≤ maxLen ∧ cs = [.string ⟨s.toArray⟩] := by
  obtain ⟨s, e0, _, w0⟩ := DataW.trod_string he h
  refine ⟨s.data.toList, by rw [Array.length_toList]; exact w0, ?_⟩
  have hs : (⟨s.data.toList.toArray⟩ : ByteArray) = s := by simp
  rw [hs]
  exact e0
/-- A bool's cell. -/
theorem elem_bool {E : TypeId} (he : P.underlying E = some .bool) (n : Nat) (cs : List Value) (x : DataW H × List MemPlace) (h : DataW.trod enc P W 0 sp held n E cs = some x) : ∃ b : Bool, cs = [.bool b] := by
  obtain ⟨b, e0, _⟩ := DataW.trod_bool he h
  exact ⟨b, e0⟩
/-- The fields of a struct. -/
theorem elem_struct {T : TypeId} {fs : Array Field} (ht : P.underlying T = some (.struct fs)) {n : Nat} {cs : List Value} {x : DataW H × List MemPlace} (h : DataW.trod enc P W 0 sp held n T cs = some x) :
    cs.length = P.cellsOf T ∧ ∀ (i : Nat) (f : Field), fs[i]? = some f → ∃ (m : Nat) (y : DataW H × List MemPlace), DataW.trod enc P W 0 sp held m f.type ((cs.drop f.offset).take (P.cellsOf f.type)) = some y := by
  obtain ⟨xs, n1, _, _, hl, hxl, hf⟩ := DataW.trod_struct ht h
  refine ⟨hl, fun i f hi => ?_⟩
  have h1 := hf i f hi
  have h2 : i < xs.length := by rw [hxl]; exact (Array.getElem?_eq_some_iff.1 hi).1
  rw [List.getElem?_eq_getElem h2] at h1
  exact ⟨n1, _, h1⟩
end
end Go.Proofs.YtccgpmncpemmdaaDoor
/- Drafts of layer 10 that come in. -/
namespace Go.Proofs.YtccgpmncpemmdaaDoor
open Go Go.RowKit Go.WideShapes Go.ChangeShapes
set_option linter.unusedSimpArgs false
set_option linter.unusedVariables false
set_option linter.unnecessarySimpa false
set_option maxRecDepth 100000
section
variable {H : Type} {enc : TypeId × Value → H} {W : World} {sp : Nat → Bool} {held : Bool}
theorem u16_wf {z : Int} (h : (Lit.int .u16 z).wf = true) : 0 ≤ z ∧ z ≤ 65535 := by
  simpa [Lit.wf, IntKind.min, IntKind.max, IntKind.signed, IntKind.bits] using h
def ByteAt (W : World) (z : Nat) (b o : Nat) : Prop := z ≤ 255 ∧ W.cell? ⟨b, o, none⟩ = some (.int .u8 (z : Nat))
theorem elem_byteAt (n : Nat) (cs : List Value) (x : DataW H × List MemPlace) (h : DataW.trod enc Tryd.prog W 0 sp held n 5 cs = some x) : ∃ y : Nat, ∀ b o, (∀ j u, cs[j]? = some u → W.cell? ⟨b, o + j, none⟩ = some u) → ByteAt W y b o := by
  obtain ⟨z, hz, rfl⟩ := elem_u8 Tryd.underlying5 n cs x h
  exact ⟨z, fun b o hc => ⟨hz, hc 0 _ rfl⟩⟩
theorem Sl.bys {l : List Nat} {a : Option Addr} {cap : Nat} (h : Sl 1 (ByteAt W) l a cap) : Bys W l a cap :=
  ⟨h.len, h.cap, h.addr, fun b o e i hi => by have := h.at_ b o e i hi; rwa [Nat.mul_one] at this⟩
theorem read_bys0 {n : Nat} {v : Value} {x : DataW H × List MemPlace} (h : DataW.trod enc Tryd.prog W 0 sp held n 36 [v] = some x) : ∃ (l : List Nat) (a : Option Addr) (cap : Nat), v = .slice a l.length cap ∧ Bys W l a cap := by
  obtain ⟨l, a, cap, rfl, hs⟩ := read_slice (ByteAt W) Tryd.underlying36 (by kernel_rfl : Tryd.prog.cellsOf 5 = 1) (by decide) elem_byteAt h
  exact ⟨l, a, cap, rfl, hs.bys⟩
theorem read_drn {r : Reach} {b0 : Nat} {v : Value} {d : DataW H} {p : List MemPlace} (hv : Value.okWide Tryd.prog W r b0 38 v) (h : DataW.Trod enc Tryd.prog W 0 sp held 38 v d p) : ∃ P C : List Nat, DrN W P C v := by
  obtain ⟨cs, rfl, _⟩ := okWide_struct Tryd.underlying38 hv
  obtain ⟨n, hn⟩ := h
  have hn' : DataW.trod enc Tryd.prog W 0 sp held n 38 cs.toList = some (d, p) := hn
  obtain ⟨hl, hf⟩ := elem_struct Tryd.underlying38 hn'
  have hl2 : cs.toList.length = 2 := hl.trans (by kernel_rfl)
  have csl : Tryd.prog.cellsOf 36 = 1 := by kernel_rfl
  obtain ⟨l⟩ := cs
  match l, hl2, hf with
  | [v0, v1], _, hf =>
    have g0 : ∃ m y, DataW.trod enc Tryd.prog W 0 sp held m 36 (([v0, v1].drop 0).take (Tryd.prog.cellsOf 36)) = some y := hf 0 _ rfl
    have g1 : ∃ m y, DataW.trod enc Tryd.prog W 0 sp held m 36 (([v0, v1].drop 1).take (Tryd.prog.cellsOf 36)) = some y := hf 1 _ rfl
    obtain ⟨m0, y0, f0⟩ := g0
    obtain ⟨m1, y1, f1⟩ := g1
    simp only [csl, List.drop_zero, List.drop_succ_cons, List.take_succ_cons, List.take_zero] at f0 f1
    obtain ⟨l0, a0, c0, rfl, hb0⟩ := read_bys0 f0
    obtain ⟨l1, a1, c1, rfl, hb1⟩ := read_bys0 f1
    exact ⟨l0, l1, a0, c0, a1, c1, rfl, hb0, hb1⟩
end
end Go.Proofs.YtccgpmncpemmdaaDoor
/- What a row of this seat needs: its condition gives the table of blanks; a world that meets it; the last step of a row. -/
namespace Go.Proofs.YtccgpmncpemmdaaDoor
open Go Go.RowKit Go.WideShapes Go.ChangeShapes
set_option linter.unusedSimpArgs false
set_option linter.unusedVariables false
set_option linter.unnecessarySimpa false
theorem own : ownKnob Tryd.prog.godebug = none := by kernel_rfl
/-- The list of laid variables of every row of this seat. -/
def theLaid : List (String × DataW Unit) := [("unicode/utf8.acceptRanges", Rows.laid_unicode_utf8_acceptRanges), ("unicode.White_Space", Rows.laid_unicode_White_Space), ("strings.asciiSpace", Rows.laid_strings_asciiSpace), ("unicode/utf8.first", Rows.laid_unicode_utf8_first)]
theorem space_data : (Rows.laid_strings_asciiSpace : DataW Unit) = Lib.tabData .u8 Lib.asciiSpaceTab := by kernel_rfl
/-- What a row's condition says of one of the listed variables. -/
theorem laid_get0 {P : Program} {W : World} : ∀ {l : List (String × DataW Unit)} {ps : List MemPlace}, DataW.LaidVars P W l ps → ∀ {n : String} {d : DataW Unit}, (n, d) ∈ l →
    ∃ g t cs fuel p, P.globalNamed n = some g ∧ (P.globals[g]?).map (·.type) = some t ∧ W.var? P n = some cs ∧ DataW.trod (fun _ => ()) P W 0 (fun _ => true) false fuel t cs.toList = some (d, p)
  | [], _, _, _, _, hm => by cases hm
  | (m, e) :: l, ps, h, n, d, hm => by
    obtain ⟨g, t, cs, fuel, p, q, h1, h2, h3, h4, h5, _⟩ := h
    cases hm with
    | head => exact ⟨g, t, cs, fuel, p, h1, h2, h3, h4⟩
    | tail _ hm => exact laid_get0 h5 hm
theorem laid_get {W : World} (h : laidMetH Tryd.prog theLaid W) {n : String} {d : DataW Unit} (hm : (n, d) ∈ theLaid) :
    ∃ g t cs fuel p, Tryd.prog.globalNamed n = some g ∧ (Tryd.prog.globals[g]?).map (·.type) = some t ∧ W.var? Tryd.prog n = some cs ∧ DataW.trod (fun _ => ()) Tryd.prog W 0 (fun _ => true) false fuel t cs.toList = some (d, p) := by
  rw [MakeChecks.laidMetH_plain _ _ _ (by kernel_rfl)] at h
  obtain ⟨ps, h, _⟩ := h
  exact laid_get0 h hm
/-- What a row's condition on the listed variables gives a walk. -/
theorem tab_of_laid {W : World} (h : laidMetH Tryd.prog theLaid W) : Tab W := by
  obtain ⟨g', t', cs, fuel, p, hg', ht', hvar, hd⟩ := laid_get h (n := "strings.asciiSpace") (d := Rows.laid_strings_asciiSpace) (by unfold theLaid; repeat (first | exact List.mem_cons_self | apply List.mem_cons_of_mem))
  have hg : Tryd.prog.globalNamed "strings.asciiSpace" = some 0 := by kernel_rfl
  obtain rfl := Option.some.inj (hg.symm.trans hg')
  obtain rfl := Option.some.inj ((show (Tryd.prog.globals[0]?).map (·.type) = some 150 by kernel_rfl).symm.trans ht')
  rw [space_data] at hd
  unfold Tab Lib.TabIs
  rw [hvar, ← Lib.cells_of_tab Tryd.underlying150 Tryd.underlying5 (by kernel_rfl) (by kernel_rfl) hd]
/-- A world that meets every row's condition on the listed variables. -/
theorem witness_laid {os : Os} {H : Type} {enc : TypeId × Value → H} {f : FuncId} {fn : Func} {s : ChangeSpec} (args : Array Value) (fuel : Nat)
    (hv : ((World.laidAll Tryd.prog os theLaid).forCall (fun _ _ => 0) ⟨#[], args, []⟩).variablesZipB Tryd.prog = true)
    (hr : (((World.laidAll Tryd.prog os theLaid).forCall (fun _ _ => 0) ⟨#[], args, []⟩).heap.toList.drop Tryd.prog.globals.size).take ((begin Tryd.prog (fun _ _ => 0) default).world.heap.size - Tryd.prog.globals.size) =
      (begin Tryd.prog (fun _ _ => 0) default).world.heap.toList.drop Tryd.prog.globals.size)
    (hok : Input.okWideB Tryd.prog ((World.laidAll Tryd.prog os theLaid).forCall (fun _ _ => 0) ⟨#[], args, []⟩) f ⟨#[], args, []⟩ = true)
    (hpre : s.preB enc Tryd.prog fn [] false ((World.laidAll Tryd.prog os theLaid).forCall (fun _ _ => 0) ⟨#[], args, []⟩).memory args fuel = true)
    (hsz : s.sizedB enc Tryd.prog fn false ((World.laidAll Tryd.prog os theLaid).forCall (fun _ _ => 0) ⟨#[], args, []⟩).memory args fuel = true)
    (hf : (World.holding Tryd.prog os ⟨#[], #[], []⟩).layFits Tryd.prog theLaid [] = true)
    (hi : (World.holding Tryd.prog os ⟨#[], #[], []⟩).layIfaces Tryd.prog theLaid (World.laidAll Tryd.prog os theLaid) = true) :
    ∃ (w : World) (tape : Tape) (i : Input), w.os = os ∧ (w.forCall tape i).Shaped Tryd.prog ∧ i.vars = [] ∧ Input.okWide Tryd.prog (w.forCall tape i) .any w.heap.size f i ∧
      ((s.pre enc Tryd.prog fn [] false (w.forCall tape i).memory i.args ∧ laidMetH Tryd.prog theLaid (w.forCall tape i).memory) ∧ sizedMet enc Tryd.prog fn (OpenSpec.ofChange s) false (w.forCall tape i).memory i.args) ∧ ({} : Assume).holds Tryd.prog (lone (Frame.enter Tryd.prog f i.args .normal) [] (w.forCall tape i)) :=
  ⟨World.laidAll Tryd.prog os theLaid, fun _ _ => 0, ⟨#[], args, []⟩, World.laidAll_os _ _ _, World.shaped_of_ZipB hv hr, (Input.okWide_of_okWideB (base := 0) hok).1, (Input.okWide_of_okWideB hok).2, ⟨⟨ChangeSpec.pre_of_preB hpre, by
    rw [MakeChecks.laidMetH_plain _ _ _ (by kernel_rfl)]; exact laidMet_laidAll _ hf hi⟩, sizedMet_of_sizedB hsz⟩, by
    simp only [Assume.holds]
    exact ⟨by simp, by simp, fun _ => Modest.zero, by simp, by simp⟩⟩
section
variable {H : Type} {enc : TypeId × Value → H} {P : Program}
/-- The row's last step, where of the call's world one knows that what was there has not turned. -/
theorem post_of_below {f : Func} {s : ChangeSpec} {apart fresh handsOn again : Bool} {W W' : World} {args : Array Value} {v : Value} {ds gs : List (DataW H)} {before pa pv : List MemPlace}
    (hW : DataW.Whole enc P f.params.toList s.vars apart W args.toList ds gs before)
    (hres : ∀ (b : Nat) (sp : Nat → Bool) (hd : Bool), DataW.TrodAll enc P W' b sp hd f.resultTypes.toList (v.resultList f.resultTypes.size) (s.fn H (ds ++ gs)).results [])
    (hargs : ∀ sp : Nat → Bool, (∀ p ∈ before, sp p.block = true) → DataW.TrodAll enc P W' 0 sp true f.params.toList args.toList (s.fn H (ds ++ gs)).args pa)
    (hvars : ∀ sp : Nat → Bool, (∀ p ∈ before, sp p.block = true) → DataW.TrodVars enc P W' sp s.vars (s.fn H (ds ++ gs)).vars pv)
    (hps : before = pa ++ pv) (hb : Below W.heap.size W W')
    (hok : ∀ (j : Nat) (t : TypeId) (r : Value), f.resultTypes[j]? = some t → (v.resultList f.resultTypes.size)[j]? = some r → Value.okWide P W' .any 0 t r) :
    s.post enc P f apart fresh handsOn again W args v W' := by
  have hlt : ∀ p ∈ before, p.block < W.heap.size := fun p hp => hW.lt p hp
  have hold : ∀ p ∈ before, (fun b => decide (b < W.heap.size)) p.block = true := fun p hp => by simpa using hlt p hp
  refine ⟨ds, gs, before, [], pa, pv, hW, hres _ _ _, hargs _ hold, hvars _ hold, World.keptBut_mono (fun p hp => ⟨hp, ?_⟩) (hb.frame (· ∈ before)), fun _ => ?_⟩
  · rw [hps, List.mem_append] at hp
    exact Or.inr hp
  · obtain ⟨_, _, _, _, _, hz, hn⟩ := hW
    refine ⟨hok, _, _, ([] ++ pa) ++ pv, ⟨[] ++ pa, pv, trodAll_append (hargs _ (fun _ _ => rfl)) (hres _ _ _), hvars _ (fun _ _ => rfl), rfl, ?_, ?_⟩, ?_⟩
    · intro b off hp
      have hin : MemPlace.cell b off ∈ before := by rw [hps]; simpa using hp
      rw [hb.frozen (hlt _ hin)]
      exact hz b off hin
    · intro ha
      have := hn ha
      rw [hps] at this
      simpa using this
    · intro p hp _
      rw [hps]
      simpa using hp
end
end Go.Proofs.YtccgpmncpemmdaaDoor
/- NamesRefuses, the plain law: a function of a draft with one fault is refused; points before and behind a function have no variables. -/
namespace Go.Proofs.YtccgpmncpemmdaaDoor
open Go Go.RowKit
set_option linter.unusedSimpArgs false
set_option linter.unusedVariables false
set_option linter.unnecessarySimpa false
theorem goV_all (P : Vr → Prop) : ∀ (acc vs : List Vr), (∀ v ∈ acc, P v) → (∀ v ∈ vs, P v) → ∀ v ∈ (goV acc vs).1, P v
  | acc, [], h, _ => h
  | acc, v :: vs, h, k => by
    rw [goV]
    split
    · simp
    split
    · simp
    · refine goV_all P (acc ++ [v]) vs (fun u hu => ?_) (fun u hu => k u (by simp [hu]))
      rcases List.mem_append.1 hu with hu | hu
      · exact h u hu
      · rw [List.mem_singleton] at hu
        subst hu
        exact k u (by simp)
theorem goV_len : ∀ (acc vs : List Vr), acc.length ≤ 50 → (goV acc vs).1.length ≤ 50
  | acc, [], h => h
  | acc, v :: vs, h => by
    rw [goV]
    split
    · simp
    split
    · simp
    · exact goV_len (acc ++ [v]) vs (by simp; omega)
theorem namesM_len (f : Fn) : (namesM f).1.length ≤ 50 := by
  unfold namesM
  split
  · exact goV_len _ _ (by simp)
  · simp
theorem insG_none (p : Int) : ∀ (l : List Vr) (i : Nat), (∀ v ∈ l, v.sees p = false) → insG p l i = []
  | [], _, _ => rfl
  | v :: l, i, h => by
    rw [insG, h v (by simp), if_neg (by simp)]
    exact insG_none p l (i + 1) fun v hv => h v (by simp [hv])
theorem no_bound2 {f : Fn} (h : checkM [f] = 0) {n : Int} (hn : n ∈ nosL f.body) : 0 ≤ n ∧ n < f.count := by
  obtain ⟨h1, h2, h3⟩ := check_body h
  obtain ⟨i, hi, rfl⟩ := List.mem_iff_getElem.1 hn
  rw [h3 i hi]
  have := nosL_len f.body
  omega
theorem end_bound2 {f : Fn} (h : checkM [f] = 0) (no : Int) : endM f no ≤ f.count + 1 := by
  obtain ⟨h1, h2, h3⟩ := check_body h
  unfold endM
  split
  · have hl : (lastM f no).1 ≤ f.count := by
      unfold lastM
      rw [if_pos h]
      split
      · simp; omega
      · rename_i q qs hq
        have hm := List.mem_of_find?_eq_some hq
        have hne : f.body ≠ [] := fun e => by rw [e, plsL, plsF] at hm; cases hm
        obtain ⟨h1, h2⟩ := plsF_ok (nosL f.body) f.body [] f.body 0 hne (fun _ h => h) (fun _ h => h) _ hm
        have := no_bound2 h (h2 _ (grL_mem _ h1))
        simp only
        omega
      · simp; omega
    omega
  · omega
theorem sts_no {l : List St} {s : St} (h : s ∈ stsL l) : s.no ∈ nosL l := by
  rw [← stsL_no]
  exact List.mem_map.2 ⟨s, h, rfl⟩
theorem names_frm (f : Fn) : ∀ v ∈ (namesM f).1, 0 ≤ v.frm ∧ v.til ≤ f.count + 1 := by
  unfold namesM
  split
  · rename_i hc
    obtain ⟨h1, h2, _⟩ := check_body hc
    refine goV_all _ _ _ (by simp) fun v hv => ?_
    rcases List.mem_append.1 hv with hv | hv
    · obtain ⟨p, _, rfl⟩ := List.mem_map.1 hv
      simp only [pmV]
      omega
    · obtain ⟨s, hs, rfl⟩ := List.mem_map.1 hv
      have hn := no_bound2 hc (sts_no (List.mem_filter.1 hs).1)
      have he := end_bound2 hc s.no
      simp only [stV]
      omega
  · simp
theorem ins_before (f : Fn) (n : Nat) : insM (namesM f).1 (-1 - (n : Int)) = [] := insG_none _ _ _ fun v hv => by
  have := names_frm f v hv
  simp only [Vr.sees, Bool.and_eq_false_iff, decide_eq_false_iff_not]
  omega
theorem ins_behind (f : Fn) (n : Nat) : insM (namesM f).1 (f.count + 1 + (n : Int)) = [] := insG_none _ _ _ fun v hv => by
  have := names_frm f v hv
  simp only [Vr.sees, Bool.and_eq_false_iff, decide_eq_false_iff_not]
  omega
/-- A function with one fault. -/
def badF (f : Fn) (n : Nat) (k : Nat) : Fn :=
  if k = 0 then { f with name := [] } else if k = 1 then { f with count := f.count + (1 + (n : Int)) } else if k = 2 then { f with result := 4 + (n : Int) }
  else if k = 3 then { f with params := f.params ++ [⟨[108, 101, 110], 1⟩] } else if k = 4 then { f with body := f.body ++ [.mk (11 + (n : Int)) f.count [] 0 [] [] [] []], count := f.count + 1 }
  else { f with body := f.body ++ [.mk 1 f.count [120] 0 [] [] [] []], count := f.count + 1 }
theorem wellM_one {s : St} {l : List St} (h : headM s = false) : wellM 20 (l ++ [s]) = false := by
  rw [wellM, List.all_append]
  simp [h]
theorem head_far (n : Nat) (no : Int) : headM (.mk (11 + (n : Int)) no [] 0 [] [] [] []) = false := by
  have h : rowOf (11 + (n : Int)) = none := by
    unfold rowOf
    rw [if_neg (by omega), if_neg (by omega), if_neg (by omega), if_neg (by omega), if_neg (by omega), if_neg (by omega), if_neg (by omega), if_neg (by omega), if_neg (by omega), if_neg (by omega)]
  unfold headM
  simp only [St.kind]
  rw [h]
theorem head_typ (no : Int) : headM (.mk 1 no [120] 0 [] [] [] []) = false := by
  simp [headM, rowOf, St.kind, fldM, St.name, St.typ, St.callee, St.args, St.body, St.els, typedM]
theorem bad_check (f : Fn) (hc : checkM [f] = 0) (n k : Nat) : checkM [badF f n k] ≠ 0 := by
  intro h
  obtain ⟨h1, h2⟩ := check_one h
  obtain ⟨c1, c2, _⟩ := check_body hc
  simp only [fnOk, Bool.and_eq_true, decide_eq_true_eq, Bool.or_eq_true] at h1
  obtain ⟨⟨⟨⟨a1, a2⟩, a3⟩, a4⟩, a5, a6⟩ := h1
  simp only [fnNums, Bool.and_eq_true, decide_eq_true_eq] at h2
  unfold badF at *
  by_cases k0 : k = 0
  · simp only [k0, if_true] at a1
    exact absurd a1 (by decide)
  by_cases k1 : k = 1
  · simp only [k1, if_true, if_false, (by decide : ¬ (1 : Nat) = 0)] at h2
    omega
  by_cases k2 : k = 2
  · simp only [k2, if_true, if_false, (by decide : ¬ (2 : Nat) = 0), (by decide : ¬ (2 : Nat) = 1)] at a3
    rcases a3 with a3 | a3
    · omega
    · simp only [typedM, Bool.and_eq_true, decide_eq_true_eq] at a3
      omega
  by_cases k3 : k = 3
  · simp only [k3, if_true, if_false, (by decide : ¬ (3 : Nat) = 0), (by decide : ¬ (3 : Nat) = 1), (by decide : ¬ (3 : Nat) = 2)] at a4
    rw [List.all_append, Bool.and_eq_true] at a4
    exact absurd a4.2 (by decide +kernel)
  by_cases k4 : k = 4
  · simp only [k4, if_true, if_false, (by decide : ¬ (4 : Nat) = 0), (by decide : ¬ (4 : Nat) = 1), (by decide : ¬ (4 : Nat) = 2), (by decide : ¬ (4 : Nat) = 3)] at a5
    rw [wellM_one (head_far _ _)] at a5
    cases a5
  · simp only [k0, k1, k2, k3, k4, if_false] at a5
    rw [wellM_one (head_typ _)] at a5
    cases a5
theorem bad_names (f : Fn) (hc : checkM [f] = 0) (n k : Nat) : namesM (badF f n k) = ([], 0, 2) := by
  rw [namesM, if_neg (bad_check f hc n k)]
end Go.Proofs.YtccgpmncpemmdaaDoor
/- NamesRefuses returns true for every draft, fault and distance. -/
namespace Go.Proofs.YtccgpmncpemmdaaDoor
open Go Go.RowKit
set_option linter.unusedSimpArgs false
set_option linter.unusedVariables false
set_option linter.unnecessarySimpa false
theorem has_belowL {W0 W : World} {L : List Nat} (hb : Below W0.heap.size W0 W) (hL : ∀ g ∈ L, W0.heap.size ≤ g) : Has W0 (av L W) := (has_new hL).tr (has_av_below hb)
/-- A row of statements as a list of cells. -/
theorem St.Row.cut {w : World} : ∀ {l : List St} {b o : Nat}, St.Row w l (some ⟨b, o, none⟩) → ∃ xs, Cut 8 (StC w) l xs ∧ ∀ (j : Nat) (u : Value), xs[j]? = some u → w.cell? ⟨b, o + j, none⟩ = some u
  | [], _, _, _ => ⟨[], rfl, by simp⟩
  | s :: ss, b, o, h => by
    simp only [St.Row] at h
    obtain ⟨b', o', ha, hs, hr⟩ := h
    simp only [Option.some.injEq, Addr.mk.injEq, and_true] at ha
    obtain ⟨rfl, rfl⟩ := ha
    obtain ⟨pa, pb, pe, ca, cb, ce, hc, hw, h1, h2, h3⟩ := hs.val
    obtain ⟨c0, c1, c2, c3, c4, c5, c6, c7⟩ := hc
    obtain ⟨xs, hcut, hx⟩ := St.Row.cut hr
    refine ⟨[.int .i64 s.kind, .int .i64 s.no, .string ⟨s.name.toArray⟩, .int .i64 s.typ, .string ⟨s.callee.toArray⟩, .slice pa s.args.length ca, .slice pb s.body.length cb, .slice pe s.els.length ce] ++ xs, ⟨_, xs, rfl, rfl, ⟨pa, pb, pe, ca, cb, ce, rfl, hw, h1, h2, h3⟩, hcut⟩, fun j u hu => ?_⟩
    rcases j with _ | _ | _ | _ | _ | _ | _ | _ | j
    · simp at hu; subst hu; exact c0
    · simp at hu; subst hu; exact c1
    · simp at hu; subst hu; exact c2
    · simp at hu; subst hu; exact c3
    · simp at hu; subst hu; exact c4
    · simp at hu; subst hu; exact c5
    · simp at hu; subst hu; exact c6
    · simp at hu; subst hu; exact c7
    · have := hx j u (by simpa using hu)
      rwa [show o + 8 + j = o + (j + 1 + 1 + 1 + 1 + 1 + 1 + 1 + 1) by omega] at this
/-- What append is handed, where a row came in ahead of a world, and blocks behind it are left out. -/
theorem sts_in {W0 W : World} {M L : List Nat} {l : List St} {pa : Option Addr} (h : St.Row (av M W0) l pa) (hb : Below W0.heap.size W0 W) (hL : ∀ g ∈ L, g ∈ M ∨ W0.heap.size ≤ g) :
    (pa = none ∧ l = []) ∨ ∃ ad news, pa = some ad ∧ (∀ j u, news[j]? = some u → W.cell? (ad.add j) = some u) ∧ (∀ u ∈ news, u.oneCell' = true) ∧ Cut 8 (StC (av L W)) l news := by
  cases l with
  | nil =>
    cases pa with
    | none => exact .inl ⟨rfl, rfl⟩
    | some ad => exact .inr ⟨ad, [], rfl, by simp, by simp, rfl⟩
  | cons s ss =>
    obtain ⟨b, o, rfl⟩ := h.addr (by simp)
    obtain ⟨xs, hcut, hx⟩ := h.cut
    exact .inr ⟨_, xs, rfl, fun j u hu => by rw [Addr.add_lit]; exact cell_keep (has_av _ _ _ (hx j u hu)) hb (Nat.le_refl _), hcut.cells fun a c hv => hv.one, hcut.mono fun a c hv => StC.mono _ _ _ _ ((has_more hL).tr (has_av_below hb)) hv⟩
def In0 (w : World) (r : Ending) (w' : World) : Prop := (∃ a cap, r = .returned (.slice a 0 cap)) ∧ Below w.heap.size w w'
set_option maxRecDepth 20000 in
set_option maxHeartbeats 8000000 in
theorem NamesRefuses_any (P C : List Nat) (v : Value) (y n : Nat) (w : World) (hv : DrN w P C v) (hy : y ≤ 255) (hn : n ≤ 65535) (hT : Tab w) : Calls Tryd.prog 8 #[v, .int .u8 y, .int .u16 n] w fun r w' => r = .returned (.bool true) ∧ Below w.heap.size w w' := by
  have HWK := hide fun (W : World) (hW : Below w.heap.size w W) => works10_any W (hT.below hW)
  have HTB := hide fun (W : World) (hW : Below w.heap.size w W) => hT.below hW
  have HM := hide fun (W : World) (hW : Below w.heap.size w W) => made10_any P C v W (hv.has (has_below hW))
  have hgood := mkN_good P C
  have hck := mkN_check P C
  obtain ⟨pa, pc, ca, cc, rfl, -, -⟩ := hv
  have HBN : Hid (∀ k, namesM (badF (mkN P C) n k) = ([], 0, 2)) := hide (fun k => bad_names _ hck n k)
  have hcnt : 0 ≤ (mkN P C).count ∧ (mkN P C).count ≤ 60 := by have := hgood.2.2; omega
  have hpl : (mkN P C).params.length ≤ 8 := by simp [mkN]; omega
  have HI1 : Hid (∀ (a : Option Addr) (cap : Nat) (W : World), Vrs W (namesM (mkN P C)).1 a cap → Calls Tryd.prog 16 #[.slice a (namesM (mkN P C)).1.length cap, .int .i64 (-1 - (n : Int))] W (In0 W)) := hide fun a cap W hW => by
    have h := in_any _ a cap (-1 - (n : Int)) W hW (Nat.le_trans (namesM_len _) (by omega))
    rw [ins_before] at h
    exact h.mono fun r w' h => ⟨by obtain ⟨⟨a, cap, h1, _⟩, _⟩ := h; exact ⟨a, cap, h1⟩, h.2⟩
  have HI2 : Hid (∀ (a : Option Addr) (cap : Nat) (W : World), Vrs W (namesM (mkN P C)).1 a cap → Calls Tryd.prog 16 #[.slice a (namesM (mkN P C)).1.length cap, .int .i64 ((mkN P C).count + 1 + (n : Int))] W (In0 W)) := hide fun a cap W hW => by
    have h := in_any _ a cap ((mkN P C).count + 1 + (n : Int)) W hW (Nat.le_trans (namesM_len _) (by omega))
    rw [ins_behind] at h
    exact h.mono fun r w' h => ⟨by obtain ⟨⟨a, cap, h1, _⟩, _⟩ := h; exact ⟨a, cap, h1⟩, h.2⟩
  have HLB : Hid (cntL (mkN P C).body ≤ 60) := hide hgood.2.2.2
  unfold MadeQ at HM
  generalize mkN P C = f at *
  obtain ⟨hc0, hc60⟩ := hcnt
  have hlb := len_cnt f.body
  have hlb60 : f.body.length ≤ 60 := Nat.le_trans hlb HLB.out
  clear hgood hck hT hlb
  go_enter Tryd.func8, Tryd.ntmps8
  go_wp2_with fail
  refine (HM.out _ ((bl w).al _)).mono ?_
  rintro r w1 ⟨⟨v1, rfl, hv1⟩, hb1⟩
  have HB1 := hide (((bl w).al (.cells #[.slice pa P.length pc, .slice ca C.length cc] 38)).tr hb1)
  obtain ⟨pp, pb, cp, cb, rfl, hfw, hps, hrow⟩ := hv1
  have HFW := hide hfw
  have hbA := (bl w1).al (.cells #[.string ⟨List.toArray f.name⟩, .slice pp f.params.length cp, .int .i64 f.result, .slice pb f.body.length cb, .int .i64 f.count] 42)
  have HX := hide (heap_alloc_new w1 (.cells #[.string ⟨List.toArray f.name⟩, .slice pp f.params.length cp, .int .i64 f.result, .slice pb f.body.length cb, .int .i64 f.count] 42))
  have HPS := hide (((hps.has has_nw).has (has_new (l := []) (by simp))).has (has_one hbA w1.heap.size (Nat.le_refl _)))
  have HROW := hide (((hrow.has has_nw).has (has_new (l := []) (by simp))).has (has_one hbA w1.heap.size (Nat.le_refl _)))
  have HB := hide (HB1.out.tr hbA)
  have hwx : w.heap.size ≤ w1.heap.size := HB1.out.size
  clear hb1 hfw hps hrow hbA HB1
  go_upto_region 3 with fail
  generalize w1.alloc (.cells #[.string ⟨List.toArray f.name⟩, .slice pp f.params.length cp, .int .i64 f.result, .slice pb f.body.length cb, .int .i64 f.count] 42) = wf at *
  generalize w1.heap.size = x1 at *
  have a0 := cell_at (j := 0) HX.out rfl
  have a1 := cell_at (j := 1) HX.out rfl
  have a2 := cell_at (j := 2) HX.out rfl
  have a3 := cell_at (j := 3) HX.out rfl
  have a4 := cell_at (j := 4) HX.out rfl
  have fx := fun j => free_at (j := j) HX.out
  have hxl := (Array.getElem?_eq_some_iff.1 HX.out).1
  have HV0 : Hid (f.Val wf (.agg #[.string ⟨List.toArray f.name⟩, .slice pp f.params.length cp, .int .i64 f.result, .slice pb f.body.length cb, .int .i64 f.count])) := hide ⟨pp, pb, cp, cb, rfl, HFW.out, HPS.out.has has_av, HROW.out.has has_av⟩
  go_wp2_with fail
  refine (of_any f _ wf HV0.out (HTB.out _ HB.out)).mono ?_
  unfold OfPost
  rintro r w3 ⟨⟨va, vc, rfl, hvr⟩, hb3⟩
  replace HB := hide (HB.out.tr hb3)
  replace HX := hide ((hb3.block _ hxl).trans HX.out)
  replace HPS := hide (HPS.out.has (has_av_below hb3))
  replace HROW := hide (HROW.out.has (has_av_below hb3))
  have HVR := hide hvr
  clear hvr hb3 a0 a1 a2 a3 a4 fx hxl HV0
  generalize namesM f = N at *
  obtain ⟨l, n0, e⟩ := N
  simp only at HVR HI1 HI2 ⊢
  go_upto_region 4 with fail
  go_cut [45] (fun c wx => c = .bool false ∧ Hid (Below w3.heap.size w3 wx))
  case first =>
    refine wp_noexit ?_
    have a4 := cell_at (j := 4) HX.out rfl
    have hxl := (Array.getElem?_eq_some_iff.1 HX.out).1
    by_cases he : e = 0
    · subst he
      go_wp2_with fail
      refine (HI1.out _ _ _ HVR.out).mono ?_
      rintro r w4 ⟨⟨a1, c1, rfl⟩, hb4⟩
      have HX4 := hide ((hb4.block _ hxl).trans HX.out)
      have HV4 := hide (HVR.out.keep hb4 (Nat.le_refl _))
      have HB4 := hide hb4
      clear hb4 a4 hxl
      have a4 := cell_at (j := 4) HX4.out rfl
      have hxl := (Array.getElem?_eq_some_iff.1 HX4.out).1
      go_wp2_with fail
      refine (HI2.out _ _ _ HV4.out).mono ?_
      rintro r w5 ⟨⟨a2, c2, rfl⟩, hb5⟩
      have HB5 := hide (HB4.out.tr hb5)
      clear hb5 a4 hxl
      go_wp2_with fail
      go_meet
      exact ⟨rfl, HB5⟩
    · have e1 : (e == 0) = false := by simpa using he
      go_wp2_with fail
      go_meet
      exact ⟨rfl, hide (bl w3)⟩
  case rest =>
    obtain ⟨rfl, HBC⟩ := hcut
    obtain ⟨wa, rfl⟩ : ∃ wa, wa = wc := ⟨wc, rfl⟩
    replace HB := hide (HB.out.tr HBC.out)
    replace HX := hide ((HBC.out.block _ (Array.getElem?_eq_some_iff.1 HX.out).1).trans HX.out)
    replace HPS := hide (HPS.out.has (has_av_below HBC.out))
    replace HROW := hide (HROW.out.has (has_av_below HBC.out))
    clear HBC HVR HI1 HI2 HM
    have a0 := cell_at (j := 0) HX.out rfl
    have a1 := cell_at (j := 1) HX.out rfl
    have a2 := cell_at (j := 2) HX.out rfl
    have a3 := cell_at (j := 3) HX.out rfl
    have a4 := cell_at (j := 4) HX.out rfl
    have fx := fun j => free_at (j := j) HX.out
    have hxl := (Array.getElem?_eq_some_iff.1 HX.out).1
    have hcases : y % 6 = 0 ∨ y % 6 = 1 ∨ y % 6 = 2 ∨ y % 6 = 3 ∨ y % 6 = 4 ∨ y % 6 = 5 := by omega
    rcases hcases with h6 | h6 | h6 | h6 | h6 | h6
    · have hm : (y : Int) % 6 = 0 := by omega
      clear h6
      have hk := (Kept.refl [x1] wa).set (g := x1) (.inl (by simp)) 0 (.string ⟨#[]⟩)
      have HBT : Hid (Below w.heap.size w (wa.setCell ⟨x1, 0, none⟩ (.string ⟨#[]⟩))) := hide (hk.below HB.out (by simp; omega))
      have hps1 := (HPS.out.has (has_kept hk)).has has_av
      have hrow1 := (HROW.out.has (has_kept hk)).has has_av
      have HV : Hid ((badF f n 0).Val (wa.setCell ⟨x1, 0, none⟩ (.string ⟨#[]⟩)) (.agg #[.string ⟨#[]⟩, .slice pp f.params.length cp, .int .i64 f.result, .slice pb f.body.length cb, .int .i64 f.count])) := hide ⟨pp, pb, cp, cb, rfl, ⟨Nat.zero_le _, HFW.out.r, HFW.out.lb, HFW.out.cb, HFW.out.c⟩, hps1, hrow1⟩
      clear hk hps1 hrow1
      go_wp2_with fail
      refine (of_any (badF f n 0) _ _ HV.out (HTB.out _ HBT.out)).mono ?_
      unfold OfPost
      rw [HBN.out 0]
      rintro r w8 ⟨⟨va8, vc8, rfl, -⟩, hb8⟩
      have HB8 := hide (HBT.out.tr hb8)
      clear hb8
      go_wp2_with fail
      refine (HWK.out _ HB8.out).mono ?_
      rintro r w9 ⟨rfl, hb9⟩
      have HB9 := hide (HB8.out.tr hb9)
      clear hb9
      go_wp2_with fail
      go_ret
      exact ⟨rfl, HB9.out⟩
    · have hm : (y : Int) % 6 = 1 := by omega
      clear h6
      have hk := (Kept.refl [x1] wa).set (g := x1) (.inl (by simp)) 4 (.int .i64 (f.count + (1 + (n : Int))))
      have HBT : Hid (Below w.heap.size w (wa.setCell ⟨x1, 4, none⟩ (.int .i64 (f.count + (1 + (n : Int)))))) := hide (hk.below HB.out (by simp; omega))
      have hps1 := (HPS.out.has (has_kept hk)).has has_av
      have hrow1 := (HROW.out.has (has_kept hk)).has has_av
      have HV : Hid ((badF f n 1).Val (wa.setCell ⟨x1, 4, none⟩ (.int .i64 (f.count + (1 + (n : Int))))) (.agg #[.string ⟨List.toArray f.name⟩, .slice pp f.params.length cp, .int .i64 f.result, .slice pb f.body.length cb, .int .i64 (f.count + (1 + (n : Int)))])) := hide ⟨pp, pb, cp, cb, rfl, ⟨HFW.out.s, HFW.out.r, HFW.out.lb, HFW.out.cb, (show I64 (f.count + (1 + (n : Int))) by unfold I64; omega)⟩, hps1, hrow1⟩
      clear hk hps1 hrow1
      go_wp2_with fail
      refine (of_any (badF f n 1) _ _ HV.out (HTB.out _ HBT.out)).mono ?_
      unfold OfPost
      rw [HBN.out 1]
      rintro r w8 ⟨⟨va8, vc8, rfl, -⟩, hb8⟩
      have HB8 := hide (HBT.out.tr hb8)
      clear hb8
      go_wp2_with fail
      refine (HWK.out _ HB8.out).mono ?_
      rintro r w9 ⟨rfl, hb9⟩
      have HB9 := hide (HB8.out.tr hb9)
      clear hb9
      go_wp2_with fail
      go_ret
      exact ⟨rfl, HB9.out⟩
    · have hm : (y : Int) % 6 = 2 := by omega
      clear h6
      have hk := (Kept.refl [x1] wa).set (g := x1) (.inl (by simp)) 2 (.int .i64 (4 + (n : Int)))
      have HBT : Hid (Below w.heap.size w (wa.setCell ⟨x1, 2, none⟩ (.int .i64 (4 + (n : Int))))) := hide (hk.below HB.out (by simp; omega))
      have hps1 := (HPS.out.has (has_kept hk)).has has_av
      have hrow1 := (HROW.out.has (has_kept hk)).has has_av
      have HV : Hid ((badF f n 2).Val (wa.setCell ⟨x1, 2, none⟩ (.int .i64 (4 + (n : Int)))) (.agg #[.string ⟨List.toArray f.name⟩, .slice pp f.params.length cp, .int .i64 (4 + (n : Int)), .slice pb f.body.length cb, .int .i64 f.count])) := hide ⟨pp, pb, cp, cb, rfl, ⟨HFW.out.s, (show I64 (4 + (n : Int)) by unfold I64; omega), HFW.out.lb, HFW.out.cb, HFW.out.c⟩, hps1, hrow1⟩
      clear hk hps1 hrow1
      go_wp2_with fail
      refine (of_any (badF f n 2) _ _ HV.out (HTB.out _ HBT.out)).mono ?_
      unfold OfPost
      rw [HBN.out 2]
      rintro r w8 ⟨⟨va8, vc8, rfl, -⟩, hb8⟩
      have HB8 := hide (HBT.out.tr hb8)
      clear hb8
      go_wp2_with fail
      refine (HWK.out _ HB8.out).mono ?_
      rintro r w9 ⟨rfl, hb9⟩
      have HB9 := hide (HB8.out.tr hb9)
      clear hb9
      go_wp2_with fail
      go_ret
      exact ⟨rfl, HB9.out⟩
    · have hm : (y : Int) % 6 = 3 := by omega
      clear h6
      obtain ⟨i0, hi, hz0, hz1, hz2⟩ := info_parts info_pm
      have hb0 := (bl wa).al (.cells #[] 58)
      have HO1 := hide (OwnL.made0 wa wa.heap.size 58 2 PmC [x1] wa.heap.size rfl (Nat.le_refl _))
      have HIN := hide (Pms.pushin ((HPS.out.has has_av).has (has_below hb0)) ((Value.slice (some ⟨wa.heap.size, 0, none⟩) 0 0).ownBlock.toList ++ [x1]))
      have HSB : Hid (wa.heap.size ≤ (wa.alloc (.cells #[] 58)).heap.size) := hide hb0.size
      have HW0 := hide hb0
      have HLN : Hid (([] : List Pm).length + f.params.length ≤ maxLen ∧ (([] : List Pm).length + f.params.length) * 24 ≤ 140737488355328) := hide (by simp only [List.length_nil]; unfold maxLen; omega)
      have HPV : Hid (∀ W, PmC W ⟨[108, 101, 110], 1⟩ [.string ⟨#[108, 101, 110]⟩, .int .i64 1]) := hide (fun W => ⟨rfl, by unfold maxLen; simp, i64_l 1 (by decide)⟩)
      clear hb0
      go_wp2_with (first | (at_builtin; refine wpList_pushin _ rfl _ _ 39 rfl wa.heap.size 58 i0 _ 2 24 Tryd.underlying39 hi hz0 hz1 hz2 rfl (by decide) PmC PmC.mono [x1] (.slice (some ⟨wa.heap.size, 0, none⟩) 0 0) [] rfl HO1.out pp cp f.params rfl HIN.out HLN.out.1 HLN.out.2 HSB.out ?_; intro v2 w2 hown2 hgrow2; rw [List.nil_append] at hown2; obtain ⟨va2, vc2, he2, -, -⟩ := hown2.slice; subst he2; have HB2 := hide (HW0.out.grown hgrow2 HW0.out.size (fun k hk => (HO1.out.lt k hk).1)); have HO2 := hide hown2; clear hown2 hgrow2; have HO3 := hide (HO2.out.al PmC.mono (.cells #[.string ⟨#[108, 101, 110]⟩, .int .i64 1] 58)); have HB3 := hide (HB2.out.al (.cells #[.string ⟨#[108, 101, 110]⟩, .int .i64 1] 58)); have HN3 := hide (news_row w2 [.string ⟨#[108, 101, 110]⟩, .int .i64 1] 58 w2.heap.size rfl))
                         | (at_builtin; refine wpList_push _ rfl _ _ 39 rfl wa.heap.size 58 i0 _ 2 24 Tryd.underlying39 hi hz0 hz1 hz2 rfl (by decide) PmC PmC.mono [x1] _ f.params rfl HO3.out ⟨w2.heap.size, 0, none⟩ 1 [.string ⟨#[108, 101, 110]⟩, .int .i64 1] ⟨[108, 101, 110], 1⟩ rfl rfl HN3.out (by simp [Value.oneCell']) (HPV.out _) (by unfold maxLen; omega) (by omega) HB3.out.size ?_; intro v4 w4 hown4 hgrow4; obtain ⟨va4, vc4, he4, -, -⟩ := hown4.slice; rw [List.length_append] at he4; have he4 : v4 = .slice va4 (f.params.length + 1) vc4 := he4; subst he4; have HB4 := hide (HB3.out.grown hgrow4 HB3.out.size (fun k hk => (HO3.out.lt k hk).1)); have HO4 := hide hown4; clear hown4 hgrow4; have HX4 := hide ((HB4.out.block _ hxl).trans HX.out); clear a0 a1 a2 a3 a4 fx; have a0 := cell_at (j := 0) HX4.out rfl; have a1 := cell_at (j := 1) HX4.out rfl; have a2 := cell_at (j := 2) HX4.out rfl; have a3 := cell_at (j := 3) HX4.out rfl; have a4 := cell_at (j := 4) HX4.out rfl; have fx := (fun j => free_at (j := j) HX4.out); have hxl4 := (Array.getElem?_eq_some_iff.1 HX4.out).1))
      have hk := (Kept.refl [x1] w4).set (g := x1) (.inl (by simp)) 1 (.slice va4 (f.params.length + 1) vc4)
      have HBT : Hid (Below w.heap.size w (w4.setCell ⟨x1, 1, none⟩ (.slice va4 (f.params.length + 1) vc4))) := hide (hk.below (HB.out.tr HB4.out) (by simp; omega))
      obtain ⟨p9, c9, he9, hp9⟩ := HO4.out.pms (by simp; omega)
      simp only [Value.slice.injEq, List.length_append, List.length_cons, List.length_nil, Nat.zero_add, true_and] at he9
      obtain ⟨rfl, rfl⟩ := he9
      have hh := (has_kept hk).tr has_av
      have HV : Hid ((badF f n 3).Val (w4.setCell ⟨x1, 1, none⟩ (.slice va4 (f.params.length + 1) vc4)) (.agg #[.string ⟨List.toArray f.name⟩, .slice va4 (f.params.length + 1) vc4, .int .i64 f.result, .slice pb f.body.length cb, .int .i64 f.count])) := hide
        ⟨va4, pb, vc4, cb, by simp [badF], ⟨HFW.out.s, HFW.out.r, HFW.out.lb, HFW.out.cb, HFW.out.c⟩, hp9.has hh, (HROW.out.has (has_av_below HB4.out)).has hh⟩
      clear hk hp9 hh
      refine (of_any (badF f n 3) _ _ HV.out (HTB.out _ HBT.out)).mono ?_
      unfold OfPost
      rw [HBN.out 3]
      rintro r w8 ⟨⟨va8, vc8, rfl, -⟩, hb8⟩
      have HB8 := hide (HBT.out.tr hb8)
      clear hb8
      go_wp2_with fail
      refine (HWK.out _ HB8.out).mono ?_
      rintro r w9 ⟨rfl, hb9⟩
      have HB9 := hide (HB8.out.tr hb9)
      clear hb9
      go_wp2_with fail
      go_ret
      exact ⟨rfl, HB9.out⟩
    · have hm : (y : Int) % 6 = 4 := by omega
      clear h6
      go_upto_region 18 with fail
      rw [hm]
      have HSC : Hid (∀ W, StC W (.mk (11 + (n : Int)) f.count [] 0 [] [] [] []) [.int .i64 (11 + (n : Int)), .int .i64 f.count, .string ⟨#[]⟩, .int .i64 0, .string ⟨#[]⟩, .slice none 0 0, .slice none 0 0, .slice none 0 0]) := hide (fun W => ⟨none, none, none, 0, 0, 0, rfl, ⟨(show I64 ((11 + (n : Int))) by unfold I64; omega), (show I64 f.count by unfold I64; omega), (show ([] : Bytes).length ≤ maxLen by unfold maxLen; simp), (show I64 0 by unfold I64; omega), Nat.zero_le _, Nat.le_refl _, Nat.zero_le _, Nat.le_refl _, Nat.zero_le _, Nat.le_refl _, Nat.zero_le _⟩, trivial, trivial, trivial⟩)
      have HSS : Hid (∀ W, Below wa.heap.size wa W → W.cell? ⟨x1, 4, none⟩ = some (.int .i64 f.count)) := hide (fun W hb => cell_at (j := 4) ((hb.block _ hxl).trans HX.out) rfl)
      have HSF : Hid (∀ W v, Below wa.heap.size wa W → (W.setCell ⟨x1, 3, none⟩ v).cell? ⟨x1, 4, none⟩ = some (.int .i64 f.count)) := hide (fun W v hb => cell_at (j := 4) (heap_set (i := 3) ((hb.block _ hxl).trans HX.out) v) rfl)
      have HINF := hide (fun (W : World) (g0 : Nat) (hb : Below wa.heap.size wa W) (hg : wa.heap.size ≤ g0) => sts_in (L := (Value.slice (some ⟨g0, 0, none⟩) 0 0).ownBlock.toList ++ [x1]) HROW.out hb (by simp only [Value.ownBlock, Option.toList_some, List.singleton_append, List.mem_cons, List.not_mem_nil, or_false]; rintro g (rfl | rfl); exact .inr hg; exact .inl rfl))
      go_cut [0] (fun z wx => z = .agg #[.slice pa P.length pc, .slice ca C.length cc] ∧ ∃ va2 vc2 W, wx = W.setCell ⟨x1, 3, none⟩ (.slice va2 (f.body.length + 1) vc2) ∧ Hid (Below wa.heap.size wa W) ∧ Hid (OwnL W wa.heap.size 62 8 StC [x1] (.slice va2 (f.body.length + 1) vc2) (f.body ++ [.mk (11 + (n : Int)) f.count [] 0 [] [] [] []])))
      case first =>
        refine wp_noexit ?_
        have HBW := hide ((bl wa).dr)
        obtain ⟨i0, hi, hz0, hz1, hz2⟩ := info_parts info_st
        have hv1 : IntKind.i64.wrap (11 + (n : Int)) = 11 + (n : Int) := IntWalk.i64_in _ (by omega)
        clear a0 a1 a2 a3 a4 fx
        refine wp_region_held_drew (S := fun W => W.cell? ⟨x1, 4, none⟩ = some (.int .i64 f.count)) (by kernel_rfl) (HSS.out _ HBW.out) (fun hHeld => ?_)
        generalize wa.drew = W0 at *
        refine wpAnyH_take (i := 1) (v := ?_) (by simp only [List.getElem?_toArray, List.getElem?_cons_succ, List.getElem?_cons_zero]; rfl) (by kernel_rfl) (by kernel_rfl) (by kernel_rfl) (by exact fun _ _ _ h => h) (Or.inl ⟨by rfl, ?_⟩) (by assumption) ?_
        rotate_left 1
        · ((intro w hSw; (try dsimp only at hSw); go_simp) <;> with_reducible rfl)
        try simp only [Act.put, List.setIfInBounds_toArray, List.set_cons_zero, List.set_cons_succ]
        refine wpAnyH_take (i := 4) (v := ?_) (by simp only [List.getElem?_toArray, List.getElem?_cons_succ, List.getElem?_cons_zero]; rfl) (by kernel_rfl) (by kernel_rfl) (by kernel_rfl) (by exact fun _ _ _ h => h) (Or.inl ⟨by rfl, ?_⟩) (by assumption) ?_
        rotate_left 1
        · ((intro w hSw; (try dsimp only at hSw); go_simp) <;> with_reducible rfl)
        try simp only [Act.put, List.setIfInBounds_toArray, List.set_cons_zero, List.set_cons_succ]
        refine wpAnyH_take (i := 5) (v := ?_) (by simp only [List.getElem?_toArray, List.getElem?_cons_succ, List.getElem?_cons_zero]; rfl) (by kernel_rfl) (by kernel_rfl) (by kernel_rfl) (by exact fun _ _ _ h => h) (Or.inl ⟨by rfl, ?_⟩) (by assumption) ?_
        rotate_left 1
        · ((intro w hSw; (try dsimp only at hSw); go_simp) <;> with_reducible rfl)
        try simp only [Act.put, List.setIfInBounds_toArray, List.set_cons_zero, List.set_cons_succ]
        refine wpAnyH_take (i := 6) (v := ?_) (by simp only [List.getElem?_toArray, List.getElem?_cons_succ, List.getElem?_cons_zero]; rfl) (by kernel_rfl) (by kernel_rfl) (by kernel_rfl) (by exact fun _ _ _ h => h) (Or.inl ⟨by rfl, ?_⟩) (by assumption) ?_
        rotate_left 1
        · ((intro w hSw; (try dsimp only at hSw); go_simp) <;> with_reducible rfl)
        try simp only [Act.put, List.setIfInBounds_toArray, List.set_cons_zero, List.set_cons_succ]
        refine wpAnyH_take (i := 7) (v := ?_) (by simp only [List.getElem?_toArray, List.getElem?_cons_succ, List.getElem?_cons_zero]; rfl) (by kernel_rfl) (by kernel_rfl) (by kernel_rfl) (by exact fun _ _ _ h => h) (Or.inl ⟨by rfl, ?_⟩) (by assumption) ?_
        rotate_left 1
        · ((intro w hSw; (try dsimp only at hSw); go_simp) <;> with_reducible rfl)
        try simp only [Act.put, List.setIfInBounds_toArray, List.set_cons_zero, List.set_cons_succ]
        have l3 := cell_at (j := 3) ((HBW.out.block _ hxl).trans HX.out) rfl
        have l3l : x1 < W0.heap.size := cell_lt l3
        refine wpAnyH_ready (rs := [0, 2]) (by kernel_rfl) (by simp) ?_
        refine AllReadyH.cons rfl (fun K hK => ?_) (AllReadyH.cons rfl (fun K hK => ?_) AllReadyH.nil)
        all_goals go_simp
        · have hb := (bl W0).al (.cells #[] 62)
          have HO0 := hide (OwnL.made0 W0 wa.heap.size 62 8 StC [x1] W0.heap.size rfl HBW.out.size)
          have hbw := HBW.out.tr hb
          replace HBW := hide hbw
          have hg0 : W0.heap.size < (W0.alloc (.cells #[] 62)).heap.size := by simp
          clear hbw hb
          generalize W0.alloc (.cells #[] 62) = W1 at *
          generalize W0.heap.size = g0 at *
          refine hK.out _ _ (HSS.out _ HBW.out) (fun hHeld => ?_)
          clear hK K
          try simp only [Act.put, List.setIfInBounds_toArray, List.set_cons_zero, List.set_cons_succ]
          have l3 := cell_at (j := 3) ((HBW.out.block _ hxl).trans HX.out) rfl
          have l3l : x1 < W1.heap.size := cell_lt l3
          refine wpAnyH_ready (rs := [2]) (by kernel_rfl) (by simp) ?_
          refine AllReadyH.cons rfl (fun K hK => ?_) AllReadyH.nil
          all_goals go_simp
          refine hK.out _ _ (HSS.out _ HBW.out) (fun hHeld => ?_)
          clear hK K
          try simp only [Act.put, List.setIfInBounds_toArray, List.set_cons_zero, List.set_cons_succ]
          refine wpAnyH_ready (rs := [3]) (by kernel_rfl) (by simp) ?_
          refine AllReadyH.cons rfl (fun K hK => ?_) AllReadyH.nil
          have HIN := hide (HINF.out W1 g0 HBW.out (HO0.out.lt g0 rfl).1)
          refine step_pushn _ (by rfl) _ _ 40 (by rfl) wa.heap.size 62 i0 _ 8 128 Tryd.underlying40 hi hz0 hz1 hz2 (by rfl) (Nat.succ_pos _) StC StC.mono [x1] (.slice (some ⟨g0, 0, none⟩) 0 0) [] (by rfl) HO0.out pb cb f.body (by rfl) HIN.out (by simp only [List.length_nil]; unfold maxLen; omega) (by simp only [List.length_nil]; omega) HBW.out.size ?_
          intro v7 W2 hown hgrow
          rw [List.nil_append] at hown
          obtain ⟨va, vc, he, -, -⟩ := hown.slice
          subst he
          replace HBW := hide (HBW.out.grown hgrow HBW.out.size (fun k hk => (HO0.out.lt k hk).1))
          have HOA := hide hown
          clear hown hgrow HIN HO0
          refine hK.out _ _ (HSS.out _ HBW.out) (fun hHeld => ?_)
          clear hK K
          try simp only [Act.put, List.setIfInBounds_toArray, List.set_cons_zero, List.set_cons_succ]
          refine wpAnyH_ready (rs := [8]) (by kernel_rfl) (by simp) ?_
          refine AllReadyH.cons rfl (fun K hK => ?_) AllReadyH.nil
          all_goals go_simp
          refine (stmt_any (11 + (n : Int)) f.count 0 ⟨#[]⟩ _).mono ?_
          unfold sLf
          rintro r W3 ⟨rfl, hb⟩
          replace HOA := hide (HOA.out.below StC.mono hb)
          replace HBW := hide (HBW.out.tr hb)
          clear hb
          refine hK.out _ _ (HSS.out _ HBW.out) (fun hHeld => ?_)
          clear hK K
          try simp only [Act.put, List.setIfInBounds_toArray, List.set_cons_zero, List.set_cons_succ]
          refine wpAnyH_ready (rs := [9]) (by kernel_rfl) (by simp) ?_
          refine AllReadyH.cons rfl (fun K hK => ?_) AllReadyH.nil
          all_goals go_simp
          have hb := (bl W3).al (.cells #[.int .i64 (11 + (n : Int)), .int .i64 f.count, .string ⟨#[]⟩, .int .i64 0, .string ⟨#[]⟩, .slice none 0 0, .slice none 0 0, .slice none 0 0] 62)
          have HN := hide (news_row W3 [.int .i64 (11 + (n : Int)), .int .i64 f.count, .string ⟨#[]⟩, .int .i64 0, .string ⟨#[]⟩, .slice none 0 0, .slice none 0 0, .slice none 0 0] 62 W3.heap.size rfl)
          replace HOA := hide (HOA.out.below StC.mono hb)
          have hbw := HBW.out.tr hb
          replace HBW := hide hbw
          have hnr : W3.heap.size < (W3.alloc (.cells #[.int .i64 (11 + (n : Int)), .int .i64 f.count, .string ⟨#[]⟩, .int .i64 0, .string ⟨#[]⟩, .slice none 0 0, .slice none 0 0, .slice none 0 0] 62)).heap.size := by simp
          clear hbw hb
          generalize W3.alloc (.cells #[.int .i64 (11 + (n : Int)), .int .i64 f.count, .string ⟨#[]⟩, .int .i64 0, .string ⟨#[]⟩, .slice none 0 0, .slice none 0 0, .slice none 0 0] 62) = W4 at *
          generalize W3.heap.size = nr at *
          refine hK.out _ _ (HSS.out _ HBW.out) (fun hHeld => ?_)
          clear hK K
          try simp only [Act.put, List.setIfInBounds_toArray, List.set_cons_zero, List.set_cons_succ]
          refine wpAnyH_ready (rs := [10]) (by kernel_rfl) (by simp) ?_
          refine AllReadyH.cons rfl (fun K hK => ?_) AllReadyH.nil
          refine step_push _ (by rfl) _ _ 40 (by rfl) wa.heap.size 62 i0 _ 8 128 Tryd.underlying40 hi hz0 hz1 hz2 (by rfl) (Nat.succ_pos _) StC StC.mono [x1] (.slice va f.body.length vc) f.body (by rfl) HOA.out ⟨nr, 0, none⟩ 1 [.int .i64 (11 + (n : Int)), .int .i64 f.count, .string ⟨#[]⟩, .int .i64 0, .string ⟨#[]⟩, .slice none 0 0, .slice none 0 0, .slice none 0 0] (St.mk (11 + (n : Int)) f.count [] 0 [] [] [] []) (by rfl) (by rfl) HN.out (by simp [Value.oneCell']) (HSC.out _) (by unfold maxLen; omega) (by omega) HBW.out.size ?_
          intro v8 W5 hown hgrow
          obtain ⟨va2, vc2, he, hle2, hcm2⟩ := hown.slice
          rw [List.length_append] at he
          have he : v8 = .slice va2 (f.body.length + 1) vc2 := he
          subst he
          replace HBW := hide (HBW.out.grown hgrow HBW.out.size (fun k hk => (HOA.out.lt k hk).1))
          have HOB := hide hown
          clear hown hgrow HOA HN
          have HXB := hide ((HBW.out.block _ hxl).trans HX.out)
          have b3 := cell_at (j := 3) HXB.out rfl
          have fb3 := free_at (j := 3) HXB.out
          have hxb := (Array.getElem?_eq_some_iff.1 HXB.out).1
          refine hK.out _ _ (HSS.out _ HBW.out) (fun hHeld => ?_)
          clear hK K
          try simp only [Act.put, List.setIfInBounds_toArray, List.set_cons_zero, List.set_cons_succ]
          refine wpAnyH_take (i := 11) (v := ?_) (by simp only [List.getElem?_toArray, List.getElem?_cons_succ, List.getElem?_cons_zero]; rfl) (by kernel_rfl) (by kernel_rfl) (by kernel_rfl) (by exact fun _ _ _ h => h) (Or.inl ⟨by rfl, ?_⟩) (by assumption) ?_
          rotate_left 1
          · ((intro w hSw; (try dsimp only at hSw); go_simp) <;> with_reducible rfl)
          try simp only [Act.put, List.setIfInBounds_toArray, List.set_cons_zero, List.set_cons_succ]
          refine wpAnyH_ready (rs := [12]) (by kernel_rfl) (by simp) ?_
          refine AllReadyH.cons rfl (fun K hK => ?_) AllReadyH.nil
          go_simp
          refine hK.out _ _ (HSF.out _ _ HBW.out) (fun hHeld => ?_)
          clear hK K
          try simp only [Act.put, List.setIfInBounds_toArray, List.set_cons_zero, List.set_cons_succ]
          refine wpAnyH_done (by kernel_rfl) ?_ _
          go_wp2_with fail
          go_meet
          exact ⟨rfl, va2, vc2, W5, rfl, HBW, HOB⟩
        · refine hK.out _ _ (HSS.out _ HBW.out) (fun hHeld => ?_)
          clear hK K
          try simp only [Act.put, List.setIfInBounds_toArray, List.set_cons_zero, List.set_cons_succ]
          refine wpAnyH_ready (rs := [0]) (by kernel_rfl) (by simp) ?_
          refine AllReadyH.cons rfl (fun K hK => ?_) AllReadyH.nil
          all_goals go_simp
          have hb := (bl W0).al (.cells #[] 62)
          have HO0 := hide (OwnL.made0 W0 wa.heap.size 62 8 StC [x1] W0.heap.size rfl HBW.out.size)
          have hbw := HBW.out.tr hb
          replace HBW := hide hbw
          have hg0 : W0.heap.size < (W0.alloc (.cells #[] 62)).heap.size := by simp
          clear hbw hb
          generalize W0.alloc (.cells #[] 62) = W1 at *
          generalize W0.heap.size = g0 at *
          refine hK.out _ _ (HSS.out _ HBW.out) (fun hHeld => ?_)
          clear hK K
          try simp only [Act.put, List.setIfInBounds_toArray, List.set_cons_zero, List.set_cons_succ]
          refine wpAnyH_ready (rs := [3]) (by kernel_rfl) (by simp) ?_
          refine AllReadyH.cons rfl (fun K hK => ?_) AllReadyH.nil
          have HIN := hide (HINF.out W1 g0 HBW.out (HO0.out.lt g0 rfl).1)
          refine step_pushn _ (by rfl) _ _ 40 (by rfl) wa.heap.size 62 i0 _ 8 128 Tryd.underlying40 hi hz0 hz1 hz2 (by rfl) (Nat.succ_pos _) StC StC.mono [x1] (.slice (some ⟨g0, 0, none⟩) 0 0) [] (by rfl) HO0.out pb cb f.body (by rfl) HIN.out (by simp only [List.length_nil]; unfold maxLen; omega) (by simp only [List.length_nil]; omega) HBW.out.size ?_
          intro v7 W2 hown hgrow
          rw [List.nil_append] at hown
          obtain ⟨va, vc, he, -, -⟩ := hown.slice
          subst he
          replace HBW := hide (HBW.out.grown hgrow HBW.out.size (fun k hk => (HO0.out.lt k hk).1))
          have HOA := hide hown
          clear hown hgrow HIN HO0
          refine hK.out _ _ (HSS.out _ HBW.out) (fun hHeld => ?_)
          clear hK K
          try simp only [Act.put, List.setIfInBounds_toArray, List.set_cons_zero, List.set_cons_succ]
          refine wpAnyH_ready (rs := [8]) (by kernel_rfl) (by simp) ?_
          refine AllReadyH.cons rfl (fun K hK => ?_) AllReadyH.nil
          all_goals go_simp
          refine (stmt_any (11 + (n : Int)) f.count 0 ⟨#[]⟩ _).mono ?_
          unfold sLf
          rintro r W3 ⟨rfl, hb⟩
          replace HOA := hide (HOA.out.below StC.mono hb)
          replace HBW := hide (HBW.out.tr hb)
          clear hb
          refine hK.out _ _ (HSS.out _ HBW.out) (fun hHeld => ?_)
          clear hK K
          try simp only [Act.put, List.setIfInBounds_toArray, List.set_cons_zero, List.set_cons_succ]
          refine wpAnyH_ready (rs := [9]) (by kernel_rfl) (by simp) ?_
          refine AllReadyH.cons rfl (fun K hK => ?_) AllReadyH.nil
          all_goals go_simp
          have hb := (bl W3).al (.cells #[.int .i64 (11 + (n : Int)), .int .i64 f.count, .string ⟨#[]⟩, .int .i64 0, .string ⟨#[]⟩, .slice none 0 0, .slice none 0 0, .slice none 0 0] 62)
          have HN := hide (news_row W3 [.int .i64 (11 + (n : Int)), .int .i64 f.count, .string ⟨#[]⟩, .int .i64 0, .string ⟨#[]⟩, .slice none 0 0, .slice none 0 0, .slice none 0 0] 62 W3.heap.size rfl)
          replace HOA := hide (HOA.out.below StC.mono hb)
          have hbw := HBW.out.tr hb
          replace HBW := hide hbw
          have hnr : W3.heap.size < (W3.alloc (.cells #[.int .i64 (11 + (n : Int)), .int .i64 f.count, .string ⟨#[]⟩, .int .i64 0, .string ⟨#[]⟩, .slice none 0 0, .slice none 0 0, .slice none 0 0] 62)).heap.size := by simp
          clear hbw hb
          generalize W3.alloc (.cells #[.int .i64 (11 + (n : Int)), .int .i64 f.count, .string ⟨#[]⟩, .int .i64 0, .string ⟨#[]⟩, .slice none 0 0, .slice none 0 0, .slice none 0 0] 62) = W4 at *
          generalize W3.heap.size = nr at *
          refine hK.out _ _ (HSS.out _ HBW.out) (fun hHeld => ?_)
          clear hK K
          try simp only [Act.put, List.setIfInBounds_toArray, List.set_cons_zero, List.set_cons_succ]
          refine wpAnyH_ready (rs := [10]) (by kernel_rfl) (by simp) ?_
          refine AllReadyH.cons rfl (fun K hK => ?_) AllReadyH.nil
          refine step_push _ (by rfl) _ _ 40 (by rfl) wa.heap.size 62 i0 _ 8 128 Tryd.underlying40 hi hz0 hz1 hz2 (by rfl) (Nat.succ_pos _) StC StC.mono [x1] (.slice va f.body.length vc) f.body (by rfl) HOA.out ⟨nr, 0, none⟩ 1 [.int .i64 (11 + (n : Int)), .int .i64 f.count, .string ⟨#[]⟩, .int .i64 0, .string ⟨#[]⟩, .slice none 0 0, .slice none 0 0, .slice none 0 0] (St.mk (11 + (n : Int)) f.count [] 0 [] [] [] []) (by rfl) (by rfl) HN.out (by simp [Value.oneCell']) (HSC.out _) (by unfold maxLen; omega) (by omega) HBW.out.size ?_
          intro v8 W5 hown hgrow
          obtain ⟨va2, vc2, he, hle2, hcm2⟩ := hown.slice
          rw [List.length_append] at he
          have he : v8 = .slice va2 (f.body.length + 1) vc2 := he
          subst he
          replace HBW := hide (HBW.out.grown hgrow HBW.out.size (fun k hk => (HOA.out.lt k hk).1))
          have HOB := hide hown
          clear hown hgrow HOA HN
          have HXB := hide ((HBW.out.block _ hxl).trans HX.out)
          have b3 := cell_at (j := 3) HXB.out rfl
          have fb3 := free_at (j := 3) HXB.out
          have hxb := (Array.getElem?_eq_some_iff.1 HXB.out).1
          refine hK.out _ _ (HSS.out _ HBW.out) (fun hHeld => ?_)
          clear hK K
          try simp only [Act.put, List.setIfInBounds_toArray, List.set_cons_zero, List.set_cons_succ]
          refine wpAnyH_take (i := 11) (v := ?_) (by simp only [List.getElem?_toArray, List.getElem?_cons_succ, List.getElem?_cons_zero]; rfl) (by kernel_rfl) (by kernel_rfl) (by kernel_rfl) (by exact fun _ _ _ h => h) (Or.inl ⟨by rfl, ?_⟩) (by assumption) ?_
          rotate_left 1
          · ((intro w hSw; (try dsimp only at hSw); go_simp) <;> with_reducible rfl)
          try simp only [Act.put, List.setIfInBounds_toArray, List.set_cons_zero, List.set_cons_succ]
          refine wpAnyH_ready (rs := [12]) (by kernel_rfl) (by simp) ?_
          refine AllReadyH.cons rfl (fun K hK => ?_) AllReadyH.nil
          go_simp
          refine hK.out _ _ (HSF.out _ _ HBW.out) (fun hHeld => ?_)
          clear hK K
          try simp only [Act.put, List.setIfInBounds_toArray, List.set_cons_zero, List.set_cons_succ]
          refine wpAnyH_done (by kernel_rfl) ?_ _
          go_wp2_with fail
          go_meet
          exact ⟨rfl, va2, vc2, W5, rfl, HBW, HOB⟩
      case rest =>
        obtain ⟨rfl, va2, vc2, W, rfl, HBW, HOB⟩ := hcut
        have hx3 := heap_set (i := 3) ((HBW.out.block _ hxl).trans HX.out) (.slice va2 (f.body.length + 1) vc2)
        have hx4 := heap_set (i := 4) hx3 (.int .i64 (f.count + 1))
        simp only [List.setIfInBounds_toArray, List.set_cons_succ, List.set_cons_zero] at hx3
        have hk := ((Kept.refl [x1] W).set (g := x1) (.inl (by simp)) 3 (.slice va2 (f.body.length + 1) vc2)).set (g := x1) (.inl (by simp)) 4 (.int .i64 (f.count + 1))
        have HBT : Hid (Below w.heap.size w ((W.setCell ⟨x1, 3, none⟩ (.slice va2 (f.body.length + 1) vc2)).setCell ⟨x1, 4, none⟩ (.int .i64 (f.count + 1)))) := hide (hk.below (HB.out.tr HBW.out) (by simp; omega))
        obtain ⟨p9, c9, he9, hrow9, hle9, hcm9⟩ := HOB.out.sts (by simp; omega)
        simp only [Value.slice.injEq, List.length_append, List.length_cons, List.length_nil, Nat.zero_add, true_and] at he9
        obtain ⟨rfl, rfl⟩ := he9
        have hh := (has_kept hk).tr has_av
        have HV : Hid ((badF f n 4).Val ((W.setCell ⟨x1, 3, none⟩ (.slice va2 (f.body.length + 1) vc2)).setCell ⟨x1, 4, none⟩ (.int .i64 (f.count + 1))) (.agg #[.string ⟨List.toArray f.name⟩, .slice pp f.params.length cp, .int .i64 f.result, .slice va2 (f.body.length + 1) vc2, .int .i64 (f.count + 1)])) := hide
          ⟨pp, va2, cp, vc2, by simp [badF], ⟨HFW.out.s, HFW.out.r, by simpa [badF] using hle9, hcm9, (show I64 (f.count + 1) by unfold I64; omega)⟩, (HPS.out.has (has_av_below HBW.out)).has hh, hrow9.has hh⟩
        clear a0 a1 a2 a3 a4 fx hx4 hk hrow9 hh hle9 hcm9 HOB
        have a0 := cell_at (j := 0) hx3 rfl
        have a1 := cell_at (j := 1) hx3 rfl
        have a2 := cell_at (j := 2) hx3 rfl
        have a3 := cell_at (j := 3) hx3 rfl
        have a4 := cell_at (j := 4) hx3 rfl
        have fx := fun j => free_at (j := j) hx3
        have hxl2 := (Array.getElem?_eq_some_iff.1 hx3).1
        clear hx3
        generalize W.setCell ⟨x1, 3, none⟩ (.slice va2 (f.body.length + 1) vc2) = W9 at *
        go_wp2_with fail
        refine (of_any (badF f n 4) _ _ HV.out (HTB.out _ HBT.out)).mono ?_
        unfold OfPost
        rw [HBN.out 4]
        rintro r w8 ⟨⟨va8, vc8, rfl, -⟩, hb8⟩
        have HB8 := hide (HBT.out.tr hb8)
        clear hb8
        go_wp2_with fail
        refine (HWK.out _ HB8.out).mono ?_
        rintro r w9 ⟨rfl, hb9⟩
        have HB9 := hide (HB8.out.tr hb9)
        clear hb9
        go_wp2_with fail
        go_ret
        exact ⟨rfl, HB9.out⟩
    · have hm : (y : Int) % 6 = 5 := by omega
      clear h6
      go_upto_region 7 with fail
      rw [hm]
      have HSC : Hid (∀ W, StC W (.mk 1 f.count [120] 0 [] [] [] []) [.int .i64 1, .int .i64 f.count, .string ⟨#[120]⟩, .int .i64 0, .string ⟨#[]⟩, .slice none 0 0, .slice none 0 0, .slice none 0 0]) := hide (fun W => ⟨none, none, none, 0, 0, 0, rfl, ⟨(show I64 (1) by unfold I64; omega), (show I64 f.count by unfold I64; omega), (show ([120] : Bytes).length ≤ maxLen by unfold maxLen; simp), (show I64 0 by unfold I64; omega), Nat.zero_le _, Nat.le_refl _, Nat.zero_le _, Nat.le_refl _, Nat.zero_le _, Nat.le_refl _, Nat.zero_le _⟩, trivial, trivial, trivial⟩)
      have HSS : Hid (∀ W, Below wa.heap.size wa W → W.cell? ⟨x1, 4, none⟩ = some (.int .i64 f.count)) := hide (fun W hb => cell_at (j := 4) ((hb.block _ hxl).trans HX.out) rfl)
      have HSF : Hid (∀ W v, Below wa.heap.size wa W → (W.setCell ⟨x1, 3, none⟩ v).cell? ⟨x1, 4, none⟩ = some (.int .i64 f.count)) := hide (fun W v hb => cell_at (j := 4) (heap_set (i := 3) ((hb.block _ hxl).trans HX.out) v) rfl)
      have HINF := hide (fun (W : World) (g0 : Nat) (hb : Below wa.heap.size wa W) (hg : wa.heap.size ≤ g0) => sts_in (L := (Value.slice (some ⟨g0, 0, none⟩) 0 0).ownBlock.toList ++ [x1]) HROW.out hb (by simp only [Value.ownBlock, Option.toList_some, List.singleton_append, List.mem_cons, List.not_mem_nil, or_false]; rintro g (rfl | rfl); exact .inr hg; exact .inl rfl))
      go_cut [0] (fun z wx => z = .agg #[.slice pa P.length pc, .slice ca C.length cc] ∧ ∃ va2 vc2 W, wx = W.setCell ⟨x1, 3, none⟩ (.slice va2 (f.body.length + 1) vc2) ∧ Hid (Below wa.heap.size wa W) ∧ Hid (OwnL W wa.heap.size 62 8 StC [x1] (.slice va2 (f.body.length + 1) vc2) (f.body ++ [.mk 1 f.count [120] 0 [] [] [] []])))
      case first =>
        refine wp_noexit ?_
        have HBW := hide ((bl wa).dr)
        obtain ⟨i0, hi, hz0, hz1, hz2⟩ := info_parts info_st
        have hv1 : IntKind.i64.wrap (11 + (n : Int)) = 11 + (n : Int) := IntWalk.i64_in _ (by omega)
        clear a0 a1 a2 a3 a4 fx
        refine wp_region_held_drew (S := fun W => W.cell? ⟨x1, 4, none⟩ = some (.int .i64 f.count)) (by kernel_rfl) (HSS.out _ HBW.out) (fun hHeld => ?_)
        generalize wa.drew = W0 at *
        refine wpAnyH_take (i := 1) (v := ?_) (by simp only [List.getElem?_toArray, List.getElem?_cons_succ, List.getElem?_cons_zero]; rfl) (by kernel_rfl) (by kernel_rfl) (by kernel_rfl) (by exact fun _ _ _ h => h) (Or.inl ⟨by rfl, ?_⟩) (by assumption) ?_
        rotate_left 1
        · ((intro w hSw; (try dsimp only at hSw); go_simp) <;> with_reducible rfl)
        try simp only [Act.put, List.setIfInBounds_toArray, List.set_cons_zero, List.set_cons_succ]
        refine wpAnyH_take (i := 4) (v := ?_) (by simp only [List.getElem?_toArray, List.getElem?_cons_succ, List.getElem?_cons_zero]; rfl) (by kernel_rfl) (by kernel_rfl) (by kernel_rfl) (by exact fun _ _ _ h => h) (Or.inl ⟨by rfl, ?_⟩) (by assumption) ?_
        rotate_left 1
        · ((intro w hSw; (try dsimp only at hSw); go_simp) <;> with_reducible rfl)
        try simp only [Act.put, List.setIfInBounds_toArray, List.set_cons_zero, List.set_cons_succ]
        refine wpAnyH_take (i := 5) (v := ?_) (by simp only [List.getElem?_toArray, List.getElem?_cons_succ, List.getElem?_cons_zero]; rfl) (by kernel_rfl) (by kernel_rfl) (by kernel_rfl) (by exact fun _ _ _ h => h) (Or.inl ⟨by rfl, ?_⟩) (by assumption) ?_
        rotate_left 1
        · ((intro w hSw; (try dsimp only at hSw); go_simp) <;> with_reducible rfl)
        try simp only [Act.put, List.setIfInBounds_toArray, List.set_cons_zero, List.set_cons_succ]
        have l3 := cell_at (j := 3) ((HBW.out.block _ hxl).trans HX.out) rfl
        have l3l : x1 < W0.heap.size := cell_lt l3
        refine wpAnyH_ready (rs := [0, 2]) (by kernel_rfl) (by simp) ?_
        refine AllReadyH.cons rfl (fun K hK => ?_) (AllReadyH.cons rfl (fun K hK => ?_) AllReadyH.nil)
        all_goals go_simp
        · have hb := (bl W0).al (.cells #[] 62)
          have HO0 := hide (OwnL.made0 W0 wa.heap.size 62 8 StC [x1] W0.heap.size rfl HBW.out.size)
          have hbw := HBW.out.tr hb
          replace HBW := hide hbw
          have hg0 : W0.heap.size < (W0.alloc (.cells #[] 62)).heap.size := by simp
          clear hbw hb
          generalize W0.alloc (.cells #[] 62) = W1 at *
          generalize W0.heap.size = g0 at *
          refine hK.out _ _ (HSS.out _ HBW.out) (fun hHeld => ?_)
          clear hK K
          try simp only [Act.put, List.setIfInBounds_toArray, List.set_cons_zero, List.set_cons_succ]
          have l3 := cell_at (j := 3) ((HBW.out.block _ hxl).trans HX.out) rfl
          have l3l : x1 < W1.heap.size := cell_lt l3
          refine wpAnyH_ready (rs := [2]) (by kernel_rfl) (by simp) ?_
          refine AllReadyH.cons rfl (fun K hK => ?_) AllReadyH.nil
          all_goals go_simp
          refine hK.out _ _ (HSS.out _ HBW.out) (fun hHeld => ?_)
          clear hK K
          try simp only [Act.put, List.setIfInBounds_toArray, List.set_cons_zero, List.set_cons_succ]
          refine wpAnyH_ready (rs := [3]) (by kernel_rfl) (by simp) ?_
          refine AllReadyH.cons rfl (fun K hK => ?_) AllReadyH.nil
          have HIN := hide (HINF.out W1 g0 HBW.out (HO0.out.lt g0 rfl).1)
          refine step_pushn _ (by rfl) _ _ 40 (by rfl) wa.heap.size 62 i0 _ 8 128 Tryd.underlying40 hi hz0 hz1 hz2 (by rfl) (Nat.succ_pos _) StC StC.mono [x1] (.slice (some ⟨g0, 0, none⟩) 0 0) [] (by rfl) HO0.out pb cb f.body (by rfl) HIN.out (by simp only [List.length_nil]; unfold maxLen; omega) (by simp only [List.length_nil]; omega) HBW.out.size ?_
          intro v7 W2 hown hgrow
          rw [List.nil_append] at hown
          obtain ⟨va, vc, he, -, -⟩ := hown.slice
          subst he
          replace HBW := hide (HBW.out.grown hgrow HBW.out.size (fun k hk => (HO0.out.lt k hk).1))
          have HOA := hide hown
          clear hown hgrow HIN HO0
          refine hK.out _ _ (HSS.out _ HBW.out) (fun hHeld => ?_)
          clear hK K
          try simp only [Act.put, List.setIfInBounds_toArray, List.set_cons_zero, List.set_cons_succ]
          refine wpAnyH_ready (rs := [6]) (by kernel_rfl) (by simp) ?_
          refine AllReadyH.cons rfl (fun K hK => ?_) AllReadyH.nil
          all_goals go_simp
          refine (stmt_any 1 f.count 0 ⟨#[120]⟩ _).mono ?_
          unfold sLf
          rintro r W3 ⟨rfl, hb⟩
          replace HOA := hide (HOA.out.below StC.mono hb)
          replace HBW := hide (HBW.out.tr hb)
          clear hb
          refine hK.out _ _ (HSS.out _ HBW.out) (fun hHeld => ?_)
          clear hK K
          try simp only [Act.put, List.setIfInBounds_toArray, List.set_cons_zero, List.set_cons_succ]
          refine wpAnyH_ready (rs := [7]) (by kernel_rfl) (by simp) ?_
          refine AllReadyH.cons rfl (fun K hK => ?_) AllReadyH.nil
          all_goals go_simp
          have hb := (bl W3).al (.cells #[.int .i64 1, .int .i64 f.count, .string ⟨#[120]⟩, .int .i64 0, .string ⟨#[]⟩, .slice none 0 0, .slice none 0 0, .slice none 0 0] 62)
          have HN := hide (news_row W3 [.int .i64 1, .int .i64 f.count, .string ⟨#[120]⟩, .int .i64 0, .string ⟨#[]⟩, .slice none 0 0, .slice none 0 0, .slice none 0 0] 62 W3.heap.size rfl)
          replace HOA := hide (HOA.out.below StC.mono hb)
          have hbw := HBW.out.tr hb
          replace HBW := hide hbw
          have hnr : W3.heap.size < (W3.alloc (.cells #[.int .i64 1, .int .i64 f.count, .string ⟨#[120]⟩, .int .i64 0, .string ⟨#[]⟩, .slice none 0 0, .slice none 0 0, .slice none 0 0] 62)).heap.size := by simp
          clear hbw hb
          generalize W3.alloc (.cells #[.int .i64 1, .int .i64 f.count, .string ⟨#[120]⟩, .int .i64 0, .string ⟨#[]⟩, .slice none 0 0, .slice none 0 0, .slice none 0 0] 62) = W4 at *
          generalize W3.heap.size = nr at *
          refine hK.out _ _ (HSS.out _ HBW.out) (fun hHeld => ?_)
          clear hK K
          try simp only [Act.put, List.setIfInBounds_toArray, List.set_cons_zero, List.set_cons_succ]
          refine wpAnyH_ready (rs := [8]) (by kernel_rfl) (by simp) ?_
          refine AllReadyH.cons rfl (fun K hK => ?_) AllReadyH.nil
          refine step_push _ (by rfl) _ _ 40 (by rfl) wa.heap.size 62 i0 _ 8 128 Tryd.underlying40 hi hz0 hz1 hz2 (by rfl) (Nat.succ_pos _) StC StC.mono [x1] (.slice va f.body.length vc) f.body (by rfl) HOA.out ⟨nr, 0, none⟩ 1 [.int .i64 1, .int .i64 f.count, .string ⟨#[120]⟩, .int .i64 0, .string ⟨#[]⟩, .slice none 0 0, .slice none 0 0, .slice none 0 0] (St.mk 1 f.count [120] 0 [] [] [] []) (by rfl) (by rfl) HN.out (by simp [Value.oneCell']) (HSC.out _) (by unfold maxLen; omega) (by omega) HBW.out.size ?_
          intro v8 W5 hown hgrow
          obtain ⟨va2, vc2, he, hle2, hcm2⟩ := hown.slice
          rw [List.length_append] at he
          have he : v8 = .slice va2 (f.body.length + 1) vc2 := he
          subst he
          replace HBW := hide (HBW.out.grown hgrow HBW.out.size (fun k hk => (HOA.out.lt k hk).1))
          have HOB := hide hown
          clear hown hgrow HOA HN
          have HXB := hide ((HBW.out.block _ hxl).trans HX.out)
          have b3 := cell_at (j := 3) HXB.out rfl
          have fb3 := free_at (j := 3) HXB.out
          have hxb := (Array.getElem?_eq_some_iff.1 HXB.out).1
          refine hK.out _ _ (HSS.out _ HBW.out) (fun hHeld => ?_)
          clear hK K
          try simp only [Act.put, List.setIfInBounds_toArray, List.set_cons_zero, List.set_cons_succ]
          refine wpAnyH_take (i := 9) (v := ?_) (by simp only [List.getElem?_toArray, List.getElem?_cons_succ, List.getElem?_cons_zero]; rfl) (by kernel_rfl) (by kernel_rfl) (by kernel_rfl) (by exact fun _ _ _ h => h) (Or.inl ⟨by rfl, ?_⟩) (by assumption) ?_
          rotate_left 1
          · ((intro w hSw; (try dsimp only at hSw); go_simp) <;> with_reducible rfl)
          try simp only [Act.put, List.setIfInBounds_toArray, List.set_cons_zero, List.set_cons_succ]
          refine wpAnyH_ready (rs := [10]) (by kernel_rfl) (by simp) ?_
          refine AllReadyH.cons rfl (fun K hK => ?_) AllReadyH.nil
          go_simp
          refine hK.out _ _ (HSF.out _ _ HBW.out) (fun hHeld => ?_)
          clear hK K
          try simp only [Act.put, List.setIfInBounds_toArray, List.set_cons_zero, List.set_cons_succ]
          refine wpAnyH_done (by kernel_rfl) ?_ _
          go_wp2_with fail
          go_meet
          exact ⟨rfl, va2, vc2, W5, rfl, HBW, HOB⟩
        · refine hK.out _ _ (HSS.out _ HBW.out) (fun hHeld => ?_)
          clear hK K
          try simp only [Act.put, List.setIfInBounds_toArray, List.set_cons_zero, List.set_cons_succ]
          refine wpAnyH_ready (rs := [0]) (by kernel_rfl) (by simp) ?_
          refine AllReadyH.cons rfl (fun K hK => ?_) AllReadyH.nil
          all_goals go_simp
          have hb := (bl W0).al (.cells #[] 62)
          have HO0 := hide (OwnL.made0 W0 wa.heap.size 62 8 StC [x1] W0.heap.size rfl HBW.out.size)
          have hbw := HBW.out.tr hb
          replace HBW := hide hbw
          have hg0 : W0.heap.size < (W0.alloc (.cells #[] 62)).heap.size := by simp
          clear hbw hb
          generalize W0.alloc (.cells #[] 62) = W1 at *
          generalize W0.heap.size = g0 at *
          refine hK.out _ _ (HSS.out _ HBW.out) (fun hHeld => ?_)
          clear hK K
          try simp only [Act.put, List.setIfInBounds_toArray, List.set_cons_zero, List.set_cons_succ]
          refine wpAnyH_ready (rs := [3]) (by kernel_rfl) (by simp) ?_
          refine AllReadyH.cons rfl (fun K hK => ?_) AllReadyH.nil
          have HIN := hide (HINF.out W1 g0 HBW.out (HO0.out.lt g0 rfl).1)
          refine step_pushn _ (by rfl) _ _ 40 (by rfl) wa.heap.size 62 i0 _ 8 128 Tryd.underlying40 hi hz0 hz1 hz2 (by rfl) (Nat.succ_pos _) StC StC.mono [x1] (.slice (some ⟨g0, 0, none⟩) 0 0) [] (by rfl) HO0.out pb cb f.body (by rfl) HIN.out (by simp only [List.length_nil]; unfold maxLen; omega) (by simp only [List.length_nil]; omega) HBW.out.size ?_
          intro v7 W2 hown hgrow
          rw [List.nil_append] at hown
          obtain ⟨va, vc, he, -, -⟩ := hown.slice
          subst he
          replace HBW := hide (HBW.out.grown hgrow HBW.out.size (fun k hk => (HO0.out.lt k hk).1))
          have HOA := hide hown
          clear hown hgrow HIN HO0
          refine hK.out _ _ (HSS.out _ HBW.out) (fun hHeld => ?_)
          clear hK K
          try simp only [Act.put, List.setIfInBounds_toArray, List.set_cons_zero, List.set_cons_succ]
          refine wpAnyH_ready (rs := [6]) (by kernel_rfl) (by simp) ?_
          refine AllReadyH.cons rfl (fun K hK => ?_) AllReadyH.nil
          all_goals go_simp
          refine (stmt_any 1 f.count 0 ⟨#[120]⟩ _).mono ?_
          unfold sLf
          rintro r W3 ⟨rfl, hb⟩
          replace HOA := hide (HOA.out.below StC.mono hb)
          replace HBW := hide (HBW.out.tr hb)
          clear hb
          refine hK.out _ _ (HSS.out _ HBW.out) (fun hHeld => ?_)
          clear hK K
          try simp only [Act.put, List.setIfInBounds_toArray, List.set_cons_zero, List.set_cons_succ]
          refine wpAnyH_ready (rs := [7]) (by kernel_rfl) (by simp) ?_
          refine AllReadyH.cons rfl (fun K hK => ?_) AllReadyH.nil
          all_goals go_simp
          have hb := (bl W3).al (.cells #[.int .i64 1, .int .i64 f.count, .string ⟨#[120]⟩, .int .i64 0, .string ⟨#[]⟩, .slice none 0 0, .slice none 0 0, .slice none 0 0] 62)
          have HN := hide (news_row W3 [.int .i64 1, .int .i64 f.count, .string ⟨#[120]⟩, .int .i64 0, .string ⟨#[]⟩, .slice none 0 0, .slice none 0 0, .slice none 0 0] 62 W3.heap.size rfl)
          replace HOA := hide (HOA.out.below StC.mono hb)
          have hbw := HBW.out.tr hb
          replace HBW := hide hbw
          have hnr : W3.heap.size < (W3.alloc (.cells #[.int .i64 1, .int .i64 f.count, .string ⟨#[120]⟩, .int .i64 0, .string ⟨#[]⟩, .slice none 0 0, .slice none 0 0, .slice none 0 0] 62)).heap.size := by simp
          clear hbw hb
          generalize W3.alloc (.cells #[.int .i64 1, .int .i64 f.count, .string ⟨#[120]⟩, .int .i64 0, .string ⟨#[]⟩, .slice none 0 0, .slice none 0 0, .slice none 0 0] 62) = W4 at *
          generalize W3.heap.size = nr at *
          refine hK.out _ _ (HSS.out _ HBW.out) (fun hHeld => ?_)
          clear hK K
          try simp only [Act.put, List.setIfInBounds_toArray, List.set_cons_zero, List.set_cons_succ]
          refine wpAnyH_ready (rs := [8]) (by kernel_rfl) (by simp) ?_
          refine AllReadyH.cons rfl (fun K hK => ?_) AllReadyH.nil
          refine step_push _ (by rfl) _ _ 40 (by rfl) wa.heap.size 62 i0 _ 8 128 Tryd.underlying40 hi hz0 hz1 hz2 (by rfl) (Nat.succ_pos _) StC StC.mono [x1] (.slice va f.body.length vc) f.body (by rfl) HOA.out ⟨nr, 0, none⟩ 1 [.int .i64 1, .int .i64 f.count, .string ⟨#[120]⟩, .int .i64 0, .string ⟨#[]⟩, .slice none 0 0, .slice none 0 0, .slice none 0 0] (St.mk 1 f.count [120] 0 [] [] [] []) (by rfl) (by rfl) HN.out (by simp [Value.oneCell']) (HSC.out _) (by unfold maxLen; omega) (by omega) HBW.out.size ?_
          intro v8 W5 hown hgrow
          obtain ⟨va2, vc2, he, hle2, hcm2⟩ := hown.slice
          rw [List.length_append] at he
          have he : v8 = .slice va2 (f.body.length + 1) vc2 := he
          subst he
          replace HBW := hide (HBW.out.grown hgrow HBW.out.size (fun k hk => (HOA.out.lt k hk).1))
          have HOB := hide hown
          clear hown hgrow HOA HN
          have HXB := hide ((HBW.out.block _ hxl).trans HX.out)
          have b3 := cell_at (j := 3) HXB.out rfl
          have fb3 := free_at (j := 3) HXB.out
          have hxb := (Array.getElem?_eq_some_iff.1 HXB.out).1
          refine hK.out _ _ (HSS.out _ HBW.out) (fun hHeld => ?_)
          clear hK K
          try simp only [Act.put, List.setIfInBounds_toArray, List.set_cons_zero, List.set_cons_succ]
          refine wpAnyH_take (i := 9) (v := ?_) (by simp only [List.getElem?_toArray, List.getElem?_cons_succ, List.getElem?_cons_zero]; rfl) (by kernel_rfl) (by kernel_rfl) (by kernel_rfl) (by exact fun _ _ _ h => h) (Or.inl ⟨by rfl, ?_⟩) (by assumption) ?_
          rotate_left 1
          · ((intro w hSw; (try dsimp only at hSw); go_simp) <;> with_reducible rfl)
          try simp only [Act.put, List.setIfInBounds_toArray, List.set_cons_zero, List.set_cons_succ]
          refine wpAnyH_ready (rs := [10]) (by kernel_rfl) (by simp) ?_
          refine AllReadyH.cons rfl (fun K hK => ?_) AllReadyH.nil
          go_simp
          refine hK.out _ _ (HSF.out _ _ HBW.out) (fun hHeld => ?_)
          clear hK K
          try simp only [Act.put, List.setIfInBounds_toArray, List.set_cons_zero, List.set_cons_succ]
          refine wpAnyH_done (by kernel_rfl) ?_ _
          go_wp2_with fail
          go_meet
          exact ⟨rfl, va2, vc2, W5, rfl, HBW, HOB⟩
      case rest =>
        obtain ⟨rfl, va2, vc2, W, rfl, HBW, HOB⟩ := hcut
        have hx3 := heap_set (i := 3) ((HBW.out.block _ hxl).trans HX.out) (.slice va2 (f.body.length + 1) vc2)
        have hx4 := heap_set (i := 4) hx3 (.int .i64 (f.count + 1))
        simp only [List.setIfInBounds_toArray, List.set_cons_succ, List.set_cons_zero] at hx3
        have hk := ((Kept.refl [x1] W).set (g := x1) (.inl (by simp)) 3 (.slice va2 (f.body.length + 1) vc2)).set (g := x1) (.inl (by simp)) 4 (.int .i64 (f.count + 1))
        have HBT : Hid (Below w.heap.size w ((W.setCell ⟨x1, 3, none⟩ (.slice va2 (f.body.length + 1) vc2)).setCell ⟨x1, 4, none⟩ (.int .i64 (f.count + 1)))) := hide (hk.below (HB.out.tr HBW.out) (by simp; omega))
        obtain ⟨p9, c9, he9, hrow9, hle9, hcm9⟩ := HOB.out.sts (by simp; omega)
        simp only [Value.slice.injEq, List.length_append, List.length_cons, List.length_nil, Nat.zero_add, true_and] at he9
        obtain ⟨rfl, rfl⟩ := he9
        have hh := (has_kept hk).tr has_av
        have HV : Hid ((badF f n 5).Val ((W.setCell ⟨x1, 3, none⟩ (.slice va2 (f.body.length + 1) vc2)).setCell ⟨x1, 4, none⟩ (.int .i64 (f.count + 1))) (.agg #[.string ⟨List.toArray f.name⟩, .slice pp f.params.length cp, .int .i64 f.result, .slice va2 (f.body.length + 1) vc2, .int .i64 (f.count + 1)])) := hide
          ⟨pp, va2, cp, vc2, by simp [badF], ⟨HFW.out.s, HFW.out.r, by simpa [badF] using hle9, hcm9, (show I64 (f.count + 1) by unfold I64; omega)⟩, (HPS.out.has (has_av_below HBW.out)).has hh, hrow9.has hh⟩
        clear a0 a1 a2 a3 a4 fx hx4 hk hrow9 hh hle9 hcm9 HOB
        have a0 := cell_at (j := 0) hx3 rfl
        have a1 := cell_at (j := 1) hx3 rfl
        have a2 := cell_at (j := 2) hx3 rfl
        have a3 := cell_at (j := 3) hx3 rfl
        have a4 := cell_at (j := 4) hx3 rfl
        have fx := fun j => free_at (j := j) hx3
        have hxl2 := (Array.getElem?_eq_some_iff.1 hx3).1
        clear hx3
        generalize W.setCell ⟨x1, 3, none⟩ (.slice va2 (f.body.length + 1) vc2) = W9 at *
        go_wp2_with fail
        refine (of_any (badF f n 5) _ _ HV.out (HTB.out _ HBT.out)).mono ?_
        unfold OfPost
        rw [HBN.out 5]
        rintro r w8 ⟨⟨va8, vc8, rfl, -⟩, hb8⟩
        have HB8 := hide (HBT.out.tr hb8)
        clear hb8
        go_wp2_with fail
        refine (HWK.out _ HB8.out).mono ?_
        rintro r w9 ⟨rfl, hb9⟩
        have HB9 := hide (HB8.out.tr hb9)
        clear hb9
        go_wp2_with fail
        go_ret
        exact ⟨rfl, HB9.out⟩
end Go.Proofs.YtccgpmncpemmdaaDoor
namespace Go.Proofs.YtccgpmncpemmdaaDoor.PrRefuses
open Go Go.ChangeShapes Go.WideShapes Go.ChangeAt Go.RowKit
set_option linter.unusedSimpArgs false
set_option linter.unusedVariables false
set_option linter.unnecessarySimpa false
theorem laidOut : laidOutB Tryd.prog = true := by kernel_rfl
/-- What came in reads behind the call as it did. -/
theorem stay {H : Type} {enc : TypeId × Value → H} {W W' : World} {sp : Nat → Bool} {t : TypeId} {v : Value} {d : DataW H} {ps : List MemPlace} (hr : Tryd.prog.readableRec t = true) (hrow : t < Tryd.prog.types.size)
    (h : DataW.Trod enc Tryd.prog W 0 (fun _ => true) true t v d ps) (hb : Below W.heap.size W W') (hs : ∀ p ∈ ps, sp p.block = true) : DataW.Trod enc Tryd.prog W' 0 sp true t v d ps := by
  refine WideElems.Trod_stays laidOut hr hrow h (fun p hp => ?_) hs
  obtain ⟨n, hn⟩ := h
  have hlt := DataW.trod_lt n t _ _ hn p hp
  cases p with
  | cell b o => exact hb.cell (p := ⟨b, o, none⟩) hlt
  | map b => exact hb.block b hlt
set_option maxRecDepth 100000 in
theorem lifted (os : Os) (started : os.Started) (H : Type) (enc : TypeId × Value → H) :
    ReturnsInHanded {} Tryd.checked os 8 .any (fun w args => (Rows.namesRefusesSpec.pre enc Tryd.prog Tryd.f8 [] false w args ∧ laidMetH Tryd.prog Rows.namesRefusesRow.laid w) ∧ sizedMet enc Tryd.prog Tryd.f8 (OpenSpec.ofChange Rows.namesRefusesSpec) false w args)
      (Rows.namesRefusesSpec.post enc Tryd.prog Tryd.f8 false true false false) := by
  refine returnsInHanded_of_change_and (C := Tryd.checked) (X := fun w _ => laidMetH Tryd.prog Rows.namesRefusesRow.laid w) (fun _ _ _ hh h => h.of_heap hh) own started (by kernel_rfl) Tryd.func8
    (witness_laid #[.agg #[.slice none 0 0, .slice none 0 0], .int .u8 0, .int .u16 0] 8 (by kernel_rfl) (by kernel_rfl) (by kernel_rfl) (by kernel_rfl) (by kernel_rfl) (by kernel_rfl) (by kernel_rfl)) ?_
  intro W base args ds gs before hval0 hW _ _ hL _
  have hval : ∀ (j : Nat) t v, Tryd.f8.params[j]? = some t → args[j]? = some v → Value.okWide Tryd.prog W .any base t v := hval0
  have hW' := hW
  obtain ⟨p, q, hA0, hV, rfl, hfz, hnd⟩ := hW
  have hA : DataW.TrodAll enc Tryd.prog W 0 (fun _ => true) true Tryd.f8.params.toList args.toList ds p := hA0
  rw [Tryd.params8] at hA hval
  obtain ⟨v0, vs0, d0, ds0, p0, q0, hargs, rfl, rfl, h0, r0⟩ := trodAll_cons hA
  obtain ⟨v1, vs1, d1, ds1, p1, q1, rfl, rfl, rfl, h1, r1⟩ := trodAll_cons r0
  obtain ⟨v2, vs2, d2, ds2, p2, q2, rfl, rfl, rfl, h2, r2⟩ := trodAll_cons r1
  obtain ⟨rfl, rfl, rfl⟩ := trodAll_nil r2
  obtain rfl : args = #[v0, v1, v2] := by cases args; simp_all
  obtain ⟨rfl, rfl⟩ := trodVars_none hV
  obtain ⟨P0, C0, hd0⟩ := read_drn (hval 0 38 v0 rfl rfl) h0
  obtain ⟨x1, rfl, rfl, rfl, w1⟩ := open_int Tryd.underlying5 (hval 1 5 v1 rfl rfl) h1
  obtain ⟨x2, rfl, rfl, rfl, w2⟩ := open_int Tryd.underlying65 (hval 2 65 v2 rfl rfl) h2
  clear hA0 hval0
  have hb1 := u8_wf w1
  have hb2 := u16_wf w2
  obtain ⟨n1, rfl⟩ : ∃ n : Nat, x1 = n := ⟨x1.toNat, by omega⟩
  obtain ⟨n2, rfl⟩ : ∃ n : Nat, x2 = n := ⟨x2.toNat, by omega⟩
  refine (NamesRefuses_any P0 C0 v0 n1 n2 W hd0 (by omega) (by omega) (tab_of_laid hL)).mono fun r W' ⟨hr, hb⟩ => ?_
  subst hr
  exact ⟨_, rfl, post_of_below (pa := (p0 ++ ([] ++ ([] ++ [])))) (pv := []) hW' (fun _ _ _ => (trodAll_cons_mk (shut_bool Tryd.underlying4 _) trodAll_mk0))
    (fun sp hsp => (trodAll_cons_mk (stay (by kernel_rfl) (of_decide_eq_true (by kernel_rfl)) h0 hb (fun p hp => hsp p (by simp [hp]))) (trodAll_cons_mk (shut_int Tryd.underlying5 w1) (trodAll_cons_mk (shut_int Tryd.underlying65 w2) trodAll_mk0)))) (fun _ _ => rfl) rfl
    hb (ok_one (by kernel_rfl) rfl (okWide_bool_mk Tryd.underlying4 _))⟩
theorem over : Rows.namesRefusesRow.holds Tryd.pinned (OpenSpec.ofChange Rows.namesRefusesSpec) :=
  OpenClaim.holds_of_wide 8 Tryd.f8 rfl rfl rfl rfl rfl rfl rfl ⟨rfl, rfl, rfl, rfl, rfl⟩ rfl rfl rfl rfl rfl (by kernel_rfl) Tryd.func8 (by kernel_rfl)
    (of_decide_eq_true (by kernel_rfl)) (by unfold Func.isWrapper; first | (rw [if_pos (by decide +kernel)]; kernel_rfl) | (rw [if_neg (by decide +kernel)]; exact ⟨rfl, rfl⟩))
    (fun os started H enc _ => lifted os started H enc)
end Go.Proofs.YtccgpmncpemmdaaDoor.PrRefuses
namespace Go.Proofs.YtccgpmncpemmdaaDoor
open Go
theorem namesRefuses_proved : Rows.NamesRefusesCardSaid :=
  Claim7.holds_tied_plain_at .later [] [.data, .listed, .data, .pinned] true (true, "e6060c3e9f00db02bd710517d1386f908ac2896a23d583f87d7a410536a4e989") false
    PrRefuses.over (fun _ h => by cases h) (by kernel_rfl) (fun _ h => by cases h) namesRefuses_row_tie rfl ⟨rfl, rfl⟩ (by kernel_rfl) rfl
    (fun f fn hf hfn => by
      obtain rfl : f = 8 := Option.some.inj ((show Tryd.prog.funcNamed "rewind/rewindlaw10.NamesRefuses" = some 8 by kernel_rfl).symm.trans hf) |>.symm
      obtain rfl : fn = Tryd.f8 := (Option.some.inj (Tryd.func8.symm.trans hfn)).symm
      exact ⟨by kernel_rfl, fun j t ht => by
        rw [Tryd.params8] at ht
        have h3 : t = 38 ∨ t = 5 ∨ t = 65 := by
          rcases j with _ | _ | _ | j
          all_goals simp at ht
          · exact .inl ht.symm
          · exact .inr (.inl ht.symm)
          · exact .inr (.inr ht.symm)
        rcases h3 with rfl | rfl | rfl
        · exact (show Tryd.prog.wantsStandIn 38 = false by kernel_rfl)
        · exact (show Tryd.prog.wantsStandIn 5 = false by kernel_rfl)
        · exact (show Tryd.prog.wantsStandIn 65 = false by kernel_rfl)⟩)
    (by kernel_rfl)
#print axioms namesRefuses_proved
end Go.Proofs.YtccgpmncpemmdaaDoor
