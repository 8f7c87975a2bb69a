/- NamesBodies returns true for every input, whatever the world is in which the table of blanks is laid as the program lays it, and the input reads as it did. No further condition. -/
import Derived.Test.YtccgpmncpemmdaaDoorShC
import Derived.ProofKit
import Derived.OpenShut
import Derived.Test.YtccgpmncpemmdaaDoorDnE
import Derived.Test.YtccgpmncpemmdaaDoorRows
import Derived.Test.YtccgpmncpemmdaaDoorShA
import Derived.Lay
import Derived.MakeChecks
import Derived.Handed
import Derived.ChangeSame
import Derived.Test.YtccgpmncpemmdaaDoorDnA
import Derived.Test.YtccgpmncpemmdaaDoorNmC
import Derived.Test.YtccgpmncpemmdaaDoorNmJ
import Derived.Test.YtccgpmncpemmdaaDoorTie
import Derived.Test.YtccgpmncpemmdaaDoorCards
import Derived.SevenTiedAt
import Derived.WideKeyArgs
import Derived.ChangeMaps5
/- Slices that come in: a list of whatever their elements read as. -/
namespace Go.Proofs.YtccgpmncpemmdaaDoor
open Go Go.RowKit Go.WideShapes Go.ChangeShapes
set_option linter.unusedSimpArgs false
set_option linter.unusedVariables false
set_option linter.unnecessarySimpa false
/-- The slice a, cap holds things that lie, sz cells each, as At says. -/
structure Sl {α : Type} (sz : Nat) (At : α → Nat → Nat → Prop) (l : List α) (a : Option Addr) (cap : Nat) : Prop where
  len : l.length ≤ cap
  cap : cap ≤ maxLen
  addr : 0 < l.length → ∃ b o, a = some ⟨b, o, none⟩
  at_ : ∀ (b o : Nat), a = some ⟨b, o, none⟩ → ∀ (i : Nat) (h : i < l.length), At l[i] b (o + i * sz)
section
variable {H : Type} {enc : TypeId × Value → H} {W : World} {sp : Nat → Bool} {held : Bool} {P : Program}
theorem read_slice {α : Type} {T E : TypeId} {sz : Nat} (At : α → Nat → Nat → Prop) (hu : P.underlying T = some (.slice E)) (hc : P.cellsOf E = sz) (h0 : 0 < sz) {n : Nat} {v : Value} {x : DataW H × List MemPlace}
    (helem : ∀ (n : Nat) (cs : List Value) (x : DataW H × List MemPlace), DataW.trod enc P W 0 sp held n E cs = some x → ∃ y : α, ∀ b o, (∀ j u, cs[j]? = some u → W.cell? ⟨b, o + j, none⟩ = some u) → At y b o)
    (h : DataW.trod enc P W 0 sp held n T [v] = some x) : ∃ (l : List α) (a : Option Addr) (cap : Nat), v = .slice a l.length cap ∧ Sl sz At l a cap := by
  rcases DataW.trod_slice hu h with ⟨e4, _⟩ | ⟨a', len, cap, elems, rest, n2, hn2, e4, _, hb, hlc, hcm, hel, hall, _, _⟩
  · simp only [List.cons.injEq, and_true] at e4
    exact ⟨[], none, 0, e4, ⟨Nat.le_refl _, Nat.zero_le _, by simp, fun b o e => by cases e⟩⟩
  · simp only [List.cons.injEq, and_true] at e4
    subst e4
    have key : ∀ i, i < len → ∃ (b o : Nat) (y : α), a'.add (i * sz) = ⟨b, o, none⟩ ∧ At y b o := by
      intro i hi
      have h1 := hall i hi
      rw [List.getElem?_eq_getElem (by omega), hc] at h1
      obtain ⟨cs', h2, h3⟩ := Option.bind_eq_some_iff.1 h1
      obtain ⟨_, hl, hg⟩ := World.cells?_some h2
      obtain ⟨y, hy⟩ := helem _ _ _ h3
      have hs : (a'.add (i * sz)).spot = none := by
        have := hg 0 h0
        rw [List.getElem?_eq_getElem (by omega)] at this
        exact World.cell?_spot this
      generalize a'.add (i * sz) = q at *
      obtain ⟨b, o, s⟩ := q
      have hs : s = none := hs
      subst hs
      exact ⟨b, o, y, rfl, hy b o fun j u hu => by
        have hj : j < sz := by have := (List.getElem?_eq_some_iff.1 hu).1; omega
        have h4 := hg j hj
        rw [hu, Addr.add_lit] at h4
        exact h4⟩
    by_cases hz : len = 0
    · subst hz
      exact ⟨[], some a', cap, rfl, ⟨Nat.zero_le _, hcm, by simp, fun b o e i hi => absurd hi (Nat.not_lt_zero _)⟩⟩
    · obtain ⟨b0, o0, _, ha0, _⟩ := key 0 (by omega)
      have ha : a' = ⟨b0, o0, none⟩ := by simpa [Addr.add] using ha0
      subst ha
      have key2 : ∀ i, i < len → ∃ y : α, At y b0 (o0 + i * sz) := fun i hi => by
        obtain ⟨b', o', x, he, hat⟩ := key i hi
        rw [Addr.add_lit] at he
        simp only [Addr.mk.injEq, and_true] at he
        obtain ⟨rfl, rfl⟩ := he
        exact ⟨x, hat⟩
      refine ⟨(List.finRange len).map fun i => (key2 i.1 i.2).choose, some ⟨b0, o0, none⟩, cap, by simp, ⟨by simpa using hlc, hcm, fun _ => ⟨_, _, rfl⟩, ?_⟩⟩
      intro b o e i hi
      simp only [Option.some.injEq, Addr.mk.injEq, and_true] at e
      obtain ⟨rfl, rfl⟩ := e
      have hi' : i < len := by simpa using hi
      have := (key2 i hi').choose_spec
      simpa using this
theorem read_arg {α : Type} {T E : TypeId} {sz : Nat} (At : α → Nat → Nat → Prop) (hu : P.underlying T = some (.slice E)) (hc : P.cellsOf E = sz) (h0 : 0 < sz) {v : Value} {d : DataW H} {p : List MemPlace} {r : Reach} {b0 : Nat}
    (helem : ∀ (n : Nat) (cs : List Value) (x : DataW H × List MemPlace), DataW.trod enc P W 0 sp held n E cs = some x → ∃ y : α, ∀ b o, (∀ j u, cs[j]? = some u → W.cell? ⟨b, o + j, none⟩ = some u) → At y b o)
    (hv : Value.okWide P W r b0 T v) (h : DataW.Trod enc P W 0 sp held T v d p) : ∃ (l : List α) (a : Option Addr) (cap : Nat), v = .slice a l.length cap ∧ Sl sz At l a cap := by
  obtain ⟨a, len, cap, rfl⟩ := okWide_slice hu hv
  obtain ⟨n, hn⟩ := h
  exact read_slice At hu hc h0 helem hn
theorem i64_wf {z : Int} (h : (Lit.int .i64 z).wf = true) : I64 z := by
  have h2 : -9223372036854775808 ≤ z ∧ z ≤ 9223372036854775807 := by simpa [Lit.wf, IntKind.min, IntKind.max, IntKind.signed, IntKind.bits] using h
  exact h2
theorem u8_wf {z : Int} (h : (Lit.int .u8 z).wf = true) : 0 ≤ z ∧ z ≤ 255 := by
  simpa [Lit.wf, IntKind.min, IntKind.max, IntKind.signed, IntKind.bits] using h
/-- A number's cell. -/
theorem elem_int {E : TypeId} (he : P.underlying E = some (.int .i64)) (n : Nat) (cs : List Value) (x : DataW H × List MemPlace) (h : DataW.trod enc P W 0 sp held n E cs = some x) : ∃ z : Int, I64 z ∧ cs = [.int .i64 z] := by
  obtain ⟨z, e0, _, w0⟩ := DataW.trod_int he h
  exact ⟨z, i64_wf w0, e0⟩
theorem elem_u8 {E : TypeId} (he : P.underlying E = some (.int .u8)) (n : Nat) (cs : List Value) (x : DataW H × List MemPlace) (h : DataW.trod enc P W 0 sp held n E cs = some x) : ∃ z : Nat, z ≤ 255 ∧ cs = [.int .u8 (z : Nat)] := by
  obtain ⟨z, e0, _, w0⟩ := DataW.trod_int he h
  have := u8_wf w0
  refine ⟨z.toNat, by omega, ?_⟩
  rw [Int.toNat_of_nonneg this.1]
  exact e0
/-- A string's cell. -/
theorem elem_str {E : TypeId} (he : P.underlying E = some .string) (n : Nat) (cs : List Value) (x : DataW H × List MemPlace) (h : DataW.trod enc P W 0 sp held n E cs = some x) : ∃ s : Bytes, s.length ≤ maxLen ∧ cs = [.string ⟨s.toArray⟩] := by
  obtain ⟨s, e0, _, w0⟩ := DataW.trod_string he h
  refine ⟨s.data.toList, by rw [Array.length_toList]; exact w0, ?_⟩
  have hs : (⟨s.data.toList.toArray⟩ : ByteArray) = s := by simp
  rw [hs]
  exact e0
/-- A bool's cell. -/
theorem elem_bool {E : TypeId} (he : P.underlying E = some .bool) (n : Nat) (cs : List Value) (x : DataW H × List MemPlace) (h : DataW.trod enc P W 0 sp held n E cs = some x) : ∃ b : Bool, cs = [.bool b] := by
  obtain ⟨b, e0, _⟩ := DataW.trod_bool he h
  exact ⟨b, e0⟩
/-- The fields of a struct. -/
theorem elem_struct {T : TypeId} {fs : Array Field} (ht : P.underlying T = some (.struct fs)) {n : Nat} {cs : List Value} {x : DataW H × List MemPlace} (h : DataW.trod enc P W 0 sp held n T cs = some x) :
    cs.length = P.cellsOf T ∧ ∀ (i : Nat) (f : Field), fs[i]? = some f → ∃ (m : Nat) (y : DataW H × List MemPlace), DataW.trod enc P W 0 sp held m f.type ((cs.drop f.offset).take (P.cellsOf f.type)) = some y := by
  obtain ⟨xs, n1, _, _, hl, hxl, hf⟩ := DataW.trod_struct ht h
  refine ⟨hl, fun i f hi => ?_⟩
  have h1 := hf i f hi
  have h2 : i < xs.length := by rw [hxl]; exact (Array.getElem?_eq_some_iff.1 hi).1
  rw [List.getElem?_eq_getElem h2] at h1
  exact ⟨n1, _, h1⟩
end
end Go.Proofs.YtccgpmncpemmdaaDoor
/- Drafts of layer 10 that come in. -/
namespace Go.Proofs.YtccgpmncpemmdaaDoor
open Go Go.RowKit Go.WideShapes Go.ChangeShapes
set_option linter.unusedSimpArgs false
set_option linter.unusedVariables false
set_option linter.unnecessarySimpa false
set_option maxRecDepth 100000
section
variable {H : Type} {enc : TypeId × Value → H} {W : World} {sp : Nat → Bool} {held : Bool}
def ByteAt (W : World) (z : Nat) (b o : Nat) : Prop := z ≤ 255 ∧ W.cell? ⟨b, o, none⟩ = some (.int .u8 (z : Nat))
theorem elem_byteAt (n : Nat) (cs : List Value) (x : DataW H × List MemPlace) (h : DataW.trod enc Tryd.prog W 0 sp held n 5 cs = some x) : ∃ y : Nat, ∀ b o, (∀ j u, cs[j]? = some u → W.cell? ⟨b, o + j, none⟩ = some u) → ByteAt W y b o := by
  obtain ⟨z, hz, rfl⟩ := elem_u8 Tryd.underlying5 n cs x h
  exact ⟨z, fun b o hc => ⟨hz, hc 0 _ rfl⟩⟩
theorem Sl.bys {l : List Nat} {a : Option Addr} {cap : Nat} (h : Sl 1 (ByteAt W) l a cap) : Bys W l a cap :=
  ⟨h.len, h.cap, h.addr, fun b o e i hi => by have := h.at_ b o e i hi; rwa [Nat.mul_one] at this⟩
theorem read_bys0 {n : Nat} {v : Value} {x : DataW H × List MemPlace} (h : DataW.trod enc Tryd.prog W 0 sp held n 36 [v] = some x) : ∃ (l : List Nat) (a : Option Addr) (cap : Nat), v = .slice a l.length cap ∧ Bys W l a cap := by
  obtain ⟨l, a, cap, rfl, hs⟩ := read_slice (ByteAt W) Tryd.underlying36 (by kernel_rfl : Tryd.prog.cellsOf 5 = 1) (by decide) elem_byteAt h
  exact ⟨l, a, cap, rfl, hs.bys⟩
theorem read_drn {r : Reach} {b0 : Nat} {v : Value} {d : DataW H} {p : List MemPlace} (hv : Value.okWide Tryd.prog W r b0 38 v) (h : DataW.Trod enc Tryd.prog W 0 sp held 38 v d p) : ∃ P C : List Nat, DrN W P C v := by
  obtain ⟨cs, rfl, _⟩ := okWide_struct Tryd.underlying38 hv
  obtain ⟨n, hn⟩ := h
  have hn' : DataW.trod enc Tryd.prog W 0 sp held n 38 cs.toList = some (d, p) := hn
  obtain ⟨hl, hf⟩ := elem_struct Tryd.underlying38 hn'
  have hl2 : cs.toList.length = 2 := hl.trans (by kernel_rfl)
  have csl : Tryd.prog.cellsOf 36 = 1 := by kernel_rfl
  obtain ⟨l⟩ := cs
  match l, hl2, hf with
  | [v0, v1], _, hf =>
    have g0 : ∃ m y, DataW.trod enc Tryd.prog W 0 sp held m 36 (([v0, v1].drop 0).take (Tryd.prog.cellsOf 36)) = some y := hf 0 _ rfl
    have g1 : ∃ m y, DataW.trod enc Tryd.prog W 0 sp held m 36 (([v0, v1].drop 1).take (Tryd.prog.cellsOf 36)) = some y := hf 1 _ rfl
    obtain ⟨m0, y0, f0⟩ := g0
    obtain ⟨m1, y1, f1⟩ := g1
    simp only [csl, List.drop_zero, List.drop_succ_cons, List.take_succ_cons, List.take_zero] at f0 f1
    obtain ⟨l0, a0, c0, rfl, hb0⟩ := read_bys0 f0
    obtain ⟨l1, a1, c1, rfl, hb1⟩ := read_bys0 f1
    exact ⟨l0, l1, a0, c0, a1, c1, rfl, hb0, hb1⟩
end
end Go.Proofs.YtccgpmncpemmdaaDoor
/- What a row of this seat needs: its condition gives the table of blanks; a world that meets it; the last step of a row. -/
namespace Go.Proofs.YtccgpmncpemmdaaDoor
open Go Go.RowKit Go.WideShapes Go.ChangeShapes
set_option linter.unusedSimpArgs false
set_option linter.unusedVariables false
set_option linter.unnecessarySimpa false
theorem own : ownKnob Tryd.prog.godebug = none := by kernel_rfl
/-- The list of laid variables of every row of this seat. -/
def theLaid : List (String × DataW Unit) := [("unicode/utf8.acceptRanges", Rows.laid_unicode_utf8_acceptRanges), ("unicode.White_Space", Rows.laid_unicode_White_Space), ("strings.asciiSpace", Rows.laid_strings_asciiSpace), ("unicode/utf8.first", Rows.laid_unicode_utf8_first)]
theorem space_data : (Rows.laid_strings_asciiSpace : DataW Unit) = Lib.tabData .u8 Lib.asciiSpaceTab := by kernel_rfl
/-- What a row's condition says of one of the listed variables. -/
theorem laid_get0 {P : Program} {W : World} : ∀ {l : List (String × DataW Unit)} {ps : List MemPlace}, DataW.LaidVars P W l ps → ∀ {n : String} {d : DataW Unit}, (n, d) ∈ l →
    ∃ g t cs fuel p, P.globalNamed n = some g ∧ (P.globals[g]?).map (·.type) = some t ∧ W.var? P n = some cs ∧ DataW.trod (fun _ => ()) P W 0 (fun _ => true) false fuel t cs.toList = some (d, p)
  | [], _, _, _, _, hm => by cases hm
  | (m, e) :: l, ps, h, n, d, hm => by
    obtain ⟨g, t, cs, fuel, p, q, h1, h2, h3, h4, h5, _⟩ := h
    cases hm with
    | head => exact ⟨g, t, cs, fuel, p, h1, h2, h3, h4⟩
    | tail _ hm => exact laid_get0 h5 hm
theorem laid_get {W : World} (h : laidMetH Tryd.prog theLaid W) {n : String} {d : DataW Unit} (hm : (n, d) ∈ theLaid) :
    ∃ g t cs fuel p, Tryd.prog.globalNamed n = some g ∧ (Tryd.prog.globals[g]?).map (·.type) = some t ∧ W.var? Tryd.prog n = some cs ∧ DataW.trod (fun _ => ()) Tryd.prog W 0 (fun _ => true) false fuel t cs.toList = some (d, p) := by
  rw [MakeChecks.laidMetH_plain _ _ _ (by kernel_rfl)] at h
  obtain ⟨ps, h, _⟩ := h
  exact laid_get0 h hm
/-- What a row's condition on the listed variables gives a walk. -/
theorem tab_of_laid {W : World} (h : laidMetH Tryd.prog theLaid W) : Tab W := by
  obtain ⟨g', t', cs, fuel, p, hg', ht', hvar, hd⟩ := laid_get h (n := "strings.asciiSpace") (d := Rows.laid_strings_asciiSpace) (by unfold theLaid; repeat (first | exact List.mem_cons_self | apply List.mem_cons_of_mem))
  have hg : Tryd.prog.globalNamed "strings.asciiSpace" = some 0 := by kernel_rfl
  obtain rfl := Option.some.inj (hg.symm.trans hg')
  obtain rfl := Option.some.inj ((show (Tryd.prog.globals[0]?).map (·.type) = some 150 by kernel_rfl).symm.trans ht')
  rw [space_data] at hd
  unfold Tab Lib.TabIs
  rw [hvar, ← Lib.cells_of_tab Tryd.underlying150 Tryd.underlying5 (by kernel_rfl) (by kernel_rfl) hd]
/-- A world that meets every row's condition on the listed variables. -/
theorem witness_laid {os : Os} {H : Type} {enc : TypeId × Value → H} {f : FuncId} {fn : Func} {s : ChangeSpec} (args : Array Value) (fuel : Nat)
    (hv : ((World.laidAll Tryd.prog os theLaid).forCall (fun _ _ => 0) ⟨#[], args, []⟩).variablesZipB Tryd.prog = true)
    (hr : (((World.laidAll Tryd.prog os theLaid).forCall (fun _ _ => 0) ⟨#[], args, []⟩).heap.toList.drop Tryd.prog.globals.size).take ((begin Tryd.prog (fun _ _ => 0) default).world.heap.size - Tryd.prog.globals.size) =
      (begin Tryd.prog (fun _ _ => 0) default).world.heap.toList.drop Tryd.prog.globals.size)
    (hok : Input.okWideB Tryd.prog ((World.laidAll Tryd.prog os theLaid).forCall (fun _ _ => 0) ⟨#[], args, []⟩) f ⟨#[], args, []⟩ = true)
    (hpre : s.preB enc Tryd.prog fn [] false ((World.laidAll Tryd.prog os theLaid).forCall (fun _ _ => 0) ⟨#[], args, []⟩).memory args fuel = true)
    (hsz : s.sizedB enc Tryd.prog fn false ((World.laidAll Tryd.prog os theLaid).forCall (fun _ _ => 0) ⟨#[], args, []⟩).memory args fuel = true)
    (hf : (World.holding Tryd.prog os ⟨#[], #[], []⟩).layFits Tryd.prog theLaid [] = true)
    (hi : (World.holding Tryd.prog os ⟨#[], #[], []⟩).layIfaces Tryd.prog theLaid (World.laidAll Tryd.prog os theLaid) = true) :
    ∃ (w : World) (tape : Tape) (i : Input), w.os = os ∧ (w.forCall tape i).Shaped Tryd.prog ∧ i.vars = [] ∧ Input.okWide Tryd.prog (w.forCall tape i) .any w.heap.size f i ∧
      ((s.pre enc Tryd.prog fn [] false (w.forCall tape i).memory i.args ∧ laidMetH Tryd.prog theLaid (w.forCall tape i).memory) ∧ sizedMet enc Tryd.prog fn (OpenSpec.ofChange s) false (w.forCall tape i).memory i.args) ∧ ({} : Assume).holds Tryd.prog (lone (Frame.enter Tryd.prog f i.args .normal) [] (w.forCall tape i)) :=
  ⟨World.laidAll Tryd.prog os theLaid, fun _ _ => 0, ⟨#[], args, []⟩, World.laidAll_os _ _ _, World.shaped_of_ZipB hv hr, (Input.okWide_of_okWideB (base := 0) hok).1, (Input.okWide_of_okWideB hok).2, ⟨⟨ChangeSpec.pre_of_preB hpre, by
    rw [MakeChecks.laidMetH_plain _ _ _ (by kernel_rfl)]; exact laidMet_laidAll _ hf hi⟩, sizedMet_of_sizedB hsz⟩, by
    simp only [Assume.holds]
    exact ⟨by simp, by simp, fun _ => Modest.zero, by simp, by simp⟩⟩
section
variable {H : Type} {enc : TypeId × Value → H} {P : Program}
/-- The row's last step, where of the call's world one knows that what was there has not turned. -/
theorem post_of_below {f : Func} {s : ChangeSpec} {apart fresh handsOn again : Bool} {W W' : World} {args : Array Value} {v : Value} {ds gs : List (DataW H)} {before pa pv : List MemPlace}
    (hW : DataW.Whole enc P f.params.toList s.vars apart W args.toList ds gs before)
    (hres : ∀ (b : Nat) (sp : Nat → Bool) (hd : Bool), DataW.TrodAll enc P W' b sp hd f.resultTypes.toList (v.resultList f.resultTypes.size) (s.fn H (ds ++ gs)).results [])
    (hargs : ∀ sp : Nat → Bool, (∀ p ∈ before, sp p.block = true) → DataW.TrodAll enc P W' 0 sp true f.params.toList args.toList (s.fn H (ds ++ gs)).args pa)
    (hvars : ∀ sp : Nat → Bool, (∀ p ∈ before, sp p.block = true) → DataW.TrodVars enc P W' sp s.vars (s.fn H (ds ++ gs)).vars pv)
    (hps : before = pa ++ pv) (hb : Below W.heap.size W W')
    (hok : ∀ (j : Nat) (t : TypeId) (r : Value), f.resultTypes[j]? = some t → (v.resultList f.resultTypes.size)[j]? = some r → Value.okWide P W' .any 0 t r) :
    s.post enc P f apart fresh handsOn again W args v W' := by
  have hlt : ∀ p ∈ before, p.block < W.heap.size := fun p hp => hW.lt p hp
  have hold : ∀ p ∈ before, (fun b => decide (b < W.heap.size)) p.block = true := fun p hp => by simpa using hlt p hp
  refine ⟨ds, gs, before, [], pa, pv, hW, hres _ _ _, hargs _ hold, hvars _ hold, World.keptBut_mono (fun p hp => ⟨hp, ?_⟩) (hb.frame (· ∈ before)), fun _ => ?_⟩
  · rw [hps, List.mem_append] at hp
    exact Or.inr hp
  · obtain ⟨_, _, _, _, _, hz, hn⟩ := hW
    refine ⟨hok, _, _, ([] ++ pa) ++ pv, ⟨[] ++ pa, pv, trodAll_append (hargs _ (fun _ _ => rfl)) (hres _ _ _), hvars _ (fun _ _ => rfl), rfl, ?_, ?_⟩, ?_⟩
    · intro b off hp
      have hin : MemPlace.cell b off ∈ before := by rw [hps]; simpa using hp
      rw [hb.frozen (hlt _ hin)]
      exact hz b off hin
    · intro ha
      have := hn ha
      rw [hps] at this
      simpa using this
    · intro p hp _
      rw [hps]
      simpa using hp
end
end Go.Proofs.YtccgpmncpemmdaaDoor
/- NamesBodies, the plain law: statements in which each expression is 0, and each one without blocks that declares nothing is a print, declare the same variables. -/
namespace Go.Proofs.YtccgpmncpemmdaaDoor
open Go Go.RowKit
set_option linter.unusedSimpArgs false
set_option linter.unusedVariables false
set_option linter.unnecessarySimpa false
def num0 : Ex := .mk 1 0 0 [] []
mutual
def St.pln : St → St | .mk k n s t c _ bs es => if k = 1 ∨ k = 9 ∨ k = 10 then .mk k n s t c [num0] (plnL bs) (plnL es) else .mk 6 n [] 0 [] [num0] [] []
def plnL : List St → List St | [] => [] | s :: l => s.pln :: plnL l
end
theorem St.pln_eq (s : St) : s.pln = if s.kind = 1 ∨ s.kind = 9 ∨ s.kind = 10 then .mk s.kind s.no s.name s.typ s.callee [num0] (plnL s.body) (plnL s.els) else .mk 6 s.no [] 0 [] [num0] [] [] := by cases s; rw [St.pln]; rfl
theorem plnL_len : ∀ (l : List St), (plnL l).length = l.length
  | [] => rfl
  | s :: l => by rw [plnL, List.length_cons, List.length_cons, plnL_len l]
theorem plnL_app : ∀ (l m : List St), plnL (l ++ m) = plnL l ++ plnL m
  | [], m => rfl
  | s :: l, m => by rw [List.cons_append, plnL, plnL, List.cons_append, plnL_app l m]
mutual
/-- Only statements that have blocks have statements in them. -/
def St.flt : St → Prop | .mk k _ _ _ _ _ bs es => (¬ (k = 1 ∨ k = 9 ∨ k = 10) → bs = [] ∧ es = []) ∧ fltL bs ∧ fltL es
def fltL : List St → Prop | [] => True | s :: l => s.flt ∧ fltL l
end
theorem head_flt {s : St} (h : headM s = true) : ¬ (s.kind = 1 ∨ s.kind = 9 ∨ s.kind = 10) → s.body = [] ∧ s.els = [] := by
  intro hk
  unfold headM at h
  split at h
  · cases h
  · rename_i x hx
    simp only [fldM, Bool.and_eq_true, Bool.or_eq_true, beq_iff_eq, List.length_eq_zero_iff] at h
    have hb := h.1.1.1.1.2
    have he := h.1.1.1.2
    have h9 : s.kind ≠ 9 := fun e => hk (.inr (.inl e))
    have h10 : s.kind ≠ 10 := fun e => hk (.inr (.inr e))
    have hxx : x.body = false ∧ x.other = false := by
      unfold rowOf at hx
      repeat' split at hx
      all_goals first | (cases hx; exact ⟨rfl, rfl⟩) | (exfalso; omega) | cases hx
    rw [hxx.1] at hb
    rw [hxx.2] at he
    exact ⟨by simpa using hb, by simpa using he⟩
theorem well_flt : ∀ (m : Nat) (l : List St), wellM m l = true → fltL l
  | 0, l, h => by
    rw [wellM, List.isEmpty_iff] at h
    subst h
    exact trivial
  | m + 1, l, h => by
    rw [wellM, List.all_eq_true] at h
    induction l with
    | nil => exact trivial
    | cons s l ih =>
      have hs := h s (by simp)
      simp only [Bool.and_eq_true] at hs
      refine ⟨?_, ih fun t ht => h t (by simp [ht])⟩
      have h1 := head_flt hs.1.1
      have h2 := well_flt m s.body hs.1.2
      have h3 := well_flt m s.els hs.2
      cases s
      exact ⟨h1, h2, h3⟩
mutual
/-- The same, part by part. -/
theorem St.pln_parts : ∀ (s : St), s.flt → s.pln.no = s.no ∧ s.pln.body = plnL s.body ∧ s.pln.els = plnL s.els ∧ s.pln.nos = s.nos ∧ s.pln.cnt = s.cnt ∧ s.pln.gr = s.gr
  | .mk k n s t c xs bs es, h => by
    obtain ⟨h1, h2, h3⟩ := h
    obtain ⟨b1, b2, b3⟩ := plnL_parts bs h2
    obtain ⟨e1, e2, e3⟩ := plnL_parts es h3
    have hbe : (plnL bs).isEmpty = bs.isEmpty := by cases bs <;> rfl
    have hee : (plnL es).isEmpty = es.isEmpty := by cases es <;> rfl
    rw [St.pln]
    split
    · simp only [St.no, St.body, St.els, St.nos, St.cnt, St.gr, b1, b2, b3, e1, e2, e3, hbe, hee, and_self]
    · rename_i hk
      obtain ⟨rfl, rfl⟩ := h1 hk
      simp [St.no, St.body, St.els, St.nos, St.cnt, St.gr, plnL, nosL, cntL]
theorem plnL_parts : ∀ (l : List St), fltL l → nosL (plnL l) = nosL l ∧ cntL (plnL l) = cntL l ∧ grL (plnL l) = grL l
  | [], _ => ⟨rfl, rfl, rfl⟩
  | s :: l, h => by
    obtain ⟨h1, h2⟩ := h
    obtain ⟨_, _, _, s1, s2, s3⟩ := St.pln_parts s h1
    obtain ⟨l1, l2, l3⟩ := plnL_parts l h2
    have hle : (plnL l).isEmpty = l.isEmpty := by cases l <;> rfl
    simp only [plnL, nosL, cntL, grL, s1, s2, s3, l1, l2, l3, hle, and_self]
end
def lvP (q : Lv) : Lv := ⟨q.s.pln, plnL q.blk, q.i⟩
mutual
theorem St.pln_pls : ∀ (s : St) (qs : List Lv) (blk : List St) (i : Nat), s.flt → s.pln.pls (qs.map lvP) (plnL blk) i = (s.pls qs blk i).map (List.map lvP)
  | .mk k n s t c xs bs es, qs, blk, i, h => by
    have hp := St.pln_parts (.mk k n s t c xs bs es) h
    rw [St.pls_eq, hp.2.1, hp.2.2.1]
    obtain ⟨h1, h2, h3⟩ := h
    have hb := plnL_pls bs ((⟨.mk k n s t c xs bs es, blk, i⟩ : Lv) :: qs) bs 0 h2
    have he := plnL_pls es ((⟨.mk k n s t c xs bs es, blk, i⟩ : Lv) :: qs) es 0 h3
    rw [St.pls, List.map_cons, List.map_append, ← hb, ← he]
    rfl
theorem plnL_pls : ∀ (l : List St) (qs : List Lv) (blk : List St) (i : Nat), fltL l → plsF (plnL l) (qs.map lvP) (plnL blk) i = (plsF l qs blk i).map (List.map lvP)
  | [], _, _, _, _ => rfl
  | s :: l, qs, blk, i, h => by
    obtain ⟨h1, h2⟩ := h
    rw [plnL, plsF, plsF, List.map_append, St.pln_pls s qs blk i h1, plnL_pls l qs blk (i + 1) h2]
end
def vk (s : St) : Bytes × Int × Int := (s.name, s.typ, s.no)
mutual
theorem St.pln_vars : ∀ (s : St), s.flt → (s.pln.sts.filter isVar).map vk = (s.sts.filter isVar).map vk
  | .mk k n s t c xs bs es, h => by
    obtain ⟨h1, h2, h3⟩ := h
    have hb := plnL_vars bs h2
    have he := plnL_vars es h3
    have hi : ∀ k n s t c xs bs es, isVar (.mk k n s t c xs bs es) = decide (k = 1) := fun _ _ _ _ _ _ _ _ => rfl
    rw [St.pln]
    split
    · rw [St.sts, St.sts, List.filter_cons, List.filter_cons, hi, hi]
      by_cases hk : k = 1
      · rw [hk, decide_eq_true rfl, if_pos rfl, if_pos rfl, List.map_cons, List.map_cons, List.filter_append, List.filter_append, List.map_append, List.map_append, hb, he]
        rfl
      · rw [decide_eq_false hk, if_neg (by simp), if_neg (by simp), List.filter_append, List.filter_append, List.map_append, List.map_append, hb, he]
    · rename_i hk
      obtain ⟨rfl, rfl⟩ := h1 hk
      have hk1 : k ≠ 1 := fun e => hk (.inl e)
      rw [St.sts, St.sts, List.filter_cons, List.filter_cons, hi, hi, decide_eq_false hk1, decide_eq_false (by decide)]
      rfl
theorem plnL_vars : ∀ (l : List St), fltL l → ((stsL (plnL l)).filter isVar).map vk = ((stsL l).filter isVar).map vk
  | [], _ => rfl
  | s :: l, h => by
    obtain ⟨h1, h2⟩ := h
    rw [plnL, stsL, stsL, List.filter_append, List.filter_append, List.map_append, List.map_append, St.pln_vars s h1, plnL_vars l h2]
end
theorem num0_ok : exOk num0 = true := by decide +kernel
theorem head_pln {s : St} (h : headM s = true) : headM s.pln = true := by
  have hf := head_flt h
  cases s
  rw [St.pln_eq]
  split
  · rename_i hk
    unfold headM at h ⊢
    simp only [St.kind, St.name, St.typ, St.callee, St.args, St.body, St.els, plnL_len] at h ⊢
    simp only [St.kind] at hk
    rcases hk with hk | hk | hk
    all_goals
      subst hk
      simp only [rowOf, fldM, List.length_cons, List.length_nil, List.all_cons, List.all_nil, num0_ok] at h ⊢
      simp at h ⊢
      simp_all
  · simp [headM, rowOf, St.kind, fldM, St.name, St.typ, St.callee, St.args, St.body, St.els, namedM, typedM, num0_ok, (rfl : nameOk [] = false)]
theorem well_pln : ∀ (m : Nat) (l : List St), wellM m l = true → wellM m (plnL l) = true
  | 0, l, h => by
    rw [wellM, List.isEmpty_iff] at h
    subst h
    rfl
  | m + 1, l, h => by
    have hfl := well_flt (m + 1) l h
    rw [wellM, List.all_eq_true] at h
    rw [wellM]
    induction l with
    | nil => rfl
    | cons s l ih =>
      have hs := h s (by simp)
      simp only [Bool.and_eq_true] at hs
      obtain ⟨_, p2, p3, _⟩ := St.pln_parts s hfl.1
      rw [plnL, List.all_cons, ih (fun t ht => h t (by simp [ht])) hfl.2, head_pln hs.1.1, p2, p3, well_pln m _ hs.1.2, well_pln m _ hs.2]
      rfl
def plnF (f : Fn) : Fn := { f with body := plnL f.body }
theorem plnF_check {f : Fn} (h : checkM [f] = 0) : checkM [plnF f] = 0 := by
  obtain ⟨h1, h2⟩ := check_one h
  unfold checkM
  rw [if_pos]
  refine ⟨by simp, fun g hg => ?_⟩
  rw [List.mem_singleton] at hg
  subst hg
  have hw : wellM 20 f.body = true := by
    simp only [fnOk, Bool.and_eq_true] at h1
    exact h1.2.1
  obtain ⟨p1, p2, p3⟩ := plnL_parts f.body (well_flt 20 _ hw)
  constructor
  · unfold fnOk at h1 ⊢
    simp only [plnF, p2, well_pln 20 _ hw] at h1 ⊢
    simp only [hw] at h1
    exact h1
  · unfold fnNums at h2 ⊢
    simp only [plnF, p2, nums_up, p1] at h2 ⊢
    exact h2
theorem plNo_map (q : List Lv) (h : ∀ x ∈ q, x.s.flt) : plNo (q.map lvP) = plNo q := by
  cases q with
  | nil => rfl
  | cons x q => exact (St.pln_parts x.s (h x (by simp))).1
mutual
theorem St.pls_flt : ∀ (s : St) (qs : List Lv) (blk : List St) (i : Nat), s.flt → fltL blk → (∀ x ∈ qs, x.s.flt ∧ fltL x.blk) → ∀ q ∈ s.pls qs blk i, ∀ x ∈ q, x.s.flt ∧ fltL x.blk
  | .mk k n s t c xs bs es, qs, blk, i, h, hb, hq => by
    have h0 := h
    obtain ⟨h1, h2, h3⟩ := h
    have hqs : ∀ x ∈ ((⟨.mk k n s t c xs bs es, blk, i⟩ : Lv) :: qs), x.s.flt ∧ fltL x.blk := by
      intro x hx
      rcases List.mem_cons.1 hx with rfl | hx
      · exact ⟨h0, hb⟩
      · exact hq x hx
    intro q hm
    rw [St.pls] at hm
    rcases List.mem_cons.1 hm with rfl | hm
    · exact hqs
    · rcases List.mem_append.1 hm with hm | hm
      · exact plsF_flt bs _ bs 0 h2 h2 hqs q hm
      · exact plsF_flt es _ es 0 h3 h3 hqs q hm
theorem plsF_flt : ∀ (l : List St) (qs : List Lv) (blk : List St) (i : Nat), fltL l → fltL blk → (∀ x ∈ qs, x.s.flt ∧ fltL x.blk) → ∀ q ∈ plsF l qs blk i, ∀ x ∈ q, x.s.flt ∧ fltL x.blk
  | [], _, _, _, _, _, _ => by simp [plsF]
  | s :: l, qs, blk, i, h, hb, hq => by
    obtain ⟨h1, h2⟩ := h
    intro q hm
    rw [plsF] at hm
    rcases List.mem_append.1 hm with hm | hm
    · exact St.pls_flt s qs blk i h1 hb hq q hm
    · exact plsF_flt l qs blk (i + 1) h2 hb hq q hm
end
theorem findP_pln {f : Fn} (h : fltL f.body) (no : Int) : findP (plnF f) no = (findP f no).map (List.map lvP) := by
  unfold findP plsL
  have e := plnL_pls f.body [] f.body 0 h
  have hf := plsF_flt f.body [] f.body 0 h h (by simp)
  simp only [List.map_nil] at e
  show (plsF (plnL f.body) [] (plnL f.body) 0).find? _ = _
  rw [e]
  clear e
  generalize plsF f.body [] f.body 0 = P at *
  induction P with
  | nil => rfl
  | cons q P ih =>
    have hq := plNo_map q (fun x hx => (hf q (by simp) x hx).1)
    rw [List.map_cons, List.find?_cons, List.find?_cons, hq]
    split
    · rfl
    · exact ih (fun q hq => hf q (by simp [hq]))
theorem findP_flt {f : Fn} (h : fltL f.body) {no : Int} {q : List Lv} (hq : findP f no = some q) : ∀ x ∈ q, x.s.flt ∧ fltL x.blk :=
  plsF_flt f.body [] f.body 0 h h (by simp) q (List.mem_of_find?_eq_some hq)
theorem end_pln {f : Fn} (hc : checkM [f] = 0) (no : Int) : endM (plnF f) no = endM f no := by
  have hw : fltL f.body := by
    have h1 := (check_one hc).1
    simp only [fnOk, Bool.and_eq_true] at h1
    exact well_flt 20 _ h1.2.1
  have hc2 := plnF_check hc
  have hfl := fun q => findP_flt hw (no := no) (q := q)
  unfold endM parM lastM
  rw [if_pos hc, if_pos hc2, if_pos hc, if_pos hc2, findP_pln hw no]
  cases hq : findP f no with
  | none => rfl
  | some q =>
    have hf := hfl q hq
    match q, hf with
    | [], _ => rfl
    | [x], _ => rfl
    | x :: y :: q, hf =>
      simp only [Option.map_some, List.map_cons]
      rw [show (lvP x).blk = plnL x.blk from rfl, (plnL_parts x.blk (hf x (by simp)).2).2.2]
      rfl
theorem names_pln {f : Fn} (hc : checkM [f] = 0) : namesM (plnF f) = namesM f := by
  have hw : fltL f.body := by
    have h1 := (check_one hc).1
    simp only [fnOk, Bool.and_eq_true] at h1
    exact well_flt 20 _ h1.2.1
  rw [namesM, namesM, if_pos hc, if_pos (plnF_check hc)]
  have hv := plnL_vars f.body hw
  have key : ∀ l : List St, l.map (stV f) = (l.map vk).map (fun p => (⟨p.1, p.2.1, p.2.2, p.2.2 + 1, endM f p.2.2⟩ : Vr)) := fun l => by
    rw [List.map_map]
    rfl
  have key2 : ∀ l : List St, l.map (stV (plnF f)) = (l.map vk).map (fun p => (⟨p.1, p.2.1, p.2.2, p.2.2 + 1, endM f p.2.2⟩ : Vr)) := fun l => by
    rw [List.map_map]
    apply List.map_congr_left
    intro s _
    simp only [stV, Function.comp_apply, end_pln hc, vk]
  have e : ((stsL (plnF f).body).filter isVar).map (stV (plnF f)) = ((stsL f.body).filter isVar).map (stV f) := by
    rw [key2, key]
    show List.map _ (List.map _ ((stsL (plnL f.body)).filter isVar)) = _
    rw [hv]
  rw [e]
  rfl
end Go.Proofs.YtccgpmncpemmdaaDoor
/- rewindlaw10.plain answers the model's statements, in new memory. -/
namespace Go.Proofs.YtccgpmncpemmdaaDoor
open Go Go.RowKit
set_option linter.unusedSimpArgs false
set_option linter.unusedVariables false
set_option linter.unnecessarySimpa false
/-- What plain answers. -/
def PlQ (w : World) (l : List St) (r : Ending) (w' : World) : Prop := (∃ v, r = .returned v ∧ OwnL w' w.heap.size 62 8 StC (List.range w.heap.size) v (plnL l)) ∧ Below w.heap.size w w'
/-- What is carried: block g with the statement's cells. -/
structure Bp (wr : World) (g : Nat) (C : Array Value) (W : World) : Prop where
  b : Below wr.heap.size wr W
  x : W.heap[g]? = some (.cells C 62 (0, 0))
  lt : wr.heap.size ≤ g
section
variable {wr W W' : World} {g : Nat} {C : Array Value}
theorem Bp.glt (h : Bp wr g C W) : g < W.heap.size := (Array.getElem?_eq_some_iff.1 h.x).1
theorem Bp.set (h : Bp wr g C W) (i : Nat) (u : Value) : Bp wr g (C.setIfInBounds i u) (W.setCell ⟨g, i, none⟩ u) := ⟨h.b.setCell (p := ⟨g, i, none⟩) h.lt u, heap_set h.x u, h.lt⟩
theorem Bp.be (h : Bp wr g C W) (hb : Below W.heap.size W W') : Bp wr g C W' := ⟨h.b.tr hb, (hb.block _ h.glt).trans h.x, h.lt⟩
theorem Bp.al (h : Bp wr g C W) (o : Obj) : Bp wr g C (W.alloc o) := h.be ((bl W).al o)
theorem Bp.to {C' : Array Value} (h : Bp wr g C W) (e : C = C') : Bp wr g C' W := by rw [← e]; exact h
theorem Bp.rset (_ : Bp wr g C W) (i : Nat) (u : Value) : Has (nw (g + 1) W) (nw (g + 1) (W.setCell ⟨g, i, none⟩ u)) := has_nw_one ((Kept.refl [g] W).set (.inl (by simp)) i u) (Nat.lt_succ_self g)
end
/-- A statement lies in block g. -/
structure PlR (wr : World) (g : Nat) (s : St) (wx : World) : Prop where
  b : Below wr.heap.size wr wx
  lt : wr.heap.size ≤ g
  x : ∃ (pa pb pe : Option Addr) (ca cb ce : Nat), wx.heap[g]? = some (.cells #[.int .i64 s.kind, .int .i64 s.no, .string ⟨s.name.toArray⟩, .int .i64 s.typ, .string ⟨s.callee.toArray⟩, .slice pa s.args.length ca, .slice pb s.body.length cb, .slice pe s.els.length ce] 62 (0, 0)) ∧
    StWf s.kind s.no s.name s.typ s.callee s.args.length ca s.body.length cb s.els.length ce ∧ Ex.Row (nw (g + 1) wx) s.args pa ∧ St.Row (nw (g + 1) wx) s.body pb ∧ St.Row (nw (g + 1) wx) s.els pe
theorem num0_wf : ExWf num0.kind num0.op num0.num num0.name num0.args.length 0 := ⟨i64_l 1 (by decide), i64_l 0 (by decide), i64_l 0 (by decide), Nat.zero_le _, Nat.le_refl _, Nat.zero_le _⟩
theorem plnL_take {l : List St} {k : Nat} (h : k < l.length) : plnL (l.take (k + 1)) = plnL (l.take k) ++ [l[k].pln] := by
  rw [List.take_succ_eq_append_getElem h, plnL_app]
  rfl
theorem cnt_lt {l : List St} {k n : Nat} (h : k < l.length) (hn : cntL l < n + 1) : cntL l[k].body < n ∧ cntL l[k].els < n := by
  have h1 := cntL_mem (List.getElem_mem h)
  have h2 := St.cnt_eq l[k]
  omega
set_option maxRecDepth 20000 in
set_option maxHeartbeats 8000000 in
theorem plain_step (n : Nat) (hn : n ≤ 1000) (IH : Hid (∀ (l : List St) (a : Option Addr) (cap : Nat) (w : World), cntL l < n → St.Row w l a → l.length ≤ cap → cap ≤ maxLen → Calls Tryd.prog 23 #[.slice a l.length cap] w (PlQ w l)))
    (l : List St) (a : Option Addr) (cap : Nat) (w : World) (hl : cntL l < n + 1) (hr : St.Row w l a) (hc : l.length ≤ cap) (hm : cap ≤ maxLen) : Calls Tryd.prog 23 #[.slice a l.length cap] w (PlQ w l) := by
  obtain ⟨i0, hi, hz0, hz1, hz2⟩ := info_parts info_st
  have hlen := len_cnt l
  have hl1 : l.length ≤ 9223372036854775807 := by omega
  have HR := hide hr
  have HT : Hid (plnL (l.take l.length) = plnL l) := hide (by rw [List.take_length])
  clear hr
  go_enter Tryd.func23, Tryd.ntmps23
  go_wp2_with fail
  go_loopw [3, 4] (fun v i wr => ∃ k : Nat, k ≤ l.length ∧ i = .int .i64 k ∧ Hid (OwnL wr w.heap.size 62 8 StC (List.range w.heap.size) v (plnL (l.take k))) ∧ Hid (Below w.heap.size w wr)) (fun _ i _ => l.length - (intOf i).toNat)
  case atStart => exact ⟨0, Nat.zero_le _, rfl, hide (OwnL.nil _ _ _ _ _ _), hide (bl w)⟩
  case round =>
    obtain ⟨k, hk, rfl, HOWN, HB⟩ := hrel
    obtain ⟨va, vcap, rfl, -, hvm⟩ := HOWN.out.slice
    have HLN : Hid ((plnL (l.take k)).length = k) := hide (by rw [plnL_len]; simp; omega)
    rw [HLN.out]
    by_cases hlt : k < l.length
    · have hlt' : (k : Int) < (l.length : Int) := by omega
      obtain ⟨b, o, rfl⟩ := HR.out.addr (by omega)
      have hat := (St.Row.keep HR.out HB.out (Nat.le_refl _)).get k hlt
      have hcb := cnt_lt hlt hl
      have HPT := hide (plnL_take hlt)
      generalize l[k] = s at *
      obtain ⟨pa, pb, pe, ca, cb, ce, hcell, hwf, ra, rb, re⟩ := hat.val
      obtain ⟨c0, c1, c2, c3, c4, c5, c6, c7⟩ := hcell
      have hbl := cell_lt c0
      simp only at hbl
      have HWF := hide hwf
      have HRB := hide rb
      have HRE := hide re
      obtain ⟨hcb1, hcb2⟩ := hcb
      clear hat ra rb re hwf
      go_upto_region 6 with fail
      have HP := hide (show Bp wr wr.heap.size _ (wr.alloc (.cells #[.int .i64 s.kind, .int .i64 s.no, .string ⟨List.toArray s.name⟩, .int .i64 s.typ, .string ⟨List.toArray s.callee⟩, .slice pa s.args.length ca, .slice pb s.body.length cb, .slice pe s.els.length ce] 62)) from ⟨(bl wr).al _, heap_alloc_new _ _, Nat.le_refl _⟩)
      have HRB1 := hide ((HRB.out.has (has_new (l := []) (by simp))).has (has_one ((bl wr).al (.cells #[.int .i64 s.kind, .int .i64 s.no, .string ⟨List.toArray s.name⟩, .int .i64 s.typ, .string ⟨List.toArray s.callee⟩, .slice pa s.args.length ca, .slice pb s.body.length cb, .slice pe s.els.length ce] 62)) wr.heap.size (Nat.le_refl _)))
      have HRE1 := hide ((HRE.out.has (has_new (l := []) (by simp))).has (has_one ((bl wr).al (.cells #[.int .i64 s.kind, .int .i64 s.no, .string ⟨List.toArray s.name⟩, .int .i64 s.typ, .string ⟨List.toArray s.callee⟩, .slice pa s.args.length ca, .slice pb s.body.length cb, .slice pe s.els.length ce] 62)) wr.heap.size (Nat.le_refl _)))
      obtain ⟨wo, rfl⟩ : ∃ wo, wo = wr := ⟨wr, rfl⟩
      obtain ⟨g, hg⟩ : ∃ g, g = wo.heap.size := ⟨_, rfl⟩
      rw [← hg] at HP HRB1 HRE1 ⊢
      have hgw : wo.heap.size ≤ g := by omega
      clear c0 c1 c2 c3 c4 c5 c6 c7 hg HRB HRE hbl
      generalize wo.alloc (.cells #[.int .i64 s.kind, .int .i64 s.no, .string ⟨List.toArray s.name⟩, .int .i64 s.typ, .string ⟨List.toArray s.callee⟩, .slice pa s.args.length ca, .slice pb s.body.length cb, .slice pe s.els.length ce] 62) = w1 at *
      go_wp2_with fail
      refine (num_any _ _).mono ?_
      unfold eLf
      rintro r w2 ⟨rfl, hb2⟩
      have HP2 := hide (HP.out.be hb2)
      have HRB2 := hide (HRB1.out.has (has_av_below hb2))
      have HRE2 := hide (HRE1.out.has (has_av_below hb2))
      have x5 := cell_at (j := 5) HP2.out.x rfl
      have f5 := free_at (j := 5) HP2.out.x
      have hgl := HP2.out.glt
      clear hb2 HP HRB1 HRE1
      go_upto_region 7 with fail
      have hs2 := HP2.out.set 5 (.slice (some ⟨w2.heap.size, 0, none⟩) 1 1)
      have HP3 := hide (hs2.al (.cells #[.int .i64 1, .int .i64 0, .int .i64 0, .string ⟨#[]⟩, .slice none 0 0] 91))
      have HRA3 : Hid (Ex.Row (nw (g + 1) ((w2.setCell ⟨g, 5, none⟩ (.slice (some ⟨w2.heap.size, 0, none⟩) 1 1)).alloc (.cells #[.int .i64 1, .int .i64 0, .int .i64 0, .string ⟨#[]⟩, .slice none 0 0] 91))) [num0] (some ⟨w2.heap.size, 0, none⟩)) := hide (Ex.rowA (e := num0) (a := none) (cap := 0) (w0 := w2.setCell ⟨g, 5, none⟩ (.slice (some ⟨w2.heap.size, 0, none⟩) 1 1)) 91 num0_wf trivial (bl _) (by simp) hs2.glt)
      have hk5 := ((Kept.refl [g] w2).set (g := g) (.inl (by simp)) 5 (.slice (some ⟨w2.heap.size, 0, none⟩) 1 1)).al (.cells #[.int .i64 1, .int .i64 0, .int .i64 0, .string ⟨#[]⟩, .slice none 0 0] 91)
      have HRB3 := hide (HRB2.out.has (has_kept hk5))
      have HRE3 := hide (HRE2.out.has (has_kept hk5))
      clear HP2 HRB2 HRE2 hs2 hk5 x5 f5 hgl
      generalize (w2.setCell ⟨g, 5, none⟩ (.slice (some ⟨w2.heap.size, 0, none⟩) 1 1)).alloc (.cells #[.int .i64 1, .int .i64 0, .int .i64 0, .string ⟨#[]⟩, .slice none 0 0] 91) = w3 at *
      generalize w2.heap.size = na at *
      simp only [List.setIfInBounds_toArray, List.set_cons_succ, List.set_cons_zero] at HP3
      go_cut [0] (fun z wx => z = .slice (some ⟨b, o, none⟩) l.length cap ∧ Hid (PlR wo g (.mk s.kind s.no s.name s.typ s.callee [num0] (plnL s.body) (plnL s.els)) wx))
      case first =>
        refine wp_noexit ?_
        have HPD := hide (HP3.out.be (bl w3).dr)
        have HRAD := hide (HRA3.out.has (has_nw_below (bl w3).dr))
        have HRBD := hide (HRB3.out.has (has_av_below (bl w3).dr))
        have HRED := hide (HRE3.out.has (has_av_below (bl w3).dr))
        have x6 := cell_at (j := 6) HP3.out.x rfl
        have x7 := cell_at (j := 7) HP3.out.x rfl
        have hgl := HP3.out.glt
        clear HP3 HRA3 HRB3 HRE3
        refine wp_region_held_drew (S := fun _ => True) (by kernel_rfl) trivial (fun hHeld => ?_)
        refine wpAnyH_take (i := 0) (v := ?_) (by simp only [List.getElem?_toArray, List.getElem?_cons_succ, List.getElem?_cons_zero]; rfl) (by kernel_rfl) (by kernel_rfl) (by kernel_rfl) (by exact fun _ _ _ h => h) (Or.inl ⟨by rfl, ?_⟩) (by assumption) ?_
        rotate_left 1
        · ((intro w hSw; (try dsimp only at hSw); go_simp) <;> with_reducible rfl)
        try simp only [Act.put, List.setIfInBounds_toArray, List.set_cons_zero, List.set_cons_succ]
        refine wpAnyH_take (i := 3) (v := ?_) (by simp only [List.getElem?_toArray, List.getElem?_cons_succ, List.getElem?_cons_zero]; rfl) (by kernel_rfl) (by kernel_rfl) (by kernel_rfl) (by exact fun _ _ _ h => h) (Or.inl ⟨by rfl, ?_⟩) (by assumption) ?_
        rotate_left 1
        · ((intro w hSw; (try dsimp only at hSw); go_simp) <;> with_reducible rfl)
        try simp only [Act.put, List.setIfInBounds_toArray, List.set_cons_zero, List.set_cons_succ]
        refine wpAnyH_ready (rs := [1, 4]) (by kernel_rfl) (by simp) ?_
        refine AllReadyH.cons rfl (fun K hK => ?_) (AllReadyH.cons rfl (fun K hK => ?_) AllReadyH.nil)
        all_goals go_simp
        · refine hK.out _ _ trivial (fun hHeld => ?_)
          clear hK K
          try simp only [Act.put, List.setIfInBounds_toArray, List.set_cons_zero, List.set_cons_succ]
          refine wpAnyH_ready (rs := [2, 4]) (by kernel_rfl) (by simp) ?_
          refine AllReadyH.cons rfl (fun K hK => ?_) (AllReadyH.cons rfl (fun K hK => ?_) AllReadyH.nil)
          all_goals go_simp
          · (with_reducible refine (IH.out s.body pb cb _ hcb1 (HRBD.out.has has_av) HWF.out.lb HWF.out.cb).mono ?_)
            rintro r w4 ⟨⟨v1, rfl, hown1⟩, hb4⟩
            obtain ⟨p1, cap1, rfl, hrow1, hle1, hcm1⟩ := hown1.sts below_range
            have HROW1 := hide (hrow1.has (has_nws (Nat.succ_le_of_lt HPD.out.glt)))
            have HC1 : Hid ((plnL s.body).length ≤ cap1 ∧ cap1 ≤ maxLen) := hide ⟨hle1, hcm1⟩
            have HP4 := hide (HPD.out.be hb4)
            have HRA4 := hide (HRAD.out.has (has_nw_below hb4))
            have HRE4 := hide (HRED.out.has (has_av_below hb4))
            have y7 := cell_at (j := 7) HP4.out.x rfl
            have hg4 := HP4.out.glt
            clear hown1 hrow1 hle1 hcm1 hb4
            refine hK.out _ _ trivial (fun hHeld => ?_)
            clear hK K
            try simp only [Act.put, List.setIfInBounds_toArray, List.set_cons_zero, List.set_cons_succ]
            refine wpAnyH_ready (rs := [4]) (by kernel_rfl) (by simp) ?_
            refine AllReadyH.cons rfl (fun K hK => ?_) AllReadyH.nil
            go_simp
            refine hK.out _ _ trivial (fun hHeld => ?_)
            clear hK K
            try simp only [Act.put, List.setIfInBounds_toArray, List.set_cons_zero, List.set_cons_succ]
            refine wpAnyH_take (i := 6) (v := ?_) (by simp only [List.getElem?_toArray, List.getElem?_cons_succ, List.getElem?_cons_zero]; rfl) (by kernel_rfl) (by kernel_rfl) (by kernel_rfl) (by exact fun _ _ _ h => h) (Or.inl ⟨by rfl, ?_⟩) (by assumption) ?_
            rotate_left 1
            · ((intro w hSw; (try dsimp only at hSw); go_simp) <;> with_reducible rfl)
            try simp only [Act.put, List.setIfInBounds_toArray, List.set_cons_zero, List.set_cons_succ]
            refine wpAnyH_ready (rs := [5]) (by kernel_rfl) (by simp) ?_
            refine AllReadyH.cons rfl (fun K hK => ?_) AllReadyH.nil
            go_simp
            (with_reducible refine (IH.out s.els pe ce _ hcb2 (HRE4.out.has has_av) HWF.out.le HWF.out.ce).mono ?_)
            rintro r w5 ⟨⟨v2, rfl, hown2⟩, hb5⟩
            obtain ⟨p2, cap2, rfl, hrow2, hle2, hcm2⟩ := hown2.sts below_range
            have HROW2 := hide (hrow2.has (has_nws (Nat.succ_le_of_lt HP4.out.glt)))
            have HC2 : Hid ((plnL s.els).length ≤ cap2 ∧ cap2 ≤ maxLen) := hide ⟨hle2, hcm2⟩
            have HP5 := hide (HP4.out.be hb5)
            have HRA5 := hide (HRA4.out.has (has_nw_below hb5))
            have HROW15 := hide (HROW1.out.has (has_nw_below hb5))
            have z6 := cell_at (j := 6) HP5.out.x rfl
            have z7 := cell_at (j := 7) HP5.out.x rfl
            have f6 := free_at (j := 6) HP5.out.x
            have f7 := free_at (j := 7) HP5.out.x
            have hg5 := HP5.out.glt
            clear hown2 hrow2 hle2 hcm2 hb5 y7
            refine hK.out _ _ trivial (fun hHeld => ?_)
            clear hK K
            try simp only [Act.put, List.setIfInBounds_toArray, List.set_cons_zero, List.set_cons_succ]
            refine wpAnyH_ready (rs := [7]) (by kernel_rfl) (by simp) ?_
            refine AllReadyH.cons rfl (fun K hK => ?_) AllReadyH.nil
            go_simp
            refine hK.out _ _ trivial (fun hHeld => ?_)
            clear hK K
            try simp only [Act.put, List.setIfInBounds_toArray, List.set_cons_zero, List.set_cons_succ]
            refine wpAnyH_take (i := 8) (v := ?_) (by simp only [List.getElem?_toArray, List.getElem?_cons_succ, List.getElem?_cons_zero]; rfl) (by kernel_rfl) (by kernel_rfl) (by kernel_rfl) (by exact fun _ _ _ h => h) (Or.inl ⟨by rfl, ?_⟩) (by assumption) ?_
            rotate_left 1
            · ((intro w hSw; (try dsimp only at hSw); go_simp) <;> with_reducible rfl)
            try simp only [Act.put, List.setIfInBounds_toArray, List.set_cons_zero, List.set_cons_succ]
            refine wpAnyH_ready (rs := [9]) (by kernel_rfl) (by simp) ?_
            refine AllReadyH.cons rfl (fun K hK => ?_) AllReadyH.nil
            go_simp
            refine hK.out _ _ trivial (fun hHeld => ?_)
            clear hK K
            try simp only [Act.put, List.setIfInBounds_toArray, List.set_cons_zero, List.set_cons_succ]
            refine wpAnyH_done (by kernel_rfl) ?_ _
            go_wp2_with fail
            go_meet
            refine ⟨rfl, hide ?_⟩
            have h7 := (HP5.out.set 6 (.slice p1 (plnL s.body).length cap1)).set 7 (.slice p2 (plnL s.els).length cap2)
            have hk7 := ((Kept.refl [g] w5).set (g := g) (.inl (by simp)) 6 (.slice p1 (plnL s.body).length cap1)).set (g := g) (.inl (by simp)) 7 (.slice p2 (plnL s.els).length cap2)
            have hh := has_nw_one hk7 (Nat.lt_succ_self g)
            exact ⟨h7.b, h7.lt, some ⟨na, 0, none⟩, p1, p2, 1, cap1, cap2, (h7.to (by simp [St.kind, St.no, St.name, St.typ, St.callee, St.args, St.body, St.els])).x, ⟨HWF.out.k, HWF.out.n, HWF.out.s, HWF.out.t, HWF.out.c, Nat.le_refl _, one_le, HC1.out.1, HC1.out.2, HC2.out.1, HC2.out.2⟩, HRA5.out.has hh, HROW15.out.has hh, HROW2.out.has hh⟩
          · refine hK.out _ _ trivial (fun hHeld => ?_)
            clear hK K
            try simp only [Act.put, List.setIfInBounds_toArray, List.set_cons_zero, List.set_cons_succ]
            refine wpAnyH_ready (rs := [2]) (by kernel_rfl) (by simp) ?_
            refine AllReadyH.cons rfl (fun K hK => ?_) AllReadyH.nil
            go_simp
            (with_reducible refine (IH.out s.body pb cb _ hcb1 (HRBD.out.has has_av) HWF.out.lb HWF.out.cb).mono ?_)
            rintro r w4 ⟨⟨v1, rfl, hown1⟩, hb4⟩
            obtain ⟨p1, cap1, rfl, hrow1, hle1, hcm1⟩ := hown1.sts below_range
            have HROW1 := hide (hrow1.has (has_nws (Nat.succ_le_of_lt HPD.out.glt)))
            have HC1 : Hid ((plnL s.body).length ≤ cap1 ∧ cap1 ≤ maxLen) := hide ⟨hle1, hcm1⟩
            have HP4 := hide (HPD.out.be hb4)
            have HRA4 := hide (HRAD.out.has (has_nw_below hb4))
            have HRE4 := hide (HRED.out.has (has_av_below hb4))
            have y7 := cell_at (j := 7) HP4.out.x rfl
            have hg4 := HP4.out.glt
            clear hown1 hrow1 hle1 hcm1 hb4
            refine hK.out _ _ trivial (fun hHeld => ?_)
            clear hK K
            try simp only [Act.put, List.setIfInBounds_toArray, List.set_cons_zero, List.set_cons_succ]
            refine wpAnyH_take (i := 6) (v := ?_) (by simp only [List.getElem?_toArray, List.getElem?_cons_succ, List.getElem?_cons_zero]; rfl) (by kernel_rfl) (by kernel_rfl) (by kernel_rfl) (by exact fun _ _ _ h => h) (Or.inl ⟨by rfl, ?_⟩) (by assumption) ?_
            rotate_left 1
            · ((intro w hSw; (try dsimp only at hSw); go_simp) <;> with_reducible rfl)
            try simp only [Act.put, List.setIfInBounds_toArray, List.set_cons_zero, List.set_cons_succ]
            refine wpAnyH_ready (rs := [5]) (by kernel_rfl) (by simp) ?_
            refine AllReadyH.cons rfl (fun K hK => ?_) AllReadyH.nil
            go_simp
            (with_reducible refine (IH.out s.els pe ce _ hcb2 (HRE4.out.has has_av) HWF.out.le HWF.out.ce).mono ?_)
            rintro r w5 ⟨⟨v2, rfl, hown2⟩, hb5⟩
            obtain ⟨p2, cap2, rfl, hrow2, hle2, hcm2⟩ := hown2.sts below_range
            have HROW2 := hide (hrow2.has (has_nws (Nat.succ_le_of_lt HP4.out.glt)))
            have HC2 : Hid ((plnL s.els).length ≤ cap2 ∧ cap2 ≤ maxLen) := hide ⟨hle2, hcm2⟩
            have HP5 := hide (HP4.out.be hb5)
            have HRA5 := hide (HRA4.out.has (has_nw_below hb5))
            have HROW15 := hide (HROW1.out.has (has_nw_below hb5))
            have z6 := cell_at (j := 6) HP5.out.x rfl
            have z7 := cell_at (j := 7) HP5.out.x rfl
            have f6 := free_at (j := 6) HP5.out.x
            have f7 := free_at (j := 7) HP5.out.x
            have hg5 := HP5.out.glt
            clear hown2 hrow2 hle2 hcm2 hb5 y7
            refine hK.out _ _ trivial (fun hHeld => ?_)
            clear hK K
            try simp only [Act.put, List.setIfInBounds_toArray, List.set_cons_zero, List.set_cons_succ]
            refine wpAnyH_ready (rs := [7]) (by kernel_rfl) (by simp) ?_
            refine AllReadyH.cons rfl (fun K hK => ?_) AllReadyH.nil
            go_simp
            refine hK.out _ _ trivial (fun hHeld => ?_)
            clear hK K
            try simp only [Act.put, List.setIfInBounds_toArray, List.set_cons_zero, List.set_cons_succ]
            refine wpAnyH_take (i := 8) (v := ?_) (by simp only [List.getElem?_toArray, List.getElem?_cons_succ, List.getElem?_cons_zero]; rfl) (by kernel_rfl) (by kernel_rfl) (by kernel_rfl) (by exact fun _ _ _ h => h) (Or.inl ⟨by rfl, ?_⟩) (by assumption) ?_
            rotate_left 1
            · ((intro w hSw; (try dsimp only at hSw); go_simp) <;> with_reducible rfl)
            try simp only [Act.put, List.setIfInBounds_toArray, List.set_cons_zero, List.set_cons_succ]
            refine wpAnyH_ready (rs := [9]) (by kernel_rfl) (by simp) ?_
            refine AllReadyH.cons rfl (fun K hK => ?_) AllReadyH.nil
            go_simp
            refine hK.out _ _ trivial (fun hHeld => ?_)
            clear hK K
            try simp only [Act.put, List.setIfInBounds_toArray, List.set_cons_zero, List.set_cons_succ]
            refine wpAnyH_done (by kernel_rfl) ?_ _
            go_wp2_with fail
            go_meet
            refine ⟨rfl, hide ?_⟩
            have h7 := (HP5.out.set 6 (.slice p1 (plnL s.body).length cap1)).set 7 (.slice p2 (plnL s.els).length cap2)
            have hk7 := ((Kept.refl [g] w5).set (g := g) (.inl (by simp)) 6 (.slice p1 (plnL s.body).length cap1)).set (g := g) (.inl (by simp)) 7 (.slice p2 (plnL s.els).length cap2)
            have hh := has_nw_one hk7 (Nat.lt_succ_self g)
            exact ⟨h7.b, h7.lt, some ⟨na, 0, none⟩, p1, p2, 1, cap1, cap2, (h7.to (by simp [St.kind, St.no, St.name, St.typ, St.callee, St.args, St.body, St.els])).x, ⟨HWF.out.k, HWF.out.n, HWF.out.s, HWF.out.t, HWF.out.c, Nat.le_refl _, one_le, HC1.out.1, HC1.out.2, HC2.out.1, HC2.out.2⟩, HRA5.out.has hh, HROW15.out.has hh, HROW2.out.has hh⟩
        · refine hK.out _ _ trivial (fun hHeld => ?_)
          clear hK K
          try simp only [Act.put, List.setIfInBounds_toArray, List.set_cons_zero, List.set_cons_succ]
          refine wpAnyH_ready (rs := [1]) (by kernel_rfl) (by simp) ?_
          refine AllReadyH.cons rfl (fun K hK => ?_) AllReadyH.nil
          go_simp
          refine hK.out _ _ trivial (fun hHeld => ?_)
          clear hK K
          try simp only [Act.put, List.setIfInBounds_toArray, List.set_cons_zero, List.set_cons_succ]
          refine wpAnyH_ready (rs := [2]) (by kernel_rfl) (by simp) ?_
          refine AllReadyH.cons rfl (fun K hK => ?_) AllReadyH.nil
          go_simp
          (with_reducible refine (IH.out s.body pb cb _ hcb1 (HRBD.out.has has_av) HWF.out.lb HWF.out.cb).mono ?_)
          rintro r w4 ⟨⟨v1, rfl, hown1⟩, hb4⟩
          obtain ⟨p1, cap1, rfl, hrow1, hle1, hcm1⟩ := hown1.sts below_range
          have HROW1 := hide (hrow1.has (has_nws (Nat.succ_le_of_lt HPD.out.glt)))
          have HC1 : Hid ((plnL s.body).length ≤ cap1 ∧ cap1 ≤ maxLen) := hide ⟨hle1, hcm1⟩
          have HP4 := hide (HPD.out.be hb4)
          have HRA4 := hide (HRAD.out.has (has_nw_below hb4))
          have HRE4 := hide (HRED.out.has (has_av_below hb4))
          have y7 := cell_at (j := 7) HP4.out.x rfl
          have hg4 := HP4.out.glt
          clear hown1 hrow1 hle1 hcm1 hb4
          refine hK.out _ _ trivial (fun hHeld => ?_)
          clear hK K
          try simp only [Act.put, List.setIfInBounds_toArray, List.set_cons_zero, List.set_cons_succ]
          refine wpAnyH_take (i := 6) (v := ?_) (by simp only [List.getElem?_toArray, List.getElem?_cons_succ, List.getElem?_cons_zero]; rfl) (by kernel_rfl) (by kernel_rfl) (by kernel_rfl) (by exact fun _ _ _ h => h) (Or.inl ⟨by rfl, ?_⟩) (by assumption) ?_
          rotate_left 1
          · ((intro w hSw; (try dsimp only at hSw); go_simp) <;> with_reducible rfl)
          try simp only [Act.put, List.setIfInBounds_toArray, List.set_cons_zero, List.set_cons_succ]
          refine wpAnyH_ready (rs := [5]) (by kernel_rfl) (by simp) ?_
          refine AllReadyH.cons rfl (fun K hK => ?_) AllReadyH.nil
          go_simp
          (with_reducible refine (IH.out s.els pe ce _ hcb2 (HRE4.out.has has_av) HWF.out.le HWF.out.ce).mono ?_)
          rintro r w5 ⟨⟨v2, rfl, hown2⟩, hb5⟩
          obtain ⟨p2, cap2, rfl, hrow2, hle2, hcm2⟩ := hown2.sts below_range
          have HROW2 := hide (hrow2.has (has_nws (Nat.succ_le_of_lt HP4.out.glt)))
          have HC2 : Hid ((plnL s.els).length ≤ cap2 ∧ cap2 ≤ maxLen) := hide ⟨hle2, hcm2⟩
          have HP5 := hide (HP4.out.be hb5)
          have HRA5 := hide (HRA4.out.has (has_nw_below hb5))
          have HROW15 := hide (HROW1.out.has (has_nw_below hb5))
          have z6 := cell_at (j := 6) HP5.out.x rfl
          have z7 := cell_at (j := 7) HP5.out.x rfl
          have f6 := free_at (j := 6) HP5.out.x
          have f7 := free_at (j := 7) HP5.out.x
          have hg5 := HP5.out.glt
          clear hown2 hrow2 hle2 hcm2 hb5 y7
          refine hK.out _ _ trivial (fun hHeld => ?_)
          clear hK K
          try simp only [Act.put, List.setIfInBounds_toArray, List.set_cons_zero, List.set_cons_succ]
          refine wpAnyH_ready (rs := [7]) (by kernel_rfl) (by simp) ?_
          refine AllReadyH.cons rfl (fun K hK => ?_) AllReadyH.nil
          go_simp
          refine hK.out _ _ trivial (fun hHeld => ?_)
          clear hK K
          try simp only [Act.put, List.setIfInBounds_toArray, List.set_cons_zero, List.set_cons_succ]
          refine wpAnyH_take (i := 8) (v := ?_) (by simp only [List.getElem?_toArray, List.getElem?_cons_succ, List.getElem?_cons_zero]; rfl) (by kernel_rfl) (by kernel_rfl) (by kernel_rfl) (by exact fun _ _ _ h => h) (Or.inl ⟨by rfl, ?_⟩) (by assumption) ?_
          rotate_left 1
          · ((intro w hSw; (try dsimp only at hSw); go_simp) <;> with_reducible rfl)
          try simp only [Act.put, List.setIfInBounds_toArray, List.set_cons_zero, List.set_cons_succ]
          refine wpAnyH_ready (rs := [9]) (by kernel_rfl) (by simp) ?_
          refine AllReadyH.cons rfl (fun K hK => ?_) AllReadyH.nil
          go_simp
          refine hK.out _ _ trivial (fun hHeld => ?_)
          clear hK K
          try simp only [Act.put, List.setIfInBounds_toArray, List.set_cons_zero, List.set_cons_succ]
          refine wpAnyH_done (by kernel_rfl) ?_ _
          go_wp2_with fail
          go_meet
          refine ⟨rfl, hide ?_⟩
          have h7 := (HP5.out.set 6 (.slice p1 (plnL s.body).length cap1)).set 7 (.slice p2 (plnL s.els).length cap2)
          have hk7 := ((Kept.refl [g] w5).set (g := g) (.inl (by simp)) 6 (.slice p1 (plnL s.body).length cap1)).set (g := g) (.inl (by simp)) 7 (.slice p2 (plnL s.els).length cap2)
          have hh := has_nw_one hk7 (Nat.lt_succ_self g)
          exact ⟨h7.b, h7.lt, some ⟨na, 0, none⟩, p1, p2, 1, cap1, cap2, (h7.to (by simp [St.kind, St.no, St.name, St.typ, St.callee, St.args, St.body, St.els])).x, ⟨HWF.out.k, HWF.out.n, HWF.out.s, HWF.out.t, HWF.out.c, Nat.le_refl _, one_le, HC1.out.1, HC1.out.2, HC2.out.1, HC2.out.2⟩, HRA5.out.has hh, HROW15.out.has hh, HROW2.out.has hh⟩
      case rest =>
        obtain ⟨rfl, HPR⟩ := hcut
        obtain ⟨BB, hBB⟩ : ∃ BB, BB = !(decide (s.kind = 1) || decide (s.kind = 9) || decide (s.kind = 10)) := ⟨_, rfl⟩
        have HBB := hide hBB
        clear hBB HP3 HRA3 HRB3 HRE3
        obtain ⟨hb9, hg9, pa9, pb9, pe9, ca9, cb9, ce9, hx9, hwf9, ra9, rb9, re9⟩ := HPR.out
        have hx9 : wc.heap[g]? = some (.cells #[.int .i64 s.kind, .int .i64 s.no, .string ⟨List.toArray s.name⟩, .int .i64 s.typ, .string ⟨List.toArray s.callee⟩, .slice pa9 1 ca9, .slice pb9 (plnL s.body).length cb9, .slice pe9 (plnL s.els).length ce9] 62 (0, 0)) := hx9
        have x0 := cell_at (j := 0) hx9 rfl
        have hgl := (Array.getElem?_eq_some_iff.1 hx9).1
        have HX9 := hide hx9
        clear hb9 hg9 hwf9 ra9 rb9 re9 hx9
        go_upto_region 8 with fail
        go_cut [39] (fun c wx => c = .bool BB ∧ wc = wx)
        case first =>
          have hkk : s.kind = 1 ∨ s.kind = 9 ∨ s.kind = 10 ∨ (¬ s.kind = 1 ∧ ¬ s.kind = 9 ∧ ¬ s.kind = 10) := by omega
          clear HPR HX9
          generalize s.kind = K at *
          rcases hkk with rfl | rfl | rfl | ⟨hk1, hk9, hk10⟩
          · have HBB2 : Hid (BB = false) := hide (by rw [HBB.out]; rfl)
            go_wp2_with fail
            go_meet
            exact ⟨by rw [HBB2.out], rfl⟩
          · have HBB2 : Hid (BB = false) := hide (by rw [HBB.out]; rfl)
            go_wp2_with fail
            go_meet
            exact ⟨by rw [HBB2.out], rfl⟩
          · have HBB2 : Hid (BB = false) := hide (by rw [HBB.out]; rfl)
            go_wp2_with fail
            go_meet
            exact ⟨by rw [HBB2.out], rfl⟩
          · have HBB2 : Hid (BB = true) := hide (by rw [HBB.out]; simp [hk1, hk9, hk10])
            have e1 : (K == 1) = false := by simpa using hk1
            have e9 : (K == 9) = false := by simpa using hk9
            have e10 : (K == 10) = false := by simpa using hk10
            have d1 : (K != 1) = true := by simpa using hk1
            have d9 : (K != 9) = true := by simpa using hk9
            have d10 : (K != 10) = true := by simpa using hk10
            go_wp2_with fail
            go_meet
            exact ⟨by rw [HBB2.out], rfl⟩
        case rest =>
          obtain ⟨rfl, rfl⟩ := hcut
          go_upto_if 39 with fail
          go_cut [0] (fun z wx => z = .slice (some ⟨b, o, none⟩) l.length cap ∧ Hid (PlR wo g s.pln wx))
          case first =>
            refine wp_noexit ?_
            cases BB
            · have hk : s.kind = 1 ∨ s.kind = 9 ∨ s.kind = 10 := by
                have := HBB.out
                simp at this
                by_cases h1 : s.kind = 1
                · exact .inl h1
                by_cases h9 : s.kind = 9
                · exact .inr (.inl h9)
                · exact .inr (.inr (this h1 h9))
              have HE : Hid (s.pln = .mk s.kind s.no s.name s.typ s.callee [num0] (plnL s.body) (plnL s.els)) := hide (by rw [St.pln_eq, if_pos hk])
              clear hk
              go_wp2_with fail
              go_meet
              refine ⟨rfl, ?_⟩
              rw [HE.out]
              exact HPR
            · have hk : ¬ (s.kind = 1 ∨ s.kind = 9 ∨ s.kind = 10) := by
                have := HBB.out
                simp at this
                omega
              have HE : Hid (s.pln = .mk 6 s.no [] 0 [] [num0] [] []) := hide (by rw [St.pln_eq, if_neg hk])
              have HNO : Hid (I64 s.no) := hide HWF.out.n
              clear hk HBB
              have x1 := cell_at (j := 1) HX9.out rfl
              go_wp2_with fail
              refine (stmt_any _ _ _ _ _).mono ?_
              rintro r w6 ⟨rfl, hb6⟩
              go_wp2_with fail
              refine (num_any _ _).mono ?_
              rintro r w7 ⟨rfl, hb7⟩
              have HP7 : Hid (Bp wo g _ w7) := hide (((⟨HPR.out.b, HX9.out, HPR.out.lt⟩ : Bp wo g _ _).be hb6).be hb7)
              have hg7 := HP7.out.glt
              have he7 : Ex.Val (av (List.range (g + 1)) w7) num0 (eLf 1 0 ⟨#[]⟩) := ⟨none, 0, rfl, num0_wf, trivial⟩
              unfold eLf at he7 ⊢
              have HE7 := hide he7
              clear he7 hb6 hb7 x0 x1 hgl
              go_wp2_with fail
              refine (with_any (List.range (g + 1)) 6 s.no 0 ⟨#[]⟩ num0 1 0 0 ⟨#[]⟩ none 0 0 w7 (fun x hx => by have := List.mem_range.1 hx; omega) HE7.out).mono ?_
              rintro r w8 ⟨⟨nn, rfl, hr8⟩, hb8⟩
              have HP8 := hide (HP7.out.be hb8)
              have HR8 := hide hr8
              have z0 := cell_at (j := 0) HP8.out.x rfl
              have z1 := cell_at (j := 1) HP8.out.x rfl
              have z2 := cell_at (j := 2) HP8.out.x rfl
              have z3 := cell_at (j := 3) HP8.out.x rfl
              have z4 := cell_at (j := 4) HP8.out.x rfl
              have z5 := cell_at (j := 5) HP8.out.x rfl
              have z6 := cell_at (j := 6) HP8.out.x rfl
              have z7 := cell_at (j := 7) HP8.out.x rfl
              have fz := fun j => free_at (j := j) HP8.out.x
              have hgl := HP8.out.glt
              clear hr8 hb8 HP7
              go_wp2_with fail
              go_meet
              refine ⟨rfl, ?_⟩
              rw [HE.out]
              have h8 := (((((((HP8.out.set 0 (.int .i64 6)).set 1 (.int .i64 s.no)).set 2 (.string ⟨#[]⟩)).set 3 (.int .i64 0)).set 4 (.string ⟨#[]⟩)).set 5 (.slice (some ⟨nn, 0, none⟩) 1 1)).set 6 (.slice none 0 0)).set 7 (.slice none 0 0)
              have hk8 := ((((((((Kept.refl [g] w8).set (g := g) (.inl (by simp)) 0 (.int .i64 6)).set (g := g) (.inl (by simp)) 1 (.int .i64 s.no)).set (g := g) (.inl (by simp)) 2 (.string ⟨#[]⟩)).set (g := g) (.inl (by simp)) 3 (.int .i64 0)).set (g := g) (.inl (by simp)) 4 (.string ⟨#[]⟩)).set (g := g) (.inl (by simp)) 5 (.slice (some ⟨nn, 0, none⟩) 1 1)).set (g := g) (.inl (by simp)) 6 (.slice none 0 0)).set (g := g) (.inl (by simp)) 7 (.slice none 0 0)
              exact hide ⟨h8.b, h8.lt, some ⟨nn, 0, none⟩, none, none, 1, 0, 0, (h8.to (by simp [St.kind, St.no, St.name, St.typ, St.callee, St.args, St.body, St.els])).x, ⟨i64_l 6 (by decide), HNO.out, Nat.zero_le _, i64_l 0 (by decide), Nat.zero_le _, Nat.le_refl _, one_le, Nat.le_refl _, Nat.zero_le _, Nat.le_refl _, Nat.zero_le _⟩, HR8.out.has (has_nw_one hk8 (Nat.lt_succ_self g)), trivial, trivial⟩
          case rest =>
            obtain ⟨rfl, HPR⟩ := hcut
            obtain ⟨hb9, hg9, pa, pb, pe, ca, cb, ce, hx, hwf, ra, rb, re⟩ := HPR.out
            generalize s.pln = s' at *
            have x0 := cell_at (j := 0) hx rfl
            have x1 := cell_at (j := 1) hx rfl
            have x2 := cell_at (j := 2) hx rfl
            have x3 := cell_at (j := 3) hx rfl
            have x4 := cell_at (j := 4) hx rfl
            have x5 := cell_at (j := 5) hx rfl
            have x6 := cell_at (j := 6) hx rfl
            have x7 := cell_at (j := 7) hx rfl
            have hgl := (Array.getElem?_eq_some_iff.1 hx).1
            have HOWN2 := hide (HOWN.out.below StC.mono hb9)
            have hav := own_avoid HOWN.out (Nat.le_refl _) (fun g hg => by have := List.mem_range.1 hg; have := HB.out.size; omega)
            have hav2 : ∀ x ∈ (Value.slice va (plnL (l.take k)).length vcap).ownBlock.toList ++ List.range w.heap.size, x < g + 1 := fun x hx => by have := hav x hx; omega
            have HV := hide (fun o => (⟨pa, pb, pe, ca, cb, ce, rfl, hwf, ra.has ((has_nw_av hav2).tr (has_av_below ((bl wc).al o))), rb.has ((has_nw_av hav2).tr (has_av_below ((bl wc).al o))), re.has ((has_nw_av hav2).tr (has_av_below ((bl wc).al o)))⟩ : StC (av _ (wc.alloc o)) _ _))
            have hwc0 : w.heap.size ≤ wc.heap.size := Nat.le_trans HB.out.size hb9.size
            have HB9 := hide (HB.out.tr hb9)
            have hkb : k ≤ 1000 := by omega
            clear hwf ra rb re hav hav2 HPR hx hb9
            go_wp2_with (at_builtin; refine wpList_push _ rfl _ _ 40 rfl w.heap.size 62 i0 _ 8 128 Tryd.underlying40 hi hz0 hz1 hz2 rfl (by decide) StC StC.mono (List.range w.heap.size) (.slice va (plnL (l.take k)).length vcap) (plnL (l.take k)) (by rw [HLN.out]; rfl) (HOWN2.out.al StC.mono _) ⟨wc.heap.size, 0, none⟩ 1 _ s' rfl rfl (news_row _ _ _ _ rfl) (by simp [Value.oneCell']) (HV.out _) (by rw [HLN.out]; unfold maxLen; omega) (by rw [HLN.out]; omega) (by simp; omega) ?_; intro v' w4 hown3 hgrow)
            have hbk := fun k hk => (HOWN.out.lt k hk).1
            go_roundw
            case rel =>
              refine ⟨k + 1, by omega, by go_num, hide ?_, hide ((HB9.out.al _).grown hgrow (by simp; omega) hbk)⟩
              rw [HPT.out]
              exact hown3
            case measure => simp [intOf]; omega
    · obtain rfl : k = l.length := by omega
      go_wp2_with fail
      go_ret
      refine ⟨⟨_, rfl, ?_⟩, HB.out⟩
      have := HOWN.out
      rw [HLN.out, HT.out] at this
      exact this
theorem plain_any : ∀ (n : Nat), n ≤ 1000 → ∀ (l : List St) (a : Option Addr) (cap : Nat) (w : World), cntL l < n → St.Row w l a → l.length ≤ cap → cap ≤ maxLen → Calls Tryd.prog 23 #[.slice a l.length cap] w (PlQ w l)
  | 0, _, _, _, _, _, h, _, _, _ => absurd h (Nat.not_lt_zero _)
  | n + 1, hn, l, a, cap, w, h1, h2, h3, h4 => plain_step n (by omega) (hide (plain_any n (by omega))) l a cap w h1 h2 h3 h4
end Go.Proofs.YtccgpmncpemmdaaDoor
/- NamesBodies returns true for every draft. -/
namespace Go.Proofs.YtccgpmncpemmdaaDoor
open Go Go.RowKit
set_option linter.unusedSimpArgs false
set_option linter.unusedVariables false
set_option linter.unnecessarySimpa false
set_option maxRecDepth 20000 in
set_option maxHeartbeats 8000000 in
theorem NamesBodies_any (P C : List Nat) (v : Value) (w : World) (hv : DrN w P C v) (hT : Tab w) : Calls Tryd.prog 6 #[v] w fun r w' => r = .returned (.bool true) ∧ Below w.heap.size w w' := by
  have HWK := hide fun (W : World) (hW : Below w.heap.size w W) => works10_any W (hT.below hW)
  have HTB := hide fun (W : World) (hW : Below w.heap.size w W) => hT.below hW
  have HM := hide fun (W : World) (hW : Below w.heap.size w W) => made10_any P C v W (hv.has (has_below hW))
  have hgood := mkN_good P C
  have hck := mkN_check P C
  obtain ⟨pa, pc, ca, cc, rfl, -, -⟩ := hv
  have HCNT : Hid (cntL (mkN P C).body < 1000) := hide (by have := hgood.2.2.2; omega)
  have HNM : Hid (namesM (plnF (mkN P C)) = namesM (mkN P C)) := hide (names_pln hck)
  unfold MadeQ at HM
  generalize mkN P C = f at *
  clear hgood hck hT
  go_enter Tryd.func6, Tryd.ntmps6
  go_wp2_with fail
  refine (HM.out _ ((bl w).al _)).mono ?_
  rintro r w1 ⟨⟨v1, rfl, hv1⟩, hb1⟩
  have HB1 := hide (((bl w).al (.cells #[.slice pa P.length pc, .slice ca C.length cc] 38)).tr hb1)
  obtain ⟨pp, pb, cp, cb, rfl, hfw, hps, hrow⟩ := hv1
  have HFW := hide hfw
  have HPS := hide (hps.has has_nw)
  have HROW := hide (hrow.has has_nw)
  clear hb1 hfw hps hrow
  go_upto_region 3 with fail
  have hbA := ((bl w1).al (.cells #[.string ⟨List.toArray f.name⟩, .slice pp f.params.length cp, .int .i64 f.result, .slice pb f.body.length cb, .int .i64 f.count] 42)).al (.cells #[.string ⟨List.toArray f.name⟩, .slice pp f.params.length cp, .int .i64 f.result, .slice pb f.body.length cb, .int .i64 f.count] 42)
  have HX1 : Hid (((w1.alloc (.cells #[.string ⟨List.toArray f.name⟩, .slice pp f.params.length cp, .int .i64 f.result, .slice pb f.body.length cb, .int .i64 f.count] 42)).alloc (.cells #[.string ⟨List.toArray f.name⟩, .slice pp f.params.length cp, .int .i64 f.result, .slice pb f.body.length cb, .int .i64 f.count] 42)).heap[w1.heap.size]? = some (.cells #[.string ⟨List.toArray f.name⟩, .slice pp f.params.length cp, .int .i64 f.result, .slice pb f.body.length cb, .int .i64 f.count] 42 (0, 0))) := hide ((Below.heap_alloc _ _ _ (by simp)).trans (heap_alloc_new w1 (.cells #[.string ⟨List.toArray f.name⟩, .slice pp f.params.length cp, .int .i64 f.result, .slice pb f.body.length cb, .int .i64 f.count] 42)))
  have HX2 : Hid (((w1.alloc (.cells #[.string ⟨List.toArray f.name⟩, .slice pp f.params.length cp, .int .i64 f.result, .slice pb f.body.length cb, .int .i64 f.count] 42)).alloc (.cells #[.string ⟨List.toArray f.name⟩, .slice pp f.params.length cp, .int .i64 f.result, .slice pb f.body.length cb, .int .i64 f.count] 42)).heap[w1.heap.size + 1]? = some (.cells #[.string ⟨List.toArray f.name⟩, .slice pp f.params.length cp, .int .i64 f.result, .slice pb f.body.length cb, .int .i64 f.count] 42 (0, 0))) := hide (by
    have := heap_alloc_new (w1.alloc (.cells #[.string ⟨List.toArray f.name⟩, .slice pp f.params.length cp, .int .i64 f.result, .slice pb f.body.length cb, .int .i64 f.count] 42)) (.cells #[.string ⟨List.toArray f.name⟩, .slice pp f.params.length cp, .int .i64 f.result, .slice pb f.body.length cb, .int .i64 f.count] 42)
    simpa using this)
  have HPS2 := hide ((HPS.out.has (has_new (l := []) (by simp))).has (has_one hbA (w1.heap.size + 1) (by omega)))
  have HROW2 := hide ((HROW.out.has (has_new (l := []) (by simp))).has (has_one hbA (w1.heap.size + 1) (by omega)))
  have HB2 := hide (HB1.out.tr hbA)
  have hs2 : ((w1.alloc (.cells #[.string ⟨List.toArray f.name⟩, .slice pp f.params.length cp, .int .i64 f.result, .slice pb f.body.length cb, .int .i64 f.count] 42)).alloc (.cells #[.string ⟨List.toArray f.name⟩, .slice pp f.params.length cp, .int .i64 f.result, .slice pb f.body.length cb, .int .i64 f.count] 42)).heap.size = w1.heap.size + 2 := by simp
  have hx12 : w1.heap.size < ((w1.alloc (.cells #[.string ⟨List.toArray f.name⟩, .slice pp f.params.length cp, .int .i64 f.result, .slice pb f.body.length cb, .int .i64 f.count] 42)).alloc (.cells #[.string ⟨List.toArray f.name⟩, .slice pp f.params.length cp, .int .i64 f.result, .slice pb f.body.length cb, .int .i64 f.count] 42)).heap.size := by omega
  have hx22 : w1.heap.size + 1 < ((w1.alloc (.cells #[.string ⟨List.toArray f.name⟩, .slice pp f.params.length cp, .int .i64 f.result, .slice pb f.body.length cb, .int .i64 f.count] 42)).alloc (.cells #[.string ⟨List.toArray f.name⟩, .slice pp f.params.length cp, .int .i64 f.result, .slice pb f.body.length cb, .int .i64 f.count] 42)).heap.size := by omega
  have hw0 : w.heap.size ≤ w1.heap.size := HB1.out.size
  clear hbA HPS HROW HB1 hs2
  generalize (w1.alloc (.cells #[.string ⟨List.toArray f.name⟩, .slice pp f.params.length cp, .int .i64 f.result, .slice pb f.body.length cb, .int .i64 f.count] 42)).alloc (.cells #[.string ⟨List.toArray f.name⟩, .slice pp f.params.length cp, .int .i64 f.result, .slice pb f.body.length cb, .int .i64 f.count] 42) = w2 at *
  obtain ⟨x2, hx2⟩ : ∃ x2, x2 = w1.heap.size + 1 := ⟨_, rfl⟩
  rw [← hx2] at HX2 HPS2 HROW2 hx22 ⊢
  have hne : w1.heap.size < x2 := by omega
  clear hx2
  generalize w1.heap.size = x1 at *
  have a3 := cell_at (j := 3) HX1.out rfl
  go_wp2_with fail
  (with_reducible refine (plain_any 1000 (Nat.le_refl _) f.body pb cb _ HCNT.out (HROW2.out.has has_av) HFW.out.lb HFW.out.cb).mono ?_)
  rintro r w3 ⟨⟨v3, rfl, hown3⟩, hb3⟩
  obtain ⟨p2, cap2, rfl, hrow3, hle3, hcm3⟩ := hown3.sts below_range
  have HX13 := hide ((hb3.block _ hx12).trans HX1.out)
  have HX23 := hide ((hb3.block _ hx22).trans HX2.out)
  have hk4 : Kept [x2] w3 (w3.setCell ⟨x2, 3, none⟩ (.slice p2 (plnL f.body).length cap2)) := (Kept.refl [x2] w3).set (g := x2) (.inl (by simp)) 3 _
  have HPS4 := hide (((HPS2.out.has (has_av_below hb3)).has (has_kept hk4)).has has_av)
  have HROW4 := hide (((HROW2.out.has (has_av_below hb3)).has (has_kept hk4)).has has_av)
  have HROWP := hide ((hrow3.has (has_nw_kept hk4 (by simp; omega))).has has_nw)
  have HB4 : Hid (Below w.heap.size w (w3.setCell ⟨x2, 3, none⟩ (.slice p2 (plnL f.body).length cap2))) := hide (hk4.below (HB2.out.tr hb3) (by simp; omega))
  have HX14 := hide ((Below.heap_setCell w3 ⟨x2, 3, none⟩ (.slice p2 (plnL f.body).length cap2) x1 (by simp only; omega)).trans HX13.out)
  have HX24 : Hid ((w3.setCell ⟨x2, 3, none⟩ (.slice p2 (plnL f.body).length cap2)).heap[x2]? = some (.cells #[.string ⟨List.toArray f.name⟩, .slice pp f.params.length cp, .int .i64 f.result, .slice p2 (plnL f.body).length cap2, .int .i64 f.count] 42 (0, 0))) := hide (by simpa using heap_set (i := 3) HX23.out (.slice p2 (plnL f.body).length cap2))
  have HC3 : Hid ((plnL f.body).length ≤ cap2 ∧ cap2 ≤ maxLen) := hide ⟨hle3, hcm3⟩
  have y3 := cell_at (j := 3) HX23.out rfl
  have g3 := free_at (j := 3) HX23.out
  have hx33 := (Array.getElem?_eq_some_iff.1 HX23.out).1
  clear hown3 hrow3 hle3 hcm3 hk4 hb3 a3 HX1 HX2 HPS2 HROW2 HB2
  go_upto_region 4 with fail
  clear y3 g3 hx33 HX13 HX23
  generalize w3.setCell ⟨x2, 3, none⟩ (.slice p2 (plnL f.body).length cap2) = w4 at *
  have a0 := cell_at (j := 0) HX14.out rfl
  have a1 := cell_at (j := 1) HX14.out rfl
  have a2 := cell_at (j := 2) HX14.out rfl
  have a3 := cell_at (j := 3) HX14.out rfl
  have a4 := cell_at (j := 4) HX14.out rfl
  have HV4 : Hid (f.Val w4 (.agg #[.string ⟨List.toArray f.name⟩, .slice pp f.params.length cp, .int .i64 f.result, .slice pb f.body.length cb, .int .i64 f.count])) := hide ⟨pp, pb, cp, cb, rfl, HFW.out, HPS4.out, HROW4.out⟩
  have HG4 : Hid ((plnF f).Val w4 (.agg #[.string ⟨List.toArray f.name⟩, .slice pp f.params.length cp, .int .i64 f.result, .slice p2 (plnL f.body).length cap2, .int .i64 f.count])) := hide ⟨pp, p2, cp, cap2, rfl, ⟨HFW.out.s, HFW.out.r, HC3.out.1, HC3.out.2, HFW.out.c⟩, HPS4.out, HROWP.out⟩
  clear HPS4 HROW4 HROWP
  go_wp2_with fail
  refine (of_any f _ w4 HV4.out (HTB.out _ HB4.out)).mono ?_
  unfold OfPost
  rintro r w5 ⟨⟨va, vc, rfl, hvr⟩, hb5⟩
  have HB5 := hide (HB4.out.tr hb5)
  have HG5 := hide (HG4.out.keep hb5 (Nat.le_refl _))
  have HX25 := hide ((hb5.block _ (Array.getElem?_eq_some_iff.1 HX24.out).1).trans HX24.out)
  have HVR := hide hvr
  clear hvr hb5 a0 a1 a2 a3 a4 HV4 HG4 HX14 HX24 HB4
  have a0 := cell_at (j := 0) HX25.out rfl
  have a1 := cell_at (j := 1) HX25.out rfl
  have a2 := cell_at (j := 2) HX25.out rfl
  have a3 := cell_at (j := 3) HX25.out rfl
  have a4 := cell_at (j := 4) HX25.out rfl
  go_wp2_with fail
  refine (of_any (plnF f) _ w5 HG5.out (HTB.out _ HB5.out)).mono ?_
  unfold OfPost
  rw [HNM.out]
  rintro r w6 ⟨⟨ua, uc, rfl, hur⟩, hb6⟩
  have HB6 := hide (HB5.out.tr hb6)
  have HVR6 := hide (HVR.out.keep hb6 (Nat.le_refl _))
  have HUR := hide hur
  clear hur hb6 a0 a1 a2 a3 a4 HG5 HX25 HB5 HVR HNM
  generalize namesM f = N at *
  obtain ⟨l, n, e⟩ := N
  simp only at HVR6 HUR ⊢
  have hll : l.length ≤ 9223372036854775807 := Nat.le_trans HVR6.out.len HVR6.out.cap
  go_wp2_with fail
  go_loopw [11] (fun i wr => ∃ k m : Nat, k ≤ l.length ∧ i = .int .i64 k ∧ Hid (wr = w6.drewN m)) (fun i _ => l.length - (intOf i).toNat)
  case atStart => exact ⟨0, 0, Nat.zero_le _, rfl, hide rfl⟩
  case round =>
    obtain ⟨k, m, hk, rfl, HWR⟩ := hrel
    by_cases hlt : k < l.length
    · obtain ⟨b, o, rfl⟩ := HVR6.out.addr (by omega)
      obtain ⟨b2, o2, rfl⟩ := HUR.out.addr (by omega)
      have HV' := hide (show Vrs wr l _ _ by rw [HWR.out]; exact ⟨HVR6.out.len, HVR6.out.cap, HVR6.out.wf, HVR6.out.addr, HVR6.out.at_⟩)
      have HU' := hide (show Vrs wr l _ _ by rw [HWR.out]; exact ⟨HUR.out.len, HUR.out.cap, HUR.out.wf, HUR.out.addr, HUR.out.at_⟩)
      obtain ⟨c0, c1, c2, c3, c4⟩ := HV'.out.at_ b o rfl k hlt
      obtain ⟨d0, d1, d2, d3, d4⟩ := HU'.out.at_ b2 o2 rfl k hlt
      generalize l[k] = v at *
      have hbl := cell_lt c0
      have hbl2 := cell_lt d0
      simp only at hbl hbl2
      have hc6 : (0 : Int) ≤ (k : Int) := by omega
      have hc7 : (k : Int) < (l.length : Int) := by omega
      go_wp2_with fail
      go_quiet (fail)
      go_wp2_with fail
      go_roundw
      case rel => exact ⟨k + 1, _, by omega, by go_num, hide (by rw [HWR.out, World.drewN_drewN])⟩
      case measure => simp [intOf]; omega
    · obtain rfl : k = l.length := by omega
      have hwb : Below w6.heap.size w6 wr := by rw [HWR.out]; exact ⟨rfl, rfl, rfl, Nat.le_refl _, fun _ _ => rfl⟩
      have HB7 := hide (HB6.out.tr hwb)
      clear hwb HWR
      go_wp2_with fail
      refine (HWK.out _ HB7.out).mono ?_
      rintro r w8 ⟨rfl, hb8⟩
      have HB8 := hide (HB7.out.tr hb8)
      clear hb8
      go_wp2_with fail
      go_ret
      exact ⟨rfl, HB8.out⟩
end Go.Proofs.YtccgpmncpemmdaaDoor
namespace Go.Proofs.YtccgpmncpemmdaaDoor.PrBodies
open Go Go.ChangeShapes Go.WideShapes Go.ChangeAt Go.RowKit
set_option linter.unusedSimpArgs false
set_option linter.unusedVariables false
set_option linter.unnecessarySimpa false
theorem laidOut : laidOutB Tryd.prog = true := by kernel_rfl
/-- What came in reads behind the call as it did. -/
theorem stay {H : Type} {enc : TypeId × Value → H} {W W' : World} {sp : Nat → Bool} {t : TypeId} {v : Value} {d : DataW H} {ps : List MemPlace} (hr : Tryd.prog.readableRec t = true) (hrow : t < Tryd.prog.types.size)
    (h : DataW.Trod enc Tryd.prog W 0 (fun _ => true) true t v d ps) (hb : Below W.heap.size W W') (hs : ∀ p ∈ ps, sp p.block = true) : DataW.Trod enc Tryd.prog W' 0 sp true t v d ps := by
  refine WideElems.Trod_stays laidOut hr hrow h (fun p hp => ?_) hs
  obtain ⟨n, hn⟩ := h
  have hlt := DataW.trod_lt n t _ _ hn p hp
  cases p with
  | cell b o => exact hb.cell (p := ⟨b, o, none⟩) hlt
  | map b => exact hb.block b hlt
set_option maxRecDepth 100000 in
theorem lifted (os : Os) (started : os.Started) (H : Type) (enc : TypeId × Value → H) :
    ReturnsInHanded {} Tryd.checked os 6 .any (fun w args => (Rows.namesBodiesSpec.pre enc Tryd.prog Tryd.f6 [] false w args ∧ laidMetH Tryd.prog Rows.namesBodiesRow.laid w) ∧ sizedMet enc Tryd.prog Tryd.f6 (OpenSpec.ofChange Rows.namesBodiesSpec) false w args)
      (Rows.namesBodiesSpec.post enc Tryd.prog Tryd.f6 false true false false) := by
  refine returnsInHanded_of_change_and (C := Tryd.checked) (X := fun w _ => laidMetH Tryd.prog Rows.namesBodiesRow.laid w) (fun _ _ _ hh h => h.of_heap hh) own started (by kernel_rfl) Tryd.func6
    (witness_laid #[.agg #[.slice none 0 0, .slice none 0 0]] 8 (by kernel_rfl) (by kernel_rfl) (by kernel_rfl) (by kernel_rfl) (by kernel_rfl) (by kernel_rfl) (by kernel_rfl)) ?_
  intro W base args ds gs before hval0 hW _ _ hL _
  have hval : ∀ (j : Nat) t v, Tryd.f6.params[j]? = some t → args[j]? = some v → Value.okWide Tryd.prog W .any base t v := hval0
  have hW' := hW
  obtain ⟨p, q, hA0, hV, rfl, hfz, hnd⟩ := hW
  have hA : DataW.TrodAll enc Tryd.prog W 0 (fun _ => true) true Tryd.f6.params.toList args.toList ds p := hA0
  rw [Tryd.params6] at hA hval
  obtain ⟨v0, vs0, d0, ds0, p0, q0, hargs, rfl, rfl, h0, r0⟩ := trodAll_cons hA
  obtain ⟨rfl, rfl, rfl⟩ := trodAll_nil r0
  obtain rfl : args = #[v0] := by cases args; simp_all
  obtain ⟨rfl, rfl⟩ := trodVars_none hV
  obtain ⟨P0, C0, hd0⟩ := read_drn (hval 0 38 v0 rfl rfl) h0
  clear hA0 hval0
  refine (NamesBodies_any P0 C0 v0 W hd0 (tab_of_laid hL)).mono fun r W' ⟨hr, hb⟩ => ?_
  subst hr
  exact ⟨_, rfl, post_of_below (pa := (p0 ++ [])) (pv := []) hW' (fun _ _ _ => (trodAll_cons_mk (shut_bool Tryd.underlying4 _) trodAll_mk0))
    (fun sp hsp => (trodAll_cons_mk (stay (by kernel_rfl) (of_decide_eq_true (by kernel_rfl)) h0 hb (fun p hp => hsp p (by simp [hp]))) trodAll_mk0)) (fun _ _ => rfl) rfl
    hb (ok_one (by kernel_rfl) rfl (okWide_bool_mk Tryd.underlying4 _))⟩
theorem over : Rows.namesBodiesRow.holds Tryd.pinned (OpenSpec.ofChange Rows.namesBodiesSpec) :=
  OpenClaim.holds_of_wide 6 Tryd.f6 rfl rfl rfl rfl rfl rfl rfl ⟨rfl, rfl, rfl, rfl, rfl⟩ rfl rfl rfl rfl rfl (by kernel_rfl) Tryd.func6 (by kernel_rfl)
    (of_decide_eq_true (by kernel_rfl)) (by unfold Func.isWrapper; first | (rw [if_pos (by decide +kernel)]; kernel_rfl) | (rw [if_neg (by decide +kernel)]; exact ⟨rfl, rfl⟩))
    (fun os started H enc _ => lifted os started H enc)
end Go.Proofs.YtccgpmncpemmdaaDoor.PrBodies
namespace Go.Proofs.YtccgpmncpemmdaaDoor
open Go
theorem namesBodies_proved : Rows.NamesBodiesCardSaid :=
  Claim7.holds_tied_plain_at .later [] [.data, .listed, .data, .pinned] true (true, "e6060c3e9f00db02bd710517d1386f908ac2896a23d583f87d7a410536a4e989") false
    PrBodies.over (fun _ h => by cases h) (by kernel_rfl) (fun _ h => by cases h) namesBodies_row_tie rfl ⟨rfl, rfl⟩ (by kernel_rfl) rfl
    (fun f fn hf hfn => by
      obtain rfl : f = 6 := Option.some.inj ((show Tryd.prog.funcNamed "rewind/rewindlaw10.NamesBodies" = some 6 by kernel_rfl).symm.trans hf) |>.symm
      obtain rfl : fn = Tryd.f6 := (Option.some.inj (Tryd.func6.symm.trans hfn)).symm
      exact ⟨by kernel_rfl, fun j t ht => by
        rw [Tryd.params6] at ht
        have h3 : t = 38 := by
          rcases j with _ | j
          all_goals simp at ht
          · exact ht.symm
        rcases h3 with rfl
        · exact (show Tryd.prog.wantsStandIn 38 = false by kernel_rfl)⟩)
    (by kernel_rfl)
#print axioms namesBodies_proved
end Go.Proofs.YtccgpmncpemmdaaDoor
