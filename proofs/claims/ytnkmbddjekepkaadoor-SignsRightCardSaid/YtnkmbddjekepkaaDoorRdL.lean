/- Slices that come in: a list of whatever their elements read as. -/
import Derived.Test.YtnkmbddjekepkaaDoorShC
import Derived.ProofKit
import Derived.OpenShut
namespace Go.Proofs.YtnkmbddjekepkaaDoor
open Go Go.RowKit Go.WideShapes Go.ChangeShapes
set_option linter.unusedSimpArgs false
set_option linter.unusedVariables false
set_option linter.unnecessarySimpa false
/-- The slice a, cap holds things that lie, sz cells each, as At says. -/
structure Sl {α : Type} (sz : Nat) (At : α → Nat → Nat → Prop) (l : List α) (a : Option Addr) (cap : Nat) : Prop where
  len : l.length ≤ cap
  cap : cap ≤ maxLen
  addr : 0 < l.length → ∃ b o, a = some ⟨b, o, none⟩
  at_ : ∀ (b o : Nat), a = some ⟨b, o, none⟩ → ∀ (i : Nat) (h : i < l.length), At l[i] b (o + i * sz)
section
variable {H : Type} {enc : TypeId × Value → H} {W : World} {sp : Nat → Bool} {held : Bool} {P : Program}
theorem read_slice {α : Type} {T E : TypeId} {sz : Nat} (At : α → Nat → Nat → Prop) (hu : P.underlying T = some (.slice E)) (hc : P.cellsOf E = sz) (h0 : 0 < sz) {n : Nat} {v : Value} {x : DataW H × List MemPlace}
    (helem : ∀ (n : Nat) (cs : List Value) (x : DataW H × List MemPlace), DataW.trod enc P W 0 sp held n E cs = some x → ∃ y : α, ∀ b o, (∀ j u, cs[j]? = some u → W.cell? ⟨b, o + j, none⟩ = some u) → At y b o)
    (h : DataW.trod enc P W 0 sp held n T [v] = some x) : ∃ (l : List α) (a : Option Addr) (cap : Nat), v = .slice a l.length cap ∧ Sl sz At l a cap := by
  rcases DataW.trod_slice hu h with ⟨e4, _⟩ | ⟨a', len, cap, elems, rest, n2, hn2, e4, _, hb, hlc, hcm, hel, hall, _, _⟩
  · simp only [List.cons.injEq, and_true] at e4
    exact ⟨[], none, 0, e4, ⟨Nat.le_refl _, Nat.zero_le _, by simp, fun b o e => by cases e⟩⟩
  · simp only [List.cons.injEq, and_true] at e4
    subst e4
    have key : ∀ i, i < len → ∃ (b o : Nat) (y : α), a'.add (i * sz) = ⟨b, o, none⟩ ∧ At y b o := by
      intro i hi
      have h1 := hall i hi
      rw [List.getElem?_eq_getElem (by omega), hc] at h1
      obtain ⟨cs', h2, h3⟩ := Option.bind_eq_some_iff.1 h1
      obtain ⟨_, hl, hg⟩ := World.cells?_some h2
      obtain ⟨y, hy⟩ := helem _ _ _ h3
      have hs : (a'.add (i * sz)).spot = none := by
        have := hg 0 h0
        rw [List.getElem?_eq_getElem (by omega)] at this
        exact World.cell?_spot this
      generalize a'.add (i * sz) = q at *
      obtain ⟨b, o, s⟩ := q
      have hs : s = none := hs
      subst hs
      exact ⟨b, o, y, rfl, hy b o fun j u hu => by
        have hj : j < sz := by have := (List.getElem?_eq_some_iff.1 hu).1; omega
        have h4 := hg j hj
        rw [hu, Addr.add_lit] at h4
        exact h4⟩
    by_cases hz : len = 0
    · subst hz
      exact ⟨[], some a', cap, rfl, ⟨Nat.zero_le _, hcm, by simp, fun b o e i hi => absurd hi (Nat.not_lt_zero _)⟩⟩
    · obtain ⟨b0, o0, _, ha0, _⟩ := key 0 (by omega)
      have ha : a' = ⟨b0, o0, none⟩ := by simpa [Addr.add] using ha0
      subst ha
      have key2 : ∀ i, i < len → ∃ y : α, At y b0 (o0 + i * sz) := fun i hi => by
        obtain ⟨b', o', x, he, hat⟩ := key i hi
        rw [Addr.add_lit] at he
        simp only [Addr.mk.injEq, and_true] at he
        obtain ⟨rfl, rfl⟩ := he
        exact ⟨x, hat⟩
      refine ⟨(List.finRange len).map fun i => (key2 i.1 i.2).choose, some ⟨b0, o0, none⟩, cap, by simp, ⟨by simpa using hlc, hcm, fun _ => ⟨_, _, rfl⟩, ?_⟩⟩
      intro b o e i hi
      simp only [Option.some.injEq, Addr.mk.injEq, and_true] at e
      obtain ⟨rfl, rfl⟩ := e
      have hi' : i < len := by simpa using hi
      have := (key2 i hi').choose_spec
      simpa using this
theorem read_arg {α : Type} {T E : TypeId} {sz : Nat} (At : α → Nat → Nat → Prop) (hu : P.underlying T = some (.slice E)) (hc : P.cellsOf E = sz) (h0 : 0 < sz) {v : Value} {d : DataW H} {p : List MemPlace} {r : Reach} {b0 : Nat}
    (helem : ∀ (n : Nat) (cs : List Value) (x : DataW H × List MemPlace), DataW.trod enc P W 0 sp held n E cs = some x → ∃ y : α, ∀ b o, (∀ j u, cs[j]? = some u → W.cell? ⟨b, o + j, none⟩ = some u) → At y b o)
    (hv : Value.okWide P W r b0 T v) (h : DataW.Trod enc P W 0 sp held T v d p) : ∃ (l : List α) (a : Option Addr) (cap : Nat), v = .slice a l.length cap ∧ Sl sz At l a cap := by
  obtain ⟨a, len, cap, rfl⟩ := okWide_slice hu hv
  obtain ⟨n, hn⟩ := h
  exact read_slice At hu hc h0 helem hn
theorem i64_wf {z : Int} (h : (Lit.int .i64 z).wf = true) : I64 z := by
  have h2 : -9223372036854775808 ≤ z ∧ z ≤ 9223372036854775807 := by simpa [Lit.wf, IntKind.min, IntKind.max, IntKind.signed, IntKind.bits] using h
  exact h2
theorem u8_wf {z : Int} (h : (Lit.int .u8 z).wf = true) : 0 ≤ z ∧ z ≤ 255 := by
  simpa [Lit.wf, IntKind.min, IntKind.max, IntKind.signed, IntKind.bits] using h
/-- A number's cell. -/
theorem elem_int {E : TypeId} (he : P.underlying E = some (.int .i64)) (n : Nat) (cs : List Value) (x : DataW H × List MemPlace) (h : DataW.trod enc P W 0 sp held n E cs = some x) : ∃ z : Int, I64 z ∧ cs = [.int .i64 z] := by
  obtain ⟨z, e0, _, w0⟩ := DataW.trod_int he h
  exact ⟨z, i64_wf w0, e0⟩
theorem elem_u8 {E : TypeId} (he : P.underlying E = some (.int .u8)) (n : Nat) (cs : List Value) (x : DataW H × List MemPlace) (h : DataW.trod enc P W 0 sp held n E cs = some x) : ∃ z : Nat, z ≤ 255 ∧ cs = [.int .u8 (z : Nat)] := by
  obtain ⟨z, e0, _, w0⟩ := DataW.trod_int he h
  have := u8_wf w0
  refine ⟨z.toNat, by omega, ?_⟩
  rw [Int.toNat_of_nonneg this.1]
  exact e0
/-- A string's cell. -/
theorem elem_str {E : TypeId} (he : P.underlying E = some .string) (n : Nat) (cs : List Value) (x : DataW H × List MemPlace) (h : DataW.trod enc P W 0 sp held n E cs = some x) : ∃ s : Bytes, s.length ≤ maxLen ∧ cs = [.string ⟨s.toArray⟩] := by
  obtain ⟨s, e0, _, w0⟩ := DataW.trod_string he h
  refine ⟨s.data.toList, by rw [Array.length_toList]; exact w0, ?_⟩
  have hs : (⟨s.data.toList.toArray⟩ : ByteArray) = s := by simp
  rw [hs]
  exact e0
/-- A bool's cell. -/
theorem elem_bool {E : TypeId} (he : P.underlying E = some .bool) (n : Nat) (cs : List Value) (x : DataW H × List MemPlace) (h : DataW.trod enc P W 0 sp held n E cs = some x) : ∃ b : Bool, cs = [.bool b] := by
  obtain ⟨b, e0, _⟩ := DataW.trod_bool he h
  exact ⟨b, e0⟩
/-- The fields of a struct. -/
theorem elem_struct {T : TypeId} {fs : Array Field} (ht : P.underlying T = some (.struct fs)) {n : Nat} {cs : List Value} {x : DataW H × List MemPlace} (h : DataW.trod enc P W 0 sp held n T cs = some x) :
    cs.length = P.cellsOf T ∧ ∀ (i : Nat) (f : Field), fs[i]? = some f → ∃ (m : Nat) (y : DataW H × List MemPlace), DataW.trod enc P W 0 sp held m f.type ((cs.drop f.offset).take (P.cellsOf f.type)) = some y := by
  obtain ⟨xs, n1, _, _, hl, hxl, hf⟩ := DataW.trod_struct ht h
  refine ⟨hl, fun i f hi => ?_⟩
  have h1 := hf i f hi
  have h2 : i < xs.length := by rw [hxl]; exact (Array.getElem?_eq_some_iff.1 hi).1
  rw [List.getElem?_eq_getElem h2] at h1
  exact ⟨n1, _, h1⟩
end
end Go.Proofs.YtnkmbddjekepkaaDoor
