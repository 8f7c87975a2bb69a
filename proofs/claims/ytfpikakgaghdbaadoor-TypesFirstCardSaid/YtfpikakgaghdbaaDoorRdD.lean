/- Drafts that come in: a list of bytes, as the statement's reading of it gives it. -/
import Derived.Test.YtfpikakgaghdbaaDoorRdE
import Derived.Test.YtfpikakgaghdbaaDoorMkI
namespace Go.Proofs.YtfpikakgaghdbaaDoor
open Go Go.RowKit Go.WideShapes Go.ChangeShapes
set_option linter.unusedSimpArgs false
set_option linter.unusedVariables false
set_option linter.unnecessarySimpa false
set_option maxRecDepth 100000
theorem cells1 {w : World} {base : Nat} {a : Addr} {cs : List Value} (h : w.cells? base a 1 = some cs) : ∃ (b o : Nat) (v0 : Value), a = ⟨b, o, none⟩ ∧ cs = [v0] ∧ w.cell? ⟨b, o, none⟩ = some v0 := by
  unfold World.cells? at h
  split at h
  · rw [show List.range 1 = [0] from rfl] at h
    simp only [List.mapM_cons, List.mapM_nil, Option.bind_eq_bind, Option.bind_eq_some_iff, Option.pure_def, Option.some.injEq] at h
    obtain ⟨v0, h0, _, rfl, rfl⟩ := h
    obtain ⟨b, o, s⟩ := a
    have hs : s = none := by simpa [Addr.add] using World.cell?_spot h0
    subst hs
    exact ⟨b, o, v0, rfl, rfl, by simpa [Addr.add] using h0⟩
  · cases h
theorem u8_of_wf {z : Int} (h : (Lit.int .u8 z).wf = true) : 0 ≤ z ∧ z ≤ 255 := by
  simpa [Lit.wf, IntKind.min, IntKind.max, IntKind.signed, IntKind.bits] using h
section
variable {H : Type} {enc : TypeId × Value → H} {W : World} {sp : Nat → Bool} {held : Bool}
/-- A draft that comes in. -/
theorem read_draft {r : Reach} {b0 : Nat} {v : Value} {d : DataW H} {p : List MemPlace} (hv : Value.okWide Tryd.prog W r b0 29 v) (h : DataW.Trod enc Tryd.prog W 0 sp held 29 v d p) :
    ∃ (D : List Nat) (a : Option Addr) (cap : Nat), v = .slice a D.length cap ∧ U8s W D a cap := by
  obtain ⟨a, len, cap, rfl⟩ := okWide_slice Tryd.underlying29 hv
  obtain ⟨n, hn⟩ := h
  have cv : Tryd.prog.cellsOf 5 = 1 := by kernel_rfl
  rcases DataW.trod_slice Tryd.underlying29 hn with ⟨e4, _⟩ | ⟨a', len', cap', elems, rest, n2, hn2, e4, _, hb, hlc, hcm, hel, hall, _, _⟩
  · simp only [Value.cells, List.cons.injEq, Value.slice.injEq, and_true] at e4
    obtain ⟨rfl, rfl, rfl⟩ := e4
    exact ⟨[], none, 0, rfl, ⟨Nat.le_refl _, Nat.zero_le _, by simp, fun b o e => by cases e⟩⟩
  · simp only [Value.cells, List.cons.injEq, Value.slice.injEq, and_true] at e4
    obtain ⟨rfl, rfl, rfl⟩ := e4
    have key : ∀ i, i < len → ∃ (b o : Nat) (x : Nat), a'.add (i * 1) = ⟨b, o, none⟩ ∧ x ≤ 255 ∧ W.cell? ⟨b, o, none⟩ = some (.int .u8 (x : Nat)) := by
      intro i hi
      have h1 := hall i hi
      rw [List.getElem?_eq_getElem (by omega), cv] at h1
      obtain ⟨cs', h2, h3⟩ := Option.bind_eq_some_iff.1 h1
      obtain ⟨b', o', u0, ha, rfl, k0⟩ := cells1 h2
      obtain ⟨z, e0, _, w0⟩ := DataW.trod_int Tryd.underlying5 h3
      simp only [List.cons.injEq, and_true] at e0
      subst e0
      have hz := u8_of_wf w0
      exact ⟨b', o', z.toNat, ha, by omega, by rw [k0, Int.toNat_of_nonneg hz.1]⟩
    by_cases h0 : len = 0
    · subst h0
      exact ⟨[], some a', cap, rfl, ⟨Nat.zero_le _, hcm, by simp, fun b o e i hi => absurd hi (Nat.not_lt_zero _)⟩⟩
    · obtain ⟨b0, o0, _, ha0, _⟩ := key 0 (by omega)
      have ha : a' = ⟨b0, o0, none⟩ := by simpa [Addr.add] using ha0
      subst ha
      have key2 : ∀ i, i < len → ∃ x : Nat, x ≤ 255 ∧ W.cell? ⟨b0, o0 + i, none⟩ = some (.int .u8 (x : Nat)) := fun i hi => by
        obtain ⟨b', o', x, he, hw, hat⟩ := key i hi
        rw [Addr.add_lit] at he
        simp only [Addr.mk.injEq, and_true] at he
        obtain ⟨rfl, rfl⟩ := he
        exact ⟨x, hw, by simpa using hat⟩
      refine ⟨(List.finRange len).map fun i => (key2 i.1 i.2).choose, some ⟨b0, o0, none⟩, cap, by simp, ⟨by simpa using hlc, hcm, fun _ => ⟨_, _, rfl⟩, ?_⟩⟩
      intro b o e i hi
      simp only [Option.some.injEq, Addr.mk.injEq, and_true] at e
      obtain ⟨rfl, rfl⟩ := e
      have hi' : i < len := by simpa using hi
      have := (key2 i hi').choose_spec
      simpa using this
end
end Go.Proofs.YtfpikakgaghdbaaDoor
