/- signs.Text. -/
import Derived.Test.YtnkmbddjekepkaaDoorSgM
import Derived.Lib.Join
namespace Go.Proofs.YtnkmbddjekepkaaDoor
open Go Go.RowKit
set_option linter.unusedSimpArgs false
set_option linter.unusedVariables false
set_option linter.unnecessarySimpa false
theorem join_joinB : ∀ l : List Bytes, Lib.join l [44, 32] = joinB l
  | [] => rfl
  | [a] => by simp [Lib.join, joinB, List.intercalate, List.intersperse]
  | a :: b :: l => by
    have h := join_joinB (b :: l)
    rw [joinB, ← h]
    simp [Lib.join, List.intercalate, List.intersperse]
theorem joinB_len : ∀ l : List Bytes, (∀ s ∈ l, s.length ≤ 5) → (joinB l).length ≤ 7 * l.length
  | [], _ => Nat.zero_le _
  | [a], h => by have := h a (by simp); simp [joinB]; omega
  | a :: b :: l, h => by
    have h1 := joinB_len (b :: l) (fun s hs => h s (List.mem_cons_of_mem _ hs))
    have h2 := h a (by simp)
    simp only [joinB, List.length_append, List.length_cons, List.length_nil] at h1 ⊢
    omega
/-- The cell of a string. -/
def StrC (_ : World) (s : Bytes) (c : List Value) : Prop := c = [.string ⟨s.toArray⟩]
theorem StrC.mono : Mono StrC := fun _ _ _ _ _ h => h
theorem OwnL.strs {w : World} {base : Nat} {t : TypeId} {v : Value} {l : List Bytes} (h : OwnL w base t 1 StrC [] v l) :
    (l = [] ∧ v = .slice none 0 0) ∨ ∃ g cap, v = .slice (some ⟨g, 0, none⟩) l.length cap ∧ g < w.heap.size ∧ l.length ≤ cap ∧ ∀ (i : Nat) (hi : i < l.length), w.cell? ⟨g, 0 + i, none⟩ = some (.string ⟨l[i].toArray⟩) := by
  have h0 := h
  rcases h.form with ⟨rfl, rfl⟩ | ⟨g, cap, rfl, hbg, hgl, h1, h2⟩
  · exact .inl ⟨rfl, rfl⟩
  · refine .inr ⟨g, cap, rfl, hgl, h1, fun i hi => ?_⟩
    obtain ⟨_, _, c, hc, _, _, hcell⟩ := h0.get StrC.mono rfl i hi
    rw [show c = _ from hc] at hcell
    have := hcell 0 _ rfl
    rw [Nat.zero_add]
    simpa using this
theorem info_str : (Tryd.prog.info? 9).map (fun i => (i.zero, i.size, i.bytes)) = some (some (.string ⟨#[]⟩), 1, 16) := by kernel_rfl
theorem join12_any (l : List Bytes) (v : Value) (w : World) {base : Nat} {t : TypeId} (hown : OwnL w base t 1 StrC [] v l) (hn : l.length ≤ 8) (h5 : ∀ s ∈ l, s.length ≤ 5) :
    Calls Tryd.prog 32 #[v, .string ⟨#[44, 32]⟩] w fun r w' => r = .returned (.string ⟨(joinB l).toArray⟩) ∧ Below w.heap.size w w' := by
  rcases hown.strs with ⟨rfl, rfl⟩ | ⟨g, cap, rfl, hgl, hlc, hcell⟩
  · refine (Tryd.strings_Join_none none 0 ⟨#[44, 32]⟩ w).mono ?_
    rintro r w' ⟨rfl, rfl⟩
    exact ⟨rfl, bl _⟩
  · have hx : (l.map fun s => (⟨s.toArray⟩ : ByteArray)).map (·.data.toList) = l := by simp [Function.comp_def]
    have hj : Lib.join ((l.map fun s => (⟨s.toArray⟩ : ByteArray)).map (·.data.toList)) (⟨#[44, 32]⟩ : ByteArray).data.toList = joinB l := by rw [hx]; exact join_joinB l
    have := Tryd.strings_Join g 0 cap (l.map fun s => ⟨s.toArray⟩) ⟨#[44, 32]⟩ w (fun j x hx => by
      rw [List.getElem?_map] at hx
      obtain ⟨y, hy, rfl⟩ := Option.map_eq_some_iff.1 hx
      obtain ⟨hj, rfl⟩ := List.getElem?_eq_some_iff.1 hy
      exact hcell j hj) hgl (by simp; omega) (by simpa using hlc) (by rw [hj]; have := joinB_len l h5; omega)
    rw [hj, List.length_map] at this
    exact this
end Go.Proofs.YtnkmbddjekepkaaDoor
