/- rewindref12.Text. -/
import Derived.Test.YtnkmbddjekepkaaGreatDoorSgL
import Derived.Test.YtnkmbddjekepkaaGreatDoorRefA
namespace Go.Proofs.YtnkmbddjekepkaaGreatDoor
open Go Go.RowKit
set_option linter.unusedSimpArgs false
set_option linter.unusedVariables false
set_option linter.unnecessarySimpa false
/-- What the loop has written after some words. -/
def upToB (s : Sg) (k : Nat) : Bytes := s.name ++ [40] ++ joinB ((s.pars.take k).map wordB)
theorem upToB_succ {s : Sg} {k : Nat} (h : k < s.pars.length) : upToB s (k + 1) = (if k = 0 then upToB s 0 else upToB s k ++ [44, 32]) ++ wordB s.pars[k] := by
  unfold upToB
  rw [List.take_succ_eq_append_getElem h, List.map_append, List.map_singleton, joinB_snoc]
  by_cases h0 : k = 0
  · subst h0; simp [joinB]
  · have h1 : (s.pars.take k).map wordB ≠ [] := by
      intro e
      have := congrArg List.length e
      rw [List.length_map, List.length_take, List.length_nil] at this
      omega
    rw [if_neg h1, if_neg h0]
    simp
theorem wordB_len (t : Int) : (wordB t).length ≤ 5 := by
  unfold wordB
  split
  · decide
  · split
    · decide
    · split <;> decide
theorem upToB_len (s : Sg) : ∀ k, k ≤ s.pars.length → (upToB s k).length ≤ s.name.length + 1 + 7 * k
  | 0, _ => by simp [upToB, joinB]
  | k + 1, h => by
    have h1 := upToB_len s k (by omega)
    have h2 := wordB_len s.pars[k]
    rw [upToB_succ (by omega), List.length_append]
    split
    · rename_i h0; subst h0; omega
    · rw [List.length_append]; simp; omega
theorem textM_head {s : Sg} (h : headSg s = false) : textM s = [] := by unfold textM; rw [h]; rfl
theorem textM_bad {s : Sg} {k : Nat} (hk : k < s.pars.length) (h : typedB s.pars[k] = false) : textM s = [] := by
  unfold textM
  rw [if_neg]
  intro e
  simp only [Bool.and_eq_true, List.all_eq_true] at e
  rw [e.2 _ (List.getElem_mem hk)] at h
  cases h
theorem textM_good {s : Sg} (h : headSg s = true) (h2 : ∀ p ∈ s.pars, typedB p = true) : textM s = upToB s s.pars.length ++ [41] ++ (if s.res = 0 then [] else [32] ++ wordB s.res) := by
  unfold textM upToB
  rw [if_pos (by rw [h]; simpa using h2), List.take_length]
theorem str_app (a b : Bytes) : (⟨a.toArray⟩ : ByteArray) ++ ⟨b.toArray⟩ = ⟨(a ++ b).toArray⟩ := by
  apply ByteArray.ext
  simp
theorem ret_str' {a : ByteArray} {b : Bytes} (h : a = ⟨b.toArray⟩) : Ending.returned (.string a) = .returned (.string ⟨b.toArray⟩) := by rw [h]
end Go.Proofs.YtnkmbddjekepkaaGreatDoor
