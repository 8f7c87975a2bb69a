/- SignsRight: the plain law. -/
import Derived.Test.YtnkmbddjekepkaaDoorSgV
namespace Go.Proofs.YtnkmbddjekepkaaDoor
open Go Go.RowKit
set_option linter.unusedSimpArgs false
set_option linter.unusedVariables false
set_option linter.unnecessarySimpa false
/-- What is known of the functions of distinct. -/
structure Right (L : List Fn) : Prop where
  one : 1 ≤ L.length
  len : L.length ≤ 20
  nodup : (L.map (·.name)).Nodup
  ok : ∀ f ∈ L, fnOk f = true ∧ fnNums f = true
  main : mainF ∈ L
  uniq : ∀ f ∈ L, f.name = mainB → f = mainF
  size : ∀ f ∈ L, f.name.length = 2 ∨ f.name.length = 4
  typ : ∀ f ∈ L, ∀ p ∈ f.params, 1 ≤ p.typ ∧ p.typ ≤ 3
  res : ∀ f ∈ L, 0 ≤ f.result ∧ f.result ≤ 3
  pars : ∀ f ∈ L, f.params.length ≤ 8
theorem dist_right (l : List Dr) (n : Nat) : Right (distM l n) := by
  have h := dist_len l n
  refine ⟨h.1, h.2.1, dist_nodup l n, dist_ok, dist_main l n, dist_mainF, ?_, ?_, ?_, ?_⟩
  · intro f hf
    rcases dist_mem hf with rfl | ⟨d, rfl⟩
    · exact .inr rfl
    · exact .inl rfl
  · intro f hf p hp
    rcases dist_mem hf with rfl | ⟨d, rfl⟩
    · simp [mainF] at hp
    · simp only [drFn, parsUp] at hp
      obtain ⟨i, _, rfl⟩ := List.mem_map.1 hp
      simp only [prmOf]
      omega
  · intro f hf
    rcases dist_mem hf with rfl | ⟨d, rfl⟩
    · simp [mainF]
    · simp only [drFn]
      omega
  · intro f hf
    rcases dist_mem hf with rfl | ⟨d, rfl⟩
    · simp [mainF]
    · simp only [drFn, parsUp_len]
      omega
theorem find_right {L : List Fn} (h : (L.map (·.name)).Nodup) {i : Nat} (hi : i < L.length) : findSg (L.map sgOf) L[i].name = some (sgOf L[i]) := by
  unfold findSg
  rw [List.find?_eq_some_iff_getElem]
  refine ⟨by simp [sgOf], i, by simpa using hi, by simp, fun j hj => ?_⟩
  have hn : ¬ L[j].name = L[i].name := by
    intro e
    have h2 := (List.pairwise_iff_getElem.1 h) j i (by rw [List.length_map]; omega) (by rw [List.length_map]; omega) hj
    simp only [List.getElem_map] at h2
    exact h2 e
  simpa [sgOf] using hn
theorem signs_right {L : List Fn} (h : Right L) : signsOfM L = (L.map sgOf, 0, 0) := by
  have h1 : checkM L = 0 := by unfold checkM; rw [if_pos ⟨h.len, h.ok⟩]
  have h2 := dup_none L [] 0 h.nodup (by simp)
  obtain ⟨i, hi, he⟩ := List.mem_iff_getElem.1 h.main
  have h3 := find_right h.nodup hi
  rw [he] at h3
  have h4 : mainOk L = true := by
    unfold mainOk
    rw [show mainB = mainF.name from rfl, h3]
    rfl
  unfold signsOfM signsM
  rw [if_pos h1, h2, h4]
  rfl
section
variable {L : List Fn} {k : Nat}
theorem call_ok (h : Right L) (hk : k < L.length) (t : Int) (ht : t = 0 ∨ t = L[k].result) : callM (L.map sgOf) L[k].name (sgOf L[k]).pars t = 0 := by
  unfold callM
  rw [find_right h.nodup hk]
  simp only
  rw [if_neg]
  rintro (e | ⟨e1, e2⟩)
  · exact e rfl
  · rcases ht with e | e
    · exact e1 e
    · exact e2 e
theorem call_args (h : Right L) (hk : k < L.length) (t : Int) (args : List Int) (ha : (sgOf L[k]).pars ≠ args) : callM (L.map sgOf) L[k].name args t = 12 := by
  unfold callM
  rw [find_right h.nodup hk]
  simp only
  rw [if_pos (.inl ha)]
theorem call_target (h : Right L) (hk : k < L.length) (t : Int) (ht : t ≠ 0) : callM (L.map sgOf) L[k].name (sgOf L[k]).pars t = if L[k].result = t then 0 else 12 := by
  by_cases e : L[k].result = t
  · rw [if_pos e]
    exact call_ok h hk t (.inr e.symm)
  · rw [if_neg e]
    unfold callM
    rw [find_right h.nodup hk]
    simp only
    rw [if_pos (.inr ⟨ht, fun e2 => e e2.symm⟩)]
theorem call_name (h : Right L) (hk : k < L.length) (t : Int) (args : List Int) : callM (L.map sgOf) (L[k].name ++ [120]) args t = 11 := by
  have hf : findSg (L.map sgOf) (L[k].name ++ [120]) = none := by
    unfold findSg
    rw [List.find?_eq_none]
    intro s hs
    obtain ⟨f, hf, rfl⟩ := List.mem_map.1 hs
    intro e
    have e : f.name = L[k].name ++ [120] := of_decide_eq_true e
    have h1 := congrArg List.length e
    rw [List.length_append, List.length_singleton] at h1
    have h2 := h.size f hf
    have h3 := h.size L[k] (List.getElem_mem hk)
    omega
  unfold callM
  rw [hf]
theorem snoc_ne (l : List Int) (a : Int) : l ≠ l ++ [a] := by
  intro e
  have := congrArg List.length e
  simp at this
theorem tail_ne {l : List Int} (h : 0 < l.length) : l ≠ l.tail := by
  intro e
  have := congrArg List.length e
  simp at this
  omega
theorem set_ne (h : Right L) (hk : k < L.length) {j : Nat} (hj : j < (sgOf L[k]).pars.length) : (sgOf L[k]).pars ≠ (sgOf L[k]).pars.set j (1 + (sgOf L[k]).pars[j] % 3) := by
  intro e
  have h1 : (sgOf L[k]).pars[j]? = ((sgOf L[k]).pars.set j (1 + (sgOf L[k]).pars[j] % 3))[j]? := by rw [← e]
  rw [List.getElem?_set_self hj, List.getElem?_eq_getElem hj] at h1
  have h2 : (sgOf L[k]).pars[j] = 1 + (sgOf L[k]).pars[j] % 3 := Option.some.inj h1
  have h3 : ∃ p ∈ L[k].params, p.typ = (sgOf L[k]).pars[j] := by
    have : (sgOf L[k]).pars[j] ∈ (sgOf L[k]).pars := List.getElem_mem hj
    obtain ⟨p, hp, e⟩ := List.mem_map.1 this
    exact ⟨p, hp, e⟩
  obtain ⟨p, hp, e⟩ := h3
  have h4 := h.typ L[k] (List.getElem_mem hk) p hp
  omega
end
end Go.Proofs.YtnkmbddjekepkaaDoor
