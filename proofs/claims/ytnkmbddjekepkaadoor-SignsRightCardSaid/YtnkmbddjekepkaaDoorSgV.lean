/- Functions with different names, and main: the plain law. -/
import Derived.Test.YtnkmbddjekepkaaDoorSgU
namespace Go.Proofs.YtnkmbddjekepkaaDoor
open Go Go.RowKit
set_option linter.unusedSimpArgs false
set_option linter.unusedVariables false
set_option linter.unnecessarySimpa false
theorem u8_inj {a b : Nat} (ha : a < 20) (hb : b < 20) (h : UInt8.ofNat (97 + a) = UInt8.ofNat (97 + b)) : a = b := by
  have := congrArg UInt8.toNat h
  simp at this
  omega
theorem drName_inj {a b : Nat} (h : drName a = drName b) : a % 20 = b % 20 := by
  simp only [drName, List.cons.injEq, and_true, true_and] at h
  exact u8_inj (Nat.mod_lt _ (by decide)) (Nat.mod_lt _ (by decide)) h
theorem drName_main (a : Nat) : drName a ≠ mainB := by
  intro h
  have := congrArg List.length h
  simp [drName, mainB] at this
theorem distUp_nodup (l : List Dr) : ∀ k, ((distUp l k).map fun x => x.name % 20).Nodup
  | 0 => List.nodup_nil
  | k + 1 => by
    have ih := distUp_nodup l k
    rw [distUp]
    split
    · exact ih
    · split
      · rename_i h
        rw [List.map_append, List.nodup_append]
        refine ⟨ih, by simp, fun a ha b hb e => ?_⟩
        simp only [List.map_cons, List.map_nil, List.mem_cons, List.not_mem_nil, or_false] at hb
        rw [hb] at e
        rw [e] at ha
        exact h.1 ha
      · exact ih
theorem map_nodup {α β γ : Type} {f : α → β} {g : α → γ} (h : ∀ a b, g a = g b → f a = f b) : ∀ {l : List α}, (l.map f).Nodup → (l.map g).Nodup
  | [], _ => List.nodup_nil
  | a :: l, hn => by
    rw [List.map_cons, List.nodup_cons] at hn ⊢
    refine ⟨fun hm => hn.1 ?_, map_nodup h hn.2⟩
    obtain ⟨b, hb, e⟩ := List.mem_map.1 hm
    exact List.mem_map.2 ⟨b, hb, h b a e⟩
/-- The names are different, and main is one of them. -/
theorem dist_nodup (l : List Dr) (n : Nat) : ((distM l n).map (·.name)).Nodup := by
  unfold distM
  generalize n % _ = k
  have h1 : (((distUp l l.length).map drFn).map (·.name)).Nodup := by
    rw [List.map_map]
    exact map_nodup (g := (fun f : Fn => f.name) ∘ drFn) (fun a b h => drName_inj h) (distUp_nodup l l.length)
  have h2 : mainB ∉ ((distUp l l.length).map drFn).map (·.name) := by
    intro h
    obtain ⟨f, hf, e⟩ := List.mem_map.1 h
    obtain ⟨d, _, rfl⟩ := List.mem_map.1 hf
    exact drName_main d.name e
  generalize (distUp l l.length).map drFn = L at *
  have h3 : (L.take k ++ L.drop k).map (·.name) = L.map (·.name) := by rw [List.take_append_drop]
  rw [List.map_append] at h3
  rw [List.map_append, List.map_cons]
  have hp : ((L.take k).map (·.name) ++ mainF.name :: (L.drop k).map (·.name)).Perm (mainF.name :: ((L.take k).map (·.name) ++ (L.drop k).map (·.name))) := List.perm_middle
  rw [hp.nodup_iff, List.nodup_cons, h3]
  exact ⟨h2, h1⟩
theorem dist_main (l : List Dr) (n : Nat) : mainF ∈ distM l n := by
  unfold distM
  simp
theorem dist_mem {l : List Dr} {n : Nat} {f : Fn} (h : f ∈ distM l n) : f = mainF ∨ ∃ d, f = drFn d := by
  unfold distM at h
  rw [List.mem_append, List.mem_cons] at h
  rcases h with h | h | h
  · obtain ⟨d, _, rfl⟩ := List.mem_map.1 (List.mem_of_mem_take h)
    exact .inr ⟨d, rfl⟩
  · exact .inl h
  · obtain ⟨d, _, rfl⟩ := List.mem_map.1 (List.mem_of_mem_drop h)
    exact .inr ⟨d, rfl⟩
theorem dist_len (l : List Dr) (n : Nat) : 1 ≤ (distM l n).length ∧ (distM l n).length ≤ 20 ∧ (distM l n).length ≤ l.length + 1 := by
  have h1 := distUp_len l l.length
  have h2 : ∀ k, (distUp l k).length ≤ k := by
    intro k
    induction k with
    | zero => exact Nat.le_refl _
    | succ k ih =>
      rw [distUp]
      split
      · omega
      · split
        · rw [List.length_append, List.length_singleton]; omega
        · omega
  have h3 := h2 l.length
  unfold distM
  rw [List.length_append, List.length_cons, List.length_take, List.length_drop, List.length_map]
  omega
theorem names_f : ∀ q, q < 20 → nameOk [102, UInt8.ofNat (97 + q)] = true := by decide +kernel
theorem names_p : ∀ q, q < 8 → nameOk [112, UInt8.ofNat (97 + q)] = true := by decide +kernel
theorem typed_3 : ∀ q, q < 3 → typedM (1 + ((q : Nat) : Int)) = true := by decide +kernel
theorem typed_4 : ∀ q, q < 4 → (decide (((q : Nat) : Int) = 0) || typedM ((q : Nat) : Int)) = true := by decide +kernel
theorem drFn_ok (d : Dr) : fnOk (drFn d) = true ∧ fnNums (drFn d) = true := by
  refine ⟨?_, by simp [fnNums, drFn, numsL, cntL]⟩
  have h1 : nameOk (drName d.name) = true := names_f _ (Nat.mod_lt _ (by decide))
  have h2 := typed_4 (d.res % 4) (Nat.mod_lt _ (by decide))
  have h3 : (parsUp d.pars (min d.pars.length 8)).all pmOk = true := by
    rw [List.all_eq_true]
    intro p hp
    unfold parsUp at hp
    obtain ⟨i, hi, rfl⟩ := List.mem_map.1 hp
    have hi8 : i < 8 := by have := List.mem_range.1 hi; omega
    simp only [pmOk, prmOf, Bool.and_eq_true]
    exact ⟨names_p i hi8, typed_3 _ (Nat.mod_lt _ (by decide))⟩
  simp only [fnOk, drFn, Bool.and_eq_true, decide_eq_true_eq, parsUp_len]
  refine ⟨⟨⟨⟨h1, by omega⟩, ?_⟩, h3⟩, by simp [wellM], by simp [cntL]⟩
  exact h2
theorem dist_ok {l : List Dr} {n : Nat} : ∀ f ∈ distM l n, fnOk f = true ∧ fnNums f = true := by
  intro f hf
  rcases dist_mem hf with rfl | ⟨d, rfl⟩
  · exact ok_main
  · exact drFn_ok d
theorem dup_none : ∀ (l : List Fn) (seen : List Bytes) (i : Nat), (l.map (·.name)).Nodup → (∀ f ∈ l, f.name ∉ seen) → dupFrom seen l i = none
  | [], _, _, _, _ => rfl
  | f :: l, seen, i, hn, hs => by
    rw [List.map_cons, List.nodup_cons] at hn
    rw [dupFrom, if_neg (hs f (by simp))]
    refine dup_none l _ _ hn.2 fun g hg hm => ?_
    rw [List.mem_append, List.mem_singleton] at hm
    rcases hm with hm | hm
    · exact hs g (by simp [hg]) hm
    · exact hn.1 (List.mem_map.2 ⟨g, hg, hm⟩)
theorem dup_last : ∀ (l : List Fn) (seen : List Bytes) (i : Nat) (f : Fn), (l.map (·.name)).Nodup → (∀ g ∈ l, g.name ∉ seen) → (f.name ∈ l.map (·.name) ∨ f.name ∈ seen) → dupFrom seen (l ++ [f]) i = some (i + l.length)
  | [], seen, i, f, _, _, hf => by
    have : f.name ∈ seen := by simpa using hf
    rw [List.nil_append, dupFrom, if_pos this]
    rfl
  | g :: l, seen, i, f, hn, hs, hf => by
    rw [List.map_cons, List.nodup_cons] at hn
    have hA : ∀ x ∈ l, x.name ∉ seen ++ [g.name] := fun x hx hm => by
      rw [List.mem_append, List.mem_singleton] at hm
      rcases hm with hm | hm
      · exact hs x (by simp [hx]) hm
      · exact hn.1 (List.mem_map.2 ⟨x, hx, hm⟩)
    have hB : f.name ∈ l.map (·.name) ∨ f.name ∈ seen ++ [g.name] := by
      simp only [List.map_cons, List.mem_cons, List.mem_append, List.not_mem_nil, or_false] at hf ⊢
      rcases hf with (hf | hf) | hf
      · exact .inr (.inr hf)
      · exact .inl hf
      · exact .inr (.inl hf)
    rw [List.cons_append, dupFrom, if_neg (hs g (by simp)), dup_last l _ _ f hn.2 hA hB, List.length_cons]
    congr 1
    omega
theorem signs_twice {L : List Fn} (hn : (L.map (·.name)).Nodup) (hl : L.length ≤ 19) (hok : ∀ f ∈ L, fnOk f = true ∧ fnNums f = true) {k : Nat} (hk : k < L.length) : signsOfM (L ++ [L[k]]) = ([], (L.length : Int), 11) := by
  have h1 : checkM (L ++ [L[k]]) = 0 := by
    unfold checkM
    rw [if_pos]
    refine ⟨by simp; omega, fun f hf => ?_⟩
    rw [List.mem_append, List.mem_singleton] at hf
    rcases hf with hf | rfl
    · exact hok f hf
    · exact hok _ (List.getElem_mem hk)
  have h2 := dup_last L [] 0 L[k] hn (by simp) (.inl (List.mem_map.2 ⟨L[k], List.getElem_mem hk, rfl⟩))
  unfold signsOfM signsM
  rw [if_pos h1, h2, Nat.zero_add]
/-- What SignsTwice leaves of main. -/
def lessOne (q : Nat) (f : Fn) : List Fn :=
  if f.name = mainB then (if q % 3 = 0 then [] else if q % 3 = 1 then [{ f with result := 1 + ((q / 3 % 3 : Nat) : Int) }] else [{ f with params := [⟨[97], 1 + ((q / 3 % 3 : Nat) : Int)⟩] }]) else [f]
def lessUp (L : List Fn) (q k : Nat) : List Fn := (L.take k).flatMap (lessOne q)
theorem lessUp_succ {L : List Fn} {q k : Nat} (h : k < L.length) : lessUp L q (k + 1) = lessUp L q k ++ lessOne q L[k] := by
  unfold lessUp
  rw [List.take_succ_eq_append_getElem h, List.flatMap_append, List.flatMap_singleton]
theorem lessOne_len (q : Nat) (f : Fn) : (lessOne q f).length ≤ 1 := by
  unfold lessOne
  split
  · split
    · simp
    · split <;> simp
  · simp
theorem lessUp_len (L : List Fn) (q : Nat) : ∀ k, (lessUp L q k).length ≤ k := by
  intro k
  induction k with
  | zero => simp [lessUp]
  | succ k ih =>
    by_cases h : k < L.length
    · rw [lessUp_succ h, List.length_append]
      have := lessOne_len q L[k]
      omega
    · unfold lessUp at ih ⊢
      rw [List.take_of_length_le (by omega)] at ih ⊢
      omega
theorem lessOne_name {q : Nat} {f g : Fn} (h : g ∈ lessOne q f) : g.name = f.name := by
  unfold lessOne at h
  split at h
  · split at h
    · cases h
    · split at h <;> (rw [List.mem_singleton] at h; rw [h])
  · rw [List.mem_singleton] at h
    rw [h]
theorem less_nodup (q : Nat) : ∀ {L : List Fn}, (L.map (·.name)).Nodup → ((L.flatMap (lessOne q)).map (·.name)).Nodup
  | [], _ => by simp
  | f :: L, h => by
    rw [List.map_cons, List.nodup_cons] at h
    rw [List.flatMap_cons, List.map_append, List.nodup_append]
    refine ⟨?_, less_nodup q h.2, fun a ha b hb e => ?_⟩
    · have := lessOne_len q f
      rcases hl : lessOne q f with _ | ⟨x, _ | ⟨y, t⟩⟩
      · simp
      · simp
      · rw [hl] at this; simp at this
    · obtain ⟨x, hx, rfl⟩ := List.mem_map.1 ha
      obtain ⟨y, hy, rfl⟩ := List.mem_map.1 hb
      obtain ⟨z, hz, hyz⟩ := List.mem_flatMap.1 hy
      rw [lessOne_name hx, lessOne_name hyz] at e
      exact h.1 (List.mem_map.2 ⟨z, hz, e.symm⟩)
theorem name_a : nameOk [97] = true := by decide +kernel
theorem lessOne_ok {q : Nat} {f : Fn} (h : fnOk f = true ∧ fnNums f = true) (hm : f.name = mainB → f = mainF) : ∀ g ∈ lessOne q f, fnOk g = true ∧ fnNums g = true := by
  intro g hg
  unfold lessOne at hg
  split at hg
  · rename_i hf
    have hf := hm hf
    subst hf
    split at hg
    · cases hg
    · have ht := typed_3 (q / 3 % 3) (Nat.mod_lt _ (by decide))
      have hn : nameOk mainB = true := by decide +kernel
      split at hg
      · rw [List.mem_singleton] at hg
        subst hg
        refine ⟨?_, by simp [fnNums, mainF, numsL, cntL]⟩
        simp only [fnOk, mainF, Bool.and_eq_true, decide_eq_true_eq]
        exact ⟨⟨⟨⟨hn, by simp⟩, by rw [ht, Bool.or_true]⟩, rfl⟩, by simp [wellM], by simp [cntL]⟩
      · rw [List.mem_singleton] at hg
        subst hg
        refine ⟨?_, by simp [fnNums, mainF, numsL, cntL]⟩
        simp only [fnOk, mainF, Bool.and_eq_true, decide_eq_true_eq]
        exact ⟨⟨⟨⟨hn, by simp⟩, by simp⟩, by simp only [List.all_cons, List.all_nil, pmOk, name_a, ht, Bool.and_true]⟩, by simp [wellM], by simp [cntL]⟩
  · rw [List.mem_singleton] at hg
    subst hg
    exact h
theorem signs_less {L : List Fn} (q : Nat) (hn : (L.map (·.name)).Nodup) (hl : L.length ≤ 20) (hok : ∀ f ∈ L, fnOk f = true ∧ fnNums f = true) (hm : ∀ f ∈ L, f.name = mainB → f = mainF) :
    signsOfM (lessUp L q L.length) = ([], -1, 15) := by
  have hll := lessUp_len L q L.length
  have e : lessUp L q L.length = L.flatMap (lessOne q) := by unfold lessUp; rw [List.take_length]
  rw [e] at hll ⊢
  have h1 : checkM (L.flatMap (lessOne q)) = 0 := by
    unfold checkM
    rw [if_pos]
    refine ⟨by omega, fun g hg => ?_⟩
    obtain ⟨f, hf, hgf⟩ := List.mem_flatMap.1 hg
    exact lessOne_ok (hok f hf) (hm f hf) g hgf
  have h2 := dup_none (L.flatMap (lessOne q)) [] 0 (less_nodup q hn) (by simp)
  have h3 : mainOk (L.flatMap (lessOne q)) = false := by
    unfold mainOk
    cases hfs : findSg ((L.flatMap (lessOne q)).map sgOf) mainB with
    | none => rfl
    | some s =>
      unfold findSg at hfs
      have h4 : s.name = mainB := by simpa using List.find?_some hfs
      obtain ⟨g, hg, rfl⟩ := List.mem_map.1 (List.mem_of_find?_eq_some hfs)
      obtain ⟨f, hf, hgf⟩ := List.mem_flatMap.1 hg
      have h5 : f.name = mainB := (lessOne_name hgf).symm.trans h4
      have h6 := hm f hf h5
      subst h6
      unfold lessOne at hgf
      rw [if_pos h5] at hgf
      split at hgf
      · cases hgf
      · split at hgf
        · rw [List.mem_singleton] at hgf
          subst hgf
          simp only [sgOf, Bool.and_eq_false_iff]
          exact .inr (decide_eq_false (by omega))
        · rw [List.mem_singleton] at hgf
          subst hgf
          simp [sgOf]
  unfold signsOfM signsM
  rw [if_pos h1, h2, h3]
  rfl
theorem dist_mainF {l : List Dr} {n : Nat} : ∀ f ∈ distM l n, f.name = mainB → f = mainF := by
  intro f hf he
  rcases dist_mem hf with h | ⟨d, rfl⟩
  · exact h
  · exact absurd he (drName_main d.name)
end Go.Proofs.YtnkmbddjekepkaaDoor
