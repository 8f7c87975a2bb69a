/- The signatures of a program: what the loop of signs.Of holds, in plain words. -/
import Derived.Test.YtnkmbddjekepkaaDoorSgG
import Derived.Test.YtnkmbddjekepkaaDoorMp
namespace Go.Proofs.YtnkmbddjekepkaaDoor
open Go Go.RowKit
set_option linter.unusedSimpArgs false
set_option linter.unusedVariables false
set_option linter.unnecessarySimpa false
/-- A signature, and where its parameters lie. -/
structure Sa where
  s : Sg
  a : Option Addr
  cap : Nat
def Sa.val (x : Sa) : Value := .agg #[.string ⟨x.s.name.toArray⟩, .slice x.a x.s.pars.length x.cap, .int .i64 x.s.res]
def Sa.pair (x : Sa) : Bytes × Value := (x.s.name, x.val)
/-- Its cells. -/
def SaC (w : World) (x : Sa) (c : List Value) : Prop := c = [.string ⟨x.s.name.toArray⟩, .slice x.a x.s.pars.length x.cap, .int .i64 x.s.res] ∧ x.s.wf ∧ Ints w x.s.pars x.a x.cap
theorem SaC.mono : Mono SaC := fun _ _ _ _ hh ⟨h1, h2, h3⟩ => ⟨h1, h2, h3.has hh⟩
theorem SaC.one {W : World} {x : Sa} {c : List Value} (h : SaC W x c) : ∀ u ∈ c, u.oneCell' = true := by
  obtain ⟨rfl, _⟩ := h
  simp [Value.oneCell']
theorem cut_sa {sz : Nat} {W : World} : ∀ {l : List Sa} {xs : List Value}, Cut sz (SaC W) l xs → Cut sz (SgC W) (l.map (·.s)) xs
  | [], _, h => h
  | x :: l, xs, h => by
    obtain ⟨c, r, rfl, hc, ⟨h1, h2, h3⟩, hr⟩ := h
    exact ⟨c, r, rfl, hc, ⟨x.a, x.cap, h1, h2, h3⟩, cut_sa hr⟩
theorem OwnL.sas {w : World} {base : Nat} {t : TypeId} {ban : List Nat} {v : Value} {l : List Sa} (h : OwnL w base t 3 SaC ban v l) : OwnL w base t 3 SgC ban v (l.map (·.s)) := by
  obtain ⟨xs, h1, h2⟩ := h
  exact ⟨xs, by rw [List.length_map]; exact h1, cut_sa h2⟩
/-- The first one with a name. -/
def findSa (l : List Sa) (n : Bytes) : Option Sa := l.find? fun x => decide (x.s.name = n)
/-- What the map holds is what the list holds. -/
def MapSa (l : List Sa) : Prop := ∀ n, mapAt (l.map Sa.pair) n = (findSa l n).map Sa.val
theorem MapSa.nil : MapSa [] := fun _ => rfl
theorem MapSa.snoc {l : List Sa} (h : MapSa l) {x : Sa} (hx : (mapAt (l.map Sa.pair) x.s.name).isSome = false) : MapSa (l ++ [x]) := by
  intro n
  rw [List.map_append]
  show mapAt (l.map Sa.pair ++ [(x.s.name, x.val)]) n = _
  rw [mapAt_snoc]
  have e : findSa (l ++ [x]) n = (findSa l n).or (if x.s.name = n then some x else none) := by
    unfold findSa
    rw [List.find?_append]
    congr 1
    by_cases hn : x.s.name = n <;> simp [hn]
  rw [e]
  by_cases hn : x.s.name = n
  · subst hn
    rw [h] at hx
    have h0 : findSa l x.s.name = none := by simpa using hx
    simp [h0]
  · rw [if_neg hn, if_neg hn, h n]
    simp
theorem findSa_sg (l : List Sa) (n : Bytes) : (findSa l n).map (·.s) = findSg (l.map (·.s)) n := by
  unfold findSa findSg
  rw [List.find?_map]
  rfl
theorem mapSa_some {l : List Sa} (h : MapSa l) (n : Bytes) : (mapAt (l.map Sa.pair) n).isSome = decide (n ∈ l.map (·.s.name)) := by
  rw [h n]
  unfold findSa
  rw [Bool.eq_iff_iff]
  simp
/-- The step of the search for a name that stands twice. -/
theorem dup_step {l : List Fn} {k : Nat} (hk : k < l.length) (seen : List Bytes) : dupFrom seen (l.drop k) k = if l[k].name ∈ seen then some k else dupFrom (seen ++ [l[k].name]) (l.drop (k + 1)) (k + 1) := by
  rw [List.drop_eq_getElem_cons hk]
  rfl
/-- What signs.Of answers. -/
def signsOfM (l : List Fn) : List Sg × Int × Int := if checkM l = 0 then signsM l else ([], 0, 2)
def SignsPost (o : List Sg × Int × Int) (w : World) (r : Ending) (w' : World) : Prop :=
  (∃ a cap, r = .returned (.tuple #[.slice a o.1.length cap, .int .i64 o.2.1, .int .i64 o.2.2]) ∧ Sgs w' o.1 a cap) ∧ Below w.heap.size w w'
theorem check_ok {l : List Fn} (h : checkM l = 0) : l.length ≤ 20 ∧ ∀ f ∈ l, f.params.length ≤ 8 := by
  unfold checkM at h
  split at h
  · rename_i h1
    refine ⟨h1.1, fun f hf => ?_⟩
    have h2 := (h1.2 f hf).1
    simp only [fnOk, Bool.and_eq_true, decide_eq_true_eq] at h2
    exact h2.1.1.1.2
  · cases h
end Go.Proofs.YtnkmbddjekepkaaDoor
