/- Small laws on worlds, and the models at the examples of chapter 11. -/
import Derived.Test.YtfpikakgaghdbaaDoorTyF
namespace Go.Proofs.YtfpikakgaghdbaaDoor
open Go Go.RowKit
set_option linter.unusedSimpArgs false
set_option linter.unusedVariables false
set_option linter.unnecessarySimpa false
/-- What has been made so far: expressions and their values. -/
def Bag (w : World) (L : List (Ex × Value)) : Prop := ∀ x ∈ L, Ex.Val w x.1 x.2
theorem Bag.nil (w : World) : Bag w [] := fun x hx => by cases hx
theorem Bag.cons {w w1 : World} {L : List (Ex × Value)} {e : Ex} {v : Value} (h : Bag w L) (hb : Below w.heap.size w w1) (hv : Ex.Val w1 e v) : Bag w1 ((e, v) :: L) := by
  intro x hx
  rcases List.mem_cons.1 hx with rfl | hx
  · exact hv
  · exact (h x hx).keep hb (Nat.le_refl _)
theorem Bag.keep {w w1 : World} {L : List (Ex × Value)} (h : Bag w L) (hb : Below w.heap.size w w1) : Bag w1 L := fun x hx => (h x hx).keep hb (Nat.le_refl _)
theorem Bag.get {w : World} {L : List (Ex × Value)} (h : Bag w L) {e : Ex} {v : Value} (hm : (e, v) ∈ L) : Ex.Val w e v := h (e, v) hm
theorem Ex.At.keep' {w w' : World} {e : Ex} {b o : Nat} (h : Ex.At w e b o) (hb : Below w.heap.size w w') : Ex.At w' e b o := h.keep hb (Nat.le_refl _)
/-- An expression, its type and its error, as the examples have them. -/
def tstCells (x : Ex × Option Addr × Nat × Int × Int) : List Value :=
  [.int .i64 x.1.kind, .int .i64 x.1.op, .int .i64 x.1.num, .string ⟨x.1.name.toArray⟩, .slice x.2.1 x.1.args.length x.2.2.1, .int .i64 x.2.2.2.1, .int .i64 x.2.2.2.2]
def Tst (w : World) (e : Ex) (t f : Int) (b o : Nat) : Prop := Ex.At w e b o ∧ w.cell? ⟨b, o + 5, none⟩ = some (.int .i64 t) ∧ w.cell? ⟨b, o + 6, none⟩ = some (.int .i64 f)
theorem tst_alloc (w : World) (L : List (Ex × Option Addr × Nat × Int × Int)) (t : TypeId) (hv : ∀ x ∈ L, Ex.Val w x.1 (.agg #[.int .i64 x.1.kind, .int .i64 x.1.op, .int .i64 x.1.num, .string ⟨x.1.name.toArray⟩, .slice x.2.1 x.1.args.length x.2.2.1])) :
    ∀ (i : Nat) (h : i < L.length), Tst (w.alloc (.cells (L.flatMap tstCells).toArray t)) L[i].1 L[i].2.2.2.1 L[i].2.2.2.2 w.heap.size (i * 7) := by
  have key : ∀ (l : List (Ex × Option Addr × Nat × Int × Int)) (i j : Nat) (v : Value) (h : i < l.length), (tstCells l[i])[j]? = some v → j < 7 → (l.flatMap tstCells)[i * 7 + j]? = some v := by
    intro l
    induction l with
    | nil => intro i j v h; exact absurd h (Nat.not_lt_zero _)
    | cons r l ih =>
      intro i j v h hv hj
      have h4 : (tstCells r).length = 7 := rfl
      cases i with
      | zero =>
        rw [List.flatMap_cons, List.getElem?_append_left (by omega)]
        simpa using hv
      | succ i =>
        rw [List.flatMap_cons, List.getElem?_append_right (by omega), h4, show (i + 1) * 7 + j - 7 = i * 7 + j from by omega]
        exact ih i j v (by simpa using h) (by simpa using hv) hj
  intro i hi
  obtain ⟨a, cap, hva, hw, hr⟩ := hv L[i] (List.getElem_mem hi)
  simp only [Value.agg.injEq, Array.mk.injEq, List.cons.injEq, Value.slice.injEq, true_and, and_true] at hva
  obtain ⟨rfl, rfl⟩ := hva
  exact ⟨Ex.At.of hw (hr.keep ((bl w).al _) (Nat.le_refl _)) (cell_of_list _ _ _ _ _ (key L i 0 _ hi rfl (by omega))) (cell_of_list _ _ _ _ _ (key L i 1 _ hi rfl (by omega))) (cell_of_list _ _ _ _ _ (key L i 2 _ hi rfl (by omega))) (cell_of_list _ _ _ _ _ (key L i 3 _ hi rfl (by omega))) (cell_of_list _ _ _ _ _ (key L i 4 _ hi rfl (by omega))),
    cell_of_list _ _ _ _ _ (key L i 5 _ hi rfl (by omega)), cell_of_list _ _ _ _ _ (key L i 6 _ hi rfl (by omega))⟩
def Tests (w : World) (T : List (Ex × Int × Int)) (b : Nat) : Prop := ∀ (i : Nat) (h : i < T.length), Tst w T[i].1 T[i].2.1 T[i].2.2 b (i * 7)
theorem tests_alloc (w : World) (L : List (Ex × Option Addr × Nat × Int × Int)) (t : TypeId) (T : List (Ex × Int × Int)) (hT : (L.map fun x => (x.1, x.2.2.2.1, x.2.2.2.2)) = T)
    (hv : ∀ x ∈ L, Ex.Val w x.1 (.agg #[.int .i64 x.1.kind, .int .i64 x.1.op, .int .i64 x.1.num, .string ⟨x.1.name.toArray⟩, .slice x.2.1 x.1.args.length x.2.2.1])) : Tests (w.alloc (.cells (L.flatMap tstCells).toArray t)) T w.heap.size := by
  subst hT
  intro i hi
  have := tst_alloc w L t hv i (by simpa using hi)
  simpa using this
theorem Tests.keep {w w' : World} {T : List (Ex × Int × Int)} {b : Nat} (h : Tests w T b) (hb : Below w.heap.size w w') : Tests w' T b := fun i hi =>
  let ⟨h1, h2, h3⟩ := h i hi
  ⟨h1.keep hb (Nat.le_refl _), cell_keep h2 hb (Nat.le_refl _), cell_keep h3 hb (Nat.le_refl _)⟩
theorem val_plain (w : World) (k : Int) (s : Bytes) (hk : I64 k) (hs : s.length ≤ maxLen) : Ex.Val w (.mk k 0 0 s []) (.agg #[.int .i64 k, .int .i64 0, .int .i64 0, .string ⟨s.toArray⟩, .slice none 0 0]) :=
  ⟨none, 0, rfl, ⟨hk, (show I64 0 from i64_small (by decide)), (show I64 0 from i64_small (by decide)), hs, Nat.le_refl _, Nat.zero_le _⟩, trivial⟩
theorem cut_world {P : Program} {c : Code} {Q : Exit → Act → World → Prop} {a : Act} {w : World} (Φ : World → Prop) (hΦ : Φ w) (h : ∀ w', Φ w' → c.wp P Q a w') : c.wp P Q a w := h w hΦ
def tests : List (Ex × Int × Int) := [(.mk 5 1 0 [] [.mk 3 0 0 [120] [], .mk 7 0 0 [97] []], 1, 0), (.mk 5 12 0 [] [.mk 5 8 0 [] [.mk 6 0 0 [97] [.mk 3 0 0 [120] []], .mk 1 0 2 [] []], .mk 3 0 0 [98] []], 2, 0), (.mk 3 0 0 [121] [], 0, 11),
  (.mk 5 1 0 [] [.mk 3 0 0 [98] [], .mk 3 0 0 [122] []], 0, 11), (.mk 5 1 0 [] [.mk 3 0 0 [98] [], .mk 3 0 0 [120] []], 0, 12), (.mk 6 0 0 [120] [.mk 3 0 0 [121] []], 0, 11), (.mk 6 0 0 [120] [.mk 3 0 0 [98] []], 0, 12), (.mk 6 0 0 [97] [.mk 3 0 0 [98] []], 0, 12), (.mk 7 0 0 [120] [], 0, 12), (.mk 0 0 0 [] [], 0, 2)]
theorem tests_ok : ∀ x ∈ tests, OfM exVars 1 x.1 = x.2 := by decide +kernel
theorem exVars_wf : ∀ v ∈ exVars, v.wf := by
  intro v hv
  simp only [exVars, List.mem_cons, List.not_mem_nil, or_false] at hv
  rcases hv with rfl | rfl | rfl | rfl <;> exact ⟨by decide, i64_small (by decide), i64_small (by decide), i64_small (by decide), i64_small (by decide)⟩
theorem uses_ok : usesM exVars (.mk 5 1 0 [] [.mk 3 0 0 [120] [], .mk 5 3 0 [] [.mk 6 0 0 [97] [.mk 3 0 0 [121] []], .mk 3 0 0 [122] []]]) = [0, 2, 3] := by decide +kernel
end Go.Proofs.YtfpikakgaghdbaaDoor
