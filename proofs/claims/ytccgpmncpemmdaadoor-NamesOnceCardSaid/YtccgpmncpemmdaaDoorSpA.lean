/- shape.rows, typed and named in plain words; shape.head answers headM. -/
import Derived.Test.YtccgpmncpemmdaaDoorSpA0
import Derived.Test.YtccgpmncpemmdaaDoorShD0
namespace Go.Proofs.YtccgpmncpemmdaaDoor
open Go Go.RowKit
set_option linter.unusedSimpArgs false
set_option linter.unusedVariables false
set_option linter.unnecessarySimpa false
/-- The cells of the table of kinds. -/
def rowsL : List Value := [
  .bool false, .bool false, .bool false, .bool false, .bool false, .bool false, .int .i64 0, .int .i64 0,
  .bool true, .bool false, .bool true, .bool false, .bool false, .bool false, .int .i64 0, .int .i64 1,
  .bool true, .bool false, .bool false, .bool false, .bool false, .bool false, .int .i64 1, .int .i64 1,
  .bool true, .bool false, .bool false, .bool false, .bool false, .bool false, .int .i64 2, .int .i64 2,
  .bool true, .bool false, .bool false, .bool false, .bool false, .bool false, .int .i64 1, .int .i64 1,
  .bool true, .bool false, .bool false, .bool false, .bool false, .bool false, .int .i64 0, .int .i64 0,
  .bool false, .bool false, .bool false, .bool false, .bool false, .bool false, .int .i64 1, .int .i64 1,
  .bool false, .bool true, .bool false, .bool true, .bool false, .bool false, .int .i64 0, .int .i64 8,
  .bool false, .bool false, .bool false, .bool false, .bool false, .bool false, .int .i64 0, .int .i64 1,
  .bool false, .bool false, .bool false, .bool false, .bool true, .bool true, .int .i64 1, .int .i64 1,
  .bool false, .bool false, .bool false, .bool false, .bool true, .bool false, .int .i64 1, .int .i64 1]
/-- The table of kinds lies in block g. -/
structure RowAt (w : World) (g n : Nat) (x : Rw) : Prop where
  c0 : w.cell? ⟨g, n * 8, none⟩ = some (.bool x.name)
  c1 : w.cell? ⟨g, n * 8 + 1, none⟩ = some (.bool x.maybe)
  c2 : w.cell? ⟨g, n * 8 + 2, none⟩ = some (.bool x.typed)
  c3 : w.cell? ⟨g, n * 8 + 3, none⟩ = some (.bool x.callee)
  c4 : w.cell? ⟨g, n * 8 + 4, none⟩ = some (.bool x.body)
  c5 : w.cell? ⟨g, n * 8 + 5, none⟩ = some (.bool x.other)
  c6 : w.cell? ⟨g, n * 8 + 6, none⟩ = some (.int .i64 (x.least : Nat))
  c7 : w.cell? ⟨g, n * 8 + 7, none⟩ = some (.int .i64 (x.most : Nat))
theorem rowOf_range {n : Nat} {x : Rw} (h : rowOf (n : Int) = some x) : 1 ≤ n ∧ n ≤ 10 := by
  by_cases hn : 1 ≤ n ∧ n ≤ 10
  · exact hn
  · exfalso
    unfold rowOf at h
    repeat rw [if_neg (by omega)] at h
    cases h
theorem rows_get (w : World) (t : TypeId) (g : Nat) (hg : g = w.heap.size) {n : Nat} {x : Rw} (h : rowOf (n : Int) = some x) : RowAt (w.alloc (.cells rowsL.toArray t)) g n x := by
  subst hg
  have hn := rowOf_range h
  have key : ∀ (j : Nat) (u : Value), rowsL[n * 8 + j]? = some u → (w.alloc (.cells rowsL.toArray t)).cell? ⟨w.heap.size, n * 8 + j, none⟩ = some u := fun j u hu => cell_of_list _ _ _ _ _ hu
  have hc : n = 1 ∨ n = 2 ∨ n = 3 ∨ n = 4 ∨ n = 5 ∨ n = 6 ∨ n = 7 ∨ n = 8 ∨ n = 9 ∨ n = 10 := by omega
  rcases hc with rfl | rfl | rfl | rfl | rfl | rfl | rfl | rfl | rfl | rfl
  all_goals
    simp [rowOf] at h
    subst h
    exact ⟨key 0 _ rfl, key 1 _ rfl, key 2 _ rfl, key 3 _ rfl, key 4 _ rfl, key 5 _ rfl, key 6 _ rfl, key 7 _ rfl⟩
set_option maxRecDepth 1000000 in
set_option maxHeartbeats 4000000 in
theorem rows_any0 (w : World) : Calls Tryd.prog 76 #[] w fun e w' => e = .returned (.slice (some ⟨w.heap.size, 0, none⟩) 11 11) ∧ w' = w.alloc (.cells #[
  .bool false, .bool false, .bool false, .bool false, .bool false, .bool false, .int .i64 0, .int .i64 0,
  .bool true, .bool false, .bool true, .bool false, .bool false, .bool false, .int .i64 0, .int .i64 1,
  .bool true, .bool false, .bool false, .bool false, .bool false, .bool false, .int .i64 1, .int .i64 1,
  .bool true, .bool false, .bool false, .bool false, .bool false, .bool false, .int .i64 2, .int .i64 2,
  .bool true, .bool false, .bool false, .bool false, .bool false, .bool false, .int .i64 1, .int .i64 1,
  .bool true, .bool false, .bool false, .bool false, .bool false, .bool false, .int .i64 0, .int .i64 0,
  .bool false, .bool false, .bool false, .bool false, .bool false, .bool false, .int .i64 1, .int .i64 1,
  .bool false, .bool true, .bool false, .bool true, .bool false, .bool false, .int .i64 0, .int .i64 8,
  .bool false, .bool false, .bool false, .bool false, .bool false, .bool false, .int .i64 0, .int .i64 1,
  .bool false, .bool false, .bool false, .bool false, .bool true, .bool true, .int .i64 1, .int .i64 1,
  .bool false, .bool false, .bool false, .bool false, .bool true, .bool false, .int .i64 1, .int .i64 1] 141) := by
  go_enter Tryd.func76, Tryd.ntmps76
  go_wp2
  go_ret
  exact ⟨rfl, rfl⟩
set_option maxRecDepth 1000000 in
theorem rows_any (w : World) : Calls Tryd.prog 76 #[] w fun e w' => e = .returned (.slice (some ⟨w.heap.size, 0, none⟩) 11 11) ∧ (∀ (n : Nat) (x : Rw), rowOf (n : Int) = some x → RowAt w' w.heap.size n x) ∧ Below w.heap.size w w' := by
  refine (rows_any0 w).mono ?_
  rintro r w' ⟨rfl, rfl⟩
  exact ⟨rfl, fun n x h => rows_get w 141 w.heap.size rfl h, (bl w).al _⟩
theorem typed_any (t : Int) (w : World) : Calls Tryd.prog 51 #[.int .i64 t] w fun e w' => e = .returned (.bool (typedM t)) ∧ Below w.heap.size w w' := by
  have key : ∀ b : Bool, typedM t = b → Calls Tryd.prog 51 #[.int .i64 t] w fun e w' => e = .returned (.bool b) ∧ Below w.heap.size w w' := by
    intro b hb
    by_cases h1 : (1 : Int) ≤ t
    · by_cases h2 : t ≤ (3 : Int)
      · have HB : Hid (b = true) := hide (by rw [← hb]; simp [typedM, h1, h2])
        clear hb
        go_enter Tryd.func51, Tryd.ntmps51
        go_wp2
        go_ret
        exact ⟨ret_bool HB.out.symm, bl w⟩
      · have HB : Hid (b = false) := hide (by rw [← hb]; simp [typedM, h2])
        clear hb
        go_enter Tryd.func51, Tryd.ntmps51
        go_wp2
        go_ret
        exact ⟨ret_bool HB.out.symm, bl w⟩
    · have HB : Hid (b = false) := hide (by rw [← hb]; simp [typedM, h1])
      clear hb
      go_enter Tryd.func51, Tryd.ntmps51
      go_wp2
      go_ret
      exact ⟨ret_bool HB.out.symm, bl w⟩
  exact key _ rfl
set_option maxHeartbeats 2000000 in
theorem named_any (s : Bytes) (has can : Bool) (w : World) (hT : Tab w) (hs : s.length ≤ maxLen) : Calls Tryd.prog 77 #[.string ⟨s.toArray⟩, .bool has, .bool can] w fun e w' => e = .returned (.bool (namedM s has can)) ∧ Below w.heap.size w w' := by
  have hN : ∀ W, W = w → Calls Tryd.prog 50 #[.string ⟨s.toArray⟩] W fun e w' => e = .returned (.bool (nameOk s)) ∧ Below w.heap.size w w' := by
    rintro W rfl
    exact name_any s W hT hs
  clear hT hs
  obtain ⟨q, hq⟩ : ∃ q, nameOk s = q := ⟨_, rfl⟩
  rw [hq] at hN
  have HN := hide (hN w rfl)
  clear hN
  cases s with
  | nil =>
    have hq0 : q = false := by rw [← hq]; rfl
    subst hq0
    have HQ := hide hq
    clear hq
    cases has <;> cases can
    all_goals
      go_enter Tryd.func77, Tryd.ntmps77
      go_wp2_with fail
      refine HN.out.mono ?_
      rintro r w1 ⟨rfl, hb⟩
      go_wp2_with fail
      go_ret
      exact ⟨ret_bool (by unfold namedM; rw [HQ.out]; rfl), hb⟩
  | cons c t =>
    have HQ := hide hq
    clear hq
    cases q <;> cases has <;> cases can
    all_goals
      go_enter Tryd.func77, Tryd.ntmps77
      go_wp2_with fail
      refine HN.out.mono ?_
      rintro r w1 ⟨rfl, hb⟩
      go_wp2_with fail
      go_ret
      exact ⟨ret_bool (by unfold namedM; rw [HQ.out]; rfl), hb⟩
end Go.Proofs.YtccgpmncpemmdaaDoor
