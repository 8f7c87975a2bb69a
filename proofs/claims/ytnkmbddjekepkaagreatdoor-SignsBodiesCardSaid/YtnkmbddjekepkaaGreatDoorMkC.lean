/- The source of a draft: expr answers the model's expression, in new memory, and changes only the source's own cells. -/
import Derived.Test.YtnkmbddjekepkaaGreatDoorMkB
import Derived.Test.YtnkmbddjekepkaaGreatDoorOwn
namespace Go.Proofs.YtnkmbddjekepkaaGreatDoor
open Go Go.RowKit
set_option linter.unusedSimpArgs false
set_option linter.unusedVariables false
set_option linter.unnecessarySimpa false
/-- What a part of the source answers of an expression. -/
def ExPost (w : World) (sb : Nat) (L : List Nat) (left : Nat) (q : Ex × Nat) (r : Ending) (w' : World) : Prop :=
  (∃ v, r = .returned v ∧ Ex.Val (nw w.heap.size w') q.1 v) ∧ Src w' sb L q.2 left ∧ Kept [sb] w w'
theorem fin5 {w W : World} {sb p left : Nat} {L : List Nat} (v0 v1 v2 v3 v4 : Value) (h1 : Src W sb L p left) (h2 : Kept [sb] w W) (hsb : sb < w.heap.size) : Src (((((W.setCell ⟨w.heap.size, 0, none⟩ v0).setCell ⟨w.heap.size, 1, none⟩ v1).setCell ⟨w.heap.size, 2, none⟩ v2).setCell ⟨w.heap.size, 3, none⟩ v3).setCell ⟨w.heap.size, 4, none⟩ v4) sb L p left ∧ Kept [sb] w (((((W.setCell ⟨w.heap.size, 0, none⟩ v0).setCell ⟨w.heap.size, 1, none⟩ v1).setCell ⟨w.heap.size, 2, none⟩ v2).setCell ⟨w.heap.size, 3, none⟩ v3).setCell ⟨w.heap.size, 4, none⟩ v4) :=
  ⟨((((h1.setNew hsb _ _).setNew hsb _ _).setNew hsb _ _).setNew hsb _ _).setNew hsb _ _, ((((h2.set (.inr (Nat.le_refl _)) _ _).set (.inr (Nat.le_refl _)) _ _).set (.inr (Nat.le_refl _)) _ _).set (.inr (Nat.le_refl _)) _ _).set (.inr (Nat.le_refl _)) _ _⟩
/-- What lies beyond the block that is written. -/
theorem row5 {w W : World} {n : Nat} {es : List Ex} {a : Option Addr} (v0 v1 v2 v3 v4 : Value) (hn : w.heap.size < n) (h : Ex.Row (nw n W) es a) : Ex.Row (nw w.heap.size (((((W.setCell ⟨w.heap.size, 0, none⟩ v0).setCell ⟨w.heap.size, 1, none⟩ v1).setCell ⟨w.heap.size, 2, none⟩ v2).setCell ⟨w.heap.size, 3, none⟩ v3).setCell ⟨w.heap.size, 4, none⟩ v4)) es a :=
  (h.has (has_nw_one (((((((Kept.refl [w.heap.size] W).set (.inl (by simp)) _ _).set (.inl (by simp)) _ _).set (.inl (by simp)) _ _).set (.inl (by simp)) _ _).set (.inl (by simp)) _ _)) hn)).has (has_nws (Nat.le_of_lt hn))
/-- What the block that is written then holds, also when there is a new block. -/
theorem read5 {w W : World} (v0 v1 v2 v3 v4 : Value) {C : Array Value} {t : TypeId} (h : W.heap[w.heap.size]? = some (.cells C t (0, 0))) (hC : C.size = 5) (o : Obj) :
    ((((((W.setCell ⟨w.heap.size, 0, none⟩ v0).setCell ⟨w.heap.size, 1, none⟩ v1).setCell ⟨w.heap.size, 2, none⟩ v2).setCell ⟨w.heap.size, 3, none⟩ v3).setCell ⟨w.heap.size, 4, none⟩ v4).alloc o).cell? ⟨w.heap.size, 0, none⟩ = some v0 ∧ ((((((W.setCell ⟨w.heap.size, 0, none⟩ v0).setCell ⟨w.heap.size, 1, none⟩ v1).setCell ⟨w.heap.size, 2, none⟩ v2).setCell ⟨w.heap.size, 3, none⟩ v3).setCell ⟨w.heap.size, 4, none⟩ v4).alloc o).cell? ⟨w.heap.size, 1, none⟩ = some v1 ∧ ((((((W.setCell ⟨w.heap.size, 0, none⟩ v0).setCell ⟨w.heap.size, 1, none⟩ v1).setCell ⟨w.heap.size, 2, none⟩ v2).setCell ⟨w.heap.size, 3, none⟩ v3).setCell ⟨w.heap.size, 4, none⟩ v4).alloc o).cell? ⟨w.heap.size, 2, none⟩ = some v2 ∧
    ((((((W.setCell ⟨w.heap.size, 0, none⟩ v0).setCell ⟨w.heap.size, 1, none⟩ v1).setCell ⟨w.heap.size, 2, none⟩ v2).setCell ⟨w.heap.size, 3, none⟩ v3).setCell ⟨w.heap.size, 4, none⟩ v4).alloc o).cell? ⟨w.heap.size, 3, none⟩ = some v3 ∧ ((((((W.setCell ⟨w.heap.size, 0, none⟩ v0).setCell ⟨w.heap.size, 1, none⟩ v1).setCell ⟨w.heap.size, 2, none⟩ v2).setCell ⟨w.heap.size, 3, none⟩ v3).setCell ⟨w.heap.size, 4, none⟩ v4).alloc o).cell? ⟨w.heap.size, 4, none⟩ = some v4 := by
  have hlt := (Array.getElem?_eq_some_iff.1 h).1
  have h5 : (((((W.setCell ⟨w.heap.size, 0, none⟩ v0).setCell ⟨w.heap.size, 1, none⟩ v1).setCell ⟨w.heap.size, 2, none⟩ v2).setCell ⟨w.heap.size, 3, none⟩ v3).setCell ⟨w.heap.size, 4, none⟩ v4).heap[w.heap.size]? = some (.cells #[v0, v1, v2, v3, v4] t (0, 0)) := by
    simp only [World.setCell, Array.getElem?_modify, if_true, h, Option.map_some]
    obtain ⟨l⟩ := C
    match l, hC with
    | [a, b, c, d, e], _ => simp
  have h6 : ((((((W.setCell ⟨w.heap.size, 0, none⟩ v0).setCell ⟨w.heap.size, 1, none⟩ v1).setCell ⟨w.heap.size, 2, none⟩ v2).setCell ⟨w.heap.size, 3, none⟩ v3).setCell ⟨w.heap.size, 4, none⟩ v4).alloc o).heap[w.heap.size]? = some (.cells #[v0, v1, v2, v3, v4] t (0, 0)) := by
    rw [Below.heap_alloc _ _ _ (by simpa [World.setCell] using hlt)]
    exact h5
  exact ⟨cell_at h6 rfl, cell_at h6 rfl, cell_at h6 rfl, cell_at h6 rfl, cell_at h6 rfl⟩
theorem size5 {w W : World} (v0 v1 v2 v3 v4 : Value) : (((((W.setCell ⟨w.heap.size, 0, none⟩ v0).setCell ⟨w.heap.size, 1, none⟩ v1).setCell ⟨w.heap.size, 2, none⟩ v2).setCell ⟨w.heap.size, 3, none⟩ v3).setCell ⟨w.heap.size, 4, none⟩ v4).heap.size = W.heap.size := by simp [World.setCell]
def nodeV (k o : Int) (s : Bytes) (g n : Nat) : Value := .agg #[.int .i64 k, .int .i64 o, .int .i64 0, .string ⟨s.toArray⟩, .slice (some ⟨g, 0, none⟩) n n]
theorem one_le : 1 ≤ maxLen := by unfold maxLen; omega
theorem num5_get (k : Nat) (hk : k < 5) : (num5.map (Value.int .i64))[k]? = some (.int .i64 num5[k]!) := by rw [List.getElem?_map, List.getElem?_eq_getElem (show k < num5.length from hk), getElem!_pos num5 k hk]; rfl
set_option maxRecDepth 20000 in
set_option maxHeartbeats 2000000 in
theorem sexpr_bool (sb left : Nat) (L : List Nat) (d : Nat) (w : World) (p : Nat) (h : Src w sb L p left) (k p1 : Nat) (hq9 : nextD L 9 p = (k, p1)) (hk : k = 2) :
    Calls Tryz.prog 97 #[.pointer (some ⟨sb, 0, none⟩), .int .i64 (d + 1 : Nat)] w (ExPost w sb L left (exprD L (d + 1) p)) := by
  subst hk
  have HN : Hid (∀ (n p : Nat) (hn : 0 < n) (hn2 : n ≤ 1000) (W : World) (hW : Src W sb L p left), _) := hide fun n p hn hn2 W hW => next_any sb left n p L W hW hn hn2
  have HNM := hide fun (p : Nat) (W : World) (hW : Src W sb L p left) => sname_any sb left p L W hW
  have HSRC := hide (h.al (.cells #[.int .i64 0, .int .i64 0, .int .i64 0, .string ⟨#[]⟩, .slice none 0 0] 110))
  have hsb := h.lt
  have HZ0 : Hid ((w.alloc (.cells #[.int .i64 0, .int .i64 0, .int .i64 0, .string ⟨#[]⟩, .slice none 0 0] 110)).heap[w.heap.size]? = some (.cells #[.int .i64 0, .int .i64 0, .int .i64 0, .string ⟨#[]⟩, .slice none 0 0] 110 (0, 0))) := hide (by show (w.heap.push _)[w.heap.size]? = _; simp)
  have hk9 := nextD_lt L (n := 9) p (by omega)
  have HK0 := hide ((Kept.refl [sb] w).al (.cells #[.int .i64 0, .int .i64 0, .int .i64 0, .string ⟨#[]⟩, .slice none 0 0] 110))
  clear h
  clear hk9
  have hsm : ∀ (n q : Nat), 0 < n → n ≤ 20 → I64 ((nextD L n q).1 : Nat) ∧ I64 (14 + ((nextD L n q).1 : Nat)) ∧ I64 (1 + ((nextD L n q).1 : Nat)) := fun n q h0 h1 => by
    have := nextD_lt L q h0
    exact ⟨i64_sm (by omega), i64_sm (by omega), i64_sm (by omega)⟩
  have HSM := hide hsm
  have i0 : I64 0 := i64_sm (by decide)
  have HI0 := hide i0
  have hns := fun q => (nm5_ok _ (nameD_mem L q)).2
  have HNS := hide hns
  have hn5 := fun q => num5_ok (num5[(nextD L 5 q).1]!) (by rw [getElem!_pos num5 _ (nextD_lt L q (by omega))]; exact List.getElem_mem _)
  have HN5 := hide hn5
  clear hsm i0 hns hn5
  rcases Nat.eq_zero_or_pos d with rfl | hd0
  · have e : exprD L (0 + 1) p = (.mk 2 0 ((nextD L 2 p1).1 : Nat) [] [], (nextD L 2 p1).2) := by rw [exprD]; simp [hq9, kindD]
    rw [e]
    clear e
    go_enter Tryz.func97, Tryz.ntmps97
    go_wp2_with fail
    refine (HN.out 9 p (by omega) (by omega) _ HSRC.out).mono ?_
    rintro r w2 ⟨hr, HS, hK⟩
    rw [hq9] at hr HS
    subst hr
    have HZ := hide (hK.heap (by simp; omega) HZ0.out)
    go_wp2_with fail
    refine (HN.out 2 p1 (by omega) (by omega) _ HS).mono ?_
    rintro r w3 ⟨rfl, HS3, hK3⟩
    have HZ := hide (hK3.heap (by simp; omega) HZ.out)
    have q0 := cell_at (j := 0) HZ.out rfl
    have q1 := cell_at (j := 1) HZ.out rfl
    have q2 := cell_at (j := 2) HZ.out rfl
    have q3 := cell_at (j := 3) HZ.out rfl
    have q4 := cell_at (j := 4) HZ.out rfl
    have z0 := free_at (j := 0) HZ.out
    have z1 := free_at (j := 1) HZ.out
    have z2 := free_at (j := 2) HZ.out
    have z3 := free_at (j := 3) HZ.out
    have z4 := free_at (j := 4) HZ.out
    have hzl := cell_lt q0
    simp only at hzl
    go_wp2_with fail
    have hfin := fin5 (.int .i64 2) (.int .i64 0) (.int .i64 ((nextD L 2 p1).1 : Nat)) (.string ⟨#[]⟩) (.slice none 0 0) HS3 ((HK0.out.tr hK).tr hK3) hsb
    exact bodyPost_ret (v := leafV 2 0 ((nextD L 2 p1).1 : Nat) []) (by simp [results, Tryz.results97, go_sem, q0, q1, q2, q3, q4, leafV, nodeV]) rfl ⟨⟨_, rfl, leaf_val _ (show I64 2 from i64_sm (by decide)) HI0.out (HSM.out 2 p1 (by omega) (by omega)).1 (Nat.zero_le _)⟩, hfin.1, hfin.2⟩
  · have hd1 : (1 : Int) ≤ (d : Int) := by omega
    have hd2 : ¬ ((d : Int) + 1 ≤ 1) := by omega
    have hdz : d ≠ 0 := by omega
    have e : exprD L (d + 1) p = (.mk 2 0 ((nextD L 2 p1).1 : Nat) [] [], (nextD L 2 p1).2) := by rw [exprD]; simp [hq9, kindD]
    rw [e]
    clear e
    go_enter Tryz.func97, Tryz.ntmps97
    go_wp2_with fail
    refine (HN.out 9 p (by omega) (by omega) _ HSRC.out).mono ?_
    rintro r w2 ⟨hr, HS, hK⟩
    rw [hq9] at hr HS
    subst hr
    have HZ := hide (hK.heap (by simp; omega) HZ0.out)
    go_wp2_with fail
    refine (HN.out 2 p1 (by omega) (by omega) _ HS).mono ?_
    rintro r w3 ⟨rfl, HS3, hK3⟩
    have HZ := hide (hK3.heap (by simp; omega) HZ.out)
    have q0 := cell_at (j := 0) HZ.out rfl
    have q1 := cell_at (j := 1) HZ.out rfl
    have q2 := cell_at (j := 2) HZ.out rfl
    have q3 := cell_at (j := 3) HZ.out rfl
    have q4 := cell_at (j := 4) HZ.out rfl
    have z0 := free_at (j := 0) HZ.out
    have z1 := free_at (j := 1) HZ.out
    have z2 := free_at (j := 2) HZ.out
    have z3 := free_at (j := 3) HZ.out
    have z4 := free_at (j := 4) HZ.out
    have hzl := cell_lt q0
    simp only at hzl
    go_wp2_with fail
    have hfin := fin5 (.int .i64 2) (.int .i64 0) (.int .i64 ((nextD L 2 p1).1 : Nat)) (.string ⟨#[]⟩) (.slice none 0 0) HS3 ((HK0.out.tr hK).tr hK3) hsb
    exact bodyPost_ret (v := leafV 2 0 ((nextD L 2 p1).1 : Nat) []) (by simp [results, Tryz.results97, go_sem, q0, q1, q2, q3, q4, leafV, nodeV]) rfl ⟨⟨_, rfl, leaf_val _ (show I64 2 from i64_sm (by decide)) HI0.out (HSM.out 2 p1 (by omega) (by omega)).1 (Nat.zero_le _)⟩, hfin.1, hfin.2⟩
set_option maxRecDepth 20000 in
set_option maxHeartbeats 2000000 in
theorem sexpr_len (sb left : Nat) (L : List Nat) (d : Nat) (w : World) (p : Nat) (h : Src w sb L p left) (k p1 : Nat) (hq9 : nextD L 9 p = (k, p1)) (hk : k = 8) :
    Calls Tryz.prog 97 #[.pointer (some ⟨sb, 0, none⟩), .int .i64 (d + 1 : Nat)] w (ExPost w sb L left (exprD L (d + 1) p)) := by
  subst hk
  have HN : Hid (∀ (n p : Nat) (hn : 0 < n) (hn2 : n ≤ 1000) (W : World) (hW : Src W sb L p left), _) := hide fun n p hn hn2 W hW => next_any sb left n p L W hW hn hn2
  have HNM := hide fun (p : Nat) (W : World) (hW : Src W sb L p left) => sname_any sb left p L W hW
  have HSRC := hide (h.al (.cells #[.int .i64 0, .int .i64 0, .int .i64 0, .string ⟨#[]⟩, .slice none 0 0] 110))
  have hsb := h.lt
  have HZ0 : Hid ((w.alloc (.cells #[.int .i64 0, .int .i64 0, .int .i64 0, .string ⟨#[]⟩, .slice none 0 0] 110)).heap[w.heap.size]? = some (.cells #[.int .i64 0, .int .i64 0, .int .i64 0, .string ⟨#[]⟩, .slice none 0 0] 110 (0, 0))) := hide (by show (w.heap.push _)[w.heap.size]? = _; simp)
  have hk9 := nextD_lt L (n := 9) p (by omega)
  have HK0 := hide ((Kept.refl [sb] w).al (.cells #[.int .i64 0, .int .i64 0, .int .i64 0, .string ⟨#[]⟩, .slice none 0 0] 110))
  clear h
  clear hk9
  have hsm : ∀ (n q : Nat), 0 < n → n ≤ 20 → I64 ((nextD L n q).1 : Nat) ∧ I64 (14 + ((nextD L n q).1 : Nat)) ∧ I64 (1 + ((nextD L n q).1 : Nat)) := fun n q h0 h1 => by
    have := nextD_lt L q h0
    exact ⟨i64_sm (by omega), i64_sm (by omega), i64_sm (by omega)⟩
  have HSM := hide hsm
  have i0 : I64 0 := i64_sm (by decide)
  have HI0 := hide i0
  have hns := fun q => (nm5_ok _ (nameD_mem L q)).2
  have HNS := hide hns
  have hn5 := fun q => num5_ok (num5[(nextD L 5 q).1]!) (by rw [getElem!_pos num5 _ (nextD_lt L q (by omega))]; exact List.getElem_mem _)
  have HN5 := hide hn5
  clear hsm i0 hns hn5
  rcases Nat.eq_zero_or_pos d with rfl | hd0
  · have e : exprD L (0 + 1) p = (.mk 7 0 0 (nameD L p1).1 [], (nameD L p1).2) := by rw [exprD]; simp [hq9, kindD]
    rw [e]
    clear e
    go_enter Tryz.func97, Tryz.ntmps97
    go_wp2_with fail
    refine (HN.out 9 p (by omega) (by omega) _ HSRC.out).mono ?_
    rintro r w2 ⟨hr, HS, hK⟩
    rw [hq9] at hr HS
    subst hr
    have HZ := hide (hK.heap (by simp; omega) HZ0.out)
    go_wp2_with fail
    refine (HNM.out p1 _ HS).mono ?_
    rintro r w3 ⟨rfl, HS3, hK3⟩
    have HZ := hide (hK3.heap (by simp; omega) HZ.out)
    have q0 := cell_at (j := 0) HZ.out rfl
    have q1 := cell_at (j := 1) HZ.out rfl
    have q2 := cell_at (j := 2) HZ.out rfl
    have q3 := cell_at (j := 3) HZ.out rfl
    have q4 := cell_at (j := 4) HZ.out rfl
    have z0 := free_at (j := 0) HZ.out
    have z1 := free_at (j := 1) HZ.out
    have z2 := free_at (j := 2) HZ.out
    have z3 := free_at (j := 3) HZ.out
    have z4 := free_at (j := 4) HZ.out
    have hzl := cell_lt q0
    simp only at hzl
    go_wp2_with fail
    have hfin := fin5 (.int .i64 7) (.int .i64 0) (.int .i64 0) (.string ⟨(nameD L p1).1.toArray⟩) (.slice none 0 0) HS3 ((HK0.out.tr hK).tr hK3) hsb
    exact bodyPost_ret (v := leafV 7 0 0 (nameD L p1).1) (by simp [results, Tryz.results97, go_sem, q0, q1, q2, q3, q4, leafV, nodeV]) rfl ⟨⟨_, rfl, leaf_val _ (show I64 7 from i64_sm (by decide)) HI0.out HI0.out (by have := HNS.out p1; unfold maxLen; omega)⟩, hfin.1, hfin.2⟩
  · have hd1 : (1 : Int) ≤ (d : Int) := by omega
    have hd2 : ¬ ((d : Int) + 1 ≤ 1) := by omega
    have hdz : d ≠ 0 := by omega
    have e : exprD L (d + 1) p = (.mk 7 0 0 (nameD L p1).1 [], (nameD L p1).2) := by rw [exprD]; simp [hq9, kindD]
    rw [e]
    clear e
    go_enter Tryz.func97, Tryz.ntmps97
    go_wp2_with fail
    refine (HN.out 9 p (by omega) (by omega) _ HSRC.out).mono ?_
    rintro r w2 ⟨hr, HS, hK⟩
    rw [hq9] at hr HS
    subst hr
    have HZ := hide (hK.heap (by simp; omega) HZ0.out)
    go_wp2_with fail
    refine (HNM.out p1 _ HS).mono ?_
    rintro r w3 ⟨rfl, HS3, hK3⟩
    have HZ := hide (hK3.heap (by simp; omega) HZ.out)
    have q0 := cell_at (j := 0) HZ.out rfl
    have q1 := cell_at (j := 1) HZ.out rfl
    have q2 := cell_at (j := 2) HZ.out rfl
    have q3 := cell_at (j := 3) HZ.out rfl
    have q4 := cell_at (j := 4) HZ.out rfl
    have z0 := free_at (j := 0) HZ.out
    have z1 := free_at (j := 1) HZ.out
    have z2 := free_at (j := 2) HZ.out
    have z3 := free_at (j := 3) HZ.out
    have z4 := free_at (j := 4) HZ.out
    have hzl := cell_lt q0
    simp only at hzl
    go_wp2_with fail
    have hfin := fin5 (.int .i64 7) (.int .i64 0) (.int .i64 0) (.string ⟨(nameD L p1).1.toArray⟩) (.slice none 0 0) HS3 ((HK0.out.tr hK).tr hK3) hsb
    exact bodyPost_ret (v := leafV 7 0 0 (nameD L p1).1) (by simp [results, Tryz.results97, go_sem, q0, q1, q2, q3, q4, leafV, nodeV]) rfl ⟨⟨_, rfl, leaf_val _ (show I64 7 from i64_sm (by decide)) HI0.out HI0.out (by have := HNS.out p1; unfold maxLen; omega)⟩, hfin.1, hfin.2⟩
set_option maxRecDepth 20000 in
set_option maxHeartbeats 2000000 in
theorem sexpr_num0 (sb left : Nat) (L : List Nat) (d : Nat) (w : World) (p : Nat) (h : Src w sb L p left) (k p1 : Nat) (hq9 : nextD L 9 p = (k, p1)) (hk : k = 0) :
    Calls Tryz.prog 97 #[.pointer (some ⟨sb, 0, none⟩), .int .i64 (d + 1 : Nat)] w (ExPost w sb L left (exprD L (d + 1) p)) := by
  subst hk
  have HN : Hid (∀ (n p : Nat) (hn : 0 < n) (hn2 : n ≤ 1000) (W : World) (hW : Src W sb L p left), _) := hide fun n p hn hn2 W hW => next_any sb left n p L W hW hn hn2
  have HNM := hide fun (p : Nat) (W : World) (hW : Src W sb L p left) => sname_any sb left p L W hW
  have HSRC := hide (h.al (.cells #[.int .i64 0, .int .i64 0, .int .i64 0, .string ⟨#[]⟩, .slice none 0 0] 110))
  have hsb := h.lt
  have HZ0 : Hid ((w.alloc (.cells #[.int .i64 0, .int .i64 0, .int .i64 0, .string ⟨#[]⟩, .slice none 0 0] 110)).heap[w.heap.size]? = some (.cells #[.int .i64 0, .int .i64 0, .int .i64 0, .string ⟨#[]⟩, .slice none 0 0] 110 (0, 0))) := hide (by show (w.heap.push _)[w.heap.size]? = _; simp)
  have hk9 := nextD_lt L (n := 9) p (by omega)
  have HK0 := hide ((Kept.refl [sb] w).al (.cells #[.int .i64 0, .int .i64 0, .int .i64 0, .string ⟨#[]⟩, .slice none 0 0] 110))
  clear h
  clear hk9
  have hsm : ∀ (n q : Nat), 0 < n → n ≤ 20 → I64 ((nextD L n q).1 : Nat) ∧ I64 (14 + ((nextD L n q).1 : Nat)) ∧ I64 (1 + ((nextD L n q).1 : Nat)) := fun n q h0 h1 => by
    have := nextD_lt L q h0
    exact ⟨i64_sm (by omega), i64_sm (by omega), i64_sm (by omega)⟩
  have HSM := hide hsm
  have i0 : I64 0 := i64_sm (by decide)
  have HI0 := hide i0
  have hns := fun q => (nm5_ok _ (nameD_mem L q)).2
  have HNS := hide hns
  have hn5 := fun q => num5_ok (num5[(nextD L 5 q).1]!) (by rw [getElem!_pos num5 _ (nextD_lt L q (by omega))]; exact List.getElem_mem _)
  have HN5 := hide hn5
  clear hsm i0 hns hn5
  rcases Nat.eq_zero_or_pos d with rfl | hd0
  · have e : exprD L (0 + 1) p = (.mk 1 0 num5[(nextD L 5 p1).1]! [] [], (nextD L 5 p1).2) := by rw [exprD]; simp [hq9, kindD]
    rw [e]
    clear e
    have hk5 := nextD_lt L (n := 5) p1 (by omega)
    have hk5' : ((nextD L 5 p1).1 : Int) < 5 := by omega
    have hc5 := num5_get _ hk5
    have hi5 : I64 (num5[(nextD L 5 p1).1]!) := by have := HN5.out p1; unfold I64; omega
    have HI5 := hide hi5
    clear hi5
    generalize num5[(nextD L 5 p1).1]! = n5 at *
    clear HN5
    go_enter Tryz.func97, Tryz.ntmps97
    go_wp2_with fail
    refine (HN.out 9 p (by omega) (by omega) _ HSRC.out).mono ?_
    rintro r w2 ⟨hr, HS, hK⟩
    rw [hq9] at hr HS
    subst hr
    have HZ := hide (hK.heap (by simp; omega) HZ0.out)
    go_wp2_with fail
    refine (HN.out 5 p1 (by omega) (by omega) _ (HS.al _)).mono ?_
    rintro r w3 ⟨rfl, HS3, hK3⟩
    have hw2 : w.heap.size < w2.heap.size := (Array.getElem?_eq_some_iff.1 HZ.out).1
    have hc := hK3.cell (by simp; omega) (cell_of_list w2 (num5.map (Value.int .i64)) 2 _ _ hc5)
    have HZ := hide (hK3.heap (by simp; omega) ((Below.heap_alloc _ _ _ hw2).trans HZ.out))
    clear hc5
    go_wp2_with fail
    refine (num3_any _ _).mono ?_
    rintro r w4 ⟨rfl, hb4⟩
    have hK4 := kept_below (l := [sb]) hb4
    have HZ := hide (hK4.heap (by simp; omega) HZ.out)
    have HS4 := HS3.below hb4
    have q0 := cell_at (j := 0) HZ.out rfl
    have q1 := cell_at (j := 1) HZ.out rfl
    have q2 := cell_at (j := 2) HZ.out rfl
    have q3 := cell_at (j := 3) HZ.out rfl
    have q4 := cell_at (j := 4) HZ.out rfl
    have z0 := free_at (j := 0) HZ.out
    have z1 := free_at (j := 1) HZ.out
    have z2 := free_at (j := 2) HZ.out
    have z3 := free_at (j := 3) HZ.out
    have z4 := free_at (j := 4) HZ.out
    have hzl := cell_lt q0
    simp only at hzl
    clear hc
    go_wp2_with fail
    have hfin := fin5 (.int .i64 1) (.int .i64 0) (.int .i64 n5) (.string ⟨#[]⟩) (.slice none 0 0) HS4 ((((HK0.out.tr hK).al _).tr hK3).tr hK4) hsb
    exact bodyPost_ret (v := leafV 1 0 n5 []) (by simp [results, Tryz.results97, go_sem, q0, q1, q2, q3, q4, leafV, nodeV]) rfl ⟨⟨_, rfl, leaf_val _ (show I64 1 from i64_sm (by decide)) HI0.out HI5.out (Nat.zero_le _)⟩, hfin.1, hfin.2⟩
  · have hd1 : (1 : Int) ≤ (d : Int) := by omega
    have hd2 : ¬ ((d : Int) + 1 ≤ 1) := by omega
    have hdz : d ≠ 0 := by omega
    have e : exprD L (d + 1) p = (.mk 1 0 num5[(nextD L 5 p1).1]! [] [], (nextD L 5 p1).2) := by rw [exprD]; simp [hq9, kindD]
    rw [e]
    clear e
    have hk5 := nextD_lt L (n := 5) p1 (by omega)
    have hk5' : ((nextD L 5 p1).1 : Int) < 5 := by omega
    have hc5 := num5_get _ hk5
    have hi5 : I64 (num5[(nextD L 5 p1).1]!) := by have := HN5.out p1; unfold I64; omega
    have HI5 := hide hi5
    clear hi5
    generalize num5[(nextD L 5 p1).1]! = n5 at *
    clear HN5
    go_enter Tryz.func97, Tryz.ntmps97
    go_wp2_with fail
    refine (HN.out 9 p (by omega) (by omega) _ HSRC.out).mono ?_
    rintro r w2 ⟨hr, HS, hK⟩
    rw [hq9] at hr HS
    subst hr
    have HZ := hide (hK.heap (by simp; omega) HZ0.out)
    go_wp2_with fail
    refine (HN.out 5 p1 (by omega) (by omega) _ (HS.al _)).mono ?_
    rintro r w3 ⟨rfl, HS3, hK3⟩
    have hw2 : w.heap.size < w2.heap.size := (Array.getElem?_eq_some_iff.1 HZ.out).1
    have hc := hK3.cell (by simp; omega) (cell_of_list w2 (num5.map (Value.int .i64)) 2 _ _ hc5)
    have HZ := hide (hK3.heap (by simp; omega) ((Below.heap_alloc _ _ _ hw2).trans HZ.out))
    clear hc5
    go_wp2_with fail
    refine (num3_any _ _).mono ?_
    rintro r w4 ⟨rfl, hb4⟩
    have hK4 := kept_below (l := [sb]) hb4
    have HZ := hide (hK4.heap (by simp; omega) HZ.out)
    have HS4 := HS3.below hb4
    have q0 := cell_at (j := 0) HZ.out rfl
    have q1 := cell_at (j := 1) HZ.out rfl
    have q2 := cell_at (j := 2) HZ.out rfl
    have q3 := cell_at (j := 3) HZ.out rfl
    have q4 := cell_at (j := 4) HZ.out rfl
    have z0 := free_at (j := 0) HZ.out
    have z1 := free_at (j := 1) HZ.out
    have z2 := free_at (j := 2) HZ.out
    have z3 := free_at (j := 3) HZ.out
    have z4 := free_at (j := 4) HZ.out
    have hzl := cell_lt q0
    simp only at hzl
    clear hc
    go_wp2_with fail
    have hfin := fin5 (.int .i64 1) (.int .i64 0) (.int .i64 n5) (.string ⟨#[]⟩) (.slice none 0 0) HS4 ((((HK0.out.tr hK).al _).tr hK3).tr hK4) hsb
    exact bodyPost_ret (v := leafV 1 0 n5 []) (by simp [results, Tryz.results97, go_sem, q0, q1, q2, q3, q4, leafV, nodeV]) rfl ⟨⟨_, rfl, leaf_val _ (show I64 1 from i64_sm (by decide)) HI0.out HI5.out (Nat.zero_le _)⟩, hfin.1, hfin.2⟩
set_option maxRecDepth 20000 in
set_option maxHeartbeats 2000000 in
theorem sexpr_num1 (sb left : Nat) (L : List Nat) (d : Nat) (w : World) (p : Nat) (h : Src w sb L p left) (k p1 : Nat) (hq9 : nextD L 9 p = (k, p1)) (hk : k = 1) :
    Calls Tryz.prog 97 #[.pointer (some ⟨sb, 0, none⟩), .int .i64 (d + 1 : Nat)] w (ExPost w sb L left (exprD L (d + 1) p)) := by
  subst hk
  have HN : Hid (∀ (n p : Nat) (hn : 0 < n) (hn2 : n ≤ 1000) (W : World) (hW : Src W sb L p left), _) := hide fun n p hn hn2 W hW => next_any sb left n p L W hW hn hn2
  have HNM := hide fun (p : Nat) (W : World) (hW : Src W sb L p left) => sname_any sb left p L W hW
  have HSRC := hide (h.al (.cells #[.int .i64 0, .int .i64 0, .int .i64 0, .string ⟨#[]⟩, .slice none 0 0] 110))
  have hsb := h.lt
  have HZ0 : Hid ((w.alloc (.cells #[.int .i64 0, .int .i64 0, .int .i64 0, .string ⟨#[]⟩, .slice none 0 0] 110)).heap[w.heap.size]? = some (.cells #[.int .i64 0, .int .i64 0, .int .i64 0, .string ⟨#[]⟩, .slice none 0 0] 110 (0, 0))) := hide (by show (w.heap.push _)[w.heap.size]? = _; simp)
  have hk9 := nextD_lt L (n := 9) p (by omega)
  have HK0 := hide ((Kept.refl [sb] w).al (.cells #[.int .i64 0, .int .i64 0, .int .i64 0, .string ⟨#[]⟩, .slice none 0 0] 110))
  clear h
  clear hk9
  have hsm : ∀ (n q : Nat), 0 < n → n ≤ 20 → I64 ((nextD L n q).1 : Nat) ∧ I64 (14 + ((nextD L n q).1 : Nat)) ∧ I64 (1 + ((nextD L n q).1 : Nat)) := fun n q h0 h1 => by
    have := nextD_lt L q h0
    exact ⟨i64_sm (by omega), i64_sm (by omega), i64_sm (by omega)⟩
  have HSM := hide hsm
  have i0 : I64 0 := i64_sm (by decide)
  have HI0 := hide i0
  have hns := fun q => (nm5_ok _ (nameD_mem L q)).2
  have HNS := hide hns
  have hn5 := fun q => num5_ok (num5[(nextD L 5 q).1]!) (by rw [getElem!_pos num5 _ (nextD_lt L q (by omega))]; exact List.getElem_mem _)
  have HN5 := hide hn5
  clear hsm i0 hns hn5
  rcases Nat.eq_zero_or_pos d with rfl | hd0
  · have e : exprD L (0 + 1) p = (.mk 1 0 num5[(nextD L 5 p1).1]! [] [], (nextD L 5 p1).2) := by rw [exprD]; simp [hq9, kindD]
    rw [e]
    clear e
    have hk5 := nextD_lt L (n := 5) p1 (by omega)
    have hk5' : ((nextD L 5 p1).1 : Int) < 5 := by omega
    have hc5 := num5_get _ hk5
    have hi5 : I64 (num5[(nextD L 5 p1).1]!) := by have := HN5.out p1; unfold I64; omega
    have HI5 := hide hi5
    clear hi5
    generalize num5[(nextD L 5 p1).1]! = n5 at *
    clear HN5
    go_enter Tryz.func97, Tryz.ntmps97
    go_wp2_with fail
    refine (HN.out 9 p (by omega) (by omega) _ HSRC.out).mono ?_
    rintro r w2 ⟨hr, HS, hK⟩
    rw [hq9] at hr HS
    subst hr
    have HZ := hide (hK.heap (by simp; omega) HZ0.out)
    go_wp2_with fail
    refine (HN.out 5 p1 (by omega) (by omega) _ (HS.al _)).mono ?_
    rintro r w3 ⟨rfl, HS3, hK3⟩
    have hw2 : w.heap.size < w2.heap.size := (Array.getElem?_eq_some_iff.1 HZ.out).1
    have hc := hK3.cell (by simp; omega) (cell_of_list w2 (num5.map (Value.int .i64)) 2 _ _ hc5)
    have HZ := hide (hK3.heap (by simp; omega) ((Below.heap_alloc _ _ _ hw2).trans HZ.out))
    clear hc5
    go_wp2_with fail
    refine (num3_any _ _).mono ?_
    rintro r w4 ⟨rfl, hb4⟩
    have hK4 := kept_below (l := [sb]) hb4
    have HZ := hide (hK4.heap (by simp; omega) HZ.out)
    have HS4 := HS3.below hb4
    have q0 := cell_at (j := 0) HZ.out rfl
    have q1 := cell_at (j := 1) HZ.out rfl
    have q2 := cell_at (j := 2) HZ.out rfl
    have q3 := cell_at (j := 3) HZ.out rfl
    have q4 := cell_at (j := 4) HZ.out rfl
    have z0 := free_at (j := 0) HZ.out
    have z1 := free_at (j := 1) HZ.out
    have z2 := free_at (j := 2) HZ.out
    have z3 := free_at (j := 3) HZ.out
    have z4 := free_at (j := 4) HZ.out
    have hzl := cell_lt q0
    simp only at hzl
    clear hc
    go_wp2_with fail
    have hfin := fin5 (.int .i64 1) (.int .i64 0) (.int .i64 n5) (.string ⟨#[]⟩) (.slice none 0 0) HS4 ((((HK0.out.tr hK).al _).tr hK3).tr hK4) hsb
    exact bodyPost_ret (v := leafV 1 0 n5 []) (by simp [results, Tryz.results97, go_sem, q0, q1, q2, q3, q4, leafV, nodeV]) rfl ⟨⟨_, rfl, leaf_val _ (show I64 1 from i64_sm (by decide)) HI0.out HI5.out (Nat.zero_le _)⟩, hfin.1, hfin.2⟩
  · have hd1 : (1 : Int) ≤ (d : Int) := by omega
    have hd2 : ¬ ((d : Int) + 1 ≤ 1) := by omega
    have hdz : d ≠ 0 := by omega
    have e : exprD L (d + 1) p = (.mk 1 0 num5[(nextD L 5 p1).1]! [] [], (nextD L 5 p1).2) := by rw [exprD]; simp [hq9, kindD]
    rw [e]
    clear e
    have hk5 := nextD_lt L (n := 5) p1 (by omega)
    have hk5' : ((nextD L 5 p1).1 : Int) < 5 := by omega
    have hc5 := num5_get _ hk5
    have hi5 : I64 (num5[(nextD L 5 p1).1]!) := by have := HN5.out p1; unfold I64; omega
    have HI5 := hide hi5
    clear hi5
    generalize num5[(nextD L 5 p1).1]! = n5 at *
    clear HN5
    go_enter Tryz.func97, Tryz.ntmps97
    go_wp2_with fail
    refine (HN.out 9 p (by omega) (by omega) _ HSRC.out).mono ?_
    rintro r w2 ⟨hr, HS, hK⟩
    rw [hq9] at hr HS
    subst hr
    have HZ := hide (hK.heap (by simp; omega) HZ0.out)
    go_wp2_with fail
    refine (HN.out 5 p1 (by omega) (by omega) _ (HS.al _)).mono ?_
    rintro r w3 ⟨rfl, HS3, hK3⟩
    have hw2 : w.heap.size < w2.heap.size := (Array.getElem?_eq_some_iff.1 HZ.out).1
    have hc := hK3.cell (by simp; omega) (cell_of_list w2 (num5.map (Value.int .i64)) 2 _ _ hc5)
    have HZ := hide (hK3.heap (by simp; omega) ((Below.heap_alloc _ _ _ hw2).trans HZ.out))
    clear hc5
    go_wp2_with fail
    refine (num3_any _ _).mono ?_
    rintro r w4 ⟨rfl, hb4⟩
    have hK4 := kept_below (l := [sb]) hb4
    have HZ := hide (hK4.heap (by simp; omega) HZ.out)
    have HS4 := HS3.below hb4
    have q0 := cell_at (j := 0) HZ.out rfl
    have q1 := cell_at (j := 1) HZ.out rfl
    have q2 := cell_at (j := 2) HZ.out rfl
    have q3 := cell_at (j := 3) HZ.out rfl
    have q4 := cell_at (j := 4) HZ.out rfl
    have z0 := free_at (j := 0) HZ.out
    have z1 := free_at (j := 1) HZ.out
    have z2 := free_at (j := 2) HZ.out
    have z3 := free_at (j := 3) HZ.out
    have z4 := free_at (j := 4) HZ.out
    have hzl := cell_lt q0
    simp only at hzl
    clear hc
    go_wp2_with fail
    have hfin := fin5 (.int .i64 1) (.int .i64 0) (.int .i64 n5) (.string ⟨#[]⟩) (.slice none 0 0) HS4 ((((HK0.out.tr hK).al _).tr hK3).tr hK4) hsb
    exact bodyPost_ret (v := leafV 1 0 n5 []) (by simp [results, Tryz.results97, go_sem, q0, q1, q2, q3, q4, leafV, nodeV]) rfl ⟨⟨_, rfl, leaf_val _ (show I64 1 from i64_sm (by decide)) HI0.out HI5.out (Nat.zero_le _)⟩, hfin.1, hfin.2⟩
set_option maxRecDepth 20000 in
set_option maxHeartbeats 2000000 in
theorem sexpr_var3 (sb left : Nat) (L : List Nat) (d : Nat) (w : World) (p : Nat) (h : Src w sb L p left) (k p1 : Nat) (hq9 : nextD L 9 p = (k, p1)) (hk : k = 3) :
    Calls Tryz.prog 97 #[.pointer (some ⟨sb, 0, none⟩), .int .i64 (d + 1 : Nat)] w (ExPost w sb L left (exprD L (d + 1) p)) := by
  subst hk
  have HN : Hid (∀ (n p : Nat) (hn : 0 < n) (hn2 : n ≤ 1000) (W : World) (hW : Src W sb L p left), _) := hide fun n p hn hn2 W hW => next_any sb left n p L W hW hn hn2
  have HNM := hide fun (p : Nat) (W : World) (hW : Src W sb L p left) => sname_any sb left p L W hW
  have HSRC := hide (h.al (.cells #[.int .i64 0, .int .i64 0, .int .i64 0, .string ⟨#[]⟩, .slice none 0 0] 110))
  have hsb := h.lt
  have HZ0 : Hid ((w.alloc (.cells #[.int .i64 0, .int .i64 0, .int .i64 0, .string ⟨#[]⟩, .slice none 0 0] 110)).heap[w.heap.size]? = some (.cells #[.int .i64 0, .int .i64 0, .int .i64 0, .string ⟨#[]⟩, .slice none 0 0] 110 (0, 0))) := hide (by show (w.heap.push _)[w.heap.size]? = _; simp)
  have hk9 := nextD_lt L (n := 9) p (by omega)
  have HK0 := hide ((Kept.refl [sb] w).al (.cells #[.int .i64 0, .int .i64 0, .int .i64 0, .string ⟨#[]⟩, .slice none 0 0] 110))
  clear h
  clear hk9
  have hsm : ∀ (n q : Nat), 0 < n → n ≤ 20 → I64 ((nextD L n q).1 : Nat) ∧ I64 (14 + ((nextD L n q).1 : Nat)) ∧ I64 (1 + ((nextD L n q).1 : Nat)) := fun n q h0 h1 => by
    have := nextD_lt L q h0
    exact ⟨i64_sm (by omega), i64_sm (by omega), i64_sm (by omega)⟩
  have HSM := hide hsm
  have i0 : I64 0 := i64_sm (by decide)
  have HI0 := hide i0
  have hns := fun q => (nm5_ok _ (nameD_mem L q)).2
  have HNS := hide hns
  have hn5 := fun q => num5_ok (num5[(nextD L 5 q).1]!) (by rw [getElem!_pos num5 _ (nextD_lt L q (by omega))]; exact List.getElem_mem _)
  have HN5 := hide hn5
  clear hsm i0 hns hn5
  rcases Nat.eq_zero_or_pos d with rfl | hd0
  · have e : exprD L (0 + 1) p = (.mk 3 0 0 (nameD L p1).1 [], (nameD L p1).2) := by rw [exprD]; simp [hq9, kindD]
    rw [e]
    clear e
    go_enter Tryz.func97, Tryz.ntmps97
    go_wp2_with fail
    refine (HN.out 9 p (by omega) (by omega) _ HSRC.out).mono ?_
    rintro r w2 ⟨hr, HS, hK⟩
    rw [hq9] at hr HS
    subst hr
    have HZ := hide (hK.heap (by simp; omega) HZ0.out)
    go_wp2_with fail
    refine (HNM.out p1 _ HS).mono ?_
    rintro r w3 ⟨rfl, HS3, hK3⟩
    have HZ := hide (hK3.heap (by simp; omega) HZ.out)
    go_wp2_with fail
    refine (name3_any _ _).mono ?_
    rintro r w4 ⟨rfl, hb4⟩
    have hK4 := kept_below (l := [sb]) hb4
    have HZ := hide (hK4.heap (by simp; omega) HZ.out)
    have HS4 := HS3.below hb4
    have q0 := cell_at (j := 0) HZ.out rfl
    have q1 := cell_at (j := 1) HZ.out rfl
    have q2 := cell_at (j := 2) HZ.out rfl
    have q3 := cell_at (j := 3) HZ.out rfl
    have q4 := cell_at (j := 4) HZ.out rfl
    have z0 := free_at (j := 0) HZ.out
    have z1 := free_at (j := 1) HZ.out
    have z2 := free_at (j := 2) HZ.out
    have z3 := free_at (j := 3) HZ.out
    have z4 := free_at (j := 4) HZ.out
    have hzl := cell_lt q0
    simp only at hzl
    go_wp2_with fail
    have hfin := fin5 (.int .i64 3) (.int .i64 0) (.int .i64 0) (.string ⟨(nameD L p1).1.toArray⟩) (.slice none 0 0) HS4 (((HK0.out.tr hK).tr hK3).tr hK4) hsb
    exact bodyPost_ret (v := leafV 3 0 0 (nameD L p1).1) (by simp [results, Tryz.results97, go_sem, q0, q1, q2, q3, q4, leafV, nodeV]) rfl ⟨⟨_, rfl, leaf_val _ (show I64 3 from i64_sm (by decide)) HI0.out HI0.out (by have := HNS.out p1; unfold maxLen; omega)⟩, hfin.1, hfin.2⟩
  · have hd1 : (1 : Int) ≤ (d : Int) := by omega
    have hd2 : ¬ ((d : Int) + 1 ≤ 1) := by omega
    have hdz : d ≠ 0 := by omega
    have e : exprD L (d + 1) p = (.mk 3 0 0 (nameD L p1).1 [], (nameD L p1).2) := by rw [exprD]; simp [hq9, kindD]
    rw [e]
    clear e
    go_enter Tryz.func97, Tryz.ntmps97
    go_wp2_with fail
    refine (HN.out 9 p (by omega) (by omega) _ HSRC.out).mono ?_
    rintro r w2 ⟨hr, HS, hK⟩
    rw [hq9] at hr HS
    subst hr
    have HZ := hide (hK.heap (by simp; omega) HZ0.out)
    go_wp2_with fail
    refine (HNM.out p1 _ HS).mono ?_
    rintro r w3 ⟨rfl, HS3, hK3⟩
    have HZ := hide (hK3.heap (by simp; omega) HZ.out)
    go_wp2_with fail
    refine (name3_any _ _).mono ?_
    rintro r w4 ⟨rfl, hb4⟩
    have hK4 := kept_below (l := [sb]) hb4
    have HZ := hide (hK4.heap (by simp; omega) HZ.out)
    have HS4 := HS3.below hb4
    have q0 := cell_at (j := 0) HZ.out rfl
    have q1 := cell_at (j := 1) HZ.out rfl
    have q2 := cell_at (j := 2) HZ.out rfl
    have q3 := cell_at (j := 3) HZ.out rfl
    have q4 := cell_at (j := 4) HZ.out rfl
    have z0 := free_at (j := 0) HZ.out
    have z1 := free_at (j := 1) HZ.out
    have z2 := free_at (j := 2) HZ.out
    have z3 := free_at (j := 3) HZ.out
    have z4 := free_at (j := 4) HZ.out
    have hzl := cell_lt q0
    simp only at hzl
    go_wp2_with fail
    have hfin := fin5 (.int .i64 3) (.int .i64 0) (.int .i64 0) (.string ⟨(nameD L p1).1.toArray⟩) (.slice none 0 0) HS4 (((HK0.out.tr hK).tr hK3).tr hK4) hsb
    exact bodyPost_ret (v := leafV 3 0 0 (nameD L p1).1) (by simp [results, Tryz.results97, go_sem, q0, q1, q2, q3, q4, leafV, nodeV]) rfl ⟨⟨_, rfl, leaf_val _ (show I64 3 from i64_sm (by decide)) HI0.out HI0.out (by have := HNS.out p1; unfold maxLen; omega)⟩, hfin.1, hfin.2⟩
set_option maxRecDepth 20000 in
set_option maxHeartbeats 2000000 in
theorem sexpr_var4 (sb left : Nat) (L : List Nat) (d : Nat) (w : World) (p : Nat) (h : Src w sb L p left) (k p1 : Nat) (hq9 : nextD L 9 p = (k, p1)) (hk : k = 4) :
    Calls Tryz.prog 97 #[.pointer (some ⟨sb, 0, none⟩), .int .i64 (d + 1 : Nat)] w (ExPost w sb L left (exprD L (d + 1) p)) := by
  subst hk
  have HN : Hid (∀ (n p : Nat) (hn : 0 < n) (hn2 : n ≤ 1000) (W : World) (hW : Src W sb L p left), _) := hide fun n p hn hn2 W hW => next_any sb left n p L W hW hn hn2
  have HNM := hide fun (p : Nat) (W : World) (hW : Src W sb L p left) => sname_any sb left p L W hW
  have HSRC := hide (h.al (.cells #[.int .i64 0, .int .i64 0, .int .i64 0, .string ⟨#[]⟩, .slice none 0 0] 110))
  have hsb := h.lt
  have HZ0 : Hid ((w.alloc (.cells #[.int .i64 0, .int .i64 0, .int .i64 0, .string ⟨#[]⟩, .slice none 0 0] 110)).heap[w.heap.size]? = some (.cells #[.int .i64 0, .int .i64 0, .int .i64 0, .string ⟨#[]⟩, .slice none 0 0] 110 (0, 0))) := hide (by show (w.heap.push _)[w.heap.size]? = _; simp)
  have hk9 := nextD_lt L (n := 9) p (by omega)
  have HK0 := hide ((Kept.refl [sb] w).al (.cells #[.int .i64 0, .int .i64 0, .int .i64 0, .string ⟨#[]⟩, .slice none 0 0] 110))
  clear h
  clear hk9
  have hsm : ∀ (n q : Nat), 0 < n → n ≤ 20 → I64 ((nextD L n q).1 : Nat) ∧ I64 (14 + ((nextD L n q).1 : Nat)) ∧ I64 (1 + ((nextD L n q).1 : Nat)) := fun n q h0 h1 => by
    have := nextD_lt L q h0
    exact ⟨i64_sm (by omega), i64_sm (by omega), i64_sm (by omega)⟩
  have HSM := hide hsm
  have i0 : I64 0 := i64_sm (by decide)
  have HI0 := hide i0
  have hns := fun q => (nm5_ok _ (nameD_mem L q)).2
  have HNS := hide hns
  have hn5 := fun q => num5_ok (num5[(nextD L 5 q).1]!) (by rw [getElem!_pos num5 _ (nextD_lt L q (by omega))]; exact List.getElem_mem _)
  have HN5 := hide hn5
  clear hsm i0 hns hn5
  rcases Nat.eq_zero_or_pos d with rfl | hd0
  · have e : exprD L (0 + 1) p = (.mk 3 0 0 (nameD L p1).1 [], (nameD L p1).2) := by rw [exprD]; simp [hq9, kindD]
    rw [e]
    clear e
    go_enter Tryz.func97, Tryz.ntmps97
    go_wp2_with fail
    refine (HN.out 9 p (by omega) (by omega) _ HSRC.out).mono ?_
    rintro r w2 ⟨hr, HS, hK⟩
    rw [hq9] at hr HS
    subst hr
    have HZ := hide (hK.heap (by simp; omega) HZ0.out)
    go_wp2_with fail
    refine (HNM.out p1 _ HS).mono ?_
    rintro r w3 ⟨rfl, HS3, hK3⟩
    have HZ := hide (hK3.heap (by simp; omega) HZ.out)
    go_wp2_with fail
    refine (name3_any _ _).mono ?_
    rintro r w4 ⟨rfl, hb4⟩
    have hK4 := kept_below (l := [sb]) hb4
    have HZ := hide (hK4.heap (by simp; omega) HZ.out)
    have HS4 := HS3.below hb4
    have q0 := cell_at (j := 0) HZ.out rfl
    have q1 := cell_at (j := 1) HZ.out rfl
    have q2 := cell_at (j := 2) HZ.out rfl
    have q3 := cell_at (j := 3) HZ.out rfl
    have q4 := cell_at (j := 4) HZ.out rfl
    have z0 := free_at (j := 0) HZ.out
    have z1 := free_at (j := 1) HZ.out
    have z2 := free_at (j := 2) HZ.out
    have z3 := free_at (j := 3) HZ.out
    have z4 := free_at (j := 4) HZ.out
    have hzl := cell_lt q0
    simp only at hzl
    go_wp2_with fail
    have hfin := fin5 (.int .i64 3) (.int .i64 0) (.int .i64 0) (.string ⟨(nameD L p1).1.toArray⟩) (.slice none 0 0) HS4 (((HK0.out.tr hK).tr hK3).tr hK4) hsb
    exact bodyPost_ret (v := leafV 3 0 0 (nameD L p1).1) (by simp [results, Tryz.results97, go_sem, q0, q1, q2, q3, q4, leafV, nodeV]) rfl ⟨⟨_, rfl, leaf_val _ (show I64 3 from i64_sm (by decide)) HI0.out HI0.out (by have := HNS.out p1; unfold maxLen; omega)⟩, hfin.1, hfin.2⟩
  · have hd1 : (1 : Int) ≤ (d : Int) := by omega
    have hd2 : ¬ ((d : Int) + 1 ≤ 1) := by omega
    have hdz : d ≠ 0 := by omega
    have e : exprD L (d + 1) p = (.mk 3 0 0 (nameD L p1).1 [], (nameD L p1).2) := by rw [exprD]; simp [hq9, kindD]
    rw [e]
    clear e
    go_enter Tryz.func97, Tryz.ntmps97
    go_wp2_with fail
    refine (HN.out 9 p (by omega) (by omega) _ HSRC.out).mono ?_
    rintro r w2 ⟨hr, HS, hK⟩
    rw [hq9] at hr HS
    subst hr
    have HZ := hide (hK.heap (by simp; omega) HZ0.out)
    go_wp2_with fail
    refine (HNM.out p1 _ HS).mono ?_
    rintro r w3 ⟨rfl, HS3, hK3⟩
    have HZ := hide (hK3.heap (by simp; omega) HZ.out)
    go_wp2_with fail
    refine (name3_any _ _).mono ?_
    rintro r w4 ⟨rfl, hb4⟩
    have hK4 := kept_below (l := [sb]) hb4
    have HZ := hide (hK4.heap (by simp; omega) HZ.out)
    have HS4 := HS3.below hb4
    have q0 := cell_at (j := 0) HZ.out rfl
    have q1 := cell_at (j := 1) HZ.out rfl
    have q2 := cell_at (j := 2) HZ.out rfl
    have q3 := cell_at (j := 3) HZ.out rfl
    have q4 := cell_at (j := 4) HZ.out rfl
    have z0 := free_at (j := 0) HZ.out
    have z1 := free_at (j := 1) HZ.out
    have z2 := free_at (j := 2) HZ.out
    have z3 := free_at (j := 3) HZ.out
    have z4 := free_at (j := 4) HZ.out
    have hzl := cell_lt q0
    simp only at hzl
    go_wp2_with fail
    have hfin := fin5 (.int .i64 3) (.int .i64 0) (.int .i64 0) (.string ⟨(nameD L p1).1.toArray⟩) (.slice none 0 0) HS4 (((HK0.out.tr hK).tr hK3).tr hK4) hsb
    exact bodyPost_ret (v := leafV 3 0 0 (nameD L p1).1) (by simp [results, Tryz.results97, go_sem, q0, q1, q2, q3, q4, leafV, nodeV]) rfl ⟨⟨_, rfl, leaf_val _ (show I64 3 from i64_sm (by decide)) HI0.out HI0.out (by have := HNS.out p1; unfold maxLen; omega)⟩, hfin.1, hfin.2⟩
set_option maxRecDepth 20000 in
set_option maxHeartbeats 2000000 in
theorem sexpr_low5 (sb left : Nat) (L : List Nat) (d : Nat) (w : World) (p : Nat) (h : Src w sb L p left) (k p1 : Nat) (hq9 : nextD L 9 p = (k, p1)) (hk : k = 5) (hz : d = 0) :
    Calls Tryz.prog 97 #[.pointer (some ⟨sb, 0, none⟩), .int .i64 (d + 1 : Nat)] w (ExPost w sb L left (exprD L (d + 1) p)) := by
  subst hk
  subst hz
  have HN : Hid (∀ (n p : Nat) (hn : 0 < n) (hn2 : n ≤ 1000) (W : World) (hW : Src W sb L p left), _) := hide fun n p hn hn2 W hW => next_any sb left n p L W hW hn hn2
  have HNM := hide fun (p : Nat) (W : World) (hW : Src W sb L p left) => sname_any sb left p L W hW
  have HSRC := hide (h.al (.cells #[.int .i64 0, .int .i64 0, .int .i64 0, .string ⟨#[]⟩, .slice none 0 0] 110))
  have hsb := h.lt
  have HZ0 : Hid ((w.alloc (.cells #[.int .i64 0, .int .i64 0, .int .i64 0, .string ⟨#[]⟩, .slice none 0 0] 110)).heap[w.heap.size]? = some (.cells #[.int .i64 0, .int .i64 0, .int .i64 0, .string ⟨#[]⟩, .slice none 0 0] 110 (0, 0))) := hide (by show (w.heap.push _)[w.heap.size]? = _; simp)
  have hk9 := nextD_lt L (n := 9) p (by omega)
  have HK0 := hide ((Kept.refl [sb] w).al (.cells #[.int .i64 0, .int .i64 0, .int .i64 0, .string ⟨#[]⟩, .slice none 0 0] 110))
  clear h
  clear hk9
  have hsm : ∀ (n q : Nat), 0 < n → n ≤ 20 → I64 ((nextD L n q).1 : Nat) ∧ I64 (14 + ((nextD L n q).1 : Nat)) ∧ I64 (1 + ((nextD L n q).1 : Nat)) := fun n q h0 h1 => by
    have := nextD_lt L q h0
    exact ⟨i64_sm (by omega), i64_sm (by omega), i64_sm (by omega)⟩
  have HSM := hide hsm
  have i0 : I64 0 := i64_sm (by decide)
  have HI0 := hide i0
  have hns := fun q => (nm5_ok _ (nameD_mem L q)).2
  have HNS := hide hns
  have hn5 := fun q => num5_ok (num5[(nextD L 5 q).1]!) (by rw [getElem!_pos num5 _ (nextD_lt L q (by omega))]; exact List.getElem_mem _)
  have HN5 := hide hn5
  clear hsm i0 hns hn5
  have e : exprD L (0 + 1) p = (.mk 3 0 0 (nameD L p1).1 [], (nameD L p1).2) := by rw [exprD]; simp [hq9, kindD]
  rw [e]
  clear e
  go_enter Tryz.func97, Tryz.ntmps97
  go_wp2_with fail
  refine (HN.out 9 p (by omega) (by omega) _ HSRC.out).mono ?_
  rintro r w2 ⟨hr, HS, hK⟩
  rw [hq9] at hr HS
  subst hr
  have HZ := hide (hK.heap (by simp; omega) HZ0.out)
  go_wp2_with fail
  refine (HNM.out p1 _ HS).mono ?_
  rintro r w3 ⟨rfl, HS3, hK3⟩
  have HZ := hide (hK3.heap (by simp; omega) HZ.out)
  go_wp2_with fail
  refine (name3_any _ _).mono ?_
  rintro r w4 ⟨rfl, hb4⟩
  have hK4 := kept_below (l := [sb]) hb4
  have HZ := hide (hK4.heap (by simp; omega) HZ.out)
  have HS4 := HS3.below hb4
  have q0 := cell_at (j := 0) HZ.out rfl
  have q1 := cell_at (j := 1) HZ.out rfl
  have q2 := cell_at (j := 2) HZ.out rfl
  have q3 := cell_at (j := 3) HZ.out rfl
  have q4 := cell_at (j := 4) HZ.out rfl
  have z0 := free_at (j := 0) HZ.out
  have z1 := free_at (j := 1) HZ.out
  have z2 := free_at (j := 2) HZ.out
  have z3 := free_at (j := 3) HZ.out
  have z4 := free_at (j := 4) HZ.out
  have hzl := cell_lt q0
  simp only at hzl
  go_wp2_with fail
  have hfin := fin5 (.int .i64 3) (.int .i64 0) (.int .i64 0) (.string ⟨(nameD L p1).1.toArray⟩) (.slice none 0 0) HS4 (((HK0.out.tr hK).tr hK3).tr hK4) hsb
  exact bodyPost_ret (v := leafV 3 0 0 (nameD L p1).1) (by simp [results, Tryz.results97, go_sem, q0, q1, q2, q3, q4, leafV, nodeV]) rfl ⟨⟨_, rfl, leaf_val _ (show I64 3 from i64_sm (by decide)) HI0.out HI0.out (by have := HNS.out p1; unfold maxLen; omega)⟩, hfin.1, hfin.2⟩
set_option maxRecDepth 20000 in
set_option maxHeartbeats 2000000 in
theorem sexpr_low6 (sb left : Nat) (L : List Nat) (d : Nat) (w : World) (p : Nat) (h : Src w sb L p left) (k p1 : Nat) (hq9 : nextD L 9 p = (k, p1)) (hk : k = 6) (hz : d = 0) :
    Calls Tryz.prog 97 #[.pointer (some ⟨sb, 0, none⟩), .int .i64 (d + 1 : Nat)] w (ExPost w sb L left (exprD L (d + 1) p)) := by
  subst hk
  subst hz
  have HN : Hid (∀ (n p : Nat) (hn : 0 < n) (hn2 : n ≤ 1000) (W : World) (hW : Src W sb L p left), _) := hide fun n p hn hn2 W hW => next_any sb left n p L W hW hn hn2
  have HNM := hide fun (p : Nat) (W : World) (hW : Src W sb L p left) => sname_any sb left p L W hW
  have HSRC := hide (h.al (.cells #[.int .i64 0, .int .i64 0, .int .i64 0, .string ⟨#[]⟩, .slice none 0 0] 110))
  have hsb := h.lt
  have HZ0 : Hid ((w.alloc (.cells #[.int .i64 0, .int .i64 0, .int .i64 0, .string ⟨#[]⟩, .slice none 0 0] 110)).heap[w.heap.size]? = some (.cells #[.int .i64 0, .int .i64 0, .int .i64 0, .string ⟨#[]⟩, .slice none 0 0] 110 (0, 0))) := hide (by show (w.heap.push _)[w.heap.size]? = _; simp)
  have hk9 := nextD_lt L (n := 9) p (by omega)
  have HK0 := hide ((Kept.refl [sb] w).al (.cells #[.int .i64 0, .int .i64 0, .int .i64 0, .string ⟨#[]⟩, .slice none 0 0] 110))
  clear h
  clear hk9
  have hsm : ∀ (n q : Nat), 0 < n → n ≤ 20 → I64 ((nextD L n q).1 : Nat) ∧ I64 (14 + ((nextD L n q).1 : Nat)) ∧ I64 (1 + ((nextD L n q).1 : Nat)) := fun n q h0 h1 => by
    have := nextD_lt L q h0
    exact ⟨i64_sm (by omega), i64_sm (by omega), i64_sm (by omega)⟩
  have HSM := hide hsm
  have i0 : I64 0 := i64_sm (by decide)
  have HI0 := hide i0
  have hns := fun q => (nm5_ok _ (nameD_mem L q)).2
  have HNS := hide hns
  have hn5 := fun q => num5_ok (num5[(nextD L 5 q).1]!) (by rw [getElem!_pos num5 _ (nextD_lt L q (by omega))]; exact List.getElem_mem _)
  have HN5 := hide hn5
  clear hsm i0 hns hn5
  have e : exprD L (0 + 1) p = (.mk 3 0 0 (nameD L p1).1 [], (nameD L p1).2) := by rw [exprD]; simp [hq9, kindD]
  rw [e]
  clear e
  go_enter Tryz.func97, Tryz.ntmps97
  go_wp2_with fail
  refine (HN.out 9 p (by omega) (by omega) _ HSRC.out).mono ?_
  rintro r w2 ⟨hr, HS, hK⟩
  rw [hq9] at hr HS
  subst hr
  have HZ := hide (hK.heap (by simp; omega) HZ0.out)
  go_wp2_with fail
  refine (HNM.out p1 _ HS).mono ?_
  rintro r w3 ⟨rfl, HS3, hK3⟩
  have HZ := hide (hK3.heap (by simp; omega) HZ.out)
  go_wp2_with fail
  refine (name3_any _ _).mono ?_
  rintro r w4 ⟨rfl, hb4⟩
  have hK4 := kept_below (l := [sb]) hb4
  have HZ := hide (hK4.heap (by simp; omega) HZ.out)
  have HS4 := HS3.below hb4
  have q0 := cell_at (j := 0) HZ.out rfl
  have q1 := cell_at (j := 1) HZ.out rfl
  have q2 := cell_at (j := 2) HZ.out rfl
  have q3 := cell_at (j := 3) HZ.out rfl
  have q4 := cell_at (j := 4) HZ.out rfl
  have z0 := free_at (j := 0) HZ.out
  have z1 := free_at (j := 1) HZ.out
  have z2 := free_at (j := 2) HZ.out
  have z3 := free_at (j := 3) HZ.out
  have z4 := free_at (j := 4) HZ.out
  have hzl := cell_lt q0
  simp only at hzl
  go_wp2_with fail
  have hfin := fin5 (.int .i64 3) (.int .i64 0) (.int .i64 0) (.string ⟨(nameD L p1).1.toArray⟩) (.slice none 0 0) HS4 (((HK0.out.tr hK).tr hK3).tr hK4) hsb
  exact bodyPost_ret (v := leafV 3 0 0 (nameD L p1).1) (by simp [results, Tryz.results97, go_sem, q0, q1, q2, q3, q4, leafV, nodeV]) rfl ⟨⟨_, rfl, leaf_val _ (show I64 3 from i64_sm (by decide)) HI0.out HI0.out (by have := HNS.out p1; unfold maxLen; omega)⟩, hfin.1, hfin.2⟩
set_option maxRecDepth 20000 in
set_option maxHeartbeats 2000000 in
theorem sexpr_low7 (sb left : Nat) (L : List Nat) (d : Nat) (w : World) (p : Nat) (h : Src w sb L p left) (k p1 : Nat) (hq9 : nextD L 9 p = (k, p1)) (hk : k = 7) (hz : d = 0) :
    Calls Tryz.prog 97 #[.pointer (some ⟨sb, 0, none⟩), .int .i64 (d + 1 : Nat)] w (ExPost w sb L left (exprD L (d + 1) p)) := by
  subst hk
  subst hz
  have HN : Hid (∀ (n p : Nat) (hn : 0 < n) (hn2 : n ≤ 1000) (W : World) (hW : Src W sb L p left), _) := hide fun n p hn hn2 W hW => next_any sb left n p L W hW hn hn2
  have HNM := hide fun (p : Nat) (W : World) (hW : Src W sb L p left) => sname_any sb left p L W hW
  have HSRC := hide (h.al (.cells #[.int .i64 0, .int .i64 0, .int .i64 0, .string ⟨#[]⟩, .slice none 0 0] 110))
  have hsb := h.lt
  have HZ0 : Hid ((w.alloc (.cells #[.int .i64 0, .int .i64 0, .int .i64 0, .string ⟨#[]⟩, .slice none 0 0] 110)).heap[w.heap.size]? = some (.cells #[.int .i64 0, .int .i64 0, .int .i64 0, .string ⟨#[]⟩, .slice none 0 0] 110 (0, 0))) := hide (by show (w.heap.push _)[w.heap.size]? = _; simp)
  have hk9 := nextD_lt L (n := 9) p (by omega)
  have HK0 := hide ((Kept.refl [sb] w).al (.cells #[.int .i64 0, .int .i64 0, .int .i64 0, .string ⟨#[]⟩, .slice none 0 0] 110))
  clear h
  clear hk9
  have hsm : ∀ (n q : Nat), 0 < n → n ≤ 20 → I64 ((nextD L n q).1 : Nat) ∧ I64 (14 + ((nextD L n q).1 : Nat)) ∧ I64 (1 + ((nextD L n q).1 : Nat)) := fun n q h0 h1 => by
    have := nextD_lt L q h0
    exact ⟨i64_sm (by omega), i64_sm (by omega), i64_sm (by omega)⟩
  have HSM := hide hsm
  have i0 : I64 0 := i64_sm (by decide)
  have HI0 := hide i0
  have hns := fun q => (nm5_ok _ (nameD_mem L q)).2
  have HNS := hide hns
  have hn5 := fun q => num5_ok (num5[(nextD L 5 q).1]!) (by rw [getElem!_pos num5 _ (nextD_lt L q (by omega))]; exact List.getElem_mem _)
  have HN5 := hide hn5
  clear hsm i0 hns hn5
  have e : exprD L (0 + 1) p = (.mk 3 0 0 (nameD L p1).1 [], (nameD L p1).2) := by rw [exprD]; simp [hq9, kindD]
  rw [e]
  clear e
  go_enter Tryz.func97, Tryz.ntmps97
  go_wp2_with fail
  refine (HN.out 9 p (by omega) (by omega) _ HSRC.out).mono ?_
  rintro r w2 ⟨hr, HS, hK⟩
  rw [hq9] at hr HS
  subst hr
  have HZ := hide (hK.heap (by simp; omega) HZ0.out)
  go_wp2_with fail
  refine (HNM.out p1 _ HS).mono ?_
  rintro r w3 ⟨rfl, HS3, hK3⟩
  have HZ := hide (hK3.heap (by simp; omega) HZ.out)
  go_wp2_with fail
  refine (name3_any _ _).mono ?_
  rintro r w4 ⟨rfl, hb4⟩
  have hK4 := kept_below (l := [sb]) hb4
  have HZ := hide (hK4.heap (by simp; omega) HZ.out)
  have HS4 := HS3.below hb4
  have q0 := cell_at (j := 0) HZ.out rfl
  have q1 := cell_at (j := 1) HZ.out rfl
  have q2 := cell_at (j := 2) HZ.out rfl
  have q3 := cell_at (j := 3) HZ.out rfl
  have q4 := cell_at (j := 4) HZ.out rfl
  have z0 := free_at (j := 0) HZ.out
  have z1 := free_at (j := 1) HZ.out
  have z2 := free_at (j := 2) HZ.out
  have z3 := free_at (j := 3) HZ.out
  have z4 := free_at (j := 4) HZ.out
  have hzl := cell_lt q0
  simp only at hzl
  go_wp2_with fail
  have hfin := fin5 (.int .i64 3) (.int .i64 0) (.int .i64 0) (.string ⟨(nameD L p1).1.toArray⟩) (.slice none 0 0) HS4 (((HK0.out.tr hK).tr hK3).tr hK4) hsb
  exact bodyPost_ret (v := leafV 3 0 0 (nameD L p1).1) (by simp [results, Tryz.results97, go_sem, q0, q1, q2, q3, q4, leafV, nodeV]) rfl ⟨⟨_, rfl, leaf_val _ (show I64 3 from i64_sm (by decide)) HI0.out HI0.out (by have := HNS.out p1; unfold maxLen; omega)⟩, hfin.1, hfin.2⟩
set_option maxRecDepth 20000 in
set_option maxHeartbeats 2000000 in
theorem sexpr_un (sb left : Nat) (L : List Nat) (d : Nat) (w : World) (p : Nat) (h : Src w sb L p left) (k p1 : Nat) (hq9 : nextD L 9 p = (k, p1)) (hk : k = 5) (hd0 : 0 < d) (hdb : (d : Int) ≤ 100) (IH : Hid (∀ (w : World) (p : Nat), Src w sb L p left → Calls Tryz.prog 97 #[.pointer (some ⟨sb, 0, none⟩), .int .i64 d] w (ExPost w sb L left (exprD L d p)))) :
    Calls Tryz.prog 97 #[.pointer (some ⟨sb, 0, none⟩), .int .i64 (d + 1 : Nat)] w (ExPost w sb L left (exprD L (d + 1) p)) := by
  subst hk
  have HN : Hid (∀ (n p : Nat) (hn : 0 < n) (hn2 : n ≤ 1000) (W : World) (hW : Src W sb L p left), _) := hide fun n p hn hn2 W hW => next_any sb left n p L W hW hn hn2
  have HNM := hide fun (p : Nat) (W : World) (hW : Src W sb L p left) => sname_any sb left p L W hW
  have HSRC := hide (h.al (.cells #[.int .i64 0, .int .i64 0, .int .i64 0, .string ⟨#[]⟩, .slice none 0 0] 110))
  have hsb := h.lt
  have HZ0 : Hid ((w.alloc (.cells #[.int .i64 0, .int .i64 0, .int .i64 0, .string ⟨#[]⟩, .slice none 0 0] 110)).heap[w.heap.size]? = some (.cells #[.int .i64 0, .int .i64 0, .int .i64 0, .string ⟨#[]⟩, .slice none 0 0] 110 (0, 0))) := hide (by show (w.heap.push _)[w.heap.size]? = _; simp)
  have hk9 := nextD_lt L (n := 9) p (by omega)
  have HK0 := hide ((Kept.refl [sb] w).al (.cells #[.int .i64 0, .int .i64 0, .int .i64 0, .string ⟨#[]⟩, .slice none 0 0] 110))
  clear h
  clear hk9
  have hsm : ∀ (n q : Nat), 0 < n → n ≤ 20 → I64 ((nextD L n q).1 : Nat) ∧ I64 (14 + ((nextD L n q).1 : Nat)) ∧ I64 (1 + ((nextD L n q).1 : Nat)) := fun n q h0 h1 => by
    have := nextD_lt L q h0
    exact ⟨i64_sm (by omega), i64_sm (by omega), i64_sm (by omega)⟩
  have HSM := hide hsm
  have i0 : I64 0 := i64_sm (by decide)
  have HI0 := hide i0
  have hns := fun q => (nm5_ok _ (nameD_mem L q)).2
  have HNS := hide hns
  have hn5 := fun q => num5_ok (num5[(nextD L 5 q).1]!) (by rw [getElem!_pos num5 _ (nextD_lt L q (by omega))]; exact List.getElem_mem _)
  have HN5 := hide hn5
  clear hsm i0 hns hn5
  have hd1 : (1 : Int) ≤ (d : Int) := by omega
  have hd2 : ¬ ((d : Int) + 1 ≤ 1) := by omega
  have hdz : d ≠ 0 := by omega
  have e : exprD L (d + 1) p = (.mk 4 (14 + ((nextD L 2 p1).1 : Nat)) 0 [] [(exprD L d (nextD L 2 p1).2).1], (exprD L d (nextD L 2 p1).2).2) := by rw [exprD]; simp [hq9, kindD, hdz]
  rw [e]
  clear e
  have ho := nextD_lt L (n := 2) p1 (by omega)
  go_enter Tryz.func97, Tryz.ntmps97
  go_wp2_with fail
  refine (HN.out 9 p (by omega) (by omega) _ HSRC.out).mono ?_
  rintro r w2 ⟨hr, HS, hK⟩
  rw [hq9] at hr HS
  subst hr
  have HZ := hide (hK.heap (by simp; omega) HZ0.out)
  go_wp2_with fail
  refine (HN.out 2 p1 (by omega) (by omega) _ HS).mono ?_
  rintro r w3 ⟨rfl, HS3, hK3⟩
  have HZ := hide (hK3.heap (by simp; omega) HZ.out)
  go_wp2_with fail
  (with_reducible refine (IH.out _ _ HS3).mono ?_)
  rintro r w4 ⟨⟨v, rfl, hv⟩, HS4, hK4⟩
  have hw3 : w.heap.size < w3.heap.size := (Array.getElem?_eq_some_iff.1 HZ.out).1
  have HZ := hide (hK4.heap (by simp; omega) HZ.out)
  obtain ⟨ea, ecap, rfl, hew, her⟩ := hv
  have HEW := hide hew
  have HER := hide her
  clear hew her
  have q0 := cell_at (j := 0) HZ.out rfl
  have q1 := cell_at (j := 1) HZ.out rfl
  have q2 := cell_at (j := 2) HZ.out rfl
  have q3 := cell_at (j := 3) HZ.out rfl
  have q4 := cell_at (j := 4) HZ.out rfl
  have z0 := free_at (j := 0) HZ.out
  have z1 := free_at (j := 1) HZ.out
  have z2 := free_at (j := 2) HZ.out
  have z3 := free_at (j := 3) HZ.out
  have z4 := free_at (j := 4) HZ.out
  have hzl := cell_lt q0
  simp only at hzl
  go_wp2_with fail
  have hfin := fin5 (.int .i64 4) (.int .i64 (14 + ((nextD L 2 p1).1 : Nat))) (.int .i64 0) (.string ⟨#[]⟩) (.slice (some ⟨w4.heap.size, 0, none⟩) 1 1) HS4 (((HK0.out.tr hK).tr hK3).tr hK4) hsb
  have hrd := read5 (.int .i64 4) (.int .i64 (14 + ((nextD L 2 p1).1 : Nat))) (.int .i64 0) (.string ⟨#[]⟩) (.slice (some ⟨w4.heap.size, 0, none⟩) 1 1) HZ.out rfl
  have hsz := size5 (w := w) (W := w4) (.int .i64 4) (.int .i64 (14 + ((nextD L 2 p1).1 : Nat))) (.int .i64 0) (.string ⟨#[]⟩) (.slice (some ⟨w4.heap.size, 0, none⟩) 1 1)
  refine bodyPost_ret (v := nodeV 4 (14 + ((nextD L 2 p1).1 : Nat)) [] w4.heap.size 1) (by simp [results, Tryz.results97, go_sem, hrd, leafV, nodeV]) rfl ⟨⟨_, rfl, _, _, rfl, ⟨(show I64 4 from i64_sm (by decide)), (HSM.out 2 p1 (by omega) (by omega)).2.1, HI0.out, Nat.zero_le _, Nat.le_refl _, one_le⟩, ?_⟩, hfin.1.al _, hfin.2.al _⟩
  exact Ex.rowA 110 HEW.out (row5 _ _ _ _ _ hw3 HER.out) (bl _) hsz.symm (by rw [hsz]; omega)
set_option maxRecDepth 20000 in
set_option maxHeartbeats 2000000 in
theorem sexpr_bin (sb left : Nat) (L : List Nat) (d : Nat) (w : World) (p : Nat) (h : Src w sb L p left) (k p1 : Nat) (hq9 : nextD L 9 p = (k, p1)) (hk : k = 6) (hd0 : 0 < d) (hdb : (d : Int) ≤ 100) (IH : Hid (∀ (w : World) (p : Nat), Src w sb L p left → Calls Tryz.prog 97 #[.pointer (some ⟨sb, 0, none⟩), .int .i64 d] w (ExPost w sb L left (exprD L d p)))) :
    Calls Tryz.prog 97 #[.pointer (some ⟨sb, 0, none⟩), .int .i64 (d + 1 : Nat)] w (ExPost w sb L left (exprD L (d + 1) p)) := by
  subst hk
  have HN : Hid (∀ (n p : Nat) (hn : 0 < n) (hn2 : n ≤ 1000) (W : World) (hW : Src W sb L p left), _) := hide fun n p hn hn2 W hW => next_any sb left n p L W hW hn hn2
  have HNM := hide fun (p : Nat) (W : World) (hW : Src W sb L p left) => sname_any sb left p L W hW
  have HSRC := hide (h.al (.cells #[.int .i64 0, .int .i64 0, .int .i64 0, .string ⟨#[]⟩, .slice none 0 0] 110))
  have hsb := h.lt
  have HZ0 : Hid ((w.alloc (.cells #[.int .i64 0, .int .i64 0, .int .i64 0, .string ⟨#[]⟩, .slice none 0 0] 110)).heap[w.heap.size]? = some (.cells #[.int .i64 0, .int .i64 0, .int .i64 0, .string ⟨#[]⟩, .slice none 0 0] 110 (0, 0))) := hide (by show (w.heap.push _)[w.heap.size]? = _; simp)
  have hk9 := nextD_lt L (n := 9) p (by omega)
  have HK0 := hide ((Kept.refl [sb] w).al (.cells #[.int .i64 0, .int .i64 0, .int .i64 0, .string ⟨#[]⟩, .slice none 0 0] 110))
  clear h
  clear hk9
  have hsm : ∀ (n q : Nat), 0 < n → n ≤ 20 → I64 ((nextD L n q).1 : Nat) ∧ I64 (14 + ((nextD L n q).1 : Nat)) ∧ I64 (1 + ((nextD L n q).1 : Nat)) := fun n q h0 h1 => by
    have := nextD_lt L q h0
    exact ⟨i64_sm (by omega), i64_sm (by omega), i64_sm (by omega)⟩
  have HSM := hide hsm
  have i0 : I64 0 := i64_sm (by decide)
  have HI0 := hide i0
  have hns := fun q => (nm5_ok _ (nameD_mem L q)).2
  have HNS := hide hns
  have hn5 := fun q => num5_ok (num5[(nextD L 5 q).1]!) (by rw [getElem!_pos num5 _ (nextD_lt L q (by omega))]; exact List.getElem_mem _)
  have HN5 := hide hn5
  clear hsm i0 hns hn5
  have hd1 : (1 : Int) ≤ (d : Int) := by omega
  have hd2 : ¬ ((d : Int) + 1 ≤ 1) := by omega
  have hdz : d ≠ 0 := by omega
  have e : exprD L (d + 1) p = (.mk 5 (1 + ((nextD L 13 p1).1 : Nat)) 0 [] [(exprD L d (nextD L 13 p1).2).1, (exprD L d (exprD L d (nextD L 13 p1).2).2).1], (exprD L d (exprD L d (nextD L 13 p1).2).2).2) := by rw [exprD]; simp [hq9, kindD, hdz]
  rw [e]
  clear e
  have ho := nextD_lt L (n := 13) p1 (by omega)
  go_enter Tryz.func97, Tryz.ntmps97
  go_wp2_with fail
  refine (HN.out 9 p (by omega) (by omega) _ HSRC.out).mono ?_
  rintro r w2 ⟨hr, HS, hK⟩
  rw [hq9] at hr HS
  subst hr
  have HZ := hide (hK.heap (by simp; omega) HZ0.out)
  go_wp2_with fail
  refine (HN.out 13 p1 (by omega) (by omega) _ HS).mono ?_
  rintro r w3 ⟨rfl, HS3, hK3⟩
  have HZ := hide (hK3.heap (by simp; omega) HZ.out)
  go_wp2_with fail
  (with_reducible refine (IH.out _ _ HS3).mono ?_)
  rintro r w4 ⟨⟨v, rfl, hv⟩, HS4, hK4⟩
  have hw3 : w.heap.size < w3.heap.size := (Array.getElem?_eq_some_iff.1 HZ.out).1
  have HZ := hide (hK4.heap (by simp; omega) HZ.out)
  go_wp2_with fail
  (with_reducible refine (IH.out _ _ HS4).mono ?_)
  rintro r w5 ⟨⟨u, rfl, hu⟩, HS5, hK5⟩
  have HZ := hide (hK5.heap (by simp; omega) HZ.out)
  have hs3 := HS3.lt
  have hv := hide (hv.has (has_nw_one hK5 hs3))
  have hu := hide (hu.has (has_nws hK4.size))
  have hs45 := hK4.size
  have hs55 := hK5.size
  go_wp2_with fail
  refine (binary3_any _ _ _ _ _ w5 w3.heap.size (by omega) ?_ hv.out hu.out).mono ?_
  · exact (HSM.out 13 p1 (by omega) (by omega)).2.2
  rintro r w6 ⟨⟨z, rfl, hz⟩, hb6⟩
  have hK6 := kept_below (l := [sb]) hb6
  have HZ := hide (hK6.heap (by simp; omega) HZ.out)
  obtain ⟨za, zcap, rfl, hzw, hzr⟩ := hz
  have HEW := hide hzw
  have HER := hide hzr
  clear hzw hzr
  simp only [Ex.kind, Ex.op, Ex.num, Ex.name, Ex.args, List.length_cons, List.length_nil] at HEW HER ⊢
  have q0 := cell_at (j := 0) HZ.out rfl
  have q1 := cell_at (j := 1) HZ.out rfl
  have q2 := cell_at (j := 2) HZ.out rfl
  have q3 := cell_at (j := 3) HZ.out rfl
  have q4 := cell_at (j := 4) HZ.out rfl
  have z0 := free_at (j := 0) HZ.out
  have z1 := free_at (j := 1) HZ.out
  have z2 := free_at (j := 2) HZ.out
  have z3 := free_at (j := 3) HZ.out
  have z4 := free_at (j := 4) HZ.out
  have hzl := cell_lt q0
  simp only at hzl
  go_wp2_with fail
  have hfin := fin5 (.int .i64 5) (.int .i64 (1 + ((nextD L 13 p1).1 : Nat))) (.int .i64 0) (.string ⟨#[]⟩) (.slice za (0 + 1 + 1) zcap) (HS5.below hb6) (((((HK0.out.tr hK).tr hK3).tr hK4).tr hK5).tr hK6) hsb
  exact bodyPost_ret (v := .agg #[.int .i64 5, .int .i64 (1 + ((nextD L 13 p1).1 : Nat)), .int .i64 0, .string ⟨#[]⟩, .slice za 2 zcap]) (by simp [results, Tryz.results97, go_sem, q0, q1, q2, q3, q4, leafV, nodeV]) rfl ⟨⟨_, rfl, ⟨_, _, rfl, HEW.out, row5 _ _ _ _ _ hw3 HER.out⟩⟩, hfin.1, hfin.2⟩
set_option maxRecDepth 20000 in
set_option maxHeartbeats 2000000 in
theorem sexpr_ix (sb left : Nat) (L : List Nat) (d : Nat) (w : World) (p : Nat) (h : Src w sb L p left) (k p1 : Nat) (hq9 : nextD L 9 p = (k, p1)) (hk : k = 7) (hd0 : 0 < d) (hdb : (d : Int) ≤ 100) (IH : Hid (∀ (w : World) (p : Nat), Src w sb L p left → Calls Tryz.prog 97 #[.pointer (some ⟨sb, 0, none⟩), .int .i64 d] w (ExPost w sb L left (exprD L d p)))) :
    Calls Tryz.prog 97 #[.pointer (some ⟨sb, 0, none⟩), .int .i64 (d + 1 : Nat)] w (ExPost w sb L left (exprD L (d + 1) p)) := by
  subst hk
  have HN : Hid (∀ (n p : Nat) (hn : 0 < n) (hn2 : n ≤ 1000) (W : World) (hW : Src W sb L p left), _) := hide fun n p hn hn2 W hW => next_any sb left n p L W hW hn hn2
  have HNM := hide fun (p : Nat) (W : World) (hW : Src W sb L p left) => sname_any sb left p L W hW
  have HSRC := hide (h.al (.cells #[.int .i64 0, .int .i64 0, .int .i64 0, .string ⟨#[]⟩, .slice none 0 0] 110))
  have hsb := h.lt
  have HZ0 : Hid ((w.alloc (.cells #[.int .i64 0, .int .i64 0, .int .i64 0, .string ⟨#[]⟩, .slice none 0 0] 110)).heap[w.heap.size]? = some (.cells #[.int .i64 0, .int .i64 0, .int .i64 0, .string ⟨#[]⟩, .slice none 0 0] 110 (0, 0))) := hide (by show (w.heap.push _)[w.heap.size]? = _; simp)
  have hk9 := nextD_lt L (n := 9) p (by omega)
  have HK0 := hide ((Kept.refl [sb] w).al (.cells #[.int .i64 0, .int .i64 0, .int .i64 0, .string ⟨#[]⟩, .slice none 0 0] 110))
  clear h
  clear hk9
  have hsm : ∀ (n q : Nat), 0 < n → n ≤ 20 → I64 ((nextD L n q).1 : Nat) ∧ I64 (14 + ((nextD L n q).1 : Nat)) ∧ I64 (1 + ((nextD L n q).1 : Nat)) := fun n q h0 h1 => by
    have := nextD_lt L q h0
    exact ⟨i64_sm (by omega), i64_sm (by omega), i64_sm (by omega)⟩
  have HSM := hide hsm
  have i0 : I64 0 := i64_sm (by decide)
  have HI0 := hide i0
  have hns := fun q => (nm5_ok _ (nameD_mem L q)).2
  have HNS := hide hns
  have hn5 := fun q => num5_ok (num5[(nextD L 5 q).1]!) (by rw [getElem!_pos num5 _ (nextD_lt L q (by omega))]; exact List.getElem_mem _)
  have HN5 := hide hn5
  clear hsm i0 hns hn5
  have hd1 : (1 : Int) ≤ (d : Int) := by omega
  have hd2 : ¬ ((d : Int) + 1 ≤ 1) := by omega
  have hdz : d ≠ 0 := by omega
  have e : exprD L (d + 1) p = (.mk 6 0 0 (nameD L p1).1 [(exprD L d (nameD L p1).2).1], (exprD L d (nameD L p1).2).2) := by rw [exprD]; simp [hq9, kindD, hdz]
  rw [e]
  clear e
  go_enter Tryz.func97, Tryz.ntmps97
  go_wp2_with fail
  refine (HN.out 9 p (by omega) (by omega) _ HSRC.out).mono ?_
  rintro r w2 ⟨hr, HS, hK⟩
  rw [hq9] at hr HS
  subst hr
  have HZ := hide (hK.heap (by simp; omega) HZ0.out)
  go_wp2_with fail
  refine (HNM.out p1 _ HS).mono ?_
  rintro r w3 ⟨rfl, HS3, hK3⟩
  have HZ := hide (hK3.heap (by simp; omega) HZ.out)
  go_wp2_with fail
  (with_reducible refine (IH.out _ _ HS3).mono ?_)
  rintro r w4 ⟨⟨v, rfl, hv⟩, HS4, hK4⟩
  have hw3 : w.heap.size < w3.heap.size := (Array.getElem?_eq_some_iff.1 HZ.out).1
  have HZ := hide (hK4.heap (by simp; omega) HZ.out)
  obtain ⟨ea, ecap, rfl, hew, her⟩ := hv
  have HEW := hide hew
  have HER := hide her
  clear hew her
  have q0 := cell_at (j := 0) HZ.out rfl
  have q1 := cell_at (j := 1) HZ.out rfl
  have q2 := cell_at (j := 2) HZ.out rfl
  have q3 := cell_at (j := 3) HZ.out rfl
  have q4 := cell_at (j := 4) HZ.out rfl
  have z0 := free_at (j := 0) HZ.out
  have z1 := free_at (j := 1) HZ.out
  have z2 := free_at (j := 2) HZ.out
  have z3 := free_at (j := 3) HZ.out
  have z4 := free_at (j := 4) HZ.out
  have hzl := cell_lt q0
  simp only at hzl
  go_wp2_with fail
  have hfin := fin5 (.int .i64 6) (.int .i64 0) (.int .i64 0) (.string ⟨(nameD L p1).1.toArray⟩) (.slice (some ⟨w4.heap.size, 0, none⟩) 1 1) HS4 (((HK0.out.tr hK).tr hK3).tr hK4) hsb
  have hrd := read5 (.int .i64 6) (.int .i64 0) (.int .i64 0) (.string ⟨(nameD L p1).1.toArray⟩) (.slice (some ⟨w4.heap.size, 0, none⟩) 1 1) HZ.out rfl
  have hsz := size5 (w := w) (W := w4) (.int .i64 6) (.int .i64 0) (.int .i64 0) (.string ⟨(nameD L p1).1.toArray⟩) (.slice (some ⟨w4.heap.size, 0, none⟩) 1 1)
  refine bodyPost_ret (v := nodeV 6 0 (nameD L p1).1 w4.heap.size 1) (by simp [results, Tryz.results97, go_sem, hrd, leafV, nodeV]) rfl ⟨⟨_, rfl, _, _, rfl, ⟨(show I64 6 from i64_sm (by decide)), HI0.out, HI0.out, by have := HNS.out p1; unfold maxLen; simp only [Ex.name]; omega, Nat.le_refl _, one_le⟩, ?_⟩, hfin.1.al _, hfin.2.al _⟩
  exact Ex.rowA 110 HEW.out (row5 _ _ _ _ _ hw3 HER.out) (bl _) hsz.symm (by rw [hsz]; omega)
theorem sexpr_any (sb left : Nat) (L : List Nat) : ∀ (d : Nat), 0 < d → d ≤ 100 → ∀ (w : World) (p : Nat), Src w sb L p left →
    Calls Tryz.prog 97 #[.pointer (some ⟨sb, 0, none⟩), .int .i64 d] w (ExPost w sb L left (exprD L d p)) := by
  intro d
  induction d with
  | zero => intro h; exact absurd h (Nat.lt_irrefl _)
  | succ d ih =>
    intro _ hdb w p h
    have hk9 := nextD_lt L (n := 9) p (by omega)
    obtain ⟨k, p1, hq9⟩ : ∃ k p1, nextD L 9 p = (k, p1) := ⟨_, _, rfl⟩
    rw [hq9] at hk9
    simp only at hk9
    by_cases h2 : k = 2
    · exact sexpr_bool sb left L d w p h k p1 hq9 h2
    by_cases h8 : k = 8
    · exact sexpr_len sb left L d w p h k p1 hq9 h8
    by_cases h0 : k = 0
    · exact sexpr_num0 sb left L d w p h k p1 hq9 h0
    by_cases h1 : k = 1
    · exact sexpr_num1 sb left L d w p h k p1 hq9 h1
    by_cases h3 : k = 3
    · exact sexpr_var3 sb left L d w p h k p1 hq9 h3
    by_cases h4 : k = 4
    · exact sexpr_var4 sb left L d w p h k p1 hq9 h4
    rcases Nat.eq_zero_or_pos d with hz | hd0
    · by_cases h5 : k = 5
      · exact sexpr_low5 sb left L d w p h k p1 hq9 h5 hz
      by_cases h6 : k = 6
      · exact sexpr_low6 sb left L d w p h k p1 hq9 h6 hz
      · exact sexpr_low7 sb left L d w p h k p1 hq9 (by omega) hz
    · have IH := hide (ih hd0 (by omega))
      by_cases h5 : k = 5
      · exact sexpr_un sb left L d w p h k p1 hq9 h5 hd0 (by omega) IH
      by_cases h6 : k = 6
      · exact sexpr_bin sb left L d w p h k p1 hq9 h6 hd0 (by omega) IH
      · exact sexpr_ix sb left L d w p h k p1 hq9 (by omega) hd0 (by omega) IH
end Go.Proofs.YtnkmbddjekepkaaGreatDoor
