/- New rows of expressions, statements, functions. -/
import Derived.Test.YtccgpmncpemmdaaDoorOwn
namespace Go.Proofs.YtccgpmncpemmdaaDoor
open Go Go.RowKit
set_option linter.unusedSimpArgs false
set_option linter.unusedVariables false
set_option linter.unnecessarySimpa false
theorem i64_l (n : Int) (h : -1000 ≤ n ∧ n ≤ 1000) : I64 n := by unfold I64; omega
theorem exC_val {w : World} {e : Ex} {v0 v1 v2 v3 v4 : Value} (h : Ex.Val w e (.agg #[v0, v1, v2, v3, v4])) : ExC w e [v0, v1, v2, v3, v4] := by
  obtain ⟨a, cap, hv, hw, hr⟩ := h
  simp only [Value.agg.injEq, Array.mk.injEq, List.cons.injEq, and_true] at hv
  obtain ⟨rfl, rfl, rfl, rfl, rfl⟩ := hv
  exact ⟨a, cap, rfl, hw, hr⟩
theorem cut5 {α : Type} {V : α → List Value → Prop} {a : α} {l : List α} {v0 v1 v2 v3 v4 : Value} {xs : List Value} (h : V a [v0, v1, v2, v3, v4]) (k : Cut 5 V l xs) : Cut 5 V (a :: l) (v0 :: v1 :: v2 :: v3 :: v4 :: xs) := ⟨[v0, v1, v2, v3, v4], xs, rfl, rfl, h, k⟩
theorem cut8 {α : Type} {V : α → List Value → Prop} {a : α} {l : List α} {v0 v1 v2 v3 v4 v5 v6 v7 : Value} {xs : List Value} (h : V a [v0, v1, v2, v3, v4, v5, v6, v7]) (k : Cut 8 V l xs) : Cut 8 V (a :: l) (v0 :: v1 :: v2 :: v3 :: v4 :: v5 :: v6 :: v7 :: xs) := ⟨[v0, v1, v2, v3, v4, v5, v6, v7], xs, rfl, rfl, h, k⟩
theorem cutN {α : Type} {V : α → List Value → Prop} {sz : Nat} : Cut sz V [] [] := rfl
theorem exs_new {w : World} {l : List Ex} {xs : List Value} (h : Cut 5 (ExC w) l xs) (t : TypeId) (n : Nat) (hn : n = w.heap.size) : Ex.Row (w.alloc (.cells xs.toArray t)) l (some ⟨n, 0, none⟩) := by
  subst hn
  refine Ex.Row.of fun i hi => ?_
  obtain ⟨c, ⟨a, cap, rfl, hw, hr⟩, _, hx⟩ := h.get i hi
  have key : ∀ (j : Nat) (v : Value), j < 5 → [Value.int .i64 l[i].kind, .int .i64 l[i].op, .int .i64 l[i].num, .string ⟨l[i].name.toArray⟩, .slice a l[i].args.length cap][j]? = some v → (w.alloc (.cells xs.toArray t)).cell? ⟨w.heap.size, 0 + i * 5 + j, none⟩ = some v := fun j v hj hv => by
    rw [Nat.zero_add]
    exact cell_of_list w xs t _ _ ((hx j hj).trans hv)
  have h0 := key 0 _ (by omega) rfl
  have h1 := key 1 _ (by omega) rfl
  have h2 := key 2 _ (by omega) rfl
  have h3 := key 3 _ (by omega) rfl
  have h4 := key 4 _ (by omega) rfl
  generalize l[i] = e at *
  cases e
  simp only [Ex.At]
  exact ⟨a, cap, h0, h1, h2, h3, h4, hw, hr.has (has_below ((bl w).al _))⟩
theorem sts_new {w : World} {l : List St} {xs : List Value} (h : Cut 8 (StC w) l xs) (t : TypeId) (n : Nat) (hn : n = w.heap.size) : St.Row (w.alloc (.cells xs.toArray t)) l (some ⟨n, 0, none⟩) := by
  subst hn
  refine St.Row.of fun i hi => ?_
  obtain ⟨c, ⟨pa, pb, pe, ca, cb, ce, rfl, hw, h1, h2, h3⟩, _, hx⟩ := h.get i hi
  have key : ∀ (j : Nat) (v : Value), j < 8 → [Value.int .i64 l[i].kind, .int .i64 l[i].no, .string ⟨l[i].name.toArray⟩, .int .i64 l[i].typ, .string ⟨l[i].callee.toArray⟩, .slice pa l[i].args.length ca, .slice pb l[i].body.length cb, .slice pe l[i].els.length ce][j]? = some v → (w.alloc (.cells xs.toArray t)).cell? ⟨w.heap.size, 0 + i * 8 + j, none⟩ = some v := fun j v hj hv => by
    rw [Nat.zero_add]
    exact cell_of_list w xs t _ _ ((hx j hj).trans hv)
  have hb := has_below ((bl w).al (.cells xs.toArray t))
  exact St.At.of ⟨key 0 _ (by omega) rfl, key 1 _ (by omega) rfl, key 2 _ (by omega) rfl, key 3 _ (by omega) rfl, key 4 _ (by omega) rfl, key 5 _ (by omega) rfl, key 6 _ (by omega) rfl, key 7 _ (by omega) rfl⟩ hw (h1.has hb) (h2.has hb) (h3.has hb)
theorem fns_new {w : World} {l : List Fn} {xs : List Value} (h : Cut 5 (FnC w) l xs) (t : TypeId) (n cap : Nat) (hn : n = w.heap.size) (h1 : l.length ≤ cap) (h2 : cap ≤ maxLen) : Fns (w.alloc (.cells xs.toArray t)) l (some ⟨n, 0, none⟩) cap := by
  subst hn
  refine ⟨h1, h2, fun _ => ⟨_, _, rfl⟩, fun b o e i hi => ?_⟩
  simp only [Option.some.injEq, Addr.mk.injEq, and_true] at e
  obtain ⟨rfl, rfl⟩ := e
  obtain ⟨c, ⟨pp, pb, cp, cb, rfl, hw, hp, hr⟩, _, hx⟩ := h.get i hi
  have key : ∀ (j : Nat) (v : Value), j < 5 → [Value.string ⟨l[i].name.toArray⟩, .slice pp l[i].params.length cp, .int .i64 l[i].result, .slice pb l[i].body.length cb, .int .i64 l[i].count][j]? = some v → (w.alloc (.cells xs.toArray t)).cell? ⟨w.heap.size, 0 + i * 5 + j, none⟩ = some v := fun j v hj hv => by
    rw [Nat.zero_add]
    exact cell_of_list w xs t _ _ ((hx j hj).trans hv)
  have hb := has_below ((bl w).al (.cells xs.toArray t))
  exact ⟨pp, pb, cp, cb, key 0 _ (by omega) rfl, key 1 _ (by omega) rfl, key 2 _ (by omega) rfl, key 3 _ (by omega) rfl, key 4 _ (by omega) rfl, hw, hp.has hb, hr.has hb⟩
theorem ex_leaf (w : World) (k o n : Int) (s : Bytes) (hk : I64 k) (ho : I64 o) (hn : I64 n) (hs : s.length ≤ maxLen) : Ex.Val w (.mk k o n s []) (.agg #[.int .i64 k, .int .i64 o, .int .i64 n, .string ⟨s.toArray⟩, .slice none 0 0]) :=
  ⟨none, 0, rfl, ⟨hk, ho, hn, hs, Nat.le_refl _, Nat.zero_le _⟩, trivial⟩
theorem ex_at {w : World} {e : Ex} {v0 v1 v2 v3 v4 : Value} (h : Ex.Val w e (.agg #[v0, v1, v2, v3, v4])) {b o : Nat} (h0 : w.cell? ⟨b, o, none⟩ = some v0) (h1 : w.cell? ⟨b, o + 1, none⟩ = some v1) (h2 : w.cell? ⟨b, o + 2, none⟩ = some v2) (h3 : w.cell? ⟨b, o + 3, none⟩ = some v3) (h4 : w.cell? ⟨b, o + 4, none⟩ = some v4) : Ex.At w e b o := by
  obtain ⟨a, cap, hv, hw, hr⟩ := h
  simp only [Value.agg.injEq, Array.mk.injEq, List.cons.injEq, and_true] at hv
  obtain ⟨rfl, rfl, rfl, rfl, rfl⟩ := hv
  cases e
  simp only [Ex.At]
  exact ⟨a, cap, h0, h1, h2, h3, h4, hw, hr⟩
theorem ex_leaf' (w : World) (k o n : Int) (s : Bytes) (hk : -1000 ≤ k ∧ k ≤ 1000) (ho : -1000 ≤ o ∧ o ≤ 1000) (hn : -1000 ≤ n ∧ n ≤ 1000) (hs : s.length ≤ 100) : ExC w (.mk k o n s []) [.int .i64 k, .int .i64 o, .int .i64 n, .string ⟨s.toArray⟩, .slice none 0 0] :=
  ⟨none, 0, rfl, ⟨i64_l k hk, i64_l o ho, i64_l n hn, Nat.le_trans hs (by unfold maxLen; omega), Nat.le_refl _, Nat.zero_le _⟩, trivial⟩
end Go.Proofs.YtccgpmncpemmdaaDoor
