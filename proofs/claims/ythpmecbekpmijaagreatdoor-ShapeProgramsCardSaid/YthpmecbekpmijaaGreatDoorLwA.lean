/- The examples of chapter 3: rewindlaw03.works answers true, where the table of blanks is laid. -/
import Derived.Test.YthpmecbekpmijaaGreatDoorSpI
import Derived.Test.YthpmecbekpmijaaGreatDoorSpO
namespace Go.Proofs.YthpmecbekpmijaaGreatDoor
open Go Go.RowKit
set_option linter.unusedSimpArgs false
set_option linter.unusedVariables false
set_option linter.unnecessarySimpa false
theorem i64_l (n : Int) (h : -1000 ≤ n ∧ n ≤ 1000) : I64 n := by unfold I64; omega
theorem num_law (n : Int) (w : World) : Calls Tryz.prog 26 #[.int .i64 n] w fun r w' => r = .returned (.agg #[.int .i64 1, .int .i64 0, .int .i64 n, .string ⟨#[]⟩, .slice none 0 0]) ∧ Below w.heap.size w w' := by
  go_enter Tryz.func26, Tryz.ntmps26
  go_wp2_with fail
  exact bodyPost_ret (v := .agg #[.int .i64 1, .int .i64 0, .int .i64 n, .string ⟨#[]⟩, .slice none 0 0]) (by simp [results, Tryz.results26, go_sem]) rfl ⟨rfl, (bl w).al _⟩
theorem name_law (s : Array UInt8) (w : World) : Calls Tryz.prog 38 #[.string ⟨s⟩] w fun r w' => r = .returned (.agg #[.int .i64 3, .int .i64 0, .int .i64 0, .string ⟨s⟩, .slice none 0 0]) ∧ Below w.heap.size w w' := by
  go_enter Tryz.func38, Tryz.ntmps38
  go_wp2_with fail
  exact bodyPost_ret (v := .agg #[.int .i64 3, .int .i64 0, .int .i64 0, .string ⟨s⟩, .slice none 0 0]) (by simp [results, Tryz.results38, go_sem]) rfl ⟨rfl, (bl w).al _⟩
theorem exC_val {w : World} {e : Ex} {v0 v1 v2 v3 v4 : Value} (h : Ex.Val w e (.agg #[v0, v1, v2, v3, v4])) : ExC w e [v0, v1, v2, v3, v4] := by
  obtain ⟨a, cap, hv, hw, hr⟩ := h
  simp only [Value.agg.injEq, Array.mk.injEq, List.cons.injEq, and_true] at hv
  obtain ⟨rfl, rfl, rfl, rfl, rfl⟩ := hv
  exact ⟨a, cap, rfl, hw, hr⟩
theorem cut5 {α : Type} {V : α → List Value → Prop} {a : α} {l : List α} {v0 v1 v2 v3 v4 : Value} {xs : List Value} (h : V a [v0, v1, v2, v3, v4]) (k : Cut 5 V l xs) : Cut 5 V (a :: l) (v0 :: v1 :: v2 :: v3 :: v4 :: xs) := ⟨[v0, v1, v2, v3, v4], xs, rfl, rfl, h, k⟩
theorem cut8 {α : Type} {V : α → List Value → Prop} {a : α} {l : List α} {v0 v1 v2 v3 v4 v5 v6 v7 : Value} {xs : List Value} (h : V a [v0, v1, v2, v3, v4, v5, v6, v7]) (k : Cut 8 V l xs) : Cut 8 V (a :: l) (v0 :: v1 :: v2 :: v3 :: v4 :: v5 :: v6 :: v7 :: xs) := ⟨[v0, v1, v2, v3, v4, v5, v6, v7], xs, rfl, rfl, h, k⟩
theorem cutN {α : Type} {V : α → List Value → Prop} {sz : Nat} : Cut sz V [] [] := rfl
/-- A new row of expressions. -/
theorem exs_new {w : World} {l : List Ex} {xs : List Value} (h : Cut 5 (ExC w) l xs) (t : TypeId) (n : Nat) (hn : n = w.heap.size) : Ex.Row (w.alloc (.cells xs.toArray t)) l (some ⟨n, 0, none⟩) := by
  subst hn
  refine Ex.Row.of fun i hi => ?_
  obtain ⟨c, ⟨a, cap, rfl, hw, hr⟩, _, hx⟩ := h.get i hi
  have key : ∀ (j : Nat) (v : Value), j < 5 → [Value.int .i64 l[i].kind, .int .i64 l[i].op, .int .i64 l[i].num, .string ⟨l[i].name.toArray⟩, .slice a l[i].args.length cap][j]? = some v → (w.alloc (.cells xs.toArray t)).cell? ⟨w.heap.size, 0 + i * 5 + j, none⟩ = some v := fun j v hj hv => by
    rw [Nat.zero_add]
    exact cell_of_list w xs t _ _ ((hx j hj).trans hv)
  have h0 := key 0 _ (by omega) rfl
  have h1 := key 1 _ (by omega) rfl
  have h2 := key 2 _ (by omega) rfl
  have h3 := key 3 _ (by omega) rfl
  have h4 := key 4 _ (by omega) rfl
  generalize l[i] = e at *
  cases e
  simp only [Ex.At]
  exact ⟨a, cap, h0, h1, h2, h3, h4, hw, hr.has (has_below ((bl w).al _))⟩
/-- A new row of statements. -/
theorem sts_new {w : World} {l : List St} {xs : List Value} (h : Cut 8 (StC w) l xs) (t : TypeId) (n : Nat) (hn : n = w.heap.size) : St.Row (w.alloc (.cells xs.toArray t)) l (some ⟨n, 0, none⟩) := by
  subst hn
  refine St.Row.of fun i hi => ?_
  obtain ⟨c, ⟨pa, pb, pe, ca, cb, ce, rfl, hw, h1, h2, h3⟩, _, hx⟩ := h.get i hi
  have key : ∀ (j : Nat) (v : Value), j < 8 → [Value.int .i64 l[i].kind, .int .i64 l[i].no, .string ⟨l[i].name.toArray⟩, .int .i64 l[i].typ, .string ⟨l[i].callee.toArray⟩, .slice pa l[i].args.length ca, .slice pb l[i].body.length cb, .slice pe l[i].els.length ce][j]? = some v → (w.alloc (.cells xs.toArray t)).cell? ⟨w.heap.size, 0 + i * 8 + j, none⟩ = some v := fun j v hj hv => by
    rw [Nat.zero_add]
    exact cell_of_list w xs t _ _ ((hx j hj).trans hv)
  have hb := has_below ((bl w).al (.cells xs.toArray t))
  exact St.At.of ⟨key 0 _ (by omega) rfl, key 1 _ (by omega) rfl, key 2 _ (by omega) rfl, key 3 _ (by omega) rfl, key 4 _ (by omega) rfl, key 5 _ (by omega) rfl, key 6 _ (by omega) rfl, key 7 _ (by omega) rfl⟩ hw (h1.has hb) (h2.has hb) (h3.has hb)
/-- A new row of functions. -/
theorem fns_new {w : World} {l : List Fn} {xs : List Value} (h : Cut 5 (FnC w) l xs) (t : TypeId) (n cap : Nat) (hn : n = w.heap.size) (h1 : l.length ≤ cap) (h2 : cap ≤ maxLen) : Fns (w.alloc (.cells xs.toArray t)) l (some ⟨n, 0, none⟩) cap := by
  subst hn
  refine ⟨h1, h2, fun _ => ⟨_, _, rfl⟩, fun b o e i hi => ?_⟩
  simp only [Option.some.injEq, Addr.mk.injEq, and_true] at e
  obtain ⟨rfl, rfl⟩ := e
  obtain ⟨c, ⟨pp, pb, cp, cb, rfl, hw, hp, hr⟩, _, hx⟩ := h.get i hi
  have key : ∀ (j : Nat) (v : Value), j < 5 → [Value.string ⟨l[i].name.toArray⟩, .slice pp l[i].params.length cp, .int .i64 l[i].result, .slice pb l[i].body.length cb, .int .i64 l[i].count][j]? = some v → (w.alloc (.cells xs.toArray t)).cell? ⟨w.heap.size, 0 + i * 5 + j, none⟩ = some v := fun j v hj hv => by
    rw [Nat.zero_add]
    exact cell_of_list w xs t _ _ ((hx j hj).trans hv)
  have hb := has_below ((bl w).al (.cells xs.toArray t))
  exact ⟨pp, pb, cp, cb, key 0 _ (by omega) rfl, key 1 _ (by omega) rfl, key 2 _ (by omega) rfl, key 3 _ (by omega) rfl, key 4 _ (by omega) rfl, hw, hp.has hb, hr.has hb⟩
set_option maxHeartbeats 1000000 in
theorem binary_law (op : Int) (e f : Ex) (x y : Value) (w : World) (ho : I64 op) (hx : Ex.Val w e x) (hy : Ex.Val w f y) : Calls Tryz.prog 37 #[.int .i64 op, x, y] w fun r w' => (∃ a, r = .returned (.agg #[.int .i64 5, .int .i64 op, .int .i64 0, .string ⟨#[]⟩, .slice a 2 2]) ∧ Ex.Val w' (.mk 5 op 0 [] [e, f]) (.agg #[.int .i64 5, .int .i64 op, .int .i64 0, .string ⟨#[]⟩, .slice a 2 2])) ∧ Below w.heap.size w w' := by
  have hx0 := hx
  have hy0 := hy
  obtain ⟨a, cap, rfl, hw, hr⟩ := hx
  obtain ⟨c, dap, rfl, hw2, hr2⟩ := hy
  have HR := hide fun (W : World) (hW : Below w.heap.size w W) (n : Nat) (hn : n = W.heap.size) => exs_new (cut5 (exC_val (hx0.keep hW (Nat.le_refl _))) (cut5 (exC_val (hy0.keep hW (Nat.le_refl _))) cutN)) 27 n hn
  have HO := hide ho
  clear hr hr2 hw hw2 hx0 hy0 ho
  go_enter Tryz.func37, Tryz.ntmps37
  go_wp2_with fail
  refine bodyPost_ret (v := .agg #[.int .i64 5, .int .i64 op, .int .i64 0, .string ⟨#[]⟩, .slice (some ⟨w.heap.size + 1 + 1 + 1, 0, none⟩) 2 2]) (by simp [results, Tryz.results37, go_sem]) rfl ⟨⟨_, rfl, ?_⟩, ((((bl w).al _).al _).al _).al _⟩
  refine ⟨_, 2, rfl, ⟨i64_l 5 (by omega), HO.out, i64_l 0 (by omega), Nat.zero_le _, Nat.le_refl _, by unfold maxLen; omega⟩, ?_⟩
  exact HR.out _ ((((bl w).al _).al _).al _) _ (by simp)
theorem ex_leaf (w : World) (k o n : Int) (s : Bytes) (hk : I64 k) (ho : I64 o) (hn : I64 n) (hs : s.length ≤ maxLen) : Ex.Val w (.mk k o n s []) (.agg #[.int .i64 k, .int .i64 o, .int .i64 n, .string ⟨s.toArray⟩, .slice none 0 0]) :=
  ⟨none, 0, rfl, ⟨hk, ho, hn, hs, Nat.le_refl _, Nat.zero_le _⟩, trivial⟩
/-- The five cells of an expression that is a value. -/
theorem ex_at {w : World} {e : Ex} {v0 v1 v2 v3 v4 : Value} (h : Ex.Val w e (.agg #[v0, v1, v2, v3, v4])) {b o : Nat} (h0 : w.cell? ⟨b, o, none⟩ = some v0) (h1 : w.cell? ⟨b, o + 1, none⟩ = some v1) (h2 : w.cell? ⟨b, o + 2, none⟩ = some v2) (h3 : w.cell? ⟨b, o + 3, none⟩ = some v3) (h4 : w.cell? ⟨b, o + 4, none⟩ = some v4) : Ex.At w e b o := by
  obtain ⟨a, cap, hv, hw, hr⟩ := h
  simp only [Value.agg.injEq, Array.mk.injEq, List.cons.injEq, and_true] at hv
  obtain ⟨rfl, rfl, rfl, rfl, rfl⟩ := hv
  cases e
  simp only [Ex.At]
  exact ⟨a, cap, h0, h1, h2, h3, h4, hw, hr⟩
theorem cut_world {P : Program} {c : Code} {Q : Exit → Act → World → Prop} {a : Act} {w : World} (Φ : World → Prop) (hΦ : Φ w) (h : ∀ w', Φ w' → c.wp P Q a w') : c.wp P Q a w := h w hΦ
theorem cut_calls {P : Program} {f : FuncId} {args : Array Value} {post : Ending → World → Prop} {w : World} (Φ : World → Prop) (hΦ : Φ w) (h : ∀ w', Φ w' → Calls P f args w' post) : Calls P f args w post := h w hΦ
/-- What of the numbered program is read. -/
structure ExOut (W : World) (gq oq gb ob cb : Nat) : Prop where
  c3 : W.cell? ⟨gq, oq + 3, none⟩ = some (.slice (some ⟨gb, ob, none⟩) 2 cb)
  c4 : W.cell? ⟨gq, oq + 4, none⟩ = some (.int .i64 2)
  d0 : W.cell? ⟨gb, ob + 1, none⟩ = some (.int .i64 0)
  d1 : W.cell? ⟨gb, ob + 8 + 1, none⟩ = some (.int .i64 1)
theorem ExOut.below {W W' : World} {gq oq gb ob cb : Nat} (h : ExOut W gq oq gb ob cb) (hb : Below W.heap.size W W') : ExOut W' gq oq gb ob cb :=
  ⟨cell_keep h.c3 hb (Nat.le_refl _), cell_keep h.c4 hb (Nat.le_refl _), cell_keep h.d0 hb (Nat.le_refl _), cell_keep h.d1 hb (Nat.le_refl _)⟩
theorem name_is (s : Bytes) (b : Bool) (h : nameOk s = b) (w : World) (hT : Tab w) (hs : s.length ≤ maxLen) : Calls Tryz.prog 36 #[.string ⟨s.toArray⟩] w fun e w' => e = .returned (.bool b) ∧ Below w.heap.size w w' := by
  subst h
  exact name_any s w hT hs
def goodL : List Bytes := [[120], [97, 95, 49], [76, 101, 110]]
def badL : List Bytes := [[], [49, 97], [95, 97], [108, 101, 110], [97, 45, 98], [97, 98, 99, 100, 101, 102, 103, 104, 105, 106, 107, 108, 109, 110, 111, 112, 113]]
theorem good_ok : ∀ s ∈ goodL, nameOk s = true := by decide +kernel
theorem bad_ok : ∀ s ∈ badL, nameOk s = false := by decide +kernel
theorem short_ok : (∀ s ∈ goodL, s.length ≤ maxLen) ∧ ∀ s ∈ badL, s.length ≤ maxLen := by
  constructor
  all_goals
    intro s hs
    simp only [goodL, badL, List.mem_cons, List.not_mem_nil, or_false] at hs
    unfold maxLen
    rcases hs with rfl | rfl | rfl | rfl | rfl | rfl <;> simp
def badE : List Ex := [.mk 1 0 (-5) [] [], .mk 2 0 2 [] [], .mk 3 0 1 [120] [], .mk 4 1 0 [] [.mk 1 0 1 [] []], .mk 0 0 0 [] []]
theorem badE_no : ∀ e ∈ badE, depthM 20 e = 0 := by decide +kernel
def badC (a : Option Addr) : List Value := [.int .i64 1, .int .i64 0, .int .i64 (-5), .string ⟨#[]⟩, .slice none 0 0, .int .i64 2, .int .i64 0, .int .i64 2, .string ⟨#[]⟩, .slice none 0 0, .int .i64 3, .int .i64 0, .int .i64 1, .string ⟨#[120]⟩, .slice none 0 0,
  .int .i64 4, .int .i64 1, .int .i64 0, .string ⟨#[]⟩, .slice a 1 1, .int .i64 0, .int .i64 0, .int .i64 0, .string ⟨#[]⟩, .slice none 0 0]
theorem ex_leaf' (w : World) (k o n : Int) (s : Bytes) (hk : -1000 ≤ k ∧ k ≤ 1000) (ho : -1000 ≤ o ∧ o ≤ 1000) (hn : -1000 ≤ n ∧ n ≤ 1000) (hs : s.length ≤ 100) : ExC w (.mk k o n s []) [.int .i64 k, .int .i64 o, .int .i64 n, .string ⟨s.toArray⟩, .slice none 0 0] :=
  ⟨none, 0, rfl, ⟨i64_l k hk, i64_l o ho, i64_l n hn, Nat.le_trans hs (by unfold maxLen; omega), Nat.le_refl _, Nat.zero_le _⟩, trivial⟩
theorem bad_cut {w : World} {a : Option Addr} (h : Ex.Row w [.mk 1 0 1 [] []] a) : Cut 5 (ExC w) badE (badC a) :=
  cut5 (ex_leaf' w 1 0 (-5) [] (by omega) (by omega) (by omega) (Nat.zero_le _)) (cut5 (ex_leaf' w 2 0 2 [] (by omega) (by omega) (by omega) (Nat.zero_le _)) (cut5 (ex_leaf' w 3 0 1 [120] (by omega) (by omega) (by omega) (by simp)) (cut5 ⟨a, 1, rfl, ⟨i64_l 4 (by omega), i64_l 1 (by omega), i64_l 0 (by omega), Nat.zero_le _, Nat.le_refl _, by unfold maxLen; omega⟩, h⟩
    (cut5 (ex_leaf' w 0 0 0 [] (by omega) (by omega) (by omega) (Nat.zero_le _)) cutN))))
def exSum : Ex := .mk 5 1 0 [] [.mk 1 0 1 [] [], .mk 5 3 0 [] [.mk 1 0 2 [] [], .mk 1 0 3 [] []]]
def exX : Ex := .mk 3 0 0 [120] []
def exS : St := .mk 6 0 [] 0 [] [exX] [] []
def exT : St := .mk 6 5 [] 0 [] [exX] [] []
def exF : Fn := ⟨[109, 97, 105, 110], [], 0, [exS, exS], 2⟩
def exN : Fn := ⟨[109, 97, 105, 110], [], 0, [exS, .mk 6 1 [] 0 [] [exX] [] []], 2⟩
theorem ex_number : numberM [exF] = [exN] := by
  unfold numberM
  rw [if_pos ⟨by decide, fun f hf => by
    rw [List.mem_singleton] at hf
    subst hf
    decide +kernel⟩]
  rfl
theorem ex_check : checkM [exF] = 2 := by
  unfold checkM
  rw [if_neg]
  rintro ⟨_, h⟩
  have := (h exF (by simp)).2
  revert this
  decide +kernel
theorem ex_depth : depthM 20 exSum = 3 := by decide +kernel
theorem ex_same : sameS exS exT = true := by decide +kernel
/-- What lies in memory when the examples have been made. -/
structure ExIn (w W : World) (n7 n8 n9 n6 gf : Nat) (a5 : Option Addr) : Prop where
  tab : Tab W
  b : Below w.heap.size w W
  h7 : W.heap[n7]? = some (.cells #[.int .i64 5, .int .i64 1, .int .i64 0, .string ⟨#[]⟩, .slice a5 2 2] 27 (0, 0))
  h8 : W.heap[n8]? = some (.cells #[.int .i64 6, .int .i64 0, .string ⟨#[]⟩, .int .i64 0, .string ⟨#[]⟩, .slice (some ⟨n6, 0, none⟩) 1 1, .slice none 0 0, .slice none 0 0] 34 (0, 0))
  h9 : W.heap[n9]? = some (.cells #[.slice (some ⟨gf, 0, none⟩) 1 1] 38 (0, 0))
  r5 : Ex.Val W exSum (.agg #[.int .i64 5, .int .i64 1, .int .i64 0, .string ⟨#[]⟩, .slice a5 2 2])
  r6 : Ex.Row W [exX] (some ⟨n6, 0, none⟩)
  f : Fns W [exF] (some ⟨gf, 0, none⟩) 1
theorem ExIn.below {w W W' : World} {n7 n8 n9 n6 gf : Nat} {a5 : Option Addr} (h : ExIn w W n7 n8 n9 n6 gf a5) (hb : Below W.heap.size W W') : ExIn w W' n7 n8 n9 n6 gf a5 :=
  ⟨h.tab.below hb, h.b.tr hb, (hb.block _ (Array.getElem?_eq_some_iff.1 h.h7).1).trans h.h7, (hb.block _ (Array.getElem?_eq_some_iff.1 h.h8).1).trans h.h8, (hb.block _ (Array.getElem?_eq_some_iff.1 h.h9).1).trans h.h9, h.r5.has (has_below hb), h.r6.has (has_below hb), h.f.has (has_below hb)⟩
theorem stC_x {w : World} {n6 : Nat} (h : Ex.Row w [exX] (some ⟨n6, 0, none⟩)) (no : Int) (hn : -1000 ≤ no ∧ no ≤ 1000) : StC w (.mk 6 no [] 0 [] [exX] [] []) [.int .i64 6, .int .i64 no, .string ⟨#[]⟩, .int .i64 0, .string ⟨#[]⟩, .slice (some ⟨n6, 0, none⟩) 1 1, .slice none 0 0, .slice none 0 0] :=
  ⟨some ⟨n6, 0, none⟩, none, none, 1, 0, 0, rfl, ⟨i64_l 6 (by omega), i64_l no hn, Nat.zero_le _, i64_l 0 (by omega), Nat.zero_le _, Nat.le_refl _, by unfold maxLen; omega, Nat.le_refl _, Nat.zero_le _, Nat.le_refl _, Nat.zero_le _⟩, h, trivial, trivial⟩
theorem ExIn.make {w w5 w6 : World} {a5 : Option Addr} (hT : Tab w5) (hb : Below w.heap.size w w5) (he : Ex.Val w5 exSum (.agg #[.int .i64 5, .int .i64 1, .int .i64 0, .string ⟨#[]⟩, .slice a5 2 2])) (hb6 : Below (w5.alloc (.cells #[.int .i64 5, .int .i64 1, .int .i64 0, .string ⟨#[]⟩, .slice a5 2 2] 27)).heap.size (w5.alloc (.cells #[.int .i64 5, .int .i64 1, .int .i64 0, .string ⟨#[]⟩, .slice a5 2 2] 27)) w6) (n6 : Nat) (h6 : n6 = w6.heap.size) :
    ExIn w (((((w6.alloc (.cells #[.int .i64 3, .int .i64 0, .int .i64 0, .string ⟨#[120]⟩, .slice none 0 0] 27)).alloc (.cells #[.int .i64 6, .int .i64 0, .string ⟨#[]⟩, .int .i64 0, .string ⟨#[]⟩, .slice (some ⟨n6, 0, none⟩) 1 1, .slice none 0 0, .slice none 0 0] 34)).alloc (.cells #[.int .i64 6, .int .i64 0, .string ⟨#[]⟩, .int .i64 0, .string ⟨#[]⟩, .slice (some ⟨n6, 0, none⟩) 1 1, .slice none 0 0, .slice none 0 0, .int .i64 6, .int .i64 0, .string ⟨#[]⟩, .int .i64 0, .string ⟨#[]⟩, .slice (some ⟨n6, 0, none⟩) 1 1, .slice none 0 0, .slice none 0 0] 34)).alloc
      (.cells #[.string ⟨#[109, 97, 105, 110]⟩, .slice none 0 0, .int .i64 0, .slice (some ⟨n6 + 1 + 1, 0, none⟩) 2 2, .int .i64 2] 42)).alloc (.cells #[.slice (some ⟨n6 + 1 + 1 + 1, 0, none⟩) 1 1] 38)) w5.heap.size (n6 + 1) (n6 + 1 + 1 + 1 + 1) n6 (n6 + 1 + 1 + 1) a5 := by
  subst h6
  have hB6 := ((bl w5).al (.cells #[.int .i64 5, .int .i64 1, .int .i64 0, .string ⟨#[]⟩, .slice a5 2 2] 27)).tr hb6
  have q7 : w6.heap[w5.heap.size]? = some (.cells #[.int .i64 5, .int .i64 1, .int .i64 0, .string ⟨#[]⟩, .slice a5 2 2] 27 (0, 0)) := (hb6.block _ (by simp)).trans (heap_alloc_new _ _)
  have hx := exs_new (w := w6) (cut5 (ex_leaf' w6 3 0 0 [120] (by omega) (by omega) (by omega) (by simp)) cutN) 27 _ rfl
  have hbx := (bl w6).al (.cells #[.int .i64 3, .int .i64 0, .int .i64 0, .string ⟨#[120]⟩, .slice none 0 0] 27)
  obtain ⟨W7, h7⟩ : ∃ W7, W7 = w6.alloc (.cells #[.int .i64 3, .int .i64 0, .int .i64 0, .string ⟨#[120]⟩, .slice none 0 0] 27) := ⟨_, rfl⟩
  have s7 : W7.heap.size = w6.heap.size + 1 := by rw [h7]; simp
  rw [← h7]
  rw [← h7] at hbx
  have hx' : Ex.Row W7 [exX] (some ⟨w6.heap.size, 0, none⟩) := by rw [h7]; exact hx
  clear h7 hx
  have q8 := heap_alloc_new W7 (.cells #[.int .i64 6, .int .i64 0, .string ⟨#[]⟩, .int .i64 0, .string ⟨#[]⟩, .slice (some ⟨w6.heap.size, 0, none⟩) 1 1, .slice none 0 0, .slice none 0 0] 34)
  have b8 := (bl W7).al (.cells #[.int .i64 6, .int .i64 0, .string ⟨#[]⟩, .int .i64 0, .string ⟨#[]⟩, .slice (some ⟨w6.heap.size, 0, none⟩) 1 1, .slice none 0 0, .slice none 0 0] 34)
  have s8 : (W7.alloc (.cells #[.int .i64 6, .int .i64 0, .string ⟨#[]⟩, .int .i64 0, .string ⟨#[]⟩, .slice (some ⟨w6.heap.size, 0, none⟩) 1 1, .slice none 0 0, .slice none 0 0] 34)).heap.size = w6.heap.size + 1 + 1 := by simp [s7]
  rw [s7] at q8
  generalize W7.alloc (.cells #[.int .i64 6, .int .i64 0, .string ⟨#[]⟩, .int .i64 0, .string ⟨#[]⟩, .slice (some ⟨w6.heap.size, 0, none⟩) 1 1, .slice none 0 0, .slice none 0 0] 34) = W8 at *
  have hx8 := hx'.has (has_below b8)
  have hr9 := sts_new (w := W8) (cut8 (stC_x hx8 0 (by omega)) (cut8 (stC_x hx8 0 (by omega)) cutN)) 34 (w6.heap.size + 1 + 1) s8.symm
  have b9 := (bl W8).al (.cells #[.int .i64 6, .int .i64 0, .string ⟨#[]⟩, .int .i64 0, .string ⟨#[]⟩, .slice (some ⟨w6.heap.size, 0, none⟩) 1 1, .slice none 0 0, .slice none 0 0, .int .i64 6, .int .i64 0, .string ⟨#[]⟩, .int .i64 0, .string ⟨#[]⟩, .slice (some ⟨w6.heap.size, 0, none⟩) 1 1, .slice none 0 0, .slice none 0 0] 34)
  have s9 : (W8.alloc (.cells #[.int .i64 6, .int .i64 0, .string ⟨#[]⟩, .int .i64 0, .string ⟨#[]⟩, .slice (some ⟨w6.heap.size, 0, none⟩) 1 1, .slice none 0 0, .slice none 0 0, .int .i64 6, .int .i64 0, .string ⟨#[]⟩, .int .i64 0, .string ⟨#[]⟩, .slice (some ⟨w6.heap.size, 0, none⟩) 1 1, .slice none 0 0, .slice none 0 0] 34)).heap.size = w6.heap.size + 1 + 1 + 1 := by simp [s8]
  have hr9' : St.Row (W8.alloc (.cells #[.int .i64 6, .int .i64 0, .string ⟨#[]⟩, .int .i64 0, .string ⟨#[]⟩, .slice (some ⟨w6.heap.size, 0, none⟩) 1 1, .slice none 0 0, .slice none 0 0, .int .i64 6, .int .i64 0, .string ⟨#[]⟩, .int .i64 0, .string ⟨#[]⟩, .slice (some ⟨w6.heap.size, 0, none⟩) 1 1, .slice none 0 0, .slice none 0 0] 34)) [exS, exS] (some ⟨w6.heap.size + 1 + 1, 0, none⟩) := hr9
  clear hr9
  generalize W8.alloc (.cells #[.int .i64 6, .int .i64 0, .string ⟨#[]⟩, .int .i64 0, .string ⟨#[]⟩, .slice (some ⟨w6.heap.size, 0, none⟩) 1 1, .slice none 0 0, .slice none 0 0, .int .i64 6, .int .i64 0, .string ⟨#[]⟩, .int .i64 0, .string ⟨#[]⟩, .slice (some ⟨w6.heap.size, 0, none⟩) 1 1, .slice none 0 0, .slice none 0 0] 34) = W9 at *
  have hfc : FnC W9 exF [.string ⟨#[109, 97, 105, 110]⟩, .slice none 0 0, .int .i64 0, .slice (some ⟨w6.heap.size + 1 + 1, 0, none⟩) 2 2, .int .i64 2] :=
    ⟨none, some ⟨w6.heap.size + 1 + 1, 0, none⟩, 0, 2, rfl, ⟨by unfold maxLen; simp [exF], i64_l 0 (by omega), Nat.le_refl _, by unfold maxLen; omega, i64_l 2 (by omega)⟩, ⟨Nat.le_refl _, Nat.zero_le _, by simp [exF], fun b o e => (by cases e), by simp [exF]⟩, hr9'⟩
  have hf := fns_new (w := W9) (cut5 hfc cutN) 42 (w6.heap.size + 1 + 1 + 1) 1 s9.symm (by simp) (by unfold maxLen; omega)
  have b10 := (bl W9).al (.cells #[.string ⟨#[109, 97, 105, 110]⟩, .slice none 0 0, .int .i64 0, .slice (some ⟨w6.heap.size + 1 + 1, 0, none⟩) 2 2, .int .i64 2] 42)
  have s10 : (W9.alloc (.cells #[.string ⟨#[109, 97, 105, 110]⟩, .slice none 0 0, .int .i64 0, .slice (some ⟨w6.heap.size + 1 + 1, 0, none⟩) 2 2, .int .i64 2] 42)).heap.size = w6.heap.size + 1 + 1 + 1 + 1 := by simp [s9]
  generalize W9.alloc (.cells #[.string ⟨#[109, 97, 105, 110]⟩, .slice none 0 0, .int .i64 0, .slice (some ⟨w6.heap.size + 1 + 1, 0, none⟩) 2 2, .int .i64 2] 42) = W10 at *
  have q11 := heap_alloc_new W10 (.cells #[.slice (some ⟨w6.heap.size + 1 + 1 + 1, 0, none⟩) 1 1] 38)
  rw [s10] at q11
  have b11 := (bl W10).al (.cells #[.slice (some ⟨w6.heap.size + 1 + 1 + 1, 0, none⟩) 1 1] 38)
  generalize W10.alloc (.cells #[.slice (some ⟨w6.heap.size + 1 + 1 + 1, 0, none⟩) 1 1] 38) = W11 at *
  have bA : Below W8.heap.size W8 W11 := (b9.tr b10).tr b11
  have bB : Below w6.heap.size w6 W11 := (hbx.tr b8).tr bA
  have l7 : w5.heap.size < w6.heap.size := (Array.getElem?_eq_some_iff.1 q7).1
  exact ⟨(hT.below hB6).below bB, (hb.tr hB6).tr bB, (bB.block _ l7).trans q7, (bA.block _ (by omega)).trans q8, q11, (he.has (has_below hB6)).has (has_below bB), hx8.has (has_below bA), hf.has (has_below b11)⟩
theorem stVal_x {w : World} {n6 : Nat} (h : Ex.Row w [exX] (some ⟨n6, 0, none⟩)) (no : Int) (hn : -1000 ≤ no ∧ no ≤ 1000) : St.Val w (.mk 6 no [] 0 [] [exX] [] []) (.agg #[.int .i64 6, .int .i64 no, .string ⟨#[]⟩, .int .i64 0, .string ⟨#[]⟩, .slice (some ⟨n6, 0, none⟩) 1 1, .slice none 0 0, .slice none 0 0]) :=
  ⟨some ⟨n6, 0, none⟩, none, none, 1, 0, 0, rfl, ⟨i64_l 6 (by omega), i64_l no hn, Nat.zero_le _, i64_l 0 (by omega), Nat.zero_le _, Nat.le_refl _, by unfold maxLen; omega, Nat.le_refl _, Nat.zero_le _, Nat.le_refl _, Nat.zero_le _⟩, h, trivial, trivial⟩
/-- And the numbered program, and the statement with another number. -/
structure ExAll (w W : World) (n7 n8 n9 n6 gf : Nat) (a5 : Option Addr) (gq oq gb ob cb qc n10 n11 : Nat) : Prop where
  i : ExIn w W n7 n8 n9 n6 gf a5
  o : ExOut W gq oq gb ob cb
  h10 : W.heap[n10]? = some (.cells #[.slice (some ⟨gq, oq, none⟩) 1 qc] 38 (0, 0))
  h11 : W.heap[n11]? = some (.cells #[.int .i64 6, .int .i64 5, .string ⟨#[]⟩, .int .i64 0, .string ⟨#[]⟩, .slice (some ⟨n6, 0, none⟩) 1 1, .slice none 0 0, .slice none 0 0] 34 (0, 0))
theorem ExAll.below {w W W' : World} {n7 n8 n9 n6 gf : Nat} {a5 : Option Addr} {gq oq gb ob cb qc n10 n11 : Nat} (h : ExAll w W n7 n8 n9 n6 gf a5 gq oq gb ob cb qc n10 n11) (hb : Below W.heap.size W W') : ExAll w W' n7 n8 n9 n6 gf a5 gq oq gb ob cb qc n10 n11 :=
  ⟨h.i.below hb, h.o.below hb, (hb.block _ (Array.getElem?_eq_some_iff.1 h.h10).1).trans h.h10, (hb.block _ (Array.getElem?_eq_some_iff.1 h.h11).1).trans h.h11⟩
theorem ExAll.make {w W : World} {n7 n8 n9 n6 gf : Nat} {a5 : Option Addr} {gq oq gb ob cb qc : Nat} (h : ExIn w W n7 n8 n9 n6 gf a5) (o : ExOut W gq oq gb ob cb) :
    ExAll w ((W.alloc (.cells #[.slice (some ⟨gq, oq, none⟩) 1 qc] 38)).alloc (.cells #[.int .i64 6, .int .i64 5, .string ⟨#[]⟩, .int .i64 0, .string ⟨#[]⟩, .slice (some ⟨n6, 0, none⟩) 1 1, .slice none 0 0, .slice none 0 0] 34)) n7 n8 n9 n6 gf a5 gq oq gb ob cb qc W.heap.size (W.heap.size + 1) := by
  have b := ((bl W).al (.cells #[.slice (some ⟨gq, oq, none⟩) 1 qc] 38)).al (.cells #[.int .i64 6, .int .i64 5, .string ⟨#[]⟩, .int .i64 0, .string ⟨#[]⟩, .slice (some ⟨n6, 0, none⟩) 1 1, .slice none 0 0, .slice none 0 0] 34)
  refine ⟨h.below b, o.below b, ?_, ?_⟩
  · rw [Below.heap_alloc _ _ _ (by simp)]
    exact heap_alloc_new _ _
  · rw [show W.heap.size + 1 = (W.alloc (.cells #[.slice (some ⟨gq, oq, none⟩) 1 qc] 38)).heap.size by simp]
    exact heap_alloc_new _ _
set_option maxRecDepth 100000 in
set_option maxHeartbeats 8000000 in
theorem works_any (w : World) (hT : Tab w) : Calls Tryz.prog 15 #[] w fun r w' => r = .returned (.bool true) ∧ Below w.heap.size w w' := by
  have HT := hide hT
  have HCA := hide fun (j : Nat) (v : Value) (h : (goodL.map fun s => Value.string ⟨s.toArray⟩)[j]? = some v) => cell_of_list w _ 9 j v h
  have hbw : Below w.heap.size w (w.alloc (.cells (goodL.map fun s => Value.string ⟨s.toArray⟩).toArray 9)) := (bl w).al _
  clear hT
  go_enter Tryz.func15, Tryz.ntmps15
  go_wp2_with fail
  go_loopw [2, 14] (fun _ i wr => ∃ k : Nat, k ≤ 3 ∧ i = .int .i64 k ∧ Below (w.alloc (.cells (goodL.map fun s => Value.string ⟨s.toArray⟩).toArray 9)).heap.size (w.alloc (.cells (goodL.map fun s => Value.string ⟨s.toArray⟩).toArray 9)) wr) (fun _ i _ => 3 - (intOf i).toNat)
  case atStart => exact ⟨0, by omega, rfl, bl _⟩
  case round =>
    obtain ⟨k, hk, rfl, hb⟩ := hrel
    have hk3 : k = 0 ∨ k = 1 ∨ k = 2 ∨ k = 3 := by omega
    rcases hk3 with rfl | rfl | rfl | rfl
    · have c := cell_keep (HCA.out 0 _ rfl) hb (Nat.le_refl _)
      have HN := hide (name_is [120] true (by decide +kernel) wr (HT.out.below (hbw.tr hb)) (by unfold maxLen; simp))
      have hcl := cell_lt c
      simp only at hcl
      go_wp2_with fail
      refine HN.out.mono ?_
      rintro r w2 ⟨rfl, hb2⟩
      go_wp2_with fail
      go_roundw
      case rel => exact ⟨0 + 1, by omega, by go_num, hb.tr hb2⟩
      case measure => simp [intOf]
    · have c := cell_keep (HCA.out 1 _ rfl) hb (Nat.le_refl _)
      have HN := hide (name_is [97, 95, 49] true (by decide +kernel) wr (HT.out.below (hbw.tr hb)) (by unfold maxLen; simp))
      have hcl := cell_lt c
      simp only at hcl
      go_wp2_with fail
      refine HN.out.mono ?_
      rintro r w2 ⟨rfl, hb2⟩
      go_wp2_with fail
      go_roundw
      case rel => exact ⟨1 + 1, by omega, by go_num, hb.tr hb2⟩
      case measure => simp [intOf]
    · have c := cell_keep (HCA.out 2 _ rfl) hb (Nat.le_refl _)
      have HN := hide (name_is [76, 101, 110] true (by decide +kernel) wr (HT.out.below (hbw.tr hb)) (by unfold maxLen; simp))
      have hcl := cell_lt c
      simp only at hcl
      go_wp2_with fail
      refine HN.out.mono ?_
      rintro r w2 ⟨rfl, hb2⟩
      go_wp2_with fail
      go_roundw
      case rel => exact ⟨2 + 1, by omega, by go_num, hb.tr hb2⟩
      case measure => simp [intOf]
    · have hbw := hbw.tr hb
      rw [show ((3 : Nat) : Int) = (3 : Int) from rfl]
      clear HCA hb
      have HCB := hide fun (j : Nat) (v : Value) (h : (badL.map fun s => Value.string ⟨s.toArray⟩)[j]? = some v) => cell_of_list wr _ 9 j v h
      have hbw2 : Below wr.heap.size wr (wr.alloc (.cells (badL.map fun s => Value.string ⟨s.toArray⟩).toArray 9)) := (bl wr).al _
      have HT := hide (HT.out.below hbw)
      go_wp2_with fail
      go_loopw [4, 24] (fun _ i wx => ∃ k : Nat, k ≤ 6 ∧ i = .int .i64 k ∧ Below (wr.alloc (.cells (badL.map fun s => Value.string ⟨s.toArray⟩).toArray 9)).heap.size (wr.alloc (.cells (badL.map fun s => Value.string ⟨s.toArray⟩).toArray 9)) wx) (fun _ i _ => 6 - (intOf i).toNat)
      case atStart => exact ⟨0, by omega, rfl, bl _⟩
      case round =>
        obtain ⟨k, hk, rfl, hb⟩ := hrel
        have hk3 : k = 0 ∨ k = 1 ∨ k = 2 ∨ k = 3 ∨ k = 4 ∨ k = 5 ∨ k = 6 := by omega
        rcases hk3 with rfl | rfl | rfl | rfl | rfl | rfl | rfl
        · have c := cell_keep (HCB.out 0 _ rfl) hb (Nat.le_refl _)
          have HN := hide (name_is [] false (by decide +kernel) wr (HT.out.below (hbw2.tr hb)) (by unfold maxLen; simp))
          have hcl := cell_lt c
          simp only at hcl
          go_wp2_with fail
          refine HN.out.mono ?_
          rintro r w2 ⟨rfl, hb2⟩
          go_wp2_with fail
          go_roundw
          case rel => exact ⟨0 + 1, by omega, by go_num, hb.tr hb2⟩
          case measure => simp [intOf]
        · have c := cell_keep (HCB.out 1 _ rfl) hb (Nat.le_refl _)
          have HN := hide (name_is [49, 97] false (by decide +kernel) wr (HT.out.below (hbw2.tr hb)) (by unfold maxLen; simp))
          have hcl := cell_lt c
          simp only at hcl
          go_wp2_with fail
          refine HN.out.mono ?_
          rintro r w2 ⟨rfl, hb2⟩
          go_wp2_with fail
          go_roundw
          case rel => exact ⟨1 + 1, by omega, by go_num, hb.tr hb2⟩
          case measure => simp [intOf]
        · have c := cell_keep (HCB.out 2 _ rfl) hb (Nat.le_refl _)
          have HN := hide (name_is [95, 97] false (by decide +kernel) wr (HT.out.below (hbw2.tr hb)) (by unfold maxLen; simp))
          have hcl := cell_lt c
          simp only at hcl
          go_wp2_with fail
          refine HN.out.mono ?_
          rintro r w2 ⟨rfl, hb2⟩
          go_wp2_with fail
          go_roundw
          case rel => exact ⟨2 + 1, by omega, by go_num, hb.tr hb2⟩
          case measure => simp [intOf]
        · have c := cell_keep (HCB.out 3 _ rfl) hb (Nat.le_refl _)
          have HN := hide (name_is [108, 101, 110] false (by decide +kernel) wr (HT.out.below (hbw2.tr hb)) (by unfold maxLen; simp))
          have hcl := cell_lt c
          simp only at hcl
          go_wp2_with fail
          refine HN.out.mono ?_
          rintro r w2 ⟨rfl, hb2⟩
          go_wp2_with fail
          go_roundw
          case rel => exact ⟨3 + 1, by omega, by go_num, hb.tr hb2⟩
          case measure => simp [intOf]
        · have c := cell_keep (HCB.out 4 _ rfl) hb (Nat.le_refl _)
          have HN := hide (name_is [97, 45, 98] false (by decide +kernel) wr (HT.out.below (hbw2.tr hb)) (by unfold maxLen; simp))
          have hcl := cell_lt c
          simp only at hcl
          go_wp2_with fail
          refine HN.out.mono ?_
          rintro r w2 ⟨rfl, hb2⟩
          go_wp2_with fail
          go_roundw
          case rel => exact ⟨4 + 1, by omega, by go_num, hb.tr hb2⟩
          case measure => simp [intOf]
        · have c := cell_keep (HCB.out 5 _ rfl) hb (Nat.le_refl _)
          have HN := hide (name_is [97, 98, 99, 100, 101, 102, 103, 104, 105, 106, 107, 108, 109, 110, 111, 112, 113] false (by decide +kernel) wr (HT.out.below (hbw2.tr hb)) (by unfold maxLen; simp))
          have hcl := cell_lt c
          simp only at hcl
          go_wp2_with fail
          refine HN.out.mono ?_
          rintro r w2 ⟨rfl, hb2⟩
          go_wp2_with fail
          go_roundw
          case rel => exact ⟨5 + 1, by omega, by go_num, hb.tr hb2⟩
          case measure => simp [intOf]
        · have hbw := hbw.tr (hbw2.tr hb)
          rw [show ((6 : Nat) : Int) = (6 : Int) from rfl]
          have HT := hide (HT.out.below (hbw2.tr hb))
          clear HCB hb hbw2
          go_wp2_with fail
          refine (num_law _ _).mono ?_
          rintro r w1 ⟨rfl, hb1⟩
          have hbw := hbw.tr hb1
          go_wp2_with fail
          refine (num_law _ _).mono ?_
          rintro r w2 ⟨rfl, hb2⟩
          have hbw := hbw.tr hb2
          have HT := hide ((HT.out.below hb1).below hb2)
          clear hb1 hb2
          have HBD := hide (exs_new (bad_cut (w := w2.alloc (.cells [.int .i64 1, .int .i64 0, .int .i64 1, .string ⟨#[]⟩, .slice none 0 0].toArray 27)) (a := some ⟨w2.heap.size, 0, none⟩) (exs_new (w := w2) (cut5 (exC_val (ex_leaf w2 1 0 1 [] (i64_l 1 (by omega)) (i64_l 0 (by omega)) (i64_l 1 (by omega)) (Nat.zero_le _))) cutN) 27 _ rfl)) 27 (w2.heap.size + 1) (by simp))
          have hbw := (hbw.al (.cells [.int .i64 1, .int .i64 0, .int .i64 1, .string ⟨#[]⟩, .slice none 0 0].toArray 27)).al (.cells (badC (some ⟨w2.heap.size, 0, none⟩)).toArray 27)
          have HT := hide (HT.out.below (((bl w2).al (.cells [.int .i64 1, .int .i64 0, .int .i64 1, .string ⟨#[]⟩, .slice none 0 0].toArray 27)).al (.cells (badC (some ⟨w2.heap.size, 0, none⟩)).toArray 27)))
          go_wp2_with fail
          unfold badC at HBD hbw HT
          go_loopw [40] (fun i wr => ∃ k : Nat, k ≤ 5 ∧ i = .int .i64 k ∧ Hid (Ex.Row wr badE (some ⟨w2.heap.size + 1, 0, none⟩)) ∧ Hid (Tab wr) ∧ Below w.heap.size w wr) (fun i _ => 5 - (intOf i).toNat)
          case atStart => exact ⟨0, by omega, rfl, HBD.out, HT.out, hbw⟩
          case round =>
            clear HBD hbw HT
            obtain ⟨k, hk, rfl, HBD, HT, hbw⟩ := hrel
            by_cases hlt : k < 5
            · have hlt' : k < badE.length := hlt
              obtain ⟨a', cap', c0, c1, c2, c3, c4, hw', hr'⟩ := (HBD.out.get k hlt').val
              have hz := badE_no _ (List.getElem_mem hlt')
              have hcl := cell_lt c0
              simp only at hcl
              have HE := hide fun (W : World) (hW : Below wr.heap.size wr W) => expr_any badE[k] _ W ((Ex.Val.mk hw' hr').keep hW (Nat.le_refl _)) (HT.out.below hW)
              have HD := hide fun (W : World) (hW : Below wr.heap.size wr W) => depth_any badE[k] _ W ((Ex.Val.mk hw' hr').keep hW (Nat.le_refl _)) (HT.out.below hW)
              rw [hz] at HE HD
              rw [if_pos rfl] at HE
              clear hw' hr' hz
              simp only [Nat.zero_add] at c0 c1 c2 c3 c4
              go_wp2_with fail
              refine (HE.out _ ((bl wr).al _)).mono ?_
              rintro r w3 ⟨rfl, hb3⟩
              have hB3 := ((bl wr).al (.cells #[.int .i64 badE[k].kind, .int .i64 badE[k].op, .int .i64 badE[k].num, .string ⟨badE[k].name.toArray⟩, .slice a' badE[k].args.length cap'] 27)).tr hb3
              have HX := hide ((hb3.block _ (by simp)).trans (heap_alloc_new wr (.cells #[.int .i64 badE[k].kind, .int .i64 badE[k].op, .int .i64 badE[k].num, .string ⟨badE[k].name.toArray⟩, .slice a' badE[k].args.length cap'] 27)))
              have x0 := cell_at (j := 0) HX.out rfl
              have x1 := cell_at (j := 1) HX.out rfl
              have x2 := cell_at (j := 2) HX.out rfl
              have x3 := cell_at (j := 3) HX.out rfl
              have x4 := cell_at (j := 4) HX.out rfl
              have hxl : wr.heap.size < w3.heap.size := (Array.getElem?_eq_some_iff.1 HX.out).1
              clear hb3
              go_wp2_with fail
              refine (HD.out _ hB3).mono ?_
              rintro r w4 ⟨rfl, hb4⟩
              have hB4 := hB3.tr hb4
              clear hb4
              go_wp2_with fail
              go_roundw
              case rel => exact ⟨k + 1, by omega, by go_num, HBD.out.has (has_below hB4), HT.out.below hB4, hbw.tr hB4⟩
              case measure => simp [intOf]; omega
            · obtain rfl : k = 5 := by omega
              rw [show ((5 : Nat) : Int) = (5 : Int) from rfl]
              clear HBD hlt
              refine cut_world (fun W' => Tab W' ∧ Below w.heap.size w W') ⟨HT.out, hbw⟩ ?_
              clear HT hbw
              rintro w0 ⟨hT, hbw⟩
              have HT := hide hT
              clear hT
              go_wp2_with fail
              refine (num_law 1 _).mono ?_
              rintro r w1 ⟨rfl, hb1⟩
              go_wp2_with fail
              refine (num_law 2 _).mono ?_
              rintro r w2 ⟨rfl, hb2⟩
              go_wp2_with fail
              refine (num_law 3 _).mono ?_
              rintro r w3 ⟨rfl, hb3⟩
              have hE := fun (W : World) (n : Int) (h : -1000 ≤ n ∧ n ≤ 1000) => ex_leaf W 1 0 n [] (i64_l 1 (by omega)) (i64_l 0 (by omega)) (i64_l n h) (Nat.zero_le _)
              have HB1 := hide (binary_law 3 _ _ _ _ w3 (i64_l 3 (by omega)) (hE w3 2 (by omega)) (hE w3 3 (by omega)))
              go_wp2_with fail
              refine HB1.out.mono ?_
              rintro r w4 ⟨⟨a4, rfl, he4⟩, hb4⟩
              have HB2 := hide (binary_law 1 _ _ _ _ w4 (i64_l 1 (by omega)) (hE w4 1 (by omega)) he4)
              clear he4 hE HB1
              go_wp2_with fail
              refine HB2.out.mono ?_
              rintro r w5 ⟨⟨a5, rfl, he5⟩, hb5⟩
              have HE5 := hide he5
              have hbw := ((((hbw.tr hb1).tr hb2).tr hb3).tr hb4).tr hb5
              have HT := hide (((((HT.out.below hb1).below hb2).below hb3).below hb4).below hb5)
              clear he5 hb1 hb2 hb3 hb4 hb5 HB2
              go_wp2_with fail
              refine (name_law _ _).mono ?_
              rintro r w6 ⟨rfl, hb6⟩
              have HIN := hide (ExIn.make HT.out hbw HE5.out hb6 w6.heap.size rfl)
              obtain ⟨n7, h7⟩ : ∃ n7, n7 = w5.heap.size := ⟨_, rfl⟩
              obtain ⟨n6, h6⟩ : ∃ n6, n6 = w6.heap.size := ⟨_, rfl⟩
              go_wp2_with fail
              rw [← h7, ← h6] at HIN
              rw [← h7, ← h6]
              refine cut_calls (fun W => ExIn w W n7 (n6 + 1) (n6 + 1 + 1 + 1 + 1) n6 (n6 + 1 + 1 + 1) a5) HIN.out ?_
              clear HIN h7 h6 hb6 HT hbw HE5
              intro W hin
              have HIN := hide hin
              have HNB := hide (number_any [exF] (some ⟨n6 + 1 + 1 + 1, 0, none⟩) 1 W hin.f hin.tab)
              rw [ex_number] at HNB
              clear hin
              refine HNB.out.mono ?_
              rintro r w12 ⟨⟨qa, qc, rfl, hpo⟩, hb12⟩
              have HIN := hide (HIN.out.below hb12)
              have hfn := hpo.fns
              obtain ⟨gq, oq, rfl⟩ := hfn.addr (by simp)
              obtain ⟨pp, pb, cp, cb, f0, f1, f2, f3, f4, hfw, hps, hrow⟩ := hfn.at_ gq oq rfl 0 (by simp)
              obtain ⟨gb, ob, rfl⟩ := hrow.addr (by simp [exN])
              have hst0 := hrow.get 0 (by simp [exN])
              have hst1 := hrow.get 1 (by simp [exN])
              obtain ⟨_, _, _, _, _, _, ⟨_, e1, _, _, _, _, _, _⟩, _⟩ := hst0.val
              obtain ⟨_, _, _, _, _, _, ⟨_, e2, _, _, _, _, _, _⟩, _⟩ := hst1.val
              have HQ : Hid (ExOut w12 gq oq gb ob cb) := hide ⟨by simpa [exN] using f3, by simpa [exN] using f4, by simpa [exN, exS, St.no] using e1, by simpa [exN, St.no] using e2⟩
              clear hpo hfn f0 f1 f2 f3 f4 hfw hps hrow hst0 hst1 e1 e2 hb12 HNB
              have z3 := HQ.out.c3
              have s0 := cell_at (j := 0) HIN.out.h8 rfl
              have s1 := cell_at (j := 1) HIN.out.h8 rfl
              have s2 := cell_at (j := 2) HIN.out.h8 rfl
              have s3 := cell_at (j := 3) HIN.out.h8 rfl
              have s4 := cell_at (j := 4) HIN.out.h8 rfl
              have s5 := cell_at (j := 5) HIN.out.h8 rfl
              have s6 := cell_at (j := 6) HIN.out.h8 rfl
              have s7 := cell_at (j := 7) HIN.out.h8 rfl
              have l8 : n6 + 1 < w12.heap.size := (Array.getElem?_eq_some_iff.1 HIN.out.h8).1
              have lq : gq < w12.heap.size := cell_lt z3
              have HALL0 : Hid (ExAll w ((w12.alloc (.cells #[.slice (some ⟨gq, oq, none⟩) 1 qc] 38)).alloc (.cells #[.int .i64 6, .int .i64 5, .string ⟨#[]⟩, .int .i64 0, .string ⟨#[]⟩, .slice (some ⟨n6, 0, none⟩) 1 1, .slice none 0 0, .slice none 0 0] 34)) n7 (n6 + 1) (n6 + 1 + 1 + 1 + 1) n6 (n6 + 1 + 1 + 1) a5 gq oq gb ob cb qc w12.heap.size (w12.heap.size + 1)) := hide (ExAll.make HIN.out HQ.out)
              obtain ⟨nn, hnn⟩ : ∃ nn, nn = w12.heap.size := ⟨_, rfl⟩
              go_wp2_with fail
              rw [← hnn] at HALL0
              rw [← hnn]
              refine cut_calls (fun W => ExAll w W n7 (n6 + 1) (n6 + 1 + 1 + 1 + 1) n6 (n6 + 1 + 1 + 1) a5 gq oq gb ob cb qc nn (nn + 1)) HALL0.out ?_
              clear HALL0 HIN HQ z3 s0 s1 s2 s3 s4 s5 s6 s7 l8 lq hnn
              intro Wa hall
              have HALL := hide hall
              clear hall
              refine (num_law 5 _).mono ?_
              rintro r wa ⟨rfl, hb⟩
              have HALL := hide (HALL.out.below hb)
              have HC := hide (expr_any (.mk 1 0 5 [] []) _ wa (ex_leaf wa 1 0 5 [] (i64_l 1 (by omega)) (i64_l 0 (by omega)) (i64_l 5 (by omega)) (Nat.zero_le _)) HALL.out.i.tab)
              rw [if_neg (by decide +kernel)] at HC
              clear hb
              go_wp2_with fail
              refine HC.out.mono ?_
              rintro r wb ⟨rfl, hb⟩
              have HALL := hide (HALL.out.below hb)
              clear HC hb
              go_wp2_with fail
              refine (num_law 1 _).mono ?_
              rintro r wc ⟨rfl, hb⟩
              have HALL := hide (HALL.out.below hb)
              have HC := hide (depth_any (.mk 1 0 1 [] []) _ wc (ex_leaf wc 1 0 1 [] (i64_l 1 (by omega)) (i64_l 0 (by omega)) (i64_l 1 (by omega)) (Nat.zero_le _)) HALL.out.i.tab)
              rw [show depthM 20 (.mk 1 0 1 [] []) = 1 by decide +kernel] at HC
              clear hb
              go_wp2_with fail
              refine HC.out.mono ?_
              rintro r wd ⟨rfl, hb⟩
              have HALL := hide (HALL.out.below hb)
              have HC := hide (depth_any exSum _ wd HALL.out.i.r5 HALL.out.i.tab)
              rw [ex_depth] at HC
              have x0 := cell_at (j := 0) HALL.out.i.h7 rfl
              have x1 := cell_at (j := 1) HALL.out.i.h7 rfl
              have x2 := cell_at (j := 2) HALL.out.i.h7 rfl
              have x3 := cell_at (j := 3) HALL.out.i.h7 rfl
              have x4 := cell_at (j := 4) HALL.out.i.h7 rfl
              have l7 : n7 < wd.heap.size := (Array.getElem?_eq_some_iff.1 HALL.out.i.h7).1
              clear hb
              go_wp2_with fail
              refine HC.out.mono ?_
              rintro r we ⟨rfl, hb⟩
              have HALL := hide (HALL.out.below hb)
              clear x0 x1 x2 x3 x4 l7 hb HC
              have HC := hide (check_any [] none 0 we ⟨Nat.le_refl _, Nat.zero_le _, by simp, fun b o e => (by cases e)⟩ HALL.out.i.tab)
              rw [show checkM [] = 0 by decide] at HC
              go_wp2_with fail
              refine HC.out.mono ?_
              rintro r wf ⟨rfl, hb⟩
              have HALL := hide (HALL.out.below hb)
              clear hb HC
              have HC := hide (check_any [exF] _ _ wf HALL.out.i.f HALL.out.i.tab)
              rw [ex_check] at HC
              have x0 := cell_at (j := 0) HALL.out.i.h9 rfl
              have l9 : n6 + 1 + 1 + 1 + 1 < wf.heap.size := (Array.getElem?_eq_some_iff.1 HALL.out.i.h9).1
              go_wp2_with fail
              refine HC.out.mono ?_
              rintro r wg ⟨rfl, hb⟩
              have HALL := hide (HALL.out.below hb)
              clear x0 l9 hb HC
              have q0 := cell_at (j := 0) HALL.out.h10 rfl
              have z3 := HALL.out.o.c3
              have z4 := HALL.out.o.c4
              have y0 := HALL.out.o.d0
              have y1 := HALL.out.o.d1
              have s0 := cell_at (j := 0) HALL.out.i.h8 rfl
              have s1 := cell_at (j := 1) HALL.out.i.h8 rfl
              have s2 := cell_at (j := 2) HALL.out.i.h8 rfl
              have s3 := cell_at (j := 3) HALL.out.i.h8 rfl
              have s4 := cell_at (j := 4) HALL.out.i.h8 rfl
              have s5 := cell_at (j := 5) HALL.out.i.h8 rfl
              have s6 := cell_at (j := 6) HALL.out.i.h8 rfl
              have s7 := cell_at (j := 7) HALL.out.i.h8 rfl
              have t0 := cell_at (j := 0) HALL.out.h11 rfl
              have t1 := cell_at (j := 1) HALL.out.h11 rfl
              have t2 := cell_at (j := 2) HALL.out.h11 rfl
              have t3 := cell_at (j := 3) HALL.out.h11 rfl
              have t4 := cell_at (j := 4) HALL.out.h11 rfl
              have t5 := cell_at (j := 5) HALL.out.h11 rfl
              have t6 := cell_at (j := 6) HALL.out.h11 rfl
              have t7 := cell_at (j := 7) HALL.out.h11 rfl
              have l8 : n6 + 1 < wg.heap.size := (Array.getElem?_eq_some_iff.1 HALL.out.i.h8).1
              have l10 : nn < wg.heap.size := (Array.getElem?_eq_some_iff.1 HALL.out.h10).1
              have l11 : nn + 1 < wg.heap.size := (Array.getElem?_eq_some_iff.1 HALL.out.h11).1
              have lgq : gq < wg.heap.size := cell_lt z3
              have lgb : gb < wg.heap.size := cell_lt y0
              have HC := hide (sameStmt_any exS exT _ _ wg (stVal_x HALL.out.i.r6 0 (by omega)) (stVal_x HALL.out.i.r6 5 (by omega)) HALL.out.i.tab)
              rw [ex_same] at HC
              go_wp2_with fail
              refine HC.out.mono ?_
              rintro r wh ⟨rfl, hb⟩
              have HFIN := hide (HALL.out.i.b.tr hb)
              clear q0 z3 z4 y0 y1 s0 s1 s2 s3 s4 s5 s6 s7 t0 t1 t2 t3 t4 t5 t6 t7
              go_wp2_with fail
              go_ret
              exact ⟨rfl, HFIN.out⟩
end Go.Proofs.YthpmecbekpmijaaGreatDoor
