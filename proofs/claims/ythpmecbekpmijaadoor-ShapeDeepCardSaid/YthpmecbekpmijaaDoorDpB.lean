/- Variables that hold an expression, or a statement, that is built up step by step. -/
import Derived.Test.YthpmecbekpmijaaDoorDpA
import Derived.Test.YthpmecbekpmijaaDoorLwA
namespace Go.Proofs.YthpmecbekpmijaaDoor
open Go Go.RowKit
set_option linter.unusedSimpArgs false
set_option linter.unusedVariables false
set_option linter.unnecessarySimpa false
theorem has_av_new {w : World} {o : Obj} {n : Nat} (hn : n = w.heap.size) : Has w (av [n] (w.alloc o)) := fun b i v hv => av_cell.2 ⟨by have h1 := cell_lt hv; simp only at h1; simp only [List.mem_singleton]; omega, cell_keep hv ((bl w).al o) (Nat.le_refl _)⟩
/-- A variable that holds an expression; the expression's own rows lie elsewhere. -/
def EVar (w : World) (n : Nat) (e : Ex) : Prop := ∃ (a : Option Addr) (cap : Nat), w.heap[n]? = some (.cells #[.int .i64 e.kind, .int .i64 e.op, .int .i64 e.num, .string ⟨e.name.toArray⟩, .slice a e.args.length cap] 30 (0, 0)) ∧ Ex.Val (av [n] w) e (.agg #[.int .i64 e.kind, .int .i64 e.op, .int .i64 e.num, .string ⟨e.name.toArray⟩, .slice a e.args.length cap])
theorem EVar.lt {w : World} {n : Nat} {e : Ex} (h : EVar w n e) : n < w.heap.size := by
  obtain ⟨a, cap, h1, _⟩ := h
  exact (Array.getElem?_eq_some_iff.1 h1).1
theorem EVar.below {w w' : World} {n : Nat} {e : Ex} (h : EVar w n e) (hb : Below w.heap.size w w') : EVar w' n e := by
  have hn := h.lt
  obtain ⟨a, cap, h1, h2⟩ := h
  exact ⟨a, cap, (hb.block n hn).trans h1, h2.has (has_av_below hb)⟩
theorem EVar.new {w : World} {e : Ex} {a : Option Addr} {cap : Nat} (h : Ex.Val w e (.agg #[.int .i64 e.kind, .int .i64 e.op, .int .i64 e.num, .string ⟨e.name.toArray⟩, .slice a e.args.length cap])) (n : Nat) (hn : n = w.heap.size) : EVar (w.alloc (.cells #[.int .i64 e.kind, .int .i64 e.op, .int .i64 e.num, .string ⟨e.name.toArray⟩, .slice a e.args.length cap] 30)) n e := by
  refine ⟨a, cap, ?_, h.has (has_av_new hn)⟩
  subst hn
  exact heap_alloc_new _ _
/-- The five cells are stored. -/
def eset (w : World) (n : Nat) (v0 v1 v2 v3 v4 : Value) : World := ((((w.setCell ⟨n, 0, none⟩ v0).setCell ⟨n, 1, none⟩ v1).setCell ⟨n, 2, none⟩ v2).setCell ⟨n, 3, none⟩ v3).setCell ⟨n, 4, none⟩ v4
theorem eset_kept (w : World) (n : Nat) (v0 v1 v2 v3 v4 : Value) : Kept [n] w (eset w n v0 v1 v2 v3 v4) :=
  (((((Kept.refl [n] w).set (.inl (by simp)) _ _).set (.inl (by simp)) _ _).set (.inl (by simp)) _ _).set (.inl (by simp)) _ _).set (.inl (by simp)) _ _
theorem EVar.set {w : World} {n : Nat} {e0 e : Ex} {a : Option Addr} {cap : Nat} (h : EVar w n e0) (hv : Ex.Val (av [n] w) e (.agg #[.int .i64 e.kind, .int .i64 e.op, .int .i64 e.num, .string ⟨e.name.toArray⟩, .slice a e.args.length cap])) :
    EVar (eset w n (.int .i64 e.kind) (.int .i64 e.op) (.int .i64 e.num) (.string ⟨e.name.toArray⟩) (.slice a e.args.length cap)) n e := by
  obtain ⟨a0, cap0, h1, _⟩ := h
  exact ⟨a, cap, heap_set (heap_set (heap_set (heap_set (heap_set h1 _) _) _) _) _, hv.has (has_kept (eset_kept _ _ _ _ _ _ _))⟩
/-- An expression is put into a row of its own, and a new one that holds that row is stored. -/
theorem EVar.push {w : World} {n : Nat} {e : Ex} {a : Option Addr} {cap : Nat} (hbk : w.heap[n]? = some (.cells #[.int .i64 e.kind, .int .i64 e.op, .int .i64 e.num, .string ⟨e.name.toArray⟩, .slice a e.args.length cap] 30 (0, 0))) (hv : Ex.Val (av [n] w) e (.agg #[.int .i64 e.kind, .int .i64 e.op, .int .i64 e.num, .string ⟨e.name.toArray⟩, .slice a e.args.length cap])) (k p m : Int) (s : Bytes) (hk : I64 k) (hp : I64 p) (hm : I64 m) (hs : s.length ≤ maxLen) :
    EVar ((eset w n (.int .i64 k) (.int .i64 p) (.int .i64 m) (.string ⟨s.toArray⟩) (.slice (some ⟨w.heap.size, 0, none⟩) 1 1)).alloc (.cells #[.int .i64 e.kind, .int .i64 e.op, .int .i64 e.num, .string ⟨e.name.toArray⟩, .slice a e.args.length cap] 30)) n (.mk k p m s [e]) := by
  have hn : n < w.heap.size := (Array.getElem?_eq_some_iff.1 hbk).1
  have hK := eset_kept w n (.int .i64 k) (.int .i64 p) (.int .i64 m) (.string ⟨s.toArray⟩) (.slice (some ⟨w.heap.size, 0, none⟩) 1 1)
  have hz : (eset w n (.int .i64 k) (.int .i64 p) (.int .i64 m) (.string ⟨s.toArray⟩) (.slice (some ⟨w.heap.size, 0, none⟩) 1 1)).heap.size = w.heap.size := by simp [eset, World.setCell]
  have hb0 : (eset w n (.int .i64 k) (.int .i64 p) (.int .i64 m) (.string ⟨s.toArray⟩) (.slice (some ⟨w.heap.size, 0, none⟩) 1 1)).heap[n]? = _ := heap_set (heap_set (heap_set (heap_set (heap_set hbk _) _) _) _) _
  generalize eset w n (.int .i64 k) (.int .i64 p) (.int .i64 m) (.string ⟨s.toArray⟩) (.slice (some ⟨w.heap.size, 0, none⟩) 1 1) = W at *
  have hv1 : Ex.Val (av [n] (W.alloc (.cells #[.int .i64 e.kind, .int .i64 e.op, .int .i64 e.num, .string ⟨e.name.toArray⟩, .slice a e.args.length cap] 30))) e (.agg #[.int .i64 e.kind, .int .i64 e.op, .int .i64 e.num, .string ⟨e.name.toArray⟩, .slice a e.args.length cap]) := (hv.has (has_kept hK)).has (has_av_below ((bl W).al _))
  have hnew := heap_alloc_new W (.cells #[.int .i64 e.kind, .int .i64 e.op, .int .i64 e.num, .string ⟨e.name.toArray⟩, .slice a e.args.length cap] 30)
  have hc : ∀ (j : Nat) (u : Value), (#[.int .i64 e.kind, .int .i64 e.op, .int .i64 e.num, .string ⟨e.name.toArray⟩, .slice a e.args.length cap] : Array Value)[j]? = some u → (av [n] (W.alloc (.cells #[.int .i64 e.kind, .int .i64 e.op, .int .i64 e.num, .string ⟨e.name.toArray⟩, .slice a e.args.length cap] 30))).cell? ⟨w.heap.size, j, none⟩ = some u := fun j u hu => av_cell.2 ⟨by simp only [List.mem_singleton]; omega, by rw [← hz]; exact cell_at hnew hu⟩
  refine ⟨some ⟨w.heap.size, 0, none⟩, 1, (Below.heap_alloc _ _ _ (by rw [hz]; exact hn)).trans hb0, _, 1, rfl, ⟨hk, hp, hm, hs, Nat.le_refl _, by unfold maxLen; omega⟩, ?_⟩
  simp only [Ex.args, Ex.Row]
  exact ⟨_, _, rfl, ex_at hv1 (hc 0 _ rfl) (hc 1 _ rfl) (hc 2 _ rfl) (hc 3 _ rfl) (hc 4 _ rfl), trivial⟩
theorem row2_new {w : World} {l : List Nat} {e f : Ex} {x0 x1 x2 x3 x4 y0 y1 y2 y3 y4 : Value} (hx : Ex.Val (av l w) e (.agg #[x0, x1, x2, x3, x4])) (hy : Ex.Val (av l w) f (.agg #[y0, y1, y2, y3, y4])) (t : TypeId) (n : Nat) (hn : n = w.heap.size) (hl : n ∉ l) :
    Ex.Row (av l (w.alloc (.cells #[x0, x1, x2, x3, x4, y0, y1, y2, y3, y4] t))) [e, f] (some ⟨n, 0, none⟩) := by
  subst hn
  have hb := has_av_below (l := l) ((bl w).al (.cells #[x0, x1, x2, x3, x4, y0, y1, y2, y3, y4] t))
  have hx1 := hx.has hb
  have hy1 := hy.has hb
  have hnew := heap_alloc_new w (.cells #[x0, x1, x2, x3, x4, y0, y1, y2, y3, y4] t)
  have hc : ∀ (j : Nat) (u : Value), (#[x0, x1, x2, x3, x4, y0, y1, y2, y3, y4] : Array Value)[j]? = some u → (av l (w.alloc (.cells #[x0, x1, x2, x3, x4, y0, y1, y2, y3, y4] t))).cell? ⟨w.heap.size, j, none⟩ = some u := fun j u hu => av_cell.2 ⟨hl, cell_at hnew hu⟩
  simp only [Ex.Row]
  exact ⟨_, _, rfl, ex_at hx1 (hc 0 _ rfl) (hc 1 _ rfl) (hc 2 _ rfl) (hc 3 _ rfl) (hc 4 _ rfl), _, _, rfl, ex_at hy1 (hc 5 _ rfl) (hc 6 _ rfl) (hc 7 _ rfl) (hc 8 _ rfl) (hc 9 _ rfl), trivial⟩
/-- A product is stored. -/
theorem EVar.bin {w w6 : World} {n : Nat} {e f : Ex} {ab : Option Addr} {p : Int} (h : EVar w n e) (hB : Below w.heap.size w w6) (hv : Ex.Val (av [n] w6) (.mk 5 p 0 [] [e, f]) (.agg #[.int .i64 5, .int .i64 p, .int .i64 0, .string ⟨#[]⟩, .slice ab 2 2])) :
    EVar (eset w6 n (.int .i64 5) (.int .i64 p) (.int .i64 0) (.string ⟨#[]⟩) (.slice ab 2 2)) n (.mk 5 p 0 [] [e, f]) :=
  EVar.set (e := .mk 5 p 0 [] [e, f]) (a := ab) (cap := 2) (h.below hB) hv
set_option maxHeartbeats 1000000 in
theorem binary_av (l : List Nat) (op : Int) (e f : Ex) (x y : Value) (w : World) (ho : I64 op) (hx : Ex.Val (av l w) e x) (hy : Ex.Val (av l w) f y) (hl : ∀ g ∈ l, g < w.heap.size) : Calls Tryd.prog 20 #[.int .i64 op, x, y] w fun r w' => (∃ a, r = .returned (.agg #[.int .i64 5, .int .i64 op, .int .i64 0, .string ⟨#[]⟩, .slice a 2 2]) ∧ Hid (Ex.Val (av l w') (.mk 5 op 0 [] [e, f]) (.agg #[.int .i64 5, .int .i64 op, .int .i64 0, .string ⟨#[]⟩, .slice a 2 2]))) ∧ Below w.heap.size w w' := by
  have hx0 := hx
  have hy0 := hy
  obtain ⟨a, cap, rfl, hw, hr⟩ := hx
  obtain ⟨c, dap, rfl, hw2, hr2⟩ := hy
  have HR := hide fun (W : World) (hW : Below w.heap.size w W) (n : Nat) (hn : n = W.heap.size) => row2_new (hx0.has (has_av_below hW)) (hy0.has (has_av_below hW)) 30 n hn (fun hg => by have := hl n hg; have := hW.size; omega)
  have HO := hide ho
  clear hr hr2 hw hw2 hx0 hy0 ho hl
  go_enter Tryd.func20, Tryd.ntmps20
  go_wp2_with fail
  refine bodyPost_ret (v := .agg #[.int .i64 5, .int .i64 op, .int .i64 0, .string ⟨#[]⟩, .slice (some ⟨w.heap.size + 1 + 1 + 1, 0, none⟩) 2 2]) (by simp [results, Tryd.results20, go_sem]) rfl ⟨⟨_, rfl, ?_⟩, ((((bl w).al _).al _).al _).al _⟩
  refine hide ⟨_, 2, rfl, ⟨i64_l 5 (by omega), HO.out, i64_l 0 (by omega), Nat.zero_le _, Nat.le_refl _, by unfold maxLen; omega⟩, ?_⟩
  exact HR.out _ ((((bl w).al _).al _).al _) _ (by simp)
/-- A variable that holds a statement; the statement's own rows lie elsewhere. -/
def SVar (w : World) (n : Nat) (s : St) : Prop := ∃ (pa pb pe : Option Addr) (ca cb ce : Nat), w.heap[n]? = some (.cells #[.int .i64 s.kind, .int .i64 s.no, .string ⟨s.name.toArray⟩, .int .i64 s.typ, .string ⟨s.callee.toArray⟩, .slice pa s.args.length ca, .slice pb s.body.length cb, .slice pe s.els.length ce] 25 (0, 0)) ∧ St.Val (av [n] w) s (.agg #[.int .i64 s.kind, .int .i64 s.no, .string ⟨s.name.toArray⟩, .int .i64 s.typ, .string ⟨s.callee.toArray⟩, .slice pa s.args.length ca, .slice pb s.body.length cb, .slice pe s.els.length ce])
theorem SVar.lt {w : World} {n : Nat} {s : St} (h : SVar w n s) : n < w.heap.size := by
  obtain ⟨_, _, _, _, _, _, h1, _⟩ := h
  exact (Array.getElem?_eq_some_iff.1 h1).1
theorem SVar.below {w w' : World} {n : Nat} {s : St} (h : SVar w n s) (hb : Below w.heap.size w w') : SVar w' n s := by
  have hn := h.lt
  obtain ⟨pa, pb, pe, ca, cb, ce, h1, h2⟩ := h
  exact ⟨pa, pb, pe, ca, cb, ce, (hb.block n hn).trans h1, h2.has (has_av_below hb)⟩
theorem SVar.new {w : World} {s : St} {pa pb pe : Option Addr} {ca cb ce : Nat} (h : St.Val w s (.agg #[.int .i64 s.kind, .int .i64 s.no, .string ⟨s.name.toArray⟩, .int .i64 s.typ, .string ⟨s.callee.toArray⟩, .slice pa s.args.length ca, .slice pb s.body.length cb, .slice pe s.els.length ce])) (n : Nat) (hn : n = w.heap.size) : SVar (w.alloc (.cells #[.int .i64 s.kind, .int .i64 s.no, .string ⟨s.name.toArray⟩, .int .i64 s.typ, .string ⟨s.callee.toArray⟩, .slice pa s.args.length ca, .slice pb s.body.length cb, .slice pe s.els.length ce] 25)) n s := by
  refine ⟨pa, pb, pe, ca, cb, ce, ?_, h.has (has_av_new hn)⟩
  subst hn
  exact heap_alloc_new _ _
/-- A statement with one number as its argument. -/
theorem stVal_one (w : World) : St.Val (w.alloc (.cells #[.int .i64 1, .int .i64 0, .int .i64 1, .string ⟨#[]⟩, .slice none 0 0] 30)) (.mk 6 0 [] 0 [] [numE 1] [] []) (.agg #[.int .i64 6, .int .i64 0, .string ⟨#[]⟩, .int .i64 0, .string ⟨#[]⟩, .slice (some ⟨w.heap.size, 0, none⟩) 1 1, .slice none 0 0, .slice none 0 0]) := by
  refine ⟨some ⟨w.heap.size, 0, none⟩, none, none, 1, 0, 0, rfl, ⟨i64_l 6 (by omega), i64_l 0 (by omega), Nat.zero_le _, i64_l 0 (by omega), Nat.zero_le _, Nat.le_refl _, by unfold maxLen; omega, Nat.le_refl _, Nat.zero_le _, Nat.le_refl _, Nat.zero_le _⟩, ?_, by simp only [St.body, St.Row], by simp only [St.els, St.Row]⟩
  exact exs_new (l := [numE 1]) (cut5 (a := numE 1) (exC_val (ex_leaf w 1 0 1 [] (i64_l 1 (by omega)) (i64_l 0 (by omega)) (i64_l 1 (by omega)) (Nat.zero_le _))) cutN) 30 _ rfl
/-- The eight cells are stored. -/
def sset (w : World) (n : Nat) (v0 v1 v2 v3 v4 v5 v6 v7 : Value) : World :=
  (((((((w.setCell ⟨n, 0, none⟩ v0).setCell ⟨n, 1, none⟩ v1).setCell ⟨n, 2, none⟩ v2).setCell ⟨n, 3, none⟩ v3).setCell ⟨n, 4, none⟩ v4).setCell ⟨n, 5, none⟩ v5).setCell ⟨n, 6, none⟩ v6).setCell ⟨n, 7, none⟩ v7
theorem sset_kept (w : World) (n : Nat) (v0 v1 v2 v3 v4 v5 v6 v7 : Value) : Kept [n] w (sset w n v0 v1 v2 v3 v4 v5 v6 v7) := by
  have hn : n ∈ [n] ∨ w.heap.size ≤ n := .inl (by simp)
  unfold sset
  refine Kept.set ?_ hn _ _
  refine Kept.set ?_ hn _ _
  refine Kept.set ?_ hn _ _
  refine Kept.set ?_ hn _ _
  refine Kept.set ?_ hn _ _
  refine Kept.set ?_ hn _ _
  refine Kept.set ?_ hn _ _
  refine Kept.set ?_ hn _ _
  exact Kept.refl _ _
set_option maxHeartbeats 1000000 in
theorem SVar.set {w : World} {n : Nat} {s0 s : St} {pa pb pe : Option Addr} {ca cb ce : Nat} (h : SVar w n s0) (hv : St.Val (av [n] w) s (.agg #[.int .i64 s.kind, .int .i64 s.no, .string ⟨s.name.toArray⟩, .int .i64 s.typ, .string ⟨s.callee.toArray⟩, .slice pa s.args.length ca, .slice pb s.body.length cb, .slice pe s.els.length ce])) :
    SVar (sset w n (.int .i64 s.kind) (.int .i64 s.no) (.string ⟨s.name.toArray⟩) (.int .i64 s.typ) (.string ⟨s.callee.toArray⟩) (.slice pa s.args.length ca) (.slice pb s.body.length cb) (.slice pe s.els.length ce)) n s := by
  obtain ⟨_, _, _, _, _, _, h1, _⟩ := h
  refine ⟨pa, pb, pe, ca, cb, ce, ?_, hv.has (has_kept (sset_kept _ _ _ _ _ _ _ _ _ _))⟩
  unfold sset
  have g := heap_set (i := 0) h1 (.int .i64 s.kind)
  simp only [List.setIfInBounds_toArray, List.set_cons_zero, List.set_cons_succ] at g
  have g := heap_set (i := 1) g (.int .i64 s.no)
  simp only [List.setIfInBounds_toArray, List.set_cons_zero, List.set_cons_succ] at g
  have g := heap_set (i := 2) g (.string ⟨s.name.toArray⟩)
  simp only [List.setIfInBounds_toArray, List.set_cons_zero, List.set_cons_succ] at g
  have g := heap_set (i := 3) g (.int .i64 s.typ)
  simp only [List.setIfInBounds_toArray, List.set_cons_zero, List.set_cons_succ] at g
  have g := heap_set (i := 4) g (.string ⟨s.callee.toArray⟩)
  simp only [List.setIfInBounds_toArray, List.set_cons_zero, List.set_cons_succ] at g
  have g := heap_set (i := 5) g (.slice pa s.args.length ca)
  simp only [List.setIfInBounds_toArray, List.set_cons_zero, List.set_cons_succ] at g
  have g := heap_set (i := 6) g (.slice pb s.body.length cb)
  simp only [List.setIfInBounds_toArray, List.set_cons_zero, List.set_cons_succ] at g
  have g := heap_set (i := 7) g (.slice pe s.els.length ce)
  simp only [List.setIfInBounds_toArray, List.set_cons_zero, List.set_cons_succ] at g
  exact g
theorem stC_val {w : World} {s : St} {v0 v1 v2 v3 v4 v5 v6 v7 : Value} (h : St.Val w s (.agg #[v0, v1, v2, v3, v4, v5, v6, v7])) : StC w s [v0, v1, v2, v3, v4, v5, v6, v7] := by
  obtain ⟨pa, pb, pe, ca, cb, ce, hv, hw, ha, hb, he⟩ := h
  simp only [Value.agg.injEq, Array.mk.injEq, List.cons.injEq, and_true] at hv
  obtain ⟨rfl, rfl, rfl, rfl, rfl, rfl, rfl, rfl⟩ := hv
  exact ⟨pa, pb, pe, ca, cb, ce, rfl, hw, ha, hb, he⟩
theorem st_at {w : World} {s : St} {v0 v1 v2 v3 v4 v5 v6 v7 : Value} (h : St.Val w s (.agg #[v0, v1, v2, v3, v4, v5, v6, v7])) {b o : Nat} (h0 : w.cell? ⟨b, o, none⟩ = some v0) (h1 : w.cell? ⟨b, o + 1, none⟩ = some v1) (h2 : w.cell? ⟨b, o + 2, none⟩ = some v2) (h3 : w.cell? ⟨b, o + 3, none⟩ = some v3) (h4 : w.cell? ⟨b, o + 4, none⟩ = some v4)
    (h5 : w.cell? ⟨b, o + 5, none⟩ = some v5) (h6 : w.cell? ⟨b, o + 6, none⟩ = some v6) (h7 : w.cell? ⟨b, o + 7, none⟩ = some v7) : St.At w s b o := by
  obtain ⟨pa, pb, pe, ca, cb, ce, hv, hw, ha, hb, he⟩ := h
  simp only [Value.agg.injEq, Array.mk.injEq, List.cons.injEq, and_true] at hv
  obtain ⟨rfl, rfl, rfl, rfl, rfl, rfl, rfl, rfl⟩ := hv
  exact St.At.of ⟨h0, h1, h2, h3, h4, h5, h6, h7⟩ hw ha hb he
/-- What is stored where a statement is put into a block of a new one. -/
def wset (q : Bool) (w : World) (n g1 g2 : Nat) : World :=
  sset w n (.int .i64 (bif q then 10 else 9)) (.int .i64 0) (.string ⟨#[]⟩) (.int .i64 0) (.string ⟨#[]⟩) (.slice (some ⟨g1, 0, none⟩) 1 1) (bif q then .slice (some ⟨g2, 0, none⟩) 1 1 else .slice none 0 0) (bif q then .slice none 0 0 else .slice (some ⟨g2, 0, none⟩) 1 1)
theorem wset_kept (q : Bool) (w : World) (n g1 g2 : Nat) : Kept [n] w (wset q w n g1 g2) := sset_kept _ _ _ _ _ _ _ _ _ _
theorem wset_size (q : Bool) (w : World) (n g1 g2 : Nat) : (wset q w n g1 g2).heap.size = w.heap.size := by simp [wset, sset, World.setCell]
theorem wset_block {q : Bool} {w : World} {n g1 g2 : Nat} {s : St} {pa pb pe : Option Addr} {ca cb ce : Nat} (h : w.heap[n]? = some (.cells #[.int .i64 s.kind, .int .i64 s.no, .string ⟨s.name.toArray⟩, .int .i64 s.typ, .string ⟨s.callee.toArray⟩, .slice pa s.args.length ca, .slice pb s.body.length cb, .slice pe s.els.length ce] 25 (0, 0))) :
    (wset q w n g1 g2).heap[n]? = some (.cells #[.int .i64 (bif q then 10 else 9), .int .i64 0, .string ⟨#[]⟩, .int .i64 0, .string ⟨#[]⟩, .slice (some ⟨g1, 0, none⟩) 1 1, bif q then .slice (some ⟨g2, 0, none⟩) 1 1 else .slice none 0 0, bif q then .slice none 0 0 else .slice (some ⟨g2, 0, none⟩) 1 1] 25 (0, 0)) := by
  unfold wset sset
  have g := heap_set (i := 0) h (.int .i64 (bif q then 10 else 9))
  simp only [List.setIfInBounds_toArray, List.set_cons_zero, List.set_cons_succ] at g
  have g := heap_set (i := 1) g (.int .i64 0)
  simp only [List.setIfInBounds_toArray, List.set_cons_zero, List.set_cons_succ] at g
  have g := heap_set (i := 2) g (.string ⟨#[]⟩)
  simp only [List.setIfInBounds_toArray, List.set_cons_zero, List.set_cons_succ] at g
  have g := heap_set (i := 3) g (.int .i64 0)
  simp only [List.setIfInBounds_toArray, List.set_cons_zero, List.set_cons_succ] at g
  have g := heap_set (i := 4) g (.string ⟨#[]⟩)
  simp only [List.setIfInBounds_toArray, List.set_cons_zero, List.set_cons_succ] at g
  have g := heap_set (i := 5) g (.slice (some ⟨g1, 0, none⟩) 1 1)
  simp only [List.setIfInBounds_toArray, List.set_cons_zero, List.set_cons_succ] at g
  have g := heap_set (i := 6) g (bif q then .slice (some ⟨g2, 0, none⟩) 1 1 else .slice none 0 0)
  simp only [List.setIfInBounds_toArray, List.set_cons_zero, List.set_cons_succ] at g
  have g := heap_set (i := 7) g (bif q then .slice none 0 0 else .slice (some ⟨g2, 0, none⟩) 1 1)
  simp only [List.setIfInBounds_toArray, List.set_cons_zero, List.set_cons_succ] at g
  exact g
theorem SVar.wrap {wr W F : World} {n g1 g2 : Nat} {s : St} {pa pb pe : Option Addr} {ca cb ce : Nat} (q : Bool) (hbk : wr.heap[n]? = some (.cells #[.int .i64 s.kind, .int .i64 s.no, .string ⟨s.name.toArray⟩, .int .i64 s.typ, .string ⟨s.callee.toArray⟩, .slice pa s.args.length ca, .slice pb s.body.length cb, .slice pe s.els.length ce] 25 (0, 0))) (hv : St.Val (av [n] wr) s (.agg #[.int .i64 s.kind, .int .i64 s.no, .string ⟨s.name.toArray⟩, .int .i64 s.typ, .string ⟨s.callee.toArray⟩, .slice pa s.args.length ca, .slice pb s.body.length cb, .slice pe s.els.length ce])) (hB : Below wr.heap.size wr W)
    (hF : Below (wset q W n g1 g2).heap.size (wset q W n g1 g2) F) (h1 : F.heap[g1]? = some (.cells #[.int .i64 1, .int .i64 0, .int .i64 1, .string ⟨#[]⟩, .slice none 0 0] 30 (0, 0))) (h2 : F.heap[g2]? = some (.cells #[.int .i64 s.kind, .int .i64 s.no, .string ⟨s.name.toArray⟩, .int .i64 s.typ, .string ⟨s.callee.toArray⟩, .slice pa s.args.length ca, .slice pb s.body.length cb, .slice pe s.els.length ce] 25 (0, 0))) (hg1 : g1 ≠ n) (hg2 : g2 ≠ n) : SVar F n (stepS q s) := by
  have hn : n < wr.heap.size := (Array.getElem?_eq_some_iff.1 hbk).1
  have hW := (hB.block n hn).trans hbk
  have hnW : n < (wset q W n g1 g2).heap.size := by rw [wset_size]; exact Nat.lt_of_lt_of_le hn hB.size
  have hbF := (hF.block n hnW).trans (wset_block (q := q) (g1 := g1) (g2 := g2) hW)
  have hvF : St.Val (av [n] F) s (.agg #[.int .i64 s.kind, .int .i64 s.no, .string ⟨s.name.toArray⟩, .int .i64 s.typ, .string ⟨s.callee.toArray⟩, .slice pa s.args.length ca, .slice pb s.body.length cb, .slice pe s.els.length ce]) := ((hv.has (has_av_below hB)).has (has_kept (wset_kept q W n g1 g2))).has (has_av_below hF)
  have c1 : ∀ (j : Nat) (u : Value), (#[.int .i64 1, .int .i64 0, .int .i64 1, .string ⟨#[]⟩, .slice none 0 0] : Array Value)[j]? = some u → (av [n] F).cell? ⟨g1, j, none⟩ = some u := fun j u hu => av_cell.2 ⟨by simpa using hg1, cell_at h1 hu⟩
  have c2 : ∀ (j : Nat) (u : Value), (#[.int .i64 s.kind, .int .i64 s.no, .string ⟨s.name.toArray⟩, .int .i64 s.typ, .string ⟨s.callee.toArray⟩, .slice pa s.args.length ca, .slice pb s.body.length cb, .slice pe s.els.length ce] : Array Value)[j]? = some u → (av [n] F).cell? ⟨g2, j, none⟩ = some u := fun j u hu => av_cell.2 ⟨by simpa using hg2, cell_at h2 hu⟩
  have hra : Ex.Row (av [n] F) [numE 1] (some ⟨g1, 0, none⟩) := by
    simp only [Ex.Row]
    exact ⟨_, _, rfl, ex_at (ex_leaf _ 1 0 1 [] (i64_l 1 (by omega)) (i64_l 0 (by omega)) (i64_l 1 (by omega)) (Nat.zero_le _)) (c1 0 _ rfl) (c1 1 _ rfl) (c1 2 _ rfl) (c1 3 _ rfl) (c1 4 _ rfl), trivial⟩
  have hrs : St.Row (av [n] F) [s] (some ⟨g2, 0, none⟩) := by
    simp only [St.Row]
    exact ⟨_, _, rfl, st_at hvF (c2 0 _ rfl) (c2 1 _ rfl) (c2 2 _ rfl) (c2 3 _ rfl) (c2 4 _ rfl) (c2 5 _ rfl) (c2 6 _ rfl) (c2 7 _ rfl), trivial⟩
  have h1m : 1 ≤ maxLen := by unfold maxLen; omega
  cases q
  · exact ⟨some ⟨g1, 0, none⟩, none, some ⟨g2, 0, none⟩, 1, 0, 1, hbF, ⟨some ⟨g1, 0, none⟩, none, some ⟨g2, 0, none⟩, 1, 0, 1, rfl, ⟨i64_l 9 (by omega), i64_l 0 (by omega), Nat.zero_le _, i64_l 0 (by omega), Nat.zero_le _, Nat.le_refl _, h1m, Nat.le_refl _, Nat.zero_le _, Nat.le_refl _, h1m⟩, hra, by simp only [stepS, St.body, St.Row, Bool.false_eq_true, if_false], hrs⟩⟩
  · exact ⟨some ⟨g1, 0, none⟩, some ⟨g2, 0, none⟩, none, 1, 1, 0, hbF, ⟨some ⟨g1, 0, none⟩, some ⟨g2, 0, none⟩, none, 1, 1, 0, rfl, ⟨i64_l 10 (by omega), i64_l 0 (by omega), Nat.zero_le _, i64_l 0 (by omega), Nat.zero_le _, Nat.le_refl _, h1m, Nat.le_refl _, h1m, Nat.le_refl _, Nat.zero_le _⟩, hra, hrs, by simp only [stepS, St.els, St.Row, if_true]⟩⟩
theorem heap_new {X : World} {g : Nat} {C : Array Value} {t : TypeId} (h : g = X.heap.size) : (X.alloc (.cells C t)).heap[g]? = some (.cells C t (0, 0)) := by
  subst h
  exact heap_alloc_new _ _
theorem wrapA {wr W : World} {n : Nat} {s : St} {pa pb pe : Option Addr} {ca cb ce : Nat} (q : Bool) (hbk : wr.heap[n]? = some (.cells #[.int .i64 s.kind, .int .i64 s.no, .string ⟨s.name.toArray⟩, .int .i64 s.typ, .string ⟨s.callee.toArray⟩, .slice pa s.args.length ca, .slice pb s.body.length cb, .slice pe s.els.length ce] 25 (0, 0))) (hv : St.Val (av [n] wr) s (.agg #[.int .i64 s.kind, .int .i64 s.no, .string ⟨s.name.toArray⟩, .int .i64 s.typ, .string ⟨s.callee.toArray⟩, .slice pa s.args.length ca, .slice pb s.body.length cb, .slice pe s.els.length ce])) (hB : Below wr.heap.size wr W) :
    SVar (((wset q W n W.heap.size (W.heap.size + 1)).alloc (.cells #[.int .i64 1, .int .i64 0, .int .i64 1, .string ⟨#[]⟩, .slice none 0 0] 30)).alloc (.cells #[.int .i64 s.kind, .int .i64 s.no, .string ⟨s.name.toArray⟩, .int .i64 s.typ, .string ⟨s.callee.toArray⟩, .slice pa s.args.length ca, .slice pb s.body.length cb, .slice pe s.els.length ce] 25)) n (stepS q s) := by
  have hn : n < wr.heap.size := (Array.getElem?_eq_some_iff.1 hbk).1
  have hz := hB.size
  have hs := wset_size q W n W.heap.size (W.heap.size + 1)
  refine SVar.wrap q hbk hv hB (((bl _).al _).al _) ?_ ?_ (by omega) (by omega)
  · rw [Below.heap_alloc _ _ _ (by simp; omega)]
    exact heap_new hs.symm
  · exact heap_new (by simp; omega)
theorem wrapB {wr W : World} {n : Nat} {s : St} {pa pb pe : Option Addr} {ca cb ce : Nat} (q : Bool) (hbk : wr.heap[n]? = some (.cells #[.int .i64 s.kind, .int .i64 s.no, .string ⟨s.name.toArray⟩, .int .i64 s.typ, .string ⟨s.callee.toArray⟩, .slice pa s.args.length ca, .slice pb s.body.length cb, .slice pe s.els.length ce] 25 (0, 0))) (hv : St.Val (av [n] wr) s (.agg #[.int .i64 s.kind, .int .i64 s.no, .string ⟨s.name.toArray⟩, .int .i64 s.typ, .string ⟨s.callee.toArray⟩, .slice pa s.args.length ca, .slice pb s.body.length cb, .slice pe s.els.length ce])) (hB : Below wr.heap.size wr W) :
    SVar (((wset q W n (W.heap.size + 1) W.heap.size).alloc (.cells #[.int .i64 s.kind, .int .i64 s.no, .string ⟨s.name.toArray⟩, .int .i64 s.typ, .string ⟨s.callee.toArray⟩, .slice pa s.args.length ca, .slice pb s.body.length cb, .slice pe s.els.length ce] 25)).alloc (.cells #[.int .i64 1, .int .i64 0, .int .i64 1, .string ⟨#[]⟩, .slice none 0 0] 30)) n (stepS q s) := by
  have hn : n < wr.heap.size := (Array.getElem?_eq_some_iff.1 hbk).1
  have hz := hB.size
  have hs := wset_size q W n (W.heap.size + 1) W.heap.size
  refine SVar.wrap q hbk hv hB (((bl _).al _).al _) ?_ ?_ (by omega) (by omega)
  · exact heap_new (by simp; omega)
  · rw [Below.heap_alloc _ _ _ (by simp; omega)]
    exact heap_new hs.symm
theorem wrapC {wr W : World} {n : Nat} {s : St} {pa pb pe : Option Addr} {ca cb ce : Nat} (q : Bool) (hbk : wr.heap[n]? = some (.cells #[.int .i64 s.kind, .int .i64 s.no, .string ⟨s.name.toArray⟩, .int .i64 s.typ, .string ⟨s.callee.toArray⟩, .slice pa s.args.length ca, .slice pb s.body.length cb, .slice pe s.els.length ce] 25 (0, 0))) (hv : St.Val (av [n] wr) s (.agg #[.int .i64 s.kind, .int .i64 s.no, .string ⟨s.name.toArray⟩, .int .i64 s.typ, .string ⟨s.callee.toArray⟩, .slice pa s.args.length ca, .slice pb s.body.length cb, .slice pe s.els.length ce])) (hb : Below (wr.drew.alloc (.cells #[.int .i64 s.kind, .int .i64 s.no, .string ⟨s.name.toArray⟩, .int .i64 s.typ, .string ⟨s.callee.toArray⟩, .slice pa s.args.length ca, .slice pb s.body.length cb, .slice pe s.els.length ce] 25)).heap.size (wr.drew.alloc (.cells #[.int .i64 s.kind, .int .i64 s.no, .string ⟨s.name.toArray⟩, .int .i64 s.typ, .string ⟨s.callee.toArray⟩, .slice pa s.args.length ca, .slice pb s.body.length cb, .slice pe s.els.length ce] 25)) W) :
    SVar ((wset q W n W.heap.size wr.heap.size).alloc (.cells #[.int .i64 1, .int .i64 0, .int .i64 1, .string ⟨#[]⟩, .slice none 0 0] 30)) n (stepS q s) := by
  have hn : n < wr.heap.size := (Array.getElem?_eq_some_iff.1 hbk).1
  have hB : Below wr.heap.size wr W := (((bl wr).dr).al _).tr hb
  have hz := hb.size
  simp only [World.alloc, World.drew, Array.size_push] at hz
  have hs := wset_size q W n W.heap.size wr.heap.size
  refine SVar.wrap q hbk hv hB ((bl _).al _) ?_ ?_ (by omega) (by omega)
  · exact heap_new hs.symm
  · rw [Below.heap_alloc _ _ _ (by omega), (wset_kept q W n W.heap.size wr.heap.size).block _ (by omega) (by simp; omega), hb.block _ (by simp only [World.alloc, World.drew, Array.size_push]; omega)]
    exact heap_new (X := wr.drew) rfl
theorem wrapA' {wr W X : World} {n : Nat} {s : St} {pa pb pe : Option Addr} {ca cb ce : Nat} (q : Bool) (hbk : wr.heap[n]? = some (.cells #[.int .i64 s.kind, .int .i64 s.no, .string ⟨s.name.toArray⟩, .int .i64 s.typ, .string ⟨s.callee.toArray⟩, .slice pa s.args.length ca, .slice pb s.body.length cb, .slice pe s.els.length ce] 25 (0, 0))) (hv : St.Val (av [n] wr) s (.agg #[.int .i64 s.kind, .int .i64 s.no, .string ⟨s.name.toArray⟩, .int .i64 s.typ, .string ⟨s.callee.toArray⟩, .slice pa s.args.length ca, .slice pb s.body.length cb, .slice pe s.els.length ce])) (hB : Below wr.heap.size wr W)
    (hX : X = wset q W n W.heap.size (W.heap.size + 1)) : SVar ((X.alloc (.cells #[.int .i64 1, .int .i64 0, .int .i64 1, .string ⟨#[]⟩, .slice none 0 0] 30)).alloc (.cells #[.int .i64 s.kind, .int .i64 s.no, .string ⟨s.name.toArray⟩, .int .i64 s.typ, .string ⟨s.callee.toArray⟩, .slice pa s.args.length ca, .slice pb s.body.length cb, .slice pe s.els.length ce] 25)) n (stepS q s) := hX ▸ wrapA q hbk hv hB
theorem wrapB' {wr W X : World} {n : Nat} {s : St} {pa pb pe : Option Addr} {ca cb ce : Nat} (q : Bool) (hbk : wr.heap[n]? = some (.cells #[.int .i64 s.kind, .int .i64 s.no, .string ⟨s.name.toArray⟩, .int .i64 s.typ, .string ⟨s.callee.toArray⟩, .slice pa s.args.length ca, .slice pb s.body.length cb, .slice pe s.els.length ce] 25 (0, 0))) (hv : St.Val (av [n] wr) s (.agg #[.int .i64 s.kind, .int .i64 s.no, .string ⟨s.name.toArray⟩, .int .i64 s.typ, .string ⟨s.callee.toArray⟩, .slice pa s.args.length ca, .slice pb s.body.length cb, .slice pe s.els.length ce])) (hB : Below wr.heap.size wr W)
    (hX : X = wset q W n (W.heap.size + 1) W.heap.size) : SVar ((X.alloc (.cells #[.int .i64 s.kind, .int .i64 s.no, .string ⟨s.name.toArray⟩, .int .i64 s.typ, .string ⟨s.callee.toArray⟩, .slice pa s.args.length ca, .slice pb s.body.length cb, .slice pe s.els.length ce] 25)).alloc (.cells #[.int .i64 1, .int .i64 0, .int .i64 1, .string ⟨#[]⟩, .slice none 0 0] 30)) n (stepS q s) := hX ▸ wrapB q hbk hv hB
theorem wrapC' {wr W X : World} {n : Nat} {s : St} {pa pb pe : Option Addr} {ca cb ce : Nat} (q : Bool) (hbk : wr.heap[n]? = some (.cells #[.int .i64 s.kind, .int .i64 s.no, .string ⟨s.name.toArray⟩, .int .i64 s.typ, .string ⟨s.callee.toArray⟩, .slice pa s.args.length ca, .slice pb s.body.length cb, .slice pe s.els.length ce] 25 (0, 0))) (hv : St.Val (av [n] wr) s (.agg #[.int .i64 s.kind, .int .i64 s.no, .string ⟨s.name.toArray⟩, .int .i64 s.typ, .string ⟨s.callee.toArray⟩, .slice pa s.args.length ca, .slice pb s.body.length cb, .slice pe s.els.length ce])) (hb : Below (wr.alloc (.cells #[.int .i64 s.kind, .int .i64 s.no, .string ⟨s.name.toArray⟩, .int .i64 s.typ, .string ⟨s.callee.toArray⟩, .slice pa s.args.length ca, .slice pb s.body.length cb, .slice pe s.els.length ce] 25)).drew.heap.size (wr.alloc (.cells #[.int .i64 s.kind, .int .i64 s.no, .string ⟨s.name.toArray⟩, .int .i64 s.typ, .string ⟨s.callee.toArray⟩, .slice pa s.args.length ca, .slice pb s.body.length cb, .slice pe s.els.length ce] 25)).drew W)
    (hX : X = wset q W n W.heap.size wr.heap.size) : SVar (X.alloc (.cells #[.int .i64 1, .int .i64 0, .int .i64 1, .string ⟨#[]⟩, .slice none 0 0] 30)) n (stepS q s) := hX ▸ wrapC q hbk hv hb
theorem pms_nil (w : World) : Pms w [] none 0 := ⟨Nat.le_refl _, Nat.zero_le _, by simp, fun b o e => (by cases e), by simp⟩
/-- A function without parameters, in a new row. -/
theorem fn_row {W : World} (nm : Bytes) (l : List St) (a : Option Addr) (cap : Nat) (hr : St.Row W l a) (h1 : l.length ≤ cap) (h2 : cap ≤ maxLen) (hn : nm.length ≤ maxLen) (n : Nat) (hs : n = W.heap.size) :
    Fns (W.alloc (.cells #[.string ⟨nm.toArray⟩, .slice none 0 0, .int .i64 0, .slice a l.length cap, .int .i64 0] 46)) [⟨nm, [], 0, l, 0⟩] (some ⟨n, 0, none⟩) 1 := by
  have h0 : FnC W ⟨nm, [], 0, l, 0⟩ [.string ⟨nm.toArray⟩, .slice none 0 0, .int .i64 0, .slice a l.length cap, .int .i64 0] :=
    ⟨none, a, 0, cap, rfl, ⟨hn, i64_l 0 (by omega), h1, h2, i64_l 0 (by omega)⟩, pms_nil W, hr⟩
  exact fns_new (l := [⟨nm, [], 0, l, 0⟩]) (cut5 h0 cutN) 46 n 1 hs (Nat.le_refl _) (by unfold maxLen; omega)
theorem number_len (l : List Fn) (q : Nat) (hq : (numberM l).length = q) (n : Nat) (hn : l.length = n) (a : Option Addr) (cap : Nat) (w : World) (hl : Fns w l a cap) (hT : Tab w) :
    Calls Tryd.prog 21 #[.agg #[.slice a n cap]] w fun r w' => (∃ (a : Option Addr) (cap : Nat), r = .returned (.agg #[.slice a q cap]) ∧ Hid (Fns w' (numberM l) a cap)) ∧ Below w.heap.size w w' := by
  subst hq
  subst hn
  refine (number_any l a cap w hl hT).mono ?_
  rintro r w' ⟨⟨a, c, rfl, h⟩, hb⟩
  exact ⟨⟨a, c, rfl, hide h.fns⟩, hb⟩
theorem check_len (l : List Fn) (q : Nat) (hq : l.length = q) (c : Int) (hc : checkM l = c) (a : Option Addr) (cap : Nat) (w : World) (hl : Fns w l a cap) (hT : Tab w) :
    Calls Tryd.prog 22 #[.agg #[.slice a q cap]] w fun r w' => r = .returned (.int .i64 c) ∧ Below w.heap.size w w' := by
  subst hq
  subst hc
  exact check_any l a cap w hl hT
theorem expr_is (e : Ex) (v : Value) (w : World) (c : Int) (h : (if depthM 20 e = 0 then (2 : Int) else 0) = c) (hv : Ex.Val w e v) (hT : Tab w) :
    Calls Tryd.prog 13 #[v] w fun r w' => r = .returned (.int .i64 c) ∧ Below w.heap.size w w' := by
  subst h
  exact expr_any e v w hv hT
theorem depth_is (e : Ex) (v : Value) (w : World) (c : Int) (h : ((depthM 20 e : Nat) : Int) = c) (hv : Ex.Val w e v) (hT : Tab w) :
    Calls Tryd.prog 15 #[v] w fun r w' => r = .returned (.int .i64 c) ∧ Below w.heap.size w w' := by
  subst h
  exact depth_any e v w hv hT
theorem sameE_is (e : Ex) (v : Value) (w : World) (c : Bool) (h : sameE e e = c) (hv : Ex.Val w e v) (hT : Tab w) :
    Calls Tryd.prog 17 #[v, v] w fun r w' => r = .returned (.bool c) ∧ Below w.heap.size w w' := by
  subst h
  exact sameExpr_any e e v v w hv hv hT
theorem sameS_is (e : St) (v : Value) (w : World) (c : Bool) (h : sameS e e = c) (hv : St.Val w e v) (hT : Tab w) :
    Calls Tryd.prog 8 #[v, v] w fun r w' => r = .returned (.bool c) ∧ Below w.heap.size w w' := by
  subst h
  exact sameStmt_any e e v v w hv hv hT
theorem sameE_refl (e : Ex) : sameE e e = exOk e := by
  unfold sameE
  rw [(eqE_iff e e).2 rfl]
  simp
theorem sameS_refl (s : St) : sameS s s = bodyOk [s] := by
  unfold sameS
  rw [(eqS_iff s s).2 rfl]
  simp
theorem de_yes (how i : Nat) (h : i + 1 ≤ 20) : depthM 20 (deE how i) = i + 1 ∧ sameE (deE how i) (deE how i) = true ∧ sameS (deS how i) (deS how i) = true ∧ (numberM [deF how i]).length = 1 := by
  have h1 := deE_depth how i 20
  rw [if_pos h] at h1
  refine ⟨h1, ?_, ?_, ?_⟩
  · rw [sameE_refl, exOk, h1]
    simp
  · rw [sameS_refl, bodyOk, deS_well, cntL_one, deS_cnt]
    simp
    omega
  · rw [number_one, deF_ok how i (by omega), decide_eq_true h]
    rfl
theorem de_no (how i : Nat) (h : ¬ i + 1 ≤ 20) (hi : i < 200) : depthM 20 (deE how i) = 0 ∧ sameE (deE how i) (deE how i) = false ∧ sameS (deS how i) (deS how i) = false ∧ (numberM [deF how i]).length = 0 := by
  have h1 := deE_depth how i 20
  rw [if_neg h] at h1
  refine ⟨h1, ?_, ?_, ?_⟩
  · rw [sameE_refl, exOk, h1]
    rfl
  · rw [sameS_refl, bodyOk, deS_well, decide_eq_false h]
    rfl
  · rw [number_one, deF_ok how i hi, decide_eq_false h]
    rfl
def retC : List Value := [.int .i64 8, .int .i64 0, .string ⟨#[]⟩, .int .i64 0, .string ⟨#[]⟩, .slice none 0 0, .slice none 0 0, .slice none 0 0]
/-- The first k of 201 statements in a block are returns. -/
def MaAt (w : World) (g k : Nat) : Prop := ∃ C : Array Value, w.heap[g]? = some (.cells C 25 (0, 0)) ∧ C.size = 1608 ∧ ∀ j, j < k → ∀ i, i < 8 → C[j * 8 + i]? = retC[i]?
theorem MaAt.lt {w : World} {g k : Nat} (h : MaAt w g k) : g < w.heap.size := by
  obtain ⟨C, h1, _⟩ := h
  exact (Array.getElem?_eq_some_iff.1 h1).1
theorem MaAt.below {w w' : World} {g k : Nat} (h : MaAt w g k) (hb : Below w.heap.size w w') : MaAt w' g k := by
  have hl := h.lt
  obtain ⟨C, h1, h2, h3⟩ := h
  exact ⟨C, (hb.block _ hl).trans h1, h2, h3⟩
theorem MaAt.of {w : World} {base g : Nat} {xs : List Value} (h : w.ownsRow base 25 8 (.slice (some ⟨g, 0, none⟩) 201 201) 201 xs) : MaAt w g 0 := by
  rcases h.2 with ⟨h1, _⟩ | ⟨g', cap, cur, hv, _, hg, _, _, hs, _⟩
  · cases h1
  · simp only [Value.slice.injEq, Option.some.injEq, Addr.mk.injEq, and_true] at hv
    obtain ⟨rfl, _, rfl⟩ := hv
    exact ⟨cur, hg, by omega, fun j hj => absurd hj (Nat.not_lt_zero _)⟩
theorem MaAt.cell {w : World} {g k : Nat} (h : MaAt w g k) (j : Nat) (hj : j < 1608) : ∃ u, w.cell? ⟨g, j, none⟩ = some u := by
  obtain ⟨C, h1, h2, _⟩ := h
  exact ⟨C[j]'(by omega), cell_at h1 (Array.getElem?_eq_getElem _)⟩
theorem MaAt.free {w : World} {g k : Nat} (h : MaAt w g k) (j : Nat) : w.frozen? ⟨g, j, none⟩ = false := by
  obtain ⟨C, h1, _⟩ := h
  exact free_at h1
def mset (w : World) (g o : Nat) : World :=
  (((((((w.setCell ⟨g, o, none⟩ (.int .i64 8)).setCell ⟨g, o + 1, none⟩ (.int .i64 0)).setCell ⟨g, o + 2, none⟩ (.string ⟨#[]⟩)).setCell ⟨g, o + 3, none⟩ (.int .i64 0)).setCell ⟨g, o + 4, none⟩ (.string ⟨#[]⟩)).setCell ⟨g, o + 5, none⟩ (.slice none 0 0)).setCell ⟨g, o + 6, none⟩ (.slice none 0 0)).setCell ⟨g, o + 7, none⟩ (.slice none 0 0)
theorem mset_kept (w : World) (g o : Nat) : Kept [g] w (mset w g o) := by
  have hn : g ∈ [g] ∨ w.heap.size ≤ g := .inl (by simp)
  unfold mset
  refine Kept.set ?_ hn _ _
  refine Kept.set ?_ hn _ _
  refine Kept.set ?_ hn _ _
  refine Kept.set ?_ hn _ _
  refine Kept.set ?_ hn _ _
  refine Kept.set ?_ hn _ _
  refine Kept.set ?_ hn _ _
  refine Kept.set ?_ hn _ _
  exact Kept.refl _ _
theorem get_set (C : Array Value) (a b : Nat) (v : Value) : (C.setIfInBounds a v)[b]? = if a = b then (if a < C.size then some v else none) else C[b]? := Array.getElem?_setIfInBounds
set_option maxHeartbeats 1000000 in
theorem MaAt.step {w : World} {g k : Nat} (h : MaAt w g k) (hk : k < 201) : MaAt (mset w g (k * 8)) g (k + 1) := by
  obtain ⟨C, h1, h2, h3⟩ := h
  have hb := heap_set (i := k * 8 + 7) (heap_set (i := k * 8 + 6) (heap_set (i := k * 8 + 5) (heap_set (i := k * 8 + 4) (heap_set (i := k * 8 + 3) (heap_set (i := k * 8 + 2) (heap_set (i := k * 8 + 1) (heap_set (i := k * 8) h1 (.int .i64 8)) (.int .i64 0)) (.string ⟨#[]⟩)) (.int .i64 0)) (.string ⟨#[]⟩)) (.slice none 0 0)) (.slice none 0 0)) (.slice none 0 0)
  refine ⟨_, hb, by simp [h2], fun j hj i hi => ?_⟩
  simp only [get_set, Array.size_setIfInBounds, h2]
  by_cases hjk : j = k
  · subst hjk
    have hi8 : i = 0 ∨ i = 1 ∨ i = 2 ∨ i = 3 ∨ i = 4 ∨ i = 5 ∨ i = 6 ∨ i = 7 := by omega
    rcases hi8 with rfl | rfl | rfl | rfl | rfl | rfl | rfl | rfl
    · rw [if_neg (by omega), if_neg (by omega), if_neg (by omega), if_neg (by omega), if_neg (by omega), if_neg (by omega), if_neg (by omega), if_pos (by omega), if_pos (by omega)]; rfl
    · rw [if_neg (by omega), if_neg (by omega), if_neg (by omega), if_neg (by omega), if_neg (by omega), if_neg (by omega), if_pos (by omega), if_pos (by omega)]; rfl
    · rw [if_neg (by omega), if_neg (by omega), if_neg (by omega), if_neg (by omega), if_neg (by omega), if_pos (by omega), if_pos (by omega)]; rfl
    · rw [if_neg (by omega), if_neg (by omega), if_neg (by omega), if_neg (by omega), if_pos (by omega), if_pos (by omega)]; rfl
    · rw [if_neg (by omega), if_neg (by omega), if_neg (by omega), if_pos (by omega), if_pos (by omega)]; rfl
    · rw [if_neg (by omega), if_neg (by omega), if_pos (by omega), if_pos (by omega)]; rfl
    · rw [if_neg (by omega), if_pos (by omega), if_pos (by omega)]; rfl
    · rw [if_pos (by omega), if_pos (by omega)]; rfl
  · rw [if_neg (by omega), if_neg (by omega), if_neg (by omega), if_neg (by omega), if_neg (by omega), if_neg (by omega), if_neg (by omega), if_neg (by omega)]
    exact h3 j (by omega) i hi
theorem MaAt.row {w : World} {g k n : Nat} (h : MaAt w g k) (hn : n ≤ k) : St.Row w (List.replicate n retS) (some ⟨g, 0, none⟩) := by
  obtain ⟨C, h1, h2, h3⟩ := h
  refine St.Row.of fun i hi => ?_
  rw [List.length_replicate] at hi
  have key : ∀ j u, j < 8 → retC[j]? = some u → w.cell? ⟨g, 0 + i * 8 + j, none⟩ = some u := fun j u hj hu => by
    rw [Nat.zero_add]
    exact cell_at h1 ((h3 i (by omega) j hj).trans hu)
  rw [List.getElem_replicate]
  exact St.At.of (s := retS) (pa := none) (pb := none) (pe := none) (ca := 0) (cb := 0) (ce := 0) ⟨key 0 _ (by omega) rfl, key 1 _ (by omega) rfl, key 2 _ (by omega) rfl, key 3 _ (by omega) rfl, key 4 _ (by omega) rfl, key 5 _ (by omega) rfl, key 6 _ (by omega) rfl, key 7 _ (by omega) rfl⟩
    ⟨i64_l 8 (by omega), i64_l 0 (by omega), Nat.zero_le _, i64_l 0 (by omega), Nat.zero_le _, Nat.le_refl _, Nat.zero_le _, Nat.le_refl _, Nat.zero_le _, Nat.le_refl _, Nat.zero_le _⟩ (by simp only [retS, St.args, Ex.Row]) (by simp only [retS, St.body, St.Row]) (by simp only [retS, St.els, St.Row])
theorem ma_yes : (numberM [maF 200]).length = 1 := by
  rw [number_one, maF_ok, decide_eq_true (Nat.le_refl _)]
  rfl
theorem ma_count : ∀ f ∈ numberM [maF 200], f.count = 200 := by
  rw [number_one, maF_ok, decide_eq_true (Nat.le_refl _), if_pos rfl]
  intro f hf
  rw [List.mem_singleton] at hf
  subst hf
  exact maF_count 200
theorem ma_no : (numberM [maF 201]).length = 0 := by
  rw [number_one, maF_ok, decide_eq_false (by omega)]
  rfl
/-- A function with many returns, in a new row. -/
theorem ma_fns {W : World} {g k n cap : Nat} (h : MaAt W g k) (hn : n ≤ k) (hc : n ≤ cap) (hm : cap ≤ 1000) (m : Nat) (hs : m = W.heap.size) :
    Fns (W.alloc (.cells #[.string ⟨#[102]⟩, .slice none 0 0, .int .i64 0, .slice (some ⟨g, 0, none⟩) n cap, .int .i64 0] 46)) [maF n] (some ⟨m, 0, none⟩) 1 := by
  have := fn_row (W := W) [102] (List.replicate n retS) (some ⟨g, 0, none⟩) cap (h.row hn) (by rw [List.length_replicate]; exact hc) (by unfold maxLen; omega) (by unfold maxLen; simp) m hs
  rw [List.length_replicate] at this
  exact this
end Go.Proofs.YthpmecbekpmijaaDoor
