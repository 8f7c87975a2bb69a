/- Slices that a call appends to, whose elements are trees: what lies in them, and the laws on append. -/
import Derived.Test.YtccgpmncpemmdaaDoorNw
import Derived.Maps.AppendAt
import Derived.Deep.AppendLies
import Derived.Laws.AppendOwnNone
import Derived.OwnWalk
namespace Go.Proofs.YtccgpmncpemmdaaDoor
open Go Go.RowKit
set_option linter.unusedSimpArgs false
set_option linter.unusedVariables false
set_option linter.unnecessarySimpa false
section
variable {α : Type}
/-- xs are the cells of a list of things, sz cells each. -/
def Cut (sz : Nat) (V : α → List Value → Prop) : List α → List Value → Prop
  | [], xs => xs = []
  | a :: l, xs => ∃ c r, xs = c ++ r ∧ c.length = sz ∧ V a c ∧ Cut sz V l r
theorem Cut.app {sz : Nat} {V : α → List Value → Prop} : ∀ {l m : List α} {xs ys : List Value}, Cut sz V l xs → Cut sz V m ys → Cut sz V (l ++ m) (xs ++ ys)
  | [], m, xs, ys, h, k => by
    simp only [Cut] at h
    subst h
    exact k
  | a :: l, m, xs, ys, h, k => by
    obtain ⟨c, r, rfl, hc, hv, hr⟩ := h
    exact ⟨c, r ++ ys, by simp, hc, hv, Cut.app hr k⟩
theorem Cut.one {sz : Nat} {V : α → List Value → Prop} {a : α} {c : List Value} (hc : c.length = sz) (hv : V a c) : Cut sz V [a] c := ⟨c, [], by simp, hc, hv, rfl⟩
theorem Cut.mono {sz : Nat} {V V' : α → List Value → Prop} (hV : ∀ a c, V a c → V' a c) : ∀ {l : List α} {xs : List Value}, Cut sz V l xs → Cut sz V' l xs
  | [], _, h => h
  | a :: l, xs, h => by
    obtain ⟨c, r, rfl, hc, hv, hr⟩ := h
    exact ⟨c, r, rfl, hc, hV _ _ hv, Cut.mono hV hr⟩
theorem Cut.len {sz : Nat} {V : α → List Value → Prop} : ∀ {l : List α} {xs : List Value}, Cut sz V l xs → xs.length = l.length * sz
  | [], _, h => by
    simp only [Cut] at h
    subst h
    simp
  | a :: l, xs, h => by
    obtain ⟨c, r, rfl, hc, hv, hr⟩ := h
    rw [List.length_append, hc, Cut.len hr, List.length_cons, Nat.succ_mul]
    omega
theorem Cut.get {sz : Nat} {V : α → List Value → Prop} : ∀ {l : List α} {xs : List Value}, Cut sz V l xs → ∀ (i : Nat) (h : i < l.length), ∃ c, V l[i] c ∧ c.length = sz ∧ ∀ j, j < sz → xs[i * sz + j]? = c[j]?
  | [], _, _, _, h => absurd h (Nat.not_lt_zero _)
  | a :: l, xs, h, i, hi => by
    obtain ⟨c, r, rfl, hc, hv, hr⟩ := h
    cases i with
    | zero => exact ⟨c, hv, hc, fun j hj => by rw [Nat.zero_mul, Nat.zero_add, List.getElem?_append_left (by omega)]⟩
    | succ i =>
      obtain ⟨c', h1, h2, h3⟩ := Cut.get hr i (by simpa using hi)
      refine ⟨c', h1, h2, fun j hj => ?_⟩
      rw [← h3 j hj, Nat.succ_mul, List.getElem?_append_right (by omega)]
      congr 1
      omega
/-- The slice v is the call's own, and its elements are the list's; they avoid the slice's own row, and the blocks of ban. -/
def OwnL (w : World) (base : Nat) (t : TypeId) (sz : Nat) (V : World → α → List Value → Prop) (ban : List Nat) (v : Value) (l : List α) : Prop :=
  ∃ xs, w.ownsRow base t sz v l.length xs ∧ Cut sz (V (av (v.ownBlock.toList ++ ban) w)) l xs
/-- What is said of a world's cells alone. -/
def Mono (V : World → α → List Value → Prop) : Prop := ∀ w w' a c, Has w w' → V w a c → V w' a c
variable {w w' : World} {base sz : Nat} {t : TypeId} {V : World → α → List Value → Prop} {ban : List Nat} {v v' : Value} {l : List α}
theorem OwnL.nil (w : World) (base : Nat) (t : TypeId) (sz : Nat) (V : World → α → List Value → Prop) (ban : List Nat) : OwnL w base t sz V ban (.slice none 0 0) [] := ⟨[], World.ownsRow_nil w base t sz, rfl⟩
theorem OwnL.kept (hm : Mono V) (h : OwnL w base t sz V ban v l) {m : List Nat} (hk : Kept m w w') (hb : ∀ g ∈ m, g < base ∧ g ∈ ban) : OwnL w' base t sz V ban v l := by
  obtain ⟨xs, hown, hcut⟩ := h
  have hlt := hown.lt
  refine ⟨xs, ⟨hown.1, ?_⟩, hcut.mono fun a c hv => hm _ _ _ _ (has_kept (hk.sub fun g hg => .inl (List.mem_append.2 (.inr (hb g hg).2)))) hv⟩
  rcases hown.2 with hn | ⟨g, cap, cur, rfl, hbg, hgg, rest⟩
  · exact .inl hn
  · exact .inr ⟨g, cap, cur, rfl, hbg, hk.heap (fun hg => by have := (hb g hg).1; omega) hgg, rest⟩
theorem OwnL.below (hm : Mono V) (h : OwnL w base t sz V ban v l) (hb : Below w.heap.size w w') : OwnL w' base t sz V ban v l := h.kept (m := []) hm (kept_below hb) (by simp)
theorem OwnL.al (hm : Mono V) (h : OwnL w base t sz V ban v l) (o : Obj) : OwnL (w.alloc o) base t sz V ban v l := h.below hm ((bl w).al o)
theorem OwnL.form (h : OwnL w base t sz V ban v l) : v = .slice none 0 0 ∧ l = [] ∨ ∃ g cap, v = .slice (some ⟨g, 0, none⟩) l.length cap ∧ base ≤ g ∧ g < w.heap.size ∧ l.length ≤ cap ∧ cap ≤ maxLen := by
  obtain ⟨xs, hown, hcut⟩ := h
  rcases hown.2 with ⟨rfl, h0⟩ | ⟨g, cap, cur, rfl, hbg, hgg, h1, h2, _⟩
  · exact .inl ⟨rfl, List.eq_nil_of_length_eq_zero h0⟩
  · exact .inr ⟨g, cap, rfl, hbg, (Array.getElem?_eq_some_iff.1 hgg).1, h1, h2⟩
theorem OwnL.slice (h : OwnL w base t sz V ban v l) : ∃ a cap, v = .slice a l.length cap ∧ l.length ≤ cap ∧ cap ≤ maxLen := by
  rcases h.form with ⟨rfl, rfl⟩ | ⟨g, cap, rfl, _, _, h1, h2⟩
  · exact ⟨none, 0, rfl, Nat.le_refl _, Nat.zero_le _⟩
  · exact ⟨_, cap, rfl, h1, h2⟩
theorem OwnL.lt (h : OwnL w base t sz V ban v l) : ∀ k, v.ownBlock = some k → base ≤ k ∧ k < w.heap.size := by
  obtain ⟨xs, hown, hcut⟩ := h
  exact hown.lt
/-- The elements, where the slice's own block is not left out. -/
theorem OwnL.get (hm : Mono V) (h : OwnL w base t sz V ban v l) {g o cap n : Nat} (hv : v = .slice (some ⟨g, o, none⟩) n cap) (i : Nat) (hi : i < l.length) :
    o = 0 ∧ base ≤ g ∧ ∃ c, V (av ban w) l[i] c ∧ V (av (g :: ban) w) l[i] c ∧ c.length = sz ∧ ∀ j u, c[j]? = some u → w.cell? ⟨g, i * sz + j, none⟩ = some u := by
  obtain ⟨xs, hown, hcut⟩ := h
  rcases hown.2 with ⟨rfl, h0⟩ | ⟨g', cap', cur, rfl, hbg, hgg, h1, h2, h3, h4⟩
  · cases hv
  · simp only [Value.slice.injEq, Option.some.injEq, Addr.mk.injEq, and_true] at hv
    obtain ⟨⟨rfl, rfl⟩, _, _⟩ := hv
    obtain ⟨c, hc1, hc2, hc3⟩ := hcut.get i hi
    refine ⟨rfl, hbg, c, hm _ _ _ _ (has_sub fun x hx => List.mem_append.2 (.inr hx)) hc1, hc1, hc2, fun j u hu => ?_⟩
    have hj : j < sz := by
      have := (List.getElem?_eq_some_iff.1 hu).1
      omega
    have h5 := hown.cells (g := g') rfl (i * sz + j) u (by rw [hc3 j hj]; exact hu)
    rwa [Addr.add_lit, Nat.zero_add] at h5
/-- One more element. -/
theorem own_push {xs c : List Value} (hm : Mono V) (hown : w.ownsRow base t sz v l.length xs) (hcut : Cut sz (V (av (v.ownBlock.toList ++ ban) w)) l xs) {ms : List α} (hown' : w'.ownsRow base t sz v' (l.length + ms.length) (xs ++ c)) (hgrow : w.grownBy w' v.ownBlock)
    (hat : v'.ownBlock = v.ownBlock ∨ v'.ownBlock = some w.heap.size) (hv : Cut sz (V (av (v.ownBlock.toList ++ ban) w)) ms c) : OwnL w' base t sz V ban v' (l ++ ms) := by
  have hh : Has (av (v.ownBlock.toList ++ ban) w) (av (v'.ownBlock.toList ++ ban) w') := by
    intro b o u hu
    obtain ⟨hn, hc'⟩ := av_cell.1 hu
    have hlt := cell_lt hc'
    simp only at hlt
    simp only [List.mem_append, not_or, Option.mem_toList] at hn
    refine av_cell.2 ⟨?_, hgrow.cell hc' (fun e => hn.1 (by simpa using e.symm))⟩
    simp only [List.mem_append, not_or, Option.mem_toList]
    refine ⟨fun e => ?_, hn.2⟩
    rcases hat with h | h
    · exact hn.1 (by rw [← h]; exact e)
    · rw [h] at e
      simp at e
      omega
  refine ⟨xs ++ c, by rw [List.length_append]; exact hown', ?_⟩
  exact (hcut.app hv).mono fun a c h => hm _ _ _ _ hh h
end
section
variable {α : Type} {P : Program} (w : World)
/-- append of one thing. -/
theorem wpList_push {ops : Array Oper} {rest : List Oper} {o : Oper} {a : Act} {Q : Exit → Act → World → Prop} (hgd : o.guard = none) (s x : Operand) (t : TypeId)
    (ho : o.op = .call { callee := .builtin .append, args := #[s, x], argTypes := #[t, t] })
    (base : Nat) (e : TypeId) (i : TypeInfo) (z : Value) (size bytes : Nat) (ht : P.underlying t = some (.slice e)) (hi : P.info? e = some i) (hz : i.zero = some z)
    (hsize : i.size = size) (hby : i.bytes = bytes) (hzs : z.cells.size = size) (hsz : 0 < size)
    (V : World → α → List Value → Prop) (hm : Mono V) (ban : List Nat) (v : Value) (l : List α) (hs : a.eval s = v) (hown : OwnL w base e size V ban v l)
    (ad : Addr) (cp : Nat) (news : List Value) (y : α) (hx : a.eval x = .slice (some ad) 1 cp) (hl : news.length = size) (hnews : ∀ j u, news[j]? = some u → w.cell? (ad.add j) = some u) (h1 : ∀ u ∈ news, u.oneCell' = true)
    (hv : V (av (v.ownBlock.toList ++ ban) w) y news) (h63 : l.length + 1 ≤ maxLen) (hbytes : (l.length + 1) * bytes ≤ 140737488355328) (hbase : base ≤ w.heap.size)
    (h : ∀ v' w', OwnL w' base e size V ban v' (l ++ [y]) → w.grownBy w' v.ownBlock → wpList P ops Q rest (a.put o.dst v') w') :
    wpList P ops Q (o :: rest) a w := by
  obtain ⟨xs, hown, hcut⟩ := hown
  exact wpList_append_own_at w hgd s x t ho base e i z size bytes ht hi hz hsize hby hzs hsz v l.length xs hs hown ad 1 cp news hx (by omega) hnews h1 h63 hbytes hbase fun v' w' hown' hgrow _ hat =>
    h v' w' (own_push (ms := [y]) hm hown hcut hown' hgrow hat (.one hl hv)) hgrow
/-- append of all elements of a slice. -/
theorem wpList_pushes {ops : Array Oper} {rest : List Oper} {o : Oper} {a : Act} {Q : Exit → Act → World → Prop} (hgd : o.guard = none) (s x : Operand) (t : TypeId)
    (ho : o.op = .call { callee := .builtin .append, args := #[s, x], argTypes := #[t, t] })
    (base : Nat) (e : TypeId) (i : TypeInfo) (z : Value) (size bytes : Nat) (ht : P.underlying t = some (.slice e)) (hi : P.info? e = some i) (hz : i.zero = some z)
    (hsize : i.size = size) (hby : i.bytes = bytes) (hzs : z.cells.size = size) (hsz : 0 < size)
    (V : World → α → List Value → Prop) (hm : Mono V) (ban : List Nat) (v : Value) (l : List α) (hs : a.eval s = v) (hown : OwnL w base e size V ban v l)
    (pa : Option Addr) (cp : Nat) (news : List Value) (ms : List α) (hx : a.eval x = .slice pa ms.length cp) (hnil : pa = none → ms = [] ∧ cp = 0) (hnews : ∀ ad, pa = some ad → ∀ j u, news[j]? = some u → w.cell? (ad.add j) = some u) (h1 : ∀ u ∈ news, u.oneCell' = true)
    (hv : Cut size (V (av (v.ownBlock.toList ++ ban) w)) ms news) (h63 : l.length + ms.length ≤ maxLen) (hbytes : (l.length + ms.length) * bytes ≤ 140737488355328) (hbase : base ≤ w.heap.size)
    (h : ∀ v' w', OwnL w' base e size V ban v' (l ++ ms) → w.grownBy w' v.ownBlock → wpList P ops Q rest (a.put o.dst v') w') :
    wpList P ops Q (o :: rest) a w := by
  have hown0 := hown
  obtain ⟨xs, hown, hcut⟩ := hown
  cases pa with
  | none =>
    obtain ⟨rfl, rfl⟩ := hnil rfl
    refine wpList_append_own_none hgd s x t ho base e i size ht hi v l.length xs hs hown hx ?_
    refine h v w ?_ ⟨rfl, rfl, rfl, Nat.le_refl _, fun _ _ _ => rfl⟩
    rw [List.append_nil]
    exact hown0
  | some ad =>
    exact wpList_append_own_at w hgd s x t ho base e i z size bytes ht hi hz hsize hby hzs hsz v l.length xs hs hown ad ms.length cp news hx hv.len (hnews ad rfl) h1 h63 hbytes hbase fun v' w' hown' hgrow _ hat =>
      h v' w' (own_push hm hown hcut hown' hgrow hat hv) hgrow
/-- append of one thing, at a step of a region that draws its order. -/
theorem step_push {ops : Array Oper} {o : Oper} {a : Act} {K : Act → World → Prop} {Q : Exit → Act → World → Prop} {E : Prop} (hgd : o.guard = none) (s x : Operand) (t : TypeId)
    (ho : o.op = .call { callee := .builtin .append, args := #[s, x], argTypes := #[t, t] })
    (base : Nat) (e : TypeId) (i : TypeInfo) (z : Value) (size bytes : Nat) (ht : P.underlying t = some (.slice e)) (hi : P.info? e = some i) (hz : i.zero = some z)
    (hsize : i.size = size) (hby : i.bytes = bytes) (hzs : z.cells.size = size) (hsz : 0 < size)
    (V : World → α → List Value → Prop) (hm : Mono V) (ban : List Nat) (v : Value) (l : List α) (hs : a.eval s = v) (hown : OwnL w base e size V ban v l)
    (ad : Addr) (cp : Nat) (news : List Value) (y : α) (hx : a.eval x = .slice (some ad) 1 cp) (hl : news.length = size) (hnews : ∀ j u, news[j]? = some u → w.cell? (ad.add j) = some u) (h1 : ∀ u ∈ news, u.oneCell' = true)
    (hv : V (av (v.ownBlock.toList ++ ban) w) y news) (h63 : l.length + 1 ≤ maxLen) (hbytes : (l.length + 1) * bytes ≤ 140737488355328) (hbase : base ≤ w.heap.size)
    (h : ∀ v' w', OwnL w' base e size V ban v' (l ++ [y]) → w.grownBy w' v.ownBlock → K (a.put o.dst v') w') :
    if Region.wanted o (yielded ops a.tmps) = true then Oper.wp P o a w K Q else E := by
  obtain ⟨xs, hown, hcut⟩ := hown
  exact step_append_lies w hgd s x t ho base e i z size bytes ht hi hz hsize hby hzs hsz v l.length xs hs hown ad 1 cp news hx (by omega) hnews h1 (by omega) h63 hbytes hbase _ rfl fun g cap w' hown' hgrow hat _ =>
    h _ w' (own_push (ms := [y]) hm hown hcut hown' hgrow (hat.imp (fun h => h.symm) (fun h => by rw [h]; rfl)) (.one hl hv)) hgrow
end
/-- The cells of an expression. -/
def ExC (w : World) (e : Ex) (c : List Value) : Prop := ∃ (a : Option Addr) (cap : Nat), c = [.int .i64 e.kind, .int .i64 e.op, .int .i64 e.num, .string ⟨e.name.toArray⟩, .slice a e.args.length cap] ∧ ExWf e.kind e.op e.num e.name e.args.length cap ∧ Ex.Row w e.args a
theorem ExC.mono : Mono ExC := fun _ _ _ _ hh ⟨a, cap, h1, h2, h3⟩ => ⟨a, cap, h1, h2, h3.has hh⟩
/-- The cells of a statement. -/
def StC (w : World) (s : St) (c : List Value) : Prop :=
  ∃ (pa pb pe : Option Addr) (ca cb ce : Nat), c = [.int .i64 s.kind, .int .i64 s.no, .string ⟨s.name.toArray⟩, .int .i64 s.typ, .string ⟨s.callee.toArray⟩, .slice pa s.args.length ca, .slice pb s.body.length cb, .slice pe s.els.length ce] ∧
    StWf s.kind s.no s.name s.typ s.callee s.args.length ca s.body.length cb s.els.length ce ∧ Ex.Row w s.args pa ∧ St.Row w s.body pb ∧ St.Row w s.els pe
theorem StC.mono : Mono StC := fun _ _ _ _ hh ⟨pa, pb, pe, ca, cb, ce, h1, h2, h3, h4, h5⟩ => ⟨pa, pb, pe, ca, cb, ce, h1, h2, h3.has hh, h4.has hh, h5.has hh⟩
/-- The cells of a parameter. -/
def PmC (_ : World) (p : Pm) (c : List Value) : Prop := c = [.string ⟨p.name.toArray⟩, .int .i64 p.typ] ∧ p.name.length ≤ maxLen ∧ I64 p.typ
theorem PmC.mono : Mono PmC := fun _ _ _ _ _ h => h
/-- The cells of a function. -/
def FnC (w : World) (f : Fn) (c : List Value) : Prop :=
  ∃ (pp pb : Option Addr) (cp cb : Nat), c = [.string ⟨f.name.toArray⟩, .slice pp f.params.length cp, .int .i64 f.result, .slice pb f.body.length cb, .int .i64 f.count] ∧ FnWf f cb ∧ Pms w f.params pp cp ∧ St.Row w f.body pb
theorem FnC.mono : Mono FnC := fun _ _ _ _ hh ⟨pp, pb, cp, cb, h1, h2, h3, h4⟩ => ⟨pp, pb, cp, cb, h1, h2, h3.has hh, h4.has hh⟩
section
variable {w : World} {base : Nat} {t : TypeId} {ban : List Nat} {v : Value}
/-- What the slice's own cells are, and what is behind them, in a world without the blocks of ban. -/
theorem av_mk {g o : Nat} {u : Value} {ban : List Nat} {w : World} (h : w.cell? ⟨g, o, none⟩ = some u) (hg : g ∉ ban) : (av ban w).cell? ⟨g, o, none⟩ = some u := av_cell.2 ⟨hg, h⟩
theorem OwnL.exs {l : List Ex} (h : OwnL w base t 5 ExC ban v l) (hb : ∀ g ∈ ban, g < base) : ∃ a cap, v = .slice a l.length cap ∧ Ex.Row (av ban w) l a ∧ l.length ≤ cap ∧ cap ≤ maxLen := by
  have h0 := h
  rcases h.form with ⟨rfl, rfl⟩ | ⟨g, cap, rfl, hbg, _, h1, h2⟩
  · exact ⟨none, 0, rfl, by simp only [Ex.Row], Nat.le_refl _, Nat.zero_le _⟩
  · refine ⟨_, cap, rfl, Ex.Row.of fun i hi => ?_, h1, h2⟩
    obtain ⟨_, _, c, ⟨a, cp, rfl, hw, hr⟩, _, _, hcell⟩ := h0.get ExC.mono rfl i hi
    have hg : g ∉ ban := fun hg => by have := hb g hg; omega
    generalize l[i] = e at *
    cases e
    simp only [Ex.At, Nat.zero_add]
    exact ⟨a, cp, av_mk (hcell 0 _ rfl) hg, av_mk (hcell 1 _ rfl) hg, av_mk (hcell 2 _ rfl) hg, av_mk (hcell 3 _ rfl) hg, av_mk (hcell 4 _ rfl) hg, hw, hr⟩
theorem OwnL.sts {l : List St} (h : OwnL w base t 8 StC ban v l) (hb : ∀ g ∈ ban, g < base) : ∃ a cap, v = .slice a l.length cap ∧ St.Row (av ban w) l a ∧ l.length ≤ cap ∧ cap ≤ maxLen := by
  have h0 := h
  rcases h.form with ⟨rfl, rfl⟩ | ⟨g, cap, rfl, hbg, _, h1, h2⟩
  · exact ⟨none, 0, rfl, by simp only [St.Row], Nat.le_refl _, Nat.zero_le _⟩
  · refine ⟨_, cap, rfl, St.Row.of fun i hi => ?_, h1, h2⟩
    obtain ⟨_, _, c, ⟨pa, pb, pe, ca, cb, ce, rfl, hw, hr1, hr2, hr3⟩, _, _, hcell⟩ := h0.get StC.mono rfl i hi
    have hg : g ∉ ban := fun hg => by have := hb g hg; omega
    rw [Nat.zero_add]
    exact St.At.of ⟨av_mk (hcell 0 _ rfl) hg, av_mk (hcell 1 _ rfl) hg, av_mk (hcell 2 _ rfl) hg, av_mk (hcell 3 _ rfl) hg, av_mk (hcell 4 _ rfl) hg, av_mk (hcell 5 _ rfl) hg, av_mk (hcell 6 _ rfl) hg, av_mk (hcell 7 _ rfl) hg⟩ hw hr1 hr2 hr3
theorem OwnL.pms {l : List Pm} (h : OwnL w base t 2 PmC ban v l) (hb : ∀ g ∈ ban, g < base) : ∃ a cap, v = .slice a l.length cap ∧ Pms (av ban w) l a cap := by
  have h0 := h
  have hwf : ∀ p ∈ l, p.name.length ≤ maxLen ∧ I64 p.typ := fun p hp => by
    obtain ⟨xs, _, hcut⟩ := h0
    obtain ⟨i, hi, rfl⟩ := List.mem_iff_getElem.1 hp
    obtain ⟨c, hc, _⟩ := hcut.get i hi
    exact hc.2
  rcases h.form with ⟨rfl, rfl⟩ | ⟨g, cap, rfl, hbg, _, h1, h2⟩
  · exact ⟨none, 0, rfl, Nat.le_refl _, Nat.zero_le _, by simp, (fun b o e => by cases e), by simp⟩
  · refine ⟨_, cap, rfl, h1, h2, fun _ => ⟨_, _, rfl⟩, fun b o e i hi => ?_, hwf⟩
    simp only [Option.some.injEq, Addr.mk.injEq, and_true] at e
    obtain ⟨rfl, rfl⟩ := e
    obtain ⟨_, _, c, ⟨rfl, _⟩, _, _, hcell⟩ := h0.get PmC.mono rfl i hi
    have hg : g ∉ ban := fun hg => by have := hb g hg; omega
    rw [Nat.zero_add]
    exact ⟨av_mk (hcell 0 _ rfl) hg, av_mk (hcell 1 _ rfl) hg⟩
theorem OwnL.fns {l : List Fn} (h : OwnL w base t 5 FnC ban v l) (hb : ∀ g ∈ ban, g < base) : ∃ a cap, v = .slice a l.length cap ∧ Fns (av ban w) l a cap := by
  have h0 := h
  rcases h.form with ⟨rfl, rfl⟩ | ⟨g, cap, rfl, hbg, _, h1, h2⟩
  · exact ⟨none, 0, rfl, Nat.le_refl _, Nat.zero_le _, by simp, fun b o e => by cases e⟩
  · refine ⟨_, cap, rfl, h1, h2, fun _ => ⟨_, _, rfl⟩, fun b o e i hi => ?_⟩
    simp only [Option.some.injEq, Addr.mk.injEq, and_true] at e
    obtain ⟨rfl, rfl⟩ := e
    obtain ⟨_, _, c, ⟨pp, pb, cp, cb, rfl, hw, hp, hr⟩, _, _, hcell⟩ := h0.get FnC.mono rfl i hi
    have hg : g ∉ ban := fun hg => by have := hb g hg; omega
    rw [Nat.zero_add]
    exact ⟨pp, pb, cp, cb, av_mk (hcell 0 _ rfl) hg, av_mk (hcell 1 _ rfl) hg, av_mk (hcell 2 _ rfl) hg, av_mk (hcell 3 _ rfl) hg, av_mk (hcell 4 _ rfl) hg, hw, hp, hr⟩
end
theorem info_ex : (Tryd.prog.info? 91).map (fun i => (i.zero, i.size, i.bytes)) = some (some (.agg #[.int .i64 0, .int .i64 0, .int .i64 0, .string ⟨#[]⟩, .slice none 0 0]), 5, 64) := by kernel_rfl
theorem info_st : (Tryd.prog.info? 62).map (fun i => (i.zero, i.size, i.bytes)) = some (some (.agg #[.int .i64 0, .int .i64 0, .string ⟨#[]⟩, .int .i64 0, .string ⟨#[]⟩, .slice none 0 0, .slice none 0 0, .slice none 0 0]), 8, 128) := by kernel_rfl
theorem info_pm : (Tryd.prog.info? 58).map (fun i => (i.zero, i.size, i.bytes)) = some (some (.agg #[.string ⟨#[]⟩, .int .i64 0]), 2, 24) := by kernel_rfl
theorem info_fn : (Tryd.prog.info? 42).map (fun i => (i.zero, i.size, i.bytes)) = some (some (.agg #[.string ⟨#[]⟩, .slice none 0 0, .int .i64 0, .slice none 0 0, .int .i64 0]), 5, 80) := by kernel_rfl
/-- What append is handed: the cells of a block that was just made. -/
theorem news_row (w : World) (xs : List Value) (t : TypeId) (n : Nat) (hn : n = w.heap.size) : ∀ (j : Nat) (u : Value), xs[j]? = some u → (w.alloc (.cells xs.toArray t)).cell? ((⟨n, 0, none⟩ : Addr).add j) = some u := by
  intro j u h
  subst hn
  rw [Addr.add_lit, Nat.zero_add]
  exact cell_of_list _ _ _ _ _ h
theorem has_nw_av {l : List Nat} {n : Nat} {w : World} (h : ∀ g ∈ l, g < n) : Has (nw n w) (av l w) := has_sub fun g hg => List.mem_range.2 (h g hg)
theorem own_avoid {α : Type} {w : World} {base sz : Nat} {t : TypeId} {V : World → α → List Value → Prop} {ban : List Nat} {v : Value} {l : List α} (h : OwnL w base t sz V ban v l) {n : Nat} (hn : w.heap.size ≤ n) (hb : ∀ g ∈ ban, g < n) : ∀ g ∈ v.ownBlock.toList ++ ban, g < n := by
  intro g hg
  rcases List.mem_append.1 hg with hg | hg
  · have := h.lt g (by simpa using hg)
    omega
  · exact hb g hg
theorem cut_end {P : Program} {f : Func} {post : Ending → World → Prop} {ex : Exit} {a : Act} {W : World} (S : World → Prop) (hS : S W) (h : ∀ W', S W' → bodyPost P f post ex a W') : bodyPost P f post ex a W := h W hS
theorem below_range {w : World} : ∀ g ∈ List.range w.heap.size, g < w.heap.size := fun _ hg => List.mem_range.1 hg
end Go.Proofs.YtccgpmncpemmdaaDoor
