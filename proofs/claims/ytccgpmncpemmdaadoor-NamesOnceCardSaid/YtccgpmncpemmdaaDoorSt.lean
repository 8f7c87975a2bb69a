/- Statements, functions and programs in memory, as trees. -/
import Derived.Test.YtccgpmncpemmdaaDoorFrm
namespace Go.Proofs.YtccgpmncpemmdaaDoor
open Go Go.RowKit
set_option linter.unusedSimpArgs false
set_option linter.unusedVariables false
set_option linter.unnecessarySimpa false
/-- A statement as a tree. -/
inductive St where
  | mk (kind no : Int) (name : Bytes) (typ : Int) (callee : Bytes) (args : List Ex) (body els : List St)
namespace St
def kind : St → Int | .mk k _ _ _ _ _ _ _ => k
def no : St → Int | .mk _ n _ _ _ _ _ _ => n
def name : St → Bytes | .mk _ _ s _ _ _ _ _ => s
def typ : St → Int | .mk _ _ _ t _ _ _ _ => t
def callee : St → Bytes | .mk _ _ _ _ c _ _ _ => c
def args : St → List Ex | .mk _ _ _ _ _ a _ _ => a
def body : St → List St | .mk _ _ _ _ _ _ b _ => b
def els : St → List St | .mk _ _ _ _ _ _ _ e => e
end St
/-- What lies in a statement's own cells is within the bounds. -/
structure StWf (k n : Int) (s : Bytes) (t : Int) (c : Bytes) (la ca lb cb le ce : Nat) : Prop where
  k : I64 k
  n : I64 n
  s : s.length ≤ maxLen
  t : I64 t
  c : c.length ≤ maxLen
  la : la ≤ ca
  ca : ca ≤ maxLen
  lb : lb ≤ cb
  cb : cb ≤ maxLen
  le : le ≤ ce
  ce : ce ≤ maxLen
/-- The eight cells of a statement. -/
structure StCells (w : World) (b o : Nat) (k n : Int) (s : Bytes) (t : Int) (c : Bytes) (va vb ve : Value) : Prop where
  c0 : w.cell? ⟨b, o, none⟩ = some (.int .i64 k)
  c1 : w.cell? ⟨b, o + 1, none⟩ = some (.int .i64 n)
  c2 : w.cell? ⟨b, o + 2, none⟩ = some (.string ⟨s.toArray⟩)
  c3 : w.cell? ⟨b, o + 3, none⟩ = some (.int .i64 t)
  c4 : w.cell? ⟨b, o + 4, none⟩ = some (.string ⟨c.toArray⟩)
  c5 : w.cell? ⟨b, o + 5, none⟩ = some va
  c6 : w.cell? ⟨b, o + 6, none⟩ = some vb
  c7 : w.cell? ⟨b, o + 7, none⟩ = some ve
theorem StCells.has {w w' : World} {b o : Nat} {k n : Int} {s : Bytes} {t : Int} {c : Bytes} {va vb ve : Value} (h : StCells w b o k n s t c va vb ve) (hh : Has w w') : StCells w' b o k n s t c va vb ve :=
  ⟨hh _ _ _ h.c0, hh _ _ _ h.c1, hh _ _ _ h.c2, hh _ _ _ h.c3, hh _ _ _ h.c4, hh _ _ _ h.c5, hh _ _ _ h.c6, hh _ _ _ h.c7⟩
mutual
/-- The statement lies in the eight cells from o of block b on. -/
def St.At (w : World) : St → Nat → Nat → Prop
  | .mk k n s t c xs bs es, b, o => ∃ (pa pb pe : Option Addr) (ca cb ce : Nat), StCells w b o k n s t c (.slice pa xs.length ca) (.slice pb bs.length cb) (.slice pe es.length ce) ∧
      StWf k n s t c xs.length ca bs.length cb es.length ce ∧ Ex.Row w xs pa ∧ St.Row w bs pb ∧ St.Row w es pe
/-- A row of statements from an address on. -/
def St.Row (w : World) : List St → Option Addr → Prop
  | [], _ => True
  | s :: ss, a => ∃ b o, a = some ⟨b, o, none⟩ ∧ St.At w s b o ∧ St.Row w ss (some ⟨b, o + 8, none⟩)
end
/-- The value v is the statement s. -/
def St.Val (w : World) (s : St) (v : Value) : Prop :=
  ∃ (pa pb pe : Option Addr) (ca cb ce : Nat), v = .agg #[.int .i64 s.kind, .int .i64 s.no, .string ⟨s.name.toArray⟩, .int .i64 s.typ, .string ⟨s.callee.toArray⟩, .slice pa s.args.length ca, .slice pb s.body.length cb, .slice pe s.els.length ce] ∧
    StWf s.kind s.no s.name s.typ s.callee s.args.length ca s.body.length cb s.els.length ce ∧ Ex.Row w s.args pa ∧ St.Row w s.body pb ∧ St.Row w s.els pe
theorem St.Val.mk {w : World} {s : St} {pa pb pe : Option Addr} {ca cb ce : Nat} (hw : StWf s.kind s.no s.name s.typ s.callee s.args.length ca s.body.length cb s.els.length ce) (ha : Ex.Row w s.args pa) (hb : St.Row w s.body pb) (he : St.Row w s.els pe) :
    St.Val w s (.agg #[.int .i64 s.kind, .int .i64 s.no, .string ⟨s.name.toArray⟩, .int .i64 s.typ, .string ⟨s.callee.toArray⟩, .slice pa s.args.length ca, .slice pb s.body.length cb, .slice pe s.els.length ce]) := ⟨pa, pb, pe, ca, cb, ce, rfl, hw, ha, hb, he⟩
mutual
theorem St.At.has {w w' : World} (hh : Has w w') : ∀ {s : St} {b o : Nat}, St.At w s b o → St.At w' s b o
  | .mk k n s t c xs bs es, b, o, h => by
    simp only [St.At] at h ⊢
    obtain ⟨pa, pb, pe, ca, cb, ce, hc, hw, ha, hb, he⟩ := h
    exact ⟨pa, pb, pe, ca, cb, ce, hc.has hh, hw, ha.has hh, St.Row.has hh hb, St.Row.has hh he⟩
theorem St.Row.has {w w' : World} (hh : Has w w') : ∀ {l : List St} {a : Option Addr}, St.Row w l a → St.Row w' l a
  | [], _, _ => by simp only [St.Row]
  | s :: ss, a, h => by
    simp only [St.Row] at h ⊢
    obtain ⟨b, o, ha, he, hr⟩ := h
    exact ⟨b, o, ha, St.At.has hh he, St.Row.has hh hr⟩
end
theorem St.Val.has {w w' : World} {s : St} {v : Value} (h : St.Val w s v) (hh : Has w w') : St.Val w' s v := by
  obtain ⟨pa, pb, pe, ca, cb, ce, hv, hw, ha, hb, he⟩ := h
  exact ⟨pa, pb, pe, ca, cb, ce, hv, hw, ha.has hh, hb.has hh, he.has hh⟩
theorem has_keep {w w' : World} {B : Nat} (hb : Below B w w') (hB : w.heap.size ≤ B) : Has w w' := fun _ _ _ hv => cell_keep hv hb hB
theorem St.Row.keep {w w' : World} {B : Nat} {l : List St} {a : Option Addr} (h : St.Row w l a) (hb : Below B w w') (hB : w.heap.size ≤ B) : St.Row w' l a := h.has (has_keep hb hB)
theorem St.Val.keep {w w' : World} {B : Nat} {s : St} {v : Value} (h : St.Val w s v) (hb : Below B w w') (hB : w.heap.size ≤ B) : St.Val w' s v := h.has (has_keep hb hB)
/-- What a statement's eight cells hold, as a value. -/
theorem St.At.val {w : World} {s : St} {b o : Nat} (h : St.At w s b o) : ∃ (pa pb pe : Option Addr) (ca cb ce : Nat), StCells w b o s.kind s.no s.name s.typ s.callee (.slice pa s.args.length ca) (.slice pb s.body.length cb) (.slice pe s.els.length ce) ∧
    StWf s.kind s.no s.name s.typ s.callee s.args.length ca s.body.length cb s.els.length ce ∧ Ex.Row w s.args pa ∧ St.Row w s.body pb ∧ St.Row w s.els pe := by
  cases s
  simp only [St.At] at h
  exact h
theorem St.At.of {w : World} {s : St} {b o : Nat} {pa pb pe : Option Addr} {ca cb ce : Nat} (hc : StCells w b o s.kind s.no s.name s.typ s.callee (.slice pa s.args.length ca) (.slice pb s.body.length cb) (.slice pe s.els.length ce))
    (hw : StWf s.kind s.no s.name s.typ s.callee s.args.length ca s.body.length cb s.els.length ce) (ha : Ex.Row w s.args pa) (hb : St.Row w s.body pb) (he : St.Row w s.els pe) : St.At w s b o := by
  cases s
  simp only [St.At]
  exact ⟨pa, pb, pe, ca, cb, ce, hc, hw, ha, hb, he⟩
theorem St.Row.get {w : World} : ∀ {l : List St} {b o : Nat}, St.Row w l (some ⟨b, o, none⟩) → ∀ (i : Nat) (h : i < l.length), St.At w l[i] b (o + i * 8)
  | [], _, _, _, _, h => absurd h (Nat.not_lt_zero _)
  | e :: es, b, o, hr, i, h => by
    simp only [St.Row] at hr
    obtain ⟨b', o', ha, he, hr⟩ := hr
    simp only [Option.some.injEq, Addr.mk.injEq, and_true] at ha
    obtain ⟨rfl, rfl⟩ := ha
    cases i with
    | zero => simpa using he
    | succ i =>
      have := St.Row.get hr i (by simpa using h)
      have e : o + 8 + i * 8 = o + (i + 1) * 8 := by omega
      rw [e] at this
      simpa using this
theorem St.Row.of {w : World} {b : Nat} : ∀ {l : List St} {o : Nat}, (∀ (i : Nat) (h : i < l.length), St.At w l[i] b (o + i * 8)) → St.Row w l (some ⟨b, o, none⟩)
  | [], _, _ => by simp only [St.Row]
  | e :: es, o, h => by
    simp only [St.Row]
    refine ⟨b, o, rfl, by have := h 0 (by simp); rwa [Nat.zero_mul, Nat.add_zero] at this, St.Row.of fun i hi => ?_⟩
    have := h (i + 1) (by simpa using hi)
    have e : o + 8 + i * 8 = o + (i + 1) * 8 := by omega
    rw [e]
    simpa using this
theorem Ex.Row.of {w : World} {b : Nat} : ∀ {l : List Ex} {o : Nat}, (∀ (i : Nat) (h : i < l.length), Ex.At w l[i] b (o + i * 5)) → Ex.Row w l (some ⟨b, o, none⟩)
  | [], _, _ => by simp only [Ex.Row]
  | e :: es, o, h => by
    simp only [Ex.Row]
    refine ⟨b, o, rfl, by have := h 0 (by simp); rwa [Nat.zero_mul, Nat.add_zero] at this, Ex.Row.of fun i hi => ?_⟩
    have := h (i + 1) (by simpa using hi)
    have e : o + 5 + i * 5 = o + (i + 1) * 5 := by omega
    rw [e]
    simpa using this
theorem St.Row.addr {w : World} {l : List St} {a : Option Addr} (h : St.Row w l a) (hl : 0 < l.length) : ∃ b o, a = some ⟨b, o, none⟩ := by
  cases l with
  | nil => cases hl
  | cons e es =>
    simp only [St.Row] at h
    obtain ⟨b, o, ha, _⟩ := h
    exact ⟨b, o, ha⟩
/-- A parameter. -/
structure Pm where
  name : Bytes
  typ : Int
deriving DecidableEq
/-- The slice a, l, cap holds these parameters. -/
structure Pms (w : World) (l : List Pm) (a : Option Addr) (cap : Nat) : Prop where
  len : l.length ≤ cap
  cap : cap ≤ maxLen
  addr : 0 < l.length → ∃ b o, a = some ⟨b, o, none⟩
  at_ : ∀ (b o : Nat), a = some ⟨b, o, none⟩ → ∀ (i : Nat) (h : i < l.length), w.cell? ⟨b, o + i * 2, none⟩ = some (.string ⟨l[i].name.toArray⟩) ∧ w.cell? ⟨b, o + i * 2 + 1, none⟩ = some (.int .i64 l[i].typ)
  wf : ∀ p ∈ l, p.name.length ≤ maxLen ∧ I64 p.typ
theorem Pms.has {w w' : World} {l : List Pm} {a : Option Addr} {cap : Nat} (h : Pms w l a cap) (hh : Has w w') : Pms w' l a cap :=
  ⟨h.len, h.cap, h.addr, fun b o e i hi => ⟨hh _ _ _ (h.at_ b o e i hi).1, hh _ _ _ (h.at_ b o e i hi).2⟩, h.wf⟩
/-- A function. -/
structure Fn where
  name : Bytes
  params : List Pm
  result : Int
  body : List St
  count : Int
structure FnWf (f : Fn) (cb : Nat) : Prop where
  s : f.name.length ≤ maxLen
  r : I64 f.result
  lb : f.body.length ≤ cb
  cb : cb ≤ maxLen
  c : I64 f.count
/-- The value v is the function f. -/
def Fn.Val (w : World) (f : Fn) (v : Value) : Prop :=
  ∃ (pp pb : Option Addr) (cp cb : Nat), v = .agg #[.string ⟨f.name.toArray⟩, .slice pp f.params.length cp, .int .i64 f.result, .slice pb f.body.length cb, .int .i64 f.count] ∧ FnWf f cb ∧ Pms w f.params pp cp ∧ St.Row w f.body pb
/-- The function lies in the five cells from o of block b on. -/
def Fn.At (w : World) (f : Fn) (b o : Nat) : Prop :=
  ∃ (pp pb : Option Addr) (cp cb : Nat), w.cell? ⟨b, o, none⟩ = some (.string ⟨f.name.toArray⟩) ∧ w.cell? ⟨b, o + 1, none⟩ = some (.slice pp f.params.length cp) ∧ w.cell? ⟨b, o + 2, none⟩ = some (.int .i64 f.result) ∧
    w.cell? ⟨b, o + 3, none⟩ = some (.slice pb f.body.length cb) ∧ w.cell? ⟨b, o + 4, none⟩ = some (.int .i64 f.count) ∧ FnWf f cb ∧ Pms w f.params pp cp ∧ St.Row w f.body pb
theorem Fn.Val.has {w w' : World} {f : Fn} {v : Value} (h : Fn.Val w f v) (hh : Has w w') : Fn.Val w' f v := by
  obtain ⟨pp, pb, cp, cb, hv, hw, hp, hr⟩ := h
  exact ⟨pp, pb, cp, cb, hv, hw, hp.has hh, hr.has hh⟩
theorem Fn.At.has {w w' : World} {f : Fn} {b o : Nat} (h : Fn.At w f b o) (hh : Has w w') : Fn.At w' f b o := by
  obtain ⟨pp, pb, cp, cb, h0, h1, h2, h3, h4, hw, hp, hr⟩ := h
  exact ⟨pp, pb, cp, cb, hh _ _ _ h0, hh _ _ _ h1, hh _ _ _ h2, hh _ _ _ h3, hh _ _ _ h4, hw, hp.has hh, hr.has hh⟩
/-- The slice a, l, cap holds these functions. -/
structure Fns (w : World) (l : List Fn) (a : Option Addr) (cap : Nat) : Prop where
  len : l.length ≤ cap
  cap : cap ≤ maxLen
  addr : 0 < l.length → ∃ b o, a = some ⟨b, o, none⟩
  at_ : ∀ (b o : Nat), a = some ⟨b, o, none⟩ → ∀ (i : Nat) (h : i < l.length), Fn.At w l[i] b (o + i * 5)
theorem Fns.has {w w' : World} {l : List Fn} {a : Option Addr} {cap : Nat} (h : Fns w l a cap) (hh : Has w w') : Fns w' l a cap :=
  ⟨h.len, h.cap, h.addr, fun b o e i hi => (h.at_ b o e i hi).has hh⟩
theorem Fn.Val.keep {w w' : World} {B : Nat} {f : Fn} {v : Value} (h : Fn.Val w f v) (hb : Below B w w') (hB : w.heap.size ≤ B) : Fn.Val w' f v := h.has (has_keep hb hB)
theorem Fns.keep {w w' : World} {B : Nat} {l : List Fn} {a : Option Addr} {cap : Nat} (h : Fns w l a cap) (hb : Below B w w') (hB : w.heap.size ≤ B) : Fns w' l a cap := h.has (has_keep hb hB)
theorem Pms.keep {w w' : World} {B : Nat} {l : List Pm} {a : Option Addr} {cap : Nat} (h : Pms w l a cap) (hb : Below B w w') (hB : w.heap.size ≤ B) : Pms w' l a cap := h.has (has_keep hb hB)
end Go.Proofs.YtccgpmncpemmdaaDoor
