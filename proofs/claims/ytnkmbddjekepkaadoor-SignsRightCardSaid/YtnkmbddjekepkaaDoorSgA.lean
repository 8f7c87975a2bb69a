/- Signatures in memory. -/
import Derived.Test.YtnkmbddjekepkaaDoorIn
namespace Go.Proofs.YtnkmbddjekepkaaDoor
open Go Go.RowKit
set_option linter.unusedSimpArgs false
set_option linter.unusedVariables false
set_option linter.unnecessarySimpa false
/-- A signature. -/
structure Sg where
  name : Bytes
  pars : List Int
  res : Int
def Sg.At (w : World) (s : Sg) (b o : Nat) : Prop :=
  ∃ a cap, w.cell? ⟨b, o, none⟩ = some (.string ⟨s.name.toArray⟩) ∧ w.cell? ⟨b, o + 1, none⟩ = some (.slice a s.pars.length cap) ∧ w.cell? ⟨b, o + 2, none⟩ = some (.int .i64 s.res) ∧ Ints w s.pars a cap
def Sg.wf (s : Sg) : Prop := s.name.length ≤ maxLen ∧ I64 s.res ∧ ∀ p ∈ s.pars, I64 p
/-- The value v is the signature. -/
def Sg.Val (w : World) (s : Sg) (v : Value) : Prop := ∃ a cap, v = .agg #[.string ⟨s.name.toArray⟩, .slice a s.pars.length cap, .int .i64 s.res] ∧ Ints w s.pars a cap
theorem Sg.At.has {w w' : World} {s : Sg} {b o : Nat} (h : s.At w b o) (hh : Has w w') : s.At w' b o := by
  obtain ⟨a, cap, h1, h2, h3, h4⟩ := h
  exact ⟨a, cap, hh _ _ _ h1, hh _ _ _ h2, hh _ _ _ h3, h4.has hh⟩
theorem Sg.Val.has {w w' : World} {s : Sg} {v : Value} (h : s.Val w v) (hh : Has w w') : s.Val w' v := by
  obtain ⟨a, cap, h1, h4⟩ := h
  exact ⟨a, cap, h1, h4.has hh⟩
theorem Sg.Val.keep {w w' : World} {B : Nat} {s : Sg} {v : Value} (h : s.Val w v) (hb : Below B w w') (hB : w.heap.size ≤ B) : s.Val w' v := h.has (has_keep hb hB)
/-- The slice a, l, cap holds these signatures. -/
structure Sgs (w : World) (l : List Sg) (a : Option Addr) (cap : Nat) : Prop where
  len : l.length ≤ cap
  cap : cap ≤ maxLen
  wf : ∀ s ∈ l, s.wf
  addr : 0 < l.length → ∃ b o, a = some ⟨b, o, none⟩
  at_ : ∀ (b o : Nat), a = some ⟨b, o, none⟩ → ∀ (i : Nat) (h : i < l.length), l[i].At w b (o + i * 3)
theorem Sgs.has {w w' : World} {l : List Sg} {a : Option Addr} {cap : Nat} (h : Sgs w l a cap) (hh : Has w w') : Sgs w' l a cap :=
  ⟨h.len, h.cap, h.wf, h.addr, fun b o e i hi => (h.at_ b o e i hi).has hh⟩
theorem Sgs.keep {w w' : World} {B : Nat} {l : List Sg} {a : Option Addr} {cap : Nat} (h : Sgs w l a cap) (hb : Below B w w') (hB : w.heap.size ≤ B) : Sgs w' l a cap := h.has (has_keep hb hB)
theorem Sgs.nil (w : World) : Sgs w [] none 0 := ⟨Nat.le_refl _, Nat.zero_le _, by simp, by simp, fun b o e => by cases e⟩
/-- The cells of a signature. -/
def SgC (w : World) (s : Sg) (c : List Value) : Prop := ∃ (a : Option Addr) (cap : Nat), c = [.string ⟨s.name.toArray⟩, .slice a s.pars.length cap, .int .i64 s.res] ∧ s.wf ∧ Ints w s.pars a cap
theorem SgC.mono : Mono SgC := fun _ _ _ _ hh ⟨a, cap, h1, h2, h3⟩ => ⟨a, cap, h1, h2, h3.has hh⟩
theorem SgC.one {W : World} {s : Sg} {c : List Value} (h : SgC W s c) : ∀ u ∈ c, u.oneCell' = true := by
  obtain ⟨_, _, rfl, _⟩ := h
  simp [Value.oneCell']
theorem OwnL.sgs {w : World} {base : Nat} {t : TypeId} {ban : List Nat} {v : Value} {l : List Sg} (h : OwnL w base t 3 SgC ban v l) (hb : ∀ g ∈ ban, g < base) : ∃ a cap, v = .slice a l.length cap ∧ Sgs (av ban w) l a cap := by
  have h0 := h
  have hwf : ∀ p ∈ l, p.wf := fun p hp => by
    obtain ⟨xs, _, hcut⟩ := h0
    obtain ⟨i, hi, rfl⟩ := List.mem_iff_getElem.1 hp
    obtain ⟨c, ⟨_, _, _, h, _⟩, _⟩ := hcut.get i hi
    exact h
  rcases h.form with ⟨rfl, rfl⟩ | ⟨g, cap, rfl, hbg, _, h1, h2⟩
  · exact ⟨_, 0, rfl, Sgs.nil _⟩
  · refine ⟨_, cap, rfl, h1, h2, hwf, fun _ => ⟨_, _, rfl⟩, fun b o e i hi => ?_⟩
    simp only [Option.some.injEq, Addr.mk.injEq, and_true] at e
    obtain ⟨rfl, rfl⟩ := e
    obtain ⟨_, _, c, ⟨a, cp, rfl, _, hr⟩, _, _, hcell⟩ := h0.get SgC.mono rfl i hi
    have hg : g ∉ ban := fun hg => by have := hb g hg; omega
    rw [Nat.zero_add]
    exact ⟨a, cp, av_mk (hcell 0 _ rfl) hg, av_mk (hcell 1 _ rfl) hg, av_mk (hcell 2 _ rfl) hg, hr⟩
/-! ### the plain words -/
def sgOf (f : Fn) : Sg := ⟨f.name, f.params.map (·.typ), f.result⟩
def findSg (l : List Sg) (n : Bytes) : Option Sg := l.find? fun s => decide (s.name = n)
def noSg : Sg := ⟨[], [], 0⟩
def sameSg (s t : Sg) : Bool := decide (s.name = t.name) && decide (s.pars = t.pars) && decide (s.res = t.res)
def callM (l : List Sg) (n : Bytes) (args : List Int) (target : Int) : Int :=
  match findSg l n with
  | none => 11
  | some s => if s.pars ≠ args ∨ (target ≠ 0 ∧ target ≠ s.res) then 12 else 0
/-- The first function whose name one ahead of it has. -/
def dupFrom : List Bytes → List Fn → Nat → Option Nat
  | _, [], _ => none
  | seen, f :: l, i => if f.name ∈ seen then some i else dupFrom (seen ++ [f.name]) l (i + 1)
def mainB : Bytes := [109, 97, 105, 110]
/-- Is there main, without parameters and a result? -/
def mainOk (l : List Fn) : Bool := match findSg (l.map sgOf) mainB with | some s => decide (s.pars = []) && decide (s.res = 0) | none => false
/-- The signatures of functions of the right shape; with an error, the function. -/
def signsM (l : List Fn) : List Sg × Int × Int :=
  match dupFrom [] l 0 with
  | some i => ([], i, 11)
  | none => if mainOk l then (l.map sgOf, 0, 0) else ([], -1, 15)
def wordB (t : Int) : Bytes := if t = 1 then [105, 110, 116] else if t = 2 then [98, 111, 111, 108] else if t = 3 then [97, 114, 114, 97, 121] else []
def typedB (t : Int) : Bool := decide (0 < t) && decide (t < 4)
/-- The words of types, with commas. -/
def joinB : List Bytes → Bytes
  | [] => []
  | [a] => a
  | a :: b :: l => a ++ [44, 32] ++ joinB (b :: l)
end Go.Proofs.YtnkmbddjekepkaaDoor
