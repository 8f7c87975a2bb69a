/- Slices of numbers in memory. -/
import Derived.Test.YtccgpmncpemmdaaDoorOwn
namespace Go.Proofs.YtccgpmncpemmdaaDoor
open Go Go.RowKit
set_option linter.unusedSimpArgs false
set_option linter.unusedVariables false
set_option linter.unnecessarySimpa false
/-- The slice a, l, cap holds these numbers. -/
structure Ints (w : World) (l : List Int) (a : Option Addr) (cap : Nat) : Prop where
  len : l.length ≤ cap
  cap : cap ≤ maxLen
  addr : 0 < l.length → ∃ b o, a = some ⟨b, o, none⟩
  at_ : ∀ (b o : Nat), a = some ⟨b, o, none⟩ → ∀ (i : Nat) (h : i < l.length), w.cell? ⟨b, o + i, none⟩ = some (.int .i64 l[i])
theorem Ints.has {w w' : World} {l : List Int} {a : Option Addr} {cap : Nat} (h : Ints w l a cap) (hh : Has w w') : Ints w' l a cap :=
  ⟨h.len, h.cap, h.addr, fun b o e i hi => hh _ _ _ (h.at_ b o e i hi)⟩
theorem Ints.keep {w w' : World} {B : Nat} {l : List Int} {a : Option Addr} {cap : Nat} (h : Ints w l a cap) (hb : Below B w w') (hB : w.heap.size ≤ B) : Ints w' l a cap :=
  ⟨h.len, h.cap, h.addr, fun b o e i hi => cell_keep (h.at_ b o e i hi) hb hB⟩
theorem Ints.nil (w : World) : Ints w [] none 0 := ⟨Nat.le_refl _, Nat.zero_le _, by simp, fun b o e => by cases e⟩
theorem Ints.alloc (w : World) (l : List Int) (t : TypeId) (n : Nat) (h : l.length ≤ maxLen) (hn : n = w.heap.size) : Ints (w.alloc (.cells (l.map (Value.int .i64)).toArray t)) l (some ⟨n, 0, .none⟩) l.length := by
  subst hn
  exact ⟨Nat.le_refl _, h, fun _ => ⟨_, _, rfl⟩, fun b o e i hi => by
    simp only [Option.some.injEq, Addr.mk.injEq, and_true] at e
    obtain ⟨rfl, rfl⟩ := e
    rw [Nat.zero_add]
    exact cell_of_list _ _ _ _ _ (by simp [hi])⟩
theorem Ints.tail {w : World} {x : Int} {l : List Int} {b o cap : Nat} (h : Ints w (x :: l) (some ⟨b, o, .none⟩) (cap + 1)) : Ints w l (some ⟨b, o + 1, .none⟩) cap :=
  ⟨by have := h.len; simp at this; exact this, by have := h.cap; omega, fun _ => ⟨_, _, rfl⟩, fun b' o' e i hi => by
    simp only [Option.some.injEq, Addr.mk.injEq, and_true] at e
    obtain ⟨rfl, rfl⟩ := e
    have h1 := h.at_ b o rfl (i + 1) (by simpa using hi)
    rw [show o + 1 + i = o + (i + 1) by omega]
    simpa using h1⟩
/-- The cell of a number. -/
def InC (_ : World) (n : Int) (c : List Value) : Prop := c = [.int .i64 n]
theorem InC.mono : Mono InC := fun _ _ _ _ _ h => h
theorem InC.one {W : World} {a : Int} {c : List Value} (h : InC W a c) : ∀ u ∈ c, u.oneCell' = true := by
  rw [show c = _ from h]
  simp [Value.oneCell']
theorem OwnL.ints {w : World} {base : Nat} {t : TypeId} {ban : List Nat} {v : Value} {l : List Int} (h : OwnL w base t 1 InC ban v l) (hb : ∀ g ∈ ban, g < base) : ∃ a cap, v = .slice a l.length cap ∧ Ints (av ban w) l a cap := by
  have h0 := h
  rcases h.form with ⟨rfl, rfl⟩ | ⟨g, cap, rfl, hbg, _, h1, h2⟩
  · exact ⟨_, 0, rfl, Ints.nil _⟩
  · refine ⟨_, cap, rfl, h1, h2, fun _ => ⟨_, _, rfl⟩, fun b o e i hi => ?_⟩
    simp only [Option.some.injEq, Addr.mk.injEq, and_true] at e
    obtain ⟨rfl, rfl⟩ := e
    obtain ⟨_, _, c, hc, _, _, hcell⟩ := h0.get InC.mono rfl i hi
    have hg : g ∉ ban := fun hg => by have := hb g hg; omega
    rw [show c = _ from hc] at hcell
    have := hcell 0 _ rfl
    rw [Nat.zero_add]
    exact av_mk (by simpa using this) hg
theorem info_in : (Tryd.prog.info? 3).map (fun i => (i.zero, i.size, i.bytes)) = some (some (.int .i64 0), 1, 8) := by kernel_rfl
end Go.Proofs.YtccgpmncpemmdaaDoor
