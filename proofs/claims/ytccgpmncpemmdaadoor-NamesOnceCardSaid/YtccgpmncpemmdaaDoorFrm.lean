/- Worlds in which some blocks are left out; what is kept where only some blocks, and new ones, may have turned. -/
import Derived.Test.YtccgpmncpemmdaaDoorShC
import Derived.Lib.Walk
namespace Go.Proofs.YtccgpmncpemmdaaDoor
open Go Go.RowKit
set_option linter.unusedSimpArgs false
set_option linter.unusedVariables false
set_option linter.unnecessarySimpa false
/-- The world without the cells of some blocks. -/
def av (l : List Nat) (w : World) : World := { w with heap := w.heap.mapIdx fun i o => if i ∈ l then .cells #[] 0 (0, 0) else o }
theorem av_cell {l : List Nat} {w : World} {b o : Nat} {v : Value} : (av l w).cell? ⟨b, o, none⟩ = some v ↔ b ∉ l ∧ w.cell? ⟨b, o, none⟩ = some v := by
  unfold World.cell? av
  simp only [Array.getElem?_mapIdx]
  cases h : w.heap[b]? with
  | none => simp
  | some x =>
    by_cases hb : b ∈ l
    · simp [hb]
    · simp [hb]
/-- Whatever cell the one world has, the other has. -/
def Has (w w' : World) : Prop := ∀ (b o : Nat) (v : Value), w.cell? ⟨b, o, none⟩ = some v → w'.cell? ⟨b, o, none⟩ = some v
theorem Has.tr {a b c : World} (h : Has a b) (k : Has b c) : Has a c := fun x y v hv => k x y v (h x y v hv)
theorem Has.rfl {a : World} : Has a a := fun _ _ _ h => h
/-- Of what was there, only the blocks of a list may have turned. -/
structure Kept (l : List Nat) (w w' : World) : Prop where
  os : w'.os = w.os
  tape : w'.tape = w.tape
  output : w'.output = w.output
  size : w.heap.size ≤ w'.heap.size
  block : ∀ k, k < w.heap.size → k ∉ l → w'.heap[k]? = w.heap[k]?
theorem Kept.refl (l : List Nat) (w : World) : Kept l w w := ⟨rfl, rfl, rfl, Nat.le_refl _, fun _ _ _ => rfl⟩
theorem Kept.tr {l : List Nat} {a b c : World} (h : Kept l a b) (k : Kept l b c) : Kept l a c :=
  ⟨k.os.trans h.os, k.tape.trans h.tape, k.output.trans h.output, Nat.le_trans h.size k.size, fun i hi hn => (k.block i (Nat.lt_of_lt_of_le hi h.size) hn).trans (h.block i hi hn)⟩
theorem Kept.sub {l m : List Nat} {a b : World} (h : Kept l a b) (hs : ∀ g ∈ l, g ∈ m ∨ a.heap.size ≤ g) : Kept m a b :=
  ⟨h.os, h.tape, h.output, h.size, fun k hk hn => h.block k hk fun hg => (hs k hg).elim hn (fun h => by omega)⟩
theorem Kept.trNew {l m : List Nat} {a b c : World} (h : Kept l a b) (k : Kept m b c) (hm : ∀ g ∈ m, g ∈ l ∨ a.heap.size ≤ g) : Kept l a c :=
  ⟨k.os.trans h.os, k.tape.trans h.tape, k.output.trans h.output, Nat.le_trans h.size k.size, fun i hi hn => (k.block i (Nat.lt_of_lt_of_le hi h.size) (fun hg => (hm i hg).elim hn (fun h => by omega))).trans (h.block i hi hn)⟩
theorem kept_below {l : List Nat} {a b : World} (h : Below a.heap.size a b) : Kept l a b := ⟨h.os, h.tape, h.output, h.size, fun k hk _ => h.block k hk⟩
theorem Kept.below {l : List Nat} {w0 a b : World} (h : Kept l a b) (hb : Below w0.heap.size w0 a) (hs : ∀ g ∈ l, w0.heap.size ≤ g) : Below w0.heap.size w0 b :=
  ⟨h.os.trans hb.os, h.tape.trans hb.tape, h.output.trans hb.output, Nat.le_trans hb.size h.size, fun k hk => (h.block k (Nat.lt_of_lt_of_le hk hb.size) (fun hg => by have := hs k hg; omega)).trans (hb.block k hk)⟩
theorem Kept.st {l : List Nat} {a b c : World} (h : Kept l a b) (hb : Below b.heap.size b c) : Kept l a c := h.tr (kept_below hb)
theorem Kept.al {l : List Nat} {a b : World} (h : Kept l a b) (o : Obj) : Kept l a (b.alloc o) := h.st ((bl b).al o)
theorem Kept.dn {l : List Nat} {a b : World} (h : Kept l a b) (n : Nat) : Kept l a (b.drewN n) := ⟨h.os, h.tape, h.output, h.size, h.block⟩
theorem Kept.dr {l : List Nat} {a b : World} (h : Kept l a b) : Kept l a b.drew := ⟨h.os, h.tape, h.output, h.size, h.block⟩
theorem Kept.set {l : List Nat} {a b : World} (h : Kept l a b) {g : Nat} (hg : g ∈ l ∨ a.heap.size ≤ g) (i : Nat) (u : Value) : Kept l a (b.setCell ⟨g, i, none⟩ u) :=
  ⟨h.os, h.tape, h.output, by simpa [World.setCell] using h.size, fun k hk hn => (Below.heap_setCell b _ u k (by
    rintro rfl
    rcases hg with hg | hg
    · exact hn hg
    · exact absurd hk (Nat.not_lt.2 hg))).trans (h.block k hk hn)⟩
theorem Kept.grown {l : List Nat} {a b c : World} {row : Option Nat} (h : Kept l a b) (hg : b.grownBy c row) (hr : ∀ k, row = some k → k ∈ l ∨ a.heap.size ≤ k) : Kept l a c :=
  ⟨hg.os.trans h.os, hg.tape.trans h.tape, hg.output.trans h.output, Nat.le_trans h.size hg.size, fun k hk hn => (hg.block k (Nat.lt_of_lt_of_le hk h.size) (fun e => by
    rcases hr k e.symm with h' | h'
    · exact hn h'
    · omega)).trans (h.block k hk hn)⟩
theorem Kept.cell {l : List Nat} {w w' : World} (h : Kept l w w') {b o : Nat} {v : Value} (hb : b ∉ l) (hc : w.cell? ⟨b, o, none⟩ = some v) : w'.cell? ⟨b, o, none⟩ = some v := by
  have hlt := cell_lt hc
  unfold World.cell? at *
  rw [h.block b hlt hb]
  exact hc
theorem Kept.heap {l : List Nat} {w w' : World} (h : Kept l w w') {b : Nat} {o : Obj} (hb : b ∉ l) (hc : w.heap[b]? = some o) : w'.heap[b]? = some o := by
  rw [h.block b (Array.getElem?_eq_some_iff.1 hc).1 hb]
  exact hc
theorem Kept.nil {w w' : World} (h : Kept [] w w') : Below w.heap.size w w' := ⟨h.os, h.tape, h.output, h.size, fun k hk => h.block k hk (by simp)⟩
theorem has_av {l : List Nat} {w : World} : Has (av l w) w := fun _ _ _ h => (av_cell.1 h).2
theorem has_sub {l m : List Nat} {w : World} (h : ∀ g ∈ m, g ∈ l) : Has (av l w) (av m w) := fun _ _ _ hv => av_cell.2 ⟨fun hg => (av_cell.1 hv).1 (h _ hg), (av_cell.1 hv).2⟩
theorem has_kept {l : List Nat} {w w' : World} (h : Kept l w w') : Has (av l w) (av l w') := fun _ _ _ hv => av_cell.2 ⟨(av_cell.1 hv).1, h.cell (av_cell.1 hv).1 (av_cell.1 hv).2⟩
theorem has_below {w w' : World} (h : Below w.heap.size w w') : Has w w' := fun _ _ _ hv => cell_keep hv h (Nat.le_refl _)
theorem has_av_below {l : List Nat} {w w' : World} (h : Below w.heap.size w w') : Has (av l w) (av l w') := has_kept (kept_below h)
theorem has_new {l : List Nat} {w : World} (h : ∀ g ∈ l, w.heap.size ≤ g) : Has w (av l w) := fun b o v hv => av_cell.2 ⟨fun hg => by have h1 := cell_lt hv; have h2 := h b hg; simp only at h1; omega, hv⟩
/-- One block more is left out, which was not yet there. -/
theorem has_more {l m : List Nat} {w : World} (h : ∀ g ∈ m, g ∈ l ∨ w.heap.size ≤ g) : Has (av l w) (av m w) := fun b o v hv => av_cell.2 ⟨fun hg => by
  rcases h b hg with h' | h'
  · exact (av_cell.1 hv).1 h'
  · have h1 := cell_lt (av_cell.1 hv).2
    simp only at h1
    omega, (av_cell.1 hv).2⟩
mutual
theorem Ex.At.has {w w' : World} (hh : Has w w') : ∀ {e : Ex} {b o : Nat}, Ex.At w e b o → Ex.At w' e b o
  | .mk k p n s es, b, o, h => by
    simp only [Ex.At] at h ⊢
    obtain ⟨a, cap, h0, h1, h2, h3, h4, hw, hr⟩ := h
    exact ⟨a, cap, hh _ _ _ h0, hh _ _ _ h1, hh _ _ _ h2, hh _ _ _ h3, hh _ _ _ h4, hw, Ex.Row.has hh hr⟩
theorem Ex.Row.has {w w' : World} (hh : Has w w') : ∀ {l : List Ex} {a : Option Addr}, Ex.Row w l a → Ex.Row w' l a
  | [], _, _ => by simp only [Ex.Row]
  | e :: es, a, h => by
    simp only [Ex.Row] at h ⊢
    obtain ⟨b, o, ha, he, hr⟩ := h
    exact ⟨b, o, ha, Ex.At.has hh he, Ex.Row.has hh hr⟩
end
theorem Ex.Val.has {w w' : World} {e : Ex} {v : Value} (h : Ex.Val w e v) (hh : Has w w') : Ex.Val w' e v := by
  obtain ⟨a, cap, hv, hw, hr⟩ := h
  exact ⟨a, cap, hv, hw, hr.has hh⟩
theorem cell_at {w : World} {g j : Nat} {C : Array Value} {t : TypeId} {z : Nat × Nat} {v : Value} (h : w.heap[g]? = some (.cells C t z)) (hv : C[j]? = some v) : w.cell? ⟨g, j, none⟩ = some v := by
  unfold World.cell?
  simp only [h]
  simpa using hv
theorem free_at {w : World} {g j : Nat} {C : Array Value} {t : TypeId} (h : w.heap[g]? = some (.cells C t (0, 0))) : w.frozen? ⟨g, j, none⟩ = false := by
  unfold World.frozen?
  simp only [h]
  simp
/-- A cell of a block that is known whole is written. -/
theorem heap_set {w : World} {g i : Nat} {C : Array Value} {t : TypeId} {z : Nat × Nat} (h : w.heap[g]? = some (.cells C t z)) (u : Value) : (w.setCell ⟨g, i, none⟩ u).heap[g]? = some (.cells (C.setIfInBounds i u) t z) := by
  simp only [World.setCell, Array.getElem?_modify, if_true, h, Option.map_some]
  rfl
theorem below_of_kept {l : List Nat} {n : Nat} {a b : World} (h : Kept l a b) (hl : ∀ g ∈ l, n ≤ g) (hn : n ≤ a.heap.size) : Below n a b := ⟨h.os, h.tape, h.output, h.size, fun k hk => h.block k (by omega) (fun hg => by have := hl k hg; omega)⟩
theorem has_av_belowN {l : List Nat} {w w' : World} {n : Nat} (h : Below n w w') (hn : w.heap.size ≤ n) : Has (av l w) (av l w') := has_av_below (h.mono hn)
end Go.Proofs.YtccgpmncpemmdaaDoor
