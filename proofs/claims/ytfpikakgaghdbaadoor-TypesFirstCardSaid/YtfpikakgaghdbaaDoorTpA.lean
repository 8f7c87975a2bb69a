/- rewindlaw11.list answers the variables of a draft, for every list of declarations in memory. -/
import Derived.Test.YtfpikakgaghdbaaDoorOw2
import Derived.Test.YtfpikakgaghdbaaDoorTyD
import Derived.Deep.RegionHeld3
namespace Go.Proofs.YtfpikakgaghdbaaDoor
open Go Go.RowKit
set_option linter.unusedSimpArgs false
set_option linter.unusedVariables false
set_option linter.unnecessarySimpa false
/-- A declaration by numbers. -/
structure Dc where
  t : Nat
  f : Nat
  u : Nat
/-- The slice a, l, cap holds these declarations. -/
structure Dcs (w : World) (l : List Dc) (a : Option Addr) (cap : Nat) : Prop where
  len : l.length ≤ cap
  cap : cap ≤ maxLen
  addr : 0 < l.length → ∃ b o, a = some ⟨b, o, none⟩
  at_ : ∀ (b o : Nat), a = some ⟨b, o, none⟩ → ∀ (i : Nat) (h : i < l.length), (l[i].t ≤ 255 ∧ l[i].f ≤ 255 ∧ l[i].u ≤ 255) ∧ w.cell? ⟨b, o + i * 3, none⟩ = some (.int .u8 (l[i].t : Nat)) ∧ w.cell? ⟨b, o + i * 3 + 1, none⟩ = some (.int .u8 (l[i].f : Nat)) ∧ w.cell? ⟨b, o + i * 3 + 2, none⟩ = some (.int .u8 (l[i].u : Nat))
theorem Dcs.has {w w' : World} {l : List Dc} {a : Option Addr} {cap : Nat} (h : Dcs w l a cap) (hh : Has w w') : Dcs w' l a cap :=
  ⟨h.len, h.cap, h.addr, fun b o e i hi => ⟨(h.at_ b o e i hi).1, hh _ _ _ (h.at_ b o e i hi).2.1, hh _ _ _ (h.at_ b o e i hi).2.2.1, hh _ _ _ (h.at_ b o e i hi).2.2.2⟩⟩
def dcV (i : Nat) (d : Dc) : Vr := ⟨nm5[i]!, 1 + (d.t % 3 : Nat), i, (d.f % 8 : Nat), (d.u % 16 : Nat)⟩
def listM (l : List Dc) : Nat → List Vr
  | 0 => []
  | k + 1 => match l[k]? with | some d => listM l k ++ [dcV k d] | none => listM l k
/-- The variables of a draft. -/
def varsD (l : List Dc) : List Vr := listM l (min l.length 5)
theorem listM_len (l : List Dc) : ∀ k, k ≤ l.length → (listM l k).length = k
  | 0, _ => rfl
  | k + 1, h => by rw [listM, List.getElem?_eq_getElem (by omega)]; simp [listM_len l k (by omega)]
theorem listM_typ (l : List Dc) : ∀ k, ∀ v ∈ listM l k, 1 ≤ v.typ ∧ v.typ ≤ 3
  | 0 => by simp [listM]
  | k + 1 => by
    intro v hv
    rw [listM] at hv
    split at hv
    · rcases List.mem_append.1 hv with hv | hv
      · exact listM_typ l k v hv
      · simp only [List.mem_singleton] at hv
        subst hv
        simp only [dcV]
        omega
    · exact listM_typ l k v hv
/-- The cells of a variable. -/
def VrC (_ : World) (v : Vr) (c : List Value) : Prop := c = [.string ⟨v.name.toArray⟩, .int .i64 v.typ, .int .i64 v.no, .int .i64 v.frm, .int .i64 v.til] ∧ v.wf
theorem VrC.mono : Mono VrC := fun _ _ _ _ _ h => h
theorem OwnL.vrs {w : World} {base : Nat} {t : TypeId} {v : Value} {l : List Vr} (h : OwnL w base t 5 VrC [] v l) : ∃ a cap, v = .slice a l.length cap ∧ Vrs w l a cap := by
  have h0 := h
  have hwf : ∀ p ∈ l, p.wf := fun p hp => by
    obtain ⟨xs, _, hcut⟩ := h0
    obtain ⟨i, hi, rfl⟩ := List.mem_iff_getElem.1 hp
    obtain ⟨c, hc, _⟩ := hcut.get i hi
    exact hc.2
  rcases h.form with ⟨rfl, rfl⟩ | ⟨g, cap, rfl, hbg, _, h1, h2⟩
  · exact ⟨none, 0, rfl, ⟨Nat.le_refl _, Nat.zero_le _, by simp, by simp, fun b o e => by cases e⟩⟩
  · refine ⟨_, cap, rfl, ⟨h1, h2, hwf, fun _ => ⟨_, _, rfl⟩, fun b o e i hi => ?_⟩⟩
    simp only [Option.some.injEq, Addr.mk.injEq, and_true] at e
    obtain ⟨rfl, rfl⟩ := e
    obtain ⟨_, _, c, ⟨rfl, _⟩, _, _, hcell⟩ := h0.get VrC.mono rfl i hi
    rw [Nat.zero_add]
    exact ⟨hcell 0 _ rfl, hcell 1 _ rfl, hcell 2 _ rfl, hcell 3 _ rfl, hcell 4 _ rfl⟩
theorem info_vr : (Tryd.prog.info? 47).map (fun i => (i.zero, i.size, i.bytes)) = some (some (.agg #[.string ⟨#[]⟩, .int .i64 0, .int .i64 0, .int .i64 0, .int .i64 0]), 5, 48) := by kernel_rfl
end Go.Proofs.YtfpikakgaghdbaaDoor
