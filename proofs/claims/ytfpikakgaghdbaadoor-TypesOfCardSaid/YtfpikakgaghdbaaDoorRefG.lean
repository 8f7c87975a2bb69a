/- rewindlaw11.refs, slices.Clone and slices.Equal on lists of variables in memory. -/
import Derived.Test.YtfpikakgaghdbaaDoorTyF
namespace Go.Proofs.YtfpikakgaghdbaaDoor
open Go Go.RowKit
theorem info_rvar : (Tryd.prog.info? 85).map (fun i => (i.zero, i.size, i.bytes)) = some (some (.agg #[.string ⟨#[]⟩, .int .i64 0, .int .i64 0, .int .i64 0, .int .i64 0]), 5, 48) := by kernel_rfl
theorem info_var : (Tryd.prog.info? 47).map (fun i => (i.zero, i.size, i.bytes)) = some (some (.agg #[.string ⟨#[]⟩, .int .i64 0, .int .i64 0, .int .i64 0, .int .i64 0]), 5, 48) := by kernel_rfl
def Vr.cells' (v : Vr) : List Value := [.string ⟨v.name.toArray⟩, .int .i64 v.typ, .int .i64 v.no, .int .i64 v.frm, .int .i64 v.til]
theorem vr_cells_len (l : List Vr) : (l.flatMap Vr.cells').length = l.length * 5 := by
  induction l with
  | nil => rfl
  | cons v l ih => rw [List.flatMap_cons, List.length_append, ih, show v.cells'.length = 5 from rfl, List.length_cons]; omega
theorem vr_cells_get : ∀ (l : List Vr) (i j : Nat) (v : Value) (h : i < l.length), l[i].cells'[j]? = some v → j < 5 → (l.flatMap Vr.cells')[i * 5 + j]? = some v := by
  intro l
  induction l with
  | nil => intro i j v h; exact absurd h (Nat.not_lt_zero _)
  | cons r l ih =>
    intro i j v h hv hj
    have h5 : r.cells'.length = 5 := rfl
    cases i with
    | zero =>
      rw [List.flatMap_cons, List.getElem?_append_left (by omega)]
      simpa using hv
    | succ i =>
      rw [List.flatMap_cons, List.getElem?_append_right (by omega), h5, show (i + 1) * 5 + j - 5 = i * 5 + j from by omega]
      exact ih i j v (by simpa using h) (by simpa using hv) hj
theorem own_vrs {w : World} {base n : Nat} {e : TypeId} {v : Value} {l : List Vr} (hn : n = l.length) (hw : ∀ v ∈ l, v.wf) (h : w.ownsRow base e 5 v n (l.flatMap Vr.cells')) : ∃ a cap, v = .slice a l.length cap ∧ Vrs w l a cap := by
  subst hn
  obtain ⟨_, ⟨rfl, hn⟩ | ⟨g, cap, cur, rfl, hg, hh, hle, hcap, hsz, htk⟩⟩ := h
  · rw [hn]
    exact ⟨none, 0, rfl, by omega, by unfold maxLen; omega, hw, fun h => by omega, fun b o e => by cases e⟩
  · refine ⟨_, cap, rfl, hle, hcap, hw, fun _ => ⟨_, _, rfl⟩, fun b o e i hi => ?_⟩
    simp only [Option.some.injEq, Addr.mk.injEq, and_true] at e
    obtain ⟨rfl, rfl⟩ := e
    have key : ∀ (j : Nat) (u : Value), l[i].cells'[j]? = some u → j < 5 → w.cell? ⟨g, i * 5 + j, none⟩ = some u := by
      intro j u hu hj
      have h1 := vr_cells_get l i j u hi hu hj
      rw [← htk, List.getElem?_take_of_lt (by omega)] at h1
      unfold World.cell?
      simp only [hh]
      simpa using h1
    refine ⟨?_, ?_, ?_, ?_, ?_⟩
    · simpa using key 0 _ rfl (by omega)
    · simpa using key 1 _ rfl (by omega)
    · simpa using key 2 _ rfl (by omega)
    · simpa using key 3 _ rfl (by omega)
    · simpa using key 4 _ rfl (by omega)
theorem cell_row (w : World) (xs : List Value) (t : TypeId) (n : Nat) (hn : n = w.heap.size) : ∀ (j : Nat) (u : Value), xs[j]? = some u → (w.alloc (.cells xs.toArray t)).cell? ((⟨n, 0, none⟩ : Addr).add j) = some u := by
  intro j u h
  subst hn
  rw [Addr.add_lit, Nat.zero_add]
  exact cell_of_list _ _ _ _ _ h
set_option maxHeartbeats 2000000 in
theorem refs_any (l : List Vr) (a : Option Addr) (cap : Nat) (w : World) (hl : Vrs w l a cap) (hsm : l.length ≤ 60) :
    Calls Tryd.prog 22 #[.slice a l.length cap] w fun e w' => Hid (∃ a' cap', e = .returned (.slice a' l.length cap') ∧ Vrs w' l a' cap') ∧ Below w.heap.size w w' := by
  obtain ⟨i0, hi, hz0, hz1, hz2⟩ := info_parts info_rvar
  have hwf := hide hl.wf
  have HL := hide hl
  clear hl
  go_enter Tryd.func22, Tryd.ntmps22
  go_wp2_with fail
  go_loopw [3, 8] (fun v i wr => ∃ k : Nat, k ≤ l.length ∧ i = .int .i64 k ∧ wr.ownsRow w.heap.size 85 5 v k ((l.take k).flatMap Vr.cells') ∧ Below w.heap.size w wr) (fun _ i _ => l.length - (intOf i).toNat)
  case atStart => exact ⟨0, Nat.zero_le _, rfl, by simpa using World.ownsRow_nil _ _ _ _, bl _⟩
  case round =>
    obtain ⟨k, hk, rfl, hown, hb⟩ := hrel
    have HOWN := hide hown
    clear hown
    by_cases hlt : k < l.length
    · obtain ⟨b, o, rfl⟩ := HL.out.addr (by omega)
      obtain ⟨c0, c1, c2, c3, c4⟩ := (HL.out.at_ b o rfl k hlt).keep hb (Nat.le_refl _)
      have HTK := hide (List.take_succ_eq_append_getElem hlt)
      go_wp2_with (at_builtin; refine wpList_append_own _ rfl _ _ 49 rfl w.heap.size 85 i0 (.agg #[.string ⟨#[]⟩, .int .i64 0, .int .i64 0, .int .i64 0, .int .i64 0]) 5 48 Tryd.underlying49 hi hz0 hz1 hz2 rfl (by decide) _ _ _ rfl ((HOWN.out.alloc _).alloc _) ⟨wr.heap.size + 1, 0, none⟩ 1 1 l[k].cells' rfl rfl (cell_row _ _ _ _ (by simp)) (by simp [Vr.cells', Value.oneCell']) (by unfold maxLen; omega) (by omega) (by have := hb.size; simp; omega) ?_; intro v' w3 hown' hgrow _)
      have hb3 : Below w.heap.size w w3 := ((hb.al _).al _).grown hgrow (by have := hb.size; simp; omega) (fun j hj => by have := (HOWN.out.lt j hj).1; omega)
      go_roundw
      case rel =>
        refine ⟨k + 1, by omega, by go_num, ?_, hb3⟩
        rw [HTK.out, List.flatMap_append]
        simpa using hown'
      case measure => simp [intOf]; omega
    · obtain rfl : k = l.length := by omega
      go_wp2_with fail
      go_ret
      have hown := HOWN.out
      rw [List.take_length] at hown
      obtain ⟨a', cap', rfl, hv⟩ := own_vrs rfl hwf.out hown
      exact ⟨⟨a', cap', rfl, hv⟩, hb⟩
end Go.Proofs.YtfpikakgaghdbaaDoor
