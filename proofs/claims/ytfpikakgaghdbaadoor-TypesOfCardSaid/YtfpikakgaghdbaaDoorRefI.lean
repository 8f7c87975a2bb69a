/- rewindlaw11.few returns some bool for every expression in memory. -/
import Derived.Test.YtfpikakgaghdbaaDoorTyE
namespace Go.Proofs.YtfpikakgaghdbaaDoor
open Go Go.RowKit
theorem Only.cell {g : Nat} {w w' : World} (h : Only g w w') {b o : Nat} {v : Value} (hb : b ≠ g) (hc : w.cell? ⟨b, o, none⟩ = some v) : w'.cell? ⟨b, o, none⟩ = some v := by
  have hlt := cell_lt hc
  unfold World.cell? at *
  rw [h.block b hlt (by intro e; injection e with e; exact hb e)]
  exact hc
theorem Ex.size_lt {e x : Ex} (h : x ∈ e.args) : SizeOf.sizeOf x < SizeOf.sizeOf e := by
  cases e with
  | mk k o n s es =>
    have := List.sizeOf_lt_of_mem h
    simp only [Ex.args, Ex.mk.sizeOf_spec] at *
    omega
def FewPost (g : Nat) (w : World) (e : Ending) (w' : World) : Prop := e = .returned (.tuple #[]) ∧ (∃ N, Blk w' g [N]) ∧ Only g w w'
set_option maxHeartbeats 4000000 in
theorem few1_any (w0 : World) (nb mb lb : Nat) (M : Int) (hnb : w0.heap.size ≤ nb) (hmb : mb ≠ nb) (hlb : lb ≠ nb) : ∀ (z : Nat) (e : Ex) (v : Value) (w : World) (N : Int), SizeOf.sizeOf e < z → Ex.Val w0 e v → Below w0.heap.size w0 w → Blk w nb [N] →
    w.cell? ⟨mb, 0, none⟩ = some (.int .i64 M) → w.cell? ⟨lb, 0, none⟩ = some (.func (.func 38) #[] #[.pointer (some ⟨nb, 0, none⟩), .pointer (some ⟨mb, 0, none⟩), .pointer (some ⟨lb, 0, none⟩)]) →
    Calls Tryd.prog 38 #[v, .pointer (some ⟨nb, 0, none⟩), .pointer (some ⟨mb, 0, none⟩), .pointer (some ⟨lb, 0, none⟩)] w (FewPost nb w) := by
  intro z
  induction z with
  | zero => intro e v w N h; exact absurd h (Nat.not_lt_zero _)
  | succ z ih =>
    intro e v w N hz hv hw0 hblk hM hL
    obtain ⟨a, cap, rfl, hw, hr⟩ := hv
    have hlen : e.args.length ≤ 9223372036854775807 := Nat.le_trans hw.len hw.cap
    have IH := hide ih
    have HR := hide hr
    have hnl := hblk.lt
    have hml := cell_lt hM
    have hll := cell_lt hL
    simp only at hml hll
    have HM := hide hM
    have HL := hide hL
    have HB := hide hblk
    clear ih hr hw hM hL hblk
    have hsz : ∀ (k : Nat) (h : k < e.args.length), SizeOf.sizeOf e.args[k] < z := fun k h => by
      have := Ex.size_lt (List.getElem_mem h); omega
    have HSZ := hide hsz
    clear hsz
    go_enter Tryd.func38, Tryd.ntmps38
    go_wp2_with fail
    go_loopw [10] (fun i wr => ∃ (k : Nat) (N' : Int), k ≤ e.args.length ∧ i = .int .i64 k ∧ Blk wr nb [N'] ∧ Only nb w wr) (fun i _ => e.args.length - (intOf i).toNat)
    case atStart => exact ⟨0, N, Nat.zero_le _, rfl, HB.out.keep ((bl w).al _), (Only.refl _ _).step ((bl w).al _)⟩
    case round =>
      obtain ⟨k, N', hk, rfl, hblk, hO⟩ := hrel
      have hbr := hO.below hw0 hnb
      by_cases hlt : k < e.args.length
      · obtain ⟨b, ob, rfl⟩ := HR.out.addr (by omega)
        obtain ⟨a', cap', c0, c1, c2, c3, c4, hw', hr'⟩ := (HR.out.get k hlt).val
        have HE := hide (Ex.Val.mk hw' hr')
        clear hw' hr'
        have c0 := cell_keep c0 hbr (Nat.le_refl _)
        have c1 := cell_keep c1 hbr (Nat.le_refl _)
        have c2 := cell_keep c2 hbr (Nat.le_refl _)
        have c3 := cell_keep c3 hbr (Nat.le_refl _)
        have c4 := cell_keep c4 hbr (Nat.le_refl _)
        have hM1 := hO.cell hmb HM.out
        have hL1 := hO.cell hlb HL.out
        have hN1 : wr.cell? ⟨nb, 0, none⟩ = some (.int .i64 N') := hblk.cell 0 (by simp)
        have hN2 : wr.frozen? ⟨nb, 0, none⟩ = false := hblk.free 0
        have hbn : b ≠ nb := fun h => by have := cell_lt (HR.out.get k hlt).val.choose_spec.choose_spec.1; simp at this; omega
        have hnr := hblk.lt
        have hmb2 : nb ≠ mb := fun h => hmb h.symm
        have hlb2 : nb ≠ lb := fun h => hlb h.symm
        have hmr := cell_lt hM1
        have hlr := cell_lt hL1
        simp only at hmr hlr
        have HBLK := hide hblk
        clear hblk
        go_wp2_with fail
        · go_end0
          exact ⟨rfl, ⟨_, (HBLK.out.set 0 _).keep ((bl _).al _)⟩, (hO.set 0 _).step ((bl _).al _)⟩
        · refine (IH.out e.args[k] _ _ _ (HSZ.out k hlt) HE.out ((((hO.set 0 _).step ((bl _).al _))).below hw0 hnb) ((HBLK.out.set 0 _).keep ((bl _).al _)) ?_ ?_).mono ?_
          · go_simp
          · go_simp
          rintro r w2 ⟨rfl, ⟨N2, hB2⟩, hO2⟩
          go_wp2_with fail
          go_roundw
          case rel => exact ⟨k + 1, N2, by omega, by go_num, hB2, ((hO.set 0 _).step ((bl _).al _)).tr hO2⟩
          case measure => simp [intOf]; omega
      · obtain rfl : k = e.args.length := by omega
        go_wp2_with fail
        go_end0
        exact ⟨rfl, ⟨N', hblk⟩, hO⟩
set_option maxHeartbeats 4000000 in
theorem few_any (e : Ex) (v : Value) (w : World) (M : Int) (hv : Ex.Val w e v) :
    Calls Tryd.prog 19 #[v, .int .i64 M] w fun r w' => Hid (∃ b : Bool, r = .returned (.bool b)) ∧ Below w.heap.size w w' := by
  have h1 := fun (nb mb lb : Nat) (hnb : w.heap.size ≤ nb) (hmb : mb ≠ nb) (hlb : lb ≠ nb) (W : World) (N : Int) => few1_any w nb mb lb M hnb hmb hlb _ e v W N (Nat.lt_succ_self _) hv
  obtain ⟨a, cap, rfl, hw, hr⟩ := hv
  have H1 := hide h1
  clear h1 hw hr
  go_enter Tryd.func19, Tryd.ntmps19
  go_wp2_with fail
  refine (H1.out (w.heap.size + 1 + 1) (w.heap.size + 1) (w.heap.size + 1 + 1 + 1) (by omega) (by omega) (by omega) _ 0 (((((bl w).al _).al _).al _).al _) ?_ ?_ ?_).mono ?_
  · refine Blk.keep ?_ ((bl _).al _)
    have h := blk_alloc (((w.alloc (.cells #[.int .i64 e.kind, .int .i64 e.op, .int .i64 e.num, .string ⟨e.name.toArray⟩, .slice a e.args.length cap] 36)).alloc (.cells #[.int .i64 M] 3))) #[.int .i64 0] [0] rfl
    simpa using h
  · go_simp
  · go_simp
  rintro r w2 ⟨rfl, ⟨N2, hB2⟩, hO2⟩
  have hn2 : w2.cell? ⟨w.heap.size + 1 + 1, 0, none⟩ = some (.int .i64 N2) := hB2.cell 0 (by simp)
  have hm2 : w2.cell? ⟨w.heap.size + 1, 0, none⟩ = some (.int .i64 M) := hO2.cell (by omega) (by go_simp)
  have hb2 : Below w.heap.size w w2 := hO2.below (((((bl w).al _).al _).al _).al _) (by omega)
  have hsz : w.heap.size + 1 + 1 < w2.heap.size := hB2.lt
  clear hO2
  go_wp2_with fail
  go_ret
  exact ⟨⟨_, rfl⟩, hb2⟩
end Go.Proofs.YtfpikakgaghdbaaDoor
