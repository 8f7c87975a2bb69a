/- The builders of the examples of chapter 10: rewindlaw10.stmt, num, variable, with. -/
import Derived.Test.YtccgpmncpemmdaaDoorLwN
import Derived.Test.YtccgpmncpemmdaaDoorIn
import Derived.Lib.Walk
namespace Go.Proofs.YtccgpmncpemmdaaDoor
open Go Go.RowKit
set_option linter.unusedSimpArgs false
set_option linter.unusedVariables false
set_option linter.unnecessarySimpa false
theorem exs_newL {w : World} {L : List Nat} {l : List Ex} {xs : List Value} (h : Cut 5 (ExC (av L w)) l xs) (t : TypeId) (n : Nat) (hn : n = w.heap.size) (hL : ∀ g ∈ L, g < w.heap.size) : Ex.Row (av L (w.alloc (.cells xs.toArray t))) l (some ⟨n, 0, none⟩) := by
  subst hn
  refine Ex.Row.of fun i hi => ?_
  obtain ⟨c, ⟨a, cap, rfl, hw, hr⟩, _, hx⟩ := h.get i hi
  have key : ∀ (j : Nat) (v : Value), j < 5 → [Value.int .i64 l[i].kind, .int .i64 l[i].op, .int .i64 l[i].num, .string ⟨l[i].name.toArray⟩, .slice a l[i].args.length cap][j]? = some v → (av L (w.alloc (.cells xs.toArray t))).cell? ⟨w.heap.size, 0 + i * 5 + j, none⟩ = some v := fun j v hj hv => by
    rw [Nat.zero_add]
    exact av_mk (cell_of_list w xs t _ _ ((hx j hj).trans hv)) (fun hg => Nat.lt_irrefl _ (hL _ hg))
  have h0 := key 0 _ (by omega) rfl
  have h1 := key 1 _ (by omega) rfl
  have h2 := key 2 _ (by omega) rfl
  have h3 := key 3 _ (by omega) rfl
  have h4 := key 4 _ (by omega) rfl
  generalize l[i] = e at *
  cases e
  simp only [Ex.At]
  exact ⟨a, cap, h0, h1, h2, h3, h4, hw, hr.has (has_av_below ((bl w).al _))⟩
theorem sts_newL {w : World} {L : List Nat} {l : List St} {xs : List Value} (h : Cut 8 (StC (av L w)) l xs) (t : TypeId) (n : Nat) (hn : n = w.heap.size) (hL : ∀ g ∈ L, g < w.heap.size) : St.Row (av L (w.alloc (.cells xs.toArray t))) l (some ⟨n, 0, none⟩) := by
  subst hn
  refine St.Row.of fun i hi => ?_
  obtain ⟨c, ⟨pa, pb, pe, ca, cb, ce, rfl, hw, h1, h2, h3⟩, _, hx⟩ := h.get i hi
  have key : ∀ (j : Nat) (v : Value), j < 8 → [Value.int .i64 l[i].kind, .int .i64 l[i].no, .string ⟨l[i].name.toArray⟩, .int .i64 l[i].typ, .string ⟨l[i].callee.toArray⟩, .slice pa l[i].args.length ca, .slice pb l[i].body.length cb, .slice pe l[i].els.length ce][j]? = some v → (av L (w.alloc (.cells xs.toArray t))).cell? ⟨w.heap.size, 0 + i * 8 + j, none⟩ = some v := fun j v hj hv => by
    rw [Nat.zero_add]
    exact av_mk (cell_of_list w xs t _ _ ((hx j hj).trans hv)) (fun hg => Nat.lt_irrefl _ (hL _ hg))
  have hb := has_av_below (l := L) ((bl w).al (.cells xs.toArray t))
  exact St.At.of ⟨key 0 _ (by omega) rfl, key 1 _ (by omega) rfl, key 2 _ (by omega) rfl, key 3 _ (by omega) rfl, key 4 _ (by omega) rfl, key 5 _ (by omega) rfl, key 6 _ (by omega) rfl, key 7 _ (by omega) rfl⟩ hw (h1.has hb) (h2.has hb) (h3.has hb)
theorem has_keptL {m L : List Nat} {w w' : World} (h : Kept m w w') : Has (av (m ++ L) w) (av L w') := fun _ _ _ hv =>
  av_cell.2 ⟨fun hg => (av_cell.1 hv).1 (List.mem_append.2 (.inr hg)), h.cell (fun hg => (av_cell.1 hv).1 (List.mem_append.2 (.inl hg))) (av_cell.1 hv).2⟩
theorem has_one {L : List Nat} {w w' : World} (hb : Below w.heap.size w w') (n : Nat) (hn : w.heap.size ≤ n) : Has (av L w) (av (n :: L) w') := fun b o v hv => by
  obtain ⟨h1, h2⟩ := av_cell.1 hv
  have h3 := cell_lt h2
  simp only at h3
  exact av_cell.2 ⟨by simp only [List.mem_cons]; rintro (e | e); omega; exact h1 e, cell_keep h2 hb (Nat.le_refl _)⟩
def nxLess : Ex := .mk 5 8 0 [] [.mk 3 0 0 [99] [], .mk 1 0 1 [] []]
def nxB : List St := [.mk 1 2 [100] 2 [] [] [] [], .mk 6 3 [] 0 [] [.mk 3 0 0 [100] []] [] []]
def nxE : List St := [.mk 1 4 [101] 1 [] [.mk 1 0 2 [] []] [] []]
def nxC : St := .mk 9 1 [] 0 [] [nxLess] nxB nxE
def nxG : List St := [.mk 1 6 [103] 1 [] [] [] [], .mk 2 7 [103] 0 [] [.mk 1 0 1 [] []] [] []]
def nxW : St := .mk 10 5 [] 0 [] [.mk 2 0 1 [] []] nxG []
def nxF : Fn := ⟨[102], [⟨[97], 1⟩, ⟨[98], 3⟩], 0, [.mk 1 0 [99] 1 [] [] [] [], nxC, nxW, .mk 6 8 [] 0 [] [.mk 3 0 0 [99] []] [] []], 9⟩
/-- The cells of an expression without arguments. -/
def eLf (k n : Int) (s : ByteArray) : Value := .agg #[.int .i64 k, .int .i64 0, .int .i64 n, .string s, .slice none 0 0]
def sLf (k no t : Int) (s : ByteArray) : Value := .agg #[.int .i64 k, .int .i64 no, .string s, .int .i64 t, .string ⟨#[]⟩, .slice none 0 0, .slice none 0 0, .slice none 0 0]
set_option maxRecDepth 20000 in
theorem stmt_any (k no t : Int) (s : ByteArray) (w : World) : Calls Tryd.prog 24 #[.int .i64 k, .int .i64 no, .string s, .int .i64 t] w fun r w' => r = .returned (sLf k no t s) ∧ Below w.heap.size w w' := by
  go_enter Tryd.func24, Tryd.ntmps24
  go_wp2_with fail
  exact bodyPost_ret (v := sLf k no t s) (by simp [results, Tryd.results24, go_sem, eLf, sLf]) rfl ⟨rfl, (bl w).al _⟩
theorem num_any (n : Int) (w : World) : Calls Tryd.prog 36 #[.int .i64 n] w fun r w' => r = .returned (eLf 1 n ⟨#[]⟩) ∧ Below w.heap.size w w' := by
  go_enter Tryd.func36, Tryd.ntmps36
  go_wp2_with fail
  exact bodyPost_ret (v := eLf 1 n ⟨#[]⟩) (by simp [results, Tryd.results36, go_sem, eLf, sLf]) rfl ⟨rfl, (bl w).al _⟩
theorem variable_any (s : ByteArray) (w : World) : Calls Tryd.prog 38 #[.string s] w fun r w' => r = .returned (eLf 3 0 s) ∧ Below w.heap.size w w' := by
  go_enter Tryd.func38, Tryd.ntmps38
  go_wp2_with fail
  exact bodyPost_ret (v := eLf 3 0 s) (by simp [results, Tryd.results38, go_sem, eLf, sLf]) rfl ⟨rfl, (bl w).al _⟩
def WithPost (L : List Nat) (k no t : Int) (s : ByteArray) (e : Ex) (w : World) (r : Ending) (w' : World) : Prop :=
  (∃ n, r = .returned (.agg #[.int .i64 k, .int .i64 no, .string s, .int .i64 t, .string ⟨#[]⟩, .slice (some ⟨n, 0, none⟩) 1 1, .slice none 0 0, .slice none 0 0]) ∧ Ex.Row (av L w') [e] (some ⟨n, 0, none⟩)) ∧ Below w.heap.size w w'
set_option maxRecDepth 20000 in
set_option maxHeartbeats 2000000 in
theorem with_any (L : List Nat) (k no t : Int) (s : ByteArray) (e : Ex) (ek eo en : Int) (es : ByteArray) (ea : Option Addr) (el ec : Nat) (w : World) (hL : ∀ g ∈ L, g < w.heap.size)
    (he : Ex.Val (av L w) e (.agg #[.int .i64 ek, .int .i64 eo, .int .i64 en, .string es, .slice ea el ec])) :
    Calls Tryd.prog 37 #[sLf k no t s, .agg #[.int .i64 ek, .int .i64 eo, .int .i64 en, .string es, .slice ea el ec]] w (WithPost L k no t s e w) := by
  unfold sLf
  have HL := hide hL
  have HE := hide he
  clear hL he
  go_enter Tryd.func37, Tryd.ntmps37
  go_wp2_with fail
  refine bodyPost_ret (v := .agg #[.int .i64 k, .int .i64 no, .string s, .int .i64 t, .string ⟨#[]⟩, .slice (some ⟨w.heap.size + 1 + 1 + 1, 0, none⟩) 1 1, .slice none 0 0, .slice none 0 0]) (by simp [results, Tryd.results37, go_sem]) rfl ⟨⟨_, rfl, ?_⟩, (((bl w).al _).al _).al _ |>.al _⟩
  have hb := ((((bl w).al (.cells #[.int .i64 k, .int .i64 no, .string s, .int .i64 t, .string ⟨#[]⟩, .slice (some ⟨w.heap.size + 1 + 1 + 1, 0, none⟩) 1 1, .slice none 0 0, .slice none 0 0] 62)).al (.cells #[.int .i64 ek, .int .i64 eo, .int .i64 en, .string es, .slice ea el ec] 91)).al (.cells #[.int .i64 k, .int .i64 no, .string s, .int .i64 t, .string ⟨#[]⟩, .slice (some ⟨w.heap.size + 1 + 1 + 1, 0, none⟩) 1 1, .slice none 0 0, .slice none 0 0] 62))
  exact exs_newL (cut5 (exC_val (HE.out.has (has_av_below hb))) cutN) 91 _ (by simp) (fun g hg => Nat.lt_of_lt_of_le (HL.out g hg) hb.size)
end Go.Proofs.YtccgpmncpemmdaaDoor
