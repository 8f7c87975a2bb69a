/- The reader of a draft of layer 10: expr answers the model's expression, in new memory, and changes only the reader's own cells. -/
import Derived.Test.YtccgpmncpemmdaaDoorDnB
import Derived.Test.YtccgpmncpemmdaaDoorOwn
import Derived.Test.YtccgpmncpemmdaaDoorNmG
import Derived.Deep.RegionHeld3
import Derived.IntWalk
namespace Go.Proofs.YtccgpmncpemmdaaDoor
open Go Go.RowKit
set_option linter.unusedSimpArgs false
set_option linter.unusedVariables false
set_option linter.unnecessarySimpa false
theorem Ex.At.of' {w' : World} {e : Ex} {a : Option Addr} {cap b o : Nat} (hw : ExWf e.kind e.op e.num e.name e.args.length cap) (hr : Ex.Row w' e.args a) (h0 : w'.cell? ⟨b, o, none⟩ = some (.int .i64 e.kind)) (h1 : w'.cell? ⟨b, o + 1, none⟩ = some (.int .i64 e.op))
    (h2 : w'.cell? ⟨b, o + 2, none⟩ = some (.int .i64 e.num)) (h3 : w'.cell? ⟨b, o + 3, none⟩ = some (.string ⟨e.name.toArray⟩)) (h4 : w'.cell? ⟨b, o + 4, none⟩ = some (.slice a e.args.length cap)) : Ex.At w' e b o := by
  cases e
  simp only [Ex.At]
  exact ⟨a, cap, h0, h1, h2, h3, h4, hw, hr⟩
theorem nw_alloc {n : Nat} (w : World) (hn : n ≤ w.heap.size) (l : List Value) (t : TypeId) (j : Nat) (v : Value) (h : l[j]? = some v) : (nw n (w.alloc (.cells l.toArray t))).cell? ⟨w.heap.size, j, none⟩ = some v :=
  nw_cell.2 ⟨hn, cell_of_list _ _ _ _ _ h⟩
/-- A new row of one expression. -/
theorem Ex.rowA {n : Nat} {w w0 : World} {e : Ex} {a : Option Addr} {cap g : Nat} (t : TypeId) (hw : ExWf e.kind e.op e.num e.name e.args.length cap) (hr : Ex.Row (nw n w0) e.args a) (hb : Below w0.heap.size w0 w) (hg : g = w.heap.size) (hn : n ≤ w.heap.size) :
    Ex.Row (nw n (w.alloc (.cells [.int .i64 e.kind, .int .i64 e.op, .int .i64 e.num, .string ⟨e.name.toArray⟩, .slice a e.args.length cap].toArray t))) [e] (some ⟨g, 0, none⟩) := by
  subst hg
  exact ⟨_, _, rfl, Ex.At.of' hw (hr.has (has_nw_below (hb.al _))) (nw_alloc w hn _ _ _ _ rfl) (nw_alloc w hn _ _ _ _ rfl) (nw_alloc w hn _ _ _ _ rfl) (nw_alloc w hn _ _ _ _ rfl) (nw_alloc w hn _ _ _ _ rfl), trivial⟩
/-- A new row of two expressions. -/
theorem Ex.rowB {n : Nat} {w w0 : World} {e f : Ex} {a c : Option Addr} {cap dap g : Nat} (t : TypeId) (hw : ExWf e.kind e.op e.num e.name e.args.length cap) (hr : Ex.Row (nw n w0) e.args a) (hw2 : ExWf f.kind f.op f.num f.name f.args.length dap) (hr2 : Ex.Row (nw n w0) f.args c)
    (hb : Below w0.heap.size w0 w) (hg : g = w.heap.size) (hn : n ≤ w.heap.size) :
    Ex.Row (nw n (w.alloc (.cells [.int .i64 e.kind, .int .i64 e.op, .int .i64 e.num, .string ⟨e.name.toArray⟩, .slice a e.args.length cap, .int .i64 f.kind, .int .i64 f.op, .int .i64 f.num, .string ⟨f.name.toArray⟩, .slice c f.args.length dap].toArray t))) [e, f] (some ⟨g, 0, none⟩) := by
  subst hg
  exact ⟨_, _, rfl, Ex.At.of' hw (hr.has (has_nw_below (hb.al _))) (nw_alloc w hn _ _ _ _ rfl) (nw_alloc w hn _ _ _ _ rfl) (nw_alloc w hn _ _ _ _ rfl) (nw_alloc w hn _ _ _ _ rfl) (nw_alloc w hn _ _ _ _ rfl),
    _, _, rfl, Ex.At.of' hw2 (hr2.has (has_nw_below (hb.al _))) (nw_alloc w hn _ _ _ _ rfl) (nw_alloc w hn _ _ _ _ rfl) (nw_alloc w hn _ _ _ _ rfl) (nw_alloc w hn _ _ _ _ rfl) (nw_alloc w hn _ _ _ _ rfl), trivial⟩
/-- An expression without parts, as a value. -/
def leafV (k o n : Int) (s : Bytes) : Value := .agg #[.int .i64 k, .int .i64 o, .int .i64 n, .string ⟨s.toArray⟩, .slice none 0 0]
theorem leaf_val (w : World) {k o n : Int} {s : Bytes} (hk : I64 k) (ho : I64 o) (hn : I64 n) (hs : s.length ≤ maxLen) : Ex.Val w (.mk k o n s []) (leafV k o n s) :=
  ⟨none, 0, rfl, ⟨hk, ho, hn, hs, Nat.le_refl _, Nat.zero_le _⟩, by simp only [Ex.args, Ex.Row]⟩
/-- What a part of the reader answers of an expression. -/
def ExQ (w : World) (sb : Nat) (L : List Nat) (nx : Nat) (q : Ex × Nat) (r : Ending) (w' : World) : Prop :=
  (∃ v, r = .returned v ∧ Ex.Val (nw w.heap.size w') q.1 v) ∧ Rdr w' sb L q.2 nx ∧ Kept [sb] w w'
theorem fin5 {w W : World} {sb p nx : Nat} {L : List Nat} (v0 v1 v2 v3 v4 : Value) (h1 : Rdr W sb L p nx) (h2 : Kept [sb] w W) (hsb : sb < w.heap.size) : Rdr (((((W.setCell ⟨w.heap.size, 0, none⟩ v0).setCell ⟨w.heap.size, 1, none⟩ v1).setCell ⟨w.heap.size, 2, none⟩ v2).setCell ⟨w.heap.size, 3, none⟩ v3).setCell ⟨w.heap.size, 4, none⟩ v4) sb L p nx ∧ Kept [sb] w (((((W.setCell ⟨w.heap.size, 0, none⟩ v0).setCell ⟨w.heap.size, 1, none⟩ v1).setCell ⟨w.heap.size, 2, none⟩ v2).setCell ⟨w.heap.size, 3, none⟩ v3).setCell ⟨w.heap.size, 4, none⟩ v4) :=
  ⟨((((h1.setNew hsb _ _).setNew hsb _ _).setNew hsb _ _).setNew hsb _ _).setNew hsb _ _, ((((h2.set (.inr (Nat.le_refl _)) _ _).set (.inr (Nat.le_refl _)) _ _).set (.inr (Nat.le_refl _)) _ _).set (.inr (Nat.le_refl _)) _ _).set (.inr (Nat.le_refl _)) _ _⟩
/-- What lies beyond the block that is written. -/
theorem row5 {w W : World} {n : Nat} {es : List Ex} {a : Option Addr} (v0 v1 v2 v3 v4 : Value) (hn : w.heap.size < n) (h : Ex.Row (nw n W) es a) : Ex.Row (nw w.heap.size (((((W.setCell ⟨w.heap.size, 0, none⟩ v0).setCell ⟨w.heap.size, 1, none⟩ v1).setCell ⟨w.heap.size, 2, none⟩ v2).setCell ⟨w.heap.size, 3, none⟩ v3).setCell ⟨w.heap.size, 4, none⟩ v4)) es a :=
  (h.has (has_nw_one (((((((Kept.refl [w.heap.size] W).set (.inl (by simp)) _ _).set (.inl (by simp)) _ _).set (.inl (by simp)) _ _).set (.inl (by simp)) _ _).set (.inl (by simp)) _ _)) hn)).has (has_nws (Nat.le_of_lt hn))
/-- What the block that is written then holds, also when there is a new block. -/
theorem read5 {w W : World} (v0 v1 v2 v3 v4 : Value) {C : Array Value} {t : TypeId} (h : W.heap[w.heap.size]? = some (.cells C t (0, 0))) (hC : C.size = 5) (o : Obj) :
    ((((((W.setCell ⟨w.heap.size, 0, none⟩ v0).setCell ⟨w.heap.size, 1, none⟩ v1).setCell ⟨w.heap.size, 2, none⟩ v2).setCell ⟨w.heap.size, 3, none⟩ v3).setCell ⟨w.heap.size, 4, none⟩ v4).alloc o).cell? ⟨w.heap.size, 0, none⟩ = some v0 ∧ ((((((W.setCell ⟨w.heap.size, 0, none⟩ v0).setCell ⟨w.heap.size, 1, none⟩ v1).setCell ⟨w.heap.size, 2, none⟩ v2).setCell ⟨w.heap.size, 3, none⟩ v3).setCell ⟨w.heap.size, 4, none⟩ v4).alloc o).cell? ⟨w.heap.size, 1, none⟩ = some v1 ∧ ((((((W.setCell ⟨w.heap.size, 0, none⟩ v0).setCell ⟨w.heap.size, 1, none⟩ v1).setCell ⟨w.heap.size, 2, none⟩ v2).setCell ⟨w.heap.size, 3, none⟩ v3).setCell ⟨w.heap.size, 4, none⟩ v4).alloc o).cell? ⟨w.heap.size, 2, none⟩ = some v2 ∧
    ((((((W.setCell ⟨w.heap.size, 0, none⟩ v0).setCell ⟨w.heap.size, 1, none⟩ v1).setCell ⟨w.heap.size, 2, none⟩ v2).setCell ⟨w.heap.size, 3, none⟩ v3).setCell ⟨w.heap.size, 4, none⟩ v4).alloc o).cell? ⟨w.heap.size, 3, none⟩ = some v3 ∧ ((((((W.setCell ⟨w.heap.size, 0, none⟩ v0).setCell ⟨w.heap.size, 1, none⟩ v1).setCell ⟨w.heap.size, 2, none⟩ v2).setCell ⟨w.heap.size, 3, none⟩ v3).setCell ⟨w.heap.size, 4, none⟩ v4).alloc o).cell? ⟨w.heap.size, 4, none⟩ = some v4 := by
  have hlt := (Array.getElem?_eq_some_iff.1 h).1
  have h5 : (((((W.setCell ⟨w.heap.size, 0, none⟩ v0).setCell ⟨w.heap.size, 1, none⟩ v1).setCell ⟨w.heap.size, 2, none⟩ v2).setCell ⟨w.heap.size, 3, none⟩ v3).setCell ⟨w.heap.size, 4, none⟩ v4).heap[w.heap.size]? = some (.cells #[v0, v1, v2, v3, v4] t (0, 0)) := by
    simp only [World.setCell, Array.getElem?_modify, if_true, h, Option.map_some]
    obtain ⟨l⟩ := C
    match l, hC with
    | [a, b, c, d, e], _ => simp
  have h6 : ((((((W.setCell ⟨w.heap.size, 0, none⟩ v0).setCell ⟨w.heap.size, 1, none⟩ v1).setCell ⟨w.heap.size, 2, none⟩ v2).setCell ⟨w.heap.size, 3, none⟩ v3).setCell ⟨w.heap.size, 4, none⟩ v4).alloc o).heap[w.heap.size]? = some (.cells #[v0, v1, v2, v3, v4] t (0, 0)) := by
    rw [Below.heap_alloc _ _ _ (by simpa [World.setCell] using hlt)]
    exact h5
  exact ⟨cell_at h6 rfl, cell_at h6 rfl, cell_at h6 rfl, cell_at h6 rfl, cell_at h6 rfl⟩
theorem size5 {w W : World} (v0 v1 v2 v3 v4 : Value) : (((((W.setCell ⟨w.heap.size, 0, none⟩ v0).setCell ⟨w.heap.size, 1, none⟩ v1).setCell ⟨w.heap.size, 2, none⟩ v2).setCell ⟨w.heap.size, 3, none⟩ v3).setCell ⟨w.heap.size, 4, none⟩ v4).heap.size = W.heap.size := by simp [World.setCell]
def nodeV (k o : Int) (s : Bytes) (g n : Nat) : Value := .agg #[.int .i64 k, .int .i64 o, .int .i64 0, .string ⟨s.toArray⟩, .slice (some ⟨g, 0, none⟩) n n]
theorem one_le : 1 ≤ maxLen := by unfold maxLen; omega
theorem two_le : 2 ≤ maxLen := by unfold maxLen; omega
theorem wrN_len (L : List Nat) (p : Nat) : (wrN L p).1.length = 1 := rfl
set_option maxRecDepth 20000 in
set_option maxHeartbeats 2000000 in
theorem nexpr_num (sb nx : Nat) (L : List Nat) (d : Nat) (w : World) (p : Nat) (h : Rdr w sb L p nx) (b p1 : Nat) (hq9 : rbN L p = (b, p1)) (hk : b % 9 = 0) :
    Calls Tryd.prog 41 #[.pointer (some ⟨sb, 0, none⟩), .int .i64 (d + 1 : Nat)] w (ExQ w sb L nx (exN L (d + 1) p)) := by
  have hb := h.byte_le p
  rw [hq9] at hb
  simp only at hb
  have hbw := fun p => h.byte_le p
  have HBW := hide hbw
  have HN := hide fun (p : Nat) (W : World) (hW : Rdr W sb L p nx) => byte_any sb nx p L W hW
  have HSRC := hide (h.al (.cells #[.int .i64 0, .int .i64 0, .int .i64 0, .string ⟨#[]⟩, .slice none 0 0] 91))
  have hsb := h.lt
  have HZ0 : Hid ((w.alloc (.cells #[.int .i64 0, .int .i64 0, .int .i64 0, .string ⟨#[]⟩, .slice none 0 0] 91)).heap[w.heap.size]? = some (.cells #[.int .i64 0, .int .i64 0, .int .i64 0, .string ⟨#[]⟩, .slice none 0 0] 91 (0, 0))) := hide (by show (w.heap.push _)[w.heap.size]? = _; simp)
  have HK0 := hide ((Kept.refl [sb] w).al (.cells #[.int .i64 0, .int .i64 0, .int .i64 0, .string ⟨#[]⟩, .slice none 0 0] 91))
  clear h hbw
  have i0 : I64 0 := i64_l 0 (by decide)
  have HI0 := hide i0
  clear i0
  rcases Nat.eq_zero_or_pos d with rfl | hd0
  · have e : exN L (0 + 1) p = (.mk 1 0 ((b / 9 : Nat) : Int) [] [], p1) := by rw [exN]; simp [hq9, ekN, hk]
    rw [e]
    clear e
    have hi5 : I64 ((b / 9 : Nat) : Int) := i64_l _ (by omega)
    have HI5 := hide hi5
    clear hi5
    have hb9 : (b : Int) % 9 = 0 := by omega
    go_enter Tryd.func41, Tryd.ntmps41
    go_wp2_with fail
    refine (HN.out p _ HSRC.out).mono ?_
    rintro r w2 ⟨hr, HS, hK⟩
    rw [hq9] at hr HS
    subst hr
    have HZ := hide (hK.heap (by simp; omega) HZ0.out)
    clear hk hq9
    go_wp2_with fail
    refine (num_any _ _).mono ?_
    unfold eLf
    rintro r w4 ⟨rfl, hb4⟩
    have hK4 := kept_below (l := [sb]) hb4
    have HZ := hide (hK4.heap (by simp; omega) HZ.out)
    have HS4 := HS.below hb4
    have q0 := cell_at (j := 0) HZ.out rfl
    have q1 := cell_at (j := 1) HZ.out rfl
    have q2 := cell_at (j := 2) HZ.out rfl
    have q3 := cell_at (j := 3) HZ.out rfl
    have q4 := cell_at (j := 4) HZ.out rfl
    have z0 := free_at (j := 0) HZ.out
    have z1 := free_at (j := 1) HZ.out
    have z2 := free_at (j := 2) HZ.out
    have z3 := free_at (j := 3) HZ.out
    have z4 := free_at (j := 4) HZ.out
    have hzl := cell_lt q0
    simp only at hzl
    go_wp2_with fail
    have hfin := fin5 (.int .i64 1) (.int .i64 0) (.int .i64 ((b : Int) / 9)) (.string ⟨#[]⟩) (.slice none 0 0) HS4 ((HK0.out.tr hK).tr hK4) hsb
    exact bodyPost_ret (v := leafV 1 0 ((b / 9 : Nat) : Int) []) (by simp [results, Tryd.results41, go_sem, q0, q1, q2, q3, q4, leafV, nodeV]) rfl ⟨⟨_, rfl, leaf_val _ (show I64 1 from i64_l 1 (by decide)) HI0.out HI5.out (Nat.zero_le _)⟩, hfin.1, hfin.2⟩
  · have hd1 : (1 : Int) ≤ (d : Int) := by omega
    have hd2 : ¬ ((d : Int) + 1 ≤ 1) := by omega
    have hdz : d ≠ 0 := by omega
    have e : exN L (d + 1) p = (.mk 1 0 ((b / 9 : Nat) : Int) [] [], p1) := by rw [exN]; simp [hq9, ekN, hk]
    rw [e]
    clear e
    have hi5 : I64 ((b / 9 : Nat) : Int) := i64_l _ (by omega)
    have HI5 := hide hi5
    clear hi5
    have hb9 : (b : Int) % 9 = 0 := by omega
    go_enter Tryd.func41, Tryd.ntmps41
    go_wp2_with fail
    refine (HN.out p _ HSRC.out).mono ?_
    rintro r w2 ⟨hr, HS, hK⟩
    rw [hq9] at hr HS
    subst hr
    have HZ := hide (hK.heap (by simp; omega) HZ0.out)
    clear hk hq9
    go_wp2_with fail
    refine (num_any _ _).mono ?_
    unfold eLf
    rintro r w4 ⟨rfl, hb4⟩
    have hK4 := kept_below (l := [sb]) hb4
    have HZ := hide (hK4.heap (by simp; omega) HZ.out)
    have HS4 := HS.below hb4
    have q0 := cell_at (j := 0) HZ.out rfl
    have q1 := cell_at (j := 1) HZ.out rfl
    have q2 := cell_at (j := 2) HZ.out rfl
    have q3 := cell_at (j := 3) HZ.out rfl
    have q4 := cell_at (j := 4) HZ.out rfl
    have z0 := free_at (j := 0) HZ.out
    have z1 := free_at (j := 1) HZ.out
    have z2 := free_at (j := 2) HZ.out
    have z3 := free_at (j := 3) HZ.out
    have z4 := free_at (j := 4) HZ.out
    have hzl := cell_lt q0
    simp only at hzl
    go_wp2_with fail
    have hfin := fin5 (.int .i64 1) (.int .i64 0) (.int .i64 ((b : Int) / 9)) (.string ⟨#[]⟩) (.slice none 0 0) HS4 ((HK0.out.tr hK).tr hK4) hsb
    exact bodyPost_ret (v := leafV 1 0 ((b / 9 : Nat) : Int) []) (by simp [results, Tryd.results41, go_sem, q0, q1, q2, q3, q4, leafV, nodeV]) rfl ⟨⟨_, rfl, leaf_val _ (show I64 1 from i64_l 1 (by decide)) HI0.out HI5.out (Nat.zero_le _)⟩, hfin.1, hfin.2⟩
set_option maxRecDepth 20000 in
set_option maxHeartbeats 2000000 in
theorem nexpr_bool (sb nx : Nat) (L : List Nat) (d : Nat) (w : World) (p : Nat) (h : Rdr w sb L p nx) (b p1 : Nat) (hq9 : rbN L p = (b, p1)) (hk : b % 9 = 1) :
    Calls Tryd.prog 41 #[.pointer (some ⟨sb, 0, none⟩), .int .i64 (d + 1 : Nat)] w (ExQ w sb L nx (exN L (d + 1) p)) := by
  have hb := h.byte_le p
  rw [hq9] at hb
  simp only at hb
  have hbw := fun p => h.byte_le p
  have HBW := hide hbw
  have HN := hide fun (p : Nat) (W : World) (hW : Rdr W sb L p nx) => byte_any sb nx p L W hW
  have HSRC := hide (h.al (.cells #[.int .i64 0, .int .i64 0, .int .i64 0, .string ⟨#[]⟩, .slice none 0 0] 91))
  have hsb := h.lt
  have HZ0 : Hid ((w.alloc (.cells #[.int .i64 0, .int .i64 0, .int .i64 0, .string ⟨#[]⟩, .slice none 0 0] 91)).heap[w.heap.size]? = some (.cells #[.int .i64 0, .int .i64 0, .int .i64 0, .string ⟨#[]⟩, .slice none 0 0] 91 (0, 0))) := hide (by show (w.heap.push _)[w.heap.size]? = _; simp)
  have HK0 := hide ((Kept.refl [sb] w).al (.cells #[.int .i64 0, .int .i64 0, .int .i64 0, .string ⟨#[]⟩, .slice none 0 0] 91))
  clear h hbw
  have i0 : I64 0 := i64_l 0 (by decide)
  have HI0 := hide i0
  clear i0
  rcases Nat.eq_zero_or_pos d with rfl | hd0
  · have e : exN L (0 + 1) p = (.mk 2 0 ((b / 9 % 2 : Nat) : Int) [] [], p1) := by rw [exN]; simp [hq9, ekN, hk]
    rw [e]
    clear e
    have hi5 : I64 ((b / 9 % 2 : Nat) : Int) := i64_l _ (by omega)
    have HI5 := hide hi5
    clear hi5
    have hb9 : (b : Int) % 9 = 1 := by omega
    go_enter Tryd.func41, Tryd.ntmps41
    go_wp2_with fail
    refine (HN.out p _ HSRC.out).mono ?_
    rintro r w2 ⟨hr, HS, hK⟩
    rw [hq9] at hr HS
    subst hr
    have HZ := hide (hK.heap (by simp; omega) HZ0.out)
    clear hk hq9
    have q0 := cell_at (j := 0) HZ.out rfl
    have q1 := cell_at (j := 1) HZ.out rfl
    have q2 := cell_at (j := 2) HZ.out rfl
    have q3 := cell_at (j := 3) HZ.out rfl
    have q4 := cell_at (j := 4) HZ.out rfl
    have z0 := free_at (j := 0) HZ.out
    have z1 := free_at (j := 1) HZ.out
    have z2 := free_at (j := 2) HZ.out
    have z3 := free_at (j := 3) HZ.out
    have z4 := free_at (j := 4) HZ.out
    have hzl := cell_lt q0
    simp only at hzl
    go_wp2_with fail
    have hfin := fin5 (.int .i64 2) (.int .i64 0) (.int .i64 ((b : Int) / 9 % 2)) (.string ⟨#[]⟩) (.slice none 0 0) HS (HK0.out.tr hK) hsb
    exact bodyPost_ret (v := leafV 2 0 ((b / 9 % 2 : Nat) : Int) []) (by simp [results, Tryd.results41, go_sem, q0, q1, q2, q3, q4, leafV, nodeV]) rfl ⟨⟨_, rfl, leaf_val _ (show I64 2 from i64_l 2 (by decide)) HI0.out HI5.out (Nat.zero_le _)⟩, hfin.1, hfin.2⟩
  · have hd1 : (1 : Int) ≤ (d : Int) := by omega
    have hd2 : ¬ ((d : Int) + 1 ≤ 1) := by omega
    have hdz : d ≠ 0 := by omega
    have e : exN L (d + 1) p = (.mk 2 0 ((b / 9 % 2 : Nat) : Int) [] [], p1) := by rw [exN]; simp [hq9, ekN, hk]
    rw [e]
    clear e
    have hi5 : I64 ((b / 9 % 2 : Nat) : Int) := i64_l _ (by omega)
    have HI5 := hide hi5
    clear hi5
    have hb9 : (b : Int) % 9 = 1 := by omega
    go_enter Tryd.func41, Tryd.ntmps41
    go_wp2_with fail
    refine (HN.out p _ HSRC.out).mono ?_
    rintro r w2 ⟨hr, HS, hK⟩
    rw [hq9] at hr HS
    subst hr
    have HZ := hide (hK.heap (by simp; omega) HZ0.out)
    clear hk hq9
    have q0 := cell_at (j := 0) HZ.out rfl
    have q1 := cell_at (j := 1) HZ.out rfl
    have q2 := cell_at (j := 2) HZ.out rfl
    have q3 := cell_at (j := 3) HZ.out rfl
    have q4 := cell_at (j := 4) HZ.out rfl
    have z0 := free_at (j := 0) HZ.out
    have z1 := free_at (j := 1) HZ.out
    have z2 := free_at (j := 2) HZ.out
    have z3 := free_at (j := 3) HZ.out
    have z4 := free_at (j := 4) HZ.out
    have hzl := cell_lt q0
    simp only at hzl
    go_wp2_with fail
    have hfin := fin5 (.int .i64 2) (.int .i64 0) (.int .i64 ((b : Int) / 9 % 2)) (.string ⟨#[]⟩) (.slice none 0 0) HS (HK0.out.tr hK) hsb
    exact bodyPost_ret (v := leafV 2 0 ((b / 9 % 2 : Nat) : Int) []) (by simp [results, Tryd.results41, go_sem, q0, q1, q2, q3, q4, leafV, nodeV]) rfl ⟨⟨_, rfl, leaf_val _ (show I64 2 from i64_l 2 (by decide)) HI0.out HI5.out (Nat.zero_le _)⟩, hfin.1, hfin.2⟩
set_option maxRecDepth 20000 in
set_option maxHeartbeats 2000000 in
theorem nexpr_var (sb nx : Nat) (L : List Nat) (d : Nat) (w : World) (p : Nat) (h : Rdr w sb L p nx) (b p1 : Nat) (hq9 : rbN L p = (b, p1)) (hk : b % 9 = 2) :
    Calls Tryd.prog 41 #[.pointer (some ⟨sb, 0, none⟩), .int .i64 (d + 1 : Nat)] w (ExQ w sb L nx (exN L (d + 1) p)) := by
  have hb := h.byte_le p
  rw [hq9] at hb
  simp only at hb
  have hbw := fun p => h.byte_le p
  have HBW := hide hbw
  have HN := hide fun (p : Nat) (W : World) (hW : Rdr W sb L p nx) => byte_any sb nx p L W hW
  have HSRC := hide (h.al (.cells #[.int .i64 0, .int .i64 0, .int .i64 0, .string ⟨#[]⟩, .slice none 0 0] 91))
  have hsb := h.lt
  have HZ0 : Hid ((w.alloc (.cells #[.int .i64 0, .int .i64 0, .int .i64 0, .string ⟨#[]⟩, .slice none 0 0] 91)).heap[w.heap.size]? = some (.cells #[.int .i64 0, .int .i64 0, .int .i64 0, .string ⟨#[]⟩, .slice none 0 0] 91 (0, 0))) := hide (by show (w.heap.push _)[w.heap.size]? = _; simp)
  have HK0 := hide ((Kept.refl [sb] w).al (.cells #[.int .i64 0, .int .i64 0, .int .i64 0, .string ⟨#[]⟩, .slice none 0 0] 91))
  clear h hbw
  have i0 : I64 0 := i64_l 0 (by decide)
  have HI0 := hide i0
  clear i0
  rcases Nat.eq_zero_or_pos d with rfl | hd0
  · have e : exN L (0 + 1) p = (.mk 3 0 0 (wrN L p1).1 [], (wrN L p1).2) := by rw [exN]; simp [hq9, ekN, hk]
    rw [e]
    clear e
    have hb9 : (b : Int) % 9 = 2 := by omega
    go_enter Tryd.func41, Tryd.ntmps41
    go_wp2_with fail
    refine (HN.out p _ HSRC.out).mono ?_
    rintro r w2 ⟨hr, HS, hK⟩
    rw [hq9] at hr HS
    subst hr
    have HZ := hide (hK.heap (by simp; omega) HZ0.out)
    clear hk hq9
    go_wp2_with fail
    refine (HN.out p1 _ HS).mono ?_
    rintro r w3 ⟨rfl, HS3, hK3⟩
    have HZ := hide (hK3.heap (by simp; omega) HZ.out)
    go_wp2_with fail
    refine (word_any _ (HBW.out p1) _).mono ?_
    rintro r w4 ⟨rfl, hb4⟩
    have hK4 := kept_below (l := [sb]) hb4
    have HZ := hide (hK4.heap (by simp; omega) HZ.out)
    have HS4 := HS3.below hb4
    have HE : Hid (wdN (rbN L p1).1 = (wrN L p1).1) := hide rfl
    have HE2 : Hid ((rbN L p1).2 = (wrN L p1).2) := hide rfl
    rw [HE.out]
    rw [HE2.out] at HS4
    go_wp2_with fail
    refine (variable_any _ _).mono ?_
    unfold eLf
    rintro r w5 ⟨rfl, hb5⟩
    have hK5 := kept_below (l := [sb]) hb5
    have HZ := hide (hK5.heap (by simp; omega) HZ.out)
    have HS5 := HS4.below hb5
    have q0 := cell_at (j := 0) HZ.out rfl
    have q1 := cell_at (j := 1) HZ.out rfl
    have q2 := cell_at (j := 2) HZ.out rfl
    have q3 := cell_at (j := 3) HZ.out rfl
    have q4 := cell_at (j := 4) HZ.out rfl
    have z0 := free_at (j := 0) HZ.out
    have z1 := free_at (j := 1) HZ.out
    have z2 := free_at (j := 2) HZ.out
    have z3 := free_at (j := 3) HZ.out
    have z4 := free_at (j := 4) HZ.out
    have hzl := cell_lt q0
    simp only at hzl
    go_wp2_with fail
    have hfin := fin5 (.int .i64 3) (.int .i64 0) (.int .i64 0) (.string ⟨(wrN L p1).1.toArray⟩) (.slice none 0 0) HS5 ((((HK0.out.tr hK).tr hK3).tr hK4).tr hK5) hsb
    exact bodyPost_ret (v := leafV 3 0 0 (wrN L p1).1) (by simp [results, Tryd.results41, go_sem, q0, q1, q2, q3, q4, leafV, nodeV]) rfl ⟨⟨_, rfl, leaf_val _ (show I64 3 from i64_l 3 (by decide)) HI0.out HI0.out (by rw [wrN_len]; exact one_le)⟩, hfin.1, hfin.2⟩
  · have hd1 : (1 : Int) ≤ (d : Int) := by omega
    have hd2 : ¬ ((d : Int) + 1 ≤ 1) := by omega
    have hdz : d ≠ 0 := by omega
    have e : exN L (d + 1) p = (.mk 3 0 0 (wrN L p1).1 [], (wrN L p1).2) := by rw [exN]; simp [hq9, ekN, hk]
    rw [e]
    clear e
    have hb9 : (b : Int) % 9 = 2 := by omega
    go_enter Tryd.func41, Tryd.ntmps41
    go_wp2_with fail
    refine (HN.out p _ HSRC.out).mono ?_
    rintro r w2 ⟨hr, HS, hK⟩
    rw [hq9] at hr HS
    subst hr
    have HZ := hide (hK.heap (by simp; omega) HZ0.out)
    clear hk hq9
    go_wp2_with fail
    refine (HN.out p1 _ HS).mono ?_
    rintro r w3 ⟨rfl, HS3, hK3⟩
    have HZ := hide (hK3.heap (by simp; omega) HZ.out)
    go_wp2_with fail
    refine (word_any _ (HBW.out p1) _).mono ?_
    rintro r w4 ⟨rfl, hb4⟩
    have hK4 := kept_below (l := [sb]) hb4
    have HZ := hide (hK4.heap (by simp; omega) HZ.out)
    have HS4 := HS3.below hb4
    have HE : Hid (wdN (rbN L p1).1 = (wrN L p1).1) := hide rfl
    have HE2 : Hid ((rbN L p1).2 = (wrN L p1).2) := hide rfl
    rw [HE.out]
    rw [HE2.out] at HS4
    go_wp2_with fail
    refine (variable_any _ _).mono ?_
    unfold eLf
    rintro r w5 ⟨rfl, hb5⟩
    have hK5 := kept_below (l := [sb]) hb5
    have HZ := hide (hK5.heap (by simp; omega) HZ.out)
    have HS5 := HS4.below hb5
    have q0 := cell_at (j := 0) HZ.out rfl
    have q1 := cell_at (j := 1) HZ.out rfl
    have q2 := cell_at (j := 2) HZ.out rfl
    have q3 := cell_at (j := 3) HZ.out rfl
    have q4 := cell_at (j := 4) HZ.out rfl
    have z0 := free_at (j := 0) HZ.out
    have z1 := free_at (j := 1) HZ.out
    have z2 := free_at (j := 2) HZ.out
    have z3 := free_at (j := 3) HZ.out
    have z4 := free_at (j := 4) HZ.out
    have hzl := cell_lt q0
    simp only at hzl
    go_wp2_with fail
    have hfin := fin5 (.int .i64 3) (.int .i64 0) (.int .i64 0) (.string ⟨(wrN L p1).1.toArray⟩) (.slice none 0 0) HS5 ((((HK0.out.tr hK).tr hK3).tr hK4).tr hK5) hsb
    exact bodyPost_ret (v := leafV 3 0 0 (wrN L p1).1) (by simp [results, Tryd.results41, go_sem, q0, q1, q2, q3, q4, leafV, nodeV]) rfl ⟨⟨_, rfl, leaf_val _ (show I64 3 from i64_l 3 (by decide)) HI0.out HI0.out (by rw [wrN_len]; exact one_le)⟩, hfin.1, hfin.2⟩
set_option maxRecDepth 20000 in
set_option maxHeartbeats 2000000 in
theorem nexpr_len (sb nx : Nat) (L : List Nat) (d : Nat) (w : World) (p : Nat) (h : Rdr w sb L p nx) (b p1 : Nat) (hq9 : rbN L p = (b, p1)) (hk : b % 9 = 3) :
    Calls Tryd.prog 41 #[.pointer (some ⟨sb, 0, none⟩), .int .i64 (d + 1 : Nat)] w (ExQ w sb L nx (exN L (d + 1) p)) := by
  have hb := h.byte_le p
  rw [hq9] at hb
  simp only at hb
  have hbw := fun p => h.byte_le p
  have HBW := hide hbw
  have HN := hide fun (p : Nat) (W : World) (hW : Rdr W sb L p nx) => byte_any sb nx p L W hW
  have HSRC := hide (h.al (.cells #[.int .i64 0, .int .i64 0, .int .i64 0, .string ⟨#[]⟩, .slice none 0 0] 91))
  have hsb := h.lt
  have HZ0 : Hid ((w.alloc (.cells #[.int .i64 0, .int .i64 0, .int .i64 0, .string ⟨#[]⟩, .slice none 0 0] 91)).heap[w.heap.size]? = some (.cells #[.int .i64 0, .int .i64 0, .int .i64 0, .string ⟨#[]⟩, .slice none 0 0] 91 (0, 0))) := hide (by show (w.heap.push _)[w.heap.size]? = _; simp)
  have HK0 := hide ((Kept.refl [sb] w).al (.cells #[.int .i64 0, .int .i64 0, .int .i64 0, .string ⟨#[]⟩, .slice none 0 0] 91))
  clear h hbw
  have i0 : I64 0 := i64_l 0 (by decide)
  have HI0 := hide i0
  clear i0
  rcases Nat.eq_zero_or_pos d with rfl | hd0
  · have e : exN L (0 + 1) p = (.mk 7 0 0 (wrN L p1).1 [], (wrN L p1).2) := by rw [exN]; simp [hq9, ekN, hk]
    rw [e]
    clear e
    have hb9 : (b : Int) % 9 = 3 := by omega
    go_enter Tryd.func41, Tryd.ntmps41
    go_wp2_with fail
    refine (HN.out p _ HSRC.out).mono ?_
    rintro r w2 ⟨hr, HS, hK⟩
    rw [hq9] at hr HS
    subst hr
    have HZ := hide (hK.heap (by simp; omega) HZ0.out)
    clear hk hq9
    go_wp2_with fail
    refine (HN.out p1 _ HS).mono ?_
    rintro r w3 ⟨rfl, HS3, hK3⟩
    have HZ := hide (hK3.heap (by simp; omega) HZ.out)
    go_wp2_with fail
    refine (word_any _ (HBW.out p1) _).mono ?_
    rintro r w4 ⟨rfl, hb4⟩
    have hK4 := kept_below (l := [sb]) hb4
    have HZ := hide (hK4.heap (by simp; omega) HZ.out)
    have HS4 := HS3.below hb4
    have HE : Hid (wdN (rbN L p1).1 = (wrN L p1).1) := hide rfl
    have HE2 : Hid ((rbN L p1).2 = (wrN L p1).2) := hide rfl
    rw [HE.out]
    rw [HE2.out] at HS4
    have q0 := cell_at (j := 0) HZ.out rfl
    have q1 := cell_at (j := 1) HZ.out rfl
    have q2 := cell_at (j := 2) HZ.out rfl
    have q3 := cell_at (j := 3) HZ.out rfl
    have q4 := cell_at (j := 4) HZ.out rfl
    have z0 := free_at (j := 0) HZ.out
    have z1 := free_at (j := 1) HZ.out
    have z2 := free_at (j := 2) HZ.out
    have z3 := free_at (j := 3) HZ.out
    have z4 := free_at (j := 4) HZ.out
    have hzl := cell_lt q0
    simp only at hzl
    go_wp2_with fail
    have hfin := fin5 (.int .i64 7) (.int .i64 0) (.int .i64 0) (.string ⟨(wrN L p1).1.toArray⟩) (.slice none 0 0) HS4 (((HK0.out.tr hK).tr hK3).tr hK4) hsb
    exact bodyPost_ret (v := leafV 7 0 0 (wrN L p1).1) (by simp [results, Tryd.results41, go_sem, q0, q1, q2, q3, q4, leafV, nodeV]) rfl ⟨⟨_, rfl, leaf_val _ (show I64 7 from i64_l 7 (by decide)) HI0.out HI0.out (by rw [wrN_len]; exact one_le)⟩, hfin.1, hfin.2⟩
  · have hd1 : (1 : Int) ≤ (d : Int) := by omega
    have hd2 : ¬ ((d : Int) + 1 ≤ 1) := by omega
    have hdz : d ≠ 0 := by omega
    have e : exN L (d + 1) p = (.mk 7 0 0 (wrN L p1).1 [], (wrN L p1).2) := by rw [exN]; simp [hq9, ekN, hk]
    rw [e]
    clear e
    have hb9 : (b : Int) % 9 = 3 := by omega
    go_enter Tryd.func41, Tryd.ntmps41
    go_wp2_with fail
    refine (HN.out p _ HSRC.out).mono ?_
    rintro r w2 ⟨hr, HS, hK⟩
    rw [hq9] at hr HS
    subst hr
    have HZ := hide (hK.heap (by simp; omega) HZ0.out)
    clear hk hq9
    go_wp2_with fail
    refine (HN.out p1 _ HS).mono ?_
    rintro r w3 ⟨rfl, HS3, hK3⟩
    have HZ := hide (hK3.heap (by simp; omega) HZ.out)
    go_wp2_with fail
    refine (word_any _ (HBW.out p1) _).mono ?_
    rintro r w4 ⟨rfl, hb4⟩
    have hK4 := kept_below (l := [sb]) hb4
    have HZ := hide (hK4.heap (by simp; omega) HZ.out)
    have HS4 := HS3.below hb4
    have HE : Hid (wdN (rbN L p1).1 = (wrN L p1).1) := hide rfl
    have HE2 : Hid ((rbN L p1).2 = (wrN L p1).2) := hide rfl
    rw [HE.out]
    rw [HE2.out] at HS4
    have q0 := cell_at (j := 0) HZ.out rfl
    have q1 := cell_at (j := 1) HZ.out rfl
    have q2 := cell_at (j := 2) HZ.out rfl
    have q3 := cell_at (j := 3) HZ.out rfl
    have q4 := cell_at (j := 4) HZ.out rfl
    have z0 := free_at (j := 0) HZ.out
    have z1 := free_at (j := 1) HZ.out
    have z2 := free_at (j := 2) HZ.out
    have z3 := free_at (j := 3) HZ.out
    have z4 := free_at (j := 4) HZ.out
    have hzl := cell_lt q0
    simp only at hzl
    go_wp2_with fail
    have hfin := fin5 (.int .i64 7) (.int .i64 0) (.int .i64 0) (.string ⟨(wrN L p1).1.toArray⟩) (.slice none 0 0) HS4 (((HK0.out.tr hK).tr hK3).tr hK4) hsb
    exact bodyPost_ret (v := leafV 7 0 0 (wrN L p1).1) (by simp [results, Tryd.results41, go_sem, q0, q1, q2, q3, q4, leafV, nodeV]) rfl ⟨⟨_, rfl, leaf_val _ (show I64 7 from i64_l 7 (by decide)) HI0.out HI0.out (by rw [wrN_len]; exact one_le)⟩, hfin.1, hfin.2⟩
set_option maxRecDepth 20000 in
set_option maxHeartbeats 2000000 in
theorem nexpr_low4 (sb nx : Nat) (L : List Nat) (d : Nat) (w : World) (p : Nat) (h : Rdr w sb L p nx) (b p1 : Nat) (hq9 : rbN L p = (b, p1)) (hk : b % 9 = 4) (hz : d = 0) :
    Calls Tryd.prog 41 #[.pointer (some ⟨sb, 0, none⟩), .int .i64 (d + 1 : Nat)] w (ExQ w sb L nx (exN L (d + 1) p)) := by
  subst hz
  have hb := h.byte_le p
  rw [hq9] at hb
  simp only at hb
  have hbw := fun p => h.byte_le p
  have HBW := hide hbw
  have HN := hide fun (p : Nat) (W : World) (hW : Rdr W sb L p nx) => byte_any sb nx p L W hW
  have HSRC := hide (h.al (.cells #[.int .i64 0, .int .i64 0, .int .i64 0, .string ⟨#[]⟩, .slice none 0 0] 91))
  have hsb := h.lt
  have HZ0 : Hid ((w.alloc (.cells #[.int .i64 0, .int .i64 0, .int .i64 0, .string ⟨#[]⟩, .slice none 0 0] 91)).heap[w.heap.size]? = some (.cells #[.int .i64 0, .int .i64 0, .int .i64 0, .string ⟨#[]⟩, .slice none 0 0] 91 (0, 0))) := hide (by show (w.heap.push _)[w.heap.size]? = _; simp)
  have HK0 := hide ((Kept.refl [sb] w).al (.cells #[.int .i64 0, .int .i64 0, .int .i64 0, .string ⟨#[]⟩, .slice none 0 0] 91))
  clear h hbw
  have i0 : I64 0 := i64_l 0 (by decide)
  have HI0 := hide i0
  clear i0
  have e : exN L (0 + 1) p = (.mk 2 0 ((b / 9 % 2 : Nat) : Int) [] [], p1) := by rw [exN]; simp [hq9, ekN, hk]
  rw [e]
  clear e
  have hi5 : I64 ((b / 9 % 2 : Nat) : Int) := i64_l _ (by omega)
  have HI5 := hide hi5
  clear hi5
  have hb9 : (b : Int) % 9 = 4 := by omega
  go_enter Tryd.func41, Tryd.ntmps41
  go_wp2_with fail
  refine (HN.out p _ HSRC.out).mono ?_
  rintro r w2 ⟨hr, HS, hK⟩
  rw [hq9] at hr HS
  subst hr
  have HZ := hide (hK.heap (by simp; omega) HZ0.out)
  clear hk hq9
  have q0 := cell_at (j := 0) HZ.out rfl
  have q1 := cell_at (j := 1) HZ.out rfl
  have q2 := cell_at (j := 2) HZ.out rfl
  have q3 := cell_at (j := 3) HZ.out rfl
  have q4 := cell_at (j := 4) HZ.out rfl
  have z0 := free_at (j := 0) HZ.out
  have z1 := free_at (j := 1) HZ.out
  have z2 := free_at (j := 2) HZ.out
  have z3 := free_at (j := 3) HZ.out
  have z4 := free_at (j := 4) HZ.out
  have hzl := cell_lt q0
  simp only at hzl
  go_wp2_with fail
  have hfin := fin5 (.int .i64 2) (.int .i64 0) (.int .i64 ((b : Int) / 9 % 2)) (.string ⟨#[]⟩) (.slice none 0 0) HS (HK0.out.tr hK) hsb
  exact bodyPost_ret (v := leafV 2 0 ((b / 9 % 2 : Nat) : Int) []) (by simp [results, Tryd.results41, go_sem, q0, q1, q2, q3, q4, leafV, nodeV]) rfl ⟨⟨_, rfl, leaf_val _ (show I64 2 from i64_l 2 (by decide)) HI0.out HI5.out (Nat.zero_le _)⟩, hfin.1, hfin.2⟩
set_option maxRecDepth 20000 in
set_option maxHeartbeats 2000000 in
theorem nexpr_low5 (sb nx : Nat) (L : List Nat) (d : Nat) (w : World) (p : Nat) (h : Rdr w sb L p nx) (b p1 : Nat) (hq9 : rbN L p = (b, p1)) (hk : b % 9 = 5) (hz : d = 0) :
    Calls Tryd.prog 41 #[.pointer (some ⟨sb, 0, none⟩), .int .i64 (d + 1 : Nat)] w (ExQ w sb L nx (exN L (d + 1) p)) := by
  subst hz
  have hb := h.byte_le p
  rw [hq9] at hb
  simp only at hb
  have hbw := fun p => h.byte_le p
  have HBW := hide hbw
  have HN := hide fun (p : Nat) (W : World) (hW : Rdr W sb L p nx) => byte_any sb nx p L W hW
  have HSRC := hide (h.al (.cells #[.int .i64 0, .int .i64 0, .int .i64 0, .string ⟨#[]⟩, .slice none 0 0] 91))
  have hsb := h.lt
  have HZ0 : Hid ((w.alloc (.cells #[.int .i64 0, .int .i64 0, .int .i64 0, .string ⟨#[]⟩, .slice none 0 0] 91)).heap[w.heap.size]? = some (.cells #[.int .i64 0, .int .i64 0, .int .i64 0, .string ⟨#[]⟩, .slice none 0 0] 91 (0, 0))) := hide (by show (w.heap.push _)[w.heap.size]? = _; simp)
  have HK0 := hide ((Kept.refl [sb] w).al (.cells #[.int .i64 0, .int .i64 0, .int .i64 0, .string ⟨#[]⟩, .slice none 0 0] 91))
  clear h hbw
  have i0 : I64 0 := i64_l 0 (by decide)
  have HI0 := hide i0
  clear i0
  have e : exN L (0 + 1) p = (.mk 3 0 0 (wrN L p1).1 [], (wrN L p1).2) := by rw [exN]; simp [hq9, ekN, hk]
  rw [e]
  clear e
  have hb9 : (b : Int) % 9 = 5 := by omega
  go_enter Tryd.func41, Tryd.ntmps41
  go_wp2_with fail
  refine (HN.out p _ HSRC.out).mono ?_
  rintro r w2 ⟨hr, HS, hK⟩
  rw [hq9] at hr HS
  subst hr
  have HZ := hide (hK.heap (by simp; omega) HZ0.out)
  clear hk hq9
  go_wp2_with fail
  refine (HN.out p1 _ HS).mono ?_
  rintro r w3 ⟨rfl, HS3, hK3⟩
  have HZ := hide (hK3.heap (by simp; omega) HZ.out)
  go_wp2_with fail
  refine (word_any _ (HBW.out p1) _).mono ?_
  rintro r w4 ⟨rfl, hb4⟩
  have hK4 := kept_below (l := [sb]) hb4
  have HZ := hide (hK4.heap (by simp; omega) HZ.out)
  have HS4 := HS3.below hb4
  have HE : Hid (wdN (rbN L p1).1 = (wrN L p1).1) := hide rfl
  have HE2 : Hid ((rbN L p1).2 = (wrN L p1).2) := hide rfl
  rw [HE.out]
  rw [HE2.out] at HS4
  go_wp2_with fail
  refine (variable_any _ _).mono ?_
  unfold eLf
  rintro r w5 ⟨rfl, hb5⟩
  have hK5 := kept_below (l := [sb]) hb5
  have HZ := hide (hK5.heap (by simp; omega) HZ.out)
  have HS5 := HS4.below hb5
  have q0 := cell_at (j := 0) HZ.out rfl
  have q1 := cell_at (j := 1) HZ.out rfl
  have q2 := cell_at (j := 2) HZ.out rfl
  have q3 := cell_at (j := 3) HZ.out rfl
  have q4 := cell_at (j := 4) HZ.out rfl
  have z0 := free_at (j := 0) HZ.out
  have z1 := free_at (j := 1) HZ.out
  have z2 := free_at (j := 2) HZ.out
  have z3 := free_at (j := 3) HZ.out
  have z4 := free_at (j := 4) HZ.out
  have hzl := cell_lt q0
  simp only at hzl
  go_wp2_with fail
  have hfin := fin5 (.int .i64 3) (.int .i64 0) (.int .i64 0) (.string ⟨(wrN L p1).1.toArray⟩) (.slice none 0 0) HS5 ((((HK0.out.tr hK).tr hK3).tr hK4).tr hK5) hsb
  exact bodyPost_ret (v := leafV 3 0 0 (wrN L p1).1) (by simp [results, Tryd.results41, go_sem, q0, q1, q2, q3, q4, leafV, nodeV]) rfl ⟨⟨_, rfl, leaf_val _ (show I64 3 from i64_l 3 (by decide)) HI0.out HI0.out (by rw [wrN_len]; exact one_le)⟩, hfin.1, hfin.2⟩
set_option maxRecDepth 20000 in
set_option maxHeartbeats 2000000 in
theorem nexpr_low6 (sb nx : Nat) (L : List Nat) (d : Nat) (w : World) (p : Nat) (h : Rdr w sb L p nx) (b p1 : Nat) (hq9 : rbN L p = (b, p1)) (hk : b % 9 = 6) (hz : d = 0) :
    Calls Tryd.prog 41 #[.pointer (some ⟨sb, 0, none⟩), .int .i64 (d + 1 : Nat)] w (ExQ w sb L nx (exN L (d + 1) p)) := by
  subst hz
  have hb := h.byte_le p
  rw [hq9] at hb
  simp only at hb
  have hbw := fun p => h.byte_le p
  have HBW := hide hbw
  have HN := hide fun (p : Nat) (W : World) (hW : Rdr W sb L p nx) => byte_any sb nx p L W hW
  have HSRC := hide (h.al (.cells #[.int .i64 0, .int .i64 0, .int .i64 0, .string ⟨#[]⟩, .slice none 0 0] 91))
  have hsb := h.lt
  have HZ0 : Hid ((w.alloc (.cells #[.int .i64 0, .int .i64 0, .int .i64 0, .string ⟨#[]⟩, .slice none 0 0] 91)).heap[w.heap.size]? = some (.cells #[.int .i64 0, .int .i64 0, .int .i64 0, .string ⟨#[]⟩, .slice none 0 0] 91 (0, 0))) := hide (by show (w.heap.push _)[w.heap.size]? = _; simp)
  have HK0 := hide ((Kept.refl [sb] w).al (.cells #[.int .i64 0, .int .i64 0, .int .i64 0, .string ⟨#[]⟩, .slice none 0 0] 91))
  clear h hbw
  have i0 : I64 0 := i64_l 0 (by decide)
  have HI0 := hide i0
  clear i0
  have e : exN L (0 + 1) p = (.mk 1 0 ((b / 9 : Nat) : Int) [] [], p1) := by rw [exN]; simp [hq9, ekN, hk]
  rw [e]
  clear e
  have hi5 : I64 ((b / 9 : Nat) : Int) := i64_l _ (by omega)
  have HI5 := hide hi5
  clear hi5
  have hb9 : (b : Int) % 9 = 6 := by omega
  go_enter Tryd.func41, Tryd.ntmps41
  go_wp2_with fail
  refine (HN.out p _ HSRC.out).mono ?_
  rintro r w2 ⟨hr, HS, hK⟩
  rw [hq9] at hr HS
  subst hr
  have HZ := hide (hK.heap (by simp; omega) HZ0.out)
  clear hk hq9
  go_wp2_with fail
  refine (num_any _ _).mono ?_
  unfold eLf
  rintro r w4 ⟨rfl, hb4⟩
  have hK4 := kept_below (l := [sb]) hb4
  have HZ := hide (hK4.heap (by simp; omega) HZ.out)
  have HS4 := HS.below hb4
  have q0 := cell_at (j := 0) HZ.out rfl
  have q1 := cell_at (j := 1) HZ.out rfl
  have q2 := cell_at (j := 2) HZ.out rfl
  have q3 := cell_at (j := 3) HZ.out rfl
  have q4 := cell_at (j := 4) HZ.out rfl
  have z0 := free_at (j := 0) HZ.out
  have z1 := free_at (j := 1) HZ.out
  have z2 := free_at (j := 2) HZ.out
  have z3 := free_at (j := 3) HZ.out
  have z4 := free_at (j := 4) HZ.out
  have hzl := cell_lt q0
  simp only at hzl
  go_wp2_with fail
  have hfin := fin5 (.int .i64 1) (.int .i64 0) (.int .i64 ((b : Int) / 9)) (.string ⟨#[]⟩) (.slice none 0 0) HS4 ((HK0.out.tr hK).tr hK4) hsb
  exact bodyPost_ret (v := leafV 1 0 ((b / 9 : Nat) : Int) []) (by simp [results, Tryd.results41, go_sem, q0, q1, q2, q3, q4, leafV, nodeV]) rfl ⟨⟨_, rfl, leaf_val _ (show I64 1 from i64_l 1 (by decide)) HI0.out HI5.out (Nat.zero_le _)⟩, hfin.1, hfin.2⟩
set_option maxRecDepth 20000 in
set_option maxHeartbeats 2000000 in
theorem nexpr_low7 (sb nx : Nat) (L : List Nat) (d : Nat) (w : World) (p : Nat) (h : Rdr w sb L p nx) (b p1 : Nat) (hq9 : rbN L p = (b, p1)) (hk : b % 9 = 7) (hz : d = 0) :
    Calls Tryd.prog 41 #[.pointer (some ⟨sb, 0, none⟩), .int .i64 (d + 1 : Nat)] w (ExQ w sb L nx (exN L (d + 1) p)) := by
  subst hz
  have hb := h.byte_le p
  rw [hq9] at hb
  simp only at hb
  have hbw := fun p => h.byte_le p
  have HBW := hide hbw
  have HN := hide fun (p : Nat) (W : World) (hW : Rdr W sb L p nx) => byte_any sb nx p L W hW
  have HSRC := hide (h.al (.cells #[.int .i64 0, .int .i64 0, .int .i64 0, .string ⟨#[]⟩, .slice none 0 0] 91))
  have hsb := h.lt
  have HZ0 : Hid ((w.alloc (.cells #[.int .i64 0, .int .i64 0, .int .i64 0, .string ⟨#[]⟩, .slice none 0 0] 91)).heap[w.heap.size]? = some (.cells #[.int .i64 0, .int .i64 0, .int .i64 0, .string ⟨#[]⟩, .slice none 0 0] 91 (0, 0))) := hide (by show (w.heap.push _)[w.heap.size]? = _; simp)
  have HK0 := hide ((Kept.refl [sb] w).al (.cells #[.int .i64 0, .int .i64 0, .int .i64 0, .string ⟨#[]⟩, .slice none 0 0] 91))
  clear h hbw
  have i0 : I64 0 := i64_l 0 (by decide)
  have HI0 := hide i0
  clear i0
  have e : exN L (0 + 1) p = (.mk 2 0 ((b / 9 % 2 : Nat) : Int) [] [], p1) := by rw [exN]; simp [hq9, ekN, hk]
  rw [e]
  clear e
  have hi5 : I64 ((b / 9 % 2 : Nat) : Int) := i64_l _ (by omega)
  have HI5 := hide hi5
  clear hi5
  have hb9 : (b : Int) % 9 = 7 := by omega
  go_enter Tryd.func41, Tryd.ntmps41
  go_wp2_with fail
  refine (HN.out p _ HSRC.out).mono ?_
  rintro r w2 ⟨hr, HS, hK⟩
  rw [hq9] at hr HS
  subst hr
  have HZ := hide (hK.heap (by simp; omega) HZ0.out)
  clear hk hq9
  have q0 := cell_at (j := 0) HZ.out rfl
  have q1 := cell_at (j := 1) HZ.out rfl
  have q2 := cell_at (j := 2) HZ.out rfl
  have q3 := cell_at (j := 3) HZ.out rfl
  have q4 := cell_at (j := 4) HZ.out rfl
  have z0 := free_at (j := 0) HZ.out
  have z1 := free_at (j := 1) HZ.out
  have z2 := free_at (j := 2) HZ.out
  have z3 := free_at (j := 3) HZ.out
  have z4 := free_at (j := 4) HZ.out
  have hzl := cell_lt q0
  simp only at hzl
  go_wp2_with fail
  have hfin := fin5 (.int .i64 2) (.int .i64 0) (.int .i64 ((b : Int) / 9 % 2)) (.string ⟨#[]⟩) (.slice none 0 0) HS (HK0.out.tr hK) hsb
  exact bodyPost_ret (v := leafV 2 0 ((b / 9 % 2 : Nat) : Int) []) (by simp [results, Tryd.results41, go_sem, q0, q1, q2, q3, q4, leafV, nodeV]) rfl ⟨⟨_, rfl, leaf_val _ (show I64 2 from i64_l 2 (by decide)) HI0.out HI5.out (Nat.zero_le _)⟩, hfin.1, hfin.2⟩
set_option maxRecDepth 20000 in
set_option maxHeartbeats 2000000 in
theorem nexpr_low8 (sb nx : Nat) (L : List Nat) (d : Nat) (w : World) (p : Nat) (h : Rdr w sb L p nx) (b p1 : Nat) (hq9 : rbN L p = (b, p1)) (hk : b % 9 = 8) (hz : d = 0) :
    Calls Tryd.prog 41 #[.pointer (some ⟨sb, 0, none⟩), .int .i64 (d + 1 : Nat)] w (ExQ w sb L nx (exN L (d + 1) p)) := by
  subst hz
  have hb := h.byte_le p
  rw [hq9] at hb
  simp only at hb
  have hbw := fun p => h.byte_le p
  have HBW := hide hbw
  have HN := hide fun (p : Nat) (W : World) (hW : Rdr W sb L p nx) => byte_any sb nx p L W hW
  have HSRC := hide (h.al (.cells #[.int .i64 0, .int .i64 0, .int .i64 0, .string ⟨#[]⟩, .slice none 0 0] 91))
  have hsb := h.lt
  have HZ0 : Hid ((w.alloc (.cells #[.int .i64 0, .int .i64 0, .int .i64 0, .string ⟨#[]⟩, .slice none 0 0] 91)).heap[w.heap.size]? = some (.cells #[.int .i64 0, .int .i64 0, .int .i64 0, .string ⟨#[]⟩, .slice none 0 0] 91 (0, 0))) := hide (by show (w.heap.push _)[w.heap.size]? = _; simp)
  have HK0 := hide ((Kept.refl [sb] w).al (.cells #[.int .i64 0, .int .i64 0, .int .i64 0, .string ⟨#[]⟩, .slice none 0 0] 91))
  clear h hbw
  have i0 : I64 0 := i64_l 0 (by decide)
  have HI0 := hide i0
  clear i0
  have e : exN L (0 + 1) p = (.mk 3 0 0 (wrN L p1).1 [], (wrN L p1).2) := by rw [exN]; simp [hq9, ekN, hk]
  rw [e]
  clear e
  have hb9 : (b : Int) % 9 = 8 := by omega
  go_enter Tryd.func41, Tryd.ntmps41
  go_wp2_with fail
  refine (HN.out p _ HSRC.out).mono ?_
  rintro r w2 ⟨hr, HS, hK⟩
  rw [hq9] at hr HS
  subst hr
  have HZ := hide (hK.heap (by simp; omega) HZ0.out)
  clear hk hq9
  go_wp2_with fail
  refine (HN.out p1 _ HS).mono ?_
  rintro r w3 ⟨rfl, HS3, hK3⟩
  have HZ := hide (hK3.heap (by simp; omega) HZ.out)
  go_wp2_with fail
  refine (word_any _ (HBW.out p1) _).mono ?_
  rintro r w4 ⟨rfl, hb4⟩
  have hK4 := kept_below (l := [sb]) hb4
  have HZ := hide (hK4.heap (by simp; omega) HZ.out)
  have HS4 := HS3.below hb4
  have HE : Hid (wdN (rbN L p1).1 = (wrN L p1).1) := hide rfl
  have HE2 : Hid ((rbN L p1).2 = (wrN L p1).2) := hide rfl
  rw [HE.out]
  rw [HE2.out] at HS4
  go_wp2_with fail
  refine (variable_any _ _).mono ?_
  unfold eLf
  rintro r w5 ⟨rfl, hb5⟩
  have hK5 := kept_below (l := [sb]) hb5
  have HZ := hide (hK5.heap (by simp; omega) HZ.out)
  have HS5 := HS4.below hb5
  have q0 := cell_at (j := 0) HZ.out rfl
  have q1 := cell_at (j := 1) HZ.out rfl
  have q2 := cell_at (j := 2) HZ.out rfl
  have q3 := cell_at (j := 3) HZ.out rfl
  have q4 := cell_at (j := 4) HZ.out rfl
  have z0 := free_at (j := 0) HZ.out
  have z1 := free_at (j := 1) HZ.out
  have z2 := free_at (j := 2) HZ.out
  have z3 := free_at (j := 3) HZ.out
  have z4 := free_at (j := 4) HZ.out
  have hzl := cell_lt q0
  simp only at hzl
  go_wp2_with fail
  have hfin := fin5 (.int .i64 3) (.int .i64 0) (.int .i64 0) (.string ⟨(wrN L p1).1.toArray⟩) (.slice none 0 0) HS5 ((((HK0.out.tr hK).tr hK3).tr hK4).tr hK5) hsb
  exact bodyPost_ret (v := leafV 3 0 0 (wrN L p1).1) (by simp [results, Tryd.results41, go_sem, q0, q1, q2, q3, q4, leafV, nodeV]) rfl ⟨⟨_, rfl, leaf_val _ (show I64 3 from i64_l 3 (by decide)) HI0.out HI0.out (by rw [wrN_len]; exact one_le)⟩, hfin.1, hfin.2⟩
set_option maxRecDepth 20000 in
set_option maxHeartbeats 2000000 in
theorem nexpr_ix (sb nx : Nat) (L : List Nat) (d : Nat) (w : World) (p : Nat) (h : Rdr w sb L p nx) (b p1 : Nat) (hq9 : rbN L p = (b, p1)) (hk : b % 9 = 4) (hd0 : 0 < d) (hdb : (d : Int) ≤ 100) (IH : Hid (∀ (w : World) (p : Nat), Rdr w sb L p nx → Calls Tryd.prog 41 #[.pointer (some ⟨sb, 0, none⟩), .int .i64 d] w (ExQ w sb L nx (exN L d p)))) :
    Calls Tryd.prog 41 #[.pointer (some ⟨sb, 0, none⟩), .int .i64 (d + 1 : Nat)] w (ExQ w sb L nx (exN L (d + 1) p)) := by
  have hb := h.byte_le p
  rw [hq9] at hb
  simp only at hb
  have hbw := fun p => h.byte_le p
  have HBW := hide hbw
  have HN := hide fun (p : Nat) (W : World) (hW : Rdr W sb L p nx) => byte_any sb nx p L W hW
  have HSRC := hide (h.al (.cells #[.int .i64 0, .int .i64 0, .int .i64 0, .string ⟨#[]⟩, .slice none 0 0] 91))
  have hsb := h.lt
  have HZ0 : Hid ((w.alloc (.cells #[.int .i64 0, .int .i64 0, .int .i64 0, .string ⟨#[]⟩, .slice none 0 0] 91)).heap[w.heap.size]? = some (.cells #[.int .i64 0, .int .i64 0, .int .i64 0, .string ⟨#[]⟩, .slice none 0 0] 91 (0, 0))) := hide (by show (w.heap.push _)[w.heap.size]? = _; simp)
  have HK0 := hide ((Kept.refl [sb] w).al (.cells #[.int .i64 0, .int .i64 0, .int .i64 0, .string ⟨#[]⟩, .slice none 0 0] 91))
  clear h hbw
  have i0 : I64 0 := i64_l 0 (by decide)
  have HI0 := hide i0
  clear i0
  have hd1 : (1 : Int) ≤ (d : Int) := by omega
  have hd2 : ¬ ((d : Int) + 1 ≤ 1) := by omega
  have hdz : d ≠ 0 := by omega
  have e : exN L (d + 1) p = (.mk 6 0 0 (wrN L p1).1 [(exN L d (wrN L p1).2).1], (exN L d (wrN L p1).2).2) := by rw [exN]; simp [hq9, ekN, hk, hdz]
  rw [e]
  clear e
  have hb9 : (b : Int) % 9 = 4 := by omega
  go_enter Tryd.func41, Tryd.ntmps41
  go_wp2_with fail
  refine (HN.out p _ HSRC.out).mono ?_
  rintro r w2 ⟨hr, HS, hK⟩
  rw [hq9] at hr HS
  subst hr
  have HZ := hide (hK.heap (by simp; omega) HZ0.out)
  clear hk hq9
  go_wp2_with fail
  refine (HN.out p1 _ HS).mono ?_
  rintro r w3 ⟨rfl, HS3, hK3⟩
  have HZ := hide (hK3.heap (by simp; omega) HZ.out)
  go_wp2_with fail
  refine (word_any _ (HBW.out p1) _).mono ?_
  rintro r w4 ⟨rfl, hb4⟩
  have hK4 := kept_below (l := [sb]) hb4
  have HZ := hide (hK4.heap (by simp; omega) HZ.out)
  have HS4 := HS3.below hb4
  have HE : Hid (wdN (rbN L p1).1 = (wrN L p1).1) := hide rfl
  have HE2 : Hid ((rbN L p1).2 = (wrN L p1).2) := hide rfl
  rw [HE.out]
  rw [HE2.out] at HS4
  go_wp2_with fail
  (with_reducible refine (IH.out _ _ HS4).mono ?_)
  rintro r w5 ⟨⟨v, rfl, hv⟩, HS5, hK5⟩
  have hw4 : w.heap.size < w4.heap.size := (Array.getElem?_eq_some_iff.1 HZ.out).1
  have HZ := hide (hK5.heap (by simp; omega) HZ.out)
  obtain ⟨ea, ecap, rfl, hew, her⟩ := hv
  have HEW := hide hew
  have HER := hide her
  clear hew her
  have q0 := cell_at (j := 0) HZ.out rfl
  have q1 := cell_at (j := 1) HZ.out rfl
  have q2 := cell_at (j := 2) HZ.out rfl
  have q3 := cell_at (j := 3) HZ.out rfl
  have q4 := cell_at (j := 4) HZ.out rfl
  have z0 := free_at (j := 0) HZ.out
  have z1 := free_at (j := 1) HZ.out
  have z2 := free_at (j := 2) HZ.out
  have z3 := free_at (j := 3) HZ.out
  have z4 := free_at (j := 4) HZ.out
  have hzl := cell_lt q0
  simp only at hzl
  go_wp2_with fail
  have hfin := fin5 (.int .i64 6) (.int .i64 0) (.int .i64 0) (.string ⟨(wrN L p1).1.toArray⟩) (.slice (some ⟨w5.heap.size, 0, none⟩) 1 1) HS5 ((((HK0.out.tr hK).tr hK3).tr hK4).tr hK5) hsb
  have hrd := read5 (.int .i64 6) (.int .i64 0) (.int .i64 0) (.string ⟨(wrN L p1).1.toArray⟩) (.slice (some ⟨w5.heap.size, 0, none⟩) 1 1) HZ.out rfl
  have hsz := size5 (w := w) (W := w5) (.int .i64 6) (.int .i64 0) (.int .i64 0) (.string ⟨(wrN L p1).1.toArray⟩) (.slice (some ⟨w5.heap.size, 0, none⟩) 1 1)
  refine bodyPost_ret (v := nodeV 6 0 (wrN L p1).1 w5.heap.size 1) (by simp [results, Tryd.results41, go_sem, hrd, leafV, nodeV]) rfl ⟨⟨_, rfl, _, _, rfl, ⟨(show I64 6 from i64_l 6 (by decide)), HI0.out, HI0.out, (show (wrN L p1).1.length ≤ maxLen by rw [wrN_len]; exact one_le), Nat.le_refl _, one_le⟩, ?_⟩, hfin.1.al _, hfin.2.al _⟩
  exact Ex.rowA 91 HEW.out (row5 _ _ _ _ _ hw4 HER.out) (bl _) hsz.symm (by rw [hsz]; omega)
set_option maxRecDepth 20000 in
set_option maxHeartbeats 2000000 in
theorem nexpr_un (sb nx : Nat) (L : List Nat) (d : Nat) (w : World) (p : Nat) (h : Rdr w sb L p nx) (b p1 : Nat) (hq9 : rbN L p = (b, p1)) (hk : b % 9 = 5) (hd0 : 0 < d) (hdb : (d : Int) ≤ 100) (IH : Hid (∀ (w : World) (p : Nat), Rdr w sb L p nx → Calls Tryd.prog 41 #[.pointer (some ⟨sb, 0, none⟩), .int .i64 d] w (ExQ w sb L nx (exN L d p)))) :
    Calls Tryd.prog 41 #[.pointer (some ⟨sb, 0, none⟩), .int .i64 (d + 1 : Nat)] w (ExQ w sb L nx (exN L (d + 1) p)) := by
  have hb := h.byte_le p
  rw [hq9] at hb
  simp only at hb
  have hbw := fun p => h.byte_le p
  have HBW := hide hbw
  have HN := hide fun (p : Nat) (W : World) (hW : Rdr W sb L p nx) => byte_any sb nx p L W hW
  have HSRC := hide (h.al (.cells #[.int .i64 0, .int .i64 0, .int .i64 0, .string ⟨#[]⟩, .slice none 0 0] 91))
  have hsb := h.lt
  have HZ0 : Hid ((w.alloc (.cells #[.int .i64 0, .int .i64 0, .int .i64 0, .string ⟨#[]⟩, .slice none 0 0] 91)).heap[w.heap.size]? = some (.cells #[.int .i64 0, .int .i64 0, .int .i64 0, .string ⟨#[]⟩, .slice none 0 0] 91 (0, 0))) := hide (by show (w.heap.push _)[w.heap.size]? = _; simp)
  have HK0 := hide ((Kept.refl [sb] w).al (.cells #[.int .i64 0, .int .i64 0, .int .i64 0, .string ⟨#[]⟩, .slice none 0 0] 91))
  clear h hbw
  have i0 : I64 0 := i64_l 0 (by decide)
  have HI0 := hide i0
  clear i0
  have hd1 : (1 : Int) ≤ (d : Int) := by omega
  have hd2 : ¬ ((d : Int) + 1 ≤ 1) := by omega
  have hdz : d ≠ 0 := by omega
  have e : exN L (d + 1) p = (.mk 4 ((14 + b / 9 % 2 : Nat) : Int) 0 [] [(exN L d p1).1], (exN L d p1).2) := by rw [exN]; simp [hq9, ekN, hk, hdz]
  rw [e]
  clear e
  have hi5 : I64 ((14 + b / 9 % 2 : Nat) : Int) := i64_l _ (by omega)
  have HI5 := hide hi5
  clear hi5
  have hb9 : (b : Int) % 9 = 5 := by omega
  go_enter Tryd.func41, Tryd.ntmps41
  go_wp2_with fail
  refine (HN.out p _ HSRC.out).mono ?_
  rintro r w2 ⟨hr, HS, hK⟩
  rw [hq9] at hr HS
  subst hr
  have HZ := hide (hK.heap (by simp; omega) HZ0.out)
  clear hk hq9
  go_wp2_with fail
  (with_reducible refine (IH.out _ _ HS).mono ?_)
  rintro r w5 ⟨⟨v, rfl, hv⟩, HS5, hK5⟩
  have hw4 : w.heap.size < w2.heap.size := (Array.getElem?_eq_some_iff.1 HZ.out).1
  have HZ := hide (hK5.heap (by simp; omega) HZ.out)
  obtain ⟨ea, ecap, rfl, hew, her⟩ := hv
  have HEW := hide hew
  have HER := hide her
  clear hew her
  have q0 := cell_at (j := 0) HZ.out rfl
  have q1 := cell_at (j := 1) HZ.out rfl
  have q2 := cell_at (j := 2) HZ.out rfl
  have q3 := cell_at (j := 3) HZ.out rfl
  have q4 := cell_at (j := 4) HZ.out rfl
  have z0 := free_at (j := 0) HZ.out
  have z1 := free_at (j := 1) HZ.out
  have z2 := free_at (j := 2) HZ.out
  have z3 := free_at (j := 3) HZ.out
  have z4 := free_at (j := 4) HZ.out
  have hzl := cell_lt q0
  simp only at hzl
  go_wp2_with fail
  have hfin := fin5 (.int .i64 4) (.int .i64 (14 + (b : Int) / 9 % 2)) (.int .i64 0) (.string ⟨#[]⟩) (.slice (some ⟨w5.heap.size, 0, none⟩) 1 1) HS5 ((HK0.out.tr hK).tr hK5) hsb
  have hrd := read5 (.int .i64 4) (.int .i64 (14 + (b : Int) / 9 % 2)) (.int .i64 0) (.string ⟨#[]⟩) (.slice (some ⟨w5.heap.size, 0, none⟩) 1 1) HZ.out rfl
  have hsz := size5 (w := w) (W := w5) (.int .i64 4) (.int .i64 (14 + (b : Int) / 9 % 2)) (.int .i64 0) (.string ⟨#[]⟩) (.slice (some ⟨w5.heap.size, 0, none⟩) 1 1)
  refine bodyPost_ret (v := nodeV 4 ((14 + b / 9 % 2 : Nat) : Int) [] w5.heap.size 1) (by simp [results, Tryd.results41, go_sem, hrd, leafV, nodeV]) rfl ⟨⟨_, rfl, _, _, rfl, ⟨(show I64 4 from i64_l 4 (by decide)), HI5.out, HI0.out, Nat.zero_le _, Nat.le_refl _, one_le⟩, ?_⟩, hfin.1.al _, hfin.2.al _⟩
  exact Ex.rowA 91 HEW.out (row5 _ _ _ _ _ hw4 HER.out) (bl _) hsz.symm (by rw [hsz]; omega)
set_option maxRecDepth 20000 in
set_option maxHeartbeats 2000000 in
theorem nexpr_bin6 (sb nx : Nat) (L : List Nat) (d : Nat) (w : World) (p : Nat) (h : Rdr w sb L p nx) (b p1 : Nat) (hq9 : rbN L p = (b, p1)) (hk : b % 9 = 6) (hd0 : 0 < d) (hdb : (d : Int) ≤ 100) (IH : Hid (∀ (w : World) (p : Nat), Rdr w sb L p nx → Calls Tryd.prog 41 #[.pointer (some ⟨sb, 0, none⟩), .int .i64 d] w (ExQ w sb L nx (exN L d p)))) :
    Calls Tryd.prog 41 #[.pointer (some ⟨sb, 0, none⟩), .int .i64 (d + 1 : Nat)] w (ExQ w sb L nx (exN L (d + 1) p)) := by
  have hb := h.byte_le p
  rw [hq9] at hb
  simp only at hb
  have hbw := fun p => h.byte_le p
  have HBW := hide hbw
  have HN := hide fun (p : Nat) (W : World) (hW : Rdr W sb L p nx) => byte_any sb nx p L W hW
  have HSRC := hide (h.al (.cells #[.int .i64 0, .int .i64 0, .int .i64 0, .string ⟨#[]⟩, .slice none 0 0] 91))
  have hsb := h.lt
  have HZ0 : Hid ((w.alloc (.cells #[.int .i64 0, .int .i64 0, .int .i64 0, .string ⟨#[]⟩, .slice none 0 0] 91)).heap[w.heap.size]? = some (.cells #[.int .i64 0, .int .i64 0, .int .i64 0, .string ⟨#[]⟩, .slice none 0 0] 91 (0, 0))) := hide (by show (w.heap.push _)[w.heap.size]? = _; simp)
  have HK0 := hide ((Kept.refl [sb] w).al (.cells #[.int .i64 0, .int .i64 0, .int .i64 0, .string ⟨#[]⟩, .slice none 0 0] 91))
  clear h hbw
  have i0 : I64 0 := i64_l 0 (by decide)
  have HI0 := hide i0
  clear i0
  have hd1 : (1 : Int) ≤ (d : Int) := by omega
  have hd2 : ¬ ((d : Int) + 1 ≤ 1) := by omega
  have hdz : d ≠ 0 := by omega
  have e : exN L (d + 1) p = (.mk 5 ((1 + b / 9 % 13 : Nat) : Int) 0 [] [(exN L d p1).1, (exN L d (exN L d p1).2).1], (exN L d (exN L d p1).2).2) := by rw [exN]; simp [hq9, ekN, hk, hdz]
  rw [e]
  clear e
  have hi5 : I64 ((1 + b / 9 % 13 : Nat) : Int) := i64_l _ (by omega)
  have HI5 := hide hi5
  clear hi5
  have hb9 : (b : Int) % 9 = 6 := by omega
  go_enter Tryd.func41, Tryd.ntmps41
  go_wp2_with fail
  refine (HN.out p _ HSRC.out).mono ?_
  rintro r w2 ⟨hr, HS, hK⟩
  rw [hq9] at hr HS
  subst hr
  have HZ := hide (hK.heap (by simp; omega) HZ0.out)
  clear hk hq9
  go_wp2_with fail
  (with_reducible refine (IH.out _ _ HS).mono ?_)
  rintro r w4 ⟨⟨v, rfl, hv⟩, HS4, hK4⟩
  have hw2 : w.heap.size < w2.heap.size := (Array.getElem?_eq_some_iff.1 HZ.out).1
  have HZ := hide (hK4.heap (by simp; omega) HZ.out)
  obtain ⟨ea, ecap, rfl, hew, her⟩ := hv
  have HEW := hide hew
  have HER := hide her
  clear hew her
  go_upto_region 19 with fail
  have HX : Hid ((w4.alloc (.cells #[.int .i64 (exN L d p1).1.kind, .int .i64 (exN L d p1).1.op, .int .i64 (exN L d p1).1.num, .string ⟨List.toArray (exN L d p1).1.name⟩, .slice ea (exN L d p1).1.args.length ecap] 91)).heap[w4.heap.size]? = some (.cells #[.int .i64 (exN L d p1).1.kind, .int .i64 (exN L d p1).1.op, .int .i64 (exN L d p1).1.num, .string ⟨List.toArray (exN L d p1).1.name⟩, .slice ea (exN L d p1).1.args.length ecap] 91 (0, 0))) := hide (heap_alloc_new _ _)
  have HS5 := (HS4.al (.cells #[.int .i64 (exN L d p1).1.kind, .int .i64 (exN L d p1).1.op, .int .i64 (exN L d p1).1.num, .string ⟨List.toArray (exN L d p1).1.name⟩, .slice ea (exN L d p1).1.args.length ecap] 91)).below (bl _).dr
  have hw4 : w.heap.size < w4.heap.size := (Array.getElem?_eq_some_iff.1 HZ.out).1
  have HZ := hide ((Below.heap_alloc _ (.cells #[.int .i64 (exN L d p1).1.kind, .int .i64 (exN L d p1).1.op, .int .i64 (exN L d p1).1.num, .string ⟨List.toArray (exN L d p1).1.name⟩, .slice ea (exN L d p1).1.args.length ecap] 91) _ hw4).trans HZ.out)
  have HK5 := hide (((HK0.out.tr hK).tr hK4).al (.cells #[.int .i64 (exN L d p1).1.kind, .int .i64 (exN L d p1).1.op, .int .i64 (exN L d p1).1.num, .string ⟨List.toArray (exN L d p1).1.name⟩, .slice ea (exN L d p1).1.args.length ecap] 91))
  have HER5 : Hid (Ex.Row (nw w2.heap.size (w4.alloc (.cells #[.int .i64 (exN L d p1).1.kind, .int .i64 (exN L d p1).1.op, .int .i64 (exN L d p1).1.num, .string ⟨List.toArray (exN L d p1).1.name⟩, .slice ea (exN L d p1).1.args.length ecap] 91))) (exN L d p1).1.args ea) := hide (HER.out.has (has_nw_below ((bl w4).al _)))
  have hnw : w2.heap.size ≤ w4.heap.size := hK4.size
  have hns : w4.heap.size ∉ [sb] := by simp; omega
  have hws : w.heap.size ∉ [sb] := by simp; omega
  clear HZ0 HSRC HK0 HN HS HS4 hK hK4 HER
  generalize exN L d p1 = q1 at *
  obtain ⟨e1, p2⟩ := q1
  simp only at HX HS5 HZ HK5 HER5 HEW ⊢
  generalize w4.alloc (.cells #[.int .i64 e1.kind, .int .i64 e1.op, .int .i64 e1.num, .string ⟨List.toArray e1.name⟩, .slice ea e1.args.length ecap] 91) = w5 at *
  generalize w4.heap.size = n at *
  have x0 := cell_at (j := 0) HX.out rfl
  have x1 := cell_at (j := 1) HX.out rfl
  have x2 := cell_at (j := 2) HX.out rfl
  have x3 := cell_at (j := 3) HX.out rfl
  have x4 := cell_at (j := 4) HX.out rfl
  have hne1 : ¬ w.heap.size = n := by omega
  have hne2 : ¬ n = w.heap.size := by omega
  have hv1 : IntKind.i64.wrap (d : Int) = (d : Int) := IntWalk.i64_in _ (by omega)
  have hv2 : IntKind.u8.wrap ((b : Int) / 9) = (b : Int) / 9 := IntWalk.u8_in _ (by omega)
  have hv3 : ((b : Int) / 9).tmod 13 = (b : Int) / 9 % 13 := Int.tmod_eq_emod_of_nonneg (by omega)
  have hv4 : IntKind.i64.wrap ((b : Int) / 9 % 13) = (b : Int) / 9 % 13 := IntWalk.i64_in _ (by omega)
  have hv5 : IntKind.i64.wrap (1 + (b : Int) / 9 % 13) = 1 + (b : Int) / 9 % 13 := IntWalk.i64_in _ (by omega)
  go_region_held3 (fun W => W.cell? ⟨n, 0, none⟩ = some (.int .i64 e1.kind) ∧ W.cell? ⟨n, 1, none⟩ = some (.int .i64 e1.op) ∧ W.cell? ⟨n, 2, none⟩ = some (.int .i64 e1.num) ∧ W.cell? ⟨n, 3, none⟩ = some (.string ⟨List.toArray e1.name⟩) ∧ W.cell? ⟨n, 4, none⟩ = some (.slice ea e1.args.length ecap))
    (first | with_reducible exact ⟨x0, x1, x2, x3, x4⟩ | with_reducible exact ⟨y0, y1, y2, y3, y4⟩ | go_keep)
    (first | (go_at_call 41; (with_reducible refine (IH.out _ _ HS5).mono ?_); rintro r w6 ⟨⟨v, rfl, hv⟩, HS6, hK6⟩; obtain ⟨ea2, ecap2, rfl, hew2, her2⟩ := hv; have HEW2 := hide hew2; have HER2 := hide her2; have HK6 := hide hK6; have y0 := hK6.cell hns x0; have y1 := hK6.cell hns x1; have y2 := hK6.cell hns x2; have y3 := hK6.cell hns x3; have y4 := hK6.cell hns x4; have HZ6 := hide (hK6.heap hws HZ.out); have q0 := cell_at (j := 0) HZ6.out rfl; have q1 := cell_at (j := 1) HZ6.out rfl; have q2 := cell_at (j := 2) HZ6.out rfl; have q3 := cell_at (j := 3) HZ6.out rfl; have q4 := cell_at (j := 4) HZ6.out rfl; have z0 := free_at (j := 0) HZ6.out; have z1 := free_at (j := 1) HZ6.out; have z2 := free_at (j := 2) HZ6.out; have z3 := free_at (j := 3) HZ6.out; have z4 := free_at (j := 4) HZ6.out; have hzl := (Array.getElem?_eq_some_iff.1 HZ6.out).1; have hnl : n < w6.heap.size := cell_lt y0; clear hew2 her2 hK6))
  clear hv1 hv2 hv3 hv4 hv5
  go_wp2_with fail
  have hsb2 : sb < w2.heap.size := by omega
  have h65 : n < w5.drew.heap.size := (Array.getElem?_eq_some_iff.1 HX.out).1
  have HER6 := (HER5.out.has (has_nw_below (bl w5).dr)).has (has_nw_one HK6.out hsb2)
  have hfin := fin5 (.int .i64 5) (.int .i64 (1 + (b : Int) / 9 % 13)) (.int .i64 0) (.string ⟨#[]⟩) (.slice (some ⟨w6.heap.size, 0, none⟩) 2 2) HS6 (HK5.out.dr.tr HK6.out) hsb
  have hrd := read5 (.int .i64 5) (.int .i64 (1 + (b : Int) / 9 % 13)) (.int .i64 0) (.string ⟨#[]⟩) (.slice (some ⟨w6.heap.size, 0, none⟩) 2 2) HZ6.out rfl
  have hsz := size5 (w := w) (W := w6) (.int .i64 5) (.int .i64 (1 + (b : Int) / 9 % 13)) (.int .i64 0) (.string ⟨#[]⟩) (.slice (some ⟨w6.heap.size, 0, none⟩) 2 2)
  refine bodyPost_ret (v := nodeV 5 ((1 + b / 9 % 13 : Nat) : Int) [] w6.heap.size 2) (by simp [results, Tryd.results41, go_sem, hrd, leafV, nodeV]) rfl ⟨⟨_, rfl, _, _, rfl, ⟨(show I64 5 from i64_l 5 (by decide)), HI5.out, HI0.out, Nat.zero_le _, Nat.le_refl _, two_le⟩, ?_⟩, hfin.1.al _, hfin.2.al _⟩
  exact Ex.rowB 91 HEW.out (row5 _ _ _ _ _ hw2 HER6) HEW2.out (row5 _ _ _ _ _ (by omega) HER2.out) (bl _) hsz.symm (by rw [hsz]; omega)
set_option maxRecDepth 20000 in
set_option maxHeartbeats 2000000 in
theorem nexpr_bin7 (sb nx : Nat) (L : List Nat) (d : Nat) (w : World) (p : Nat) (h : Rdr w sb L p nx) (b p1 : Nat) (hq9 : rbN L p = (b, p1)) (hk : b % 9 = 7) (hd0 : 0 < d) (hdb : (d : Int) ≤ 100) (IH : Hid (∀ (w : World) (p : Nat), Rdr w sb L p nx → Calls Tryd.prog 41 #[.pointer (some ⟨sb, 0, none⟩), .int .i64 d] w (ExQ w sb L nx (exN L d p)))) :
    Calls Tryd.prog 41 #[.pointer (some ⟨sb, 0, none⟩), .int .i64 (d + 1 : Nat)] w (ExQ w sb L nx (exN L (d + 1) p)) := by
  have hb := h.byte_le p
  rw [hq9] at hb
  simp only at hb
  have hbw := fun p => h.byte_le p
  have HBW := hide hbw
  have HN := hide fun (p : Nat) (W : World) (hW : Rdr W sb L p nx) => byte_any sb nx p L W hW
  have HSRC := hide (h.al (.cells #[.int .i64 0, .int .i64 0, .int .i64 0, .string ⟨#[]⟩, .slice none 0 0] 91))
  have hsb := h.lt
  have HZ0 : Hid ((w.alloc (.cells #[.int .i64 0, .int .i64 0, .int .i64 0, .string ⟨#[]⟩, .slice none 0 0] 91)).heap[w.heap.size]? = some (.cells #[.int .i64 0, .int .i64 0, .int .i64 0, .string ⟨#[]⟩, .slice none 0 0] 91 (0, 0))) := hide (by show (w.heap.push _)[w.heap.size]? = _; simp)
  have HK0 := hide ((Kept.refl [sb] w).al (.cells #[.int .i64 0, .int .i64 0, .int .i64 0, .string ⟨#[]⟩, .slice none 0 0] 91))
  clear h hbw
  have i0 : I64 0 := i64_l 0 (by decide)
  have HI0 := hide i0
  clear i0
  have hd1 : (1 : Int) ≤ (d : Int) := by omega
  have hd2 : ¬ ((d : Int) + 1 ≤ 1) := by omega
  have hdz : d ≠ 0 := by omega
  have e : exN L (d + 1) p = (.mk 5 ((1 + b / 9 % 13 : Nat) : Int) 0 [] [(exN L d p1).1, (exN L d (exN L d p1).2).1], (exN L d (exN L d p1).2).2) := by rw [exN]; simp [hq9, ekN, hk, hdz]
  rw [e]
  clear e
  have hi5 : I64 ((1 + b / 9 % 13 : Nat) : Int) := i64_l _ (by omega)
  have HI5 := hide hi5
  clear hi5
  have hb9 : (b : Int) % 9 = 7 := by omega
  go_enter Tryd.func41, Tryd.ntmps41
  go_wp2_with fail
  refine (HN.out p _ HSRC.out).mono ?_
  rintro r w2 ⟨hr, HS, hK⟩
  rw [hq9] at hr HS
  subst hr
  have HZ := hide (hK.heap (by simp; omega) HZ0.out)
  clear hk hq9
  go_wp2_with fail
  (with_reducible refine (IH.out _ _ HS).mono ?_)
  rintro r w4 ⟨⟨v, rfl, hv⟩, HS4, hK4⟩
  have hw2 : w.heap.size < w2.heap.size := (Array.getElem?_eq_some_iff.1 HZ.out).1
  have HZ := hide (hK4.heap (by simp; omega) HZ.out)
  obtain ⟨ea, ecap, rfl, hew, her⟩ := hv
  have HEW := hide hew
  have HER := hide her
  clear hew her
  go_upto_region 19 with fail
  have HX : Hid ((w4.alloc (.cells #[.int .i64 (exN L d p1).1.kind, .int .i64 (exN L d p1).1.op, .int .i64 (exN L d p1).1.num, .string ⟨List.toArray (exN L d p1).1.name⟩, .slice ea (exN L d p1).1.args.length ecap] 91)).heap[w4.heap.size]? = some (.cells #[.int .i64 (exN L d p1).1.kind, .int .i64 (exN L d p1).1.op, .int .i64 (exN L d p1).1.num, .string ⟨List.toArray (exN L d p1).1.name⟩, .slice ea (exN L d p1).1.args.length ecap] 91 (0, 0))) := hide (heap_alloc_new _ _)
  have HS5 := (HS4.al (.cells #[.int .i64 (exN L d p1).1.kind, .int .i64 (exN L d p1).1.op, .int .i64 (exN L d p1).1.num, .string ⟨List.toArray (exN L d p1).1.name⟩, .slice ea (exN L d p1).1.args.length ecap] 91)).below (bl _).dr
  have hw4 : w.heap.size < w4.heap.size := (Array.getElem?_eq_some_iff.1 HZ.out).1
  have HZ := hide ((Below.heap_alloc _ (.cells #[.int .i64 (exN L d p1).1.kind, .int .i64 (exN L d p1).1.op, .int .i64 (exN L d p1).1.num, .string ⟨List.toArray (exN L d p1).1.name⟩, .slice ea (exN L d p1).1.args.length ecap] 91) _ hw4).trans HZ.out)
  have HK5 := hide (((HK0.out.tr hK).tr hK4).al (.cells #[.int .i64 (exN L d p1).1.kind, .int .i64 (exN L d p1).1.op, .int .i64 (exN L d p1).1.num, .string ⟨List.toArray (exN L d p1).1.name⟩, .slice ea (exN L d p1).1.args.length ecap] 91))
  have HER5 : Hid (Ex.Row (nw w2.heap.size (w4.alloc (.cells #[.int .i64 (exN L d p1).1.kind, .int .i64 (exN L d p1).1.op, .int .i64 (exN L d p1).1.num, .string ⟨List.toArray (exN L d p1).1.name⟩, .slice ea (exN L d p1).1.args.length ecap] 91))) (exN L d p1).1.args ea) := hide (HER.out.has (has_nw_below ((bl w4).al _)))
  have hnw : w2.heap.size ≤ w4.heap.size := hK4.size
  have hns : w4.heap.size ∉ [sb] := by simp; omega
  have hws : w.heap.size ∉ [sb] := by simp; omega
  clear HZ0 HSRC HK0 HN HS HS4 hK hK4 HER
  generalize exN L d p1 = q1 at *
  obtain ⟨e1, p2⟩ := q1
  simp only at HX HS5 HZ HK5 HER5 HEW ⊢
  generalize w4.alloc (.cells #[.int .i64 e1.kind, .int .i64 e1.op, .int .i64 e1.num, .string ⟨List.toArray e1.name⟩, .slice ea e1.args.length ecap] 91) = w5 at *
  generalize w4.heap.size = n at *
  have x0 := cell_at (j := 0) HX.out rfl
  have x1 := cell_at (j := 1) HX.out rfl
  have x2 := cell_at (j := 2) HX.out rfl
  have x3 := cell_at (j := 3) HX.out rfl
  have x4 := cell_at (j := 4) HX.out rfl
  have hne1 : ¬ w.heap.size = n := by omega
  have hne2 : ¬ n = w.heap.size := by omega
  have hv1 : IntKind.i64.wrap (d : Int) = (d : Int) := IntWalk.i64_in _ (by omega)
  have hv2 : IntKind.u8.wrap ((b : Int) / 9) = (b : Int) / 9 := IntWalk.u8_in _ (by omega)
  have hv3 : ((b : Int) / 9).tmod 13 = (b : Int) / 9 % 13 := Int.tmod_eq_emod_of_nonneg (by omega)
  have hv4 : IntKind.i64.wrap ((b : Int) / 9 % 13) = (b : Int) / 9 % 13 := IntWalk.i64_in _ (by omega)
  have hv5 : IntKind.i64.wrap (1 + (b : Int) / 9 % 13) = 1 + (b : Int) / 9 % 13 := IntWalk.i64_in _ (by omega)
  go_region_held3 (fun W => W.cell? ⟨n, 0, none⟩ = some (.int .i64 e1.kind) ∧ W.cell? ⟨n, 1, none⟩ = some (.int .i64 e1.op) ∧ W.cell? ⟨n, 2, none⟩ = some (.int .i64 e1.num) ∧ W.cell? ⟨n, 3, none⟩ = some (.string ⟨List.toArray e1.name⟩) ∧ W.cell? ⟨n, 4, none⟩ = some (.slice ea e1.args.length ecap))
    (first | with_reducible exact ⟨x0, x1, x2, x3, x4⟩ | with_reducible exact ⟨y0, y1, y2, y3, y4⟩ | go_keep)
    (first | (go_at_call 41; (with_reducible refine (IH.out _ _ HS5).mono ?_); rintro r w6 ⟨⟨v, rfl, hv⟩, HS6, hK6⟩; obtain ⟨ea2, ecap2, rfl, hew2, her2⟩ := hv; have HEW2 := hide hew2; have HER2 := hide her2; have HK6 := hide hK6; have y0 := hK6.cell hns x0; have y1 := hK6.cell hns x1; have y2 := hK6.cell hns x2; have y3 := hK6.cell hns x3; have y4 := hK6.cell hns x4; have HZ6 := hide (hK6.heap hws HZ.out); have q0 := cell_at (j := 0) HZ6.out rfl; have q1 := cell_at (j := 1) HZ6.out rfl; have q2 := cell_at (j := 2) HZ6.out rfl; have q3 := cell_at (j := 3) HZ6.out rfl; have q4 := cell_at (j := 4) HZ6.out rfl; have z0 := free_at (j := 0) HZ6.out; have z1 := free_at (j := 1) HZ6.out; have z2 := free_at (j := 2) HZ6.out; have z3 := free_at (j := 3) HZ6.out; have z4 := free_at (j := 4) HZ6.out; have hzl := (Array.getElem?_eq_some_iff.1 HZ6.out).1; have hnl : n < w6.heap.size := cell_lt y0; clear hew2 her2 hK6))
  clear hv1 hv2 hv3 hv4 hv5
  go_wp2_with fail
  have hsb2 : sb < w2.heap.size := by omega
  have h65 : n < w5.drew.heap.size := (Array.getElem?_eq_some_iff.1 HX.out).1
  have HER6 := (HER5.out.has (has_nw_below (bl w5).dr)).has (has_nw_one HK6.out hsb2)
  have hfin := fin5 (.int .i64 5) (.int .i64 (1 + (b : Int) / 9 % 13)) (.int .i64 0) (.string ⟨#[]⟩) (.slice (some ⟨w6.heap.size, 0, none⟩) 2 2) HS6 (HK5.out.dr.tr HK6.out) hsb
  have hrd := read5 (.int .i64 5) (.int .i64 (1 + (b : Int) / 9 % 13)) (.int .i64 0) (.string ⟨#[]⟩) (.slice (some ⟨w6.heap.size, 0, none⟩) 2 2) HZ6.out rfl
  have hsz := size5 (w := w) (W := w6) (.int .i64 5) (.int .i64 (1 + (b : Int) / 9 % 13)) (.int .i64 0) (.string ⟨#[]⟩) (.slice (some ⟨w6.heap.size, 0, none⟩) 2 2)
  refine bodyPost_ret (v := nodeV 5 ((1 + b / 9 % 13 : Nat) : Int) [] w6.heap.size 2) (by simp [results, Tryd.results41, go_sem, hrd, leafV, nodeV]) rfl ⟨⟨_, rfl, _, _, rfl, ⟨(show I64 5 from i64_l 5 (by decide)), HI5.out, HI0.out, Nat.zero_le _, Nat.le_refl _, two_le⟩, ?_⟩, hfin.1.al _, hfin.2.al _⟩
  exact Ex.rowB 91 HEW.out (row5 _ _ _ _ _ hw2 HER6) HEW2.out (row5 _ _ _ _ _ (by omega) HER2.out) (bl _) hsz.symm (by rw [hsz]; omega)
set_option maxRecDepth 20000 in
set_option maxHeartbeats 2000000 in
theorem nexpr_bin8 (sb nx : Nat) (L : List Nat) (d : Nat) (w : World) (p : Nat) (h : Rdr w sb L p nx) (b p1 : Nat) (hq9 : rbN L p = (b, p1)) (hk : b % 9 = 8) (hd0 : 0 < d) (hdb : (d : Int) ≤ 100) (IH : Hid (∀ (w : World) (p : Nat), Rdr w sb L p nx → Calls Tryd.prog 41 #[.pointer (some ⟨sb, 0, none⟩), .int .i64 d] w (ExQ w sb L nx (exN L d p)))) :
    Calls Tryd.prog 41 #[.pointer (some ⟨sb, 0, none⟩), .int .i64 (d + 1 : Nat)] w (ExQ w sb L nx (exN L (d + 1) p)) := by
  have hb := h.byte_le p
  rw [hq9] at hb
  simp only at hb
  have hbw := fun p => h.byte_le p
  have HBW := hide hbw
  have HN := hide fun (p : Nat) (W : World) (hW : Rdr W sb L p nx) => byte_any sb nx p L W hW
  have HSRC := hide (h.al (.cells #[.int .i64 0, .int .i64 0, .int .i64 0, .string ⟨#[]⟩, .slice none 0 0] 91))
  have hsb := h.lt
  have HZ0 : Hid ((w.alloc (.cells #[.int .i64 0, .int .i64 0, .int .i64 0, .string ⟨#[]⟩, .slice none 0 0] 91)).heap[w.heap.size]? = some (.cells #[.int .i64 0, .int .i64 0, .int .i64 0, .string ⟨#[]⟩, .slice none 0 0] 91 (0, 0))) := hide (by show (w.heap.push _)[w.heap.size]? = _; simp)
  have HK0 := hide ((Kept.refl [sb] w).al (.cells #[.int .i64 0, .int .i64 0, .int .i64 0, .string ⟨#[]⟩, .slice none 0 0] 91))
  clear h hbw
  have i0 : I64 0 := i64_l 0 (by decide)
  have HI0 := hide i0
  clear i0
  have hd1 : (1 : Int) ≤ (d : Int) := by omega
  have hd2 : ¬ ((d : Int) + 1 ≤ 1) := by omega
  have hdz : d ≠ 0 := by omega
  have e : exN L (d + 1) p = (.mk 5 ((1 + b / 9 % 13 : Nat) : Int) 0 [] [(exN L d p1).1, (exN L d (exN L d p1).2).1], (exN L d (exN L d p1).2).2) := by rw [exN]; simp [hq9, ekN, hk, hdz]
  rw [e]
  clear e
  have hi5 : I64 ((1 + b / 9 % 13 : Nat) : Int) := i64_l _ (by omega)
  have HI5 := hide hi5
  clear hi5
  have hb9 : (b : Int) % 9 = 8 := by omega
  go_enter Tryd.func41, Tryd.ntmps41
  go_wp2_with fail
  refine (HN.out p _ HSRC.out).mono ?_
  rintro r w2 ⟨hr, HS, hK⟩
  rw [hq9] at hr HS
  subst hr
  have HZ := hide (hK.heap (by simp; omega) HZ0.out)
  clear hk hq9
  go_wp2_with fail
  (with_reducible refine (IH.out _ _ HS).mono ?_)
  rintro r w4 ⟨⟨v, rfl, hv⟩, HS4, hK4⟩
  have hw2 : w.heap.size < w2.heap.size := (Array.getElem?_eq_some_iff.1 HZ.out).1
  have HZ := hide (hK4.heap (by simp; omega) HZ.out)
  obtain ⟨ea, ecap, rfl, hew, her⟩ := hv
  have HEW := hide hew
  have HER := hide her
  clear hew her
  go_upto_region 19 with fail
  have HX : Hid ((w4.alloc (.cells #[.int .i64 (exN L d p1).1.kind, .int .i64 (exN L d p1).1.op, .int .i64 (exN L d p1).1.num, .string ⟨List.toArray (exN L d p1).1.name⟩, .slice ea (exN L d p1).1.args.length ecap] 91)).heap[w4.heap.size]? = some (.cells #[.int .i64 (exN L d p1).1.kind, .int .i64 (exN L d p1).1.op, .int .i64 (exN L d p1).1.num, .string ⟨List.toArray (exN L d p1).1.name⟩, .slice ea (exN L d p1).1.args.length ecap] 91 (0, 0))) := hide (heap_alloc_new _ _)
  have HS5 := (HS4.al (.cells #[.int .i64 (exN L d p1).1.kind, .int .i64 (exN L d p1).1.op, .int .i64 (exN L d p1).1.num, .string ⟨List.toArray (exN L d p1).1.name⟩, .slice ea (exN L d p1).1.args.length ecap] 91)).below (bl _).dr
  have hw4 : w.heap.size < w4.heap.size := (Array.getElem?_eq_some_iff.1 HZ.out).1
  have HZ := hide ((Below.heap_alloc _ (.cells #[.int .i64 (exN L d p1).1.kind, .int .i64 (exN L d p1).1.op, .int .i64 (exN L d p1).1.num, .string ⟨List.toArray (exN L d p1).1.name⟩, .slice ea (exN L d p1).1.args.length ecap] 91) _ hw4).trans HZ.out)
  have HK5 := hide (((HK0.out.tr hK).tr hK4).al (.cells #[.int .i64 (exN L d p1).1.kind, .int .i64 (exN L d p1).1.op, .int .i64 (exN L d p1).1.num, .string ⟨List.toArray (exN L d p1).1.name⟩, .slice ea (exN L d p1).1.args.length ecap] 91))
  have HER5 : Hid (Ex.Row (nw w2.heap.size (w4.alloc (.cells #[.int .i64 (exN L d p1).1.kind, .int .i64 (exN L d p1).1.op, .int .i64 (exN L d p1).1.num, .string ⟨List.toArray (exN L d p1).1.name⟩, .slice ea (exN L d p1).1.args.length ecap] 91))) (exN L d p1).1.args ea) := hide (HER.out.has (has_nw_below ((bl w4).al _)))
  have hnw : w2.heap.size ≤ w4.heap.size := hK4.size
  have hns : w4.heap.size ∉ [sb] := by simp; omega
  have hws : w.heap.size ∉ [sb] := by simp; omega
  clear HZ0 HSRC HK0 HN HS HS4 hK hK4 HER
  generalize exN L d p1 = q1 at *
  obtain ⟨e1, p2⟩ := q1
  simp only at HX HS5 HZ HK5 HER5 HEW ⊢
  generalize w4.alloc (.cells #[.int .i64 e1.kind, .int .i64 e1.op, .int .i64 e1.num, .string ⟨List.toArray e1.name⟩, .slice ea e1.args.length ecap] 91) = w5 at *
  generalize w4.heap.size = n at *
  have x0 := cell_at (j := 0) HX.out rfl
  have x1 := cell_at (j := 1) HX.out rfl
  have x2 := cell_at (j := 2) HX.out rfl
  have x3 := cell_at (j := 3) HX.out rfl
  have x4 := cell_at (j := 4) HX.out rfl
  have hne1 : ¬ w.heap.size = n := by omega
  have hne2 : ¬ n = w.heap.size := by omega
  have hv1 : IntKind.i64.wrap (d : Int) = (d : Int) := IntWalk.i64_in _ (by omega)
  have hv2 : IntKind.u8.wrap ((b : Int) / 9) = (b : Int) / 9 := IntWalk.u8_in _ (by omega)
  have hv3 : ((b : Int) / 9).tmod 13 = (b : Int) / 9 % 13 := Int.tmod_eq_emod_of_nonneg (by omega)
  have hv4 : IntKind.i64.wrap ((b : Int) / 9 % 13) = (b : Int) / 9 % 13 := IntWalk.i64_in _ (by omega)
  have hv5 : IntKind.i64.wrap (1 + (b : Int) / 9 % 13) = 1 + (b : Int) / 9 % 13 := IntWalk.i64_in _ (by omega)
  go_region_held3 (fun W => W.cell? ⟨n, 0, none⟩ = some (.int .i64 e1.kind) ∧ W.cell? ⟨n, 1, none⟩ = some (.int .i64 e1.op) ∧ W.cell? ⟨n, 2, none⟩ = some (.int .i64 e1.num) ∧ W.cell? ⟨n, 3, none⟩ = some (.string ⟨List.toArray e1.name⟩) ∧ W.cell? ⟨n, 4, none⟩ = some (.slice ea e1.args.length ecap))
    (first | with_reducible exact ⟨x0, x1, x2, x3, x4⟩ | with_reducible exact ⟨y0, y1, y2, y3, y4⟩ | go_keep)
    (first | (go_at_call 41; (with_reducible refine (IH.out _ _ HS5).mono ?_); rintro r w6 ⟨⟨v, rfl, hv⟩, HS6, hK6⟩; obtain ⟨ea2, ecap2, rfl, hew2, her2⟩ := hv; have HEW2 := hide hew2; have HER2 := hide her2; have HK6 := hide hK6; have y0 := hK6.cell hns x0; have y1 := hK6.cell hns x1; have y2 := hK6.cell hns x2; have y3 := hK6.cell hns x3; have y4 := hK6.cell hns x4; have HZ6 := hide (hK6.heap hws HZ.out); have q0 := cell_at (j := 0) HZ6.out rfl; have q1 := cell_at (j := 1) HZ6.out rfl; have q2 := cell_at (j := 2) HZ6.out rfl; have q3 := cell_at (j := 3) HZ6.out rfl; have q4 := cell_at (j := 4) HZ6.out rfl; have z0 := free_at (j := 0) HZ6.out; have z1 := free_at (j := 1) HZ6.out; have z2 := free_at (j := 2) HZ6.out; have z3 := free_at (j := 3) HZ6.out; have z4 := free_at (j := 4) HZ6.out; have hzl := (Array.getElem?_eq_some_iff.1 HZ6.out).1; have hnl : n < w6.heap.size := cell_lt y0; clear hew2 her2 hK6))
  clear hv1 hv2 hv3 hv4 hv5
  go_wp2_with fail
  have hsb2 : sb < w2.heap.size := by omega
  have h65 : n < w5.drew.heap.size := (Array.getElem?_eq_some_iff.1 HX.out).1
  have HER6 := (HER5.out.has (has_nw_below (bl w5).dr)).has (has_nw_one HK6.out hsb2)
  have hfin := fin5 (.int .i64 5) (.int .i64 (1 + (b : Int) / 9 % 13)) (.int .i64 0) (.string ⟨#[]⟩) (.slice (some ⟨w6.heap.size, 0, none⟩) 2 2) HS6 (HK5.out.dr.tr HK6.out) hsb
  have hrd := read5 (.int .i64 5) (.int .i64 (1 + (b : Int) / 9 % 13)) (.int .i64 0) (.string ⟨#[]⟩) (.slice (some ⟨w6.heap.size, 0, none⟩) 2 2) HZ6.out rfl
  have hsz := size5 (w := w) (W := w6) (.int .i64 5) (.int .i64 (1 + (b : Int) / 9 % 13)) (.int .i64 0) (.string ⟨#[]⟩) (.slice (some ⟨w6.heap.size, 0, none⟩) 2 2)
  refine bodyPost_ret (v := nodeV 5 ((1 + b / 9 % 13 : Nat) : Int) [] w6.heap.size 2) (by simp [results, Tryd.results41, go_sem, hrd, leafV, nodeV]) rfl ⟨⟨_, rfl, _, _, rfl, ⟨(show I64 5 from i64_l 5 (by decide)), HI5.out, HI0.out, Nat.zero_le _, Nat.le_refl _, two_le⟩, ?_⟩, hfin.1.al _, hfin.2.al _⟩
  exact Ex.rowB 91 HEW.out (row5 _ _ _ _ _ hw2 HER6) HEW2.out (row5 _ _ _ _ _ (by omega) HER2.out) (bl _) hsz.symm (by rw [hsz]; omega)
theorem nexpr_any (sb nx : Nat) (L : List Nat) : ∀ (d : Nat), 0 < d → d ≤ 100 → ∀ (w : World) (p : Nat), Rdr w sb L p nx →
    Calls Tryd.prog 41 #[.pointer (some ⟨sb, 0, none⟩), .int .i64 d] w (ExQ w sb L nx (exN L d p)) := by
  intro d
  induction d with
  | zero => intro h; exact absurd h (Nat.lt_irrefl _)
  | succ d ih =>
    intro _ hdb w p h
    obtain ⟨b, p1, hq9⟩ : ∃ b p1, rbN L p = (b, p1) := ⟨_, _, rfl⟩
    have hm : b % 9 = 0 ∨ b % 9 = 1 ∨ b % 9 = 2 ∨ b % 9 = 3 ∨ b % 9 = 4 ∨ b % 9 = 5 ∨ b % 9 = 6 ∨ b % 9 = 7 ∨ b % 9 = 8 := by omega
    rcases hm with hm | hm | hm | hm | hm
    · exact nexpr_num sb nx L d w p h b p1 hq9 hm
    · exact nexpr_bool sb nx L d w p h b p1 hq9 hm
    · exact nexpr_var sb nx L d w p h b p1 hq9 hm
    · exact nexpr_len sb nx L d w p h b p1 hq9 hm
    rcases Nat.eq_zero_or_pos d with hz | hd0
    · rcases hm with hm | hm | hm | hm | hm
      · exact nexpr_low4 sb nx L d w p h b p1 hq9 hm hz
      · exact nexpr_low5 sb nx L d w p h b p1 hq9 hm hz
      · exact nexpr_low6 sb nx L d w p h b p1 hq9 hm hz
      · exact nexpr_low7 sb nx L d w p h b p1 hq9 hm hz
      · exact nexpr_low8 sb nx L d w p h b p1 hq9 hm hz
    · have IH := hide (ih hd0 (by omega))
      rcases hm with hm | hm | hm | hm | hm
      · exact nexpr_ix sb nx L d w p h b p1 hq9 hm hd0 (by omega) IH
      · exact nexpr_un sb nx L d w p h b p1 hq9 hm hd0 (by omega) IH
      · exact nexpr_bin6 sb nx L d w p h b p1 hq9 hm hd0 (by omega) IH
      · exact nexpr_bin7 sb nx L d w p h b p1 hq9 hm hd0 (by omega) IH
      · exact nexpr_bin8 sb nx L d w p h b p1 hq9 hm hd0 (by omega) IH
end Go.Proofs.YtccgpmncpemmdaaDoor
