/- rewindlaw03.num, name and binary answer expressions. -/
import Derived.Test.YtnkmbddjekepkaaGreatDoorMkA
import Derived.Test.YtnkmbddjekepkaaGreatDoorOwn
namespace Go.Proofs.YtnkmbddjekepkaaGreatDoor
open Go Go.RowKit
set_option linter.unusedSimpArgs false
set_option linter.unusedVariables false
set_option linter.unnecessarySimpa false
theorem Src.grown {w w' : World} {sb p left : Nat} {L : List Nat} {row : Option Nat} (h : Src w sb L p left) (hg : w.grownBy w' row) (hr : ∀ k, row = some k → sb < k) : Src w' sb L p left :=
  h.keep (l := row.toList) ((Kept.refl _ w).grown hg fun k hk => .inl (by simp [hk])) (fun g hg => hr g (by simpa using hg))
theorem Ex.At.of' {w' : World} {e : Ex} {a : Option Addr} {cap b o : Nat} (hw : ExWf e.kind e.op e.num e.name e.args.length cap) (hr : Ex.Row w' e.args a) (h0 : w'.cell? ⟨b, o, none⟩ = some (.int .i64 e.kind)) (h1 : w'.cell? ⟨b, o + 1, none⟩ = some (.int .i64 e.op))
    (h2 : w'.cell? ⟨b, o + 2, none⟩ = some (.int .i64 e.num)) (h3 : w'.cell? ⟨b, o + 3, none⟩ = some (.string ⟨e.name.toArray⟩)) (h4 : w'.cell? ⟨b, o + 4, none⟩ = some (.slice a e.args.length cap)) : Ex.At w' e b o := by
  cases e
  simp only [Ex.At]
  exact ⟨a, cap, h0, h1, h2, h3, h4, hw, hr⟩
theorem nw_alloc {n : Nat} (w : World) (hn : n ≤ w.heap.size) (l : List Value) (t : TypeId) (j : Nat) (v : Value) (h : l[j]? = some v) : (nw n (w.alloc (.cells l.toArray t))).cell? ⟨w.heap.size, j, none⟩ = some v :=
  nw_cell.2 ⟨hn, cell_of_list _ _ _ _ _ h⟩
/-- A new row of one expression. -/
theorem Ex.rowA {n : Nat} {w w0 : World} {e : Ex} {a : Option Addr} {cap g : Nat} (t : TypeId) (hw : ExWf e.kind e.op e.num e.name e.args.length cap) (hr : Ex.Row (nw n w0) e.args a) (hb : Below w0.heap.size w0 w) (hg : g = w.heap.size) (hn : n ≤ w.heap.size) :
    Ex.Row (nw n (w.alloc (.cells [.int .i64 e.kind, .int .i64 e.op, .int .i64 e.num, .string ⟨e.name.toArray⟩, .slice a e.args.length cap].toArray t))) [e] (some ⟨g, 0, none⟩) := by
  subst hg
  exact ⟨_, _, rfl, Ex.At.of' hw (hr.has (has_nw_below (hb.al _))) (nw_alloc w hn _ _ _ _ rfl) (nw_alloc w hn _ _ _ _ rfl) (nw_alloc w hn _ _ _ _ rfl) (nw_alloc w hn _ _ _ _ rfl) (nw_alloc w hn _ _ _ _ rfl), trivial⟩
/-- A new row of two expressions. -/
theorem Ex.rowB {n : Nat} {w w0 : World} {e f : Ex} {a c : Option Addr} {cap dap g : Nat} (t : TypeId) (hw : ExWf e.kind e.op e.num e.name e.args.length cap) (hr : Ex.Row (nw n w0) e.args a) (hw2 : ExWf f.kind f.op f.num f.name f.args.length dap) (hr2 : Ex.Row (nw n w0) f.args c)
    (hb : Below w0.heap.size w0 w) (hg : g = w.heap.size) (hn : n ≤ w.heap.size) :
    Ex.Row (nw n (w.alloc (.cells [.int .i64 e.kind, .int .i64 e.op, .int .i64 e.num, .string ⟨e.name.toArray⟩, .slice a e.args.length cap, .int .i64 f.kind, .int .i64 f.op, .int .i64 f.num, .string ⟨f.name.toArray⟩, .slice c f.args.length dap].toArray t))) [e, f] (some ⟨g, 0, none⟩) := by
  subst hg
  exact ⟨_, _, rfl, Ex.At.of' hw (hr.has (has_nw_below (hb.al _))) (nw_alloc w hn _ _ _ _ rfl) (nw_alloc w hn _ _ _ _ rfl) (nw_alloc w hn _ _ _ _ rfl) (nw_alloc w hn _ _ _ _ rfl) (nw_alloc w hn _ _ _ _ rfl),
    _, _, rfl, Ex.At.of' hw2 (hr2.has (has_nw_below (hb.al _))) (nw_alloc w hn _ _ _ _ rfl) (nw_alloc w hn _ _ _ _ rfl) (nw_alloc w hn _ _ _ _ rfl) (nw_alloc w hn _ _ _ _ rfl) (nw_alloc w hn _ _ _ _ rfl), trivial⟩
theorem i64_sm {n : Int} (h : -1000 ≤ n ∧ n ≤ 1000) : I64 n := by unfold I64; omega
/-- An expression without parts, as a value. -/
def leafV (k o n : Int) (s : Bytes) : Value := .agg #[.int .i64 k, .int .i64 o, .int .i64 n, .string ⟨s.toArray⟩, .slice none 0 0]
theorem leaf_val (w : World) {k o n : Int} {s : Bytes} (hk : I64 k) (ho : I64 o) (hn : I64 n) (hs : s.length ≤ maxLen) : Ex.Val w (.mk k o n s []) (leafV k o n s) :=
  ⟨none, 0, rfl, ⟨hk, ho, hn, hs, Nat.le_refl _, Nat.zero_le _⟩, by simp only [Ex.args, Ex.Row]⟩
set_option maxHeartbeats 400000 in
theorem num3_any (n : Int) (w : World) : Calls Tryz.prog 108 #[.int .i64 n] w fun r w' => r = .returned (.agg #[.int .i64 1, .int .i64 0, .int .i64 n, .string ⟨#[]⟩, .slice none 0 0]) ∧ Below w.heap.size w w' := by
  go_enter Tryz.func108, Tryz.ntmps108
  go_wp2_with fail
  exact bodyPost_ret (v := leafV 1 0 n []) (by simp [results, Tryz.results108, go_sem, leafV]) rfl ⟨rfl, (bl w).al _⟩
set_option maxHeartbeats 400000 in
theorem name3_any (s : Bytes) (w : World) : Calls Tryz.prog 106 #[.string ⟨s.toArray⟩] w fun r w' => r = .returned (.agg #[.int .i64 3, .int .i64 0, .int .i64 0, .string ⟨s.toArray⟩, .slice none 0 0]) ∧ Below w.heap.size w w' := by
  go_enter Tryz.func106, Tryz.ntmps106
  go_wp2_with fail
  exact bodyPost_ret (v := leafV 3 0 0 s) (by simp [results, Tryz.results106, go_sem, leafV]) rfl ⟨rfl, (bl w).al _⟩
set_option maxHeartbeats 1000000 in
theorem binary3_any (op : Int) (e f : Ex) (x y : Value) (w : World) (n : Nat) (hn : n ≤ w.heap.size) (ho : I64 op) (hx : Ex.Val (nw n w) e x) (hy : Ex.Val (nw n w) f y) : Calls Tryz.prog 107 #[.int .i64 op, x, y] w fun r w' => Hid (∃ v, r = .returned v ∧ Ex.Val (nw n w') (.mk 5 op 0 [] [e, f]) v) ∧ Below w.heap.size w w' := by
  obtain ⟨a, cap, rfl, hw, hr⟩ := hx
  obtain ⟨c, dap, rfl, hw2, hr2⟩ := hy
  have HO := hide ho
  have HR := hide hr
  have HR2 := hide hr2
  have HW := hide hw
  have HW2 := hide hw2
  clear ho hr hr2 hw hw2
  go_enter Tryz.func107, Tryz.ntmps107
  go_wp2_with fail
  refine bodyPost_ret (v := .agg #[.int .i64 5, .int .i64 op, .int .i64 0, .string ⟨[].toArray⟩, .slice (some ⟨w.heap.size + 1 + 1 + 1, 0, none⟩) 2 2]) (by simp [results, Tryz.results107, go_sem]) rfl ⟨⟨_, rfl, ?_⟩, (((((bl w).al _).al _).al _).al _)⟩
  exact ⟨_, 2, rfl, ⟨(show I64 5 from i64_sm (by decide)), HO.out, (show I64 0 from i64_sm (by decide)), Nat.zero_le _, Nat.le_refl _, by unfold maxLen; omega⟩, Ex.rowB _ HW.out HR.out HW2.out HR2.out ((((bl w).al _).al _).al _) (by simp) (by simp; omega)⟩
end Go.Proofs.YtnkmbddjekepkaaGreatDoor
