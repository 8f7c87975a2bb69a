/- types.Of answers OfM for every expression and every list of variables in memory; and the small functions of the law. -/
import Derived.BigQuiet
import Derived.Deep.QuietTactic
import Derived.Test.YtfpikakgaghdbaaDoorTyE
namespace Go.Proofs.YtfpikakgaghdbaaDoor
open Go Go.RowKit
set_option linter.unusedSimpArgs false
set_option linter.unusedVariables false
set_option linter.unnecessarySimpa false
theorem below_drewN {B : Nat} {a w : World} (h : Below B a w) (n : Nat) : Below B a (w.drewN n) := ⟨h.os, h.tape, h.output, h.size, h.block⟩
theorem Ex.At.of {w' : World} {e : Ex} {a : Option Addr} {cap b o : Nat} (hw : ExWf e.kind e.op e.num e.name e.args.length cap) (hr : Ex.Row w' e.args a) (h0 : w'.cell? ⟨b, o, none⟩ = some (.int .i64 e.kind)) (h1 : w'.cell? ⟨b, o + 1, none⟩ = some (.int .i64 e.op))
    (h2 : w'.cell? ⟨b, o + 2, none⟩ = some (.int .i64 e.num)) (h3 : w'.cell? ⟨b, o + 3, none⟩ = some (.string ⟨e.name.toArray⟩)) (h4 : w'.cell? ⟨b, o + 4, none⟩ = some (.slice a e.args.length cap)) : Ex.At w' e b o := by
  cases e
  simp only [Ex.At]
  exact ⟨a, cap, h0, h1, h2, h3, h4, hw, hr⟩
/-- A new row of one expression. -/
theorem Ex.row1 {w w0 : World} {e : Ex} {a : Option Addr} {cap n : Nat} (t : TypeId) (hw : ExWf e.kind e.op e.num e.name e.args.length cap) (hr : Ex.Row w0 e.args a) (hb : Below w0.heap.size w0 w) (hn : n = w.heap.size) :
    Ex.Row (w.alloc (.cells [.int .i64 e.kind, .int .i64 e.op, .int .i64 e.num, .string ⟨e.name.toArray⟩, .slice a e.args.length cap].toArray t)) [e] (some ⟨n, 0, none⟩) := by
  subst hn
  exact ⟨_, _, rfl, Ex.At.of hw (hr.keep (hb.al _) (Nat.le_refl _)) (cell_of_list _ _ _ _ _ rfl) (cell_of_list _ _ _ _ _ rfl) (cell_of_list _ _ _ _ _ rfl) (cell_of_list _ _ _ _ _ rfl) (cell_of_list _ _ _ _ _ rfl), trivial⟩
/-- A new row of two expressions. -/
theorem Ex.row2 {w w0 : World} {e f : Ex} {a c : Option Addr} {cap dap n : Nat} (t : TypeId) (hw : ExWf e.kind e.op e.num e.name e.args.length cap) (hr : Ex.Row w0 e.args a) (hw2 : ExWf f.kind f.op f.num f.name f.args.length dap) (hr2 : Ex.Row w0 f.args c) (hb : Below w0.heap.size w0 w) (hn : n = w.heap.size) :
    Ex.Row (w.alloc (.cells [.int .i64 e.kind, .int .i64 e.op, .int .i64 e.num, .string ⟨e.name.toArray⟩, .slice a e.args.length cap, .int .i64 f.kind, .int .i64 f.op, .int .i64 f.num, .string ⟨f.name.toArray⟩, .slice c f.args.length dap].toArray t)) [e, f] (some ⟨n, 0, none⟩) := by
  subst hn
  exact ⟨_, _, rfl, Ex.At.of hw (hr.keep (hb.al _) (Nat.le_refl _)) (cell_of_list _ _ _ _ _ rfl) (cell_of_list _ _ _ _ _ rfl) (cell_of_list _ _ _ _ _ rfl) (cell_of_list _ _ _ _ _ rfl) (cell_of_list _ _ _ _ _ rfl),
    _, _, rfl, Ex.At.of hw2 (hr2.keep (hb.al _) (Nat.le_refl _)) (cell_of_list _ _ _ _ _ rfl) (cell_of_list _ _ _ _ _ rfl) (cell_of_list _ _ _ _ _ rfl) (cell_of_list _ _ _ _ _ rfl) (cell_of_list _ _ _ _ _ rfl), trivial⟩
/-- The type of an expression, and the error: any expression. -/
def OfM (l : List Vr) (p : Int) (e : Ex) : Int × Int := if depthM 20 e = 0 then (0, 2) else ofM l p e
set_option maxHeartbeats 1000000 in
theorem Of_any (l : List Vr) (p : Int) (va : Option Addr) (vcap : Nat) (e : Ex) (v : Value) (w : World) (hl : Vrs w l va vcap) (hv : Ex.Val w e v) (hT : Tab w) :
    Calls Tryd.prog 16 #[.slice va l.length vcap, .int .i64 p, v] w fun r w' => r = .returned (.tuple #[.int .i64 (OfM l p e).1, .int .i64 (OfM l p e).2]) ∧ Below w.heap.size w w' := by
  have hexpr := fun W (hW : Below w.heap.size w W) => expr_any e v W (hv.keep hW (Nat.le_refl _)) (hT.below hW)
  have hof := fun W (hW : Below w.heap.size w W) (hd : depthM 20 e ≠ 0) => of_any l p va vcap 20 e v W hd (hv.keep hW (Nat.le_refl _)) (hl.keep hW (Nat.le_refl _))
  obtain ⟨a, cap, rfl, hw, hr⟩ := hv
  clear hw hr hl hT
  unfold OfM
  by_cases hd : depthM 20 e = 0
  · rw [if_pos hd] at hexpr ⊢
    have HEX := hide hexpr
    clear hexpr hof hd
    go_enter Tryd.func16, Tryd.ntmps16
    go_wp2_with fail
    refine (HEX.out _ ((bl w).al _)).mono ?_
    rintro r w1 ⟨rfl, hb1⟩
    go_wp2_with fail
    go_ret2
    exact ⟨rfl, ((bl w).al _).tr hb1⟩
  · rw [if_neg hd] at hexpr ⊢
    have HEX := hide hexpr
    have hof2 := fun W hW => hof W hW hd
    have HOF := hide hof2
    clear hexpr hof hd hof2
    generalize ofM l p e = q at *
    go_enter Tryd.func16, Tryd.ntmps16
    go_wp2_with fail
    refine (HEX.out _ ((bl w).al _)).mono ?_
    rintro r w1 ⟨rfl, hb1⟩
    obtain ⟨hc, _⟩ := bcell hb1
    have hws1 : w.heap.size < w1.heap.size := by have := hb1.size; simp at this; omega
    go_wp2_with fail
    refine (HOF.out _ (((bl w).al _).tr hb1)).mono ?_
    rintro r w2 ⟨rfl, hb2⟩
    go_wp2_with fail
    go_ret2
    exact ⟨rfl, (((bl w).al _).tr hb1).tr hb2⟩
set_option maxHeartbeats 1000000 in
theorem equal_ints (xs ys : List Int) (xa ya : Option Addr) (xc yc : Nat) (w : World) (hx : Ints w xs xa xc) (hy : Ints w ys ya yc) :
    Calls Tryd.prog 23 #[.slice xa xs.length xc, .slice ya ys.length yc] w fun r w' => r = .returned (.bool (xs == ys)) ∧ Below w.heap.size w w' := by
  have hxl : xs.length ≤ 9223372036854775807 := Nat.le_trans hx.len hx.cap
  have hyl : ys.length ≤ 9223372036854775807 := Nat.le_trans hy.len hy.cap
  by_cases hlen : xs.length = ys.length
  · rw [← hlen]
    have HX := hide hx
    have HY := hide hy
    have HLEN := hide hlen
    clear hx hy hlen hyl
    go_enter Tryd.func23, Tryd.ntmps23
    go_wp2_with fail
    go_loopw [5, 13] (fun _ i wr => ∃ k : Nat, k ≤ xs.length ∧ i = .int .i64 k ∧ Hid (xs.take k = ys.take k) ∧ Below w.heap.size w wr) (fun _ i _ => xs.length - (intOf i).toNat)
    case atStart => exact ⟨0, Nat.zero_le _, rfl, by simp [Hid], bl _⟩
    case round =>
      obtain ⟨k, hk, rfl, hn, hb⟩ := hrel
      by_cases hlt : k < xs.length
      · have hlt2 : k < ys.length := by have := HLEN.out; omega
        obtain ⟨b, o, rfl⟩ := HX.out.addr (by omega)
        obtain ⟨b2, o2, rfl⟩ := HY.out.addr (by omega)
        have c0 := cell_keep (HX.out.at_ b o rfl k hlt) hb (Nat.le_refl _)
        have c1 := cell_keep (HY.out.at_ b2 o2 rfl k hlt2) hb (Nat.le_refl _)
        have hi0 : (0 : Int) ≤ (k : Int) := Int.natCast_nonneg _
        have hi1 : (k : Int) < (xs.length : Int) := by omega
        have ht1 : xs.take (k + 1) = xs.take k ++ [xs[k]] := List.take_succ_eq_append_getElem hlt
        have ht2 : ys.take (k + 1) = ys.take k ++ [ys[k]] := List.take_succ_eq_append_getElem hlt2
        have HT1 := hide ht1
        have HT2 := hide ht2
        clear ht1 ht2
        by_cases he : xs[k] = ys[k]
        · have he' : (xs[k] != ys[k]) = false := by simpa using he
          have HE := hide he
          clear he
          go_wp2_with fail
          go_quiet (fail)
          go_wp2_with fail
          go_roundw
          case rel =>
            refine ⟨k + 1, by omega, by go_num, ?_, ?_⟩
            · show _ = _
              rw [HT1.out, HT2.out, hn.out, HE.out]
            · exact below_drewN hb _
          case measure => simp [intOf]; omega
        · have he' : (xs[k] != ys[k]) = true := by simpa using he
          have HE := hide he
          clear he
          go_wp2_with fail
          go_quiet (fail)
          go_wp2_with fail
          go_ret
          refine ⟨ret_bool ?_, ?_⟩
          · have h3 : xs ≠ ys := fun e => HE.out (by subst e; rfl)
            simp [h3]
          · exact below_drewN hb _
      · obtain rfl : k = xs.length := by omega
        go_wp2_with fail
        go_ret
        refine ⟨ret_bool ?_, hb⟩
        have h1 := hn.out
        rw [List.take_of_length_le (Nat.le_refl _), List.take_of_length_le (by have := HLEN.out; omega)] at h1
        simp [h1]
  · have h1 : ((xs.length : Int) != (ys.length : Int)) = true := by rw [bne_iff_ne]; omega
    have HLEN := hide hlen
    clear hlen hx hy
    go_enter Tryd.func23, Tryd.ntmps23
    go_wp2_with fail
    go_ret
    refine ⟨ret_bool ?_, bl w⟩
    have h2 : xs ≠ ys := fun e => HLEN.out (by rw [e])
    simp [h2]
theorem i64_small {n : Int} (h : -1000 ≤ n ∧ n ≤ 1000) : I64 n := by unfold I64; omega
set_option maxHeartbeats 400000 in
theorem num_any (n : Int) (w : World) (hn : I64 n) : Calls Tryd.prog 32 #[.int .i64 n] w fun r w' => Hid (∃ v, r = .returned v ∧ Ex.Val w' (.mk 1 0 n [] []) v) ∧ Below w.heap.size w w' := by
  have HN := hide hn
  clear hn
  go_enter Tryd.func32, Tryd.ntmps32
  go_wp2_with fail
  refine bodyPost_ret (v := .agg #[.int .i64 1, .int .i64 0, .int .i64 n, .string ⟨[].toArray⟩, .slice none 0 0]) (by simp [results, Tryd.results32, go_sem]) rfl ⟨⟨_, rfl, ?_⟩, (bl w).al _⟩
  exact ⟨none, 0, rfl, ⟨(show I64 1 from i64_small (by decide)), (show I64 0 from i64_small (by decide)), HN.out, Nat.zero_le _, Nat.le_refl _, Nat.zero_le _⟩, trivial⟩
set_option maxHeartbeats 400000 in
theorem name_any' (s : Bytes) (w : World) (hn : s.length ≤ maxLen) : Calls Tryd.prog 31 #[.string ⟨s.toArray⟩] w fun r w' => Hid (∃ v, r = .returned v ∧ Ex.Val w' (.mk 3 0 0 s []) v) ∧ Below w.heap.size w w' := by
  have HN := hide hn
  clear hn
  go_enter Tryd.func31, Tryd.ntmps31
  go_wp2_with fail
  refine bodyPost_ret (v := .agg #[.int .i64 3, .int .i64 0, .int .i64 0, .string ⟨s.toArray⟩, .slice none 0 0]) (by simp [results, Tryd.results31, go_sem]) rfl ⟨⟨_, rfl, ?_⟩, (bl w).al _⟩
  exact ⟨none, 0, rfl, ⟨(show I64 3 from i64_small (by decide)), (show I64 0 from i64_small (by decide)), (show I64 0 from i64_small (by decide)), HN.out, Nat.le_refl _, Nat.zero_le _⟩, trivial⟩
set_option maxHeartbeats 1000000 in
theorem binary_any' (op : Int) (e f : Ex) (x y : Value) (w : World) (ho : I64 op) (hx : Ex.Val w e x) (hy : Ex.Val w f y) : Calls Tryd.prog 17 #[.int .i64 op, x, y] w fun r w' => Hid (∃ v, r = .returned v ∧ Ex.Val w' (.mk 5 op 0 [] [e, f]) v) ∧ Below w.heap.size w w' := by
  obtain ⟨a, cap, rfl, hw, hr⟩ := hx
  obtain ⟨c, dap, rfl, hw2, hr2⟩ := hy
  have HO := hide ho
  have HR := hide hr
  have HR2 := hide hr2
  have HW := hide hw
  have HW2 := hide hw2
  clear ho hr hr2 hw hw2
  go_enter Tryd.func17, Tryd.ntmps17
  go_wp2_with fail
  refine bodyPost_ret (v := .agg #[.int .i64 5, .int .i64 op, .int .i64 0, .string ⟨[].toArray⟩, .slice (some ⟨w.heap.size + 1 + 1 + 1, 0, none⟩) 2 2]) (by simp [results, Tryd.results17, go_sem]) rfl ⟨⟨_, rfl, ?_⟩, (((((bl w).al _).al _).al _).al _)⟩
  exact ⟨_, 2, rfl, ⟨(show I64 5 from i64_small (by decide)), HO.out, (show I64 0 from i64_small (by decide)), Nat.zero_le _, Nat.le_refl _, by unfold maxLen; omega⟩, Ex.row2 _ HW.out HR.out HW2.out HR2.out ((((bl w).al _).al _).al _) (by simp)⟩
set_option maxHeartbeats 1000000 in
theorem index_any' (s : Bytes) (e : Ex) (x : Value) (w : World) (hs : s.length ≤ maxLen) (hx : Ex.Val w e x) : Calls Tryd.prog 18 #[.string ⟨s.toArray⟩, x] w fun r w' => Hid (∃ v, r = .returned v ∧ Ex.Val w' (.mk 6 0 0 s [e]) v) ∧ Below w.heap.size w w' := by
  obtain ⟨a, cap, rfl, hw, hr⟩ := hx
  have HO := hide hs
  have HR := hide hr
  have HW := hide hw
  clear hs hr hw
  go_enter Tryd.func18, Tryd.ntmps18
  go_wp2_with fail
  refine bodyPost_ret (v := .agg #[.int .i64 6, .int .i64 0, .int .i64 0, .string ⟨s.toArray⟩, .slice (some ⟨w.heap.size + 1 + 1, 0, none⟩) 1 1]) (by simp [results, Tryd.results18, go_sem]) rfl ⟨⟨_, rfl, ?_⟩, ((((bl w).al _).al _).al _)⟩
  exact ⟨_, 1, rfl, ⟨(show I64 6 from i64_small (by decide)), (show I64 0 from i64_small (by decide)), (show I64 0 from i64_small (by decide)), HO.out, Nat.le_refl _, by unfold maxLen; omega⟩, Ex.row1 _ HW.out HR.out (((bl w).al _).al _) (by simp)⟩
/-- The variables of the examples. -/
def exVars : List Vr := [⟨[97], 3, -1, 0, 9⟩, ⟨[98], 2, -1, 0, 9⟩, ⟨[120], 1, 0, 1, 9⟩, ⟨[121], 1, 4, 5, 6⟩]
def Vr.cells (v : Vr) : List Value := [.string ⟨v.name.toArray⟩, .int .i64 v.typ, .int .i64 v.no, .int .i64 v.frm, .int .i64 v.til]
theorem Vrs.alloc (w : World) (l : List Vr) (t : TypeId) (n : Nat) (hwf : ∀ v ∈ l, v.wf) (h : l.length ≤ maxLen) (hn : n = w.heap.size) : Vrs (w.alloc (.cells (l.flatMap Vr.cells).toArray t)) l (some ⟨n, 0, none⟩) l.length := by
  subst hn
  have key : ∀ (l : List Vr) (i j : Nat) (v : Value) (h : i < l.length), l[i].cells[j]? = some v → j < 5 → (l.flatMap Vr.cells)[i * 5 + j]? = some v := by
    intro l
    induction l with
    | nil => intro i j v h; exact absurd h (Nat.not_lt_zero _)
    | cons r l ih =>
      intro i j v h hv hj
      have h4 : r.cells.length = 5 := rfl
      cases i with
      | zero =>
        rw [List.flatMap_cons, List.getElem?_append_left (by omega)]
        simpa using hv
      | succ i =>
        rw [List.flatMap_cons, List.getElem?_append_right (by omega), h4, show (i + 1) * 5 + j - 5 = i * 5 + j from by omega]
        exact ih i j v (by simpa using h) (by simpa using hv) hj
  refine ⟨Nat.le_refl _, h, hwf, fun _ => ⟨_, _, rfl⟩, fun b o e i hi => ?_⟩
  simp only [Option.some.injEq, Addr.mk.injEq, and_true] at e
  obtain ⟨rfl, rfl⟩ := e
  rw [Nat.zero_add]
  exact ⟨cell_of_list _ _ _ _ _ (key l i 0 _ hi rfl (by omega)), cell_of_list _ _ _ _ _ (key l i 1 _ hi rfl (by omega)), cell_of_list _ _ _ _ _ (key l i 2 _ hi rfl (by omega)), cell_of_list _ _ _ _ _ (key l i 3 _ hi rfl (by omega)), cell_of_list _ _ _ _ _ (key l i 4 _ hi rfl (by omega))⟩
theorem vars_any (w : World) : Calls Tryd.prog 30 #[] w fun e w' => e = .returned (.slice (some ⟨w.heap.size, 0, none⟩) 4 4) ∧ w' = w.alloc (.cells (exVars.flatMap Vr.cells).toArray 47) := by
  go_enter Tryd.func30, Tryd.ntmps30
  go_wp2
  go_ret
  exact ⟨rfl, rfl⟩
end Go.Proofs.YtfpikakgaghdbaaDoor
