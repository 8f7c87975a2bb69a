/- rewindlaw03.exprs and stmts return, whatever they count; rewindref03.SameExpr and SameStmt answer as the plain words say. -/
import Derived.Test.YthpmecbekpmijaaDoorLwA
import Derived.Test.YthpmecbekpmijaaDoorRqB
import Derived.Test.YthpmecbekpmijaaDoorRsD
namespace Go.Proofs.YthpmecbekpmijaaDoor
open Go Go.RowKit
set_option linter.unusedSimpArgs false
set_option linter.unusedVariables false
set_option linter.unnecessarySimpa false
def AnyInt (w : World) (r : Ending) (w' : World) : Prop := (∃ n : Int, r = .returned (.int .i64 n)) ∧ Below w.heap.size w w'
set_option maxRecDepth 20000 in
set_option maxHeartbeats 4000000 in
theorem exprs_law : ∀ (N : Nat) (l : List Ex) (a : Option Addr) (cap : Nat) (m : Int) (w : World), SizeOf.sizeOf l < N → l.length ≤ maxLen → Ex.Row w l a → Calls Tryd.prog 10 #[.slice a l.length cap, .int .i64 m] w (AnyInt w) := by
  intro N
  induction N with
  | zero => intro l a cap m w h; exact absurd h (Nat.not_lt_zero _)
  | succ N ih =>
    intro l a cap m w hN hll hl
    unfold maxLen at hll
    have HL := hide hl
    have IH := hide ih
    clear ih hl
    go_enter Tryd.func10, Tryd.ntmps10
    go_wp2_with fail
    go_loopw [5, 10] (fun n i wr => ∃ (k : Nat) (c : Int), k ≤ l.length ∧ i = .int .i64 k ∧ n = .int .i64 c ∧ Below w.heap.size w wr) (fun _ i _ => l.length - (intOf i).toNat)
    case atStart => exact ⟨0, 0, Nat.zero_le _, rfl, rfl, bl _⟩
    case round =>
      obtain ⟨k, c, hk, rfl, rfl, hb⟩ := hrel
      by_cases hlt : k < l.length
      · obtain ⟨b, o, rfl⟩ := HL.out.addr (by omega)
        obtain ⟨ax, capx, c0, c1, c2, c3, c4, hw, hr⟩ := ((HL.out.get k hlt).has (has_below hb)).val
        have hbl := cell_lt c0
        simp only at hbl
        have hsz := exs_sz hlt
        have H1 := hide fun (m : Int) (W : World) (hW : Below wr.heap.size wr W) => IH.out l[k].args ax capx m W (by omega) (Nat.le_trans hw.len hw.cap) (hr.has (has_below hW))
        clear hw hr hsz
        generalize hg : IntKind.i64.wrap (c + 1) = c' at *
        go_wp2_with fail
        · go_ret
          exact ⟨⟨_, rfl⟩, hb.al _⟩
        · refine (H1.out _ _ ((bl wr).al _)).mono ?_
          rintro r w2 ⟨⟨c2, rfl⟩, hb2⟩
          have hB2 := (hb.al (.cells #[.int .i64 l[k].kind, .int .i64 l[k].op, .int .i64 l[k].num, .string ⟨l[k].name.toArray⟩, .slice ax l[k].args.length capx] 30)).tr hb2
          clear hb2
          go_wp2_with fail
          go_roundw
          case rel => exact ⟨k + 1, _, by omega, by go_num, rfl, hB2⟩
          case measure => simp [intOf]; omega
      · obtain rfl : k = l.length := by omega
        go_wp2_with fail
        go_ret
        exact ⟨⟨_, rfl⟩, hb⟩
set_option maxRecDepth 20000 in
set_option maxHeartbeats 4000000 in
theorem stmts_law : ∀ (N : Nat) (l : List St) (a : Option Addr) (cap : Nat) (m : Int) (w : World), SizeOf.sizeOf l < N → l.length ≤ maxLen → St.Row w l a → Calls Tryd.prog 6 #[.slice a l.length cap, .int .i64 m] w (AnyInt w) := by
  intro N
  induction N with
  | zero => intro l a cap m w h; exact absurd h (Nat.not_lt_zero _)
  | succ N ih =>
    intro l a cap m w hN hll hl
    unfold maxLen at hll
    have HL := hide hl
    have IH := hide ih
    clear ih hl
    go_enter Tryd.func6, Tryd.ntmps6
    go_wp2_with fail
    go_loopw [5, 10] (fun n i wr => ∃ (k : Nat) (c : Int), k ≤ l.length ∧ i = .int .i64 k ∧ n = .int .i64 c ∧ Below w.heap.size w wr) (fun _ i _ => l.length - (intOf i).toNat)
    case atStart => exact ⟨0, 0, Nat.zero_le _, rfl, rfl, bl _⟩
    case round =>
      obtain ⟨k, c, hk, rfl, rfl, hb⟩ := hrel
      by_cases hlt : k < l.length
      · obtain ⟨b, o, rfl⟩ := HL.out.addr (by omega)
        obtain ⟨pa, pb, pe, ca, cb, ce, ⟨c0, c1, c2, c3, c4, c5, c6, c7⟩, hw, hx1, hx2, hx3⟩ := ((HL.out.get k hlt).has (has_below hb)).val
        have hbl := cell_lt c0
        simp only at hbl
        obtain ⟨hs1, hs2⟩ := sts_sz hlt
        have H1 := hide fun (m : Int) (W : World) (hW : Below wr.heap.size wr W) => exprs_law _ l[k].args pa ca m W (Nat.lt_succ_self _) (Nat.le_trans hw.la hw.ca) (hx1.has (has_below hW))
        have H2 := hide fun (m : Int) (W : World) (hW : Below wr.heap.size wr W) => IH.out l[k].body pb cb m W (by omega) (Nat.le_trans hw.lb hw.cb) (hx2.has (has_below hW))
        have H3 := hide fun (m : Int) (W : World) (hW : Below wr.heap.size wr W) => IH.out l[k].els pe ce m W (by omega) (Nat.le_trans hw.le hw.ce) (hx3.has (has_below hW))
        have HX0 := hide (heap_alloc_new wr (.cells #[.int .i64 l[k].kind, .int .i64 l[k].no, .string ⟨l[k].name.toArray⟩, .int .i64 l[k].typ, .string ⟨l[k].callee.toArray⟩, .slice pa l[k].args.length ca, .slice pb l[k].body.length cb, .slice pe l[k].els.length ce] 25))
        have hB1 := (bl wr).al (.cells #[.int .i64 l[k].kind, .int .i64 l[k].no, .string ⟨l[k].name.toArray⟩, .int .i64 l[k].typ, .string ⟨l[k].callee.toArray⟩, .slice pa l[k].args.length ca, .slice pb l[k].body.length cb, .slice pe l[k].els.length ce] 25)
        clear hw hx1 hx2 hx3 hs1 hs2
        generalize hg : IntKind.i64.wrap (c + 1) = c' at *
        go_wp2_with fail
        · go_ret
          exact ⟨⟨_, rfl⟩, hb.al _⟩
        · refine (H1.out _ _ hB1).mono ?_
          rintro r w2 ⟨⟨n2, rfl⟩, hb2⟩
          have hB2 := hB1.tr hb2
          have HX2 := hide ((hb2.block _ (by simp)).trans HX0.out)
          have x6 := cell_at (j := 6) HX2.out rfl
          have l2 : wr.heap.size < w2.heap.size := (Array.getElem?_eq_some_iff.1 HX2.out).1
          clear hb2 hB1
          go_wp2_with fail
          refine (H2.out _ _ hB2).mono ?_
          rintro r w3 ⟨⟨n3, rfl⟩, hb3⟩
          have hB3 := hB2.tr hb3
          have HX3 := hide ((hb3.block _ l2).trans HX2.out)
          have x7 := cell_at (j := 7) HX3.out rfl
          have l3 : wr.heap.size < w3.heap.size := (Array.getElem?_eq_some_iff.1 HX3.out).1
          clear hb3 hB2 x6
          go_wp2_with fail
          refine (H3.out _ _ hB3).mono ?_
          rintro r w4 ⟨⟨n4, rfl⟩, hb4⟩
          have hB4 := hB3.tr hb4
          clear hb4 hB3 x7
          go_wp2_with fail
          go_roundw
          case rel => exact ⟨k + 1, _, by omega, by go_num, rfl, hb.tr hB4⟩
          case measure => simp [intOf]; omega
      · obtain rfl : k = l.length := by omega
        go_wp2_with fail
        go_ret
        exact ⟨⟨_, rfl⟩, hb⟩
end Go.Proofs.YthpmecbekpmijaaDoor
