/- rewindref03.stmts answers whether lists of statements are equal. -/
import Derived.Test.YthpmecbekpmijaaDoorRqA
namespace Go.Proofs.YthpmecbekpmijaaDoor
open Go Go.RowKit
set_option linter.unusedSimpArgs false
set_option linter.unusedVariables false
set_option linter.unnecessarySimpa false
theorem sts_sz {l : List St} {k : Nat} (h : k < l.length) : SizeOf.sizeOf l[k].body < SizeOf.sizeOf l ∧ SizeOf.sizeOf l[k].els < SizeOf.sizeOf l := by
  have h1 := List.sizeOf_lt_of_mem (List.getElem_mem h)
  have h2 : SizeOf.sizeOf l[k].body < SizeOf.sizeOf l[k] ∧ SizeOf.sizeOf l[k].els < SizeOf.sizeOf l[k] := by
    generalize l[k] = e
    cases e
    simp only [St.body, St.els, St.mk.sizeOf_spec]
    omega
  omega
def cA : Code → Code | .seq a _ => a | c => c
def cB : Code → Code | .seq _ b => b | c => c
def cI : Code → Code | .block _ c => c | .loop c => c | c => c
def cOps : Code → List Oper | .region _ ops _ => ops.toList | _ => []
/-- The operations of the tests of rewindref03.stmts may be walked in the order of the text. -/
theorem stmtsOps_lex : Region.lexB .any (cOps (cA (cI (cA (cB (cI (cI (cB (cA (cB (cB (Tryd.f27.body.getD .ret)))))))))))).toArray = true := by kernel_rfl
set_option maxRecDepth 20000 in
set_option maxHeartbeats 8000000 in
theorem refStmts1_any : ∀ (N : Nat) (l m : List St) (a a' : Option Addr) (cap cap' : Nat) (w : World), SizeOf.sizeOf l < N → l.length ≤ maxLen → m.length ≤ maxLen → St.Row w l a → St.Row w m a' →
    Calls Tryd.prog 27 #[.slice a l.length cap, .slice a' m.length cap'] w (QtPost w (eqSs l m)) := by
  intro N
  induction N with
  | zero => intro l m a a' cap cap' w h; exact absurd h (Nat.not_lt_zero _)
  | succ N ih =>
    intro l m a a' cap cap' w hN hll hml hl hm
    unfold maxLen at hll hml
    by_cases hlen : ¬ (l.length : Int) = (m.length : Int)
    · have hlen2 : ((l.length : Int) != (m.length : Int)) = true := by simpa using hlen
      have HE := hide (eqSs_len (l := l) (m := m) (by omega))
      clear hlen ih hl hm
      go_enter Tryd.func27, Tryd.ntmps27
      go_wp2_with fail
      go_ret
      exact ⟨ret_bool HE.out.symm, 0, rfl⟩
    have hlen2 : ((l.length : Int) != (m.length : Int)) = false := by simpa using hlen
    have hlm : Hid (l.length = m.length) := hide (by omega)
    have HL := hide hl
    have HM := hide hm
    have IH := hide ih
    clear hlen ih hl hm
    go_enter Tryd.func27, Tryd.ntmps27
    go_wp2_with fail
    go_loopw [5] (fun i wr => ∃ k n : Nat, k ≤ l.length ∧ i = .int .i64 k ∧ Hid (∀ (i : Nat) (h : i < l.length) (h' : i < m.length), i < k → eqS l[i] m[i] = true) ∧ Hid (wr = w.drewN n)) (fun i _ => l.length - (intOf i).toNat)
    case atStart => exact ⟨0, 0, Nat.zero_le _, rfl, fun i _ _ h => absurd h (Nat.not_lt_zero _), rfl⟩
    case round =>
      obtain ⟨k, nn, hk, rfl, hall, HWR⟩ := hrel
      have hasw : Has w wr := by rw [HWR.out]; exact has_drewN _
      by_cases hlt : k < l.length
      · have hlt' : k < m.length := by have := hlm.out; omega
        obtain ⟨b, o, rfl⟩ := HL.out.addr (by omega)
        obtain ⟨b', o', rfl⟩ := HM.out.addr (by omega)
        obtain ⟨pa, pb, pe, ca, cb, ce, ⟨c0, c1, c2, c3, c4, c5, c6, c7⟩, hw, hx1, hx2, hx3⟩ := ((HL.out.get k hlt).has hasw).val
        obtain ⟨pa', pb', pe', ca', cb', ce', ⟨d0, d1, d2, d3, d4, d5, d6, d7⟩, hw', hy1, hy2, hy3⟩ := ((HM.out.get k hlt').has hasw).val
        have hbl1 := cell_lt c0
        have hbl2 := cell_lt d0
        simp only at hbl1 hbl2
        obtain ⟨hs1, hs2⟩ := sts_sz hlt
        have h1 := hide fun (W : World) (hW : Has wr W) => refExprs_any l[k].args m[k].args pa pa' ca ca' W (Nat.le_trans hw.la hw.ca) (Nat.le_trans hw'.la hw'.ca) (hx1.has hW) (hy1.has hW)
        have h2 := hide fun (W : World) (hW : Has wr W) => IH.out l[k].body m[k].body pb pb' cb cb' W (by omega) (Nat.le_trans hw.lb hw.cb) (Nat.le_trans hw'.lb hw'.cb) (hx2.has hW) (hy2.has hW)
        have h3 := hide fun (W : World) (hW : Has wr W) => IH.out l[k].els m[k].els pe pe' ce ce' W (by omega) (Nat.le_trans hw.le hw.ce) (Nat.le_trans hw'.le hw'.ce) (hx3.has hW) (hy3.has hW)
        clear hw hx1 hx2 hx3 hw' hy1 hy2 hy3 hs1 hs2 c1 d1
        go_wp2_with fail
        simp only [List.append_eq, List.cons_append, List.nil_append]
        refine wp_region_quiet_lit (by kernel_rfl) (by exact stmtsOps_lex) ?_
        cases q1 : l[k].kind == m[k].kind
        · have g1 := bne_no q1
          have HE := hide (eqSs_no k hlt hlt' (by rw [eqS_eq]; simp [*]))
          clear q1
          repeat (go_big_quiet_step (first | (go_at_call 40; refine Calls.quiet_of (h1.out _ ?_); exact fun _ _ _ h => h) | (go_at_call 27; (with_reducible refine Calls.quiet_of (h2.out _ ?_)); exact fun _ _ _ h => h) | (go_at_call 27; (with_reducible refine Calls.quiet_of (h3.out _ ?_)); exact fun _ _ _ h => h)))
          refine wpQuiet_nil ?_
          intro _ hw9
          obtain ⟨nq, hw8⟩ := hw9
          subst hw8
          go_wp2_with fail
          go_ret
          exact ⟨ret_bool HE.out.symm, _, by rw [HWR.out, World.drewN_drewN]⟩
        have g1 := bne_yes q1
        cases q2 : l[k].name == m[k].name
        · have g2 := bne_no q2
          have g2a : decide (l[k].name = m[k].name) = false := by simpa using q2
          have g2b : (!decide (l[k].name = m[k].name)) = true := by rw [g2a]; rfl
          have HE := hide (eqSs_no k hlt hlt' (by rw [eqS_eq]; simp [*]))
          clear q1
          repeat (go_big_quiet_step (first | (go_at_call 40; refine Calls.quiet_of (h1.out _ ?_); exact fun _ _ _ h => h) | (go_at_call 27; (with_reducible refine Calls.quiet_of (h2.out _ ?_)); exact fun _ _ _ h => h) | (go_at_call 27; (with_reducible refine Calls.quiet_of (h3.out _ ?_)); exact fun _ _ _ h => h)))
          refine wpQuiet_nil ?_
          intro _ hw9
          obtain ⟨nq, hw8⟩ := hw9
          subst hw8
          go_wp2_with fail
          go_ret
          exact ⟨ret_bool HE.out.symm, _, by rw [HWR.out, World.drewN_drewN]⟩
        have g2 := bne_yes q2
        have g2a : decide (l[k].name = m[k].name) = true := by simpa using q2
        have g2b : (!decide (l[k].name = m[k].name)) = false := by rw [g2a]; rfl
        cases q3 : l[k].typ == m[k].typ
        · have g3 := bne_no q3
          have HE := hide (eqSs_no k hlt hlt' (by rw [eqS_eq]; simp [*]))
          clear q1 q3
          repeat (go_big_quiet_step (first | (go_at_call 40; refine Calls.quiet_of (h1.out _ ?_); exact fun _ _ _ h => h) | (go_at_call 27; (with_reducible refine Calls.quiet_of (h2.out _ ?_)); exact fun _ _ _ h => h) | (go_at_call 27; (with_reducible refine Calls.quiet_of (h3.out _ ?_)); exact fun _ _ _ h => h)))
          refine wpQuiet_nil ?_
          intro _ hw9
          obtain ⟨nq, hw8⟩ := hw9
          subst hw8
          go_wp2_with fail
          go_ret
          exact ⟨ret_bool HE.out.symm, _, by rw [HWR.out, World.drewN_drewN]⟩
        have g3 := bne_yes q3
        cases q4 : l[k].callee == m[k].callee
        · have g4 := bne_no q4
          have g4a : decide (l[k].callee = m[k].callee) = false := by simpa using q4
          have g4b : (!decide (l[k].callee = m[k].callee)) = true := by rw [g4a]; rfl
          have HE := hide (eqSs_no k hlt hlt' (by rw [eqS_eq]; simp [*]))
          clear q1 q3
          repeat (go_big_quiet_step (first | (go_at_call 40; refine Calls.quiet_of (h1.out _ ?_); exact fun _ _ _ h => h) | (go_at_call 27; (with_reducible refine Calls.quiet_of (h2.out _ ?_)); exact fun _ _ _ h => h) | (go_at_call 27; (with_reducible refine Calls.quiet_of (h3.out _ ?_)); exact fun _ _ _ h => h)))
          refine wpQuiet_nil ?_
          intro _ hw9
          obtain ⟨nq, hw8⟩ := hw9
          subst hw8
          go_wp2_with fail
          go_ret
          exact ⟨ret_bool HE.out.symm, _, by rw [HWR.out, World.drewN_drewN]⟩
        have g4 := bne_yes q4
        have g4a : decide (l[k].callee = m[k].callee) = true := by simpa using q4
        have g4b : (!decide (l[k].callee = m[k].callee)) = false := by rw [g4a]; rfl
        cases q5 : eqEs l[k].args m[k].args
        · have HE := hide (eqSs_no k hlt hlt' (by rw [eqS_eq]; simp [*]))
          rw [q5] at h1; clear q1 q3 q5
          repeat (go_big_quiet_step (first | (go_at_call 40; refine Calls.quiet_of (h1.out _ ?_); exact fun _ _ _ h => h) | (go_at_call 27; (with_reducible refine Calls.quiet_of (h2.out _ ?_)); exact fun _ _ _ h => h) | (go_at_call 27; (with_reducible refine Calls.quiet_of (h3.out _ ?_)); exact fun _ _ _ h => h)))
          refine wpQuiet_nil ?_
          intro _ hw9
          obtain ⟨nq, hw8⟩ := hw9
          subst hw8
          go_wp2_with fail
          go_ret
          exact ⟨ret_bool HE.out.symm, _, by rw [HWR.out, World.drewN_drewN]⟩
        rw [q5] at h1
        cases q6 : eqSs l[k].body m[k].body
        · have HE := hide (eqSs_no k hlt hlt' (by rw [eqS_eq]; simp [*]))
          rw [q6] at h2; clear q1 q3 q5 q6
          repeat (go_big_quiet_step (first | (go_at_call 40; refine Calls.quiet_of (h1.out _ ?_); exact fun _ _ _ h => h) | (go_at_call 27; (with_reducible refine Calls.quiet_of (h2.out _ ?_)); exact fun _ _ _ h => h) | (go_at_call 27; (with_reducible refine Calls.quiet_of (h3.out _ ?_)); exact fun _ _ _ h => h)))
          refine wpQuiet_nil ?_
          intro _ hw9
          obtain ⟨nq, hw8⟩ := hw9
          subst hw8
          go_wp2_with fail
          go_ret
          exact ⟨ret_bool HE.out.symm, _, by rw [HWR.out, World.drewN_drewN]⟩
        rw [q6] at h2
        cases q7 : eqSs l[k].els m[k].els
        · have HE := hide (eqSs_no k hlt hlt' (by rw [eqS_eq]; simp [*]))
          rw [q7] at h3; clear q1 q3 q5 q6 q7
          repeat (go_big_quiet_step (first | (go_at_call 40; refine Calls.quiet_of (h1.out _ ?_); exact fun _ _ _ h => h) | (go_at_call 27; (with_reducible refine Calls.quiet_of (h2.out _ ?_)); exact fun _ _ _ h => h) | (go_at_call 27; (with_reducible refine Calls.quiet_of (h3.out _ ?_)); exact fun _ _ _ h => h)))
          refine wpQuiet_nil ?_
          intro _ hw9
          obtain ⟨nq, hw8⟩ := hw9
          subst hw8
          go_wp2_with fail
          go_ret
          exact ⟨ret_bool HE.out.symm, _, by rw [HWR.out, World.drewN_drewN]⟩
        rw [q7] at h3
        have HE := hide (show eqS l[k] m[k] = true by rw [eqS_eq]; simp [*])
        clear q1 q3 q5 q6 q7
        repeat (go_big_quiet_step (first | (go_at_call 40; refine Calls.quiet_of (h1.out _ ?_); exact fun _ _ _ h => h) | (go_at_call 27; (with_reducible refine Calls.quiet_of (h2.out _ ?_)); exact fun _ _ _ h => h) | (go_at_call 27; (with_reducible refine Calls.quiet_of (h3.out _ ?_)); exact fun _ _ _ h => h)))
        refine wpQuiet_nil ?_
        intro _ hw9
        obtain ⟨nq, hw8⟩ := hw9
        subst hw8
        go_wp2_with fail
        go_roundw
        case rel =>
          refine ⟨k + 1, nn + nq, by omega, by go_num, ?_, hide (by rw [HWR.out, World.drewN_drewN])⟩
          intro i hi hi' hik
          by_cases e : i = k
          · subst e; exact HE.out
          · exact hall i hi hi' (by omega)
        case measure => simp [intOf]; omega
      · obtain rfl : k = l.length := by omega
        have HE := hide ((eqSs_all l m hlm.out).2 (fun i h h' => hall i h h' h))
        go_wp2_with fail
        go_ret
        exact ⟨ret_bool HE.out.symm, _, HWR.out⟩
theorem refStmts_any (l m : List St) (a a' : Option Addr) (cap cap' : Nat) (w : World) (h1 : l.length ≤ maxLen) (h2 : m.length ≤ maxLen) (h3 : St.Row w l a) (h4 : St.Row w m a') :
    Calls Tryd.prog 27 #[.slice a l.length cap, .slice a' m.length cap'] w (QtPost w (eqSs l m)) := refStmts1_any _ l m a a' cap cap' w (Nat.lt_succ_self _) h1 h2 h3 h4
end Go.Proofs.YthpmecbekpmijaaDoor
