/- rewindref03.exprs and stmts answer whether lists of expressions and of statements are equal. -/
import Derived.Test.YthpmecbekpmijaaDoorSpH
import Derived.BigQuiet
import Derived.Deep.QuietTactic
namespace Go.Proofs.YthpmecbekpmijaaDoor
open Go Go.RowKit
set_option linter.unusedSimpArgs false
set_option linter.unusedVariables false
set_option linter.unnecessarySimpa false
theorem has_drewN {w : World} (n : Nat) : Has w (w.drewN n) := fun _ _ _ h => h
abbrev QtPost (w : World) (b : Bool) (r : Ending) (w' : World) : Prop := r = .returned (.bool b) ∧ ∃ n, w' = w.drewN n
theorem eqEs_no {l m : List Ex} (i : Nat) (h : i < l.length) (h' : i < m.length) (hp : eqE l[i] m[i] = false) : eqEs l m = false := by
  rw [eqL_es]
  exact eqL_no i h h' hp
theorem eqSs_no {l m : List St} (i : Nat) (h : i < l.length) (h' : i < m.length) (hp : eqS l[i] m[i] = false) : eqSs l m = false := by
  rw [eqL_ss]
  exact eqL_no i h h' hp
theorem bne_no {α : Type} [BEq α] {a b : α} (h : (a == b) = false) : (a != b) = true := by simp [bne, h]
theorem bne_yes {α : Type} [BEq α] {a b : α} (h : (a == b) = true) : (a != b) = false := by simp [bne, h]
theorem exs_sz {l : List Ex} {k : Nat} (h : k < l.length) : SizeOf.sizeOf l[k].args < SizeOf.sizeOf l := by
  have h1 := List.sizeOf_lt_of_mem (List.getElem_mem h)
  have h2 : SizeOf.sizeOf l[k].args < SizeOf.sizeOf l[k] := by
    generalize l[k] = e
    cases e
    simp only [Ex.args, Ex.mk.sizeOf_spec]
    omega
  omega
set_option maxRecDepth 20000 in
set_option maxHeartbeats 8000000 in
theorem refExprs1_any : ∀ (N : Nat) (l m : List Ex) (a a' : Option Addr) (cap cap' : Nat) (w : World), SizeOf.sizeOf l < N → l.length ≤ maxLen → m.length ≤ maxLen → Ex.Row w l a → Ex.Row w m a' →
    Calls Tryd.prog 40 #[.slice a l.length cap, .slice a' m.length cap'] w (QtPost w (eqEs l m)) := by
  intro N
  induction N with
  | zero => intro l m a a' cap cap' w h; exact absurd h (Nat.not_lt_zero _)
  | succ N ih =>
    intro l m a a' cap cap' w hN hll hml hl hm
    unfold maxLen at hll hml
    by_cases hlen : ¬ (l.length : Int) = (m.length : Int)
    · have hlen2 : ((l.length : Int) != (m.length : Int)) = true := by simpa using hlen
      have HE := hide (eqEs_len (l := l) (m := m) (by omega))
      clear hlen ih hl hm
      go_enter Tryd.func40, Tryd.ntmps40
      go_wp2_with fail
      go_ret
      exact ⟨ret_bool HE.out.symm, 0, rfl⟩
    have hlen2 : ((l.length : Int) != (m.length : Int)) = false := by simpa using hlen
    have hlm : Hid (l.length = m.length) := hide (by omega)
    have HL := hide hl
    have HM := hide hm
    have IH := hide ih
    clear hlen ih hl hm
    go_enter Tryd.func40, Tryd.ntmps40
    go_wp2_with fail
    go_loopw [5] (fun i wr => ∃ k n : Nat, k ≤ l.length ∧ i = .int .i64 k ∧ Hid (∀ (i : Nat) (h : i < l.length) (h' : i < m.length), i < k → eqE l[i] m[i] = true) ∧ Hid (wr = w.drewN n)) (fun i _ => l.length - (intOf i).toNat)
    case atStart => exact ⟨0, 0, Nat.zero_le _, rfl, fun i _ _ h => absurd h (Nat.not_lt_zero _), rfl⟩
    case round =>
      obtain ⟨k, nn, hk, rfl, hall, HWR⟩ := hrel
      have hasw : Has w wr := by rw [HWR.out]; exact has_drewN _
      by_cases hlt : k < l.length
      · have hlt' : k < m.length := by have := hlm.out; omega
        obtain ⟨b, o, rfl⟩ := HL.out.addr (by omega)
        obtain ⟨b', o', rfl⟩ := HM.out.addr (by omega)
        obtain ⟨ax, capx, c0, c1, c2, c3, c4, hw, hr⟩ := ((HL.out.get k hlt).has hasw).val
        obtain ⟨ay, capy, d0, d1, d2, d3, d4, hw', hr'⟩ := ((HM.out.get k hlt').has hasw).val
        have hbl1 := cell_lt c0
        have hbl2 := cell_lt d0
        simp only at hbl1 hbl2
        have hsz := exs_sz hlt
        have h1 := hide fun (W : World) (hW : Has wr W) => IH.out l[k].args m[k].args ax ay capx capy W (by omega) (Nat.le_trans hw.len hw.cap) (Nat.le_trans hw'.len hw'.cap) (hr.has hW) (hr'.has hW)
        clear hw hr hw' hr' hsz
        cases q1 : l[k].kind == m[k].kind
        · have g1 := bne_no q1
          have HE := hide (eqEs_no k hlt hlt' (by rw [eqE_eq]; simp [*]))
          clear q1 h1
          go_wp2_with fail
          go_quiet (fail)
          go_wp2_with fail
          go_ret
          exact ⟨ret_bool HE.out.symm, _, by rw [HWR.out, World.drewN_drewN]⟩
        have g1 := bne_yes q1
        cases q2 : l[k].op == m[k].op
        · have g2 := bne_no q2
          have HE := hide (eqEs_no k hlt hlt' (by rw [eqE_eq]; simp [*]))
          clear q1 q2 h1
          go_wp2_with fail
          go_quiet (fail)
          go_wp2_with fail
          go_ret
          exact ⟨ret_bool HE.out.symm, _, by rw [HWR.out, World.drewN_drewN]⟩
        have g2 := bne_yes q2
        cases q3 : l[k].num == m[k].num
        · have g3 := bne_no q3
          have HE := hide (eqEs_no k hlt hlt' (by rw [eqE_eq]; simp [*]))
          clear q1 q2 q3 h1
          go_wp2_with fail
          go_quiet (fail)
          go_wp2_with fail
          go_ret
          exact ⟨ret_bool HE.out.symm, _, by rw [HWR.out, World.drewN_drewN]⟩
        have g3 := bne_yes q3
        cases q4 : l[k].name == m[k].name
        · have g4 := bne_no q4
          have g4a : decide (l[k].name = m[k].name) = false := by simpa using q4
          have g4b : (!decide (l[k].name = m[k].name)) = true := by rw [g4a]; rfl
          have HE := hide (eqEs_no k hlt hlt' (by rw [eqE_eq]; simp [*]))
          clear q1 q2 q3 h1
          go_wp2_with fail
          go_quiet (fail)
          go_wp2_with fail
          go_ret
          exact ⟨ret_bool HE.out.symm, _, by rw [HWR.out, World.drewN_drewN]⟩
        have g4 := bne_yes q4
        have g4a : decide (l[k].name = m[k].name) = true := by simpa using q4
        have g4b : (!decide (l[k].name = m[k].name)) = false := by rw [g4a]; rfl
        cases q5 : eqEs l[k].args m[k].args
        · have HE := hide (eqEs_no k hlt hlt' (by rw [eqE_eq]; simp [*]))
          rw [q5] at h1
          clear q1 q2 q3 q5
          go_wp2_with fail
          go_quiet (first | (go_at_call 40; refine Calls.quiet_of (h1.out _ ?_); exact fun _ _ _ h => h))
          go_wp2_with fail
          go_ret
          exact ⟨ret_bool HE.out.symm, _, by rw [HWR.out, World.drewN_drewN]⟩
        · have HE := hide (show eqE l[k] m[k] = true by rw [eqE_eq]; simp [*])
          rw [q5] at h1
          clear q1 q2 q3 q5
          go_wp2_with fail
          go_quiet (first | (go_at_call 40; refine Calls.quiet_of (h1.out _ ?_); exact fun _ _ _ h => h))
          go_wp2_with fail
          go_roundw
          case rel =>
            refine ⟨k + 1, nn + nq, by omega, by go_num, ?_, hide (by rw [HWR.out, World.drewN_drewN])⟩
            intro i hi hi' hik
            by_cases e : i = k
            · subst e; exact HE.out
            · exact hall i hi hi' (by omega)
          case measure => simp [intOf]; omega
      · obtain rfl : k = l.length := by omega
        have HE := hide ((eqEs_all l m hlm.out).2 (fun i h h' => hall i h h' h))
        go_wp2_with fail
        go_ret
        exact ⟨ret_bool HE.out.symm, _, HWR.out⟩
theorem refExprs_any (l m : List Ex) (a a' : Option Addr) (cap cap' : Nat) (w : World) (h1 : l.length ≤ maxLen) (h2 : m.length ≤ maxLen) (h3 : Ex.Row w l a) (h4 : Ex.Row w m a') :
    Calls Tryd.prog 40 #[.slice a l.length cap, .slice a' m.length cap'] w (QtPost w (eqEs l m)) := refExprs1_any _ l m a a' cap cap' w (Nat.lt_succ_self _) h1 h2 h3 h4
end Go.Proofs.YthpmecbekpmijaaDoor
