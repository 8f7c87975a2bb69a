/- slices.EqualFunc over expressions, statements and functions; shape.exprs and shape.stmts answer eqE and eqS. -/
import Derived.Test.YthpmecbekpmijaaGreatDoorSpG
import Derived.Test.YthpmecbekpmijaaGreatDoorSpE0
namespace Go.Proofs.YthpmecbekpmijaaGreatDoor
open Go Go.RowKit
set_option linter.unusedSimpArgs false
set_option linter.unusedVariables false
set_option linter.unnecessarySimpa false
set_option maxHeartbeats 4000000 in
theorem equalFunc_exs (l m : List Ex) (p : Ex → Ex → Bool) (a a' : Option Addr) (cap cap' g : Nat) (caps : Array Value) (eg : ∀ args w, (callFunc g args).run Tryz.prog w = .ok (.enter g args) w) (w : World) (hll : l.length ≤ maxLen) (hml : m.length ≤ maxLen) (hl : Ex.Row w l a) (hm : Ex.Row w m a')
    (hp : ∀ (i : Nat) (h : i < l.length) (h' : i < m.length) (v u : Value) (W : World), Below w.heap.size w W → Ex.Val W l[i] v → Ex.Val W m[i] u → Calls Tryz.prog g (#[v, u] ++ caps) W fun e w' => e = .returned (.bool (p l[i] m[i])) ∧ Below W.heap.size W w') :
    Calls Tryz.prog 90 #[.slice a l.length cap, .slice a' m.length cap', .func (.func g) #[] caps] w fun e w' => e = .returned (.bool (eqL p l m)) ∧ Below w.heap.size w w' := by
  unfold maxLen at hll hml
  have HL := hide hl
  have HM := hide hm
  have HP := hide hp
  clear hl hm hp
  by_cases hlen : ¬ (l.length : Int) = (m.length : Int)
  · have hlen2 : ((l.length : Int) != (m.length : Int)) = true := by simpa using hlen
    have HE := hide (eqL_len (p := p) (l := l) (m := m) (by omega))
    clear hlen
    go_enter Tryz.func90, Tryz.ntmps90
    go_wp2_with fail
    go_ret
    exact ⟨ret_bool HE.out.symm, bl _⟩
  have hlen2 : ((l.length : Int) != (m.length : Int)) = false := by simpa using hlen
  have hlm : Hid (l.length = m.length) := hide (by omega)
  clear hlen
  go_enter Tryz.func90, Tryz.ntmps90
  go_wp2_with fail
  go_loopw [7, 17] (fun _ i wr => ∃ k : Nat, k ≤ l.length ∧ i = .int .i64 k ∧ Hid (∀ (i : Nat) (h : i < l.length) (h' : i < m.length), i < k → p l[i] m[i] = true) ∧ Below w.heap.size w wr) (fun _ i _ => l.length - (intOf i).toNat)
  case atStart => exact ⟨0, Nat.zero_le _, rfl, fun i _ _ h => absurd h (Nat.not_lt_zero _), bl _⟩
  case round =>
    obtain ⟨k, hk, rfl, hall, hb⟩ := hrel
    by_cases hlt : k < l.length
    · have hlt' : k < m.length := by have := hlm.out; omega
      obtain ⟨b, o, rfl⟩ := HL.out.addr (by omega)
      obtain ⟨b', o', rfl⟩ := HM.out.addr (by omega)
      obtain ⟨ax, capx, c0, c1, c2, c3, c4, hw, hr⟩ := ((HL.out.get k hlt).keep hb (Nat.le_refl _)).val
      obtain ⟨ay, capy, d0, d1, d2, d3, d4, hw', hr'⟩ := ((HM.out.get k hlt').keep hb (Nat.le_refl _)).val
      have h1 := hide fun (W : World) (hW : Below wr.heap.size wr W) => HP.out k hlt hlt' _ _ W (hb.tr hW) ((Ex.Val.mk hw hr).keep hW (Nat.le_refl _)) ((Ex.Val.mk hw' hr').keep hW (Nat.le_refl _))
      clear hw hr hw' hr'
      have hl1 := cell_lt c0
      have hl2 := cell_lt d0
      simp only at hl1 hl2
      cases hq : p l[k] m[k]
      all_goals
        rw [hq] at h1
        have HQ := hide hq
        clear hq
      · have HE := hide (eqL_no (p := p) k hlt hlt' HQ.out)
        go_wp2_with (go_at_fn g; refine (h1.out _ (((bl wr).al _).al _)).mono ?_; rintro e w1 ⟨rfl, hb1⟩)
        go_ret
        exact ⟨ret_bool HE.out.symm, ((hb.al _).al _).tr hb1⟩
      · go_wp2_with (go_at_fn g; refine (h1.out _ (((bl wr).al _).al _)).mono ?_; rintro e w1 ⟨rfl, hb1⟩)
        go_roundw
        case rel =>
          refine ⟨k + 1, by omega, by go_num, ?_, ((hb.al _).al _).tr hb1⟩
          intro i hi hi' hik
          by_cases e : i = k
          · subst e; exact HQ.out
          · exact hall i hi hi' (by omega)
        case measure => simp [intOf]; omega
    · obtain rfl : k = l.length := by omega
      have HE := hide (eqL_yes (p := p) hlm.out (fun i h h' => hall i h h' h))
      go_wp2_with fail
      go_ret
      exact ⟨ret_bool HE.out.symm, hb⟩
set_option maxHeartbeats 4000000 in
theorem equalFunc_sts (l m : List St) (p : St → St → Bool) (a a' : Option Addr) (cap cap' g : Nat) (caps : Array Value) (eg : ∀ args w, (callFunc g args).run Tryz.prog w = .ok (.enter g args) w) (w : World) (hll : l.length ≤ maxLen) (hml : m.length ≤ maxLen) (hl : St.Row w l a) (hm : St.Row w m a')
    (hp : ∀ (i : Nat) (h : i < l.length) (h' : i < m.length) (v u : Value) (W : World), Below w.heap.size w W → St.Val W l[i] v → St.Val W m[i] u → Calls Tryz.prog g (#[v, u] ++ caps) W fun e w' => e = .returned (.bool (p l[i] m[i])) ∧ Below W.heap.size W w') :
    Calls Tryz.prog 83 #[.slice a l.length cap, .slice a' m.length cap', .func (.func g) #[] caps] w fun e w' => e = .returned (.bool (eqL p l m)) ∧ Below w.heap.size w w' := by
  unfold maxLen at hll hml
  have HL := hide hl
  have HM := hide hm
  have HP := hide hp
  clear hl hm hp
  by_cases hlen : ¬ (l.length : Int) = (m.length : Int)
  · have hlen2 : ((l.length : Int) != (m.length : Int)) = true := by simpa using hlen
    have HE := hide (eqL_len (p := p) (l := l) (m := m) (by omega))
    clear hlen
    go_enter Tryz.func83, Tryz.ntmps83
    go_wp2_with fail
    go_ret
    exact ⟨ret_bool HE.out.symm, bl _⟩
  have hlen2 : ((l.length : Int) != (m.length : Int)) = false := by simpa using hlen
  have hlm : Hid (l.length = m.length) := hide (by omega)
  clear hlen
  go_enter Tryz.func83, Tryz.ntmps83
  go_wp2_with fail
  go_loopw [7, 17] (fun _ i wr => ∃ k : Nat, k ≤ l.length ∧ i = .int .i64 k ∧ Hid (∀ (i : Nat) (h : i < l.length) (h' : i < m.length), i < k → p l[i] m[i] = true) ∧ Below w.heap.size w wr) (fun _ i _ => l.length - (intOf i).toNat)
  case atStart => exact ⟨0, Nat.zero_le _, rfl, fun i _ _ h => absurd h (Nat.not_lt_zero _), bl _⟩
  case round =>
    obtain ⟨k, hk, rfl, hall, hb⟩ := hrel
    by_cases hlt : k < l.length
    · have hlt' : k < m.length := by have := hlm.out; omega
      obtain ⟨b, o, rfl⟩ := HL.out.addr (by omega)
      obtain ⟨b', o', rfl⟩ := HM.out.addr (by omega)
      obtain ⟨pa, pb, pe, ca, cb, ce, ⟨c0, c1, c2, c3, c4, c5, c6, c7⟩, hw, ha, hbo, hel⟩ := ((HL.out.get k hlt).has (has_keep hb (Nat.le_refl _))).val
      obtain ⟨pa', pb', pe', ca', cb', ce', ⟨d0, d1, d2, d3, d4, d5, d6, d7⟩, hw', ha', hbo', hel'⟩ := ((HM.out.get k hlt').has (has_keep hb (Nat.le_refl _))).val
      have h1 := hide fun (W : World) (hW : Below wr.heap.size wr W) => HP.out k hlt hlt' _ _ W (hb.tr hW) ((St.Val.mk hw ha hbo hel).keep hW (Nat.le_refl _)) ((St.Val.mk hw' ha' hbo' hel').keep hW (Nat.le_refl _))
      clear hw ha hbo hel hw' ha' hbo' hel'
      have hl1 := cell_lt c0
      have hl2 := cell_lt d0
      simp only at hl1 hl2
      cases hq : p l[k] m[k]
      all_goals
        rw [hq] at h1
        have HQ := hide hq
        clear hq
      · have HE := hide (eqL_no (p := p) k hlt hlt' HQ.out)
        go_wp2_with (go_at_fn g; refine (h1.out _ (((bl wr).al _).al _)).mono ?_; rintro e w1 ⟨rfl, hb1⟩)
        go_ret
        exact ⟨ret_bool HE.out.symm, ((hb.al _).al _).tr hb1⟩
      · go_wp2_with (go_at_fn g; refine (h1.out _ (((bl wr).al _).al _)).mono ?_; rintro e w1 ⟨rfl, hb1⟩)
        go_roundw
        case rel =>
          refine ⟨k + 1, by omega, by go_num, ?_, ((hb.al _).al _).tr hb1⟩
          intro i hi hi' hik
          by_cases e : i = k
          · subst e; exact HQ.out
          · exact hall i hi hi' (by omega)
        case measure => simp [intOf]; omega
    · obtain rfl : k = l.length := by omega
      have HE := hide (eqL_yes (p := p) hlm.out (fun i h h' => hall i h h' h))
      go_wp2_with fail
      go_ret
      exact ⟨ret_bool HE.out.symm, hb⟩
theorem Ex.sz_lt {e : Ex} {i : Nat} (h : i < e.args.length) : SizeOf.sizeOf e.args[i] < SizeOf.sizeOf e := by
  have h1 := List.sizeOf_lt_of_mem (List.getElem_mem h)
  have h2 : SizeOf.sizeOf e.args < SizeOf.sizeOf e := by
    cases e
    simp only [Ex.args, Ex.mk.sizeOf_spec]
    omega
  omega
theorem St.sz_body {s : St} {i : Nat} (h : i < s.body.length) : SizeOf.sizeOf s.body[i] < SizeOf.sizeOf s := by
  have h1 := List.sizeOf_lt_of_mem (List.getElem_mem h)
  have h2 : SizeOf.sizeOf s.body < SizeOf.sizeOf s := by
    cases s
    simp only [St.body, St.mk.sizeOf_spec]
    omega
  omega
theorem St.sz_els {s : St} {i : Nat} (h : i < s.els.length) : SizeOf.sizeOf s.els[i] < SizeOf.sizeOf s := by
  have h1 := List.sizeOf_lt_of_mem (List.getElem_mem h)
  have h2 : SizeOf.sizeOf s.els < SizeOf.sizeOf s := by
    cases s
    simp only [St.els, St.mk.sizeOf_spec]
    omega
  omega
theorem same_exs_any (args : Array Value) (q : Bool) (w : World) (h : Calls Tryz.prog 90 args w fun e w' => e = .returned (.bool q) ∧ Below w.heap.size w w') :
    ∀ (a b c : Value), args = #[a, b, c] → Calls Tryz.prog 63 #[a, b, c] w fun e w' => e = .returned (.bool q) ∧ Below w.heap.size w w' := by
  rintro a b c rfl
  have H := hide h
  clear h
  go_enter Tryz.func63, Tryz.ntmps63
  go_wp2_with fail
  refine H.out.mono ?_
  rintro r w1 ⟨rfl, hb⟩
  go_wp2_with fail
  go_ret
  exact ⟨rfl, hb⟩
theorem same_sts_any (args : Array Value) (q : Bool) (w : World) (h : Calls Tryz.prog 83 args w fun e w' => e = .returned (.bool q) ∧ Below w.heap.size w w') :
    ∀ (a b c : Value), args = #[a, b, c] → Calls Tryz.prog 54 #[a, b, c] w fun e w' => e = .returned (.bool q) ∧ Below w.heap.size w w' := by
  rintro a b c rfl
  have H := hide h
  clear h
  go_enter Tryz.func54, Tryz.ntmps54
  go_wp2_with fail
  refine H.out.mono ?_
  rintro r w1 ⟨rfl, hb⟩
  go_wp2_with fail
  go_ret
  exact ⟨rfl, hb⟩
set_option maxRecDepth 20000 in
set_option maxHeartbeats 8000000 in
theorem exprs1_any : ∀ (N : Nat) (x y : Ex) (v u : Value) (w : World), SizeOf.sizeOf x < N → Ex.Val w x v → Ex.Val w y u → Calls Tryz.prog 31 #[v, u] w fun r w' => r = .returned (.bool (eqE x y)) ∧ Below w.heap.size w w' := by
  intro N
  induction N with
  | zero => intro x y v u w h; exact absurd h (Nat.not_lt_zero _)
  | succ N ih =>
    intro x y v u w hN hx hy
    obtain ⟨a, cap, rfl, hw, hr⟩ := hx
    obtain ⟨a', cap', rfl, hw', hr'⟩ := hy
    have h1 := fun (W : World) (hW : Below w.heap.size w W) => equalFunc_exs x.args y.args eqE a a' cap cap' 31 #[] (fun _ _ => by kernel_rfl) W (Nat.le_trans hw.len hw.cap) (Nat.le_trans hw'.len hw'.cap) (hr.keep hW (Nat.le_refl _)) (hr'.keep hW (Nat.le_refl _))
      (fun i h h' v u W' hW' hv hu => by
        have := ih x.args[i] y.args[i] v u W' (by have := Ex.sz_lt h; omega) hv hu
        exact this)
    simp only [← eqL_es] at h1
    obtain ⟨R, hR⟩ : ∃ R, eqE x y = R := ⟨_, rfl⟩
    rw [hR]
    rw [eqE_eq] at hR
    obtain ⟨q, hq⟩ : ∃ q, eqEs x.args y.args = q := ⟨_, rfl⟩
    simp only [hq] at h1
    rw [hq] at hR
    have HC := hide h1
    clear h1 hq hw hr hw' hr' ih hN
    cases h1 : x.kind == y.kind
    · have HR := hide hR
      clear hR
      rw [h1] at HR
      go_enter Tryz.func31, Tryz.ntmps31
      go_wp2_with fail
      go_ret
      exact ⟨ret_bool (by have := HR.out; simpa using this), ((bl w).al _).al _⟩
    rw [h1] at hR
    cases h2 : x.op == y.op
    · have HR := hide hR
      clear hR
      rw [h2] at HR
      go_enter Tryz.func31, Tryz.ntmps31
      go_wp2_with fail
      go_ret
      exact ⟨ret_bool (by have := HR.out; simpa using this), ((bl w).al _).al _⟩
    rw [h2] at hR
    cases h3 : x.num == y.num
    · have HR := hide hR
      clear hR
      rw [h3] at HR
      go_enter Tryz.func31, Tryz.ntmps31
      go_wp2_with fail
      go_ret
      exact ⟨ret_bool (by have := HR.out; simpa using this), ((bl w).al _).al _⟩
    rw [h3] at hR
    cases h4 : x.name == y.name
    · have HR := hide hR
      clear hR
      rw [h4] at HR
      go_enter Tryz.func31, Tryz.ntmps31
      go_wp2_with fail
      go_ret
      exact ⟨ret_bool (by have := HR.out; simpa using this), ((bl w).al _).al _⟩
    rw [h4] at hR
    have HR := hide hR
    clear hR
    go_enter Tryz.func31, Tryz.ntmps31
    go_wp2_with fail
    refine (same_exs_any _ _ _ (HC.out _ (((bl w).al _).al _)) _ _ _ rfl).mono ?_
    rintro r w1 ⟨rfl, hb1⟩
    go_wp2_with fail
    go_ret
    exact ⟨ret_bool (by have := HR.out; simpa using this), (((bl w).al _).al _).tr hb1⟩
theorem exprs_any (x y : Ex) (v u : Value) (w : World) (hx : Ex.Val w x v) (hy : Ex.Val w y u) : Calls Tryz.prog 31 #[v, u] w fun r w' => r = .returned (.bool (eqE x y)) ∧ Below w.heap.size w w' := exprs1_any _ x y v u w (Nat.lt_succ_self _) hx hy
end Go.Proofs.YthpmecbekpmijaaGreatDoor
