/- points.greatest, Parent, Last: what they answer. -/
import Derived.Test.YtccgpmncpemmdaaDoorPtF
import Derived.IntWalk
namespace Go.Proofs.YtccgpmncpemmdaaDoor
open Go Go.RowKit
set_option linter.unusedSimpArgs false
set_option linter.unusedVariables false
set_option linter.unnecessarySimpa false
mutual
/-- The number of the last statement in a statement, itself included. -/
def St.gr : St → Int | .mk _ i _ _ _ _ bs es => if es.isEmpty then (if bs.isEmpty then i else grL bs) else grL es
def grL : List St → Int | [] => 0 | s :: l => if l.isEmpty then s.gr else grL l
end
theorem St.gr_eq (s : St) : s.gr = if s.els.isEmpty then (if s.body.isEmpty then s.no else grL s.body) else grL s.els := by cases s; rw [St.gr]; rfl
theorem grL_last : ∀ (l : List St) (k : Nat) (h : k < l.length), k + 1 = l.length → grL l = l[k].gr
  | [], _, h, _ => absurd h (Nat.not_lt_zero _)
  | [s], k, h, e => by
    obtain rfl : k = 0 := by simp at e; omega
    simp [grL]
  | s :: t :: l, k, h, e => by
    cases k with
    | zero => simp at e
    | succ k =>
      have := grL_last (t :: l) k (by simpa using h) (by simpa using e)
      rw [grL]
      simpa using this
theorem cnt_get {l : List St} {k : Nat} (h : k < l.length) : l[k].cnt ≤ cntL l := by
  have h1 := cntL_take l k h
  have h2 := cntL_take_le l (k + 1)
  omega
set_option maxRecDepth 20000 in
set_option maxHeartbeats 4000000 in
theorem greatest_any : ∀ (N : Nat) (l : List St) (a : Option Addr) (cap : Nat) (w : World), cntL l ≤ N → 0 < l.length → l.length ≤ cap → cap ≤ maxLen → St.Row w l a →
    Calls Tryd.prog 58 #[.slice a l.length cap] w fun e w' => e = .returned (.int .i64 (grL l)) ∧ Below w.heap.size w w' := by
  intro N
  induction N with
  | zero => intro l a cap w hN h0; have := len_cnt l; omega
  | succ N ih =>
    intro l a cap w hN h0 hl hc hr
    have hll : l.length ≤ 9223372036854775807 := Nat.le_trans hl hc
    obtain ⟨b, o, rfl⟩ := hr.addr h0
    obtain ⟨k, hk⟩ : ∃ k, k + 1 = l.length := ⟨l.length - 1, by omega⟩
    have hkl : k < l.length := by omega
    obtain ⟨pa, pb, pe, ca, cb, ce, hcs, hw, ha, hbo, hel⟩ := (hr.get k hkl).val
    obtain ⟨c0, c1, c2, c3, c4, c5, c6, c7⟩ := hcs
    have hbl := cell_lt c0
    simp only at hbl
    have hcn : cntL l[k].body ≤ N ∧ cntL l[k].els ≤ N := by
      have h1 := cnt_get hkl
      have h2 := St.cnt_eq l[k]
      omega
    have HG := hide (grL_last l k hkl hk)
    have hkl2 : (l.length : Int) - 1 = (k : Int) := by omega
    have HIB : Hid (∀ W, Below w.heap.size w W → 0 < l[k].body.length → Calls Tryd.prog 58 #[.slice pb l[k].body.length cb] W fun e w' => e = .returned (.int .i64 (grL l[k].body)) ∧ Below W.heap.size W w') := hide fun W hW h0 => ih _ pb cb W hcn.1 h0 hw.lb hw.cb (hbo.keep hW (Nat.le_refl _))
    have HIE : Hid (∀ W, Below w.heap.size w W → 0 < l[k].els.length → Calls Tryd.prog 58 #[.slice pe l[k].els.length ce] W fun e w' => e = .returned (.int .i64 (grL l[k].els)) ∧ Below W.heap.size W w') := hide fun W hW h0 => ih _ pe ce W hcn.2 h0 hw.le hw.ce (hel.keep hW (Nat.le_refl _))
    have hx : (0 : Int) ≤ (k : Int) := by omega
    have hxl : (k : Int) < (l.length : Int) := by omega
    have HE := hide (St.gr_eq l[k])
    have HB := hide (((bl w).al (.cells #[.int .i64 l[k].kind, .int .i64 l[k].no, .string ⟨l[k].name.toArray⟩, .int .i64 l[k].typ, .string ⟨l[k].callee.toArray⟩, .slice pa l[k].args.length ca, .slice pb l[k].body.length cb, .slice pe l[k].els.length ce] 62)).al (.cells #[.slice pe l[k].els.length ce, .slice pb l[k].body.length cb] 40))
    have hm1 : l[k].els.length ≤ 9223372036854775807 := Nat.le_trans hw.le hw.ce
    have hm2 : l[k].body.length ≤ 9223372036854775807 := Nat.le_trans hw.lb hw.cb
    clear ih hr ha hbo hel hw hN hcn
    have e1 : IntKind.i64.wrap ((l.length : Int) - 1) = (k : Int) := by rw [hkl2]; exact IntWalk.i64_in _ (by omega)
    have HK1 := hide hk
    clear hk hkl2
    go_enter Tryd.func58, Tryd.ntmps58
    go_wp2_with fail
    have hX : Hid (((w.alloc (.cells #[.int .i64 l[k].kind, .int .i64 l[k].no, .string ⟨l[k].name.toArray⟩, .int .i64 l[k].typ, .string ⟨l[k].callee.toArray⟩, .slice pa l[k].args.length ca, .slice pb l[k].body.length cb, .slice pe l[k].els.length ce] 62)).alloc (.cells #[.slice pe l[k].els.length ce, .slice pb l[k].body.length cb] 40)).heap[w.heap.size + 1]? = some (.cells #[.slice pe l[k].els.length ce, .slice pb l[k].body.length cb] 40 (0, 0))) := hide (by
      have := heap_alloc_new (w.alloc (.cells #[.int .i64 l[k].kind, .int .i64 l[k].no, .string ⟨l[k].name.toArray⟩, .int .i64 l[k].typ, .string ⟨l[k].callee.toArray⟩, .slice pa l[k].args.length ca, .slice pb l[k].body.length cb, .slice pe l[k].els.length ce] 62)) (.cells #[.slice pe l[k].els.length ce, .slice pb l[k].body.length cb] 40)
      simpa using this)
    have hS : Hid (((w.alloc (.cells #[.int .i64 l[k].kind, .int .i64 l[k].no, .string ⟨l[k].name.toArray⟩, .int .i64 l[k].typ, .string ⟨l[k].callee.toArray⟩, .slice pa l[k].args.length ca, .slice pb l[k].body.length cb, .slice pe l[k].els.length ce] 62)).alloc (.cells #[.slice pe l[k].els.length ce, .slice pb l[k].body.length cb] 40)).heap[w.heap.size]? = some (.cells #[.int .i64 l[k].kind, .int .i64 l[k].no, .string ⟨l[k].name.toArray⟩, .int .i64 l[k].typ, .string ⟨l[k].callee.toArray⟩, .slice pa l[k].args.length ca, .slice pb l[k].body.length cb, .slice pe l[k].els.length ce] 62 (0, 0))) := hide (by
      rw [Below.heap_alloc _ _ _ (by simp)]
      exact heap_alloc_new w _)
    generalize (w.alloc (.cells #[.int .i64 l[k].kind, .int .i64 l[k].no, .string ⟨l[k].name.toArray⟩, .int .i64 l[k].typ, .string ⟨l[k].callee.toArray⟩, .slice pa l[k].args.length ca, .slice pb l[k].body.length cb, .slice pe l[k].els.length ce] 62)).alloc (.cells #[.slice pe l[k].els.length ce, .slice pb l[k].body.length cb] 40) = V at *
    have x0 := cell_at (j := 0) hX.out rfl
    have x1 := cell_at (j := 1) hX.out rfl
    have s1 := cell_at (j := 1) hS.out rfl
    have hV1 := (Array.getElem?_eq_some_iff.1 hX.out).1
    have hV0 := (Array.getElem?_eq_some_iff.1 hS.out).1
    clear c0 c1 c2 c3 c4 c5 c6 c7 e1
    go_loopw [18] (fun i wr => ∃ j : Nat, j ≤ 2 ∧ i = .int .i64 j ∧ (1 ≤ j → l[k].els.length = 0) ∧ (2 ≤ j → l[k].body.length = 0) ∧ V = wr) (fun i _ => 2 - (intOf i).toNat)
    case atStart => exact ⟨0, by omega, rfl, by omega, by omega, rfl⟩
    case round =>
      obtain ⟨j, hj, rfl, hj1, hj2, rfl⟩ := hrel
      have HJ1 := hide hj1
      have HJ2 := hide hj2
      clear hj1 hj2
      obtain rfl | rfl | rfl : j = 0 ∨ j = 1 ∨ j = 2 := by omega
      · by_cases h : 0 < l[k].els.length
        · have HI := hide (HIE.out _ HB.out h)
          have HP : Hid (grL l = grL l[k].els) := hide (by rw [HG.out, HE.out, if_neg]; intro h2; rw [List.isEmpty_iff] at h2; rw [h2] at h; simp at h)
          go_wp2_with fail
          refine HI.out.mono ?_
          rintro r w1 ⟨rfl, hb⟩
          go_wp2_with fail
          go_ret
          exact ⟨ret_int HP.out.symm, HB.out.tr hb⟩
        · have h' : ¬ (0 : Int) < (l[k].els.length : Int) := by omega
          go_wp2_with fail
          go_roundw
          case rel => exact ⟨1, by omega, by go_num, fun _ => by omega, by omega, trivial⟩
          case measure => simp [intOf]
      · by_cases h : 0 < l[k].body.length
        · have HI := hide (HIB.out _ HB.out h)
          have HP : Hid (grL l = grL l[k].body) := hide (by
            rw [HG.out, HE.out, if_pos (by rw [List.isEmpty_iff]; exact List.eq_nil_of_length_eq_zero (HJ1.out (by omega))), if_neg]
            intro h2; rw [List.isEmpty_iff] at h2; rw [h2] at h; simp at h)
          go_wp2_with fail
          refine HI.out.mono ?_
          rintro r w1 ⟨rfl, hb⟩
          go_wp2_with fail
          go_ret
          exact ⟨ret_int HP.out.symm, HB.out.tr hb⟩
        · have h' : ¬ (0 : Int) < (l[k].body.length : Int) := by omega
          go_wp2_with fail
          go_roundw
          case rel => exact ⟨2, by omega, by go_num, fun _ => HJ1.out (by omega), fun _ => by omega, trivial⟩
          case measure => simp [intOf]
      · have HP : Hid (grL l = l[k].no) := hide (by
          rw [HG.out, HE.out, if_pos (by rw [List.isEmpty_iff]; exact List.eq_nil_of_length_eq_zero (HJ1.out (by omega))), if_pos (by rw [List.isEmpty_iff]; exact List.eq_nil_of_length_eq_zero (HJ2.out (by omega)))])
        go_wp2_with fail
        go_ret
        exact ⟨ret_int HP.out.symm, HB.out⟩
/-- What Parent, Last and the like answer. -/
def parM (f : Fn) (no : Int) : Int × Bool × Int :=
  if checkM [f] = 0 then match findP f no with | none => (0, false, 3) | some (_ :: p :: _) => (p.s.no, true, 0) | some _ => (0, false, 0) else (0, false, 2)
def lastM (f : Fn) (no : Int) : Int × Int :=
  if checkM [f] = 0 then match findP f no with | none => (0, 3) | some (q :: _) => (grL q.blk, 0) | some [] => (0, 0) else (0, 2)
set_option maxRecDepth 20000 in
set_option maxHeartbeats 4000000 in
theorem parent_any (f : Fn) (v : Value) (no : Int) (w : World) (hv : f.Val w v) (hT : Tab w) : Calls Tryd.prog 48 #[v, .int .i64 no] w fun e w' => e = .returned (.tuple #[.int .i64 (parM f no).1, .bool (parM f no).2.1, .int .i64 (parM f no).2.2]) ∧ Below w.heap.size w w' := by
  have hF := fun (W : World) (hW : Below w.heap.size w W) => find_stmt_any f v no W (hv.keep hW (Nat.le_refl _)) (hT.below hW)
  obtain ⟨pp, pb, cp, cb, rfl, hw, hp, hr⟩ := hv
  have HF := hide hF
  clear hw hp hr hT hF
  obtain ⟨p, hp⟩ : ∃ p, parM f no = p := ⟨_, rfl⟩
  rw [hp]
  have HP := hide hp
  clear hp
  go_enter Tryd.func48, Tryd.ntmps48
  go_wp2_with fail
  refine (HF.out _ ((bl w).al _)).mono ?_
  rintro r w1 ⟨hb, (⟨hc, rfl⟩ | ⟨hc, hf, rfl⟩ | ⟨hc, q, b, hf, rfl, hch⟩)⟩
  · have HB := hide (((bl w).al _).tr hb)
    have he : p = (0, false, 2) := by rw [← HP.out, parM, if_neg hc]
    subst he
    clear hb hc
    go_wp2_with fail
    exact bodyPost_ret (v := .tuple #[.int .i64 0, .bool false, .int .i64 2]) (by simp [results, Tryd.results48, go_sem]) rfl ⟨rfl, HB.out⟩
  · have HB := hide (((bl w).al _).tr hb)
    have he : p = (0, false, 3) := by rw [← HP.out, parM, if_pos hc, hf]
    subst he
    clear hb hc hf
    go_wp2_with fail
    exact bodyPost_ret (v := .tuple #[.int .i64 0, .bool false, .int .i64 3]) (by simp [results, Tryd.results48, go_sem]) rfl ⟨rfl, HB.out⟩
  · have HB := hide (((bl w).al _).tr hb)
    cases q with
    | nil => simp [ChAt] at hch
    | cons q qs =>
      obtain ⟨b', p', a, cap, hb', k0, hst, k9, k10, h5, h6, h7, h8, h9⟩ := hch
      simp only [Option.some.injEq] at hb'
      subst hb'
      have hbl := cell_lt k0
      simp only at hbl
      cases qs with
      | nil =>
        have he : p = (0, false, 0) := by rw [← HP.out, parM, if_pos hc, hf]
        subst he
        obtain rfl : p' = none := h9
        simp only [Option.map_none] at k0
        clear hb hc hf hst k9 k10 h8
        go_wp2_with fail
        exact bodyPost_ret (v := .tuple #[.int .i64 0, .bool false, .int .i64 0]) (by simp [results, Tryd.results48, go_sem]) rfl ⟨rfl, HB.out⟩
      | cons q2 qs =>
        obtain ⟨b2, _, _, _, rfl, _, hst2, _⟩ := h9
        have he : p = (q2.s.no, true, 0) := by rw [← HP.out, parM, if_pos hc, hf]
        subst he
        obtain ⟨_, _, _, _, _, _, hcs, _⟩ := hst2.val
        have kn := hcs.c1
        have hbl2 := cell_lt kn
        simp only at hbl2
        simp only [Option.map_some] at k0
        clear hb hc hf hst k9 k10 h8 hcs hst2
        go_wp2_with fail
        exact bodyPost_ret (v := .tuple #[.int .i64 q2.s.no, .bool true, .int .i64 0]) (by simp [results, Tryd.results48, go_sem]) rfl ⟨rfl, HB.out⟩
set_option maxRecDepth 20000 in
set_option maxHeartbeats 4000000 in
theorem last_any (f : Fn) (v : Value) (no : Int) (w : World) (hv : f.Val w v) (hT : Tab w) : Calls Tryd.prog 49 #[v, .int .i64 no] w fun e w' => e = .returned (.tuple #[.int .i64 (lastM f no).1, .int .i64 (lastM f no).2]) ∧ Below w.heap.size w w' := by
  have hF := fun (W : World) (hW : Below w.heap.size w W) => find_stmt_any f v no W (hv.keep hW (Nat.le_refl _)) (hT.below hW)
  obtain ⟨pp, pb, cp, cb, rfl, hw, hp, hr⟩ := hv
  have HF := hide hF
  clear hw hp hr hT hF
  obtain ⟨p, hp⟩ : ∃ p, lastM f no = p := ⟨_, rfl⟩
  rw [hp]
  have HP := hide hp
  clear hp
  go_enter Tryd.func49, Tryd.ntmps49
  go_wp2_with fail
  refine (HF.out _ ((bl w).al _)).mono ?_
  rintro r w1 ⟨hb, (⟨hc, rfl⟩ | ⟨hc, hf, rfl⟩ | ⟨hc, q, b, hf, rfl, hch⟩)⟩
  · have HB := hide (((bl w).al _).tr hb)
    have he : p = (0, 2) := by rw [← HP.out, lastM, if_neg hc]
    subst he
    clear hb hc
    go_wp2_with fail
    go_ret2
    exact ⟨rfl, HB.out⟩
  · have HB := hide (((bl w).al _).tr hb)
    have he : p = (0, 3) := by rw [← HP.out, lastM, if_pos hc, hf]
    subst he
    clear hb hc hf
    go_wp2_with fail
    go_ret2
    exact ⟨rfl, HB.out⟩
  · have HB := hide (((bl w).al _).tr hb)
    cases q with
    | nil => simp [ChAt] at hch
    | cons q qs =>
      obtain ⟨b', p', a, cap, hb', k0, hst, k9, k10, h5, h6, h7, h8, h9⟩ := hch
      simp only [Option.some.injEq] at hb'
      subst hb'
      have hbl := cell_lt k9
      simp only at hbl
      have he : p = (grL q.blk, 0) := by rw [← HP.out, lastM, if_pos hc, hf]
      subst he
      have HG := hide (greatest_any (cntL q.blk) q.blk a cap w1 (Nat.le_refl _) (by omega) h5 h6 h8)
      clear hb hc hf hst k0 k10 h8 h9
      go_wp2_with fail
      refine HG.out.mono ?_
      rintro r w2 ⟨rfl, hb⟩
      go_wp2_with fail
      go_ret2
      exact ⟨rfl, HB.out.tr hb⟩
end Go.Proofs.YtccgpmncpemmdaaDoor
