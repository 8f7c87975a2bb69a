/- points.visit yields the places of a block, whatever a round does with its own blocks. -/
import Derived.Test.YtccgpmncpemmdaaDoorPl
import Derived.Shelf.Abstract
import Derived.Shelf.RegionOpen
import Derived.WalkKit
import Derived.OwnWalkIn
import Derived.TacticsInMore
import Derived.LoopNIn
import Derived.LoopIn
namespace Go.Proofs.YtccgpmncpemmdaaDoor
open Go Go.RowKit Go.Shelf
set_option linter.unusedSimpArgs false
set_option linter.unusedVariables false
set_option linter.unnecessarySimpa false
attribute [local go_sem] Oper.semAt_some
def VisPost (J Jx : List (List Lv) → List Nat → World → Prop) (pre xs tot : List (List Lv)) (L : List Nat) (w : World) (e : Ending) (w' : World) : Prop :=
  ∃ L', Mv L w L' w' ∧ ((e = .returned (.bool true) ∧ J (pre ++ xs) L' w') ∨ (e = .returned (.bool false) ∧ ∃ q, q <+: tot ∧ Jx q L' w'))
theorem pre_trans {α : Type} {a b c d : List α} (h : a <+: b) (k : d ++ b <+: c) : d ++ a <+: c := by
  obtain ⟨r, rfl⟩ := h
  obtain ⟨s, rfl⟩ := k
  exact ⟨r ++ s, by simp⟩
theorem place_new {W : World} {q : Lv} {qs : List Lv} {pp : Option Nat} {pa pb pe a : Option Addr} {ca cb ce cap : Nat} (hw : StWf q.s.kind q.s.no q.s.name q.s.typ q.s.callee q.s.args.length ca q.s.body.length cb q.s.els.length ce) (h1 : Ex.Row W q.s.args pa) (h2 : St.Row W q.s.body pb) (h3 : St.Row W q.s.els pe)
    (hc : q.blk.length ≤ cap) (hm : cap ≤ maxLen) (hi : q.i < q.blk.length) (hr : St.Row W q.blk a) (hch : ChAt W qs pp) {V : World} (hh : Has W V) {n : Nat} (hx : ∀ (j : Nat) (v : Value), [.pointer (pp.map fun g => ⟨g, 0, none⟩), .int .i64 q.s.kind, .int .i64 q.s.no, .string ⟨q.s.name.toArray⟩, .int .i64 q.s.typ, .string ⟨q.s.callee.toArray⟩, .slice pa q.s.args.length ca, .slice pb q.s.body.length cb, .slice pe q.s.els.length ce, .slice a q.blk.length cap, Value.int .i64 (q.i : Nat)][j]? = some v → V.cell? ⟨n, j, none⟩ = some v) : ChAt V (q :: qs) (some n) := by
  refine ⟨n, pp, a, cap, rfl, hx 0 _ rfl, ?_, hx 9 _ rfl, hx 10 _ rfl, hc, hm, hi, hr.has hh, hch.has hh⟩
  exact St.At.of ⟨hx 1 _ rfl, hx 2 _ rfl, hx 3 _ rfl, hx 4 _ rfl, hx 5 _ rfl, hx 6 _ rfl, hx 7 _ rfl, hx 8 _ rfl⟩ hw (h1.has hh) (h2.has hh) (h3.has hh)
set_option maxRecDepth 20000 in
set_option maxHeartbeats 8000000 in
theorem visit_any (lp B : Nat) (J Jx : List (List Lv) → List Nat → World → Prop) (hJ : Inv B J) (hJx : Inv B Jx) (tot : List (List Lv))
    (hY : ∀ pre q b L V, J pre L V → ChAt (av L V) q (some b) → pre ++ [q] <+: tot → ∀ m, YieldAt Fence.wide m Tryd.prog lp #[.pointer (some ⟨b, 0, none⟩)] V (RndPost J Jx (pre ++ [q]) L V)) :
    ∀ (N : Nat) (l : List St) (a : Option Addr) (cap : Nat) (qs : List Lv) (pp : Option Nat) (pre : List (List Lv)) (L : List Nat) (w : World), cntL l ≤ N → l.length ≤ cap → cap ≤ maxLen → St.Row (av L w) l a → ChAt (av L w) qs pp → pre ++ plsL l qs <+: tot → J pre L w →
      Calls Tryd.prog 56 #[.pointer (pp.map fun g => ⟨g, 0, none⟩), .slice a l.length cap, .func (.yield lp) #[] #[]] w (VisPost J Jx pre (plsL l qs) tot L w) := by
  intro N
  induction N with
  | zero =>
    intro l a cap qs pp pre L w hN hl hc hr hch hpre hj
    have := len_cnt l
    obtain rfl : l = [] := List.eq_nil_of_length_eq_zero (by omega)
    have HP : Hid (VisPost J Jx pre (plsL [] qs) tot L w (.returned (.bool true)) w) := hide ⟨L, Mv.refl _ _, .inl ⟨rfl, by simpa [plsL, plsF] using hj⟩⟩
    clear hr hch hj hpre hY
    refine (callsIn_wide (n := 9)).1 ?_
    refine callsIn_of_wp Tryd.func56 rfl trivial ?_ rfl
    simp only [Tryd.ntmps56, List.size_toArray, List.length_cons, List.length_nil, Nat.reduceAdd, Nat.reduceSub, Array.replicate_succ, Array.replicate_zero, List.push_toArray, List.append_toArray, List.nil_append, List.cons_append]
    gi_wp2
    gi_loopw [12] (fun i wr => i = .int .i64 0 ∧ w = wr) (fun _ _ => 0)
    case atStart => exact ⟨rfl, rfl⟩
    case round =>
      obtain ⟨rfl, rfl⟩ := hrel
      gi_wp2
      go_ret
      exact HP.out
  | succ N ih =>
    intro l a cap qs pp pre L w hN hl hc hr hch hpre hj
    have hll : l.length ≤ 9223372036854775807 := Nat.le_trans hl hc
    have IH := hide ih
    have HY := hide hY
    have HR := hide hr
    have HCH := hide hch
    have HPRE := hide hpre
    have HJ := hide hj
    clear ih hY hr hch hpre hj
    refine (callsIn_wide (n := 9)).1 ?_
    refine callsIn_of_wp Tryd.func56 rfl trivial ?_ rfl
    simp only [Tryd.ntmps56, List.size_toArray, List.length_cons, List.length_nil, Nat.reduceAdd, Nat.reduceSub, Array.replicate_succ, Array.replicate_zero, List.push_toArray, List.append_toArray, List.nil_append, List.cons_append]
    gi_wp2
    gi_loopw [12] (fun i wr => ∃ (k : Nat) (Lk : List Nat), k ≤ l.length ∧ i = .int .i64 k ∧ Hid (Mv L w Lk wr) ∧ Hid (J (pre ++ plsF (l.take k) qs l 0) Lk wr)) (fun i _ => l.length - (intOf i).toNat)
    case atStart => exact ⟨0, L, Nat.zero_le _, rfl, hide (Mv.refl _ _), by simpa [Hid, plsF] using HJ.out⟩
    case round =>
      obtain ⟨k, Lk, hk, rfl, HM, HJK⟩ := hrel
      by_cases hlt : k < l.length
      · obtain ⟨b, o, rfl⟩ := HR.out.addr (by omega)
        have hrk := HR.out.has HM.out.has
        obtain ⟨pa, pb, pe, ca, cb, ce, hcs, hw, ha, hbo, hel⟩ := (hrk.get k hlt).val
        obtain ⟨c0, c1, c2, c3, c4, c5, c6, c7⟩ := hcs.has has_av
        have hbl := cell_lt c0
        simp only at hbl
        have hchk := HCH.out.has HM.out.has
        have hB2 : Below wr.heap.size wr ((wr.alloc (.cells #[.int .i64 l[k].kind, .int .i64 l[k].no, .string ⟨l[k].name.toArray⟩, .int .i64 l[k].typ, .string ⟨l[k].callee.toArray⟩, .slice pa l[k].args.length ca, .slice pb l[k].body.length cb, .slice pe l[k].els.length ce] 62)).alloc (.cells #[.pointer (pp.map fun g => ⟨g, 0, none⟩), .int .i64 l[k].kind, .int .i64 l[k].no, .string ⟨l[k].name.toArray⟩, .int .i64 l[k].typ, .string ⟨l[k].callee.toArray⟩, .slice pa l[k].args.length ca, .slice pb l[k].body.length cb, .slice pe l[k].els.length ce, .slice (some ⟨b, o, none⟩) l.length cap, .int .i64 (k : Nat)] 108)) := ((bl wr).al _).al _
        have hlo := hJ.lt _ _ _ HJK.out
        have hhas : Has (av Lk wr) (av Lk ((wr.alloc (.cells #[.int .i64 l[k].kind, .int .i64 l[k].no, .string ⟨l[k].name.toArray⟩, .int .i64 l[k].typ, .string ⟨l[k].callee.toArray⟩, .slice pa l[k].args.length ca, .slice pb l[k].body.length cb, .slice pe l[k].els.length ce] 62)).alloc (.cells #[.pointer (pp.map fun g => ⟨g, 0, none⟩), .int .i64 l[k].kind, .int .i64 l[k].no, .string ⟨l[k].name.toArray⟩, .int .i64 l[k].typ, .string ⟨l[k].callee.toArray⟩, .slice pa l[k].args.length ca, .slice pb l[k].body.length cb, .slice pe l[k].els.length ce, .slice (some ⟨b, o, none⟩) l.length cap, .int .i64 (k : Nat)] 108))) := has_av_below hB2
        have hX : ((wr.alloc (.cells #[.int .i64 l[k].kind, .int .i64 l[k].no, .string ⟨l[k].name.toArray⟩, .int .i64 l[k].typ, .string ⟨l[k].callee.toArray⟩, .slice pa l[k].args.length ca, .slice pb l[k].body.length cb, .slice pe l[k].els.length ce] 62)).alloc (.cells #[.pointer (pp.map fun g => ⟨g, 0, none⟩), .int .i64 l[k].kind, .int .i64 l[k].no, .string ⟨l[k].name.toArray⟩, .int .i64 l[k].typ, .string ⟨l[k].callee.toArray⟩, .slice pa l[k].args.length ca, .slice pb l[k].body.length cb, .slice pe l[k].els.length ce, .slice (some ⟨b, o, none⟩) l.length cap, .int .i64 (k : Nat)] 108)).heap[wr.heap.size + 1]? = some (.cells #[.pointer (pp.map fun g => ⟨g, 0, none⟩), .int .i64 l[k].kind, .int .i64 l[k].no, .string ⟨l[k].name.toArray⟩, .int .i64 l[k].typ, .string ⟨l[k].callee.toArray⟩, .slice pa l[k].args.length ca, .slice pb l[k].body.length cb, .slice pe l[k].els.length ce, .slice (some ⟨b, o, none⟩) l.length cap, .int .i64 (k : Nat)] 108 (0, 0)) := by
          have := heap_alloc_new (wr.alloc (.cells #[.int .i64 l[k].kind, .int .i64 l[k].no, .string ⟨l[k].name.toArray⟩, .int .i64 l[k].typ, .string ⟨l[k].callee.toArray⟩, .slice pa l[k].args.length ca, .slice pb l[k].body.length cb, .slice pe l[k].els.length ce] 62)) (.cells #[.pointer (pp.map fun g => ⟨g, 0, none⟩), .int .i64 l[k].kind, .int .i64 l[k].no, .string ⟨l[k].name.toArray⟩, .int .i64 l[k].typ, .string ⟨l[k].callee.toArray⟩, .slice pa l[k].args.length ca, .slice pb l[k].body.length cb, .slice pe l[k].els.length ce, .slice (some ⟨b, o, none⟩) l.length cap, .int .i64 (k : Nat)] 108)
          simpa using this
        have hS : ((wr.alloc (.cells #[.int .i64 l[k].kind, .int .i64 l[k].no, .string ⟨l[k].name.toArray⟩, .int .i64 l[k].typ, .string ⟨l[k].callee.toArray⟩, .slice pa l[k].args.length ca, .slice pb l[k].body.length cb, .slice pe l[k].els.length ce] 62)).alloc (.cells #[.pointer (pp.map fun g => ⟨g, 0, none⟩), .int .i64 l[k].kind, .int .i64 l[k].no, .string ⟨l[k].name.toArray⟩, .int .i64 l[k].typ, .string ⟨l[k].callee.toArray⟩, .slice pa l[k].args.length ca, .slice pb l[k].body.length cb, .slice pe l[k].els.length ce, .slice (some ⟨b, o, none⟩) l.length cap, .int .i64 (k : Nat)] 108)).heap[wr.heap.size]? = some (.cells #[.int .i64 l[k].kind, .int .i64 l[k].no, .string ⟨l[k].name.toArray⟩, .int .i64 l[k].typ, .string ⟨l[k].callee.toArray⟩, .slice pa l[k].args.length ca, .slice pb l[k].body.length cb, .slice pe l[k].els.length ce] 62 (0, 0)) := by
          rw [Below.heap_alloc _ _ _ (by simp)]
          exact heap_alloc_new wr (.cells #[.int .i64 l[k].kind, .int .i64 l[k].no, .string ⟨l[k].name.toArray⟩, .int .i64 l[k].typ, .string ⟨l[k].callee.toArray⟩, .slice pa l[k].args.length ca, .slice pb l[k].body.length cb, .slice pe l[k].els.length ce] 62)
        have hCH : ChAt (av Lk ((wr.alloc (.cells #[.int .i64 l[k].kind, .int .i64 l[k].no, .string ⟨l[k].name.toArray⟩, .int .i64 l[k].typ, .string ⟨l[k].callee.toArray⟩, .slice pa l[k].args.length ca, .slice pb l[k].body.length cb, .slice pe l[k].els.length ce] 62)).alloc (.cells #[.pointer (pp.map fun g => ⟨g, 0, none⟩), .int .i64 l[k].kind, .int .i64 l[k].no, .string ⟨l[k].name.toArray⟩, .int .i64 l[k].typ, .string ⟨l[k].callee.toArray⟩, .slice pa l[k].args.length ca, .slice pb l[k].body.length cb, .slice pe l[k].els.length ce, .slice (some ⟨b, o, none⟩) l.length cap, .int .i64 (k : Nat)] 108))) (⟨l[k], l, k⟩ :: qs) (some (wr.heap.size + 1)) := by
          refine place_new (q := ⟨l[k], l, k⟩) hw ha hbo hel hl hc hlt hrk hchk hhas fun j v hv => av_mk ?_ fun h => by have := hlo _ h; omega
          exact cell_at hX (by simpa using hv)
        have hJ2 := hJ.st HJK.out hB2
        have HS := hide hS
        have HCK := hide hCH
        have htk := plsF_take l qs l k hlt
        rw [St.pls_eq] at htk
        have hfull : plsF (l.take (k + 1)) qs l 0 <+: plsL l qs := plsF_pre l qs l (k + 1)
        rw [htk] at hfull
        have hP1 : (pre ++ plsF (l.take k) qs l 0) ++ [⟨l[k], l, k⟩ :: qs] <+: tot := by
          rw [List.append_assoc]
          refine pre_trans (List.IsPrefix.trans ⟨plsL l[k].body (⟨l[k], l, k⟩ :: qs) ++ plsL l[k].els (⟨l[k], l, k⟩ :: qs), by simp⟩ hfull) HPRE.out
        have hP2 : ((pre ++ plsF (l.take k) qs l 0) ++ [⟨l[k], l, k⟩ :: qs]) ++ plsL l[k].body (⟨l[k], l, k⟩ :: qs) <+: tot := by
          rw [List.append_assoc, List.append_assoc]
          refine pre_trans (List.IsPrefix.trans ⟨plsL l[k].els (⟨l[k], l, k⟩ :: qs), by simp⟩ hfull) HPRE.out
        have hP3 : (((pre ++ plsF (l.take k) qs l 0) ++ [⟨l[k], l, k⟩ :: qs]) ++ plsL l[k].body (⟨l[k], l, k⟩ :: qs)) ++ plsL l[k].els (⟨l[k], l, k⟩ :: qs) <+: tot := by
          rw [List.append_assoc, List.append_assoc, List.append_assoc]
          refine pre_trans (List.IsPrefix.trans ⟨[], by simp⟩ hfull) HPRE.out
        have hn0 : wr.heap.size ∉ Lk := fun h => by have := hlo _ h; omega
        have hlb : cntL l[k].body ≤ N ∧ cntL l[k].els ≤ N := by
          have h1 := cntL_take l k hlt
          have h2 := cntL_take_le l (k + 1)
          have h3 := St.cnt_eq l[k]
          omega
        have hbo2 := hide (hbo.has hhas)
        have hel2 := hide (hel.has hhas)
        obtain ⟨fn, tmps, assign, body, hy, hRR⟩ := HY.out _ _ _ _ _ hJ2 hCH hP1 8
        generalize hV0 : (wr.alloc (.cells #[.int .i64 l[k].kind, .int .i64 l[k].no, .string ⟨l[k].name.toArray⟩, .int .i64 l[k].typ, .string ⟨l[k].callee.toArray⟩, .slice pa l[k].args.length ca, .slice pb l[k].body.length cb, .slice pe l[k].els.length ce] 62)).alloc (.cells #[.pointer (pp.map fun g => ⟨g, 0, none⟩), .int .i64 l[k].kind, .int .i64 l[k].no, .string ⟨l[k].name.toArray⟩, .int .i64 l[k].typ, .string ⟨l[k].callee.toArray⟩, .slice pa l[k].args.length ca, .slice pb l[k].body.length cb, .slice pe l[k].els.length ce, .slice (some ⟨b, o, none⟩) l.length cap, .int .i64 (k : Nat)] 108) = V0 at *
        obtain ⟨q, hq⟩ : ∃ q : List Lv, q = ⟨l[k], l, k⟩ :: qs := ⟨_, rfl⟩
        obtain ⟨pk, hpk⟩ : ∃ pk, pk = pre ++ plsF (l.take k) qs l 0 := ⟨_, rfl⟩
        have HTK : Hid (pre ++ plsF (l.take (k + 1)) qs l 0 = ((pk ++ [q]) ++ plsL l[k].body q) ++ plsL l[k].els q) := hide (by rw [htk, hpk, hq]; simp)
        rw [← hq, ← hpk] at hP1 hP2 hP3 hRR
        rw [← hq] at HCK
        have HP2 := hide hP2
        have HP3 := hide hP3
        have HP1 := hide hP1
        have HM0 : Hid (Mv L w Lk V0) := hide (HM.out.tr (Mv.st hB2))
        have HIB : Hid (∀ (L2 : List Nat) (W2 : World), Mv Lk V0 L2 W2 → J (pk ++ [q]) L2 W2 → Calls Tryd.prog 56 #[.pointer (some ⟨wr.heap.size + 1, 0, none⟩), .slice pb l[k].body.length cb, .func (.yield lp) #[] #[]] W2 (VisPost J Jx (pk ++ [q]) (plsL l[k].body q) tot L2 W2)) :=
          hide fun L2 W2 hm hj => IH.out _ pb cb q (some (wr.heap.size + 1)) _ L2 W2 hlb.1 hw.lb hw.cb (hbo2.out.has hm.has) (HCK.out.has hm.has) HP2.out hj
        have HIE : Hid (∀ (L2 : List Nat) (W2 : World), Mv Lk V0 L2 W2 → J ((pk ++ [q]) ++ plsL l[k].body q) L2 W2 → Calls Tryd.prog 56 #[.pointer (some ⟨wr.heap.size + 1, 0, none⟩), .slice pe l[k].els.length ce, .func (.yield lp) #[] #[]] W2 (VisPost J Jx ((pk ++ [q]) ++ plsL l[k].body q) (plsL l[k].els q) tot L2 W2)) :=
          hide fun L2 W2 hm hj => IH.out _ pe ce q (some (wr.heap.size + 1)) _ L2 W2 hlb.2 hw.le hw.ce (hel2.out.has hm.has) (HCK.out.has hm.has) HP3.out hj
        have HSZ : Hid (wr.heap.size < V0.heap.size) := hide (Array.getElem?_eq_some_iff.1 HS.out).1
        clear hcs hw ha hbo hel hrk hchk hhas hB2 hlo hX hCH hJ2 hfull htk hP1 hP2 hP3 hlb hbo2 hel2 hpk hq
        subst hV0
        gi_wp2
        refine hRR.mono ?_
        clear hRR hy
        rintro e W2 ⟨L2, hM2, hor⟩
        have hS2 := (hM2.heap hn0 HS.out).1
        have y6 := cell_at (j := 6) hS2 rfl
        have y7 := cell_at (j := 7) hS2 rfl
        have hs2 := (Array.getElem?_eq_some_iff.1 hS2).1
        have HM2 := hide hM2
        clear hM2 hS2
        rcases hor with ⟨rfl, hj2⟩ | ⟨rfl, hx2⟩
        · have HJ2 := hide hj2
          clear hj2
          gi_wp2_with fail
          refine ⟨trivial, ?_⟩
          refine (callsIn_wide.2 (HIB.out L2 W2 HM2.out HJ2.out)).mono ?_
          rintro e W3 ⟨L3, hM3, hor⟩
          have hM3' := HM2.out.tr hM3
          have hS3 := (hM3'.heap hn0 HS.out).1
          have y7 := cell_at (j := 7) hS3 rfl
          have hs3 := (Array.getElem?_eq_some_iff.1 hS3).1
          have HM3 := hide hM3'
          clear hM3 hM3' hS3 y6 hs2
          rcases hor with ⟨rfl, hj3⟩ | ⟨rfl, q3, hq3, hx3⟩
          · have HJ3 := hide hj3
            clear hj3
            gi_wp2_with fail
            refine ⟨trivial, ?_⟩
            refine (callsIn_wide.2 (HIE.out L3 W3 HM3.out HJ3.out)).mono ?_
            rintro e W4 ⟨L4, hM4, hor⟩
            have HM4 := hide (HM3.out.tr hM4)
            clear hM4 y7 hs3
            rcases hor with ⟨rfl, hj4⟩ | ⟨rfl, q4, hq4, hx4⟩
            · have HJ4 := hide hj4
              clear hj4
              gi_wp2_with fail
              go_roundw
              case rel => exact ⟨k + 1, L4, by omega, by go_num, hide (HM0.out.tr HM4.out), hide (by rw [HTK.out]; exact HJ4.out)⟩
              case measure => simp [intOf]; omega
            · have HP : Hid (VisPost J Jx pre (plsL l qs) tot L w (.returned (.bool false)) W4) := hide ⟨L4, HM0.out.tr HM4.out, .inr ⟨rfl, q4, hq4, hx4⟩⟩
              clear hq4 hx4
              gi_wp2_with fail
              go_ret
              exact HP.out
          · have HP : Hid (VisPost J Jx pre (plsL l qs) tot L w (.returned (.bool false)) W3) := hide ⟨L3, HM0.out.tr HM3.out, .inr ⟨rfl, q3, hq3, hx3⟩⟩
            clear hq3 hx3
            gi_wp2_with fail
            refine ⟨trivial, ?_⟩
            gi_wp2_with fail
            go_ret
            exact HP.out
        · have HP : Hid (VisPost J Jx pre (plsL l qs) tot L w (.returned (.bool false)) W2) := hide ⟨L2, HM0.out.tr HM2.out, .inr ⟨rfl, _, HP1.out, hx2⟩⟩
          clear hx2
          gi_wp2_with fail
          refine ⟨trivial, ?_⟩
          gi_wp2_with fail
          refine ⟨trivial, ?_⟩
          gi_wp2_with fail
          go_ret
          exact HP.out
      · obtain rfl : k = l.length := by omega
        have HP : Hid (VisPost J Jx pre (plsL l qs) tot L w (.returned (.bool true)) wr) := hide ⟨Lk, HM.out, .inl ⟨rfl, by have := HJK.out; rwa [List.take_length] at this⟩⟩
        gi_wp2
        go_ret
        exact HP.out
end Go.Proofs.YtccgpmncpemmdaaDoor
