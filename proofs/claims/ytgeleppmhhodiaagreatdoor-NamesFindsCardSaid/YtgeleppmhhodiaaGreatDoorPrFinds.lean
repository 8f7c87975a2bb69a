/- NamesFinds returns true for every input, whatever the world is in which the table of blanks is laid as the program lays it, and the input reads as it did. No further condition. -/
import Derived.Test.YtgeleppmhhodiaaGreatDoorNmC
import Derived.Test.YtgeleppmhhodiaaGreatDoorNfD
import Derived.Test.YtgeleppmhhodiaaGreatDoorNmJ
import Derived.Test.YtgeleppmhhodiaaGreatDoorShC
import Derived.ProofKit
import Derived.OpenShut
import Derived.Test.YtgeleppmhhodiaaGreatDoorSt
import Derived.Test.YtgeleppmhhodiaaGreatDoorRows
import Derived.Test.YtgeleppmhhodiaaGreatDoorShA
import Derived.Lay
import Derived.MakeChecks
import Derived.Handed
import Derived.ChangeSame
import Derived.Test.YtgeleppmhhodiaaGreatDoorTie
import Derived.Test.YtgeleppmhhodiaaGreatDoorCards
import Derived.SevenTiedAt
import Derived.WideKeyArgs
import Derived.ChangeMaps5
/- rewindlaw10.small: it answers, and writes its counter alone. -/
namespace Go.Proofs.YtgeleppmhhodiaaGreatDoor
open Go Go.RowKit
set_option linter.unusedSimpArgs false
set_option linter.unusedVariables false
set_option linter.unnecessarySimpa false
def CtAt (w : World) (g : Nat) (c : Int) : Prop := w.heap[g]? = some (.cells #[.int .i64 c] 3 (0, 0))
def SmPost (g : Nat) (w : World) (e : Ending) (w' : World) : Prop := ∃ (b : Bool) (c : Int), e = .returned (.bool b) ∧ CtAt w' g c ∧ Kept [g] w w'
set_option maxRecDepth 20000 in
set_option maxHeartbeats 4000000 in
theorem small_any : ∀ (N : Nat) (l : List St) (a : Option Addr) (cap g : Nat) (c : Int) (w : World), cntL l ≤ N → l.length ≤ cap → cap ≤ maxLen → St.Row (av [g] w) l a → CtAt w g c →
    Calls Tryz.prog 4 #[.slice a l.length cap, .pointer (some ⟨g, 0, none⟩)] w (SmPost g w) := by
  intro N
  induction N with
  | zero =>
    intro l a cap g c w hN hl hc hr hg
    obtain rfl : l = [] := List.eq_nil_of_length_eq_zero (by have := len_cnt l; omega)
    have x0 := cell_at (j := 0) hg rfl
    have hgl := (Array.getElem?_eq_some_iff.1 hg).1
    have HG := hide hg
    go_enter Tryz.func4, Tryz.ntmps4
    go_wp2_with fail
    go_loopw [5] (fun i wr => i = .int .i64 0 ∧ w = wr) (fun _ _ => 0)
    case atStart => exact ⟨rfl, rfl⟩
    case round =>
      obtain ⟨rfl, rfl⟩ := hrel
      go_wp2_with fail
      go_ret
      exact ⟨_, _, rfl, HG.out, Kept.refl _ _⟩
  | succ N ih =>
    intro l a cap g c w hN hl hc hr hg
    have hll : l.length ≤ 9223372036854775807 := Nat.le_trans hl hc
    have HR := hide hr
    have HN := hide hN
    have HG := hide hg
    clear hr hN hg
    go_enter Tryz.func4, Tryz.ntmps4
    go_wp2_with fail
    go_loopw [5] (fun i wr => ∃ (k : Nat) (c : Int), k ≤ l.length ∧ i = .int .i64 k ∧ Hid (CtAt wr g c) ∧ Hid (Kept [g] w wr)) (fun i _ => l.length - (intOf i).toNat)
    case atStart => exact ⟨0, c, Nat.zero_le _, rfl, HG.out, Kept.refl _ _⟩
    case round =>
      obtain ⟨k, c, hk, rfl, HC, HK⟩ := hrel
      have x0 := cell_at (j := 0) HC.out rfl
      have f0 := free_at (j := 0) HC.out
      have hgl := (Array.getElem?_eq_some_iff.1 HC.out).1
      by_cases hlt : k < l.length
      · by_cases hc0 : (0 : Int) ≤ c
        · obtain ⟨b, o, rfl⟩ := HR.out.addr (by omega)
          obtain ⟨pa, pb, pe, ca, cb, ce, hcs, hw, ha, hbo, hel⟩ := (HR.out.get k hlt).val
          obtain ⟨a0, a1, a2, a3, a4, a5, a6, a7⟩ := hcs
          have hbg := (av_cell.1 a2).1
          rw [List.mem_singleton] at hbg
          have hbg' : ¬ g = b := fun e => hbg e.symm
          have hcn : cntL l[k].body ≤ N ∧ cntL l[k].els ≤ N := by
            have h1 := cnt_get hlt
            have h2 := St.cnt_eq l[k]
            have h3 := HN.out
            omega
          have hk1 : Kept [g] w (wr.setCell ⟨g, 0, none⟩ (.int .i64 (wrap64 (c - 1)))) := HK.out.set (g := g) (.inl (by simp)) 0 _
          have HK1 := hide hk1
          have HC1 : Hid (CtAt (wr.setCell ⟨g, 0, none⟩ (.int .i64 (wrap64 (c - 1)))) g (wrap64 (c - 1))) := hide (heap_set (i := 0) HC.out _)
          have c2 := HK.out.cell (av_cell.1 a2).1 (av_cell.1 a2).2
          have c6 := HK.out.cell (av_cell.1 a6).1 (av_cell.1 a6).2
          have hbl := cell_lt c2
          simp only at hbl
          have HA6 := hide a6
          have HA7 := hide a7
          have HSB := hide fun (W : World) (c : Int) (hW : Kept [g] w W) (hC : CtAt W g c) => ih l[k].body pb cb g c W hcn.1 hw.lb hw.cb (hbo.has (has_kept hW)) hC
          have HSE := hide fun (W : World) (c : Int) (hW : Kept [g] w W) (hC : CtAt W g c) => ih l[k].els pe ce g c W hcn.2 hw.le hw.ce (hel.has (has_kept hW)) hC
          have hnm : l[k].name.length ≤ 9223372036854775807 := hw.s
          have hk0 : (0 : Int) ≤ (k : Int) := by omega
          clear a0 a1 a2 a3 a4 a5 a6 a7 ha hbo hel hw hcn hk1
          by_cases h40 : (40 : Int) < (l[k].name.length : Int)
          · go_wp2_with fail
            go_ret
            exact ⟨_, _, rfl, HC1.out, HK1.out⟩
          · go_wp2_with fail
            refine (HSB.out _ _ HK1.out HC1.out).mono ?_
            rintro r w2 ⟨b2, c2', rfl, hct2, hkk2⟩
            have HC2 := hide hct2
            have hk2 := HK1.out.tr hkk2
            have HK2 := hide hk2
            have e7 := hk2.cell (av_cell.1 HA7.out).1 (av_cell.1 HA7.out).2
            have hbl2 := cell_lt e7
            simp only at hbl2
            clear hct2 hkk2 hk2
            cases b2
            · go_wp2_with fail
              go_ret
              exact ⟨_, _, rfl, HC2.out, HK2.out⟩
            · go_wp2_with fail
              refine (HSE.out _ _ HK2.out HC2.out).mono ?_
              rintro r w3 ⟨b3, c3', rfl, hct3, hkk3⟩
              have HC3 := hide hct3
              have HK3 := hide (HK2.out.tr hkk3)
              clear hct3 hkk3 HSB HSE
              cases b3
              · go_wp2_with fail
                go_ret
                exact ⟨_, _, rfl, HC3.out, HK3.out⟩
              · go_wp2_with fail
                go_roundw
                case rel => exact ⟨k + 1, _, by omega, by go_num, HC3, HK3⟩
                case measure => simp [intOf]; omega
        · go_wp2_with fail
          go_ret
          exact ⟨_, _, rfl, HC.out, HK.out⟩
      · obtain rfl : k = l.length := by omega
        go_wp2_with fail
        go_ret
        exact ⟨_, _, rfl, HC.out, HK.out⟩
end Go.Proofs.YtgeleppmhhodiaaGreatDoor
/- NamesFinds returns true for every input, where the table of blanks is laid: the walk. -/
namespace Go.Proofs.YtgeleppmhhodiaaGreatDoor
open Go Go.RowKit
set_option linter.unusedSimpArgs false
set_option linter.unusedVariables false
set_option linter.unnecessarySimpa false
theorem of_lit {f : Fn} {m : List Vr} {oi oe : Int} (h : namesM f = (m, oi, oe)) {w : World} {r : Ending} {w' : World} (ho : OfPost f w r w') : VarsPost m.length m oi oe w r w' := by
  unfold OfPost at ho
  rw [h] at ho
  exact ho
set_option maxRecDepth 20000 in
set_option maxHeartbeats 4000000 in
theorem NamesFinds_any (f : Fn) (v : Value) (w : World) (hv : f.Val w v) (hT : Tab w) : Calls Tryz.prog 3 #[v] w fun r w' => r = .returned (.bool true) ∧ Below w.heap.size w w' := by
  have HWK := hide fun (W : World) (hW : Below w.heap.size w W) => works10_any W (hT.below hW)
  have hof := fun (W : World) (hW : Below w.heap.size w W) => of_any f v W (hv.keep hW (Nat.le_refl _)) (hT.below hW)
  have hrf := fun (W : World) (hW : Below w.heap.size w W) => refOf_any f v W (hv.keep hW (Nat.le_refl _))
  obtain ⟨m, oi, oe, hm⟩ : ∃ m oi oe, namesM f = (m, oi, oe) := ⟨_, _, _, rfl⟩
  have HOF := hide fun (W : World) (hW : Below w.heap.size w W) => (hof W hW).mono fun r w' h => of_lit hm h
  have HRF := hide fun (W : World) (hW : Below w.heap.size w W) => (hrf W hW).mono fun r w' h => of_lit hm h
  obtain ⟨pp, pb, cp, cb, rfl, hw, hp, hr⟩ := hv
  have hbb := ((bl w).al (.cells #[.string ⟨f.name.toArray⟩, .slice pp f.params.length cp, .int .i64 f.result, .slice pb f.body.length cb, .int .i64 f.count] 25)).al (.cells #[.int .i64 300] 3)
  have hct : CtAt ((w.alloc (.cells #[.string ⟨f.name.toArray⟩, .slice pp f.params.length cp, .int .i64 f.result, .slice pb f.body.length cb, .int .i64 f.count] 25)).alloc (.cells #[.int .i64 300] 3)) (w.heap.size + 1) 300 := by
    have := heap_alloc_new (w.alloc (.cells #[.string ⟨f.name.toArray⟩, .slice pp f.params.length cp, .int .i64 f.result, .slice pb f.body.length cb, .int .i64 f.count] 25)) (.cells #[.int .i64 300] 3)
    unfold CtAt
    simpa using this
  have HSM := hide (small_any (cntL f.body) f.body pb cb (w.heap.size + 1) 300 _ (Nat.le_refl _) hw.lb hw.cb (hr.has ((has_new (l := [w.heap.size + 1]) (by simp)).tr (has_av_below hbb))) hct)
  have HX0 : Hid (((w.alloc (.cells #[.string ⟨f.name.toArray⟩, .slice pp f.params.length cp, .int .i64 f.result, .slice pb f.body.length cb, .int .i64 f.count] 25)).alloc (.cells #[.int .i64 300] 3)).heap[w.heap.size]? = some (.cells #[.string ⟨f.name.toArray⟩, .slice pp f.params.length cp, .int .i64 f.result, .slice pb f.body.length cb, .int .i64 f.count] 25 (0, 0))) := hide (by
    rw [Below.heap_alloc _ _ _ (by simp)]
    exact heap_alloc_new w _)
  have HBB := hide hbb
  have hpl : f.params.length ≤ 9223372036854775807 := Nat.le_trans hp.len hp.cap
  clear hT hof hrf hm hw hp hr hbb hct
  go_enter Tryz.func3, Tryz.ntmps3
  go_wp2_with fail
  refine HSM.out.mono ?_
  rintro r w1 ⟨sb, sc, rfl, -, hk⟩
  have HX := hide (hk.heap (by simp) HX0.out)
  have HW := hide (hk.below HBB.out (fun g hg => by rw [List.mem_singleton] at hg; omega))
  have x0 := cell_at (j := 0) HX.out rfl
  have x1 := cell_at (j := 1) HX.out rfl
  have x2 := cell_at (j := 2) HX.out rfl
  have x3 := cell_at (j := 3) HX.out rfl
  have x4 := cell_at (j := 4) HX.out rfl
  have hxl := (Array.getElem?_eq_some_iff.1 HX.out).1
  clear hk HSM HX0 HBB
  cases sb
  · go_wp2_with fail
    refine (HWK.out _ HW.out).mono ?_
    rintro r w9 ⟨rfl, hb⟩
    go_wp2_with fail
    go_ret
    exact ⟨rfl, HW.out.tr hb⟩
  · by_cases h100 : (100 : Int) < (f.params.length : Int)
    · go_wp2_with fail
      refine (HWK.out _ HW.out).mono ?_
      rintro r w9 ⟨rfl, hb⟩
      go_wp2_with fail
      go_ret
      exact ⟨rfl, HW.out.tr hb⟩
    · go_wp2_with fail
      refine (HOF.out _ HW.out).mono ?_
      rintro r w2 ⟨⟨a2, c2, rfl, hv2⟩, hb⟩
      have HV2 := hide hv2
      have HX := hide ((hb.block _ hxl).trans HX.out)
      have HW := hide (HW.out.tr hb)
      have hml : m.length ≤ 9223372036854775807 := Nat.le_trans hv2.len hv2.cap
      clear x0 x1 x2 x3 x4 hxl hb hv2
      have x0 := cell_at (j := 0) HX.out rfl
      have x1 := cell_at (j := 1) HX.out rfl
      have x2 := cell_at (j := 2) HX.out rfl
      have x3 := cell_at (j := 3) HX.out rfl
      have x4 := cell_at (j := 4) HX.out rfl
      have hxl := (Array.getElem?_eq_some_iff.1 HX.out).1
      go_wp2_with fail
      refine (HRF.out _ HW.out).mono ?_
      rintro r w3 ⟨⟨a3, c3, rfl, hv3⟩, hb⟩
      have HV3 := hide hv3
      have HV2 := hide (HV2.out.keep hb (Nat.le_refl _))
      have HW := hide (HW.out.tr hb)
      clear x0 x1 x2 x3 x4 hxl hb hv3 HX HOF HRF
      have hoi : (oi != oi) = false := by simp
      go_wp2_with fail
      go_loopw [10] (fun i wr => ∃ k n : Nat, k ≤ m.length ∧ i = .int .i64 k ∧ Hid (wr = w3.drewN n)) (fun i _ => m.length - (intOf i).toNat)
      case atStart => exact ⟨0, 0, Nat.zero_le _, rfl, hide rfl⟩
      case round =>
        obtain ⟨k, nn, hk, rfl, HWR⟩ := hrel
        by_cases hlt : k < m.length
        · obtain ⟨b, o, rfl⟩ := HV2.out.addr (by omega)
          obtain ⟨b3, o3, rfl⟩ := HV3.out.addr (by omega)
          have HV' := hide (show Vrs wr m _ _ by rw [HWR.out]; exact ⟨HV2.out.len, HV2.out.cap, HV2.out.wf, HV2.out.addr, HV2.out.at_⟩)
          have HG' := hide (show Vrs wr m _ _ by rw [HWR.out]; exact ⟨HV3.out.len, HV3.out.cap, HV3.out.wf, HV3.out.addr, HV3.out.at_⟩)
          obtain ⟨c0, c1, c2, c3, c4⟩ := HV'.out.at_ b o rfl k hlt
          obtain ⟨d0, d1, d2, d3, d4⟩ := HG'.out.at_ b3 o3 rfl k hlt
          generalize m[k] = v at *
          have hbl := cell_lt c0
          have hbl2 := cell_lt d0
          simp only at hbl hbl2
          have hc6 : (0 : Int) ≤ (k : Int) := by omega
          have hc7 : (k : Int) < (m.length : Int) := by omega
          go_wp2_with fail
          go_quiet (fail)
          go_wp2_with fail
          go_roundw
          case rel => exact ⟨k + 1, _, by omega, by go_num, hide (by rw [HWR.out, World.drewN_drewN])⟩
          case measure => simp [intOf]; omega
        · obtain rfl : k = m.length := by omega
          have hwb : Below w3.heap.size w3 wr := by rw [HWR.out]; exact ⟨rfl, rfl, rfl, Nat.le_refl _, fun _ _ => rfl⟩
          replace HW := hide (HW.out.tr hwb)
          clear hwb HWR
          go_wp2_with fail
          refine (HWK.out _ HW.out).mono ?_
          rintro r w9 ⟨rfl, hb⟩
          go_wp2_with fail
          go_ret
          exact ⟨rfl, HW.out.tr hb⟩
end Go.Proofs.YtgeleppmhhodiaaGreatDoor
/- Expressions that come in: what the statement's reading of them gives, as trees in memory. -/
namespace Go.Proofs.YtgeleppmhhodiaaGreatDoor
open Go Go.RowKit Go.WideShapes Go.ChangeShapes
set_option linter.unusedSimpArgs false
set_option linter.unusedVariables false
set_option linter.unnecessarySimpa false
set_option maxRecDepth 100000
theorem cells5 {w : World} {base : Nat} {a : Addr} {cs : List Value} (h : w.cells? base a 5 = some cs) :
    ∃ (b o : Nat) (v0 v1 v2 v3 v4 : Value), a = ⟨b, o, none⟩ ∧ cs = [v0, v1, v2, v3, v4] ∧ w.cell? ⟨b, o, none⟩ = some v0 ∧ w.cell? ⟨b, o + 1, none⟩ = some v1 ∧ w.cell? ⟨b, o + 2, none⟩ = some v2 ∧
      w.cell? ⟨b, o + 3, none⟩ = some v3 ∧ w.cell? ⟨b, o + 4, none⟩ = some v4 := by
  unfold World.cells? at h
  split at h
  · rw [show List.range 5 = [0, 1, 2, 3, 4] from rfl] at h
    simp only [List.mapM_cons, List.mapM_nil, Option.bind_eq_bind, Option.bind_eq_some_iff, Option.pure_def, Option.some.injEq] at h
    obtain ⟨v0, h0, _, ⟨v1, h1, _, ⟨v2, h2, _, ⟨v3, h3, _, ⟨v4, h4, _, rfl, rfl⟩, rfl⟩, rfl⟩, rfl⟩, rfl⟩ := h
    obtain ⟨b, o, s⟩ := a
    have hs : s = none := by simpa [Addr.add] using World.cell?_spot h0
    subst hs
    exact ⟨b, o, v0, v1, v2, v3, v4, rfl, rfl, by simpa [Addr.add] using h0, by simpa [Addr.add] using h1, by simpa [Addr.add] using h2, by simpa [Addr.add] using h3, by simpa [Addr.add] using h4⟩
  · cases h
theorem i64_of_wf {z : Int} (h : (Lit.int .i64 z).wf = true) : I64 z := by
  have h2 : -9223372036854775808 ≤ z ∧ z ≤ 9223372036854775807 := by simpa [Lit.wf, IntKind.min, IntKind.max, IntKind.signed, IntKind.bits] using h
  exact h2
theorem row_of_all {w : World} {b : Nat} : ∀ (n o : Nat), (∀ i, i < n → ∃ e, Ex.At w e b (o + i * 5)) → ∃ es : List Ex, es.length = n ∧ Ex.Row w es (some ⟨b, o, none⟩)
  | 0, o, _ => ⟨[], rfl, by simp only [Ex.Row]⟩
  | n + 1, o, h => by
    obtain ⟨e, he⟩ := h 0 (by omega)
    obtain ⟨es, hl, hr⟩ := row_of_all n (o + 5) (fun i hi => by
      have := h (i + 1) (by omega)
      rwa [show o + (i + 1) * 5 = o + 5 + i * 5 by omega] at this)
    refine ⟨e :: es, by simp [hl], ?_⟩
    simp only [Ex.Row]
    exact ⟨b, o, rfl, by simpa using he, hr⟩
section
variable {H : Type} {enc : TypeId × Value → H} {W : World} {sp : Nat → Bool} {held : Bool}
theorem read_ex : ∀ (N n : Nat), n < N → ∀ (cs : List Value) (x : DataW H × List MemPlace), DataW.trod enc Tryz.prog W 0 sp held n 68 cs = some x →
    ∃ (e : Ex) (a : Option Addr) (cap : Nat), cs = [.int .i64 e.kind, .int .i64 e.op, .int .i64 e.num, .string ⟨e.name.toArray⟩, .slice a e.args.length cap] ∧ ExWf e.kind e.op e.num e.name e.args.length cap ∧ Ex.Row W e.args a
  | 0, n, hn, _, _, _ => absurd hn (Nat.not_lt_zero _)
  | N + 1, n, hn, cs, x, h => by
    obtain ⟨xs, n1, rfl, _, hl, hxl, hf⟩ := DataW.trod_struct Tryz.underlying68 h
    have hl5 : cs.length = 5 := hl.trans (by kernel_rfl)
    have ci : Tryz.prog.cellsOf 3 = 1 := by kernel_rfl
    have c6 : Tryz.prog.cellsOf 2 = 1 := by kernel_rfl
    have cst : Tryz.prog.cellsOf 9 = 1 := by kernel_rfl
    have csl : Tryz.prog.cellsOf 40 = 1 := by kernel_rfl
    have ce : Tryz.prog.cellsOf 68 = 5 := by kernel_rfl
    match cs, hl5, xs, hxl with
    | [v0, v1, v2, v3, v4], _, [x0, x1, x2, x3, x4], _ =>
      have f0 : DataW.trod enc Tryz.prog W 0 sp held n1 3 (([v0, v1, v2, v3, v4].drop 0).take (Tryz.prog.cellsOf 3)) = [x0, x1, x2, x3, x4][0]? := hf 0 _ rfl
      have f1 : DataW.trod enc Tryz.prog W 0 sp held n1 3 (([v0, v1, v2, v3, v4].drop 1).take (Tryz.prog.cellsOf 3)) = [x0, x1, x2, x3, x4][1]? := hf 1 _ rfl
      have f2 : DataW.trod enc Tryz.prog W 0 sp held n1 2 (([v0, v1, v2, v3, v4].drop 2).take (Tryz.prog.cellsOf 2)) = [x0, x1, x2, x3, x4][2]? := hf 2 _ rfl
      have f3 : DataW.trod enc Tryz.prog W 0 sp held n1 9 (([v0, v1, v2, v3, v4].drop 3).take (Tryz.prog.cellsOf 9)) = [x0, x1, x2, x3, x4][3]? := hf 3 _ rfl
      have f4 : DataW.trod enc Tryz.prog W 0 sp held n1 40 (([v0, v1, v2, v3, v4].drop 4).take (Tryz.prog.cellsOf 40)) = [x0, x1, x2, x3, x4][4]? := hf 4 _ rfl
      simp only [ci, c6, cst, csl, List.drop_zero, List.drop_succ_cons, List.take_succ_cons, List.take_zero, List.getElem?_cons_zero, List.getElem?_cons_succ] at f0 f1 f2 f3 f4
      obtain ⟨k, e0, _, w0⟩ := DataW.trod_int Tryz.underlying3 f0
      obtain ⟨o, e1, _, w1⟩ := DataW.trod_int Tryz.underlying3 f1
      obtain ⟨m, e2, _, w2⟩ := DataW.trod_int Tryz.underlying2 f2
      obtain ⟨s, e3, _, w3⟩ := DataW.trod_string Tryz.underlying9 f3
      simp only [List.cons.injEq, and_true] at e0 e1 e2 e3
      subst e0 e1 e2 e3
      have hs : s = ⟨s.data.toList.toArray⟩ := by simp
      have hsl : s.data.toList.length ≤ maxLen := by rw [Array.length_toList]; exact w3
      rcases DataW.trod_slice Tryz.underlying40 f4 with ⟨e4, _⟩ | ⟨a, len, cap, elems, rest, n2, hn2, e4, _, hb, hlc, hcm, hel, hall, _, _⟩
      · simp only [List.cons.injEq, and_true] at e4
        subst e4
        refine ⟨.mk k o m s.data.toList [], none, 0, ?_, ⟨i64_of_wf w0, i64_of_wf w1, i64_of_wf w2, hsl, Nat.le_refl _, Nat.zero_le _⟩, by simp only [Ex.args, Ex.Row]⟩
        simp only [Ex.kind, Ex.op, Ex.num, Ex.name, Ex.args, List.length_nil, ← hs]
      · simp only [List.cons.injEq, and_true] at e4
        subst e4
        have key : ∀ i, i < len → ∃ (b o : Nat) (e : Ex), a.add (i * 5) = ⟨b, o, none⟩ ∧ Ex.At W e b o := by
          intro i hi
          have h1 := hall i hi
          rw [List.getElem?_eq_getElem (by omega), ce] at h1
          obtain ⟨cs', h2, h3⟩ := Option.bind_eq_some_iff.1 h1
          obtain ⟨b', o', u0, u1, u2, u3, u4, ha, rfl, k0, k1, k2, k3, k4⟩ := cells5 h2
          obtain ⟨e, a', cap', he, hw, hr⟩ := read_ex N n2 (by omega) _ _ h3
          refine ⟨b', o', e, ha, ?_⟩
          simp only [List.cons.injEq, and_true] at he
          obtain ⟨rfl, rfl, rfl, rfl, rfl⟩ := he
          cases e
          simp only [Ex.At]
          exact ⟨a', cap', k0, k1, k2, k3, k4, hw, hr⟩
        by_cases h0 : len = 0
        · subst h0
          refine ⟨.mk k o m s.data.toList [], some a, cap, ?_, ⟨i64_of_wf w0, i64_of_wf w1, i64_of_wf w2, hsl, Nat.zero_le _, hcm⟩, by simp only [Ex.args, Ex.Row]⟩
          simp only [Ex.kind, Ex.op, Ex.num, Ex.name, Ex.args, List.length_nil, ← hs]
        · obtain ⟨b0, o0, _, ha0, _⟩ := key 0 (by omega)
          have ha : a = ⟨b0, o0, none⟩ := by simpa [Addr.add] using ha0
          subst ha
          obtain ⟨es, hes, hrow⟩ := row_of_all (w := W) (b := b0) len o0 (fun i hi => by
            obtain ⟨b', o', e, he, hat⟩ := key i hi
            rw [Addr.add_lit] at he
            simp only [Addr.mk.injEq, and_true] at he
            obtain ⟨rfl, rfl⟩ := he
            exact ⟨e, hat⟩)
          subst hes
          refine ⟨.mk k o m s.data.toList es, some ⟨b0, o0, none⟩, cap, ?_, ⟨i64_of_wf w0, i64_of_wf w1, i64_of_wf w2, hsl, hlc, hcm⟩, hrow⟩
          simp only [Ex.kind, Ex.op, Ex.num, Ex.name, Ex.args, ← hs]
/-- An expression that comes in. -/
theorem read_expr {r : Reach} {b0 : Nat} {v : Value} {d : DataW H} {p : List MemPlace} (hv : Value.okWide Tryz.prog W r b0 68 v) (h : DataW.Trod enc Tryz.prog W 0 sp held 68 v d p) : ∃ e, Ex.Val W e v := by
  obtain ⟨cs, rfl, _⟩ := okWide_struct Tryz.underlying68 hv
  obtain ⟨n, hn⟩ := h
  obtain ⟨e, a, cap, he, hw, hr⟩ := read_ex (n + 1) n (Nat.lt_succ_self _) _ _ hn
  refine ⟨e, a, cap, ?_, hw, hr⟩
  have : cs.toList = _ := he
  rw [← Array.toArray_toList (xs := cs), this]
end
end Go.Proofs.YtgeleppmhhodiaaGreatDoor
/- Statements that come in: what the statement's reading of them gives, as trees in memory. -/
namespace Go.Proofs.YtgeleppmhhodiaaGreatDoor
open Go Go.RowKit Go.WideShapes Go.ChangeShapes
set_option linter.unusedSimpArgs false
set_option linter.unusedVariables false
set_option linter.unnecessarySimpa false
set_option maxRecDepth 100000
theorem cells8 {w : World} {base : Nat} {a : Addr} {cs : List Value} (h : w.cells? base a 8 = some cs) :
    ∃ (b o : Nat) (v0 v1 v2 v3 v4 v5 v6 v7 : Value), a = ⟨b, o, none⟩ ∧ cs = [v0, v1, v2, v3, v4, v5, v6, v7] ∧ w.cell? ⟨b, o, none⟩ = some v0 ∧ w.cell? ⟨b, o + 1, none⟩ = some v1 ∧ w.cell? ⟨b, o + 2, none⟩ = some v2 ∧
      w.cell? ⟨b, o + 3, none⟩ = some v3 ∧ w.cell? ⟨b, o + 4, none⟩ = some v4 ∧ w.cell? ⟨b, o + 5, none⟩ = some v5 ∧ w.cell? ⟨b, o + 6, none⟩ = some v6 ∧ w.cell? ⟨b, o + 7, none⟩ = some v7 := by
  unfold World.cells? at h
  split at h
  · rw [show List.range 8 = [0, 1, 2, 3, 4, 5, 6, 7] from rfl] at h
    simp only [List.mapM_cons, List.mapM_nil, Option.bind_eq_bind, Option.bind_eq_some_iff, Option.pure_def, Option.some.injEq] at h
    obtain ⟨v0, h0, _, ⟨v1, h1, _, ⟨v2, h2, _, ⟨v3, h3, _, ⟨v4, h4, _, ⟨v5, h5, _, ⟨v6, h6, _, ⟨v7, h7, _, rfl, rfl⟩, rfl⟩, rfl⟩, rfl⟩, rfl⟩, rfl⟩, rfl⟩, rfl⟩ := h
    obtain ⟨b, o, s⟩ := a
    have hs : s = none := by simpa [Addr.add] using World.cell?_spot h0
    subst hs
    exact ⟨b, o, v0, v1, v2, v3, v4, v5, v6, v7, rfl, rfl, by simpa [Addr.add] using h0, by simpa [Addr.add] using h1, by simpa [Addr.add] using h2, by simpa [Addr.add] using h3, by simpa [Addr.add] using h4, by simpa [Addr.add] using h5, by simpa [Addr.add] using h6, by simpa [Addr.add] using h7⟩
  · cases h
theorem srow_of_all {w : World} {b : Nat} : ∀ (n o : Nat), (∀ i, i < n → ∃ e, St.At w e b (o + i * 8)) → ∃ es : List St, es.length = n ∧ St.Row w es (some ⟨b, o, none⟩)
  | 0, o, _ => ⟨[], rfl, by simp only [St.Row]⟩
  | n + 1, o, h => by
    obtain ⟨e, he⟩ := h 0 (by omega)
    obtain ⟨es, hl, hr⟩ := srow_of_all n (o + 8) (fun i hi => by
      have := h (i + 1) (by omega)
      rwa [show o + (i + 1) * 8 = o + 8 + i * 8 by omega] at this)
    refine ⟨e :: es, by simp [hl], ?_⟩
    simp only [St.Row]
    exact ⟨b, o, rfl, by simpa using he, hr⟩
section
variable {H : Type} {enc : TypeId × Value → H} {W : World} {sp : Nat → Bool} {held : Bool}
/-- A list of expressions that comes in. -/
theorem read_exs {n : Nat} {v : Value} {x : DataW H × List MemPlace} (h : DataW.trod enc Tryz.prog W 0 sp held n 40 [v] = some x) :
    ∃ (l : List Ex) (a : Option Addr) (cap : Nat), v = .slice a l.length cap ∧ l.length ≤ cap ∧ cap ≤ maxLen ∧ Ex.Row W l a := by
  have ce : Tryz.prog.cellsOf 68 = 5 := by kernel_rfl
  rcases DataW.trod_slice Tryz.underlying40 h with ⟨e4, _⟩ | ⟨a, len, cap, elems, rest, n2, hn2, e4, _, hb, hlc, hcm, hel, hall, _, _⟩
  · simp only [List.cons.injEq, and_true] at e4
    exact ⟨[], none, 0, e4, Nat.le_refl _, Nat.zero_le _, by simp only [Ex.Row]⟩
  · simp only [List.cons.injEq, and_true] at e4
    subst e4
    have key : ∀ i, i < len → ∃ (b o : Nat) (e : Ex), a.add (i * 5) = ⟨b, o, none⟩ ∧ Ex.At W e b o := by
      intro i hi
      have h1 := hall i hi
      rw [List.getElem?_eq_getElem (by omega), ce] at h1
      obtain ⟨cs', h2, h3⟩ := Option.bind_eq_some_iff.1 h1
      obtain ⟨b', o', u0, u1, u2, u3, u4, ha, rfl, k0, k1, k2, k3, k4⟩ := cells5 h2
      obtain ⟨e, a', cap', he, hw, hr⟩ := read_ex (n2 + 1) n2 (Nat.lt_succ_self _) _ _ h3
      refine ⟨b', o', e, ha, ?_⟩
      simp only [List.cons.injEq, and_true] at he
      obtain ⟨rfl, rfl, rfl, rfl, rfl⟩ := he
      cases e
      simp only [Ex.At]
      exact ⟨a', cap', k0, k1, k2, k3, k4, hw, hr⟩
    by_cases h0 : len = 0
    · subst h0
      exact ⟨[], some a, cap, rfl, Nat.zero_le _, hcm, by simp only [Ex.Row]⟩
    · obtain ⟨b0, o0, _, ha0, _⟩ := key 0 (by omega)
      have ha : a = ⟨b0, o0, none⟩ := by simpa [Addr.add] using ha0
      subst ha
      obtain ⟨es, hes, hrow⟩ := row_of_all (w := W) (b := b0) len o0 (fun i hi => by
        obtain ⟨b', o', e, he, hat⟩ := key i hi
        rw [Addr.add_lit] at he
        simp only [Addr.mk.injEq, and_true] at he
        obtain ⟨rfl, rfl⟩ := he
        exact ⟨e, hat⟩)
      subst hes
      exact ⟨es, some ⟨b0, o0, none⟩, cap, rfl, hlc, hcm, hrow⟩
/-- The eight cells of a statement that comes in. -/
def StIs (W : World) (cs : List Value) : Prop :=
  ∃ (s : St) (pa pb pe : Option Addr) (ca cb ce : Nat), cs = [.int .i64 s.kind, .int .i64 s.no, .string ⟨s.name.toArray⟩, .int .i64 s.typ, .string ⟨s.callee.toArray⟩, .slice pa s.args.length ca, .slice pb s.body.length cb, .slice pe s.els.length ce] ∧
    StWf s.kind s.no s.name s.typ s.callee s.args.length ca s.body.length cb s.els.length ce ∧ Ex.Row W s.args pa ∧ St.Row W s.body pb ∧ St.Row W s.els pe
theorem read_sts0 {N : Nat} (ih : ∀ n, n < N → ∀ (cs : List Value) (x : DataW H × List MemPlace), DataW.trod enc Tryz.prog W 0 sp held n 42 cs = some x → StIs W cs) {n : Nat} (hn : n ≤ N) {v : Value} {x : DataW H × List MemPlace} (h : DataW.trod enc Tryz.prog W 0 sp held n 23 [v] = some x) :
    ∃ (l : List St) (a : Option Addr) (cap : Nat), v = .slice a l.length cap ∧ l.length ≤ cap ∧ cap ≤ maxLen ∧ St.Row W l a := by
  have ce : Tryz.prog.cellsOf 42 = 8 := by kernel_rfl
  rcases DataW.trod_slice Tryz.underlying23 h with ⟨e4, _⟩ | ⟨a, len, cap, elems, rest, n2, hn2, e4, _, hb, hlc, hcm, hel, hall, _, _⟩
  · simp only [List.cons.injEq, and_true] at e4
    exact ⟨[], none, 0, e4, Nat.le_refl _, Nat.zero_le _, by simp only [St.Row]⟩
  · simp only [List.cons.injEq, and_true] at e4
    subst e4
    have key : ∀ i, i < len → ∃ (b o : Nat) (e : St), a.add (i * 8) = ⟨b, o, none⟩ ∧ St.At W e b o := by
      intro i hi
      have h1 := hall i hi
      rw [List.getElem?_eq_getElem (by omega), ce] at h1
      obtain ⟨cs', h2, h3⟩ := Option.bind_eq_some_iff.1 h1
      obtain ⟨b', o', u0, u1, u2, u3, u4, u5, u6, u7, ha, rfl, k0, k1, k2, k3, k4, k5, k6, k7⟩ := cells8 h2
      obtain ⟨e, pa, pb, pe, ca, cb, ce, he, hw, r1, r2, r3⟩ := ih n2 (by omega) _ _ h3
      refine ⟨b', o', e, ha, ?_⟩
      simp only [List.cons.injEq, and_true] at he
      obtain ⟨rfl, rfl, rfl, rfl, rfl, rfl, rfl, rfl⟩ := he
      exact St.At.of ⟨k0, k1, k2, k3, k4, k5, k6, k7⟩ hw r1 r2 r3
    by_cases h0 : len = 0
    · subst h0
      exact ⟨[], some a, cap, rfl, Nat.zero_le _, hcm, by simp only [St.Row]⟩
    · obtain ⟨b0, o0, _, ha0, _⟩ := key 0 (by omega)
      have ha : a = ⟨b0, o0, none⟩ := by simpa [Addr.add] using ha0
      subst ha
      obtain ⟨es, hes, hrow⟩ := srow_of_all (w := W) (b := b0) len o0 (fun i hi => by
        obtain ⟨b', o', e, he, hat⟩ := key i hi
        rw [Addr.add_lit] at he
        simp only [Addr.mk.injEq, and_true] at he
        obtain ⟨rfl, rfl⟩ := he
        exact ⟨e, hat⟩)
      subst hes
      exact ⟨es, some ⟨b0, o0, none⟩, cap, rfl, hlc, hcm, hrow⟩
theorem read_st : ∀ (N n : Nat), n < N → ∀ (cs : List Value) (x : DataW H × List MemPlace), DataW.trod enc Tryz.prog W 0 sp held n 42 cs = some x → StIs W cs
  | 0, n, hn, _, _, _ => absurd hn (Nat.not_lt_zero _)
  | N + 1, n, hn, cs, x, h => by
    obtain ⟨xs, n1, hn1, _, hl, hxl, hf⟩ := DataW.trod_struct Tryz.underlying42 h
    have hl8 : cs.length = 8 := hl.trans (by kernel_rfl)
    have ci : Tryz.prog.cellsOf 3 = 1 := by kernel_rfl
    have cst : Tryz.prog.cellsOf 9 = 1 := by kernel_rfl
    have csl : Tryz.prog.cellsOf 40 = 1 := by kernel_rfl
    have css : Tryz.prog.cellsOf 23 = 1 := by kernel_rfl
    match cs, hl8, xs, hxl with
    | [v0, v1, v2, v3, v4, v5, v6, v7], _, [x0, x1, x2, x3, x4, x5, x6, x7], _ =>
      have f0 : DataW.trod enc Tryz.prog W 0 sp held n1 3 (([v0, v1, v2, v3, v4, v5, v6, v7].drop 0).take (Tryz.prog.cellsOf 3)) = [x0, x1, x2, x3, x4, x5, x6, x7][0]? := hf 0 _ rfl
      have f1 : DataW.trod enc Tryz.prog W 0 sp held n1 3 (([v0, v1, v2, v3, v4, v5, v6, v7].drop 1).take (Tryz.prog.cellsOf 3)) = [x0, x1, x2, x3, x4, x5, x6, x7][1]? := hf 1 _ rfl
      have f2 : DataW.trod enc Tryz.prog W 0 sp held n1 9 (([v0, v1, v2, v3, v4, v5, v6, v7].drop 2).take (Tryz.prog.cellsOf 9)) = [x0, x1, x2, x3, x4, x5, x6, x7][2]? := hf 2 _ rfl
      have f3 : DataW.trod enc Tryz.prog W 0 sp held n1 3 (([v0, v1, v2, v3, v4, v5, v6, v7].drop 3).take (Tryz.prog.cellsOf 3)) = [x0, x1, x2, x3, x4, x5, x6, x7][3]? := hf 3 _ rfl
      have f4 : DataW.trod enc Tryz.prog W 0 sp held n1 9 (([v0, v1, v2, v3, v4, v5, v6, v7].drop 4).take (Tryz.prog.cellsOf 9)) = [x0, x1, x2, x3, x4, x5, x6, x7][4]? := hf 4 _ rfl
      have f5 : DataW.trod enc Tryz.prog W 0 sp held n1 40 (([v0, v1, v2, v3, v4, v5, v6, v7].drop 5).take (Tryz.prog.cellsOf 40)) = [x0, x1, x2, x3, x4, x5, x6, x7][5]? := hf 5 _ rfl
      have f6 : DataW.trod enc Tryz.prog W 0 sp held n1 23 (([v0, v1, v2, v3, v4, v5, v6, v7].drop 6).take (Tryz.prog.cellsOf 23)) = [x0, x1, x2, x3, x4, x5, x6, x7][6]? := hf 6 _ rfl
      have f7 : DataW.trod enc Tryz.prog W 0 sp held n1 23 (([v0, v1, v2, v3, v4, v5, v6, v7].drop 7).take (Tryz.prog.cellsOf 23)) = [x0, x1, x2, x3, x4, x5, x6, x7][7]? := hf 7 _ rfl
      simp only [ci, cst, csl, css, List.drop_zero, List.drop_succ_cons, List.take_succ_cons, List.take_zero, List.getElem?_cons_zero, List.getElem?_cons_succ] at f0 f1 f2 f3 f4 f5 f6 f7
      obtain ⟨k, e0, _, w0⟩ := DataW.trod_int Tryz.underlying3 f0
      obtain ⟨i, e1, _, w1⟩ := DataW.trod_int Tryz.underlying3 f1
      obtain ⟨s, e2, _, w2⟩ := DataW.trod_string Tryz.underlying9 f2
      obtain ⟨t, e3, _, w3⟩ := DataW.trod_int Tryz.underlying3 f3
      obtain ⟨c, e4, _, w4⟩ := DataW.trod_string Tryz.underlying9 f4
      simp only [List.cons.injEq, and_true] at e0 e1 e2 e3 e4
      subst e0 e1 e2 e3 e4
      obtain ⟨xs, pa, ca, rfl, la, ka, ra⟩ := read_exs f5
      obtain ⟨bs, pb, cb, rfl, lb, kb, rb⟩ := read_sts0 (read_st N) (by omega) f6
      obtain ⟨es, pe, ce, rfl, le, ke, re⟩ := read_sts0 (read_st N) (by omega) f7
      have hs : s = ⟨s.data.toList.toArray⟩ := by simp
      have hc : c = ⟨c.data.toList.toArray⟩ := by simp
      have hsl : s.data.toList.length ≤ maxLen := by rw [Array.length_toList]; exact w2
      have hcl : c.data.toList.length ≤ maxLen := by rw [Array.length_toList]; exact w4
      refine ⟨.mk k i s.data.toList t c.data.toList xs bs es, pa, pb, pe, ca, cb, ce, ?_, ⟨i64_of_wf w0, i64_of_wf w1, hsl, i64_of_wf w3, hcl, la, ka, lb, kb, le, ke⟩, ra, rb, re⟩
      simp only [St.kind, St.no, St.name, St.typ, St.callee, St.args, St.body, St.els, ← hs, ← hc]
/-- A statement that comes in. -/
theorem read_stmt {r : Reach} {b0 : Nat} {v : Value} {d : DataW H} {p : List MemPlace} (hv : Value.okWide Tryz.prog W r b0 42 v) (h : DataW.Trod enc Tryz.prog W 0 sp held 42 v d p) : ∃ s, St.Val W s v := by
  obtain ⟨cs, rfl, _⟩ := okWide_struct Tryz.underlying42 hv
  obtain ⟨n, hn⟩ := h
  obtain ⟨s, pa, pb, pe, ca, cb, ce, he, hw, r⟩ := read_st (n + 1) n (Nat.lt_succ_self _) _ _ hn
  refine ⟨s, pa, pb, pe, ca, cb, ce, ?_, hw, r⟩
  have : cs.toList = _ := he
  rw [← Array.toArray_toList (xs := cs), this]
end
end Go.Proofs.YtgeleppmhhodiaaGreatDoor
/- Functions and programs that come in: what the statement's reading of them gives. -/
namespace Go.Proofs.YtgeleppmhhodiaaGreatDoor
open Go Go.RowKit Go.WideShapes Go.ChangeShapes
set_option linter.unusedSimpArgs false
set_option linter.unusedVariables false
set_option linter.unnecessarySimpa false
set_option maxRecDepth 100000
theorem cells2P {w : World} {base : Nat} {a : Addr} {cs : List Value} (h : w.cells? base a 2 = some cs) :
    ∃ (b o : Nat) (v0 v1 : Value), a = ⟨b, o, none⟩ ∧ cs = [v0, v1] ∧ w.cell? ⟨b, o, none⟩ = some v0 ∧ w.cell? ⟨b, o + 1, none⟩ = some v1 := by
  unfold World.cells? at h
  split at h
  · rw [show List.range 2 = [0, 1] from rfl] at h
    simp only [List.mapM_cons, List.mapM_nil, Option.bind_eq_bind, Option.bind_eq_some_iff, Option.pure_def, Option.some.injEq] at h
    obtain ⟨v0, h0, _, ⟨v1, h1, _, rfl, rfl⟩, rfl⟩ := h
    obtain ⟨b, o, s⟩ := a
    have hs : s = none := by simpa [Addr.add] using World.cell?_spot h0
    subst hs
    exact ⟨b, o, v0, v1, rfl, rfl, by simpa [Addr.add] using h0, by simpa [Addr.add] using h1⟩
  · cases h
section
variable {H : Type} {enc : TypeId × Value → H} {W : World} {sp : Nat → Bool} {held : Bool}
/-- A list of parameters that comes in. -/
theorem read_pms {n : Nat} {v : Value} {x : DataW H × List MemPlace} (h : DataW.trod enc Tryz.prog W 0 sp held n 22 [v] = some x) :
    ∃ (l : List Pm) (a : Option Addr) (cap : Nat), v = .slice a l.length cap ∧ Pms W l a cap := by
  have cv : Tryz.prog.cellsOf 60 = 2 := by kernel_rfl
  have ci : Tryz.prog.cellsOf 3 = 1 := by kernel_rfl
  have cst : Tryz.prog.cellsOf 9 = 1 := by kernel_rfl
  rcases DataW.trod_slice Tryz.underlying22 h with ⟨e4, _⟩ | ⟨a', len, cap, elems, rest, n2, hn2, e4, _, hb, hlc, hcm, hel, hall, _, _⟩
  · simp only [List.cons.injEq, and_true] at e4
    exact ⟨[], none, 0, e4, ⟨Nat.le_refl _, Nat.zero_le _, by simp, fun b o e => (by cases e), by simp⟩⟩
  · simp only [List.cons.injEq, and_true] at e4
    subst e4
    have key : ∀ i, i < len → ∃ (b o : Nat) (x : Pm), a'.add (i * 2) = ⟨b, o, none⟩ ∧ (x.name.length ≤ maxLen ∧ I64 x.typ) ∧ W.cell? ⟨b, o, none⟩ = some (.string ⟨x.name.toArray⟩) ∧ W.cell? ⟨b, o + 1, none⟩ = some (.int .i64 x.typ) := by
      intro i hi
      have h1 := hall i hi
      rw [List.getElem?_eq_getElem (by omega), cv] at h1
      obtain ⟨cs', h2, h3⟩ := Option.bind_eq_some_iff.1 h1
      obtain ⟨b', o', u0, u1, ha, rfl, k0, k1⟩ := cells2P h2
      obtain ⟨xs, n3, _, _, _, hxl, hf⟩ := DataW.trod_struct Tryz.underlying60 h3
      match xs, hxl with
      | [x0, x1], _ =>
        have f0 : DataW.trod enc Tryz.prog W 0 sp held n3 9 (([u0, u1].drop 0).take (Tryz.prog.cellsOf 9)) = [x0, x1][0]? := hf 0 _ rfl
        have f1 : DataW.trod enc Tryz.prog W 0 sp held n3 3 (([u0, u1].drop 1).take (Tryz.prog.cellsOf 3)) = [x0, x1][1]? := hf 1 _ rfl
        simp only [ci, cst, List.drop_zero, List.drop_succ_cons, List.take_succ_cons, List.take_zero, List.getElem?_cons_zero, List.getElem?_cons_succ] at f0 f1
        obtain ⟨s, e0, _, w0⟩ := DataW.trod_string Tryz.underlying9 f0
        obtain ⟨t1, e1, _, w1⟩ := DataW.trod_int Tryz.underlying3 f1
        simp only [List.cons.injEq, and_true] at e0 e1
        subst e0 e1
        have hs : s = ⟨s.data.toList.toArray⟩ := by simp
        exact ⟨b', o', ⟨s.data.toList, t1⟩, ha, ⟨by simp only; rw [Array.length_toList]; exact w0, i64_of_wf w1⟩, by rw [k0], k1⟩
    by_cases h0 : len = 0
    · subst h0
      exact ⟨[], some a', cap, rfl, ⟨Nat.zero_le _, hcm, by simp, fun b o e i hi => absurd hi (Nat.not_lt_zero _), by simp⟩⟩
    · obtain ⟨b0, o0, _, ha0, _⟩ := key 0 (by omega)
      have ha : a' = ⟨b0, o0, none⟩ := by simpa [Addr.add] using ha0
      subst ha
      have key2 : ∀ i, i < len → ∃ x : Pm, (x.name.length ≤ maxLen ∧ I64 x.typ) ∧ W.cell? ⟨b0, o0 + i * 2, none⟩ = some (.string ⟨x.name.toArray⟩) ∧ W.cell? ⟨b0, o0 + i * 2 + 1, none⟩ = some (.int .i64 x.typ) := fun i hi => by
        obtain ⟨b', o', x, he, hw, hat⟩ := key i hi
        rw [Addr.add_lit] at he
        simp only [Addr.mk.injEq, and_true] at he
        obtain ⟨rfl, rfl⟩ := he
        exact ⟨x, hw, hat⟩
      refine ⟨(List.finRange len).map fun i => (key2 i.1 i.2).choose, some ⟨b0, o0, none⟩, cap, by simp, ⟨by simpa using hlc, hcm, fun _ => ⟨_, _, rfl⟩, ?_, ?_⟩⟩
      · intro b o e i hi
        simp only [Option.some.injEq, Addr.mk.injEq, and_true] at e
        obtain ⟨rfl, rfl⟩ := e
        have hi' : i < len := by simpa using hi
        have := (key2 i hi').choose_spec.2
        simpa using this
      · intro p hp
        obtain ⟨i, _, rfl⟩ := List.mem_map.1 hp
        exact (key2 i.1 i.2).choose_spec.1
/-- The five cells of a function that comes in. -/
theorem read_fn {n : Nat} {cs : List Value} {x : DataW H × List MemPlace} (h : DataW.trod enc Tryz.prog W 0 sp held n 25 cs = some x) :
    ∃ (f : Fn) (pp pb : Option Addr) (cp cb : Nat), cs = [.string ⟨f.name.toArray⟩, .slice pp f.params.length cp, .int .i64 f.result, .slice pb f.body.length cb, .int .i64 f.count] ∧ FnWf f cb ∧ Pms W f.params pp cp ∧ St.Row W f.body pb := by
  obtain ⟨xs, n1, hn1, _, hl, hxl, hf⟩ := DataW.trod_struct Tryz.underlying25 h
  have hl5 : cs.length = 5 := hl.trans (by kernel_rfl)
  have ci : Tryz.prog.cellsOf 3 = 1 := by kernel_rfl
  have cst : Tryz.prog.cellsOf 9 = 1 := by kernel_rfl
  have csp : Tryz.prog.cellsOf 22 = 1 := by kernel_rfl
  have css : Tryz.prog.cellsOf 23 = 1 := by kernel_rfl
  match cs, hl5, xs, hxl with
  | [v0, v1, v2, v3, v4], _, [x0, x1, x2, x3, x4], _ =>
    have f0 : DataW.trod enc Tryz.prog W 0 sp held n1 9 (([v0, v1, v2, v3, v4].drop 0).take (Tryz.prog.cellsOf 9)) = [x0, x1, x2, x3, x4][0]? := hf 0 _ rfl
    have f1 : DataW.trod enc Tryz.prog W 0 sp held n1 22 (([v0, v1, v2, v3, v4].drop 1).take (Tryz.prog.cellsOf 22)) = [x0, x1, x2, x3, x4][1]? := hf 1 _ rfl
    have f2 : DataW.trod enc Tryz.prog W 0 sp held n1 3 (([v0, v1, v2, v3, v4].drop 2).take (Tryz.prog.cellsOf 3)) = [x0, x1, x2, x3, x4][2]? := hf 2 _ rfl
    have f3 : DataW.trod enc Tryz.prog W 0 sp held n1 23 (([v0, v1, v2, v3, v4].drop 3).take (Tryz.prog.cellsOf 23)) = [x0, x1, x2, x3, x4][3]? := hf 3 _ rfl
    have f4 : DataW.trod enc Tryz.prog W 0 sp held n1 3 (([v0, v1, v2, v3, v4].drop 4).take (Tryz.prog.cellsOf 3)) = [x0, x1, x2, x3, x4][4]? := hf 4 _ rfl
    simp only [ci, cst, csp, css, List.drop_zero, List.drop_succ_cons, List.take_succ_cons, List.take_zero, List.getElem?_cons_zero, List.getElem?_cons_succ] at f0 f1 f2 f3 f4
    obtain ⟨s, e0, _, w0⟩ := DataW.trod_string Tryz.underlying9 f0
    obtain ⟨r, e2, _, w2⟩ := DataW.trod_int Tryz.underlying3 f2
    obtain ⟨c, e4, _, w4⟩ := DataW.trod_int Tryz.underlying3 f4
    simp only [List.cons.injEq, and_true] at e0 e2 e4
    subst e0 e2 e4
    obtain ⟨ps, pp, cp, rfl, hps⟩ := read_pms f1
    obtain ⟨bs, pb, cb, rfl, lb, kb, rb⟩ := read_sts0 (read_st n1) (Nat.le_refl _) f3
    have hs : s = ⟨s.data.toList.toArray⟩ := by simp
    have hsl : s.data.toList.length ≤ maxLen := by rw [Array.length_toList]; exact w0
    refine ⟨⟨s.data.toList, ps, r, bs, c⟩, pp, pb, cp, cb, ?_, ⟨hsl, i64_of_wf w2, lb, kb, i64_of_wf w4⟩, hps, rb⟩
    simp only [← hs]
/-- A function that comes in. -/
theorem read_func {r : Reach} {b0 : Nat} {v : Value} {d : DataW H} {p : List MemPlace} (hv : Value.okWide Tryz.prog W r b0 25 v) (h : DataW.Trod enc Tryz.prog W 0 sp held 25 v d p) : ∃ f, Fn.Val W f v := by
  obtain ⟨cs, rfl, _⟩ := okWide_struct Tryz.underlying25 hv
  obtain ⟨n, hn⟩ := h
  obtain ⟨f, pp, pb, cp, cb, he, hw, hp, hr⟩ := read_fn hn
  refine ⟨f, pp, pb, cp, cb, ?_, hw, hp, hr⟩
  have : cs.toList = _ := he
  rw [← Array.toArray_toList (xs := cs), this]
theorem read_fns {n : Nat} {v : Value} {x : DataW H × List MemPlace} (h : DataW.trod enc Tryz.prog W 0 sp held n 52 [v] = some x) :
    ∃ (l : List Fn) (a : Option Addr) (cap : Nat), v = .slice a l.length cap ∧ Fns W l a cap := by
  have cv : Tryz.prog.cellsOf 25 = 5 := by kernel_rfl
  rcases DataW.trod_slice Tryz.underlying52 h with ⟨e4, _⟩ | ⟨a', len, cap, elems, rest, n2, hn2, e4, _, hb, hlc, hcm, hel, hall, _, _⟩
  · simp only [List.cons.injEq, and_true] at e4
    exact ⟨[], none, 0, e4, ⟨Nat.le_refl _, Nat.zero_le _, by simp, fun b o e => (by cases e)⟩⟩
  · simp only [List.cons.injEq, and_true] at e4
    subst e4
    have key : ∀ i, i < len → ∃ (b o : Nat) (f : Fn), a'.add (i * 5) = ⟨b, o, none⟩ ∧ Fn.At W f b o := by
      intro i hi
      have h1 := hall i hi
      rw [List.getElem?_eq_getElem (by omega), cv] at h1
      obtain ⟨cs', h2, h3⟩ := Option.bind_eq_some_iff.1 h1
      obtain ⟨b', o', u0, u1, u2, u3, u4, ha, rfl, k0, k1, k2, k3, k4⟩ := cells5 h2
      obtain ⟨f, pp, pb, cp, cb, he, hw, hp, hr⟩ := read_fn h3
      refine ⟨b', o', f, ha, pp, pb, cp, cb, ?_⟩
      simp only [List.cons.injEq, and_true] at he
      obtain ⟨rfl, rfl, rfl, rfl, rfl⟩ := he
      exact ⟨k0, k1, k2, k3, k4, hw, hp, hr⟩
    by_cases h0 : len = 0
    · subst h0
      exact ⟨[], some a', cap, rfl, ⟨Nat.zero_le _, hcm, by simp, fun b o e i hi => absurd hi (Nat.not_lt_zero _)⟩⟩
    · obtain ⟨b0, o0, _, ha0, _⟩ := key 0 (by omega)
      have ha : a' = ⟨b0, o0, none⟩ := by simpa [Addr.add] using ha0
      subst ha
      have key2 : ∀ i, i < len → ∃ f : Fn, Fn.At W f b0 (o0 + i * 5) := fun i hi => by
        obtain ⟨b', o', x, he, hat⟩ := key i hi
        rw [Addr.add_lit] at he
        simp only [Addr.mk.injEq, and_true] at he
        obtain ⟨rfl, rfl⟩ := he
        exact ⟨x, hat⟩
      refine ⟨(List.finRange len).map fun i => (key2 i.1 i.2).choose, some ⟨b0, o0, none⟩, cap, by simp, ⟨by simpa using hlc, hcm, fun _ => ⟨_, _, rfl⟩, ?_⟩⟩
      intro b o e i hi
      simp only [Option.some.injEq, Addr.mk.injEq, and_true] at e
      obtain ⟨rfl, rfl⟩ := e
      have hi' : i < len := by simpa using hi
      have := (key2 i hi').choose_spec
      simpa using this
/-- A program that comes in. -/
theorem read_program {r : Reach} {b0 : Nat} {v : Value} {d : DataW H} {p : List MemPlace} (hv : Value.okWide Tryz.prog W r b0 54 v) (h : DataW.Trod enc Tryz.prog W 0 sp held 54 v d p) :
    ∃ (l : List Fn) (a : Option Addr) (cap : Nat), v = .agg #[.slice a l.length cap] ∧ Fns W l a cap := by
  obtain ⟨cs, rfl, _⟩ := okWide_struct Tryz.underlying54 hv
  obtain ⟨n, hn⟩ := h
  obtain ⟨xs, n1, hn1, _, hl, hxl, hf⟩ := DataW.trod_struct Tryz.underlying54 hn
  have csf : Tryz.prog.cellsOf 52 = 1 := by kernel_rfl
  have hl1 : cs.toList.length = 1 := (show cs.toList.length = _ from hl).trans (by kernel_rfl)
  obtain ⟨v0, hv0⟩ : ∃ v0, cs.toList = [v0] := by
    rcases hc : cs.toList with _ | ⟨v0, t⟩
    · rw [hc] at hl1
      cases hl1
    · rw [hc] at hl1
      cases t
      · exact ⟨v0, rfl⟩
      · simp at hl1
  match xs, hxl with
  | [x0], _ =>
    have f0 : DataW.trod enc Tryz.prog W 0 sp held n1 52 ((cs.toList.drop 0).take (Tryz.prog.cellsOf 52)) = [x0][0]? := hf 0 _ rfl
    rw [hv0] at f0
    simp only [csf, List.drop_zero, List.take_succ_cons, List.take_zero, List.getElem?_cons_zero] at f0
    obtain ⟨l, a, cap, rfl, hfn⟩ := read_fns f0
    refine ⟨l, a, cap, ?_, hfn⟩
    rw [← Array.toArray_toList (xs := cs), hv0]
end
end Go.Proofs.YtgeleppmhhodiaaGreatDoor
/- What a row of this seat needs: its condition gives the table of blanks; a world that meets it; the last step of a row. -/
namespace Go.Proofs.YtgeleppmhhodiaaGreatDoor
open Go Go.RowKit Go.WideShapes Go.ChangeShapes
set_option linter.unusedSimpArgs false
set_option linter.unusedVariables false
set_option linter.unnecessarySimpa false
theorem own : ownKnob Tryz.prog.godebug = none := by kernel_rfl
/-- The list of laid variables of every row of this seat. -/
def theLaid : List (String × DataW Unit) := [("unicode/utf8.acceptRanges", Rows.laid_unicode_utf8_acceptRanges), ("unicode.White_Space", Rows.laid_unicode_White_Space), ("strings.asciiSpace", Rows.laid_strings_asciiSpace), ("unicode/utf8.first", Rows.laid_unicode_utf8_first)]
theorem space_data : (Rows.laid_strings_asciiSpace : DataW Unit) = Lib.tabData .u8 Lib.asciiSpaceTab := by kernel_rfl
/-- What a row's condition says of one of the listed variables. -/
theorem laid_get0 {P : Program} {W : World} : ∀ {l : List (String × DataW Unit)} {ps : List MemPlace}, DataW.LaidVars P W l ps → ∀ {n : String} {d : DataW Unit}, (n, d) ∈ l →
    ∃ g t cs fuel p, P.globalNamed n = some g ∧ (P.globals[g]?).map (·.type) = some t ∧ W.var? P n = some cs ∧ DataW.trod (fun _ => ()) P W 0 (fun _ => true) false fuel t cs.toList = some (d, p)
  | [], _, _, _, _, hm => by cases hm
  | (m, e) :: l, ps, h, n, d, hm => by
    obtain ⟨g, t, cs, fuel, p, q, h1, h2, h3, h4, h5, _⟩ := h
    cases hm with
    | head => exact ⟨g, t, cs, fuel, p, h1, h2, h3, h4⟩
    | tail _ hm => exact laid_get0 h5 hm
theorem laid_get {W : World} (h : laidMetH Tryz.prog theLaid W) {n : String} {d : DataW Unit} (hm : (n, d) ∈ theLaid) :
    ∃ g t cs fuel p, Tryz.prog.globalNamed n = some g ∧ (Tryz.prog.globals[g]?).map (·.type) = some t ∧ W.var? Tryz.prog n = some cs ∧ DataW.trod (fun _ => ()) Tryz.prog W 0 (fun _ => true) false fuel t cs.toList = some (d, p) := by
  rw [MakeChecks.laidMetH_plain _ _ _ (by kernel_rfl)] at h
  obtain ⟨ps, h, _⟩ := h
  exact laid_get0 h hm
/-- What a row's condition on the listed variables gives a walk. -/
theorem tab_of_laid {W : World} (h : laidMetH Tryz.prog theLaid W) : Tab W := by
  obtain ⟨g', t', cs, fuel, p, hg', ht', hvar, hd⟩ := laid_get h (n := "strings.asciiSpace") (d := Rows.laid_strings_asciiSpace) (by unfold theLaid; repeat (first | exact List.mem_cons_self | apply List.mem_cons_of_mem))
  have hg : Tryz.prog.globalNamed "strings.asciiSpace" = some 0 := by kernel_rfl
  obtain rfl := Option.some.inj (hg.symm.trans hg')
  obtain rfl := Option.some.inj ((show (Tryz.prog.globals[0]?).map (·.type) = some 134 by kernel_rfl).symm.trans ht')
  rw [space_data] at hd
  unfold Tab Lib.TabIs
  rw [hvar, ← Lib.cells_of_tab Tryz.underlying134 Tryz.underlying5 (by kernel_rfl) (by kernel_rfl) hd]
/-- A world that meets every row's condition on the listed variables. -/
theorem witness_laid {os : Os} {H : Type} {enc : TypeId × Value → H} {f : FuncId} {fn : Func} {s : ChangeSpec} (args : Array Value) (fuel : Nat)
    (hv : ((World.laidAll Tryz.prog os theLaid).forCall (fun _ _ => 0) ⟨#[], args, []⟩).variablesZipB Tryz.prog = true)
    (hr : (((World.laidAll Tryz.prog os theLaid).forCall (fun _ _ => 0) ⟨#[], args, []⟩).heap.toList.drop Tryz.prog.globals.size).take ((begin Tryz.prog (fun _ _ => 0) default).world.heap.size - Tryz.prog.globals.size) =
      (begin Tryz.prog (fun _ _ => 0) default).world.heap.toList.drop Tryz.prog.globals.size)
    (hok : Input.okWideB Tryz.prog ((World.laidAll Tryz.prog os theLaid).forCall (fun _ _ => 0) ⟨#[], args, []⟩) f ⟨#[], args, []⟩ = true)
    (hpre : s.preB enc Tryz.prog fn [] false ((World.laidAll Tryz.prog os theLaid).forCall (fun _ _ => 0) ⟨#[], args, []⟩).memory args fuel = true)
    (hsz : s.sizedB enc Tryz.prog fn false ((World.laidAll Tryz.prog os theLaid).forCall (fun _ _ => 0) ⟨#[], args, []⟩).memory args fuel = true)
    (hf : (World.holding Tryz.prog os ⟨#[], #[], []⟩).layFits Tryz.prog theLaid [] = true)
    (hi : (World.holding Tryz.prog os ⟨#[], #[], []⟩).layIfaces Tryz.prog theLaid (World.laidAll Tryz.prog os theLaid) = true) :
    ∃ (w : World) (tape : Tape) (i : Input), w.os = os ∧ (w.forCall tape i).Shaped Tryz.prog ∧ i.vars = [] ∧ Input.okWide Tryz.prog (w.forCall tape i) .any w.heap.size f i ∧
      ((s.pre enc Tryz.prog fn [] false (w.forCall tape i).memory i.args ∧ laidMetH Tryz.prog theLaid (w.forCall tape i).memory) ∧ sizedMet enc Tryz.prog fn (OpenSpec.ofChange s) false (w.forCall tape i).memory i.args) ∧ ({} : Assume).holds Tryz.prog (lone (Frame.enter Tryz.prog f i.args .normal) [] (w.forCall tape i)) :=
  ⟨World.laidAll Tryz.prog os theLaid, fun _ _ => 0, ⟨#[], args, []⟩, World.laidAll_os _ _ _, World.shaped_of_ZipB hv hr, (Input.okWide_of_okWideB (base := 0) hok).1, (Input.okWide_of_okWideB hok).2, ⟨⟨ChangeSpec.pre_of_preB hpre, by
    rw [MakeChecks.laidMetH_plain _ _ _ (by kernel_rfl)]; exact laidMet_laidAll _ hf hi⟩, sizedMet_of_sizedB hsz⟩, by
    simp only [Assume.holds]
    exact ⟨by simp, by simp, fun _ => Modest.zero, by simp, by simp⟩⟩
section
variable {H : Type} {enc : TypeId × Value → H} {P : Program}
/-- The row's last step, where of the call's world one knows that what was there has not turned. -/
theorem post_of_below {f : Func} {s : ChangeSpec} {apart fresh handsOn again : Bool} {W W' : World} {args : Array Value} {v : Value} {ds gs : List (DataW H)} {before pa pv : List MemPlace}
    (hW : DataW.Whole enc P f.params.toList s.vars apart W args.toList ds gs before)
    (hres : ∀ (b : Nat) (sp : Nat → Bool) (hd : Bool), DataW.TrodAll enc P W' b sp hd f.resultTypes.toList (v.resultList f.resultTypes.size) (s.fn H (ds ++ gs)).results [])
    (hargs : ∀ sp : Nat → Bool, (∀ p ∈ before, sp p.block = true) → DataW.TrodAll enc P W' 0 sp true f.params.toList args.toList (s.fn H (ds ++ gs)).args pa)
    (hvars : ∀ sp : Nat → Bool, (∀ p ∈ before, sp p.block = true) → DataW.TrodVars enc P W' sp s.vars (s.fn H (ds ++ gs)).vars pv)
    (hps : before = pa ++ pv) (hb : Below W.heap.size W W')
    (hok : ∀ (j : Nat) (t : TypeId) (r : Value), f.resultTypes[j]? = some t → (v.resultList f.resultTypes.size)[j]? = some r → Value.okWide P W' .any 0 t r) :
    s.post enc P f apart fresh handsOn again W args v W' := by
  have hlt : ∀ p ∈ before, p.block < W.heap.size := fun p hp => hW.lt p hp
  have hold : ∀ p ∈ before, (fun b => decide (b < W.heap.size)) p.block = true := fun p hp => by simpa using hlt p hp
  refine ⟨ds, gs, before, [], pa, pv, hW, hres _ _ _, hargs _ hold, hvars _ hold, World.keptBut_mono (fun p hp => ⟨hp, ?_⟩) (hb.frame (· ∈ before)), fun _ => ?_⟩
  · rw [hps, List.mem_append] at hp
    exact Or.inr hp
  · obtain ⟨_, _, _, _, _, hz, hn⟩ := hW
    refine ⟨hok, _, _, ([] ++ pa) ++ pv, ⟨[] ++ pa, pv, trodAll_append (hargs _ (fun _ _ => rfl)) (hres _ _ _), hvars _ (fun _ _ => rfl), rfl, ?_, ?_⟩, ?_⟩
    · intro b off hp
      have hin : MemPlace.cell b off ∈ before := by rw [hps]; simpa using hp
      rw [hb.frozen (hlt _ hin)]
      exact hz b off hin
    · intro ha
      have := hn ha
      rw [hps] at this
      simpa using this
    · intro p hp _
      rw [hps]
      simpa using hp
end
end Go.Proofs.YtgeleppmhhodiaaGreatDoor
namespace Go.Proofs.YtgeleppmhhodiaaGreatDoor.PrFinds
open Go Go.ChangeShapes Go.WideShapes Go.ChangeAt Go.RowKit
set_option linter.unusedSimpArgs false
set_option linter.unusedVariables false
set_option linter.unnecessarySimpa false
theorem laidOut : laidOutB Tryz.prog = true := by kernel_rfl
/-- What came in reads behind the call as it did. -/
theorem stay {H : Type} {enc : TypeId × Value → H} {W W' : World} {sp : Nat → Bool} {t : TypeId} {v : Value} {d : DataW H} {ps : List MemPlace} (hr : Tryz.prog.readableRec t = true) (hrow : t < Tryz.prog.types.size)
    (h : DataW.Trod enc Tryz.prog W 0 (fun _ => true) true t v d ps) (hb : Below W.heap.size W W') (hs : ∀ p ∈ ps, sp p.block = true) : DataW.Trod enc Tryz.prog W' 0 sp true t v d ps := by
  refine WideElems.Trod_stays laidOut hr hrow h (fun p hp => ?_) hs
  obtain ⟨n, hn⟩ := h
  have hlt := DataW.trod_lt n t _ _ hn p hp
  cases p with
  | cell b o => exact hb.cell (p := ⟨b, o, none⟩) hlt
  | map b => exact hb.block b hlt
set_option maxRecDepth 100000 in
theorem lifted (os : Os) (started : os.Started) (H : Type) (enc : TypeId × Value → H) :
    ReturnsInHanded {} Tryz.checked os 3 .any (fun w args => (Rows.namesFindsSpec.pre enc Tryz.prog Tryz.f3 [] false w args ∧ laidMetH Tryz.prog Rows.namesFindsRow.laid w) ∧ sizedMet enc Tryz.prog Tryz.f3 (OpenSpec.ofChange Rows.namesFindsSpec) false w args)
      (Rows.namesFindsSpec.post enc Tryz.prog Tryz.f3 false true false false) := by
  refine returnsInHanded_of_change_and (C := Tryz.checked) (X := fun w _ => laidMetH Tryz.prog Rows.namesFindsRow.laid w) (fun _ _ _ hh h => h.of_heap hh) own started (by kernel_rfl) Tryz.func3
    (witness_laid #[.agg #[.string ⟨#[]⟩, .slice none 0 0, .int .i64 0, .slice none 0 0, .int .i64 0]] 8 (by kernel_rfl) (by kernel_rfl) (by kernel_rfl) (by kernel_rfl) (by kernel_rfl) (by kernel_rfl) (by kernel_rfl)) ?_
  intro W base args ds gs before hval0 hW _ _ hL _
  have hval : ∀ (j : Nat) t v, Tryz.f3.params[j]? = some t → args[j]? = some v → Value.okWide Tryz.prog W .any base t v := hval0
  have hW' := hW
  obtain ⟨p, q, hA0, hV, rfl, hfz, hnd⟩ := hW
  have hA : DataW.TrodAll enc Tryz.prog W 0 (fun _ => true) true Tryz.f3.params.toList args.toList ds p := hA0
  rw [Tryz.params3] at hA hval
  obtain ⟨v0, vs0, d0, ds0, p0, q0, hargs, rfl, rfl, h0, r0⟩ := trodAll_cons hA
  obtain ⟨rfl, rfl, rfl⟩ := trodAll_nil r0
  obtain rfl : args = #[v0] := by cases args; simp_all
  obtain ⟨rfl, rfl⟩ := trodVars_none hV
  obtain ⟨f0, hf0⟩ := read_func (hval 0 25 v0 rfl rfl) h0
  clear hA0 hval0
  refine (NamesFinds_any f0 v0 W hf0 (tab_of_laid hL)).mono fun r W' ⟨hr, hb⟩ => ?_
  subst hr
  exact ⟨_, rfl, post_of_below (pa := (p0 ++ [])) (pv := []) hW' (fun _ _ _ => (trodAll_cons_mk (shut_bool Tryz.underlying4 _) trodAll_mk0))
    (fun sp hsp => (trodAll_cons_mk (stay (by kernel_rfl) (of_decide_eq_true (by kernel_rfl)) h0 hb (fun p hp => hsp p (by simp [hp]))) trodAll_mk0)) (fun _ _ => rfl) rfl
    hb (ok_one (by kernel_rfl) rfl (okWide_bool_mk Tryz.underlying4 _))⟩
theorem over : Rows.namesFindsRow.holds Tryz.pinned (OpenSpec.ofChange Rows.namesFindsSpec) :=
  OpenClaim.holds_of_wide 3 Tryz.f3 rfl rfl rfl rfl rfl rfl rfl ⟨rfl, rfl, rfl, rfl, rfl⟩ rfl rfl rfl rfl rfl (by kernel_rfl) Tryz.func3 (by kernel_rfl)
    (of_decide_eq_true (by kernel_rfl)) (by unfold Func.isWrapper; first | (rw [if_pos (by decide +kernel)]; kernel_rfl) | (rw [if_neg (by decide +kernel)]; exact ⟨rfl, rfl⟩))
    (fun os started H enc _ => lifted os started H enc)
end Go.Proofs.YtgeleppmhhodiaaGreatDoor.PrFinds
namespace Go.Proofs.YtgeleppmhhodiaaGreatDoor
open Go
theorem namesFinds_proved : Rows.NamesFindsCardSaid :=
  Claim7.holds_tied_plain_at .later [] [.data, .listed, .data, .pinned] true (true, "ed641ba315f3d77d390857456ee64b3cf969c286f5d0a270b39c1d6e943ae73a") false
    PrFinds.over (fun _ h => by cases h) (by kernel_rfl) (fun _ h => by cases h) namesFinds_row_tie rfl ⟨rfl, rfl⟩ (by kernel_rfl) rfl
    (fun f fn hf hfn => by
      obtain rfl : f = 3 := Option.some.inj ((show Tryz.prog.funcNamed "rewind/rewindlaw10.NamesFinds" = some 3 by kernel_rfl).symm.trans hf) |>.symm
      obtain rfl : fn = Tryz.f3 := (Option.some.inj (Tryz.func3.symm.trans hfn)).symm
      exact ⟨by kernel_rfl, fun j t ht => by
        rw [Tryz.params3] at ht
        have h3 : t = 25 := by
          rcases j with _ | j
          all_goals simp at ht
          · exact ht.symm
        rcases h3 with rfl
        · exact (show Tryz.prog.wantsStandIn 25 = false by kernel_rfl)⟩)
    (by kernel_rfl)
#print axioms namesFinds_proved
end Go.Proofs.YtgeleppmhhodiaaGreatDoor
