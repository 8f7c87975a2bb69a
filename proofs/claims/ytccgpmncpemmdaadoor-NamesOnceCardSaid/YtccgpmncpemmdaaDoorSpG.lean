/- shape.Check answers whether a program has the right shape. -/
import Derived.Test.YtccgpmncpemmdaaDoorSpF
namespace Go.Proofs.YtccgpmncpemmdaaDoor
open Go Go.RowKit
set_option linter.unusedSimpArgs false
set_option linter.unusedVariables false
set_option linter.unnecessarySimpa false
theorem fnOk_cnt {f : Fn} (h : fnOk f = true) : cntL f.body ≤ 200 := by
  simp only [fnOk, Bool.and_eq_true, decide_eq_true_eq] at h
  exact h.2.2
theorem checkM_bad {l : List Fn} {k : Nat} (h : k < l.length) (hb : fnOk l[k] = false ∨ fnNums l[k] = false) : checkM l = 2 := by
  unfold checkM
  rw [if_neg]
  rintro ⟨_, h2⟩
  obtain ⟨q1, q2⟩ := h2 _ (List.getElem_mem h)
  rcases hb with hb | hb
  · rw [q1] at hb; cases hb
  · rw [q2] at hb; cases hb
set_option maxRecDepth 20000 in
set_option maxHeartbeats 8000000 in
theorem check_any (l : List Fn) (a : Option Addr) (cap : Nat) (w : World) (hl : Fns w l a cap) (hT : Tab w) :
    Calls Tryd.prog 32 #[.agg #[.slice a l.length cap]] w fun r w' => r = .returned (.int .i64 (checkM l)) ∧ Below w.heap.size w w' := by
  have hlen : l.length ≤ 9223372036854775807 := Nat.le_trans hl.len hl.cap
  by_cases hl20 : (20 : Int) < (l.length : Int)
  · have e : checkM l = 2 := by unfold checkM; rw [if_neg]; rintro ⟨h, _⟩; omega
    rw [e]
    clear e hl hT
    go_enter Tryd.func32, Tryd.ntmps32
    go_wp2_with fail
    go_ret
    exact ⟨rfl, (bl w).al _⟩
  · have HL := hide hl
    have HT := hide hT
    have hl20' : l.length ≤ 20 := by omega
    clear hl hT
    go_enter Tryd.func32, Tryd.ntmps32
    go_wp2_with fail
    go_loopw [14] (fun i wr => ∃ k : Nat, k ≤ l.length ∧ i = .int .i64 k ∧ Hid (∀ f ∈ l.take k, fnOk f = true ∧ fnNums f = true) ∧ Below w.heap.size w wr) (fun i _ => l.length - (intOf i).toNat)
    case atStart => exact ⟨0, Nat.zero_le _, rfl, by simp [Hid], (bl w).al _⟩
    case round =>
      obtain ⟨k, hk, rfl, HALL, hb⟩ := hrel
      by_cases hlt : k < l.length
      · obtain ⟨b, o, rfl⟩ := HL.out.addr (by omega)
        obtain ⟨pp, pb, cp, cb, c0, c1, c2, c3, c4, hfw, hps, hrow⟩ := (HL.out.at_ b o rfl k hlt).has (has_below hb)
        have HF := hide fun (W : World) (hW : Below wr.heap.size wr W) => function_any l[k] _ W (⟨pp, pb, cp, cb, rfl, hfw, hps.has (has_below hW), hrow.has (has_below hW)⟩ : Fn.Val W l[k] _) ((HT.out.below hb).below hW)
        have HTL := hide (List.take_succ_eq_append_getElem hlt)
        cases hok : fnOk l[k]
        · have HE := hide (checkM_bad hlt (.inl hok))
          rw [hok] at HF
          clear hok hfw hps hrow
          go_wp2_with fail
          (with_reducible refine (HF.out _ ((bl wr).al _)).mono ?_)
          rintro r w2 ⟨rfl, hb2⟩
          go_wp2_with fail
          go_ret
          exact ⟨ret_int HE.out.symm, (hb.al _).tr hb2⟩
        · rw [hok] at HF
          have HOK := hide hok
          have hcn := fnOk_cnt hok
          have hbl : l[k].body.length ≤ maxLen := Nat.le_trans hfw.lb hfw.cb
          have HV := hide fun (n i : Nat) (hn : wr.heap.size ≤ n) (hi : wr.heap.size ≤ i) (hni : i ≠ n) (W : World) (hW : Below wr.heap.size wr W) (h0 : IsAt W i true) (h1 : NumAt W n 0) =>
            visit_check i n hni 200 l[k].body pb cb 0 true W hcn hbl (by omega) (hrow.has ((has_new (l := [i, n]) (by simp [hn, hi])).tr (has_av_below hW))) h0 h1
          have HNE : Hid (fnNums l[k] = (upM 0 (nosL l[k].body) && decide (l[k].count = (cntL l[k].body : Nat)))) := hide (by rw [fnNums, nums_up])
          have HLN := hide (nosL_len l[k].body)
          clear hok hfw hps hrow
          go_wp2_with fail
          (with_reducible refine (HF.out _ ((bl wr).al _)).mono ?_)
          rintro r w2 ⟨rfl, hb2⟩
          have hB2 := ((bl wr).al (.cells #[.string ⟨l[k].name.toArray⟩, .slice pp l[k].params.length cp, .int .i64 l[k].result, .slice pb l[k].body.length cb, .int .i64 l[k].count] 42)).tr hb2
          have HX := hide ((hb2.block _ (by simp)).trans (heap_alloc_new wr (.cells #[.string ⟨l[k].name.toArray⟩, .slice pp l[k].params.length cp, .int .i64 l[k].result, .slice pb l[k].body.length cb, .int .i64 l[k].count] 42)))
          have x3 := cell_at (j := 3) HX.out rfl
          have hs2 : wr.heap.size < w2.heap.size := (Array.getElem?_eq_some_iff.1 HX.out).1
          have HB4 : Hid (Below wr.heap.size wr ((w2.alloc (.cells #[.int .i64 0] 3)).alloc (.cells #[.bool true] 4))) := hide ((hB2.al _).al _)
          have HI4 : Hid (IsAt ((w2.alloc (.cells #[.int .i64 0] 3)).alloc (.cells #[.bool true] 4)) (w2.heap.size + 1) true) := hide (by
            unfold IsAt
            rw [show w2.heap.size + 1 = (w2.alloc (.cells #[.int .i64 0] 3)).heap.size by simp]
            exact heap_alloc_new _ _)
          have HN4 : Hid (NumAt ((w2.alloc (.cells #[.int .i64 0] 3)).alloc (.cells #[.bool true] 4)) w2.heap.size 0) := hide (NumAt.below (heap_alloc_new w2 _) ((bl _).al _))
          clear hb2
          go_wp2_with fail
          (with_reducible refine (HV.out _ _ (by omega) (by omega) (by omega) _ HB4.out HI4.out HN4.out).mono ?_)
          rintro r w3 ⟨rfl, hi3, hn3, hk3⟩
          have x4 := cell_at (j := 4) (hk3.heap (by simp; omega) (((bl w2).al _ |>.al _).block _ hs2 |>.trans HX.out)) rfl
          have y0 := cell_at (j := 0) hi3 rfl
          have z0 := cell_at (j := 0) hn3 rfl
          have hyl := hi3.lt
          have hzl := hn3.lt
          have hxl : wr.heap.size < w3.heap.size := by omega
          have HB3 : Hid (Below wr.heap.size wr w3) := hide (hk3.below HB4.out (by simp; omega))
          clear hi3 hn3 hk3 x3
          rw [Bool.true_and] at y0
          rw [HLN.out, Nat.zero_add] at z0
          cases hq : upM 0 (nosL l[k].body)
          · have HE := hide (checkM_bad hlt (.inr (by rw [HNE.out, hq]; rfl)))
            rw [hq] at y0
            clear hq
            go_wp2_with fail
            go_ret
            exact ⟨ret_int HE.out.symm, hb.tr HB3.out⟩
          · rw [hq] at y0
            by_cases hct : l[k].count = (cntL l[k].body : Nat)
            · have HG : Hid (fnNums l[k] = true) := hide (by rw [HNE.out, hq, decide_eq_true hct]; rfl)
              have hct2 : (l[k].count != ((cntL l[k].body : Nat) : Int)) = false := by simpa using hct
              clear hq hct
              go_wp2_with fail
              go_roundw
              case rel =>
                refine ⟨k + 1, by omega, by go_num, ?_, hb.tr HB3.out⟩
                intro f hf
                rw [HTL.out, List.mem_append, List.mem_singleton] at hf
                rcases hf with hf | rfl
                · exact HALL f hf
                · exact ⟨HOK.out, HG.out⟩
              case measure => simp [intOf]; omega
            · have HE := hide (checkM_bad hlt (.inr (by rw [HNE.out, decide_eq_false hct, Bool.and_false])))
              have hct2 : (l[k].count != ((cntL l[k].body : Nat) : Int)) = true := by simpa using hct
              clear hq hct
              go_wp2_with fail
              go_ret
              exact ⟨ret_int HE.out.symm, hb.tr HB3.out⟩
      · obtain rfl : k = l.length := by omega
        have e : checkM l = 0 := by
          have h2 := HALL.out
          rw [List.take_length] at h2
          unfold checkM
          rw [if_pos ⟨hl20', h2⟩]
        have HE := hide e
        clear e
        go_wp2_with fail
        go_ret
        exact ⟨ret_int HE.out.symm, hb⟩
end Go.Proofs.YtccgpmncpemmdaaDoor
