/- rewindlaw12.refs, few, and the functions of its examples. -/
import Derived.Test.YtnkmbddjekepkaaDoorSgI
namespace Go.Proofs.YtnkmbddjekepkaaDoor
open Go Go.RowKit
set_option linter.unusedSimpArgs false
set_option linter.unusedVariables false
set_option linter.unnecessarySimpa false
def fewSg (l : List Sg) : Bool := decide (l.length ≤ 20) && l.all fun s => decide (s.pars.length ≤ 30) && decide (s.name.length ≤ 100)
set_option maxHeartbeats 1000000 in
theorem few12_any (l : List Sg) (a : Option Addr) (cap : Nat) (w : World) (hl : Sgs w l a cap) :
    Calls Tryd.prog 7 #[.slice a l.length cap] w fun r w' => r = .returned (.bool (fewSg l)) ∧ Below w.heap.size w w' := by
  have hlen : l.length ≤ 9223372036854775807 := Nat.le_trans hl.len hl.cap
  have HL := hide hl
  clear hl
  by_cases h20 : (20 : Int) < (l.length : Int)
  · have HE : Hid (fewSg l = false) := hide (by unfold fewSg; rw [decide_eq_false (by omega)]; rfl)
    go_enter Tryd.func7, Tryd.ntmps7
    go_wp2_with fail
    go_ret
    exact ⟨ret_bool HE.out.symm, bl w⟩
  · go_enter Tryd.func7, Tryd.ntmps7
    go_wp2_with fail
    go_loop [3] (fun i => ∃ k : Nat, k ≤ l.length ∧ i = .int .i64 k ∧ Hid (∀ s ∈ l.take k, s.pars.length ≤ 30 ∧ s.name.length ≤ 100)) (fun i => l.length - (intOf i).toNat)
    case atStart => exact ⟨0, Nat.zero_le _, rfl, by simp [Hid]⟩
    case round =>
      obtain ⟨k, hk, rfl, hn⟩ := hrel
      by_cases hlt : k < l.length
      · obtain ⟨b, o, rfl⟩ := HL.out.addr (by omega)
        obtain ⟨pa, pc, c0, c1, c2, hi⟩ := HL.out.at_ b o rfl k hlt
        have hnl := (HL.out.wf _ (List.getElem_mem hlt)).1
        have hpl := Nat.le_trans hi.len hi.cap
        clear hi
        have hbad : ¬ (l[k].pars.length ≤ 30 ∧ l[k].name.length ≤ 100) → fewSg l = false := fun h => by
          unfold fewSg
          rw [Bool.and_eq_false_iff]
          refine .inr ?_
          rw [List.all_eq_false]
          exact ⟨l[k], List.getElem_mem hlt, by simpa using fun h1 => by omega⟩
        have HBAD := hide hbad
        clear hbad
        by_cases h1 : (30 : Int) < (l[k].pars.length : Int)
        · have HE := hide (HBAD.out (by omega))
          go_wp2_with fail
          go_ret
          exact ⟨ret_bool HE.out.symm, bl w⟩
        · by_cases h2 : (100 : Int) < (l[k].name.length : Int)
          · have HE := hide (HBAD.out (by omega))
            go_wp2_with fail
            go_ret
            exact ⟨ret_bool HE.out.symm, bl w⟩
          · have HG : Hid (l[k].pars.length ≤ 30 ∧ l[k].name.length ≤ 100) := hide (by omega)
            go_wp2_with fail
            go_round
            case rel =>
              refine ⟨k + 1, by omega, by go_num, ?_⟩
              intro s hs
              rw [List.take_succ_eq_append_getElem hlt, List.mem_append, List.mem_singleton] at hs
              rcases hs with hs | rfl
              · exact hn s hs
              · exact HG.out
            case measure => simp [intOf]; omega
      · obtain rfl : k = l.length := by omega
        have HE : Hid (fewSg l = true) := hide (by
          have h := hn.out
          rw [List.take_length] at h
          unfold fewSg
          rw [decide_eq_true (by omega), Bool.true_and, List.all_eq_true]
          intro s hs
          have := h s hs
          simp [this.1, this.2])
        go_wp2_with fail
        go_ret
        exact ⟨ret_bool HE.out.symm, bl w⟩
theorem info_rsg : (Tryd.prog.info? 32).map (fun i => (i.zero, i.size, i.bytes)) = some (some (.agg #[.string ⟨#[]⟩, .slice none 0 0, .int .i64 0]), 3, 48) := by kernel_rfl
set_option maxRecDepth 20000 in
set_option maxHeartbeats 2000000 in
theorem refs12_any (l : List Sg) (a : Option Addr) (cap : Nat) (w : World) (hl : Sgs w l a cap) (hn : l.length ≤ 100000) :
    Calls Tryd.prog 9 #[.slice a l.length cap] w fun r w' => (∃ a' c', r = .returned (.slice a' l.length c') ∧ Sgs w' l a' c') ∧ Below w.heap.size w w' := by
  have hlen : l.length ≤ 9223372036854775807 := Nat.le_trans hl.len hl.cap
  have HL := hide hl
  obtain ⟨i0, hi, hz0, hz1, hz2⟩ := info_parts info_rsg
  clear hl
  go_enter Tryd.func9, Tryd.ntmps9
  go_wp2_with fail
  go_loopw [3, 4] (fun lv i wr => ∃ (k : Nat) (va : Option Addr) (vc : Nat), k ≤ l.length ∧ i = .int .i64 k ∧ lv = .slice va k vc ∧ Hid (OwnL wr w.heap.size 32 3 SgC [] (.slice va k vc) (l.take k)) ∧ Hid (Below w.heap.size w wr)) (fun _ i _ => l.length - (intOf i).toNat)
  case atStart => exact ⟨0, none, 0, Nat.zero_le _, rfl, rfl, hide (OwnL.nil _ _ _ _ _ _), bl _⟩
  case round =>
    obtain ⟨k, va, vc, hk, rfl, rfl, HO, HB⟩ := hrel
    by_cases hlt : k < l.length
    · obtain ⟨b, o, rfl⟩ := HL.out.addr (by omega)
      obtain ⟨pa, pc, c0, c1, c2, hi0⟩ := HL.out.at_ b o rfl k hlt
      have c0 := cell_keep c0 HB.out (Nat.le_refl _)
      have c1 := cell_keep c1 HB.out (Nat.le_refl _)
      have c2 := cell_keep c2 HB.out (Nat.le_refl _)
      have hbl := cell_lt c0
      simp only at hbl
      have hll : (l.take k).length = k := by simp; omega
      have HO2 := hide (HO.out.al SgC.mono (.cells #[.string ⟨l[k].name.toArray⟩, .slice pa l[k].pars.length pc, .int .i64 l[k].res] 32))
      have HB2 := hide (HB.out.al (.cells #[.string ⟨l[k].name.toArray⟩, .slice pa l[k].pars.length pc, .int .i64 l[k].res] 32))
      have HV2 : Hid (SgC (av ((Value.slice va k vc).ownBlock.toList ++ []) (wr.alloc (.cells #[.string ⟨l[k].name.toArray⟩, .slice pa l[k].pars.length pc, .int .i64 l[k].res] 32))) l[k] [.string ⟨l[k].name.toArray⟩, .slice pa l[k].pars.length pc, .int .i64 l[k].res]) := hide ⟨pa, pc, rfl, HL.out.wf _ (List.getElem_mem hlt), hi0.has ((has_new (fun g hg => by
        simp only [List.append_nil, Option.mem_toList] at hg
        exact (HO.out.lt g hg).1)).tr (has_av_below HB2.out))⟩
      have HMA : Hid ((l.take k).length + 1 ≤ maxLen) := hide (by rw [hll]; unfold maxLen; omega)
      have HMB : Hid (((l.take k).length + 1) * 48 ≤ 140737488355328) := hide (by rw [hll]; omega)
      have HNW := hide (news_row wr [.string ⟨l[k].name.toArray⟩, .slice pa l[k].pars.length pc, .int .i64 l[k].res] 32 wr.heap.size rfl)
      have HLEN : Hid ((l.take k ++ [l[k]]).length = k + 1) := hide (by rw [List.length_append, hll]; rfl)
      clear hll hi0
      go_wp2_with (at_builtin; refine wpList_push _ rfl _ _ 26 rfl w.heap.size 32 i0 _ 3 48 Tryd.underlying26 hi hz0 hz1 hz2 rfl (by decide) SgC SgC.mono [] _ (l.take k) rfl HO2.out ⟨wr.heap.size, 0, none⟩ 1 [.string ⟨l[k].name.toArray⟩, .slice pa l[k].pars.length pc, .int .i64 l[k].res] l[k] rfl rfl HNW.out (by simp [Value.oneCell']) HV2.out HMA.out HMB.out HB2.out.size ?_; intro v2 w2 hown2 hgrow2; obtain ⟨va2, vc2, he2, -, -⟩ := hown2.slice; rw [HLEN.out] at he2; subst he2)
      go_roundw
      case rel => exact ⟨k + 1, va2, vc2, by omega, by go_num, rfl, hide (by rw [List.take_succ_eq_append_getElem hlt]; exact hown2), HB2.out.grown hgrow2 HB2.out.size (fun g hg => (HO.out.lt g hg).1)⟩
      case measure => simp [intOf]; omega
    · obtain rfl : k = l.length := by omega
      go_wp2_with fail
      go_ret
      have ho := HO.out
      rw [List.take_length] at ho
      obtain ⟨a', c', he, hs⟩ := ho.sgs (by simp)
      cases he
      exact ⟨⟨va, vc, rfl, hs.has has_av⟩, HB.out⟩
end Go.Proofs.YtnkmbddjekepkaaDoor
