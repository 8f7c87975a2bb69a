/- SignsTwice returns true for every input, where the tables are laid: the walk. -/
import Derived.Test.YtnkmbddjekepkaaDoorSgV
import Derived.Deep.DeepCutAuto
namespace Go.Proofs.YtnkmbddjekepkaaDoor
open Go Go.RowKit
set_option linter.unusedSimpArgs false
set_option linter.unusedVariables false
set_option linter.unnecessarySimpa false
theorem src_fns {wr : World} {b o cap : Nat} {l : List Fn} (h : Fns wr l (some ⟨b, o, none⟩) cap) : ∃ xs, ∀ c, Src12 wr (some ⟨b, o, none⟩) c xs l := by
  have key : ∀ k, k ≤ l.length → ∃ xs : List Value, Cut 5 (FnC wr) (l.take k) xs ∧ ∀ j u, xs[j]? = some u → wr.cell? ⟨b, o + j, none⟩ = some u := by
    intro k
    induction k with
    | zero => exact fun _ => ⟨[], rfl, fun j u hu => by simp at hu⟩
    | succ k ih =>
      intro hk
      obtain ⟨xs, h1, h2⟩ := ih (by omega)
      obtain ⟨pp, pb, cp, cb, c0, c1, c2, c3, c4, hfw, hps, hrow⟩ := h.at_ b o rfl k (by omega)
      have hxl := h1.len
      rw [List.length_take, Nat.min_eq_left (by omega)] at hxl
      refine ⟨xs ++ [.string ⟨l[k].name.toArray⟩, .slice pp l[k].params.length cp, .int .i64 l[k].result, .slice pb l[k].body.length cb, .int .i64 l[k].count], ?_, fun j u hu => ?_⟩
      · rw [List.take_succ_eq_append_getElem (by omega)]
        exact h1.app (.one rfl ⟨pp, pb, cp, cb, rfl, hfw, hps, hrow⟩)
      · by_cases hj : j < xs.length
        · rw [List.getElem?_append_left hj] at hu
          exact h2 j u hu
        · rw [List.getElem?_append_right (by omega)] at hu
          obtain ⟨q, rfl⟩ : ∃ q, j = k * 5 + q := ⟨j - k * 5, by omega⟩
          rw [hxl, Nat.add_sub_cancel_left] at hu
          rw [← Nat.add_assoc]
          rcases q with _ | _ | _ | _ | _ | q
          · simp at hu; subst hu; exact c0
          · simp at hu; subst hu; exact c1
          · simp at hu; subst hu; exact c2
          · simp at hu; subst hu; exact c3
          · simp at hu; subst hu; exact c4
          · simp at hu
  obtain ⟨xs, h1, h2⟩ := key l.length (Nat.le_refl _)
  rw [List.take_length] at h1
  refine ⟨xs, fun c => ⟨(fun e => by cases e), fun W hW ad e j u hu => ?_, fn_one h1, fun W bans hW hb => h1.mono fun f c hfc => FnC.mono _ _ _ _ ((has_new hb).tr (has_av_below hW)) hfc⟩⟩
  cases e
  rw [Addr.add_lit]
  exact cell_keep (h2 j u hu) hW (Nat.le_refl _)
set_option maxRecDepth 20000 in
set_option maxHeartbeats 16000000 in
theorem SignsTwice_any (l : List Dr) (a : Option Addr) (cap : Nat) (n q x : Nat) (w : World) (hl : Drs w l a cap) (hn : n ≤ 255) (hq : q ≤ 255) (hx : x ≤ 255) (hT : Tab w) (hWd : Words w) :
    Calls Tryd.prog 5 #[.slice a l.length cap, .int .u8 (n : Nat), .int .u8 (q : Nat), .int .u8 (x : Nat)] w fun r w' => r = .returned (.bool true) ∧ Below w.heap.size w w' := by
  have hlen : l.length ≤ 9223372036854775807 := Nat.le_trans hl.len hl.cap
  have HT := hide hT
  have HWD := hide hWd
  by_cases q1 : (15 : Int) < (l.length : Int)
  · have HW := hide (bl w)
    clear hl hT hWd
    go_enter Tryd.func5, Tryd.ntmps5
    go_wp2_with fail
    refine (works12_any _ (HT.out.below HW.out) (HWD.out.below HW.out)).mono ?_
    rintro r w9 ⟨rfl, hb⟩
    have HW := hide (HW.out.tr hb)
    clear hb
    go_wp2_with fail
    go_ret
    exact ⟨rfl, HW.out⟩
  have HDI := hide (distinct_any l a cap n w hl hn)
  obtain ⟨hd1, hd2, hd3⟩ := dist_len l n
  have hdn := dist_nodup l n
  have hdo := @dist_ok l n
  have hdm := @dist_mainF l n
  generalize distM l n = L at *
  have hL16 : L.length ≤ 16 := by omega
  obtain ⟨kk, hkk⟩ : ∃ kk, kk = q % L.length := ⟨_, rfl⟩
  have hkL : kk < L.length := by rw [hkk]; exact Nat.mod_lt _ hd1
  have ek : ((q : Nat) : Int) % (L.length : Int) = (kk : Int) := by rw [hkk]; simp
  have HOF1 : Hid (∀ (b : Option Addr) (c : Nat) (W : World), Below w.heap.size w W → Fns W (L ++ [L[kk]]) b c → Calls Tryd.prog 19 #[.agg #[.slice b (L.length + 1) c]] W fun r w' => (∃ a' c', r = .returned (.tuple #[.slice a' 0 c', .int .i64 (L.length : Nat), .int .i64 11])) ∧ Below W.heap.size W w') := hide fun b c W hW hf => by
    have h := signsOf_any (L ++ [L[kk]]) b c W hf (hT.below hW)
    rw [signs_twice hdn (by omega) hdo hkL, List.length_append, List.length_singleton] at h
    refine h.mono ?_
    rintro r w' ⟨⟨a', c', rfl, _⟩, hb⟩
    exact ⟨⟨a', c', rfl⟩, hb⟩
  have HOF2 : Hid (∀ (b : Option Addr) (c : Nat) (W : World), Below w.heap.size w W → Fns W (lessUp L x L.length) b c → Calls Tryd.prog 19 #[.agg #[.slice b (lessUp L x L.length).length c]] W fun r w' => (∃ a' c', r = .returned (.tuple #[.slice a' 0 c', .int .i64 (-1), .int .i64 15])) ∧ Below W.heap.size W w') := hide fun b c W hW hf => by
    have h := signsOf_any (lessUp L x L.length) b c W hf (hT.below hW)
    rw [signs_less x hdn hd2 hdo hdm] at h
    refine h.mono ?_
    rintro r w' ⟨⟨a', c', rfl, _⟩, hb⟩
    exact ⟨⟨a', c', rfl⟩, hb⟩
  obtain ⟨i0, hi, hz0, hz1, hz2⟩ := info_parts info_fn
  have HMF := hide hdm
  clear hl hT hWd hd3 hdn hdo hdm hkk
  go_enter Tryd.func5, Tryd.ntmps5
  go_wp2_with fail
  (with_reducible refine HDI.out.mono ?_)
  rintro r wr ⟨⟨fa, fc, rfl, hf⟩, hb⟩
  obtain ⟨g, o, rfl⟩ := hf.addr (by omega)
  have hLl : L.length ≤ 9223372036854775807 := Nat.le_trans hf.len hf.cap
  have HW := hide hb
  have HL := hide hf
  obtain ⟨xs, hs1⟩ := src_fns hf
  have HS1 := hide (hs1 fc)
  obtain ⟨pp, pb, pc, cb, c0, c1, c2, c3, c4, hfw, hps, hrow⟩ := hf.at_ g o rfl kk hkL
  have HMC0 : Hid (FnC wr L[kk] [.string ⟨L[kk].name.toArray⟩, .slice pp L[kk].params.length pc, .int .i64 L[kk].result, .slice pb L[kk].body.length cb, .int .i64 L[kk].count]) := hide ⟨pp, pb, pc, cb, rfl, hfw, hps, hrow⟩
  obtain ⟨f0, hf0⟩ : ∃ f, f = L[kk] := ⟨_, rfl⟩
  rw [← hf0] at c0 c1 c2 c3 c4 HMC0
  have HF0 := hide hf0
  rw [← hf0] at HOF1
  have hgl := cell_lt c0
  simp only at hgl
  have hgl1 : g < wr.heap.size + 1 := by omega
  have hgn : ¬ g = wr.heap.size := by omega
  have hgn1 : ¬ g = wr.heap.size + 1 := by omega
  have hc1 : (0 : Int) ≤ (kk : Int) := by omega
  have hc2 : (kk : Int) < (L.length : Int) := by omega
  clear hf hb hs1 hfw hps hrow hf0 HDI
  have HX1 := hide ((((bl wr).al (.cells #[.string ⟨f0.name.toArray⟩, .slice pp f0.params.length pc, .int .i64 f0.result, .slice pb f0.body.length cb, .int .i64 f0.count] 53)).al (.cells #[] 53)).dr)
  have HX2 := hide ((((bl wr).al (.cells #[] 53)).al (.cells #[.string ⟨f0.name.toArray⟩, .slice pp f0.params.length pc, .int .i64 f0.result, .slice pb f0.body.length cb, .int .i64 f0.count] 53)).dr)
  have HX3 := hide (((bl wr).al (.cells #[] 53)).dr)
  have HE1 : Hid (OwnL ((wr.alloc (.cells #[.string ⟨f0.name.toArray⟩, .slice pp f0.params.length pc, .int .i64 f0.result, .slice pb f0.body.length cb, .int .i64 f0.count] 53)).alloc (.cells #[] 53)).drew wr.heap.size 53 5 FnC [] (.slice (some ⟨wr.heap.size + 1, 0, none⟩) 0 0) ([] : List Fn)) := hide (own_empty12 (by omega) (by
    show ((wr.alloc (.cells #[.string ⟨f0.name.toArray⟩, .slice pp f0.params.length pc, .int .i64 f0.result, .slice pb f0.body.length cb, .int .i64 f0.count] 53)).alloc (.cells #[] 53)).heap[wr.heap.size + 1]? = _
    have := heap_alloc_new (wr.alloc (.cells #[.string ⟨f0.name.toArray⟩, .slice pp f0.params.length pc, .int .i64 f0.result, .slice pb f0.body.length cb, .int .i64 f0.count] 53)) (.cells #[] 53)
    rw [World.size_alloc] at this
    exact this))
  have HE2 : Hid (OwnL ((wr.alloc (.cells #[] 53)).alloc (.cells #[.string ⟨f0.name.toArray⟩, .slice pp f0.params.length pc, .int .i64 f0.result, .slice pb f0.body.length cb, .int .i64 f0.count] 53)).drew wr.heap.size 53 5 FnC [] (.slice (some ⟨wr.heap.size, 0, none⟩) 0 0) ([] : List Fn)) := hide (own_empty12 (by omega) (by
    show ((wr.alloc (.cells #[] 53)).alloc (.cells #[.string ⟨f0.name.toArray⟩, .slice pp f0.params.length pc, .int .i64 f0.result, .slice pb f0.body.length cb, .int .i64 f0.count] 53)).heap[wr.heap.size]? = _
    rw [Below.heap_alloc _ _ _ (by simp)]
    exact heap_alloc_new _ _))
  have HE3 : Hid (OwnL (wr.alloc (.cells #[] 53)).drew wr.heap.size 53 5 FnC [] (.slice (some ⟨wr.heap.size, 0, none⟩) 0 0) ([] : List Fn)) := hide (own_empty12 (by omega) (heap_alloc_new _ _))
  have HM1 : Hid (((wr.alloc (.cells #[.string ⟨f0.name.toArray⟩, .slice pp f0.params.length pc, .int .i64 f0.result, .slice pb f0.body.length cb, .int .i64 f0.count] 53)).alloc (.cells #[] 53)).drew.heap[wr.heap.size]? = some (.cells #[.string ⟨f0.name.toArray⟩, .slice pp f0.params.length pc, .int .i64 f0.result, .slice pb f0.body.length cb, .int .i64 f0.count] 53 (0, 0))) := hide (by
    show ((wr.alloc (.cells #[.string ⟨f0.name.toArray⟩, .slice pp f0.params.length pc, .int .i64 f0.result, .slice pb f0.body.length cb, .int .i64 f0.count] 53)).alloc (.cells #[] 53)).heap[wr.heap.size]? = _
    rw [Below.heap_alloc _ _ _ (by simp)]
    exact heap_alloc_new _ _)
  have HM2 : Hid (((wr.alloc (.cells #[] 53)).alloc (.cells #[.string ⟨f0.name.toArray⟩, .slice pp f0.params.length pc, .int .i64 f0.result, .slice pb f0.body.length cb, .int .i64 f0.count] 53)).drew.heap[wr.heap.size + 1]? = some (.cells #[.string ⟨f0.name.toArray⟩, .slice pp f0.params.length pc, .int .i64 f0.result, .slice pb f0.body.length cb, .int .i64 f0.count] 53 (0, 0))) := hide (by
    show ((wr.alloc (.cells #[] 53)).alloc (.cells #[.string ⟨f0.name.toArray⟩, .slice pp f0.params.length pc, .int .i64 f0.result, .slice pb f0.body.length cb, .int .i64 f0.count] 53)).heap[wr.heap.size + 1]? = _
    have := heap_alloc_new (wr.alloc (.cells #[] 53)) (.cells #[.string ⟨f0.name.toArray⟩, .slice pp f0.params.length pc, .int .i64 f0.result, .slice pb f0.body.length cb, .int .i64 f0.count] 53)
    rw [World.size_alloc] at this
    exact this)
  have HSA := hide fun (W : World) (o : Obj) (h : wr.heap.size ≤ W.heap.size) => (show wr.heap.size ≤ (W.alloc o).heap.size by simp; omega)
  have HOM : Hid (∀ u ∈ ([.string ⟨f0.name.toArray⟩, .slice pp f0.params.length pc, .int .i64 f0.result, .slice pb f0.body.length cb, .int .i64 f0.count] : List Value), u.oneCell' = true) := hide (by simp [Value.oneCell'])
  have HB1 : Hid (∀ b ∈ (Value.slice (some ⟨wr.heap.size + 1, 0, none⟩) 0 0).ownBlock.toList ++ [], wr.heap.size ≤ b) := hide (by simp [Value.ownBlock])
  have HB2 : Hid (∀ b ∈ (Value.slice (some ⟨wr.heap.size, 0, none⟩) 0 0).ownBlock.toList ++ [], wr.heap.size ≤ b) := hide (by simp [Value.ownBlock])
  have HG1 : Hid (∀ k, (Value.slice (some ⟨wr.heap.size + 1, 0, none⟩) 0 0).ownBlock = some k → wr.heap.size ≤ k) := hide (by simp [Value.ownBlock])
  have HG2 : Hid (∀ k, (Value.slice (some ⟨wr.heap.size, 0, none⟩) 0 0).ownBlock = some k → wr.heap.size ≤ k) := hide (by simp [Value.ownBlock])
  have HMA1 : Hid (([] : List Fn).length + L.length ≤ maxLen) := hide (by unfold maxLen; simp; omega)
  have HMB1 : Hid ((([] : List Fn).length + L.length) * 80 ≤ 140737488355328) := hide (by simp; omega)
  have HMA2 : Hid (L.length + 1 ≤ maxLen) := hide (by unfold maxLen; omega)
  have HMB2 : Hid ((L.length + 1) * 80 ≤ 140737488355328) := hide (by omega)
  have HMC : Hid (∀ W bans, Below wr.heap.size wr W → (∀ b ∈ bans, wr.heap.size ≤ b) → FnC (av bans W) f0 [.string ⟨f0.name.toArray⟩, .slice pp f0.params.length pc, .int .i64 f0.result, .slice pb f0.body.length cb, .int .i64 f0.count]) := hide fun W bans hW hb => FnC.mono _ _ _ _ ((has_new hb).tr (has_av_below hW)) HMC0.out
  have HFIN : Hid (∀ (v7 : Value) (w7 : World), OwnL w7 wr.heap.size 53 5 FnC [] v7 (L ++ [f0]) → ∃ a' c', v7 = .slice a' (L.length + 1) c' ∧ Fns w7 (L ++ [f0]) a' c') := hide fun v7 w7 h => by
    obtain ⟨a', c', he, hf⟩ := h.fns (by simp)
    rw [List.length_append, List.length_singleton] at he
    exact ⟨a', c', he, hf.has has_av⟩
  go_upto_region 5 with fail
  rw [ek]
  go_cut [11] (fun s11 wx => ∃ (va : Option Addr) (vc : Nat), s11 = .slice va (L.length + 1) vc ∧ Hid (Fns wx (L ++ [f0]) va vc) ∧ Hid (Below wr.heap.size wr wx))
  case first =>
    go_region_law
      (first
        | (refine step_pushes _ (by rfl) _ _ 44 (by rfl) wr.heap.size 53 i0 _ 5 80 Tryd.underlying44 hi hz0 hz1 hz2 (by rfl) (Nat.succ_pos _) FnC FnC.mono [] _ ([] : List Fn) (by rfl) HE1.out _ L.length fc xs L rfl (by rfl) HS1.out.nil (HS1.out.cell _ HX1.out) HS1.out.one (HS1.out.cut _ _ HX1.out HB1.out) HMA1.out HMB1.out HX1.out.size ?_; intro v5 w5 hown5 hgrow5; have HO5 := hide hown5; have HW5 := hide (HX1.out.grown hgrow5 HX1.out.size HG1.out); have HN5 := hide (World.news_of_block ((hgrow5.block wr.heap.size (by simp <;> omega) (fun e => by simp [Value.ownBlock] at e)).trans HM1.out)); clear hown5 hgrow5)
        | (refine step_pushes _ (by rfl) _ _ 44 (by rfl) wr.heap.size 53 i0 _ 5 80 Tryd.underlying44 hi hz0 hz1 hz2 (by rfl) (Nat.succ_pos _) FnC FnC.mono [] _ ([] : List Fn) (by rfl) HE2.out _ L.length fc xs L rfl (by rfl) HS1.out.nil (HS1.out.cell _ HX2.out) HS1.out.one (HS1.out.cut _ _ HX2.out HB2.out) HMA1.out HMB1.out HX2.out.size ?_; intro v5 w5 hown5 hgrow5; have HO5 := hide hown5; have HW5 := hide (HX2.out.grown hgrow5 HX2.out.size HG2.out); have HN5 := hide (World.news_of_block ((hgrow5.block (wr.heap.size + 1) (by simp <;> omega) (fun e => by simp [Value.ownBlock] at e)).trans HM2.out)); clear hown5 hgrow5)
        | (refine step_pushes _ (by rfl) _ _ 44 (by rfl) wr.heap.size 53 i0 _ 5 80 Tryd.underlying44 hi hz0 hz1 hz2 (by rfl) (Nat.succ_pos _) FnC FnC.mono [] _ ([] : List Fn) (by rfl) HE3.out _ L.length fc xs L rfl (by rfl) HS1.out.nil (HS1.out.cell _ HX3.out) HS1.out.one (HS1.out.cut _ _ HX3.out HB2.out) HMA1.out HMB1.out HX3.out.size ?_; intro v5 w5 hown5 hgrow5; have HO5 := hide hown5; have HW5 := hide (HX3.out.grown hgrow5 HX3.out.size HG2.out); have c0 := cell_keep c0 HW5.out (Nat.le_refl _); have c1 := cell_keep c1 HW5.out (Nat.le_refl _); have c2 := cell_keep c2 HW5.out (Nat.le_refl _); have c3 := cell_keep c3 HW5.out (Nat.le_refl _); have c4 := cell_keep c4 HW5.out (Nat.le_refl _); have hg5 := Nat.lt_of_lt_of_le hgl HW5.out.size; clear hown5 hgrow5)
        | (refine step_push _ (by rfl) _ _ 44 (by rfl) wr.heap.size 53 i0 _ 5 80 Tryd.underlying44 hi hz0 hz1 hz2 (by rfl) (Nat.succ_pos _) FnC FnC.mono [] v5 L (by rfl) HO5.out _ 1 [.string ⟨f0.name.toArray⟩, .slice pp f0.params.length pc, .int .i64 f0.result, .slice pb f0.body.length cb, .int .i64 f0.count] f0 (by rfl) (by rfl) HN5.out HOM.out (HMC.out _ _ HW5.out (own_bans HO5.out)) HMA2.out HMB2.out HW5.out.size ?_; intro v6 w6 hown6 hgrow6; have HW6 := hide (HW5.out.grown hgrow6 HW5.out.size (fun k hk => (HO5.out.lt k hk).1)); obtain ⟨va7, vc7, rfl, hf7⟩ := HFIN.out _ _ hown6; have HF7 := hide hf7; clear hown6 hgrow6 hf7)
        | (refine step_push _ (by rfl) _ _ 44 (by rfl) wr.heap.size 53 i0 _ 5 80 Tryd.underlying44 hi hz0 hz1 hz2 (by rfl) (Nat.succ_pos _) FnC FnC.mono [] v5 L (by rfl) (HO5.out.al FnC.mono _) _ 1 [.string ⟨f0.name.toArray⟩, .slice pp f0.params.length pc, .int .i64 f0.result, .slice pb f0.body.length cb, .int .i64 f0.count] f0 (by rfl) (by rfl) (news_row w5 [.string ⟨f0.name.toArray⟩, .slice pp f0.params.length pc, .int .i64 f0.result, .slice pb f0.body.length cb, .int .i64 f0.count] 53 w5.heap.size rfl) HOM.out (HMC.out _ _ (HW5.out.al _) (own_bans HO5.out)) HMA2.out HMB2.out (HSA.out _ _ HW5.out.size) ?_; intro v6 w6 hown6 hgrow6; have HW6 := hide ((HW5.out.al (.cells #[.string ⟨f0.name.toArray⟩, .slice pp f0.params.length pc, .int .i64 f0.result, .slice pb f0.body.length cb, .int .i64 f0.count] 53)).grown hgrow6 (HSA.out _ _ HW5.out.size) (fun k hk => (HO5.out.lt k hk).1)); obtain ⟨va7, vc7, rfl, hf7⟩ := HFIN.out _ _ hown6; have HF7 := hide hf7; clear hown6 hgrow6 hf7))
    all_goals
      go_wp2_with fail
      (try simp only [Act.put, List.getElem_toArray, List.getElem_cons_succ, List.getElem_cons_zero, List.setIfInBounds_toArray, List.set_cons_zero, List.set_cons_succ])
      go_meet
      case rel => exact ⟨va7, vc7, rfl, HF7.out, HW6.out⟩
  case rest =>
    obtain ⟨va, vc, rfl, HF7, HB⟩ := hcut
    have HW := hide (HW.out.tr HB.out)
    have HL := hide (HL.out.has (has_below HB.out))
    clear HE1 HE2 HE3 HM1 HM2 HSA HOM HB1 HB2 HG1 HG2 HX1 HX2 HX3 HS1 HMC HMC0 HFIN c0 c1 c2 c3 c4 HB HMA1 HMB1 HMA2 HMB2 hgl hgl1 hgn hgn1
    go_wp2_with fail
    (with_reducible refine (HOF1.out _ _ _ HW.out HF7.out).mono ?_)
    rintro r w2 ⟨⟨a2, c2, rfl⟩, hb⟩
    have HW := hide (HW.out.tr hb)
    have HL := hide (HL.out.has (has_below hb))
    have hne : ((L.length : Int) != (L.length : Int)) = false := by simp
    clear hb HF7 HOF1
    go_wp2_with fail
    go_loopw [15, 16] (fun lv i wr => ∃ (k : Nat) (va : Option Addr) (vc : Nat), k ≤ L.length ∧ i = .int .i64 k ∧ lv = .slice va (lessUp L x k).length vc ∧ Hid (OwnL wr w2.heap.size 53 5 FnC [] (.slice va (lessUp L x k).length vc) (lessUp L x k)) ∧ Hid (Below w2.heap.size w2 wr)) (fun _ i _ => L.length - (intOf i).toNat)
    case atStart => exact ⟨0, none, 0, Nat.zero_le _, rfl, rfl, hide (OwnL.nil _ _ _ _ _ _), bl _⟩
    case round =>
      obtain ⟨k, va, vc, hk, rfl, rfl, HO, HB⟩ := hrel
      have hll := lessUp_len L x k
      by_cases hlt : k < L.length
      · obtain ⟨pp, pb, pc, cb, c0, c1, c2, c3, c4, hfw, hps, hrow⟩ := HL.out.at_ g o rfl k hlt
        have HVK : Hid (∀ W, Below w2.heap.size w2 W → ∀ bans, (∀ b ∈ bans, w2.heap.size ≤ b) → FnC (av bans W) L[k] [.string ⟨L[k].name.toArray⟩, .slice pp L[k].params.length pc, .int .i64 L[k].result, .slice pb L[k].body.length cb, .int .i64 L[k].count]) := hide fun W hW bans hb => FnC.mono _ _ _ _ ((has_new hb).tr (has_av_below hW)) ⟨pp, pb, pc, cb, rfl, hfw, hps, hrow⟩
        have c0 := cell_keep c0 HB.out (Nat.le_refl _)
        have c1 := cell_keep c1 HB.out (Nat.le_refl _)
        have c2 := cell_keep c2 HB.out (Nat.le_refl _)
        have c3 := cell_keep c3 HB.out (Nat.le_refl _)
        have c4 := cell_keep c4 HB.out (Nat.le_refl _)
        have hgl := cell_lt c0
        simp only at hgl
        have HLS := hide (lessUp_succ (q := x) hlt)
        have HMA : Hid ((lessUp L x k).length + 1 ≤ maxLen) := hide (by unfold maxLen; omega)
        have HMB : Hid (((lessUp L x k).length + 1) * 80 ≤ 140737488355328) := hide (by omega)
        clear hfw hps hrow
        by_cases hmn : L[k].name = mainB
        · have hfm := HMF.out L[k] (List.getElem_mem hlt) hmn
          rw [hfm] at c0 c1 c2 c3 c4 HVK HLS
          replace c0 : wr.cell? ⟨g, o + k * 5, none⟩ = some (.string ⟨#[109, 97, 105, 110]⟩) := c0
          replace c1 : wr.cell? ⟨g, o + k * 5 + 1, none⟩ = some (.slice pp 0 pc) := c1
          replace c2 : wr.cell? ⟨g, o + k * 5 + 2, none⟩ = some (.int .i64 0) := c2
          replace c3 : wr.cell? ⟨g, o + k * 5 + 3, none⟩ = some (.slice pb 0 cb) := c3
          replace c4 : wr.cell? ⟨g, o + k * 5 + 4, none⟩ = some (.int .i64 0) := c4
          clear hmn hfm
          obtain ⟨v, hv⟩ : ∃ v, v = x / 3 % 3 := ⟨_, rfl⟩
          have hv3 : v < 3 := by omega
          have ev : (x : Int) / 3 % 3 = (v : Int) := by omega
          rcases (by omega : x % 3 = 0 ∨ x % 3 = 1 ∨ x % 3 = 2) with hq0 | hq0 | hq0
          · have hqi : (x : Int) % 3 = 0 := by omega
            have HE : Hid (lessUp L x (k + 1) = lessUp L x k) := hide (by rw [HLS.out]; simp [lessOne, mainF, hq0])
            clear hq0 hv
            go_wp2_with fail
            go_roundw
            case rel => exact ⟨k + 1, va, vc, by omega, by go_num, by rw [HE.out], by rw [HE.out]; exact HO.out.al FnC.mono _, HB.out.al _⟩
            case measure => simp [intOf]; omega
          · have hqi : (x : Int) % 3 = 1 := by omega
            have HE : Hid (lessUp L x (k + 1) = lessUp L x k ++ [{ mainF with result := 1 + (v : Int) }]) := hide (by rw [HLS.out, hv]; simp [lessOne, mainF, hq0])
            have HO2 := hide ((HO.out.al FnC.mono (.cells #[.string ⟨#[109, 97, 105, 110]⟩, .slice pp 0 pc, .int .i64 (1 + (v : Int)), .slice pb 0 cb, .int .i64 0] 53)).al FnC.mono (.cells #[.string ⟨#[109, 97, 105, 110]⟩, .slice pp 0 pc, .int .i64 (1 + (v : Int)), .slice pb 0 cb, .int .i64 0] 53))
            have HB2 := hide ((HB.out.al (.cells #[.string ⟨#[109, 97, 105, 110]⟩, .slice pp 0 pc, .int .i64 (1 + (v : Int)), .slice pb 0 cb, .int .i64 0] 53)).al (.cells #[.string ⟨#[109, 97, 105, 110]⟩, .slice pp 0 pc, .int .i64 (1 + (v : Int)), .slice pb 0 cb, .int .i64 0] 53))
            have HV2 : Hid (FnC (av ((Value.slice va (lessUp L x k).length vc).ownBlock.toList ++ []) ((wr.alloc (.cells #[.string ⟨#[109, 97, 105, 110]⟩, .slice pp 0 pc, .int .i64 (1 + (v : Int)), .slice pb 0 cb, .int .i64 0] 53)).alloc (.cells #[.string ⟨#[109, 97, 105, 110]⟩, .slice pp 0 pc, .int .i64 (1 + (v : Int)), .slice pb 0 cb, .int .i64 0] 53))) { mainF with result := 1 + (v : Int) } [.string ⟨#[109, 97, 105, 110]⟩, .slice pp 0 pc, .int .i64 (1 + (v : Int)), .slice pb 0 cb, .int .i64 0]) := hide (by
              have h := HVK.out _ HB2.out ((Value.slice va (lessUp L x k).length vc).ownBlock.toList ++ []) (fun b hb => by
  simp only [List.append_nil, Option.mem_toList] at hb
  exact (HO.out.lt b hb).1)
              obtain ⟨pp', pb', pc', cb', e, hfw, hps, hrow⟩ := h
              simp only [List.cons.injEq, Value.slice.injEq, and_true, true_and] at e
              obtain ⟨⟨rfl, rfl⟩, rfl, rfl⟩ := e
              exact ⟨pp, pb, pc, cb, rfl, ⟨hfw.s, by unfold I64; simp only; omega, hfw.lb, hfw.cb, hfw.c⟩, hps, hrow⟩)
            have HNW := hide (news_row (wr.alloc (.cells #[.string ⟨#[109, 97, 105, 110]⟩, .slice pp 0 pc, .int .i64 (1 + (v : Int)), .slice pb 0 cb, .int .i64 0] 53)) [.string ⟨#[109, 97, 105, 110]⟩, .slice pp 0 pc, .int .i64 (1 + (v : Int)), .slice pb 0 cb, .int .i64 0] 53 (wr.heap.size + 1) (by simp))
            have HLEN : Hid ((lessUp L x k ++ [({ mainF with result := 1 + (v : Int) } : Fn)]).length = (lessUp L x k).length + 1) := hide (by simp)
            have HLN1 : Hid ((lessUp L x (k + 1)).length = (lessUp L x k).length + 1) := hide (by rw [HE.out]; simp)
            clear hq0 hv
            go_wp2_with (at_builtin; refine wpList_push _ rfl _ _ 44 rfl w2.heap.size 53 i0 _ 5 80 Tryd.underlying44 hi hz0 hz1 hz2 rfl (by decide) FnC FnC.mono [] _ (lessUp L x k) rfl HO2.out ⟨wr.heap.size + 1, 0, none⟩ 1 [.string ⟨#[109, 97, 105, 110]⟩, .slice pp 0 pc, .int .i64 (1 + (v : Int)), .slice pb 0 cb, .int .i64 0] { mainF with result := 1 + (v : Int) } rfl rfl HNW.out (by simp [Value.oneCell']) HV2.out HMA.out HMB.out HB2.out.size ?_; intro v4 w4 hown4 hgrow4; obtain ⟨va4, vc4, he4, -, -⟩ := hown4.slice; rw [HLEN.out] at he4; subst he4)
            go_roundw
            case rel => exact ⟨k + 1, va4, vc4, by omega, by go_num, by rw [HLN1.out], by rw [HLN1.out]; exact hide (by rw [HE.out]; exact hown4), HB2.out.grown hgrow4 HB2.out.size (fun g hg => (HO.out.lt g hg).1)⟩
            case measure => simp [intOf]; omega
          · have hqi : (x : Int) % 3 = 2 := by omega
            have HE : Hid (lessUp L x (k + 1) = lessUp L x k ++ [{ mainF with params := [⟨[97], 1 + (v : Int)⟩] }]) := hide (by rw [HLS.out, hv]; simp [lessOne, mainF, hq0])
            have HO2 := hide (((HO.out.al FnC.mono (.cells #[.string ⟨#[109, 97, 105, 110]⟩, .slice (some ⟨wr.heap.size + 1, 0, none⟩) 1 1, .int .i64 0, .slice pb 0 cb, .int .i64 0] 53)).al FnC.mono (.cells #[.string ⟨#[97]⟩, .int .i64 (1 + (v : Int))] 55)).al FnC.mono (.cells #[.string ⟨#[109, 97, 105, 110]⟩, .slice (some ⟨wr.heap.size + 1, 0, none⟩) 1 1, .int .i64 0, .slice pb 0 cb, .int .i64 0] 53))
            have HB2 := hide (((HB.out.al (.cells #[.string ⟨#[109, 97, 105, 110]⟩, .slice (some ⟨wr.heap.size + 1, 0, none⟩) 1 1, .int .i64 0, .slice pb 0 cb, .int .i64 0] 53)).al (.cells #[.string ⟨#[97]⟩, .int .i64 (1 + (v : Int))] 55)).al (.cells #[.string ⟨#[109, 97, 105, 110]⟩, .slice (some ⟨wr.heap.size + 1, 0, none⟩) 1 1, .int .i64 0, .slice pb 0 cb, .int .i64 0] 53))
            have HV2 : Hid (FnC (av ((Value.slice va (lessUp L x k).length vc).ownBlock.toList ++ []) (((wr.alloc (.cells #[.string ⟨#[109, 97, 105, 110]⟩, .slice (some ⟨wr.heap.size + 1, 0, none⟩) 1 1, .int .i64 0, .slice pb 0 cb, .int .i64 0] 53)).alloc (.cells #[.string ⟨#[97]⟩, .int .i64 (1 + (v : Int))] 55)).alloc (.cells #[.string ⟨#[109, 97, 105, 110]⟩, .slice (some ⟨wr.heap.size + 1, 0, none⟩) 1 1, .int .i64 0, .slice pb 0 cb, .int .i64 0] 53))) { mainF with params := [⟨[97], 1 + (v : Int)⟩] } [.string ⟨#[109, 97, 105, 110]⟩, .slice (some ⟨wr.heap.size + 1, 0, none⟩) 1 1, .int .i64 0, .slice pb 0 cb, .int .i64 0]) := hide (by
              have h := HVK.out _ HB2.out ((Value.slice va (lessUp L x k).length vc).ownBlock.toList ++ []) (fun b hb => by
  simp only [List.append_nil, Option.mem_toList] at hb
  exact (HO.out.lt b hb).1)
              obtain ⟨pp', pb', pc', cb', e, hfw, hps, hrow⟩ := h
              simp only [List.cons.injEq, Value.slice.injEq, and_true, true_and] at e
              obtain ⟨⟨rfl, rfl⟩, rfl, rfl⟩ := e
              refine ⟨some ⟨wr.heap.size + 1, 0, none⟩, pb, 1, cb, rfl, ⟨hfw.s, hfw.r, hfw.lb, hfw.cb, hfw.c⟩, ⟨Nat.le_refl _, by decide, fun _ => ⟨_, _, rfl⟩, fun b o e i hi => ?_, ?_⟩, hrow⟩
              · cases e
                obtain rfl : i = 0 := by simp at hi; omega
                have hnm : wr.heap.size + 1 ∉ (Value.slice va (lessUp L x k).length vc).ownBlock.toList ++ [] := by
                  intro hb
                  simp only [List.append_nil, Option.mem_toList] at hb
                  have := (HO.out.lt _ hb).2
                  omega
                have h0 := cell_of_list (wr.alloc (.cells #[.string ⟨#[109, 97, 105, 110]⟩, .slice (some ⟨wr.heap.size + 1, 0, none⟩) 1 1, .int .i64 0, .slice pb 0 cb, .int .i64 0] 53)) [.string ⟨#[97]⟩, .int .i64 (1 + (v : Int))] 55 0 _ rfl
                have h1 := cell_of_list (wr.alloc (.cells #[.string ⟨#[109, 97, 105, 110]⟩, .slice (some ⟨wr.heap.size + 1, 0, none⟩) 1 1, .int .i64 0, .slice pb 0 cb, .int .i64 0] 53)) [.string ⟨#[97]⟩, .int .i64 (1 + (v : Int))] 55 1 _ rfl
                rw [World.size_alloc] at h0 h1
                exact ⟨av_mk (cell_keep h0 ((bl _).al (.cells #[.string ⟨#[109, 97, 105, 110]⟩, .slice (some ⟨wr.heap.size + 1, 0, none⟩) 1 1, .int .i64 0, .slice pb 0 cb, .int .i64 0] 53)) (Nat.le_refl _)) hnm, av_mk (cell_keep h1 ((bl _).al (.cells #[.string ⟨#[109, 97, 105, 110]⟩, .slice (some ⟨wr.heap.size + 1, 0, none⟩) 1 1, .int .i64 0, .slice pb 0 cb, .int .i64 0] 53)) (Nat.le_refl _)) hnm⟩
              · intro p hp
                simp only [List.mem_cons, List.not_mem_nil, or_false] at hp
                subst hp
                exact ⟨by show ([97] : Bytes).length ≤ maxLen; decide, by unfold I64; simp only; omega⟩)
            have HNW := hide (news_row ((wr.alloc (.cells #[.string ⟨#[109, 97, 105, 110]⟩, .slice (some ⟨wr.heap.size + 1, 0, none⟩) 1 1, .int .i64 0, .slice pb 0 cb, .int .i64 0] 53)).alloc (.cells #[.string ⟨#[97]⟩, .int .i64 (1 + (v : Int))] 55)) [.string ⟨#[109, 97, 105, 110]⟩, .slice (some ⟨wr.heap.size + 1, 0, none⟩) 1 1, .int .i64 0, .slice pb 0 cb, .int .i64 0] 53 (wr.heap.size + 1 + 1) (by simp))
            have HLEN : Hid ((lessUp L x k ++ [({ mainF with params := [⟨[97], 1 + (v : Int)⟩] } : Fn)]).length = (lessUp L x k).length + 1) := hide (by simp)
            have HLN1 : Hid ((lessUp L x (k + 1)).length = (lessUp L x k).length + 1) := hide (by rw [HE.out]; simp)
            clear hq0 hv
            go_wp2_with (at_builtin; refine wpList_push _ rfl _ _ 44 rfl w2.heap.size 53 i0 _ 5 80 Tryd.underlying44 hi hz0 hz1 hz2 rfl (by decide) FnC FnC.mono [] _ (lessUp L x k) rfl HO2.out ⟨wr.heap.size + 1 + 1, 0, none⟩ 1 [.string ⟨#[109, 97, 105, 110]⟩, .slice (some ⟨wr.heap.size + 1, 0, none⟩) 1 1, .int .i64 0, .slice pb 0 cb, .int .i64 0] { mainF with params := [⟨[97], 1 + (v : Int)⟩] } rfl rfl HNW.out (by simp [Value.oneCell']) HV2.out HMA.out HMB.out HB2.out.size ?_; intro v4 w4 hown4 hgrow4; obtain ⟨va4, vc4, he4, -, -⟩ := hown4.slice; rw [HLEN.out] at he4; subst he4)
            go_roundw
            case rel => exact ⟨k + 1, va4, vc4, by omega, by go_num, by rw [HLN1.out], by rw [HLN1.out]; exact hide (by rw [HE.out]; exact hown4), HB2.out.grown hgrow4 HB2.out.size (fun g hg => (HO.out.lt g hg).1)⟩
            case measure => simp [intOf]; omega
        · have HE : Hid (lessUp L x (k + 1) = lessUp L x k ++ [L[k]]) := hide (by rw [HLS.out]; simp [lessOne, hmn])
          have g1 : (L[k].name == mainB) = false := by simpa using hmn
          have g2 : decide (L[k].name = mainB) = false := decide_eq_false hmn
          have g3 : (L[k].name == [109, 97, 105, 110]) = false := g1
          have g4 : decide (L[k].name = [109, 97, 105, 110]) = false := g2
          have g5 : ¬ L[k].name = [109, 97, 105, 110] := hmn
          have HO2 := hide (HO.out.al FnC.mono (.cells #[.string ⟨L[k].name.toArray⟩, .slice pp L[k].params.length pc, .int .i64 L[k].result, .slice pb L[k].body.length cb, .int .i64 L[k].count] 53))
          have HB2 := hide (HB.out.al (.cells #[.string ⟨L[k].name.toArray⟩, .slice pp L[k].params.length pc, .int .i64 L[k].result, .slice pb L[k].body.length cb, .int .i64 L[k].count] 53))
          have HV2 := hide (HVK.out _ HB2.out ((Value.slice va (lessUp L x k).length vc).ownBlock.toList ++ []) (fun b hb => by
  simp only [List.append_nil, Option.mem_toList] at hb
  exact (HO.out.lt b hb).1))
          have HNW := hide (news_row wr [.string ⟨L[k].name.toArray⟩, .slice pp L[k].params.length pc, .int .i64 L[k].result, .slice pb L[k].body.length cb, .int .i64 L[k].count] 53 wr.heap.size rfl)
          have HLEN : Hid ((lessUp L x k ++ [L[k]]).length = (lessUp L x k).length + 1) := hide (by simp)
          have HLN1 : Hid ((lessUp L x (k + 1)).length = (lessUp L x k).length + 1) := hide (by rw [HE.out]; simp)
          clear hmn
          go_wp2_with (at_builtin; refine wpList_push _ rfl _ _ 44 rfl w2.heap.size 53 i0 _ 5 80 Tryd.underlying44 hi hz0 hz1 hz2 rfl (by decide) FnC FnC.mono [] _ (lessUp L x k) rfl HO2.out ⟨wr.heap.size, 0, none⟩ 1 [.string ⟨L[k].name.toArray⟩, .slice pp L[k].params.length pc, .int .i64 L[k].result, .slice pb L[k].body.length cb, .int .i64 L[k].count] L[k] rfl rfl HNW.out (by simp [Value.oneCell']) HV2.out HMA.out HMB.out HB2.out.size ?_; intro v4 w4 hown4 hgrow4; obtain ⟨va4, vc4, he4, -, -⟩ := hown4.slice; rw [HLEN.out] at he4; subst he4)
          go_roundw
          case rel => exact ⟨k + 1, va4, vc4, by omega, by go_num, by rw [HLN1.out], by rw [HLN1.out]; exact hide (by rw [HE.out]; exact hown4), HB2.out.grown hgrow4 HB2.out.size (fun g hg => (HO.out.lt g hg).1)⟩
          case measure => simp [intOf]; omega
      · obtain rfl : k = L.length := by omega
        obtain ⟨a9, c9, he, hf⟩ := HO.out.fns (by simp)
        cases he
        have HF9 := hide (hf.has has_av)
        have HW := hide (HW.out.tr HB.out)
        clear hf
        go_wp2_with fail
        (with_reducible refine (HOF2.out _ _ _ HW.out HF9.out).mono ?_)
        rintro r w3 ⟨⟨a3, c3, rfl⟩, hb⟩
        have HW := hide (HW.out.tr hb)
        clear hb
        go_wp2_with fail
        refine (works12_any _ (HT.out.below HW.out) (HWD.out.below HW.out)).mono ?_
        rintro r w9 ⟨rfl, hb⟩
        have HW := hide (HW.out.tr hb)
        clear hb
        go_wp2_with fail
        go_ret
        exact ⟨rfl, HW.out⟩
end Go.Proofs.YtnkmbddjekepkaaDoor
