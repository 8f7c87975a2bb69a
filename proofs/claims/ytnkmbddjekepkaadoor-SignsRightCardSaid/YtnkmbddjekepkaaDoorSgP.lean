/- The examples of chapter 12: rewindlaw12.works answers true, where the tables are laid. -/
import Derived.Test.YtnkmbddjekepkaaDoorSgO
import Derived.Test.YtnkmbddjekepkaaDoorSgK
namespace Go.Proofs.YtnkmbddjekepkaaDoor
open Go Go.RowKit
set_option linter.unusedSimpArgs false
set_option linter.unusedVariables false
set_option linter.unnecessarySimpa false
theorem cutF {V : Fn → List Value → Prop} {a : Fn} {l : List Fn} {v0 v1 v2 v3 v4 : Value} {xs : List Value} (h : V a [v0, v1, v2, v3, v4]) (k : Cut 5 V l xs) : Cut 5 V (a :: l) (v0 :: v1 :: v2 :: v3 :: v4 :: xs) := ⟨[v0, v1, v2, v3, v4], xs, rfl, rfl, h, k⟩
theorem cutE {V : Fn → List Value → Prop} : Cut 5 V [] [] := rfl
/-- A new row of functions. -/
theorem fns_new12 {w : World} {l : List Fn} {xs : List Value} (h : Cut 5 (FnC w) l xs) (t : TypeId) (n cap : Nat) (hn : n = w.heap.size) (h1 : l.length ≤ cap) (h2 : cap ≤ maxLen) : Fns (w.alloc (.cells xs.toArray t)) l (some ⟨n, 0, none⟩) cap := by
  subst hn
  refine ⟨h1, h2, fun _ => ⟨_, _, rfl⟩, fun b o e i hi => ?_⟩
  simp only [Option.some.injEq, Addr.mk.injEq, and_true] at e
  obtain ⟨rfl, rfl⟩ := e
  obtain ⟨c, ⟨pp, pb, cp, cb, rfl, hw, hp, hr⟩, _, hx⟩ := h.get i hi
  have key : ∀ (j : Nat) (v : Value), j < 5 → [Value.string ⟨l[i].name.toArray⟩, .slice pp l[i].params.length cp, .int .i64 l[i].result, .slice pb l[i].body.length cb, .int .i64 l[i].count][j]? = some v → (w.alloc (.cells xs.toArray t)).cell? ⟨w.heap.size, 0 + i * 5 + j, none⟩ = some v := fun j v hj hv => by
    rw [Nat.zero_add]
    exact cell_of_list w xs t _ _ ((hx j hj).trans hv)
  have hb := has_below ((bl w).al (.cells xs.toArray t))
  exact ⟨pp, pb, cp, cb, key 0 _ (by omega) rfl, key 1 _ (by omega) rfl, key 2 _ (by omega) rfl, key 3 _ (by omega) rfl, key 4 _ (by omega) rfl, hw, hp.has hb, hr.has hb⟩
theorem effC {w : World} {a : Option Addr} (h : Pms w effF.params a 2) : FnC w effF [.string ⟨#[102]⟩, .slice a 2 2, .int .i64 2, .slice none 0 0, .int .i64 0] :=
  ⟨a, none, 2, 0, rfl, ⟨by decide, by unfold I64; decide, Nat.le_refl _, Nat.zero_le _, by unfold I64; decide⟩, h, trivial⟩
theorem mainC (w : World) : FnC w mainF [.string ⟨mainB.toArray⟩, .slice none 0 0, .int .i64 0, .slice none 0 0, .int .i64 0] :=
  ⟨none, none, 0, 0, rfl, ⟨by decide, by unfold I64; decide, Nat.le_refl _, Nat.zero_le _, by unfold I64; decide⟩, ⟨Nat.le_refl _, Nat.zero_le _, by simp [mainF], (fun b o e => by cases e), by simp [mainF]⟩, trivial⟩
theorem ok_eff : fnOk effF = true ∧ fnNums effF = true := by decide +kernel
theorem ok_main : fnOk mainF = true ∧ fnNums mainF = true := by decide +kernel
theorem signs_ex1 : signsOfM [effF, mainF] = ([sgOf effF, sgOf mainF], 0, 0) := by
  unfold signsOfM
  rw [if_pos (by unfold checkM; rw [if_pos]; refine ⟨by decide, ?_⟩; intro f hf; simp only [List.mem_cons, List.not_mem_nil, or_false] at hf; rcases hf with rfl | rfl; exact ok_eff; exact ok_main)]
  rfl
theorem signs_ex2 : signsOfM [] = ([], -1, 15) := by
  unfold signsOfM
  rw [if_pos (by unfold checkM; rw [if_pos]; exact ⟨by decide, by simp⟩)]
  rfl
theorem signs_ex3 : signsOfM [mainF, mainF] = ([], 1, 11) := by
  unfold signsOfM
  rw [if_pos (by unfold checkM; rw [if_pos]; refine ⟨by decide, ?_⟩; intro f hf; simp only [List.mem_cons, List.not_mem_nil, or_false] at hf; rcases hf with rfl | rfl <;> exact ok_main)]
  rfl
def exL : List Sg := [sgOf effF, sgOf mainF]
theorem of_ex1 (a : Option Addr) (W : World) (hl : Fns W [effF, mainF] a 2) (hT : Tab W) : Calls Tryd.prog 19 #[.agg #[.slice a 2 2]] W fun r w' =>
    (∃ b o cap, r = .returned (.tuple #[.slice (some ⟨b, o, none⟩) 2 cap, .int .i64 0, .int .i64 0]) ∧ Sgs w' exL (some ⟨b, o, none⟩) cap) ∧ Below W.heap.size W w' := by
  have h := signsOf_any [effF, mainF] a 2 W hl hT
  rw [signs_ex1] at h
  refine h.mono ?_
  rintro r w' ⟨⟨a', cap, rfl, hs⟩, hb⟩
  obtain ⟨b, o, rfl⟩ := hs.addr (by decide)
  exact ⟨⟨b, o, cap, rfl, hs⟩, hb⟩
theorem of_ex2 (W : World) (hT : Tab W) : Calls Tryd.prog 19 #[.agg #[.slice none 0 0]] W fun r w' =>
    (∃ a cap, r = .returned (.tuple #[.slice a 0 cap, .int .i64 (-1), .int .i64 15])) ∧ Below W.heap.size W w' := by
  have h := signsOf_any [] none 0 W ⟨Nat.le_refl _, Nat.zero_le _, by simp, fun b o e => by cases e⟩ hT
  rw [signs_ex2] at h
  refine h.mono ?_
  rintro r w' ⟨⟨a', cap, rfl, hs⟩, hb⟩
  exact ⟨⟨a', cap, rfl⟩, hb⟩
theorem of_ex3 (a : Option Addr) (W : World) (hl : Fns W [mainF, mainF] a 2) (hT : Tab W) : Calls Tryd.prog 19 #[.agg #[.slice a 2 2]] W fun r w' =>
    (∃ a cap, r = .returned (.tuple #[.slice a 0 cap, .int .i64 1, .int .i64 11])) ∧ Below W.heap.size W w' := by
  have h := signsOf_any [mainF, mainF] a 2 W hl hT
  rw [signs_ex3] at h
  refine h.mono ?_
  rintro r w' ⟨⟨a', cap, rfl, hs⟩, hb⟩
  exact ⟨⟨a', cap, rfl⟩, hb⟩
theorem exL_pars : ∀ s ∈ exL, s.pars.length ≤ 100000 := by
  intro s hs
  simp only [exL, List.mem_cons, List.not_mem_nil, or_false] at hs
  rcases hs with rfl | rfl <;> decide
theorem find_ex (a : Option Addr) (cap : Nat) (W : World) (h : Sgs W exL a cap) : Calls Tryd.prog 10 #[.slice a 2 cap, .string ⟨#[102]⟩] W fun r w' =>
    (∃ pa pc, r = .returned (.tuple #[.agg #[.string ⟨#[102]⟩, .slice pa 2 pc, .int .i64 2], .bool true]) ∧ Ints w' [1, 3] pa pc) ∧ Below W.heap.size W w' := by
  refine (find12_any exL [102] a cap W h exL_pars).mono ?_
  rintro r w' ⟨⟨v, rfl, pa, pc, rfl, hi⟩, hb⟩
  exact ⟨⟨pa, pc, rfl, hi⟩, hb⟩
theorem textM_ex1 : textM (sgOf effF) = [102, 40, 105, 110, 116, 44, 32, 97, 114, 114, 97, 121, 41, 32, 98, 111, 111, 108] := by decide +kernel
theorem textM_ex2 : textM (sgOf mainF) = [109, 97, 105, 110, 40, 41] := by decide +kernel
theorem textM_ex3 : textM ⟨[119, 104, 105, 108, 101], [], 0⟩ = [] := by decide +kernel
theorem wf_eff : (sgOf effF).wf := by
  refine ⟨by decide, by unfold I64; decide, fun p hp => ?_⟩
  have h : p = 1 ∨ p = 3 := by simpa [sgOf, effF] using hp
  unfold I64
  omega
theorem text_ex1 (pa : Option Addr) (pc : Nat) (W : World) (h : Ints W [1, 3] pa pc) (hT : Tab W) (hWd : Words W) : Calls Tryd.prog 15 #[.agg #[.string ⟨#[102]⟩, .slice pa 2 pc, .int .i64 2]] W fun r w' => r = .returned (.string ⟨#[102, 40, 105, 110, 116, 44, 32, 97, 114, 114, 97, 121, 41, 32, 98, 111, 111, 108]⟩) ∧ Below W.heap.size W w' := by
  have h := text12_any (sgOf effF) _ W ⟨pa, pc, rfl, h⟩ wf_eff hT hWd
  rw [textM_ex1] at h
  exact h
theorem text_ex2 (pa : Option Addr) (pc : Nat) (W : World) (h : Ints W [] pa pc) (hT : Tab W) (hWd : Words W) : Calls Tryd.prog 15 #[.agg #[.string ⟨mainB.toArray⟩, .slice pa 0 pc, .int .i64 0]] W fun r w' => r = .returned (.string ⟨#[109, 97, 105, 110, 40, 41]⟩) ∧ Below W.heap.size W w' := by
  have h := text12_any (sgOf mainF) _ W ⟨pa, pc, rfl, h⟩ ⟨by decide, by unfold I64; decide, by simp [sgOf, mainF]⟩ hT hWd
  rw [textM_ex2] at h
  exact h
theorem text_ex3 (W : World) (hT : Tab W) (hWd : Words W) : Calls Tryd.prog 15 #[.agg #[.string ⟨#[119, 104, 105, 108, 101]⟩, .slice none 0 0, .int .i64 0]] W fun r w' => r = .returned (.string ⟨#[]⟩) ∧ Below W.heap.size W w' := by
  have h := text12_any ⟨[119, 104, 105, 108, 101], [], 0⟩ _ W ⟨none, 0, rfl, Ints.nil _⟩ ⟨by decide, by unfold I64; decide, by simp⟩ hT hWd
  rw [textM_ex3] at h
  exact h
theorem call_ex1 (a b : Option Addr) (cap cb : Nat) (W : World) (h : Sgs W exL a cap) (hi : Ints W [1, 3] b cb) : Calls Tryd.prog 13 #[.slice a 2 cap, .string ⟨#[102]⟩, .slice b 2 cb, .int .i64 2] W fun r w' => r = .returned (.int .i64 0) ∧ Below W.heap.size W w' := by
  have h := call12_any exL [102] [1, 3] 2 a b cap cb W h exL_pars hi
  rw [show callM exL [102] [1, 3] 2 = 0 by decide +kernel] at h
  exact h
theorem call_ex2 (a b : Option Addr) (cap cb : Nat) (W : World) (h : Sgs W exL a cap) (hi : Ints W [1, 3] b cb) : Calls Tryd.prog 13 #[.slice a 2 cap, .string ⟨#[102]⟩, .slice b 2 cb, .int .i64 0] W fun r w' => r = .returned (.int .i64 0) ∧ Below W.heap.size W w' := by
  have h := call12_any exL [102] [1, 3] 0 a b cap cb W h exL_pars hi
  rw [show callM exL [102] [1, 3] 0 = 0 by decide +kernel] at h
  exact h
theorem call_ex3 (a b : Option Addr) (cap cb : Nat) (W : World) (h : Sgs W exL a cap) (hi : Ints W [1] b cb) : Calls Tryd.prog 13 #[.slice a 2 cap, .string ⟨#[102]⟩, .slice b 1 cb, .int .i64 0] W fun r w' => r = .returned (.int .i64 12) ∧ Below W.heap.size W w' := by
  have h := call12_any exL [102] [1] 0 a b cap cb W h exL_pars hi
  rw [show callM exL [102] [1] 0 = 12 by decide +kernel] at h
  exact h
theorem call_ex4 (a b : Option Addr) (cap cb : Nat) (W : World) (h : Sgs W exL a cap) (hi : Ints W [] b cb) : Calls Tryd.prog 13 #[.slice a 2 cap, .string ⟨#[109, 97, 105, 110]⟩, .slice b 0 cb, .int .i64 1] W fun r w' => r = .returned (.int .i64 12) ∧ Below W.heap.size W w' := by
  have h := call12_any exL [109, 97, 105, 110] [] 1 a b cap cb W h exL_pars hi
  rw [show callM exL [109, 97, 105, 110] [] 1 = 12 by decide +kernel] at h
  exact h
theorem call_ex5 (a b : Option Addr) (cap cb : Nat) (W : World) (h : Sgs W exL a cap) (hi : Ints W [] b cb) : Calls Tryd.prog 13 #[.slice a 2 cap, .string ⟨#[103]⟩, .slice b 0 cb, .int .i64 0] W fun r w' => r = .returned (.int .i64 11) ∧ Below W.heap.size W w' := by
  have h := call12_any exL [103] [] 0 a b cap cb W h exL_pars hi
  rw [show callM exL [103] [] 0 = 11 by decide +kernel] at h
  exact h
set_option maxRecDepth 20000 in
set_option maxHeartbeats 8000000 in
theorem works12_any (w : World) (hT : Tab w) (hWd : Words w) : Calls Tryd.prog 8 #[] w fun r w' => r = .returned (.bool true) ∧ Below w.heap.size w w' := by
  have HT := hide hT
  have HD := hide hWd
  clear hT hWd
  go_enter Tryd.func8, Tryd.ntmps8
  go_wp2_with fail
  refine (effs12_any _).mono ?_
  rintro r w1 ⟨rfl, hb, hx⟩
  have HW := hide hb
  have HX := hide (eff_pms hx)
  clear hb hx
  go_wp2_with fail
  refine (mains12_any _).mono ?_
  rintro r w2 ⟨rfl, hb⟩
  have HF := hide (fns_new12 (w := w2) (cutF (effC (HX.out.has (has_below hb))) (cutF (mainC w2) cutE)) 53 w2.heap.size 2 rfl (by decide) (by decide))
  have HW := hide (HW.out.tr hb)
  clear hb
  clear HX
  go_wp2_with fail
  refine (two12_any _ _ _ _).mono ?_
  rintro r w3 ⟨rfl, hb⟩
  have HF := hide (HF.out.has (has_below hb))
  have hb := ((bl w2).al _).tr hb
  have HW := hide (HW.out.tr hb)
  clear hb
  go_wp2_with fail
  refine (of_ex1 _ _ HF.out (HT.out.below HW.out)).mono ?_
  rintro r w4 ⟨⟨b, o, cap, rfl, hs⟩, hb⟩
  have HS := hide hs
  have HW := hide (HW.out.tr hb)
  clear hb
  clear HF hs
  go_wp2_with fail
  refine (of_ex2 _ (HT.out.below HW.out)).mono ?_
  rintro r w5 ⟨⟨a5, cap5, rfl⟩, hb⟩
  have HS := hide (HS.out.has (has_below hb))
  have HW := hide (HW.out.tr hb)
  clear hb
  go_wp2_with fail
  refine (mains12_any _).mono ?_
  rintro r w6 ⟨rfl, hb⟩
  have HS := hide (HS.out.has (has_below hb))
  have HW := hide (HW.out.tr hb)
  clear hb
  go_wp2_with fail
  refine (mains12_any _).mono ?_
  rintro r w7 ⟨rfl, hb⟩
  have HS := hide (HS.out.has (has_below hb))
  have HW := hide (HW.out.tr hb)
  clear hb
  have HF := hide (fns_new12 (w := w7) (cutF (mainC w7) (cutF (mainC w7) cutE)) 53 w7.heap.size 2 rfl (by decide) (by decide))
  go_wp2_with fail
  refine (two12_any _ _ _ _).mono ?_
  rintro r w8 ⟨rfl, hb⟩
  have HF := hide (HF.out.has (has_below hb))
  have hb := ((bl w7).al _).tr hb
  have HS := hide (HS.out.has (has_below hb))
  have HW := hide (HW.out.tr hb)
  clear hb
  go_wp2_with fail
  refine (of_ex3 _ _ HF.out (HT.out.below HW.out)).mono ?_
  rintro r w9 ⟨⟨a9, cap9, rfl⟩, hb⟩
  have HS := hide (HS.out.has (has_below hb))
  have HW := hide (HW.out.tr hb)
  clear hb
  clear HF
  go_wp2_with fail
  refine (find_ex _ _ _ HS.out).mono ?_
  rintro r w10 ⟨⟨pa, pc, rfl, hi⟩, hb⟩
  have HS := hide (HS.out.has (has_below hb))
  have HI := hide (hi.has (has_below ((bl w10).al (.cells #[.string ⟨#[102]⟩, .slice pa 2 pc, .int .i64 2] 29))))
  have HW := hide (HW.out.tr hb)
  clear hb
  clear hi
  have HB1 := hide ((bl w10).al (.cells #[.string ⟨#[102]⟩, .slice pa 2 pc, .int .i64 2] 29))
  go_wp2_with fail
  refine (text_ex1 _ _ _ HI.out (HT.out.below (HW.out.tr HB1.out)) (HD.out.below (HW.out.tr HB1.out))).mono ?_
  rintro r w11 ⟨rfl, hb⟩
  have hb := HB1.out.tr hb
  have HS := hide (HS.out.has (has_below hb))
  have HW := hide (HW.out.tr hb)
  clear hb
  clear HB1 HI
  obtain ⟨pm, qm, d0, d1, d2, hi⟩ := HS.out.at_ b o rfl 1 (by decide)
  have d0 : w11.cell? ⟨b, o + 3, none⟩ = some (.string ⟨mainB.toArray⟩) := d0
  have d1 : w11.cell? ⟨b, o + 3 + 1, none⟩ = some (.slice pm 0 qm) := d1
  have d2 : w11.cell? ⟨b, o + 3 + 2, none⟩ = some (.int .i64 0) := d2
  have HI : Hid (Ints w11 [] pm qm) := hide hi
  have hbl := cell_lt d0
  simp only at hbl
  clear hi
  go_wp2_with fail
  refine (text_ex2 _ _ _ HI.out (HT.out.below HW.out) (HD.out.below HW.out)).mono ?_
  rintro r w12 ⟨rfl, hb⟩
  have HS := hide (HS.out.has (has_below hb))
  have HW := hide (HW.out.tr hb)
  clear hb
  clear HI d0 d1 d2 hbl
  go_wp2_with fail
  refine (call_ex1 _ _ _ _ _ (HS.out.has (has_below ((bl w12).al _))) (Ints.alloc _ [1, 3] 3 _ (by decide) rfl)).mono ?_
  rintro r w13 ⟨rfl, hb⟩
  have hb := ((bl w12).al _).tr hb
  have HS := hide (HS.out.has (has_below hb))
  have HW := hide (HW.out.tr hb)
  clear hb
  go_wp2_with fail
  refine (call_ex2 _ _ _ _ _ (HS.out.has (has_below ((bl w13).al _))) (Ints.alloc _ [1, 3] 3 _ (by decide) rfl)).mono ?_
  rintro r w14 ⟨rfl, hb⟩
  have hb := ((bl w13).al _).tr hb
  have HS := hide (HS.out.has (has_below hb))
  have HW := hide (HW.out.tr hb)
  clear hb
  go_wp2_with fail
  refine (call_ex3 _ _ _ _ _ (HS.out.has (has_below ((bl w14).al _))) (Ints.alloc _ [1] 3 _ (by decide) rfl)).mono ?_
  rintro r w15 ⟨rfl, hb⟩
  have hb := ((bl w14).al _).tr hb
  have HS := hide (HS.out.has (has_below hb))
  have HW := hide (HW.out.tr hb)
  clear hb
  go_wp2_with fail
  refine (call_ex4 _ _ _ _ _ HS.out (Ints.nil _)).mono ?_
  rintro r w16 ⟨rfl, hb⟩
  have HS := hide (HS.out.has (has_below hb))
  have HW := hide (HW.out.tr hb)
  clear hb
  go_wp2_with fail
  refine (call_ex5 _ _ _ _ _ HS.out (Ints.nil _)).mono ?_
  rintro r w17 ⟨rfl, hb⟩
  have HW := hide (HW.out.tr hb)
  clear hb
  clear HS
  go_wp2_with fail
  refine (text_ex3 _ (HT.out.below HW.out) (HD.out.below HW.out)).mono ?_
  rintro r w18 ⟨rfl, hb⟩
  have HW := hide (HW.out.tr hb)
  clear hb
  go_wp2_with fail
  go_ret
  exact ⟨rfl, HW.out⟩
end Go.Proofs.YtnkmbddjekepkaaDoor
