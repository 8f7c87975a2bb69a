/- rewindref03.depth, Depth and Expr answer by depthM for every expression in memory. -/
import Derived.Test.YtgeleppmhhodiaaGreatDoorRefB
namespace Go.Proofs.YtgeleppmhhodiaaGreatDoor
open Go Go.RowKit
set_option linter.unusedSimpArgs false
set_option linter.unusedVariables false
set_option linter.unnecessarySimpa false
set_option maxHeartbeats 2000000 in
theorem refDepth1_any : ∀ (m : Nat) (e : Ex) (v : Value) (w : World), m ≤ 20 → Ex.Val w e v →
    Calls Tryz.prog 103 #[v, .int .i64 m] w fun r w' => r = .returned (.int .i64 (depthM m e)) ∧ Below w.heap.size w w' := by
  intro m
  induction m with
  | zero =>
    intro e v w _ hv
    obtain ⟨a, cap, rfl, hw, hr⟩ := hv
    have hf := fun W => fields_any e.kind e.op e.num e.name a e.args.length cap W hw.s
    have hlen : e.args.length ≤ 9223372036854775807 := Nat.le_trans hw.len hw.cap
    clear hw hr
    generalize fieldsM e.kind e.op e.num e.name = F at *
    obtain ⟨c, ok⟩ := F
    have HF := hide hf
    clear hf
    cases ok
    · go_enter Tryz.func103, Tryz.ntmps103
      go_wp2_with fail
      refine (HF.out _).mono ?_
      rintro r w1 ⟨rfl, hb⟩
      obtain ⟨hc, _⟩ := bcell hb
      go_wp2_with fail
      go_ret
      exact ⟨rfl, ((bl w).al _).tr hb⟩
    · by_cases hc0 : c = (e.args.length : Int)
      · subst hc0
        go_enter Tryz.func103, Tryz.ntmps103
        go_wp2_with fail
        refine (HF.out _).mono ?_
        rintro r w1 ⟨rfl, hb⟩
        obtain ⟨hc, _⟩ := bcell hb
        go_wp2_with fail
        go_ret
        exact ⟨rfl, ((bl w).al _).tr hb⟩
      · have hc1 : ((e.args.length : Int) != c) = true := by simpa using fun h => hc0 h.symm
        go_enter Tryz.func103, Tryz.ntmps103
        go_wp2_with fail
        refine (HF.out _).mono ?_
        rintro r w1 ⟨rfl, hb⟩
        obtain ⟨hc, _⟩ := bcell hb
        go_wp2_with fail
        go_ret
        exact ⟨rfl, ((bl w).al _).tr hb⟩
  | succ m ih =>
    intro e v w hm hv
    obtain ⟨a, cap, rfl, hw, hr⟩ := hv
    have hf := fun W => fields_any e.kind e.op e.num e.name a e.args.length cap W hw.s
    have hlen : e.args.length ≤ 9223372036854775807 := Nat.le_trans hw.len hw.cap
    have hfit := fields_fits e.kind e.op e.num e.name e.args.length
    change e.fits = _ at hfit
    have IH := hide ih
    have HR := hide hr
    clear ih hr hw
    generalize fieldsM e.kind e.op e.num e.name = F at *
    obtain ⟨c, ok⟩ := F
    have HF := hide hf
    clear hf
    cases ok
    · have hz : depthM (m + 1) e = 0 := by rw [depthM, hfit]; simp
      rw [hz]
      clear hz hfit
      go_enter Tryz.func103, Tryz.ntmps103
      go_wp2_with fail
      refine (HF.out _).mono ?_
      rintro r w1 ⟨rfl, hb⟩
      obtain ⟨hc, _⟩ := bcell hb
      go_wp2_with fail
      go_ret
      exact ⟨rfl, ((bl w).al _).tr hb⟩
    · by_cases hc0 : c = (e.args.length : Int)
      · subst hc0
        have HQ : Hid (e.fits = true) := hide (by rw [hfit]; simp)
        clear hfit
        go_enter Tryz.func103, Tryz.ntmps103
        go_wp2_with fail
        refine (HF.out _).mono ?_
        rintro r w1 ⟨rfl, hb⟩
        have hB : w1.cell? ⟨w.heap.size, 4, none⟩ = some (.slice a e.args.length cap) := by
          rw [hb.cell (by simp)]; go_simp
        have HB := hide hB
        have hsz : w.heap.size < w1.heap.size := by have := hb.size; simp at this; omega
        have hb1 : Below w.heap.size w w1 := ((bl w).al _).tr hb
        clear hb
        go_wp2_with fail
        clear hB
        go_loopw [7, 8] (fun d i wr => ∃ k : Nat, k ≤ e.args.length ∧ i = .int .i64 k ∧ d = .int .i64 (((e.args.map (depthM m)).take k).foldl max 0 : Nat) ∧ Hid (0 ∉ (e.args.map (depthM m)).take k) ∧ Below w1.heap.size w1 wr) (fun _ i _ => e.args.length - (intOf i).toNat)
        case atStart => exact ⟨0, Nat.zero_le _, rfl, rfl, by simp [Hid], bl _⟩
        case round =>
          obtain ⟨k, hk, rfl, rfl, hn, hbr⟩ := hrel
          have hbw := (hb1.tr hbr)
          have HLK := cell_keep HB.out hbr (Nat.le_refl _)
          have hlb : w.heap.size < wr.heap.size := cell_lt HLK
          have hbd : (((e.args.map (depthM m)).take k).foldl max 0 : Nat) ≤ 20 := by
            have := foldmax_le ((e.args.map (depthM m)).take k) 0 m (Nat.zero_le _) (fun x hx => by
              obtain ⟨y, _, rfl⟩ := List.mem_map.1 (List.mem_of_mem_take hx)
              exact depthM_le m y)
            omega
          by_cases hlt : k < e.args.length
          · obtain ⟨b, o, rfl⟩ := HR.out.addr (by omega)
            obtain ⟨a', cap', c0, c1, c2, c3, c4, hw', hr'⟩ := ((HR.out.get k hlt).keep hbw (Nat.le_refl _)).val
            have HE := hide (Ex.Val.mk hw' hr')
            clear hw' hr'
            have hih := fun (W : World) (hW : Below wr.heap.size wr W) => IH.out e.args[k] _ W (by omega) (HE.out.keep hW (Nat.le_refl _))
            have hdk : depthM m e.args[k] ≤ 20 := by have := depthM_le m e.args[k]; omega
            have HT : Hid ((e.args.map (depthM m)).take (k + 1) = (e.args.map (depthM m)).take k ++ [depthM m e.args[k]]) := hide (take_map_succ _ _ _ hlt)
            have HM : Hid (depthM m e.args[k] = 0 → depthM (m + 1) e = 0) := hide fun h => depthM_zero HQ.out (List.mem_map.2 ⟨e.args[k], List.getElem_mem hlt, h⟩)
            generalize depthM m e.args[k] = D at *
            generalize hE : ((e.args.map (depthM m)).take k).foldl max 0 = E at *
            have HEE := hide hE
            have HIH := hide hih
            clear hih hE HE
            by_cases hz : D = 0
            · subst hz
              go_wp2_with fail
              refine (HIH.out _ (bl wr)).mono ?_
              rintro r w2 ⟨rfl, hb2⟩
              go_wp2_with fail
              go_ret
              refine ⟨ret_int ?_, hbw.tr hb2⟩
              rw [HM.out (by trivial)]
              rfl
            · have hz1 : ((D : Int) == 0) = false := by simpa using hz
              by_cases hgt : (E : Int) < (D : Int)
              · go_wp2_with fail
                refine (HIH.out _ (bl wr)).mono ?_
                rintro r w2 ⟨rfl, hb2⟩
                go_wp2_with fail
                go_roundw
                case rel =>
                  refine ⟨k + 1, by omega, by go_num, ?_, ?_, hbr.tr hb2⟩
                  · rw [HT.out, List.foldl_append, HEE.out]
                    exact congrArg (Value.int .i64) (show (_ : Int) = ((max _ _ : Nat) : Int) by omega)
                  · show _ ∉ _
                    rw [HT.out, List.mem_append, List.mem_singleton]
                    rintro (h | h)
                    · exact hn h
                    · exact hz h.symm
                case measure => simp [intOf]; omega
              · have hgt1 : (D : Int) ≤ (E : Int) := by omega
                go_wp2_with fail
                refine (HIH.out _ (bl wr)).mono ?_
                rintro r w2 ⟨rfl, hb2⟩
                go_wp2_with fail
                go_roundw
                case rel =>
                  refine ⟨k + 1, by omega, by go_num, ?_, ?_, hbr.tr hb2⟩
                  · rw [HT.out, List.foldl_append, HEE.out]
                    exact congrArg (Value.int .i64) (show (_ : Int) = ((max _ _ : Nat) : Int) by omega)
                  · show _ ∉ _
                    rw [HT.out, List.mem_append, List.mem_singleton]
                    rintro (h | h)
                    · exact hn h
                    · exact hz h.symm
                case measure => simp [intOf]; omega
          · obtain rfl : k = e.args.length := by omega
            go_wp2_with fail
            go_ret
            refine ⟨ret_int ?_, hbw⟩
            have h1 := hn.out
            have e0 : (e.args.map (depthM m)).take e.args.length = e.args.map (depthM m) := by rw [List.take_of_length_le (by simp)]
            rw [e0] at h1 ⊢
            rw [depthM_succ HQ.out h1]
            rfl
      · have hz : depthM (m + 1) e = 0 := by rw [depthM, hfit]; simp [hc0]
        rw [hz]
        clear hz hfit
        have hc1 : ((e.args.length : Int) != c) = true := by simpa using fun h => hc0 h.symm
        go_enter Tryz.func103, Tryz.ntmps103
        go_wp2_with fail
        refine (HF.out _).mono ?_
        rintro r w1 ⟨rfl, hb⟩
        obtain ⟨hc, _⟩ := bcell hb
        go_wp2_with fail
        go_ret
        exact ⟨rfl, ((bl w).al _).tr hb⟩
theorem refDepth_any (e : Ex) (v : Value) (w : World) (hv : Ex.Val w e v) :
    Calls Tryz.prog 102 #[v] w fun r w' => r = .returned (.int .i64 (depthM 20 e)) ∧ Below w.heap.size w w' := by
  have h1 : ∀ (W : World), Below w.heap.size w W → Calls Tryz.prog 103 #[v, .int .i64 20] W fun r w' => r = .returned (.int .i64 (depthM 20 e)) ∧ Below W.heap.size W w' := fun W hb => refDepth1_any 20 e v W (Nat.le_refl _) (hv.keep hb (Nat.le_refl _))
  obtain ⟨a, cap, rfl, hw, hr⟩ := hv
  have H1 := hide h1
  clear h1 hw hr
  go_enter Tryz.func102, Tryz.ntmps102
  go_wp2_with fail
  refine (H1.out _ ((bl w).al _)).mono ?_
  rintro r w1 ⟨rfl, hb⟩
  go_wp2_with fail
  go_ret
  exact ⟨rfl, ((bl w).al _).tr hb⟩
theorem refExpr_any (e : Ex) (v : Value) (w : World) (hv : Ex.Val w e v) :
    Calls Tryz.prog 96 #[v] w fun r w' => r = .returned (.int .i64 (if depthM 20 e = 0 then 2 else 0)) ∧ Below w.heap.size w w' := by
  have h1 := fun (W : World) (hb : Below w.heap.size w W) => refDepth_any e v W (hv.keep hb (Nat.le_refl _))
  obtain ⟨a, cap, rfl, hw, hr⟩ := hv
  clear hw hr
  generalize depthM 20 e = D at *
  have H1 := hide h1
  clear h1
  by_cases hz : D = 0
  · subst hz
    rw [if_pos rfl]
    go_enter Tryz.func96, Tryz.ntmps96
    go_wp2_with fail
    refine (H1.out _ ((bl w).al _)).mono ?_
    rintro r w1 ⟨rfl, hb⟩
    go_wp2_with fail
    go_ret
    exact ⟨rfl, ((bl w).al _).tr hb⟩
  · rw [if_neg hz]
    have hz1 : ((D : Int) == 0) = false := by simpa using hz
    go_enter Tryz.func96, Tryz.ntmps96
    go_wp2_with fail
    refine (H1.out _ ((bl w).al _)).mono ?_
    rintro r w1 ⟨rfl, hb⟩
    go_wp2_with fail
    go_ret
    exact ⟨rfl, ((bl w).al _).tr hb⟩
end Go.Proofs.YtgeleppmhhodiaaGreatDoor
