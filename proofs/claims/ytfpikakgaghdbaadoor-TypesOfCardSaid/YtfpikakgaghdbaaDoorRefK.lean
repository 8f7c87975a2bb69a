/- rewindref11.Uses answers usesM for every list of variables and every expression in memory. -/
import Derived.Test.YtfpikakgaghdbaaDoorRefJ
import Derived.Test.YtfpikakgaghdbaaDoorRefC
import Derived.Test.YtfpikakgaghdbaaDoorTyF
import Derived.BigQuiet
import Derived.Deep.QuietTactic
namespace Go.Proofs.YtfpikakgaghdbaaDoor
open Go Go.RowKit
def usesP (l : List Vr) (ns : List Bytes) (i : Nat) : Bool := match l[i]? with | some v => decide ((findM l v.name).1 = i) && ns.contains v.name | none => false
mutual
theorem idsM_names (l : List Vr) : ∀ e : Ex, idsM l e = (namesM e).filterMap fun s => if (findM l s).2 then some (findM l s).1 else none
  | .mk k o n s es => by
    rw [idsM, namesM, List.filterMap_append, idsL_names l es]
    congr 1
    cases s with
    | nil => simp
    | cons c t => cases h : (findM l (c :: t)).2 <;> simp [h]
theorem idsL_names (l : List Vr) : ∀ es : List Ex, idsL l es = (namesL es).filterMap fun s => if (findM l s).2 then some (findM l s).1 else none
  | [] => rfl
  | e :: es => by rw [idsL, namesL, List.filterMap_append, idsM_names l e, idsL_names l es]
end
theorem findM_name {l : List Vr} {s : Bytes} (h : (findM l s).2 = true) : ∃ h2 : (findM l s).1 < l.length, l[(findM l s).1].name = s := by
  unfold findM firstM at *
  cases hq : l.findIdx? (fun v => v.name == s) with
  | none => rw [hq] at h; cases h
  | some i =>
    obtain ⟨h1, h2, _⟩ := List.findIdx?_eq_some_iff_getElem.1 hq
    exact ⟨h1, by simpa using h2⟩
theorem findM_has {l : List Vr} {i : Nat} (h : i < l.length) : (findM l l[i].name).2 = true := by
  unfold findM firstM
  cases hq : l.findIdx? (fun v => v.name == l[i].name) with
  | some j => rfl
  | none =>
    rw [List.findIdx?_eq_none_iff] at hq
    have := hq l[i] (List.getElem_mem h)
    simp at this
theorem usesM_eq (l : List Vr) (e : Ex) : usesM l e = if depthM 20 e = 0 then [] else (List.range l.length).filter (usesP l (namesM e)) := by
  unfold usesM
  split
  · rfl
  · refine List.filter_congr fun i hi => ?_
    have hi : i < l.length := List.mem_range.1 hi
    rw [Bool.eq_iff_iff, List.contains_iff_mem, idsM_names, List.mem_filterMap]
    unfold usesP
    rw [List.getElem?_eq_getElem hi]
    simp only [Bool.and_eq_true, decide_eq_true_eq, List.contains_iff_mem]
    constructor
    · rintro ⟨s, hs, h⟩
      by_cases hf : (findM l s).2 = true
      · rw [if_pos hf, Option.some.injEq] at h
        obtain ⟨h1, h2⟩ := findM_name hf
        subst h
        rw [h2]
        exact ⟨rfl, hs⟩
      · rw [if_neg hf] at h
        cases h
    · rintro ⟨h1, h2⟩
      refine ⟨_, h2, ?_⟩
      rw [if_pos (findM_has hi), h1]
theorem uses_step (l : List Vr) (ns : List Bytes) (i : Nat) : (List.range (i + 1)).filter (usesP l ns) = (List.range i).filter (usesP l ns) ++ if usesP l ns i then [i] else [] := by
  rw [List.range_succ, List.filter_append]
  simp [List.filter_cons]
theorem usesP_get {l : List Vr} {ns : List Bytes} {i : Nat} (h : i < l.length) : usesP l ns i = (decide ((findM l l[i].name).1 = i) && ns.contains l[i].name) := by
  unfold usesP
  rw [List.getElem?_eq_getElem h]
set_option maxRecDepth 20000 in
set_option maxHeartbeats 4000000 in
theorem refUses_any (l : List Vr) (va : Option Addr) (vcap : Nat) (e : Ex) (v : Value) (w : World) (hl : Vrs w l va vcap) (hv : Ex.Val w e v) (hsm : l.length ≤ 60) :
    Calls Tryd.prog 25 #[.slice va l.length vcap, v] w fun r w' => Hid (∃ a cap, r = .returned (.slice a (usesM l e).length cap) ∧ Ints w' ((usesM l e).map fun (i : Nat) => (i : Int)) a cap) ∧ Below w.heap.size w w' := by
  obtain ⟨i0, hi, hz0, hz1, hz2⟩ := info_parts info_int
  have hexpr := fun W (hW : Below w.heap.size w W) => refExpr_any e v W (hv.keep hW (Nat.le_refl _))
  have hnames := fun (hd : depthM 20 e ≠ 0) W (hW : Below w.heap.size w W) => names_any 20 e v W (Nat.le_refl _) hd (hv.keep hW (Nat.le_refl _))
  have hfind := fun (s : Bytes) (W : World) (hW : Below w.heap.size w W) => refFind_any l va vcap s W (hl.keep hW (Nat.le_refl _))
  obtain ⟨ea, ecap, rfl, hw, hr⟩ := hv
  have HL := hide hl
  have HEX := hide hexpr
  have HFI := hide hfind
  clear hw hr hl hexpr hfind
  rw [usesM_eq]
  by_cases hz : depthM 20 e = 0
  · rw [if_pos hz] at HEX ⊢
    clear hnames hz
    go_enter Tryd.func25, Tryd.ntmps25
    go_wp2_with fail
    refine (HEX.out _ ((bl w).al _)).mono ?_
    rintro r w1 ⟨rfl, hb⟩
    go_wp2_with fail
    go_ret
    exact ⟨⟨none, 0, rfl, ⟨Nat.le_refl _, by unfold maxLen; omega, fun h => absurd h (Nat.not_lt_zero _), fun b o e => by cases e⟩⟩, ((bl w).al _).tr hb⟩
  · rw [if_neg hz] at HEX ⊢
    have HN := hide (hnames hz)
    have hnl := names_len 20 e hz
    clear hnames hz
    generalize namesM e = ns at *
    go_enter Tryd.func25, Tryd.ntmps25
    go_wp2_with fail
    refine (HEX.out _ ((bl w).al _)).mono ?_
    rintro r w1 ⟨rfl, hb1⟩
    obtain ⟨hc1, _⟩ := bcell hb1
    go_wp2_with fail
    refine (HN.out _ (((bl w).al _).tr hb1)).mono ?_
    rintro r w2 ⟨u, rfl, hu, hb2⟩
    have hw2 := (((bl w).al _).tr hb1).tr hb2
    have HW2 := hide hw2
    have HU := hide hu
    clear hc1 hb1 hb2 hw2 hu
    have hus : ∃ a c, u = .slice a ns.length c ∧ ∀ (j : Nat) (hj : j < ns.length), ∃ b o, a = some ⟨b, o, none⟩ ∧ w2.cell? ⟨b, o + j, none⟩ = some (.string ⟨ns[j].toArray⟩) := by
      rcases HU.out.2 with ⟨rfl, hn0⟩ | ⟨g, cap2, cur, rfl, hg, hh, hle, hcap, hsz, htk⟩
      · exact ⟨none, 0, by rw [hn0], fun j hj => by omega⟩
      · refine ⟨_, cap2, rfl, fun j hj => ⟨g, 0, rfl, ?_⟩⟩
        have := own_cell HU.out j (sv ns[j]) (by simp [hj])
        rwa [Addr.add_lit] at this
    obtain ⟨ua, uc, rfl, hcells⟩ := hus
    have HC := hide hcells
    have hnb : ns.length ≤ 1048576 := by omega
    clear hcells HU hnl
    go_wp2_with fail
    go_loopw [6, 7] (fun v i wr => ∃ k : Nat, k ≤ l.length ∧ i = .int .i64 k ∧ wr.ownsRow w2.heap.size 3 1 v ((List.range k).filter (usesP l ns)).length ((((List.range k).filter (usesP l ns)).map fun (i : Nat) => (i : Int)).map (Value.int .i64)) ∧ Below w2.heap.size w2 wr) (fun _ i _ => l.length - (intOf i).toNat)
    case atStart => exact ⟨0, Nat.zero_le _, rfl, by simpa using World.ownsRow_nil _ _ _ _, bl _⟩
    case round =>
      obtain ⟨k, hk, rfl, hown, hb⟩ := hrel
      have HOWN := hide hown
      have HBR := hide (HW2.out.tr hb)
      have HB := hide hb
      clear hown hb
      by_cases hlt : k < l.length
      · obtain ⟨b, o, rfl⟩ := HL.out.addr (by omega)
        have d0 := (HL.out.at_ b o rfl k hlt).1
        have hfd := HFI.out l[k].name
        have HST := hide (uses_step l ns k)
        have HP := hide (usesP_get (ns := ns) hlt)
        have hle : ((List.range k).filter (usesP l ns)).length ≤ k := by
          have := List.length_filter_le (usesP l ns) (List.range k); simpa using this
        generalize hF : findM l l[k].name = F at *
        obtain ⟨f, fb⟩ := F
        clear hF
        have HFD := hide hfd
        have d0r := cell_keep d0 HBR.out (Nat.le_refl _)
        have D0 := hide d0
        clear hfd d0
        go_wp2_with fail
        refine (HFD.out _ HBR.out).mono ?_
        rintro r w3 ⟨rfl, hb3⟩
        have HB3 := hide (HB.out.tr hb3)
        have HBW := hide (HBR.out.tr hb3)
        have HOWN := hide (own_below HOWN.out hb3)
        clear hb3 d0r
        go_wp2_with fail
        go_loopw [6, 10] (fun u j wr' => ∃ j' : Nat, j' ≤ ns.length ∧ j = .int .i64 j' ∧ Hid (∀ (q : Nat) (h : q < ns.length), q < j' → ¬ (ns[q] = l[k].name ∧ f = k)) ∧ Hid (wr'.ownsRow w2.heap.size 3 1 u ((List.range k).filter (usesP l ns)).length ((((List.range k).filter (usesP l ns)).map fun (i : Nat) => (i : Int)).map (Value.int .i64))) ∧ Below w3.heap.size w3 wr') (fun _ j _ => ns.length - (intOf j).toNat)
        case atStart => exact ⟨0, Nat.zero_le _, rfl, fun q h hq => absurd hq (Nat.not_lt_zero _), HOWN.out, bl _⟩
        case round =>
          obtain ⟨j, hj, rfl, hno, hownj, hbj⟩ := hrel
          by_cases hjl : j < ns.length
          · obtain ⟨ub, uo, rfl, hcu⟩ := HC.out j hjl
            have hcu := cell_keep hcu (HB3.out.tr hbj) (Nat.le_refl _)
            have hcd := cell_keep D0.out (HBW.out.tr hbj) (Nat.le_refl _)
            have hjl1 : (j : Int) < (ns.length : Int) := by omega
            have hkl1 : (k : Int) < (l.length : Int) := by omega
            cases hq : ns[j] == l[k].name
            · go_wp2_with fail
              go_quiet (fail)
              go_wp2_with fail
              go_roundw
              case rel =>
                refine ⟨j + 1, by omega, by go_num, fun q h hq' => ?_, own_below hownj.out (below_drewN (bl _) _), below_drewN hbj _⟩
                by_cases e : q = j
                · subst e
                  rintro ⟨h1, _⟩
                  rw [h1] at hq
                  simp at hq
                · exact hno q h (by omega)
              case measure => simp [intOf]; omega
            · by_cases hfk : f = k
              · subst hfk
                go_wp2_with fail
                go_quiet (fail)
                go_wp2_with (at_builtin; refine wpList_append_own _ rfl _ _ 52 rfl w2.heap.size 3 i0 (.int .i64 0) 1 8 Tryd.underlying52 hi hz0 hz1 hz2 rfl (by decide) _ _ _ rfl ((own_below hownj.out (below_drewN (bl _) _)).alloc _) _ 1 1 [.int .i64 f] rfl rfl (cell_one _ _ _ _ rfl) (by simp [Value.oneCell']) (by unfold maxLen; omega) (by omega) (by have h9 := (HB3.out.tr hbj).size; rw [World.size_alloc]; exact Nat.le_succ_of_le h9) ?_; intro v' w5 hown' hgrow _)
                have hb5 : Below w2.heap.size w2 w5 := ((below_drewN (HB3.out.tr hbj) _).al _).grown hgrow (by have h9 := (HB3.out.tr hbj).size; rw [World.size_alloc]; exact Nat.le_succ_of_le h9) (fun i hi => (hownj.out.lt i hi).1)
                have hP : usesP l ns f = true := by
                  rw [HP.out, Bool.and_eq_true]
                  refine ⟨by simp, ?_⟩
                  rw [List.contains_iff_mem]
                  have h1 : ns[j] = l[f].name := by simpa using hq
                  rw [← h1]
                  exact List.getElem_mem hjl
                have hs := HST.out
                rw [hP, if_pos rfl] at hs
                have HS := hide hs
                clear hs hP hq
                go_roundw
                case rel =>
                  refine ⟨f + 1, by omega, by go_num, ?_, hb5⟩
                  rw [HS.out, List.length_append, List.map_append, List.map_append]
                  exact hown'
                case measure => simp [intOf]; omega
              · have hfk1 : ((f : Int) == (k : Int)) = false := by
                  rw [beq_eq_false_iff_ne]; omega
                go_wp2_with fail
                go_quiet (fail)
                go_wp2_with fail
                go_roundw
                case rel =>
                  refine ⟨j + 1, by omega, by go_num, fun q h hq' => ?_, own_below hownj.out (below_drewN (bl _) _), below_drewN hbj _⟩
                  by_cases e : q = j
                  · rintro ⟨_, h2⟩
                    exact hfk h2
                  · exact hno q h (by omega)
                case measure => simp [intOf]; omega
          · obtain rfl : j = ns.length := by omega
            have hP : usesP l ns k = false := by
              rw [HP.out, Bool.and_eq_false_iff]
              by_cases hfk : f = k
              · right
                rw [← Bool.not_eq_true, List.contains_iff_mem, List.mem_iff_getElem]
                rintro ⟨q, hq, e⟩
                exact hno.out q hq hq ⟨e, hfk⟩
              · left
                simpa using hfk
            have hs := HST.out
            rw [hP] at hs
            have HS := hide hs
            clear hs hP
            go_wp2_with fail
            go_roundw
            case rel =>
              refine ⟨k + 1, by omega, by go_num, ?_, HB3.out.tr hbj⟩
              rw [HS.out]
              simpa using hownj.out
            case measure => simp [intOf]; omega
      · obtain rfl : k = l.length := by omega
        go_wp2_with fail
        go_ret
        obtain ⟨a, cap, rfl, hi⟩ := own_ints (l := ((List.range l.length).filter (usesP l ns)).map fun (i : Nat) => (i : Int)) (by rw [List.length_map]; exact HOWN.out)
        exact ⟨⟨a, cap, by rw [List.length_map]; rfl, hi⟩, HBR.out⟩
end Go.Proofs.YtfpikakgaghdbaaDoor
