/- rewindref10.declared. -/
import Derived.Test.YtgeleppmhhodiaaGreatDoorNmC
import Derived.BigQuiet
import Derived.Deep.QuietTactic
import Derived.Deep.DeepCutAuto
import Derived.Deep.RegionHeld3
import Derived.Test.YtgeleppmhhodiaaGreatDoorNmB
import Derived.Deep.RegionLaw
import Derived.Laws.AppendOwnNone
/- The variables that the statements of a block declare, as the document lays them, are those that names.Of takes in. -/
namespace Go.Proofs.YtgeleppmhhodiaaGreatDoor
open Go Go.RowKit
set_option linter.unusedSimpArgs false
set_option linter.unusedVariables false
set_option linter.unnecessarySimpa false
mutual
def St.decl : St → Int → List Vr
  | .mk k n s t _ _ bs es, up => (if k = 1 then [⟨s, t, n, n + 1, up⟩] else []) ++ (declL bs (grL bs + 1) ++ declL es (grL es + 1))
def declL : List St → Int → List Vr
  | [], _ => []
  | s :: l, up => s.decl up ++ declL l up
end
theorem St.decl_eq (s : St) (up : Int) : s.decl up = (if s.kind = 1 then [⟨s.name, s.typ, s.no, s.no + 1, up⟩] else []) ++ (declL s.body (grL s.body + 1) ++ declL s.els (grL s.els + 1)) := by cases s; rw [St.decl]; rfl
theorem declL_app (l m : List St) (up : Int) : declL (l ++ m) up = declL l up ++ declL m up := by
  induction l with
  | nil => rfl
  | cons s l ih => simp only [List.cons_append, declL, ih, List.append_assoc]
theorem declL_take (l : List St) (up : Int) (k : Nat) (h : k < l.length) : declL (l.take (k + 1)) up = declL (l.take k) up ++ l[k].decl up := by
  rw [List.take_succ_eq_append_getElem h, declL_app]
  simp [declL]
mutual
theorem St.decl_len : ∀ (s : St) (up : Int), (s.decl up).length ≤ s.cnt
  | .mk k n s t c xs bs es, up => by
    have h1 := declL_len bs (grL bs + 1)
    have h2 := declL_len es (grL es + 1)
    rw [St.decl, St.cnt]
    split <;> simp <;> omega
theorem declL_len : ∀ (l : List St) (up : Int), (declL l up).length ≤ cntL l
  | [], _ => by simp [declL]
  | s :: l, up => by
    have h1 := St.decl_len s up
    have h2 := declL_len l up
    rw [declL, cntL, List.length_append]
    omega
end
/-- Up to where what stands in a block is in scope. -/
def toP (cnt : Int) (qs : List Lv) (blk : List St) : Int := match qs with | [] => cnt + 1 | _ :: _ => grL blk + 1
def valP (cnt : Int) (q : List Lv) : Vr := match q with
  | [] => ⟨[], 0, 0, 0, 0⟩
  | q :: qs => ⟨q.s.name, q.s.typ, q.s.no, q.s.no + 1, toP cnt qs q.blk⟩
def varP (q : List Lv) : Bool := match q with | [] => false | q :: _ => isVar q.s
mutual
theorem St.pls_decl (cnt : Int) : ∀ (s : St) (qs : List Lv) (blk : List St) (i : Nat), ((s.pls qs blk i).filter varP).map (valP cnt) = s.decl (toP cnt qs blk)
  | .mk k n s t c xs bs es, qs, blk, i => by
    rw [St.pls, St.decl, List.filter_cons, List.filter_append]
    rw [show (if varP ((⟨.mk k n s t c xs bs es, blk, i⟩ : Lv) :: qs) = true then _ else _) = _ from rfl]
    have h1 := plsF_decl cnt bs ((⟨.mk k n s t c xs bs es, blk, i⟩ : Lv) :: qs) bs 0
    have h2 := plsF_decl cnt es ((⟨.mk k n s t c xs bs es, blk, i⟩ : Lv) :: qs) es 0
    have h3 : varP ((⟨.mk k n s t c xs bs es, blk, i⟩ : Lv) :: qs) = decide (k = 1) := rfl
    rw [h3]
    by_cases hk : k = 1
    · rw [if_pos (by simpa using hk), if_pos hk, List.map_cons, List.map_append, h1, h2]
      rfl
    · rw [if_neg (by simpa using hk), if_neg hk, List.map_append, h1, h2]
      rfl
theorem plsF_decl (cnt : Int) : ∀ (l : List St) (qs : List Lv) (blk : List St) (i : Nat), ((plsF l qs blk i).filter varP).map (valP cnt) = declL l (toP cnt qs blk)
  | [], _, _, _ => rfl
  | s :: l, qs, blk, i => by
    rw [plsF, declL, List.filter_append, List.map_append, St.pls_decl cnt s, plsF_decl cnt l]
end
mutual
theorem St.pls_ne : ∀ (s : St) (qs : List Lv) (blk : List St) (i : Nat), ∀ q ∈ s.pls qs blk i, q ≠ []
  | .mk k n s t c xs bs es, qs, blk, i => by
    intro q hq
    rw [St.pls] at hq
    rcases List.mem_cons.1 hq with rfl | hq
    · simp
    · rcases List.mem_append.1 hq with hq | hq
      · exact plsF_ne bs _ _ _ q hq
      · exact plsF_ne es _ _ _ q hq
theorem plsF_ne : ∀ (l : List St) (qs : List Lv) (blk : List St) (i : Nat), ∀ q ∈ plsF l qs blk i, q ≠ []
  | [], _, _, _ => by simp [plsF]
  | s :: l, qs, blk, i => by
    intro q hq
    rw [plsF] at hq
    rcases List.mem_append.1 hq with hq | hq
    · exact St.pls_ne s _ _ _ q hq
    · exact plsF_ne l _ _ _ q hq
end
theorem find_self {f : Fn} (h : checkM [f] = 0) {q : List Lv} (hq : q ∈ plsL f.body []) : findP f (plNo q) = some q := by
  obtain ⟨_, _, h3⟩ := check_body h
  have hno : (plsL f.body []).map plNo = nosL f.body := plsF_no f.body [] f.body 0
  have hnd : (nosL f.body).Nodup := by
    rw [List.nodup_iff_pairwise_ne, List.pairwise_iff_getElem]
    intro i j hi hj hij
    rw [h3 i hi, h3 j hj]
    omega
  obtain ⟨i, hi, rfl⟩ := List.mem_iff_getElem.1 hq
  unfold findP
  rw [List.find?_eq_some_iff_getElem]
  refine ⟨by simp, i, hi, rfl, fun j hj => ?_⟩
  have hl : (plsL f.body []).length = (nosL f.body).length := by rw [← hno, List.length_map]
  have e1 : plNo (plsL f.body [])[i] = (nosL f.body)[i]'(by omega) := by
    have := List.getElem_map plNo (l := plsL f.body []) (i := i) (h := by simpa using hi)
    rw [← this]
    simp only [hno]
  have e2 : plNo (plsL f.body [])[j] = (nosL f.body)[j]'(by omega) := by
    have := List.getElem_map plNo (l := plsL f.body []) (i := j) (h := by simp; omega)
    rw [← this]
    simp only [hno]
  rw [e1, e2, h3 _ _, h3 _ _]
  simp only [Bool.not_eq_true', decide_eq_false_iff_not]
  omega
theorem endM_self {f : Fn} (h : checkM [f] = 0) {q : Lv} {qs : List Lv} (hq : (q :: qs) ∈ plsL f.body []) : endM f q.s.no = toP f.count qs q.blk := by
  have hf : findP f q.s.no = some (q :: qs) := find_self h hq
  rw [endM, parM, lastM, if_pos h, if_pos h, hf]
  cases qs with
  | nil => rfl
  | cons p qs => rfl
/-- The document's list. -/
theorem decl_law {f : Fn} (h : checkM [f] = 0) : ((stsL f.body).filter isVar).map (stV f) = declL f.body (f.count + 1) := by
  have h1 := plsF_decl f.count f.body [] f.body 0
  rw [show toP f.count [] f.body = f.count + 1 from rfl] at h1
  rw [← h1, ← plsF_sts f.body [] f.body 0, List.filter_map, List.map_map]
  have hv : (plsF f.body [] f.body 0).filter (isVar ∘ hdS) = (plsF f.body [] f.body 0).filter varP := by
    apply List.filter_congr
    intro q hq
    have := plsF_ne _ _ _ _ q hq
    cases q with
    | nil => exact absurd rfl this
    | cons q qs => rfl
  rw [hv]
  apply List.map_congr_left
  intro q hq
  have hq' := (List.mem_filter.1 hq).1
  have := plsF_ne _ _ _ _ q hq'
  cases q with
  | nil => exact absurd rfl this
  | cons q qs =>
    show stV f q.s = valP f.count (q :: qs)
    rw [stV, valP, endM_self h hq']
end Go.Proofs.YtgeleppmhhodiaaGreatDoor
/- rewindref10.last and rewindref10.declared. -/
namespace Go.Proofs.YtgeleppmhhodiaaGreatDoor
open Go Go.RowKit
set_option linter.unusedSimpArgs false
set_option linter.unusedVariables false
set_option linter.unnecessarySimpa false
set_option maxRecDepth 20000 in
set_option maxHeartbeats 2000000 in
theorem refLast_any : ∀ (N : Nat) (l : List St) (a : Option Addr) (cap : Nat) (w : World), cntL l ≤ N → 0 < l.length → l.length ≤ cap → cap ≤ maxLen → St.Row w l a →
    Calls Tryz.prog 37 #[.slice a l.length cap] w fun e w' => e = .returned (.int .i64 (grL l)) ∧ Below w.heap.size w w' := by
  intro N
  induction N with
  | zero => intro l a cap w hN h0; have := len_cnt l; omega
  | succ N ih =>
    intro l a cap w hN h0 hl hc hr
    have hll : l.length ≤ 9223372036854775807 := Nat.le_trans hl hc
    obtain ⟨b, o, rfl⟩ := hr.addr h0
    obtain ⟨k, hk⟩ : ∃ k, k + 1 = l.length := ⟨l.length - 1, by omega⟩
    have hkl : k < l.length := by omega
    obtain ⟨pa, pb, pe, ca, cb, ce, hcs, hw, ha, hbo, hel⟩ := (hr.get k hkl).val
    obtain ⟨c0, c1, c2, c3, c4, c5, c6, c7⟩ := hcs
    have hbl := cell_lt c0
    simp only at hbl
    have hcn : cntL l[k].body ≤ N ∧ cntL l[k].els ≤ N := by
      have h1 := cnt_get hkl
      have h2 := St.cnt_eq l[k]
      omega
    have HG := hide (grL_last l k hkl hk)
    have hkl2 : (l.length : Int) - 1 = (k : Int) := by omega
    have HIB : Hid (∀ W, Below w.heap.size w W → 0 < l[k].body.length → Calls Tryz.prog 37 #[.slice pb l[k].body.length cb] W fun e w' => e = .returned (.int .i64 (grL l[k].body)) ∧ Below W.heap.size W w') := hide fun W hW h0 => ih _ pb cb W hcn.1 h0 hw.lb hw.cb (hbo.keep hW (Nat.le_refl _))
    have HIE : Hid (∀ W, Below w.heap.size w W → 0 < l[k].els.length → Calls Tryz.prog 37 #[.slice pe l[k].els.length ce] W fun e w' => e = .returned (.int .i64 (grL l[k].els)) ∧ Below W.heap.size W w') := hide fun W hW h0 => ih _ pe ce W hcn.2 h0 hw.le hw.ce (hel.keep hW (Nat.le_refl _))
    have hx : (0 : Int) ≤ (k : Int) := by omega
    have hxl : (k : Int) < (l.length : Int) := by omega
    have HE := hide (St.gr_eq l[k])
    have HB := hide ((bl w).al (.cells #[.int .i64 l[k].kind, .int .i64 l[k].no, .string ⟨l[k].name.toArray⟩, .int .i64 l[k].typ, .string ⟨l[k].callee.toArray⟩, .slice pa l[k].args.length ca, .slice pb l[k].body.length cb, .slice pe l[k].els.length ce] 42))
    have hm1 : l[k].els.length ≤ 9223372036854775807 := Nat.le_trans hw.le hw.ce
    have hm2 : l[k].body.length ≤ 9223372036854775807 := Nat.le_trans hw.lb hw.cb
    clear ih hr ha hbo hel hw hN hcn
    have e1 : IntKind.i64.wrap ((l.length : Int) - 1) = (k : Int) := by rw [hkl2]; exact IntWalk.i64_in _ (by omega)
    clear hk hkl2
    by_cases h : 0 < l[k].els.length
    · have HI := hide (HIE.out _ HB.out h)
      have HP : Hid (grL l = grL l[k].els) := hide (by rw [HG.out, HE.out, if_neg]; intro h2; rw [List.isEmpty_iff] at h2; rw [h2] at h; simp at h)
      go_enter Tryz.func37, Tryz.ntmps37
      go_wp2_with fail
      refine HI.out.mono ?_
      rintro r w1 ⟨rfl, hb⟩
      go_wp2_with fail
      go_ret
      exact ⟨ret_int HP.out.symm, HB.out.tr hb⟩
    · have h' : ¬ (0 : Int) < (l[k].els.length : Int) := by omega
      have he : l[k].els.isEmpty = true := by rw [List.isEmpty_iff]; exact List.eq_nil_of_length_eq_zero (by omega)
      by_cases h3 : 0 < l[k].body.length
      · have HI := hide (HIB.out _ HB.out h3)
        have HP : Hid (grL l = grL l[k].body) := hide (by
          rw [HG.out, HE.out, if_pos he, if_neg]
          intro h2; rw [List.isEmpty_iff] at h2; rw [h2] at h3; simp at h3)
        clear he
        go_enter Tryz.func37, Tryz.ntmps37
        go_wp2_with fail
        refine HI.out.mono ?_
        rintro r w1 ⟨rfl, hb⟩
        go_wp2_with fail
        go_ret
        exact ⟨ret_int HP.out.symm, HB.out.tr hb⟩
      · have h3' : ¬ (0 : Int) < (l[k].body.length : Int) := by omega
        have HP : Hid (grL l = l[k].no) := hide (by
          rw [HG.out, HE.out, if_pos he, if_pos (by rw [List.isEmpty_iff]; exact List.eq_nil_of_length_eq_zero (by omega))])
        clear he
        go_enter Tryz.func37, Tryz.ntmps37
        go_wp2_with fail
        go_ret
        exact ⟨ret_int HP.out.symm, HB.out⟩
end Go.Proofs.YtgeleppmhhodiaaGreatDoor
namespace Go.Proofs.YtgeleppmhhodiaaGreatDoor
open Go Go.RowKit
set_option linter.unusedSimpArgs false
set_option linter.unusedVariables false
set_option linter.unnecessarySimpa false
section
variable {α : Type} {P : Program} (w : World)
/-- append of all elements of a slice, at a step of a region that draws its order. -/
theorem step_pushes {ops : Array Oper} {o : Oper} {a : Act} {K : Act → World → Prop} {Q : Exit → Act → World → Prop} {E : Prop} (hgd : o.guard = none) (s x : Operand) (t : TypeId)
    (ho : o.op = .call { callee := .builtin .append, args := #[s, x], argTypes := #[t, t] })
    (base : Nat) (e : TypeId) (i : TypeInfo) (z : Value) (size bytes : Nat) (ht : P.underlying t = some (.slice e)) (hi : P.info? e = some i) (hz : i.zero = some z)
    (hsize : i.size = size) (hby : i.bytes = bytes) (hzs : z.cells.size = size) (hsz : 0 < size)
    (V : World → α → List Value → Prop) (hm : Mono V) (ban : List Nat) (v : Value) (l : List α) (hs : a.eval s = v) (hown : OwnL w base e size V ban v l)
    (pa : Option Addr) (m cp : Nat) (news : List Value) (ms : List α) (hml : m = ms.length) (hx : a.eval x = .slice pa m cp) (hnil : pa = none → ms = [] ∧ cp = 0) (hnews : ∀ ad, pa = some ad → ∀ j u, news[j]? = some u → w.cell? (ad.add j) = some u) (h1 : ∀ u ∈ news, u.oneCell' = true)
    (hv : Cut size (V (av (v.ownBlock.toList ++ ban) w)) ms news) (h63 : l.length + ms.length ≤ maxLen) (hbytes : (l.length + ms.length) * bytes ≤ 140737488355328) (hbase : base ≤ w.heap.size)
    (h : ∀ v' w', OwnL w' base e size V ban v' (l ++ ms) → w.grownBy w' v.ownBlock → K (a.put o.dst v') w') :
    if Region.wanted o (yielded ops a.tmps) = true then Oper.wp P o a w K Q else E := by
  have hw : Region.wanted o (yielded ops a.tmps) = true := by simp [Region.wanted, hgd]
  rw [if_pos hw]
  subst hml
  have hown0 := hown
  obtain ⟨xs, hown, hcut⟩ := hown
  cases pa with
  | none =>
    obtain ⟨rfl, rfl⟩ := hnil rfl
    have hrun := run_append_owned_none (P := P) (w := w) base t o.type e i size ht hi v l.length xs hown
    unfold Oper.wp
    simp only [execOp, ho, resolve, invoke, builtin, hs, hx, List.length_nil]
    simp only [Sem.run_bind, Sem.run_pure, Result.andThen_ok, List.map_toArray, List.map_cons, List.map_nil, hs, hx, List.length_nil, hrun]
    refine h v w ?_ ⟨rfl, rfl, rfl, Nat.le_refl _, fun _ _ _ => rfl⟩
    rw [List.append_nil]
    exact hown0
  | some ad =>
    obtain ⟨v', w', hr, h2, h3, _, h5⟩ := run_append_own_at (P := P) w base t o.type e i z size bytes ht hi hz hsize hby hzs hsz v l.length xs hown ad ms.length cp news hv.len (hnews ad rfl) h1 h63 hbytes hbase
    unfold Oper.wp execOp
    simp only [ho, resolve, invoke, builtin, Sem.run_bind, Sem.run_pure, Result.andThen_ok, List.map_toArray, List.map_cons, List.map_nil, hs, hx, hr]
    exact h v' w' (own_push hm hown hcut h2 h3 h5 hv) h3
end
theorem info_rvr : (Tryz.prog.info? 37).map (fun i => (i.zero, i.size, i.bytes)) = some (some (.agg #[.string ⟨#[]⟩, .int .i64 0, .int .i64 0, .int .i64 0, .int .i64 0]), 5, 48) := by kernel_rfl
/-- The cells of a slice that is somebody's own. -/
theorem own_src {w : World} {base sz : Nat} {e : TypeId} {v : Value} {n : Nat} {xs : List Value} (h : w.ownsRow base e sz v n xs) : ∃ pa cap, v = .slice pa n cap ∧ (pa = none → n = 0 ∧ cap = 0) ∧ ∀ ad, pa = some ad → ∀ j u, xs[j]? = some u → w.cell? (ad.add j) = some u := by
  obtain ⟨hl, ⟨rfl, rfl⟩ | ⟨g, cap, cur, rfl, hg, hh, hle, hcap, hsz, htk⟩⟩ := h
  · exact ⟨none, 0, rfl, fun _ => ⟨rfl, rfl⟩, fun ad e => by cases e⟩
  · refine ⟨_, cap, rfl, (fun e => by cases e), fun ad e j u hu => ?_⟩
    simp only [Option.some.injEq] at e
    subst e
    rw [Addr.add_lit, Nat.zero_add]
    have hj : j < n * sz := by
      have := (List.getElem?_eq_some_iff.1 hu).1
      omega
    rw [← htk, List.getElem?_take_of_lt hj] at hu
    unfold World.cell?
    simp only [hh]
    simpa using hu
theorem vr_one {w : World} : ∀ {l : List Vr} {xs : List Value}, Cut 5 (VrC w) l xs → ∀ u ∈ xs, u.oneCell' = true
  | [], xs, h => by
    simp only [Cut] at h
    subst h
    simp
  | v :: l, xs, h => by
    obtain ⟨c, r, rfl, hc, ⟨rfl, _⟩, hr⟩ := h
    intro u hu
    rcases List.mem_append.1 hu with hu | hu
    · simp only [List.mem_cons, List.not_mem_nil, or_false] at hu
      rcases hu with rfl | rfl | rfl | rfl | rfl <;> rfl
    · exact vr_one hr u hu
theorem own_other' {α : Type} {w : World} {base sz b : Nat} {t t' : TypeId} {V : World → α → List Value → Prop} {ban : List Nat} {v : Value} {l : List α} {C : Array Value} {z : Nat × Nat} (h : OwnL w base t sz V ban v l) (hx : w.heap[b]? = some (.cells C t' z)) (htt : t ≠ t') : ∀ g, v.ownBlock = some g → b ≠ g := by
  obtain ⟨xs, hown, _⟩ := h
  intro g hg hm
  subst hm
  rcases hown.2 with ⟨rfl, _⟩ | ⟨g', cap, cur, rfl, _, hgg, _⟩
  · cases hg
  · simp only [Value.ownBlock, Option.some.injEq] at hg
    subst hg
    rw [hx] at hgg
    simp only [Option.some.injEq, Obj.cells.injEq] at hgg
    exact htt hgg.2.1.symm
theorem vr_cut {w w' : World} {l : List Vr} {xs : List Value} (h : Cut 5 (VrC w) l xs) : Cut 5 (VrC w') l xs := h.mono fun _ _ h => h
def DeclPost (l : List Vr) (w : World) (r : Ending) (w' : World) : Prop := (∃ a cap, r = .returned (.slice a l.length cap) ∧ OwnL w' w.heap.size 37 5 VrC [] (.slice a l.length cap) l) ∧ Below w.heap.size w w'
set_option maxRecDepth 20000 in
set_option maxHeartbeats 8000000 in
theorem declared_any : ∀ (N : Nat) (l : List St) (up : Int) (a : Option Addr) (cap : Nat) (w : World), cntL l ≤ N → cntL l ≤ 200 → (∀ n ∈ nosL l, 0 ≤ n ∧ n < 200) → I64 up → l.length ≤ cap → cap ≤ maxLen → St.Row w l a →
    Calls Tryz.prog 19 #[.slice a l.length cap, .int .i64 up] w (DeclPost (declL l up) w) := by
  intro N
  induction N with
  | zero =>
    intro l up a cap w hN h200 hno hup hl hc hr
    obtain rfl : l = [] := List.eq_nil_of_length_eq_zero (by have := len_cnt l; omega)
    go_enter Tryz.func19, Tryz.ntmps19
    go_wp2_with fail
    go_loopw [5, 6] (fun sv i wr => sv = .slice none 0 0 ∧ i = .int .i64 0 ∧ wr = w) (fun _ i _ => 0)
    case atStart => exact ⟨rfl, rfl, rfl⟩
    case round =>
      obtain ⟨rfl, rfl, rfl⟩ := hrel
      go_wp2_with fail
      go_ret
      exact ⟨⟨none, 0, rfl, OwnL.nil _ _ _ _ _ _⟩, bl _⟩
  | succ N ih =>
    intro l up a cap w hN h200 hno hup hl hc hr
    have hll : l.length ≤ 9223372036854775807 := Nat.le_trans hl hc
    obtain ⟨i0, hi, hz0, hz1, hz2⟩ := info_parts info_rvr
    have HR := hide hr
    have HNO := hide hno
    have HUP := hide hup
    have HC := hide (And.intro hN h200)
    clear hr hno hup hN h200
    go_enter Tryz.func19, Tryz.ntmps19
    go_wp2_with fail
    go_loopw [5, 6] (fun sv i wr => ∃ (k : Nat) (va : Option Addr) (vc : Nat), k ≤ l.length ∧ i = .int .i64 k ∧ sv = .slice va (declL (l.take k) up).length vc ∧ Hid (OwnL wr w.heap.size 37 5 VrC [] (.slice va (declL (l.take k) up).length vc) (declL (l.take k) up)) ∧ Hid (Below w.heap.size w wr)) (fun _ i _ => l.length - (intOf i).toNat)
    case atStart => exact ⟨0, none, 0, Nat.zero_le _, rfl, rfl, hide (OwnL.nil _ _ _ _ _ _), bl _⟩
    case round =>
      obtain ⟨k, va, vc, hk, rfl, rfl, HO, HB⟩ := hrel
      by_cases hlt : k < l.length
      · obtain ⟨b, o, rfl⟩ := HR.out.addr (by omega)
        obtain ⟨pa, pb, pe, ca, cb, ce, hcs, hw, ha, hbo, hel⟩ := (HR.out.get k hlt).val
        obtain ⟨c0, c1, c2, c3, c4, c5, c6, c7⟩ := hcs
        replace c0 := cell_keep c0 HB.out (Nat.le_refl _)
        replace c1 := cell_keep c1 HB.out (Nat.le_refl _)
        replace c2 := cell_keep c2 HB.out (Nat.le_refl _)
        replace c3 := cell_keep c3 HB.out (Nat.le_refl _)
        replace c4 := cell_keep c4 HB.out (Nat.le_refl _)
        replace c5 := cell_keep c5 HB.out (Nat.le_refl _)
        replace c6 := cell_keep c6 HB.out (Nat.le_refl _)
        replace c7 := cell_keep c7 HB.out (Nat.le_refl _)
        have hbl := cell_lt c0
        simp only at hbl
        have hcn : cntL l[k].body ≤ N ∧ cntL l[k].els ≤ N ∧ cntL l[k].body ≤ 200 ∧ cntL l[k].els ≤ 200 := by
          have h1 := cnt_get hlt
          have h2 := St.cnt_eq l[k]
          have h3 := HC.out.1
          have h4 := HC.out.2
          omega
        have hsub : ∀ n ∈ l[k].nos, 0 ≤ n ∧ n < 200 := fun n hn => HNO.out n (nosL_get hlt n hn)
        rw [St.nos_eq] at hsub
        have hno := hsub l[k].no (by simp)
        have hnb : ∀ n ∈ nosL l[k].body, 0 ≤ n ∧ n < 200 := fun n hn => hsub n (by simp [hn])
        have hne : ∀ n ∈ nosL l[k].els, 0 ≤ n ∧ n < 200 := fun n hn => hsub n (by simp [hn])
        have hgb : 0 ≤ grL l[k].body ∧ grL l[k].body < 200 := by
          by_cases h : l[k].body = []
          · rw [h]; simp [grL]
          · exact hnb _ (grL_mem _ h)
        have hge : 0 ≤ grL l[k].els ∧ grL l[k].els < 200 := by
          by_cases h : l[k].els = []
          · rw [h]; simp [grL]
          · exact hne _ (grL_mem _ h)
        have HLB := hide fun (W : World) (hW : Below w.heap.size w W) (h0 : 0 < l[k].body.length) => refLast_any (cntL l[k].body) l[k].body pb cb W (Nat.le_refl _) h0 hw.lb hw.cb (hbo.keep hW (Nat.le_refl _))
        have HLE := hide fun (W : World) (hW : Below w.heap.size w W) (h0 : 0 < l[k].els.length) => refLast_any (cntL l[k].els) l[k].els pe ce W (Nat.le_refl _) h0 hw.le hw.ce (hel.keep hW (Nat.le_refl _))
        have HDB := hide fun (W : World) (hW : Below w.heap.size w W) => ih l[k].body (grL l[k].body + 1) pb cb W hcn.1 hcn.2.2.1 hnb (by unfold I64; omega) hw.lb hw.cb (hbo.keep hW (Nat.le_refl _))
        have HDE := hide fun (W : World) (hW : Below w.heap.size w W) => ih l[k].els (grL l[k].els + 1) pe ce W hcn.2.1 hcn.2.2.2 hne (by unfold I64; omega) hw.le hw.ce (hel.keep hW (Nat.le_refl _))
        have m1 : IntKind.i64.wrap (l[k].no + 1) = l[k].no + 1 := IntWalk.i64_in _ (by omega)
        have m2 : IntKind.i64.wrap (grL l[k].body + 1) = grL l[k].body + 1 := IntWalk.i64_in _ (by omega)
        have m3 : IntKind.i64.wrap (grL l[k].els + 1) = grL l[k].els + 1 := IntWalk.i64_in _ (by omega)
        have hlb : l[k].body.length ≤ 9223372036854775807 := Nat.le_trans hw.lb hw.cb
        have hle : l[k].els.length ≤ 9223372036854775807 := Nat.le_trans hw.le hw.ce
        have HDK := hide (declL_take l up k hlt)
        have HDS := hide (St.decl_eq l[k] up)
        have HLEN : Hid ((declL (l.take (k + 1)) up).length ≤ 200) := hide (by
          have h1 := declL_len (l.take (k + 1)) up
          have h2 : cntL (l.take (k + 1)) ≤ cntL l := by
            have := cntL_app (l.take (k + 1)) (l.drop (k + 1))
            rw [List.take_append_drop] at this
            omega
          have h4 := HC.out.2
          omega)
        have hwn := hw.n
        have hwt := hw.t
        have hws := hw.s
        have hvw : Vr.wf ⟨l[k].name, l[k].typ, l[k].no, l[k].no + 1, up⟩ := ⟨hws, hwt, hwn, (by unfold I64; simp only; omega), HUP.out⟩
        have HVC : Hid (∀ W, VrC W ⟨l[k].name, l[k].typ, l[k].no, l[k].no + 1, up⟩ [.string ⟨l[k].name.toArray⟩, .int .i64 l[k].typ, .int .i64 l[k].no, .int .i64 (l[k].no + 1), .int .i64 up]) := hide (fun _ => ⟨rfl, hvw⟩)
        have HX := hide (heap_alloc_new wr (.cells #[.int .i64 l[k].kind, .int .i64 l[k].no, .string ⟨l[k].name.toArray⟩, .int .i64 l[k].typ, .string ⟨l[k].callee.toArray⟩, .slice pa l[k].args.length ca, .slice pb l[k].body.length cb, .slice pe l[k].els.length ce] 42))
        have HO2 := hide (HO.out.al VrC.mono (.cells #[.int .i64 l[k].kind, .int .i64 l[k].no, .string ⟨l[k].name.toArray⟩, .int .i64 l[k].typ, .string ⟨l[k].callee.toArray⟩, .slice pa l[k].args.length ca, .slice pb l[k].body.length cb, .slice pe l[k].els.length ce] 42))
        have HB2 := hide (HB.out.al (.cells #[.int .i64 l[k].kind, .int .i64 l[k].no, .string ⟨l[k].name.toArray⟩, .int .i64 l[k].typ, .string ⟨l[k].callee.toArray⟩, .slice pa l[k].args.length ca, .slice pb l[k].body.length cb, .slice pe l[k].els.length ce] 42))
        clear hcn hsub hno hnb hne hgb hge ha hbo hel hw hwn hwt hws hvw
        by_cases hk1 : l[k].kind = 1
        · have hk2 : (l[k].kind == 1) = true := by simpa using hk1
          have hll2 : (declL (l.take k) up).length ≤ 200 := by
            have h1 := HLEN.out
            rw [HDK.out, List.length_append] at h1
            omega
          have HMA : Hid ((declL (l.take k) up).length + 1 ≤ maxLen) := hide (by unfold maxLen; omega)
          have HMB : Hid (((declL (l.take k) up).length + 1) * 48 ≤ 140737488355328) := hide (by omega)
          have HO3 := hide (HO2.out.al VrC.mono (.cells #[.string ⟨l[k].name.toArray⟩, .int .i64 l[k].typ, .int .i64 l[k].no, .int .i64 (l[k].no + 1), .int .i64 up] 37))
          have HNW := hide (news_row (wr.alloc (.cells #[.int .i64 l[k].kind, .int .i64 l[k].no, .string ⟨l[k].name.toArray⟩, .int .i64 l[k].typ, .string ⟨l[k].callee.toArray⟩, .slice pa l[k].args.length ca, .slice pb l[k].body.length cb, .slice pe l[k].els.length ce] 42)) [.string ⟨l[k].name.toArray⟩, .int .i64 l[k].typ, .int .i64 l[k].no, .int .i64 (l[k].no + 1), .int .i64 up] 37 (wr.heap.size + 1) (by simp))
          have HSZ : Hid (w.heap.size ≤ ((wr.alloc (.cells #[.int .i64 l[k].kind, .int .i64 l[k].no, .string ⟨l[k].name.toArray⟩, .int .i64 l[k].typ, .string ⟨l[k].callee.toArray⟩, .slice pa l[k].args.length ca, .slice pb l[k].body.length cb, .slice pe l[k].els.length ce] 42)).alloc (.cells #[.string ⟨l[k].name.toArray⟩, .int .i64 l[k].typ, .int .i64 l[k].no, .int .i64 (l[k].no + 1), .int .i64 up] 37)).heap.size) := hide (by have := HB.out.size; simp; omega)
          have HLC0 : Hid (declL (l.take (k + 1)) up = (declL (l.take k) up ++ [⟨l[k].name, l[k].typ, l[k].no, l[k].no + 1, up⟩]) ++ (declL l[k].body (grL l[k].body + 1) ++ declL l[k].els (grL l[k].els + 1))) := hide (by rw [HDK.out, HDS.out, if_pos hk1, List.append_assoc])
          have hbn : ∀ g, (Value.slice va (declL (l.take k) up).length vc).ownBlock = some g → wr.heap.size ≠ g := own_other' HO2.out HX.out (by decide)
          have HBN := hide hbn
          clear hk1 hll2 hbn
          go_upto_region 8 with (at_builtin; refine wpList_push _ rfl _ _ 33 rfl w.heap.size 37 i0 _ 5 48 Tryz.underlying33 hi hz0 hz1 hz2 rfl (by decide) VrC VrC.mono [] _ _ rfl HO3.out ⟨wr.heap.size + 1, 0, none⟩ 1 [.string ⟨l[k].name.toArray⟩, .int .i64 l[k].typ, .int .i64 l[k].no, .int .i64 (l[k].no + 1), .int .i64 up] ⟨l[k].name, l[k].typ, l[k].no, l[k].no + 1, up⟩ rfl rfl HNW.out (by simp [Value.oneCell']) (HVC.out _) HMA.out HMB.out HSZ.out ?_; intro v2 w2 hown2 hgrow2; obtain ⟨va2, vc2, he2, -, -⟩ := hown2.slice; subst he2)
          obtain ⟨Lc, hLc⟩ : ∃ Lc, Lc = declL (l.take k) up ++ [⟨l[k].name, l[k].typ, l[k].no, l[k].no + 1, up⟩] := ⟨_, rfl⟩
          have hLl : (declL (l.take k) up).length + 1 = Lc.length := by rw [hLc, List.length_append]; rfl
          rw [← hLc] at hown2 HLC0
          rw [hLl]
          clear hLl
          have HOc := hide hown2
          have HLC := HLC0
          have HXc := hide ((hgrow2.block _ (by simp <;> omega) (fun e => HBN.out _ e.symm rfl)).trans ((Below.heap_alloc _ (.cells #[.string ⟨l[k].name.toArray⟩, .int .i64 l[k].typ, .int .i64 l[k].no, .int .i64 (l[k].no + 1), .int .i64 up] 37) _ (by simp)).trans HX.out))
          have HBc := hide ((HB2.out.al (.cells #[.string ⟨l[k].name.toArray⟩, .int .i64 l[k].typ, .int .i64 l[k].no, .int .i64 (l[k].no + 1), .int .i64 up] 37)).grown hgrow2 HSZ.out (fun g hg => (HO3.out.lt g hg).1))
          clear hown2 hgrow2 hLc HBN HO2 HO3 HX HB2 HO HDS HDK HLC0
          have HSUM : Hid (Lc.length + (declL l[k].body (grL l[k].body + 1)).length + (declL l[k].els (grL l[k].els + 1)).length ≤ 200) := hide (by
            have h1 := HLEN.out
            rw [HLC.out, List.length_append, List.length_append] at h1
            omega)
          have x6 := cell_at (j := 6) HXc.out rfl
          have x7 := cell_at (j := 7) HXc.out rfl
          have hxl := (Array.getElem?_eq_some_iff.1 HXc.out).1
          by_cases hb0 : 0 < l[k].body.length
          · go_upto_region 9 with fail
            have hxc := HXc.out
            have xs := cell_at (j := 6) hxc rfl
            have hnb := own_other' HOc.out hxc (by decide)
            have HNB := hide hnb
            clear hnb hxc
            refine wp_region_held_drew (S := fun W => W.cell? ⟨wr.heap.size, 6, none⟩ = some (.slice pb l[k].body.length cb)) (by kernel_rfl) xs (fun hHeld => ?_)
            refine wpAnyH_take (i := 0) (v := ?_) (by simp only [List.getElem?_toArray, List.getElem?_cons_succ, List.getElem?_cons_zero]; rfl) (by kernel_rfl) (by kernel_rfl) (by kernel_rfl) (by exact fun _ _ _ h => h) (Or.inl ⟨by rfl, ?_⟩) (by assumption) ?_
            rotate_left 1
            · ((intro w hSw; (try dsimp only at hSw); go_simp) <;> with_reducible rfl)
            try simp only [Act.put, List.setIfInBounds_toArray, List.set_cons_zero, List.set_cons_succ]
            refine wpAnyH_take (i := 1) (v := ?_) (by simp only [List.getElem?_toArray, List.getElem?_cons_succ, List.getElem?_cons_zero]; rfl) (by kernel_rfl) (by kernel_rfl) (by kernel_rfl) (by exact fun _ _ _ h => h) (Or.inl ⟨by rfl, ?_⟩) (by assumption) ?_
            rotate_left 1
            · ((intro w hSw; (try dsimp only at hSw); go_simp) <;> with_reducible rfl)
            try simp only [Act.put, List.setIfInBounds_toArray, List.set_cons_zero, List.set_cons_succ]
            refine wpAnyH_take (i := 2) (v := ?_) (by simp only [List.getElem?_toArray, List.getElem?_cons_succ, List.getElem?_cons_zero]; rfl) (by kernel_rfl) (by kernel_rfl) (by kernel_rfl) (by exact fun _ _ _ h => h) (Or.inl ⟨by rfl, ?_⟩) (by assumption) ?_
            rotate_left 1
            · ((intro w hSw; (try dsimp only at hSw); go_simp) <;> with_reducible rfl)
            try simp only [Act.put, List.setIfInBounds_toArray, List.set_cons_zero, List.set_cons_succ]
            refine wpAnyH_take (i := 3) (v := ?_) (by simp only [List.getElem?_toArray, List.getElem?_cons_succ, List.getElem?_cons_zero]; rfl) (by kernel_rfl) (by kernel_rfl) (by kernel_rfl) (by exact fun _ _ _ h => h) (Or.inl ⟨by rfl, ?_⟩) (by assumption) ?_
            rotate_left 1
            · ((intro w hSw; (try dsimp only at hSw); go_simp) <;> with_reducible rfl)
            try simp only [Act.put, List.setIfInBounds_toArray, List.set_cons_zero, List.set_cons_succ]
            refine wpAnyH_take (i := 4) (v := ?_) (by simp only [List.getElem?_toArray, List.getElem?_cons_succ, List.getElem?_cons_zero]; rfl) (by kernel_rfl) (by kernel_rfl) (by kernel_rfl) (by exact fun _ _ _ h => h) (Or.inl ⟨by rfl, ?_⟩) (by assumption) ?_
            rotate_left 1
            · ((intro w hSw; (try dsimp only at hSw); go_simp) <;> with_reducible rfl)
            try simp only [Act.put, List.setIfInBounds_toArray, List.set_cons_zero, List.set_cons_succ]
            refine wpAnyH_ready (rs := [5]) (by kernel_rfl) (by simp) ?_
            refine AllReadyH.cons rfl (fun K hK => ?_) AllReadyH.nil
            go_simp
            refine (HLB.out _ (HBc.out.tr (bl _).dr) hb0).mono ?_
            rintro r w3 ⟨rfl, hb3⟩
            have hb3 := (bl _).dr.tr hb3
            refine hK.out _ _ (cell_keep xs hb3 (Nat.le_refl _)) (fun hHeld => ?_)
            clear hK K
            try simp only [Act.put, List.setIfInBounds_toArray, List.set_cons_zero, List.set_cons_succ]
            refine wpAnyH_take (i := 6) (v := ?_) (by simp only [List.getElem?_toArray, List.getElem?_cons_succ, List.getElem?_cons_zero]; rfl) (by kernel_rfl) (by kernel_rfl) (by kernel_rfl) (by exact fun _ _ _ h => h) (Or.inl ⟨by rfl, ?_⟩) (by assumption) ?_
            rotate_left 1
            · ((intro w hSw; (try dsimp only at hSw); go_simp) <;> with_reducible rfl)
            try simp only [Act.put, List.setIfInBounds_toArray, List.set_cons_zero, List.set_cons_succ]
            refine wpAnyH_ready (rs := [7]) (by kernel_rfl) (by simp) ?_
            refine AllReadyH.cons rfl (fun K hK => ?_) AllReadyH.nil
            go_simp
            refine (HDB.out _ (HBc.out.tr hb3)).mono ?_
            rintro r w4 ⟨⟨ra, rc, rfl, hro⟩, hb4⟩
            have hb34 := hb3.tr hb4
            refine hK.out _ _ (cell_keep xs hb34 (Nat.le_refl _)) (fun hHeld => ?_)
            clear hK K
            try simp only [Act.put, List.setIfInBounds_toArray, List.set_cons_zero, List.set_cons_succ]
            refine wpAnyH_ready (rs := [8]) (by kernel_rfl) (by simp) ?_
            refine AllReadyH.cons rfl (fun K hK => ?_) AllReadyH.nil
            obtain ⟨xs', hown, hcut⟩ := hro
            obtain ⟨pa', cap', he, hnil, hcell⟩ := own_src hown
            simp only [Value.slice.injEq, true_and] at he
            obtain ⟨rfl, rfl⟩ := he
            have hsum := HSUM.out
            refine step_pushes _ (by rfl) _ _ 33 (by rfl) w.heap.size 37 i0 _ 5 48 Tryz.underlying33 hi hz0 hz1 hz2 (by rfl) (Nat.succ_pos _) VrC VrC.mono [] _ Lc (by rfl) (HOc.out.below VrC.mono hb34) ra _ rc xs' (declL l[k].body (grL l[k].body + 1)) rfl (by rfl) (fun e => ⟨List.eq_nil_of_length_eq_zero (hnil e).1, (hnil e).2⟩) hcell (vr_one (vr_cut (w' := w4) hcut)) (vr_cut hcut) (by unfold maxLen; omega) (by omega) (HBc.out.tr hb34).size ?_
            intro v' w6 hown6 hgrow
            obtain ⟨va6, vc6, he6, -, -⟩ := hown6.slice
            have hx6 := (hgrow.block _ (Nat.lt_of_lt_of_le hxl hb34.size) (fun e => HNB.out _ e.symm rfl)).trans ((hb34.block _ hxl).trans HXc.out)
            have HB6 := hide ((HBc.out.tr hb34).grown hgrow (HBc.out.tr hb34).size (fun g hg => (HOc.out.lt g hg).1))
            obtain ⟨L2, hL2⟩ : ∃ Lz, Lz = Lc ++ declL l[k].body (grL l[k].body + 1) := ⟨_, rfl⟩
            rw [← hL2] at hown6 he6
            have HO6 := hide hown6
            have HL2 := hide hL2
            have HX6 := hide hx6
            subst he6
            refine hK.out _ _ (cell_at (j := 6) hx6 rfl) (fun hHeld => ?_)
            clear hK K hown6 hgrow hcell hnil hcut hown hb3 hb4 hb34 hL2 hx6 hsum
            try simp only [Act.put, List.setIfInBounds_toArray, List.set_cons_zero, List.set_cons_succ]
            refine wpAnyH_take (i := 9) (v := ?_) (by simp only [List.getElem?_toArray, List.getElem?_cons_succ, List.getElem?_cons_zero]; rfl) (by kernel_rfl) (by kernel_rfl) (by kernel_rfl) (by exact fun _ _ _ h => h) (Or.inl ⟨by rfl, ?_⟩) (by assumption) ?_
            rotate_left 1
            · ((intro w hSw; (try dsimp only at hSw); go_simp) <;> with_reducible rfl)
            try simp only [Act.put, List.setIfInBounds_toArray, List.set_cons_zero, List.set_cons_succ]
            refine wpAnyH_done (by kernel_rfl) ?_ _
            clear hHeld xs
            have HLD : Hid (declL (l.take (k + 1)) up = L2 ++ declL l[k].els (grL l[k].els + 1)) := hide (by rw [HLC.out, HL2.out, List.append_assoc])
            clear x6 x7 hxl HSUM HLC HL2 HOc HXc HBc HLB HDB
            have HSUM : Hid (L2.length + (declL l[k].els (grL l[k].els + 1)).length ≤ 200) := hide (by
              have h1 := HLEN.out
              rw [HLD.out, List.length_append] at h1
              omega)
            have HOc := HO6
            have HXc := HX6
            have HBc := HB6
            clear HO6 HX6 HB6
            have x7 := cell_at (j := 7) HXc.out rfl
            have hxl := (Array.getElem?_eq_some_iff.1 HXc.out).1
            by_cases he0 : 0 < l[k].els.length
            · go_upto_region 11 with fail
              have hxc := HXc.out
              have xs := cell_at (j := 7) hxc rfl
              have hnb := own_other' HOc.out hxc (by decide)
              have HNB := hide hnb
              clear hnb hxc
              refine wp_region_held_drew (S := fun W => W.cell? ⟨wr.heap.size, 7, none⟩ = some (.slice pe l[k].els.length ce)) (by kernel_rfl) xs (fun hHeld => ?_)
              refine wpAnyH_take (i := 0) (v := ?_) (by simp only [List.getElem?_toArray, List.getElem?_cons_succ, List.getElem?_cons_zero]; rfl) (by kernel_rfl) (by kernel_rfl) (by kernel_rfl) (by exact fun _ _ _ h => h) (Or.inl ⟨by rfl, ?_⟩) (by assumption) ?_
              rotate_left 1
              · ((intro w hSw; (try dsimp only at hSw); go_simp) <;> with_reducible rfl)
              try simp only [Act.put, List.setIfInBounds_toArray, List.set_cons_zero, List.set_cons_succ]
              refine wpAnyH_take (i := 1) (v := ?_) (by simp only [List.getElem?_toArray, List.getElem?_cons_succ, List.getElem?_cons_zero]; rfl) (by kernel_rfl) (by kernel_rfl) (by kernel_rfl) (by exact fun _ _ _ h => h) (Or.inl ⟨by rfl, ?_⟩) (by assumption) ?_
              rotate_left 1
              · ((intro w hSw; (try dsimp only at hSw); go_simp) <;> with_reducible rfl)
              try simp only [Act.put, List.setIfInBounds_toArray, List.set_cons_zero, List.set_cons_succ]
              refine wpAnyH_take (i := 2) (v := ?_) (by simp only [List.getElem?_toArray, List.getElem?_cons_succ, List.getElem?_cons_zero]; rfl) (by kernel_rfl) (by kernel_rfl) (by kernel_rfl) (by exact fun _ _ _ h => h) (Or.inl ⟨by rfl, ?_⟩) (by assumption) ?_
              rotate_left 1
              · ((intro w hSw; (try dsimp only at hSw); go_simp) <;> with_reducible rfl)
              try simp only [Act.put, List.setIfInBounds_toArray, List.set_cons_zero, List.set_cons_succ]
              refine wpAnyH_take (i := 3) (v := ?_) (by simp only [List.getElem?_toArray, List.getElem?_cons_succ, List.getElem?_cons_zero]; rfl) (by kernel_rfl) (by kernel_rfl) (by kernel_rfl) (by exact fun _ _ _ h => h) (Or.inl ⟨by rfl, ?_⟩) (by assumption) ?_
              rotate_left 1
              · ((intro w hSw; (try dsimp only at hSw); go_simp) <;> with_reducible rfl)
              try simp only [Act.put, List.setIfInBounds_toArray, List.set_cons_zero, List.set_cons_succ]
              refine wpAnyH_take (i := 4) (v := ?_) (by simp only [List.getElem?_toArray, List.getElem?_cons_succ, List.getElem?_cons_zero]; rfl) (by kernel_rfl) (by kernel_rfl) (by kernel_rfl) (by exact fun _ _ _ h => h) (Or.inl ⟨by rfl, ?_⟩) (by assumption) ?_
              rotate_left 1
              · ((intro w hSw; (try dsimp only at hSw); go_simp) <;> with_reducible rfl)
              try simp only [Act.put, List.setIfInBounds_toArray, List.set_cons_zero, List.set_cons_succ]
              refine wpAnyH_ready (rs := [5]) (by kernel_rfl) (by simp) ?_
              refine AllReadyH.cons rfl (fun K hK => ?_) AllReadyH.nil
              go_simp
              refine (HLE.out _ (HBc.out.tr (bl _).dr) he0).mono ?_
              rintro r w3 ⟨rfl, hb3⟩
              have hb3 := (bl _).dr.tr hb3
              refine hK.out _ _ (cell_keep xs hb3 (Nat.le_refl _)) (fun hHeld => ?_)
              clear hK K
              try simp only [Act.put, List.setIfInBounds_toArray, List.set_cons_zero, List.set_cons_succ]
              refine wpAnyH_take (i := 6) (v := ?_) (by simp only [List.getElem?_toArray, List.getElem?_cons_succ, List.getElem?_cons_zero]; rfl) (by kernel_rfl) (by kernel_rfl) (by kernel_rfl) (by exact fun _ _ _ h => h) (Or.inl ⟨by rfl, ?_⟩) (by assumption) ?_
              rotate_left 1
              · ((intro w hSw; (try dsimp only at hSw); go_simp) <;> with_reducible rfl)
              try simp only [Act.put, List.setIfInBounds_toArray, List.set_cons_zero, List.set_cons_succ]
              refine wpAnyH_ready (rs := [7]) (by kernel_rfl) (by simp) ?_
              refine AllReadyH.cons rfl (fun K hK => ?_) AllReadyH.nil
              go_simp
              refine (HDE.out _ (HBc.out.tr hb3)).mono ?_
              rintro r w4 ⟨⟨ra, rc, rfl, hro⟩, hb4⟩
              have hb34 := hb3.tr hb4
              refine hK.out _ _ (cell_keep xs hb34 (Nat.le_refl _)) (fun hHeld => ?_)
              clear hK K
              try simp only [Act.put, List.setIfInBounds_toArray, List.set_cons_zero, List.set_cons_succ]
              refine wpAnyH_ready (rs := [8]) (by kernel_rfl) (by simp) ?_
              refine AllReadyH.cons rfl (fun K hK => ?_) AllReadyH.nil
              obtain ⟨xs', hown, hcut⟩ := hro
              obtain ⟨pa', cap', he, hnil, hcell⟩ := own_src hown
              simp only [Value.slice.injEq, true_and] at he
              obtain ⟨rfl, rfl⟩ := he
              have hsum := HSUM.out
              refine step_pushes _ (by rfl) _ _ 33 (by rfl) w.heap.size 37 i0 _ 5 48 Tryz.underlying33 hi hz0 hz1 hz2 (by rfl) (Nat.succ_pos _) VrC VrC.mono [] _ L2 (by rfl) (HOc.out.below VrC.mono hb34) ra _ rc xs' (declL l[k].els (grL l[k].els + 1)) rfl (by rfl) (fun e => ⟨List.eq_nil_of_length_eq_zero (hnil e).1, (hnil e).2⟩) hcell (vr_one (vr_cut (w' := w4) hcut)) (vr_cut hcut) (by unfold maxLen; omega) (by omega) (HBc.out.tr hb34).size ?_
              intro v' w6 hown6 hgrow
              obtain ⟨va6, vc6, he6, -, -⟩ := hown6.slice
              have hx6 := (hgrow.block _ (Nat.lt_of_lt_of_le hxl hb34.size) (fun e => HNB.out _ e.symm rfl)).trans ((hb34.block _ hxl).trans HXc.out)
              have HB6 := hide ((HBc.out.tr hb34).grown hgrow (HBc.out.tr hb34).size (fun g hg => (HOc.out.lt g hg).1))
              obtain ⟨L2, hL2⟩ : ∃ Lz, Lz = L2 ++ declL l[k].els (grL l[k].els + 1) := ⟨_, rfl⟩
              rw [← hL2] at hown6 he6
              have HO6 := hide hown6
              have HL2 := hide hL2
              have HX6 := hide hx6
              subst he6
              refine hK.out _ _ (cell_at (j := 7) hx6 rfl) (fun hHeld => ?_)
              clear hK K hown6 hgrow hcell hnil hcut hown hb3 hb4 hb34 hL2 hx6 hsum
              try simp only [Act.put, List.setIfInBounds_toArray, List.set_cons_zero, List.set_cons_succ]
              refine wpAnyH_take (i := 9) (v := ?_) (by simp only [List.getElem?_toArray, List.getElem?_cons_succ, List.getElem?_cons_zero]; rfl) (by kernel_rfl) (by kernel_rfl) (by kernel_rfl) (by exact fun _ _ _ h => h) (Or.inl ⟨by rfl, ?_⟩) (by assumption) ?_
              rotate_left 1
              · ((intro w hSw; (try dsimp only at hSw); go_simp) <;> with_reducible rfl)
              try simp only [Act.put, List.setIfInBounds_toArray, List.set_cons_zero, List.set_cons_succ]
              refine wpAnyH_done (by kernel_rfl) ?_ _
              clear hHeld xs
              have HLF : Hid (declL (l.take (k + 1)) up = L2) := hide (by rw [HLD.out, HL2.out])
              clear x7 hxl HSUM HLD HL2 HOc HXc HBc HLE HDE
              go_wp2_with fail
              go_roundw
              case rel => exact ⟨k + 1, _, _, by omega, by go_num, by rw [HLF.out], hide (by rw [HLF.out]; exact HO6.out), HB6⟩
              case measure => simp [intOf]; omega
            · have h'' : ¬ (0 : Int) < (l[k].els.length : Int) := by omega
              have HLF : Hid (declL (l.take (k + 1)) up = L2) := hide (by rw [HLD.out, List.eq_nil_of_length_eq_zero (l := l[k].els) (by omega)]; exact List.append_nil _)
              clear HSUM HLD HLE HDE he0
              go_wp2_with fail
              go_roundw
              case rel => exact ⟨k + 1, _, _, by omega, by go_num, by rw [HLF.out], hide (by rw [HLF.out]; exact HOc.out), HBc⟩
              case measure => simp [intOf]; omega
          · have h' : ¬ (0 : Int) < (l[k].body.length : Int) := by omega
            have HLD : Hid (declL (l.take (k + 1)) up = Lc ++ declL l[k].els (grL l[k].els + 1)) := hide (by rw [HLC.out, List.eq_nil_of_length_eq_zero (l := l[k].body) (by omega)]; rfl)
            have HO6 := HOc
            have HX6 := HXc
            have HB6 := HBc
            clear HSUM HLC HOc HXc HBc HLB HDB hb0
            have HSUM : Hid (Lc.length + (declL l[k].els (grL l[k].els + 1)).length ≤ 200) := hide (by
              have h1 := HLEN.out
              rw [HLD.out, List.length_append] at h1
              omega)
            have HOc := HO6
            have HXc := HX6
            have HBc := HB6
            clear HO6 HX6 HB6
            have x7 := cell_at (j := 7) HXc.out rfl
            have hxl := (Array.getElem?_eq_some_iff.1 HXc.out).1
            by_cases he0 : 0 < l[k].els.length
            · go_upto_region 11 with fail
              have hxc := HXc.out
              have xs := cell_at (j := 7) hxc rfl
              have hnb := own_other' HOc.out hxc (by decide)
              have HNB := hide hnb
              clear hnb hxc
              refine wp_region_held_drew (S := fun W => W.cell? ⟨wr.heap.size, 7, none⟩ = some (.slice pe l[k].els.length ce)) (by kernel_rfl) xs (fun hHeld => ?_)
              refine wpAnyH_take (i := 0) (v := ?_) (by simp only [List.getElem?_toArray, List.getElem?_cons_succ, List.getElem?_cons_zero]; rfl) (by kernel_rfl) (by kernel_rfl) (by kernel_rfl) (by exact fun _ _ _ h => h) (Or.inl ⟨by rfl, ?_⟩) (by assumption) ?_
              rotate_left 1
              · ((intro w hSw; (try dsimp only at hSw); go_simp) <;> with_reducible rfl)
              try simp only [Act.put, List.setIfInBounds_toArray, List.set_cons_zero, List.set_cons_succ]
              refine wpAnyH_take (i := 1) (v := ?_) (by simp only [List.getElem?_toArray, List.getElem?_cons_succ, List.getElem?_cons_zero]; rfl) (by kernel_rfl) (by kernel_rfl) (by kernel_rfl) (by exact fun _ _ _ h => h) (Or.inl ⟨by rfl, ?_⟩) (by assumption) ?_
              rotate_left 1
              · ((intro w hSw; (try dsimp only at hSw); go_simp) <;> with_reducible rfl)
              try simp only [Act.put, List.setIfInBounds_toArray, List.set_cons_zero, List.set_cons_succ]
              refine wpAnyH_take (i := 2) (v := ?_) (by simp only [List.getElem?_toArray, List.getElem?_cons_succ, List.getElem?_cons_zero]; rfl) (by kernel_rfl) (by kernel_rfl) (by kernel_rfl) (by exact fun _ _ _ h => h) (Or.inl ⟨by rfl, ?_⟩) (by assumption) ?_
              rotate_left 1
              · ((intro w hSw; (try dsimp only at hSw); go_simp) <;> with_reducible rfl)
              try simp only [Act.put, List.setIfInBounds_toArray, List.set_cons_zero, List.set_cons_succ]
              refine wpAnyH_take (i := 3) (v := ?_) (by simp only [List.getElem?_toArray, List.getElem?_cons_succ, List.getElem?_cons_zero]; rfl) (by kernel_rfl) (by kernel_rfl) (by kernel_rfl) (by exact fun _ _ _ h => h) (Or.inl ⟨by rfl, ?_⟩) (by assumption) ?_
              rotate_left 1
              · ((intro w hSw; (try dsimp only at hSw); go_simp) <;> with_reducible rfl)
              try simp only [Act.put, List.setIfInBounds_toArray, List.set_cons_zero, List.set_cons_succ]
              refine wpAnyH_take (i := 4) (v := ?_) (by simp only [List.getElem?_toArray, List.getElem?_cons_succ, List.getElem?_cons_zero]; rfl) (by kernel_rfl) (by kernel_rfl) (by kernel_rfl) (by exact fun _ _ _ h => h) (Or.inl ⟨by rfl, ?_⟩) (by assumption) ?_
              rotate_left 1
              · ((intro w hSw; (try dsimp only at hSw); go_simp) <;> with_reducible rfl)
              try simp only [Act.put, List.setIfInBounds_toArray, List.set_cons_zero, List.set_cons_succ]
              refine wpAnyH_ready (rs := [5]) (by kernel_rfl) (by simp) ?_
              refine AllReadyH.cons rfl (fun K hK => ?_) AllReadyH.nil
              go_simp
              refine (HLE.out _ (HBc.out.tr (bl _).dr) he0).mono ?_
              rintro r w3 ⟨rfl, hb3⟩
              have hb3 := (bl _).dr.tr hb3
              refine hK.out _ _ (cell_keep xs hb3 (Nat.le_refl _)) (fun hHeld => ?_)
              clear hK K
              try simp only [Act.put, List.setIfInBounds_toArray, List.set_cons_zero, List.set_cons_succ]
              refine wpAnyH_take (i := 6) (v := ?_) (by simp only [List.getElem?_toArray, List.getElem?_cons_succ, List.getElem?_cons_zero]; rfl) (by kernel_rfl) (by kernel_rfl) (by kernel_rfl) (by exact fun _ _ _ h => h) (Or.inl ⟨by rfl, ?_⟩) (by assumption) ?_
              rotate_left 1
              · ((intro w hSw; (try dsimp only at hSw); go_simp) <;> with_reducible rfl)
              try simp only [Act.put, List.setIfInBounds_toArray, List.set_cons_zero, List.set_cons_succ]
              refine wpAnyH_ready (rs := [7]) (by kernel_rfl) (by simp) ?_
              refine AllReadyH.cons rfl (fun K hK => ?_) AllReadyH.nil
              go_simp
              refine (HDE.out _ (HBc.out.tr hb3)).mono ?_
              rintro r w4 ⟨⟨ra, rc, rfl, hro⟩, hb4⟩
              have hb34 := hb3.tr hb4
              refine hK.out _ _ (cell_keep xs hb34 (Nat.le_refl _)) (fun hHeld => ?_)
              clear hK K
              try simp only [Act.put, List.setIfInBounds_toArray, List.set_cons_zero, List.set_cons_succ]
              refine wpAnyH_ready (rs := [8]) (by kernel_rfl) (by simp) ?_
              refine AllReadyH.cons rfl (fun K hK => ?_) AllReadyH.nil
              obtain ⟨xs', hown, hcut⟩ := hro
              obtain ⟨pa', cap', he, hnil, hcell⟩ := own_src hown
              simp only [Value.slice.injEq, true_and] at he
              obtain ⟨rfl, rfl⟩ := he
              have hsum := HSUM.out
              refine step_pushes _ (by rfl) _ _ 33 (by rfl) w.heap.size 37 i0 _ 5 48 Tryz.underlying33 hi hz0 hz1 hz2 (by rfl) (Nat.succ_pos _) VrC VrC.mono [] _ Lc (by rfl) (HOc.out.below VrC.mono hb34) ra _ rc xs' (declL l[k].els (grL l[k].els + 1)) rfl (by rfl) (fun e => ⟨List.eq_nil_of_length_eq_zero (hnil e).1, (hnil e).2⟩) hcell (vr_one (vr_cut (w' := w4) hcut)) (vr_cut hcut) (by unfold maxLen; omega) (by omega) (HBc.out.tr hb34).size ?_
              intro v' w6 hown6 hgrow
              obtain ⟨va6, vc6, he6, -, -⟩ := hown6.slice
              have hx6 := (hgrow.block _ (Nat.lt_of_lt_of_le hxl hb34.size) (fun e => HNB.out _ e.symm rfl)).trans ((hb34.block _ hxl).trans HXc.out)
              have HB6 := hide ((HBc.out.tr hb34).grown hgrow (HBc.out.tr hb34).size (fun g hg => (HOc.out.lt g hg).1))
              obtain ⟨L2, hL2⟩ : ∃ Lz, Lz = Lc ++ declL l[k].els (grL l[k].els + 1) := ⟨_, rfl⟩
              rw [← hL2] at hown6 he6
              have HO6 := hide hown6
              have HL2 := hide hL2
              have HX6 := hide hx6
              subst he6
              refine hK.out _ _ (cell_at (j := 7) hx6 rfl) (fun hHeld => ?_)
              clear hK K hown6 hgrow hcell hnil hcut hown hb3 hb4 hb34 hL2 hx6 hsum
              try simp only [Act.put, List.setIfInBounds_toArray, List.set_cons_zero, List.set_cons_succ]
              refine wpAnyH_take (i := 9) (v := ?_) (by simp only [List.getElem?_toArray, List.getElem?_cons_succ, List.getElem?_cons_zero]; rfl) (by kernel_rfl) (by kernel_rfl) (by kernel_rfl) (by exact fun _ _ _ h => h) (Or.inl ⟨by rfl, ?_⟩) (by assumption) ?_
              rotate_left 1
              · ((intro w hSw; (try dsimp only at hSw); go_simp) <;> with_reducible rfl)
              try simp only [Act.put, List.setIfInBounds_toArray, List.set_cons_zero, List.set_cons_succ]
              refine wpAnyH_done (by kernel_rfl) ?_ _
              clear hHeld xs
              have HLF : Hid (declL (l.take (k + 1)) up = L2) := hide (by rw [HLD.out, HL2.out])
              clear x7 hxl HSUM HLD HL2 HOc HXc HBc HLE HDE
              go_wp2_with fail
              go_roundw
              case rel => exact ⟨k + 1, _, _, by omega, by go_num, by rw [HLF.out], hide (by rw [HLF.out]; exact HO6.out), HB6⟩
              case measure => simp [intOf]; omega
            · have h'' : ¬ (0 : Int) < (l[k].els.length : Int) := by omega
              have HLF : Hid (declL (l.take (k + 1)) up = Lc) := hide (by rw [HLD.out, List.eq_nil_of_length_eq_zero (l := l[k].els) (by omega)]; exact List.append_nil _)
              clear HSUM HLD HLE HDE he0
              go_wp2_with fail
              go_roundw
              case rel => exact ⟨k + 1, _, _, by omega, by go_num, by rw [HLF.out], hide (by rw [HLF.out]; exact HOc.out), HBc⟩
              case measure => simp [intOf]; omega
        · have hk2 : (l[k].kind == 1) = false := by simpa using hk1
          have HLC : Hid (declL (l.take (k + 1)) up = declL (l.take k) up ++ (declL l[k].body (grL l[k].body + 1) ++ declL l[k].els (grL l[k].els + 1))) := hide (by rw [HDK.out, HDS.out, if_neg hk1]; rfl)
          clear hk1
          go_upto_region 8 with fail
          obtain ⟨Lc, hLc⟩ : ∃ Lc, Lc = declL (l.take k) up := ⟨_, rfl⟩
          rw [← hLc] at HO2 HLC ⊢
          have HOc := HO2
          have HXc := HX
          have HBc := HB2
          clear hLc HO2 HX HB2 HO HDS HDK
          have HSUM : Hid (Lc.length + (declL l[k].body (grL l[k].body + 1)).length + (declL l[k].els (grL l[k].els + 1)).length ≤ 200) := hide (by
            have h1 := HLEN.out
            rw [HLC.out, List.length_append, List.length_append] at h1
            omega)
          have x6 := cell_at (j := 6) HXc.out rfl
          have x7 := cell_at (j := 7) HXc.out rfl
          have hxl := (Array.getElem?_eq_some_iff.1 HXc.out).1
          by_cases hb0 : 0 < l[k].body.length
          · go_upto_region 9 with fail
            have hxc := HXc.out
            have xs := cell_at (j := 6) hxc rfl
            have hnb := own_other' HOc.out hxc (by decide)
            have HNB := hide hnb
            clear hnb hxc
            refine wp_region_held_drew (S := fun W => W.cell? ⟨wr.heap.size, 6, none⟩ = some (.slice pb l[k].body.length cb)) (by kernel_rfl) xs (fun hHeld => ?_)
            refine wpAnyH_take (i := 0) (v := ?_) (by simp only [List.getElem?_toArray, List.getElem?_cons_succ, List.getElem?_cons_zero]; rfl) (by kernel_rfl) (by kernel_rfl) (by kernel_rfl) (by exact fun _ _ _ h => h) (Or.inl ⟨by rfl, ?_⟩) (by assumption) ?_
            rotate_left 1
            · ((intro w hSw; (try dsimp only at hSw); go_simp) <;> with_reducible rfl)
            try simp only [Act.put, List.setIfInBounds_toArray, List.set_cons_zero, List.set_cons_succ]
            refine wpAnyH_take (i := 1) (v := ?_) (by simp only [List.getElem?_toArray, List.getElem?_cons_succ, List.getElem?_cons_zero]; rfl) (by kernel_rfl) (by kernel_rfl) (by kernel_rfl) (by exact fun _ _ _ h => h) (Or.inl ⟨by rfl, ?_⟩) (by assumption) ?_
            rotate_left 1
            · ((intro w hSw; (try dsimp only at hSw); go_simp) <;> with_reducible rfl)
            try simp only [Act.put, List.setIfInBounds_toArray, List.set_cons_zero, List.set_cons_succ]
            refine wpAnyH_take (i := 2) (v := ?_) (by simp only [List.getElem?_toArray, List.getElem?_cons_succ, List.getElem?_cons_zero]; rfl) (by kernel_rfl) (by kernel_rfl) (by kernel_rfl) (by exact fun _ _ _ h => h) (Or.inl ⟨by rfl, ?_⟩) (by assumption) ?_
            rotate_left 1
            · ((intro w hSw; (try dsimp only at hSw); go_simp) <;> with_reducible rfl)
            try simp only [Act.put, List.setIfInBounds_toArray, List.set_cons_zero, List.set_cons_succ]
            refine wpAnyH_take (i := 3) (v := ?_) (by simp only [List.getElem?_toArray, List.getElem?_cons_succ, List.getElem?_cons_zero]; rfl) (by kernel_rfl) (by kernel_rfl) (by kernel_rfl) (by exact fun _ _ _ h => h) (Or.inl ⟨by rfl, ?_⟩) (by assumption) ?_
            rotate_left 1
            · ((intro w hSw; (try dsimp only at hSw); go_simp) <;> with_reducible rfl)
            try simp only [Act.put, List.setIfInBounds_toArray, List.set_cons_zero, List.set_cons_succ]
            refine wpAnyH_take (i := 4) (v := ?_) (by simp only [List.getElem?_toArray, List.getElem?_cons_succ, List.getElem?_cons_zero]; rfl) (by kernel_rfl) (by kernel_rfl) (by kernel_rfl) (by exact fun _ _ _ h => h) (Or.inl ⟨by rfl, ?_⟩) (by assumption) ?_
            rotate_left 1
            · ((intro w hSw; (try dsimp only at hSw); go_simp) <;> with_reducible rfl)
            try simp only [Act.put, List.setIfInBounds_toArray, List.set_cons_zero, List.set_cons_succ]
            refine wpAnyH_ready (rs := [5]) (by kernel_rfl) (by simp) ?_
            refine AllReadyH.cons rfl (fun K hK => ?_) AllReadyH.nil
            go_simp
            refine (HLB.out _ (HBc.out.tr (bl _).dr) hb0).mono ?_
            rintro r w3 ⟨rfl, hb3⟩
            have hb3 := (bl _).dr.tr hb3
            refine hK.out _ _ (cell_keep xs hb3 (Nat.le_refl _)) (fun hHeld => ?_)
            clear hK K
            try simp only [Act.put, List.setIfInBounds_toArray, List.set_cons_zero, List.set_cons_succ]
            refine wpAnyH_take (i := 6) (v := ?_) (by simp only [List.getElem?_toArray, List.getElem?_cons_succ, List.getElem?_cons_zero]; rfl) (by kernel_rfl) (by kernel_rfl) (by kernel_rfl) (by exact fun _ _ _ h => h) (Or.inl ⟨by rfl, ?_⟩) (by assumption) ?_
            rotate_left 1
            · ((intro w hSw; (try dsimp only at hSw); go_simp) <;> with_reducible rfl)
            try simp only [Act.put, List.setIfInBounds_toArray, List.set_cons_zero, List.set_cons_succ]
            refine wpAnyH_ready (rs := [7]) (by kernel_rfl) (by simp) ?_
            refine AllReadyH.cons rfl (fun K hK => ?_) AllReadyH.nil
            go_simp
            refine (HDB.out _ (HBc.out.tr hb3)).mono ?_
            rintro r w4 ⟨⟨ra, rc, rfl, hro⟩, hb4⟩
            have hb34 := hb3.tr hb4
            refine hK.out _ _ (cell_keep xs hb34 (Nat.le_refl _)) (fun hHeld => ?_)
            clear hK K
            try simp only [Act.put, List.setIfInBounds_toArray, List.set_cons_zero, List.set_cons_succ]
            refine wpAnyH_ready (rs := [8]) (by kernel_rfl) (by simp) ?_
            refine AllReadyH.cons rfl (fun K hK => ?_) AllReadyH.nil
            obtain ⟨xs', hown, hcut⟩ := hro
            obtain ⟨pa', cap', he, hnil, hcell⟩ := own_src hown
            simp only [Value.slice.injEq, true_and] at he
            obtain ⟨rfl, rfl⟩ := he
            have hsum := HSUM.out
            refine step_pushes _ (by rfl) _ _ 33 (by rfl) w.heap.size 37 i0 _ 5 48 Tryz.underlying33 hi hz0 hz1 hz2 (by rfl) (Nat.succ_pos _) VrC VrC.mono [] _ Lc (by rfl) (HOc.out.below VrC.mono hb34) ra _ rc xs' (declL l[k].body (grL l[k].body + 1)) rfl (by rfl) (fun e => ⟨List.eq_nil_of_length_eq_zero (hnil e).1, (hnil e).2⟩) hcell (vr_one (vr_cut (w' := w4) hcut)) (vr_cut hcut) (by unfold maxLen; omega) (by omega) (HBc.out.tr hb34).size ?_
            intro v' w6 hown6 hgrow
            obtain ⟨va6, vc6, he6, -, -⟩ := hown6.slice
            have hx6 := (hgrow.block _ (Nat.lt_of_lt_of_le hxl hb34.size) (fun e => HNB.out _ e.symm rfl)).trans ((hb34.block _ hxl).trans HXc.out)
            have HB6 := hide ((HBc.out.tr hb34).grown hgrow (HBc.out.tr hb34).size (fun g hg => (HOc.out.lt g hg).1))
            obtain ⟨L2, hL2⟩ : ∃ Lz, Lz = Lc ++ declL l[k].body (grL l[k].body + 1) := ⟨_, rfl⟩
            rw [← hL2] at hown6 he6
            have HO6 := hide hown6
            have HL2 := hide hL2
            have HX6 := hide hx6
            subst he6
            refine hK.out _ _ (cell_at (j := 6) hx6 rfl) (fun hHeld => ?_)
            clear hK K hown6 hgrow hcell hnil hcut hown hb3 hb4 hb34 hL2 hx6 hsum
            try simp only [Act.put, List.setIfInBounds_toArray, List.set_cons_zero, List.set_cons_succ]
            refine wpAnyH_take (i := 9) (v := ?_) (by simp only [List.getElem?_toArray, List.getElem?_cons_succ, List.getElem?_cons_zero]; rfl) (by kernel_rfl) (by kernel_rfl) (by kernel_rfl) (by exact fun _ _ _ h => h) (Or.inl ⟨by rfl, ?_⟩) (by assumption) ?_
            rotate_left 1
            · ((intro w hSw; (try dsimp only at hSw); go_simp) <;> with_reducible rfl)
            try simp only [Act.put, List.setIfInBounds_toArray, List.set_cons_zero, List.set_cons_succ]
            refine wpAnyH_done (by kernel_rfl) ?_ _
            clear hHeld xs
            have HLD : Hid (declL (l.take (k + 1)) up = L2 ++ declL l[k].els (grL l[k].els + 1)) := hide (by rw [HLC.out, HL2.out, List.append_assoc])
            clear x6 x7 hxl HSUM HLC HL2 HOc HXc HBc HLB HDB
            have HSUM : Hid (L2.length + (declL l[k].els (grL l[k].els + 1)).length ≤ 200) := hide (by
              have h1 := HLEN.out
              rw [HLD.out, List.length_append] at h1
              omega)
            have HOc := HO6
            have HXc := HX6
            have HBc := HB6
            clear HO6 HX6 HB6
            have x7 := cell_at (j := 7) HXc.out rfl
            have hxl := (Array.getElem?_eq_some_iff.1 HXc.out).1
            by_cases he0 : 0 < l[k].els.length
            · go_upto_region 11 with fail
              have hxc := HXc.out
              have xs := cell_at (j := 7) hxc rfl
              have hnb := own_other' HOc.out hxc (by decide)
              have HNB := hide hnb
              clear hnb hxc
              refine wp_region_held_drew (S := fun W => W.cell? ⟨wr.heap.size, 7, none⟩ = some (.slice pe l[k].els.length ce)) (by kernel_rfl) xs (fun hHeld => ?_)
              refine wpAnyH_take (i := 0) (v := ?_) (by simp only [List.getElem?_toArray, List.getElem?_cons_succ, List.getElem?_cons_zero]; rfl) (by kernel_rfl) (by kernel_rfl) (by kernel_rfl) (by exact fun _ _ _ h => h) (Or.inl ⟨by rfl, ?_⟩) (by assumption) ?_
              rotate_left 1
              · ((intro w hSw; (try dsimp only at hSw); go_simp) <;> with_reducible rfl)
              try simp only [Act.put, List.setIfInBounds_toArray, List.set_cons_zero, List.set_cons_succ]
              refine wpAnyH_take (i := 1) (v := ?_) (by simp only [List.getElem?_toArray, List.getElem?_cons_succ, List.getElem?_cons_zero]; rfl) (by kernel_rfl) (by kernel_rfl) (by kernel_rfl) (by exact fun _ _ _ h => h) (Or.inl ⟨by rfl, ?_⟩) (by assumption) ?_
              rotate_left 1
              · ((intro w hSw; (try dsimp only at hSw); go_simp) <;> with_reducible rfl)
              try simp only [Act.put, List.setIfInBounds_toArray, List.set_cons_zero, List.set_cons_succ]
              refine wpAnyH_take (i := 2) (v := ?_) (by simp only [List.getElem?_toArray, List.getElem?_cons_succ, List.getElem?_cons_zero]; rfl) (by kernel_rfl) (by kernel_rfl) (by kernel_rfl) (by exact fun _ _ _ h => h) (Or.inl ⟨by rfl, ?_⟩) (by assumption) ?_
              rotate_left 1
              · ((intro w hSw; (try dsimp only at hSw); go_simp) <;> with_reducible rfl)
              try simp only [Act.put, List.setIfInBounds_toArray, List.set_cons_zero, List.set_cons_succ]
              refine wpAnyH_take (i := 3) (v := ?_) (by simp only [List.getElem?_toArray, List.getElem?_cons_succ, List.getElem?_cons_zero]; rfl) (by kernel_rfl) (by kernel_rfl) (by kernel_rfl) (by exact fun _ _ _ h => h) (Or.inl ⟨by rfl, ?_⟩) (by assumption) ?_
              rotate_left 1
              · ((intro w hSw; (try dsimp only at hSw); go_simp) <;> with_reducible rfl)
              try simp only [Act.put, List.setIfInBounds_toArray, List.set_cons_zero, List.set_cons_succ]
              refine wpAnyH_take (i := 4) (v := ?_) (by simp only [List.getElem?_toArray, List.getElem?_cons_succ, List.getElem?_cons_zero]; rfl) (by kernel_rfl) (by kernel_rfl) (by kernel_rfl) (by exact fun _ _ _ h => h) (Or.inl ⟨by rfl, ?_⟩) (by assumption) ?_
              rotate_left 1
              · ((intro w hSw; (try dsimp only at hSw); go_simp) <;> with_reducible rfl)
              try simp only [Act.put, List.setIfInBounds_toArray, List.set_cons_zero, List.set_cons_succ]
              refine wpAnyH_ready (rs := [5]) (by kernel_rfl) (by simp) ?_
              refine AllReadyH.cons rfl (fun K hK => ?_) AllReadyH.nil
              go_simp
              refine (HLE.out _ (HBc.out.tr (bl _).dr) he0).mono ?_
              rintro r w3 ⟨rfl, hb3⟩
              have hb3 := (bl _).dr.tr hb3
              refine hK.out _ _ (cell_keep xs hb3 (Nat.le_refl _)) (fun hHeld => ?_)
              clear hK K
              try simp only [Act.put, List.setIfInBounds_toArray, List.set_cons_zero, List.set_cons_succ]
              refine wpAnyH_take (i := 6) (v := ?_) (by simp only [List.getElem?_toArray, List.getElem?_cons_succ, List.getElem?_cons_zero]; rfl) (by kernel_rfl) (by kernel_rfl) (by kernel_rfl) (by exact fun _ _ _ h => h) (Or.inl ⟨by rfl, ?_⟩) (by assumption) ?_
              rotate_left 1
              · ((intro w hSw; (try dsimp only at hSw); go_simp) <;> with_reducible rfl)
              try simp only [Act.put, List.setIfInBounds_toArray, List.set_cons_zero, List.set_cons_succ]
              refine wpAnyH_ready (rs := [7]) (by kernel_rfl) (by simp) ?_
              refine AllReadyH.cons rfl (fun K hK => ?_) AllReadyH.nil
              go_simp
              refine (HDE.out _ (HBc.out.tr hb3)).mono ?_
              rintro r w4 ⟨⟨ra, rc, rfl, hro⟩, hb4⟩
              have hb34 := hb3.tr hb4
              refine hK.out _ _ (cell_keep xs hb34 (Nat.le_refl _)) (fun hHeld => ?_)
              clear hK K
              try simp only [Act.put, List.setIfInBounds_toArray, List.set_cons_zero, List.set_cons_succ]
              refine wpAnyH_ready (rs := [8]) (by kernel_rfl) (by simp) ?_
              refine AllReadyH.cons rfl (fun K hK => ?_) AllReadyH.nil
              obtain ⟨xs', hown, hcut⟩ := hro
              obtain ⟨pa', cap', he, hnil, hcell⟩ := own_src hown
              simp only [Value.slice.injEq, true_and] at he
              obtain ⟨rfl, rfl⟩ := he
              have hsum := HSUM.out
              refine step_pushes _ (by rfl) _ _ 33 (by rfl) w.heap.size 37 i0 _ 5 48 Tryz.underlying33 hi hz0 hz1 hz2 (by rfl) (Nat.succ_pos _) VrC VrC.mono [] _ L2 (by rfl) (HOc.out.below VrC.mono hb34) ra _ rc xs' (declL l[k].els (grL l[k].els + 1)) rfl (by rfl) (fun e => ⟨List.eq_nil_of_length_eq_zero (hnil e).1, (hnil e).2⟩) hcell (vr_one (vr_cut (w' := w4) hcut)) (vr_cut hcut) (by unfold maxLen; omega) (by omega) (HBc.out.tr hb34).size ?_
              intro v' w6 hown6 hgrow
              obtain ⟨va6, vc6, he6, -, -⟩ := hown6.slice
              have hx6 := (hgrow.block _ (Nat.lt_of_lt_of_le hxl hb34.size) (fun e => HNB.out _ e.symm rfl)).trans ((hb34.block _ hxl).trans HXc.out)
              have HB6 := hide ((HBc.out.tr hb34).grown hgrow (HBc.out.tr hb34).size (fun g hg => (HOc.out.lt g hg).1))
              obtain ⟨L2, hL2⟩ : ∃ Lz, Lz = L2 ++ declL l[k].els (grL l[k].els + 1) := ⟨_, rfl⟩
              rw [← hL2] at hown6 he6
              have HO6 := hide hown6
              have HL2 := hide hL2
              have HX6 := hide hx6
              subst he6
              refine hK.out _ _ (cell_at (j := 7) hx6 rfl) (fun hHeld => ?_)
              clear hK K hown6 hgrow hcell hnil hcut hown hb3 hb4 hb34 hL2 hx6 hsum
              try simp only [Act.put, List.setIfInBounds_toArray, List.set_cons_zero, List.set_cons_succ]
              refine wpAnyH_take (i := 9) (v := ?_) (by simp only [List.getElem?_toArray, List.getElem?_cons_succ, List.getElem?_cons_zero]; rfl) (by kernel_rfl) (by kernel_rfl) (by kernel_rfl) (by exact fun _ _ _ h => h) (Or.inl ⟨by rfl, ?_⟩) (by assumption) ?_
              rotate_left 1
              · ((intro w hSw; (try dsimp only at hSw); go_simp) <;> with_reducible rfl)
              try simp only [Act.put, List.setIfInBounds_toArray, List.set_cons_zero, List.set_cons_succ]
              refine wpAnyH_done (by kernel_rfl) ?_ _
              clear hHeld xs
              have HLF : Hid (declL (l.take (k + 1)) up = L2) := hide (by rw [HLD.out, HL2.out])
              clear x7 hxl HSUM HLD HL2 HOc HXc HBc HLE HDE
              go_wp2_with fail
              go_roundw
              case rel => exact ⟨k + 1, _, _, by omega, by go_num, by rw [HLF.out], hide (by rw [HLF.out]; exact HO6.out), HB6⟩
              case measure => simp [intOf]; omega
            · have h'' : ¬ (0 : Int) < (l[k].els.length : Int) := by omega
              have HLF : Hid (declL (l.take (k + 1)) up = L2) := hide (by rw [HLD.out, List.eq_nil_of_length_eq_zero (l := l[k].els) (by omega)]; exact List.append_nil _)
              clear HSUM HLD HLE HDE he0
              go_wp2_with fail
              go_roundw
              case rel => exact ⟨k + 1, _, _, by omega, by go_num, by rw [HLF.out], hide (by rw [HLF.out]; exact HOc.out), HBc⟩
              case measure => simp [intOf]; omega
          · have h' : ¬ (0 : Int) < (l[k].body.length : Int) := by omega
            have HLD : Hid (declL (l.take (k + 1)) up = Lc ++ declL l[k].els (grL l[k].els + 1)) := hide (by rw [HLC.out, List.eq_nil_of_length_eq_zero (l := l[k].body) (by omega)]; rfl)
            have HO6 := HOc
            have HX6 := HXc
            have HB6 := HBc
            clear HSUM HLC HOc HXc HBc HLB HDB hb0
            have HSUM : Hid (Lc.length + (declL l[k].els (grL l[k].els + 1)).length ≤ 200) := hide (by
              have h1 := HLEN.out
              rw [HLD.out, List.length_append] at h1
              omega)
            have HOc := HO6
            have HXc := HX6
            have HBc := HB6
            clear HO6 HX6 HB6
            have x7 := cell_at (j := 7) HXc.out rfl
            have hxl := (Array.getElem?_eq_some_iff.1 HXc.out).1
            by_cases he0 : 0 < l[k].els.length
            · go_upto_region 11 with fail
              have hxc := HXc.out
              have xs := cell_at (j := 7) hxc rfl
              have hnb := own_other' HOc.out hxc (by decide)
              have HNB := hide hnb
              clear hnb hxc
              refine wp_region_held_drew (S := fun W => W.cell? ⟨wr.heap.size, 7, none⟩ = some (.slice pe l[k].els.length ce)) (by kernel_rfl) xs (fun hHeld => ?_)
              refine wpAnyH_take (i := 0) (v := ?_) (by simp only [List.getElem?_toArray, List.getElem?_cons_succ, List.getElem?_cons_zero]; rfl) (by kernel_rfl) (by kernel_rfl) (by kernel_rfl) (by exact fun _ _ _ h => h) (Or.inl ⟨by rfl, ?_⟩) (by assumption) ?_
              rotate_left 1
              · ((intro w hSw; (try dsimp only at hSw); go_simp) <;> with_reducible rfl)
              try simp only [Act.put, List.setIfInBounds_toArray, List.set_cons_zero, List.set_cons_succ]
              refine wpAnyH_take (i := 1) (v := ?_) (by simp only [List.getElem?_toArray, List.getElem?_cons_succ, List.getElem?_cons_zero]; rfl) (by kernel_rfl) (by kernel_rfl) (by kernel_rfl) (by exact fun _ _ _ h => h) (Or.inl ⟨by rfl, ?_⟩) (by assumption) ?_
              rotate_left 1
              · ((intro w hSw; (try dsimp only at hSw); go_simp) <;> with_reducible rfl)
              try simp only [Act.put, List.setIfInBounds_toArray, List.set_cons_zero, List.set_cons_succ]
              refine wpAnyH_take (i := 2) (v := ?_) (by simp only [List.getElem?_toArray, List.getElem?_cons_succ, List.getElem?_cons_zero]; rfl) (by kernel_rfl) (by kernel_rfl) (by kernel_rfl) (by exact fun _ _ _ h => h) (Or.inl ⟨by rfl, ?_⟩) (by assumption) ?_
              rotate_left 1
              · ((intro w hSw; (try dsimp only at hSw); go_simp) <;> with_reducible rfl)
              try simp only [Act.put, List.setIfInBounds_toArray, List.set_cons_zero, List.set_cons_succ]
              refine wpAnyH_take (i := 3) (v := ?_) (by simp only [List.getElem?_toArray, List.getElem?_cons_succ, List.getElem?_cons_zero]; rfl) (by kernel_rfl) (by kernel_rfl) (by kernel_rfl) (by exact fun _ _ _ h => h) (Or.inl ⟨by rfl, ?_⟩) (by assumption) ?_
              rotate_left 1
              · ((intro w hSw; (try dsimp only at hSw); go_simp) <;> with_reducible rfl)
              try simp only [Act.put, List.setIfInBounds_toArray, List.set_cons_zero, List.set_cons_succ]
              refine wpAnyH_take (i := 4) (v := ?_) (by simp only [List.getElem?_toArray, List.getElem?_cons_succ, List.getElem?_cons_zero]; rfl) (by kernel_rfl) (by kernel_rfl) (by kernel_rfl) (by exact fun _ _ _ h => h) (Or.inl ⟨by rfl, ?_⟩) (by assumption) ?_
              rotate_left 1
              · ((intro w hSw; (try dsimp only at hSw); go_simp) <;> with_reducible rfl)
              try simp only [Act.put, List.setIfInBounds_toArray, List.set_cons_zero, List.set_cons_succ]
              refine wpAnyH_ready (rs := [5]) (by kernel_rfl) (by simp) ?_
              refine AllReadyH.cons rfl (fun K hK => ?_) AllReadyH.nil
              go_simp
              refine (HLE.out _ (HBc.out.tr (bl _).dr) he0).mono ?_
              rintro r w3 ⟨rfl, hb3⟩
              have hb3 := (bl _).dr.tr hb3
              refine hK.out _ _ (cell_keep xs hb3 (Nat.le_refl _)) (fun hHeld => ?_)
              clear hK K
              try simp only [Act.put, List.setIfInBounds_toArray, List.set_cons_zero, List.set_cons_succ]
              refine wpAnyH_take (i := 6) (v := ?_) (by simp only [List.getElem?_toArray, List.getElem?_cons_succ, List.getElem?_cons_zero]; rfl) (by kernel_rfl) (by kernel_rfl) (by kernel_rfl) (by exact fun _ _ _ h => h) (Or.inl ⟨by rfl, ?_⟩) (by assumption) ?_
              rotate_left 1
              · ((intro w hSw; (try dsimp only at hSw); go_simp) <;> with_reducible rfl)
              try simp only [Act.put, List.setIfInBounds_toArray, List.set_cons_zero, List.set_cons_succ]
              refine wpAnyH_ready (rs := [7]) (by kernel_rfl) (by simp) ?_
              refine AllReadyH.cons rfl (fun K hK => ?_) AllReadyH.nil
              go_simp
              refine (HDE.out _ (HBc.out.tr hb3)).mono ?_
              rintro r w4 ⟨⟨ra, rc, rfl, hro⟩, hb4⟩
              have hb34 := hb3.tr hb4
              refine hK.out _ _ (cell_keep xs hb34 (Nat.le_refl _)) (fun hHeld => ?_)
              clear hK K
              try simp only [Act.put, List.setIfInBounds_toArray, List.set_cons_zero, List.set_cons_succ]
              refine wpAnyH_ready (rs := [8]) (by kernel_rfl) (by simp) ?_
              refine AllReadyH.cons rfl (fun K hK => ?_) AllReadyH.nil
              obtain ⟨xs', hown, hcut⟩ := hro
              obtain ⟨pa', cap', he, hnil, hcell⟩ := own_src hown
              simp only [Value.slice.injEq, true_and] at he
              obtain ⟨rfl, rfl⟩ := he
              have hsum := HSUM.out
              refine step_pushes _ (by rfl) _ _ 33 (by rfl) w.heap.size 37 i0 _ 5 48 Tryz.underlying33 hi hz0 hz1 hz2 (by rfl) (Nat.succ_pos _) VrC VrC.mono [] _ Lc (by rfl) (HOc.out.below VrC.mono hb34) ra _ rc xs' (declL l[k].els (grL l[k].els + 1)) rfl (by rfl) (fun e => ⟨List.eq_nil_of_length_eq_zero (hnil e).1, (hnil e).2⟩) hcell (vr_one (vr_cut (w' := w4) hcut)) (vr_cut hcut) (by unfold maxLen; omega) (by omega) (HBc.out.tr hb34).size ?_
              intro v' w6 hown6 hgrow
              obtain ⟨va6, vc6, he6, -, -⟩ := hown6.slice
              have hx6 := (hgrow.block _ (Nat.lt_of_lt_of_le hxl hb34.size) (fun e => HNB.out _ e.symm rfl)).trans ((hb34.block _ hxl).trans HXc.out)
              have HB6 := hide ((HBc.out.tr hb34).grown hgrow (HBc.out.tr hb34).size (fun g hg => (HOc.out.lt g hg).1))
              obtain ⟨L2, hL2⟩ : ∃ Lz, Lz = Lc ++ declL l[k].els (grL l[k].els + 1) := ⟨_, rfl⟩
              rw [← hL2] at hown6 he6
              have HO6 := hide hown6
              have HL2 := hide hL2
              have HX6 := hide hx6
              subst he6
              refine hK.out _ _ (cell_at (j := 7) hx6 rfl) (fun hHeld => ?_)
              clear hK K hown6 hgrow hcell hnil hcut hown hb3 hb4 hb34 hL2 hx6 hsum
              try simp only [Act.put, List.setIfInBounds_toArray, List.set_cons_zero, List.set_cons_succ]
              refine wpAnyH_take (i := 9) (v := ?_) (by simp only [List.getElem?_toArray, List.getElem?_cons_succ, List.getElem?_cons_zero]; rfl) (by kernel_rfl) (by kernel_rfl) (by kernel_rfl) (by exact fun _ _ _ h => h) (Or.inl ⟨by rfl, ?_⟩) (by assumption) ?_
              rotate_left 1
              · ((intro w hSw; (try dsimp only at hSw); go_simp) <;> with_reducible rfl)
              try simp only [Act.put, List.setIfInBounds_toArray, List.set_cons_zero, List.set_cons_succ]
              refine wpAnyH_done (by kernel_rfl) ?_ _
              clear hHeld xs
              have HLF : Hid (declL (l.take (k + 1)) up = L2) := hide (by rw [HLD.out, HL2.out])
              clear x7 hxl HSUM HLD HL2 HOc HXc HBc HLE HDE
              go_wp2_with fail
              go_roundw
              case rel => exact ⟨k + 1, _, _, by omega, by go_num, by rw [HLF.out], hide (by rw [HLF.out]; exact HO6.out), HB6⟩
              case measure => simp [intOf]; omega
            · have h'' : ¬ (0 : Int) < (l[k].els.length : Int) := by omega
              have HLF : Hid (declL (l.take (k + 1)) up = Lc) := hide (by rw [HLD.out, List.eq_nil_of_length_eq_zero (l := l[k].els) (by omega)]; exact List.append_nil _)
              clear HSUM HLD HLE HDE he0
              go_wp2_with fail
              go_roundw
              case rel => exact ⟨k + 1, _, _, by omega, by go_num, by rw [HLF.out], hide (by rw [HLF.out]; exact HOc.out), HBc⟩
              case measure => simp [intOf]; omega
      · obtain rfl : k = l.length := by omega
        have HE : Hid (∃ a cap, Value.slice va (declL (l.take l.length) up).length vc = .slice a (declL l up).length cap ∧ OwnL wr w.heap.size 37 5 VrC [] (.slice a (declL l up).length cap) (declL l up)) := hide (by
          have ho := HO.out
          rw [List.take_length] at ho ⊢
          exact ⟨_, _, rfl, ho⟩)
        clear HO
        go_wp2_with fail
        go_ret
        obtain ⟨a', cap', he, hi⟩ := HE.out
        exact ⟨⟨a', cap', congrArg Ending.returned he, hi⟩, HB.out⟩
end Go.Proofs.YtgeleppmhhodiaaGreatDoor
