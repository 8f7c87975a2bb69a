/- The function of a draft of layer 10: Draft.Made answers the model's function, in new memory. -/
import Derived.Test.YtccgpmncpemmdaaDoorDnG
namespace Go.Proofs.YtccgpmncpemmdaaDoor
open Go Go.RowKit
set_option linter.unusedSimpArgs false
set_option linter.unusedVariables false
set_option linter.unnecessarySimpa false
section
variable {α : Type} {P : Program} (w : World)
/-- append of all elements of a slice, at a step of a region that draws its order. -/
theorem step_pushn {ops : Array Oper} {o : Oper} {a : Act} {K : Act → World → Prop} {Q : Exit → Act → World → Prop} {E : Prop} (hgd : o.guard = none) (s x : Operand) (t : TypeId)
    (ho : o.op = .call { callee := .builtin .append, args := #[s, x], argTypes := #[t, t] })
    (base : Nat) (e : TypeId) (i : TypeInfo) (z : Value) (size bytes : Nat) (ht : P.underlying t = some (.slice e)) (hi : P.info? e = some i) (hz : i.zero = some z)
    (hsize : i.size = size) (hby : i.bytes = bytes) (hzs : z.cells.size = size) (hsz : 0 < size)
    (V : World → α → List Value → Prop) (hm : Mono V) (ban : List Nat) (v : Value) (l : List α) (hs : a.eval s = v) (hown : OwnL w base e size V ban v l)
    (pa : Option Addr) (cp : Nat) (ms : List α) (hx : a.eval x = .slice pa ms.length cp)
    (hin : (pa = none ∧ ms = []) ∨ ∃ ad news, pa = some ad ∧ (∀ j u, news[j]? = some u → w.cell? (ad.add j) = some u) ∧ (∀ u ∈ news, u.oneCell' = true) ∧ Cut size (V (av (v.ownBlock.toList ++ ban) w)) ms news)
    (h63 : l.length + ms.length ≤ maxLen) (hbytes : (l.length + ms.length) * bytes ≤ 140737488355328) (hbase : base ≤ w.heap.size)
    (h : ∀ v' w', OwnL w' base e size V ban v' (l ++ ms) → w.grownBy w' v.ownBlock → K (a.put o.dst v') w') :
    if Region.wanted o (yielded ops a.tmps) = true then Oper.wp P o a w K Q else E := by
  have hw : Region.wanted o (yielded ops a.tmps) = true := by simp [Region.wanted, hgd]
  rw [if_pos hw]
  have hown0 := hown
  obtain ⟨xs, hown, hcut⟩ := hown
  rcases hin with ⟨rfl, rfl⟩ | ⟨ad, news, rfl, hnews, h1, hv⟩
  · have hrun := run_append_none0 (P := P) (w := w) base t o.type e i size cp ht hi v l.length xs hown
    unfold Oper.wp
    simp only [execOp, ho, resolve, invoke, builtin, hs, hx, List.length_nil]
    simp only [Sem.run_bind, Sem.run_pure, Result.andThen_ok, List.map_toArray, List.map_cons, List.map_nil, hs, hx, List.length_nil, hrun]
    refine h v w ?_ ⟨rfl, rfl, rfl, Nat.le_refl _, fun _ _ _ => rfl⟩
    rw [List.append_nil]
    exact hown0
  · obtain ⟨v', w', hr, h2, h3, _, h5⟩ := run_append_own_at (P := P) w base t o.type e i z size bytes ht hi hz hsize hby hzs hsz v l.length xs hown ad ms.length cp news hv.len hnews h1 h63 hbytes hbase
    unfold Oper.wp execOp
    simp only [ho, resolve, invoke, builtin, Sem.run_bind, Sem.run_pure, Result.andThen_ok, List.map_toArray, List.map_cons, List.map_nil, hs, hx, hr]
    exact h v' w' (own_push hm hown hcut h2 h3 h5 hv) h3
end
theorem rdsN_le {L : List Nat} {h : Nat} {blk : Qn → List St × Qn} (hb : ∀ q : Qn, q.1 ≤ L.length → q.2 ≤ 60 → GoodN L h q (blk q)) : ∀ (n : Nat) (l : List St) (q : Qn), q.1 ≤ L.length → q.2 ≤ 60 → q.1 ≤ (rdsN L h blk n l q).2.1
  | 0, l, q, _, _ => Nat.le_refl _
  | n + 1, l, q, h1, h2 => by
    have hr := rbN_le L q.1 h1
    rw [rdsN]
    split
    · rename_i hc
      split
      · exact hr.1
      · obtain ⟨_, _, _, _, _, s6, s7, s8⟩ := stN_good L h blk hb (rbN L q.1).1 q.2 ((rbN L q.1).2, q.2 + 1) hr.2 rfl (by simp only; omega)
        exact Nat.le_trans hr.1 (Nat.le_trans s7 (rdsN_le hb n _ _ s8 s6))
    · exact Nat.le_refl _
theorem rdsN_prog {L : List Nat} {h : Nat} {blk : Qn → List St × Qn} (hb : ∀ q : Qn, q.1 ≤ L.length → q.2 ≤ 60 → GoodN L h q (blk q)) (n : Nat) (l : List St) (q : Qn) (h1 : q.1 < L.length) (h2 : q.2 < 60) (h3 : l.length < 30) (hn : 0 < n) : q.1 < (rdsN L h blk n l q).2.1 := by
  cases n with
  | zero => omega
  | succ n =>
    have e1 : (rbN L q.1).2 = q.1 + 1 := by unfold rbN; rw [if_pos h1]
    have hr := rbN_le L q.1 (by omega)
    rw [rdsN, if_pos ⟨h1, h2, h3⟩]
    split
    · simp only; omega
    · obtain ⟨_, _, _, _, _, s6, s7, s8⟩ := stN_good L h blk hb (rbN L q.1).1 q.2 ((rbN L q.1).2, q.2 + 1) hr.2 rfl (by simp only; omega)
      have := rdsN_le hb n (l ++ [(stN L h blk (rbN L q.1).1 q.2 ((rbN L q.1).2, q.2 + 1)).1]) _ s8 s6
      simp only at s7
      omega
theorem blN_prog (L : List Nat) (h : Nat) (q : Qn) (h1 : q.1 < L.length) (h2 : q.2 < 60) : q.1 < (blN L h q).2.1 := by
  cases h with
  | zero => exact rdsN_prog (fun q a b => ⟨rfl, rfl, by simp [cntL], b, Nat.le_refl _, a⟩) _ _ q h1 h2 (by simp) (by omega)
  | succ h => exact rdsN_prog (fun q a b => blN_good L h q a b) _ _ q h1 h2 (by simp) (by omega)
theorem mdsN_stop {L : List Nat} {l : List St} {q : Qn} (hc : ¬ (q.1 < L.length ∧ q.2 < 60 ∧ l.length < 30)) : ∀ n, mdsN L n l q = (l, q)
  | 0 => rfl
  | n + 1 => by rw [mdsN, if_neg hc]
theorem mdsN_step {L : List Nat} {l : List St} {q : Qn} {n : Nat} (hc : q.1 < L.length ∧ q.2 < 60 ∧ l.length < 30) (hn : L.length ≤ q.1 + n) : ∃ m, n = m + 1 ∧ mdsN L n l q = mdsN L m (l ++ (blN L 4 q).1) (blN L 4 q).2 := by
  cases n with
  | zero => omega
  | succ n => exact ⟨n, rfl, by rw [mdsN, if_pos hc]⟩
/-- A draft in memory. -/
def DrN (w : World) (P C : List Nat) (v : Value) : Prop := ∃ pa pc ca cc, v = .agg #[.slice pa P.length pc, .slice ca C.length cc] ∧ Bys w P pa pc ∧ Bys w C ca cc
theorem DrN.has {w w' : World} {P C : List Nat} {v : Value} (h : DrN w P C v) (hh : Has w w') : DrN w' P C v := by
  obtain ⟨pa, pc, ca, cc, h1, h2, h3⟩ := h
  exact ⟨pa, pc, ca, cc, h1, h2.has hh, h3.has hh⟩
theorem get_bang {l : List Nat} {i : Nat} (h : i < l.length) : l[i]! = l[i] := by simp [h]
theorem take_map {P : List Nat} {k : Nat} (h : k < P.length) : (P.take (k + 1)).map pmN = (P.take k).map pmN ++ [pmN P[k]] := by rw [List.take_succ_eq_append_getElem h, List.map_append]; rfl
/-- A cell of a function's block is written: the reader's bytes do not lie there. -/
theorem Rdr.setF {w : World} {sb p nx n : Nat} {L : List Nat} {s : ByteArray} {a b : Option Addr} {l m c d : Nat} {x y : Int} {t : TypeId} {z : Nat × Nat} (h : Rdr w sb L p nx) (hn : w.heap[n]? = some (.cells #[.string s, .slice a l c, .int .i64 x, .slice b m d, .int .i64 y] t z)) (hne : n ≠ sb) (i : Nat) (u : Value) : Rdr (w.setCell ⟨n, i, none⟩ u) sb L p nx := by
  obtain ⟨ra, cap, hs, hp, hl3, hel⟩ := h
  refine ⟨ra, cap, (Below.heap_setCell w ⟨n, i, none⟩ u sb (fun e => hne e.symm)).trans hs, hp, hl3, fun h0 => ?_⟩
  obtain ⟨b', o', h1, h2, h3⟩ := hel h0
  refine ⟨b', o', h1, h2, fun j hj => ⟨(h3 j hj).1, ?_⟩⟩
  have hb : b' ≠ n := by
    rintro rfl
    have h5 := (h3 j hj).2
    unfold World.cell? at h5
    simp only [hn] at h5
    have h6 : j + o' < 5 ∨ 5 ≤ j + o' := by omega
    rcases Nat.lt_or_ge (o' + j) 5 with hlt | hge
    · have : o' + j = 0 ∨ o' + j = 1 ∨ o' + j = 2 ∨ o' + j = 3 ∨ o' + j = 4 := by omega
      rcases this with e | e | e | e | e <;> rw [e] at h5 <;> simp at h5
    · rw [List.getElem?_toArray, List.getElem?_eq_none (by simpa using hge)] at h5
      cases h5
  exact ((Kept.refl [n] w).set (.inl (by simp)) i u).cell (by simpa using hb) (h3 j hj).2
theorem own_pmsN {w : World} {base n : Nat} {t : TypeId} {ban : List Nat} {v : Value} {l : List Pm} (h : OwnL w base t 2 PmC ban v l) (hn : n ≤ base) : ∃ a cap, v = .slice a l.length cap ∧ Pms (nw n w) l a cap := by
  obtain ⟨xs, h1, h2⟩ := h
  exact OwnL.pms (ban := List.range n) (w := w) (base := base) (t := t) (v := v) (l := l) ⟨xs, h1, h2.mono fun _ _ h => h⟩ (fun g hg => by have := List.mem_range.1 hg; omega)
theorem bys_rdr {w W : World} {C : List Nat} {ca : Option Addr} {cc : Nat} (h : Bys w C ca cc) (hk : ∀ (b o : Nat) (v : Value), w.cell? ⟨b, o, none⟩ = some v → W.cell? ⟨b, o, none⟩ = some v) (hs : w.heap.size ≤ W.heap.size) : Rdr (W.alloc (.cells #[.slice ca C.length cc, .int .i64 0, .int .i64 0] 74)) W.heap.size C 0 0 := by
  refine ⟨ca, cc, heap_alloc_new _ _, Nat.zero_le _, ⟨Nat.le_trans h.len h.cap, by omega⟩, fun h0 => ?_⟩
  obtain ⟨b, o, rfl⟩ := h.addr h0
  have hb := cell_lt (h.at_ b o rfl 0 h0).2
  simp only at hb
  refine ⟨b, o, rfl, by omega, fun i hi => ?_⟩
  obtain ⟨h1, h2⟩ := h.at_ b o rfl i hi
  rw [get_bang hi]
  exact ⟨h1, cell_keep (hk _ _ _ h2) ((bl W).al _) (Nat.le_refl _)⟩
theorem nblock1_any (sb : Nat) (L : List Nat) (p nx : Nat) (W : World) (hW : Rdr W sb L p nx) (hq : nx ≤ 60) : Calls Tryd.prog 31 #[.pointer (some ⟨sb, 0, none⟩), .int .i64 1] W (BlQ W sb L (blN L 4 (p, nx))) :=
  nblock_any sb L 4 1 rfl (p, nx) W hW hq
def MadeQ (w : World) (P C : List Nat) (r : Ending) (w' : World) : Prop := (∃ v, r = .returned v ∧ (mkN P C).Val (nw w.heap.size w') v) ∧ Below w.heap.size w w'
set_option maxRecDepth 20000 in
set_option maxHeartbeats 8000000 in
theorem made10_any (P C : List Nat) (v : Value) (w : World) (hv : DrN w P C v) : Calls Tryd.prog 18 #[v] w (MadeQ w P C) := by
  obtain ⟨pa, pc, ca, cc, rfl, hp, hc⟩ := hv
  have HP := hide hp
  have HC := hide hc
  have hpl : P.length ≤ 9223372036854775807 := Nat.le_trans hp.len hp.cap
  have hcl : C.length ≤ 9223372036854775807 := Nat.le_trans hc.len hc.cap
  have HB0 : Hid (Below w.heap.size w (((w.alloc (.cells #[.slice pa P.length pc, .slice ca C.length cc] 38)).alloc (.cells #[.string ⟨#[]⟩, .slice none 0 0, .int .i64 0, .slice none 0 0, .int .i64 0] 42)).alloc (.cells #[.string ⟨#[102]⟩, (.slice none 0 0), .int .i64 0, (.slice none 0 0), .int .i64 0] 42))) := hide ((((bl w).al _).al _).al _)
  have HX0 : Hid ((((w.alloc (.cells #[.slice pa P.length pc, .slice ca C.length cc] 38)).alloc (.cells #[.string ⟨#[]⟩, .slice none 0 0, .int .i64 0, .slice none 0 0, .int .i64 0] 42)).alloc (.cells #[.string ⟨#[102]⟩, (.slice none 0 0), .int .i64 0, (.slice none 0 0), .int .i64 0] 42)).heap[w.heap.size + 1 + 1]? = some (.cells #[.string ⟨#[102]⟩, (.slice none 0 0), .int .i64 0, (.slice none 0 0), .int .i64 0] 42 (0, 0))) := hide (by
    have := heap_alloc_new ((w.alloc (.cells #[.slice pa P.length pc, .slice ca C.length cc] 38)).alloc (.cells #[.string ⟨#[]⟩, .slice none 0 0, .int .i64 0, .slice none 0 0, .int .i64 0] 42)) (.cells #[.string ⟨#[102]⟩, (.slice none 0 0), .int .i64 0, (.slice none 0 0), .int .i64 0] 42)
    simpa using this)
  have HD0 : Hid ((((w.alloc (.cells #[.slice pa P.length pc, .slice ca C.length cc] 38)).alloc (.cells #[.string ⟨#[]⟩, .slice none 0 0, .int .i64 0, .slice none 0 0, .int .i64 0] 42)).alloc (.cells #[.string ⟨#[102]⟩, (.slice none 0 0), .int .i64 0, (.slice none 0 0), .int .i64 0] 42)).heap[w.heap.size]? = some (.cells #[.slice pa P.length pc, .slice ca C.length cc] 38 (0, 0))) := hide (by
    rw [Below.heap_alloc _ _ _ (by simp <;> omega), Below.heap_alloc _ _ _ (by simp <;> omega)]
    have := heap_alloc_new w (.cells #[.slice pa P.length pc, .slice ca C.length cc] 38)
    simpa using this)
  have HZ0 : Hid ((((w.alloc (.cells #[.slice pa P.length pc, .slice ca C.length cc] 38)).alloc (.cells #[.string ⟨#[]⟩, .slice none 0 0, .int .i64 0, .slice none 0 0, .int .i64 0] 42)).alloc (.cells #[.string ⟨#[102]⟩, (.slice none 0 0), .int .i64 0, (.slice none 0 0), .int .i64 0] 42)).heap[w.heap.size + 1]? = some (.cells #[.string ⟨#[]⟩, .slice none 0 0, .int .i64 0, .slice none 0 0, .int .i64 0] 42 (0, 0))) := hide (by
    rw [Below.heap_alloc _ _ _ (by simp <;> omega)]
    have := heap_alloc_new (w.alloc (.cells #[.slice pa P.length pc, .slice ca C.length cc] 38)) (.cells #[.string ⟨#[]⟩, .slice none 0 0, .int .i64 0, .slice none 0 0, .int .i64 0] 42)
    simpa using this)
  have HS0 : Hid ((((w.alloc (.cells #[.slice pa P.length pc, .slice ca C.length cc] 38)).alloc (.cells #[.string ⟨#[]⟩, .slice none 0 0, .int .i64 0, .slice none 0 0, .int .i64 0] 42)).alloc (.cells #[.string ⟨#[102]⟩, (.slice none 0 0), .int .i64 0, (.slice none 0 0), .int .i64 0] 42)).heap.size = w.heap.size + 1 + 1 + 1) := hide (by simp)
  clear hp hc
  go_enter Tryd.func18, Tryd.ntmps18
  go_wp2_with fail
  generalize hW0 : (((w.alloc (.cells #[.slice pa P.length pc, .slice ca C.length cc] 38)).alloc (.cells #[.string ⟨#[]⟩, .slice none 0 0, .int .i64 0, .slice none 0 0, .int .i64 0] 42)).alloc (.cells #[.string ⟨#[102]⟩, (.slice none 0 0), .int .i64 0, (.slice none 0 0), .int .i64 0] 42)) = W0 at *
  generalize hn2 : w.heap.size + 1 + 1 = n2 at *
  generalize hn1 : w.heap.size + 1 = n1 at *
  have hln1 : w.heap.size < n1 := by omega
  have hln2 : n1 < n2 := by omega
  have hs0 : n2 + 1 ≤ W0.heap.size := by have := HS0.out; omega
  have hs0' : W0.heap.size ≤ n2 + 1 := by have := HS0.out; omega
  clear hW0 hn1 hn2 HS0
  have HBY := hide (HP.out.has (has_below HB0.out))
  obtain ⟨i0, hi, hz0, hz1, hz2⟩ := info_parts info_pm
  go_loopw [4] (fun i wr => ∃ (k : Nat) (va : Option Addr) (vc : Nat), k ≤ P.length ∧ k ≤ 8 ∧ i = .int .i64 k ∧ Hid (Kept [n2] W0 wr) ∧ Hid (wr.heap[n2]? = some (.cells #[.string ⟨#[102]⟩, (.slice va k vc), .int .i64 0, (.slice none 0 0), .int .i64 0] 42 (0, 0))) ∧
    Hid (OwnL wr (n2 + 1) 58 2 PmC [n2] (.slice va k vc) ((P.take k).map pmN))) (fun i _ => P.length - (intOf i).toNat)
  case atStart => exact ⟨0, none, 0, Nat.zero_le _, Nat.zero_le _, rfl, hide (Kept.refl _ _), HX0, hide (OwnL.nil _ _ _ _ _ _)⟩
  case round =>
    obtain ⟨k, va, vc, hk, hk8, rfl, HK, HX, HO⟩ := hrel
    have HD := hide (HK.out.heap (b := w.heap.size) (by simp; omega) HD0.out)
    have d0 := cell_at (j := 0) HD.out rfl
    have hdl : w.heap.size < wr.heap.size := cell_lt d0
    go_upto_region 3 with fail
    go_cut [15] (fun c wx => c = .bool (decide (k < P.length) && decide (k < 8)) ∧ wr = wx)
    case first =>
      by_cases h1 : k < P.length
      · have e1 : decide (k < P.length) = true := decide_eq_true h1
        have e2 : decide ((k : Int) < (P.length : Int)) = true := decide_eq_true (by omega)
        by_cases h2 : k < 8
        · have e3 : decide (k < 8) = true := decide_eq_true h2
          have e4 : decide ((k : Int) < 8) = true := decide_eq_true (by omega)
          go_wp2_with fail
          go_meet
          exact ⟨by simp [e1, e3], rfl⟩
        · have e3 : decide (k < 8) = false := decide_eq_false h2
          have e4 : decide ((k : Int) < 8) = false := decide_eq_false (by omega)
          go_wp2_with fail
          go_meet
          exact ⟨by simp [e1, e3], rfl⟩
      · have e1 : decide (k < P.length) = false := decide_eq_false h1
        have e2 : decide ((k : Int) < (P.length : Int)) = false := decide_eq_false (by omega)
        go_wp2_with fail
        go_meet
        exact ⟨by simp [e1], rfl⟩
    case rest =>
      obtain ⟨rfl, rfl⟩ := hcut
      cases hgd : (decide (k < P.length) && decide (k < 8))
      · have hmin : k = min P.length 8 := by
          simp only [Bool.and_eq_false_iff, decide_eq_false_iff_not] at hgd
          omega
        clear hgd
        have d1 := cell_at (j := 1) HD.out rfl
        go_wp2_with fail
        have hsz1 : W0.heap.size ≤ wr.heap.size := HK.out.size
        have HR0 := bys_rdr HC.out (fun b o v hv => HK.out.cell (by simp; have := cell_lt hv; simp only at this; omega) (has_below HB0.out _ _ _ hv)) (by omega : w.heap.size ≤ wr.heap.size)
        obtain ⟨va', vc', he, hpm⟩ := own_pmsN HO.out (Nat.le_refl (n2 + 1))
        simp only [Value.slice.injEq] at he
        obtain ⟨rfl, hkl, rfl⟩ := he
        have HPM1 : Hid (Pms (av (wr.heap.size :: List.range (n2 + 1)) (wr.alloc (.cells #[.slice ca C.length cc, .int .i64 0, .int .i64 0] 74))) ((P.take k).map pmN) va vc) := hide (hpm.has (has_one ((bl wr).al _) _ (Nat.le_refl _)))
        have HX1 := hide ((Below.heap_alloc wr (.cells #[.slice ca C.length cc, .int .i64 0, .int .i64 0] 74) _ (Array.getElem?_eq_some_iff.1 HX.out).1).trans HX.out)
        have HZ1 := hide ((Below.heap_alloc wr (.cells #[.slice ca C.length cc, .int .i64 0, .int .i64 0] 74) _ (by omega : n1 < wr.heap.size)).trans (HK.out.heap (b := n1) (by simp; omega) HZ0.out))
        have HB1 : Hid (Below w.heap.size w (wr.alloc (.cells #[.slice ca C.length cc, .int .i64 0, .int .i64 0] 74))) := hide ((HK.out.below HB0.out (by simp; omega)).al _)
        have hs1 : (wr.alloc (.cells #[.slice ca C.length cc, .int .i64 0, .int .i64 0] 74)).heap.size = wr.heap.size + 1 := by simp
        have hs1a : wr.heap.size + 1 ≤ (wr.alloc (.cells #[.slice ca C.length cc, .int .i64 0, .int .i64 0] 74)).heap.size := by omega
        have hs1b : (wr.alloc (.cells #[.slice ca C.length cc, .int .i64 0, .int .i64 0] 74)).heap.size ≤ wr.heap.size + 1 := by omega
        have hsb : n2 < wr.heap.size := by omega
        have hk8' : k ≤ 8 := hk8
        have HLP : Hid (((P.take k).map pmN).length = k) := hide (by simp; omega)
        have HTP : Hid ((P.take k).map pmN = (P.take 8).map pmN) := hide (by
          rcases Nat.le_total P.length 8 with h | h
          · rw [List.take_of_length_le (by omega), List.take_of_length_le h]
          · rw [show k = 8 by omega])
        clear hpm HX HK HO HD d1 d0 hdl hs1 hkl HD0 HX0 HZ0 HB0 HBY hmin hi hz0 hz1 hz2 i0
        generalize wr.alloc (.cells #[.slice ca C.length cc, .int .i64 0, .int .i64 0] 74) = W1 at *
        generalize wr.heap.size = sb at *
        obtain ⟨R, hR⟩ : ∃ R, R = mdsN C C.length [] (0, 0) := ⟨_, rfl⟩
        have HMK : Hid (mkN P C = ⟨[102], (P.take k).map pmN, 0, R.1, (R.2.2 : Nat)⟩) := hide (by rw [mkN, HTP.out, hR])
        have HRR := hide hR.symm
        clear hR
        have HNB := hide (fun (p nx : Nat) (W : World) (hW : Rdr W sb C p nx) (hq : nx ≤ 60) => nblock1_any sb C p nx W hW hq)
        obtain ⟨i0, hi, hz0, hz1, hz2⟩ := info_parts info_st
        go_loopw [43] (fun _ wr => ∃ (l : List St) (p nx m : Nat) (vb : Option Addr) (vd : Nat), Hid (mdsN C m l (p, nx) = R) ∧ C.length ≤ p + m ∧ nx ≤ 60 ∧ Hid (nx = cntL l) ∧ Hid (wr.heap[n2]? = some (.cells #[.string ⟨#[102]⟩, (.slice va k vc), .int .i64 0, (.slice vb l.length vd), .int .i64 0] 42 (0, 0))) ∧
          Hid (OwnL wr (sb + 1) 62 8 StC (List.range (sb + 1)) (.slice vb l.length vd) l) ∧ Rdr wr sb C p nx ∧ Hid (Kept [n2, sb] W1 wr)) (fun _ wr => C.length - ptOf wr sb)
        case atStart => exact ⟨[], 0, 0, C.length, none, 0, HRR, by omega, by omega, hide rfl, HX1, hide (OwnL.nil _ _ _ _ _ _), HR0, hide (Kept.refl _ _)⟩
        case round =>
          obtain ⟨l, p, nx, m, vb, vd, HR, hn, hnx, HCN, HX, HOWN, hs, HK⟩ := hrel
          obtain ⟨cx, ccap, c0, c1, c2, f2⟩ := hs.cells
          have hbl := hs.lt
          have x3 := cell_at (j := 3) HX.out rfl
          have hxl := (Array.getElem?_eq_some_iff.1 HX.out).1
          by_cases h1 : (p : Int) < (C.length : Int)
          · have hd1 : decide ((p : Int) < (C.length : Int)) = true := by simpa using h1
            by_cases h2 : (nx : Int) < 60
            · have hd2 : decide ((nx : Int) < 60) = true := by simpa using h2
              by_cases h3 : (l.length : Int) < 30
              · have hd3 : decide ((l.length : Int) < 30) = true := by simpa using h3
                go_wp2_with fail
                go_quiet (fail)
                go_upto_region 8 with fail
                have hc : p < C.length ∧ nx < 60 ∧ l.length < 30 := by omega
                obtain ⟨m', hm, hstep⟩ := mdsN_step (q := (p, nx)) (l := l) (L := C) (n := m) hc hn
                subst hm
                have HSTEP := hide (hstep.symm.trans HR.out)
                have hgood := blN_good C 4 (p, nx) (by simp only; omega) hnx
                have hprog := blN_prog C 4 (p, nx) hc.1 hc.2.1
                have hlc := len_cnt (blN C 4 (p, nx)).1
                have hcnt := hgood.cnt
                have hm60 := hgood.most
                have HS8 := hide (hs.below (below_dq (bl wr) nq))
                have HNB1 := hide (fun (W : World) (hW : Rdr W sb C p nx) => HNB.out p nx W hW hnx)
                obtain ⟨r8, hr8⟩ : ∃ r8, r8 = blN C 4 (p, nx) := ⟨_, rfl⟩
                rw [← hr8] at hprog hlc hcnt hm60 HSTEP HNB1
                have hl30 : l.length < 30 := hc.2.2
                have hpC : p < C.length := hc.1
                have hcnt : r8.2.2 = nx + cntL r8.1 := hcnt
                have hprog : p < r8.2.1 := hprog
                clear hstep hgood hr8 HR c0 c1 c2 f2 hd1 hd2 hd3 h1 h2 h3 hc x3
                have HX8 : Hid ((wr.drewN nq).heap[n2]? = some (.cells #[.string ⟨#[102]⟩, (.slice va k vc), .int .i64 0, (.slice vb l.length vd), .int .i64 0] 42 (0, 0))) := hide HX.out
                have HO8 := hide (HOWN.out.below StC.mono (below_dq (bl wr) nq))
                have HK8 := hide (HK.out.dn nq)
                have HPT := hide hs.pt
                clear hs HX HOWN HK
                generalize wr.drewN nq = w8 at *
                have x3 := cell_at (j := 3) HX8.out rfl
                have hx8 := (Array.getElem?_eq_some_iff.1 HX8.out).1
                refine wp_region_held_drew (S := fun _ => True) (by kernel_rfl) trivial (fun hHeld => ?_)
                refine wpAnyH_take (i := 0) (v := ?_) (by simp only [List.getElem?_toArray, List.getElem?_cons_succ, List.getElem?_cons_zero]; rfl) (by kernel_rfl) (by kernel_rfl) (by kernel_rfl) (by exact fun _ _ _ h => h) (Or.inl ⟨by rfl, ?_⟩) (by assumption) ?_
                rotate_left 1
                · ((intro w hSw; (try dsimp only at hSw); go_simp) <;> with_reducible rfl)
                try simp only [Act.put, List.setIfInBounds_toArray, List.set_cons_zero, List.set_cons_succ]
                refine wpAnyH_take (i := 2) (v := ?_) (by simp only [List.getElem?_toArray, List.getElem?_cons_succ, List.getElem?_cons_zero]; rfl) (by kernel_rfl) (by kernel_rfl) (by kernel_rfl) (by exact fun _ _ _ h => h) (Or.inl ⟨by rfl, ?_⟩) (by assumption) ?_
                rotate_left 1
                · ((intro w hSw; (try dsimp only at hSw); go_simp) <;> with_reducible rfl)
                try simp only [Act.put, List.setIfInBounds_toArray, List.set_cons_zero, List.set_cons_succ]
                refine wpAnyH_ready (rs := [1, 3]) (by kernel_rfl) (by simp) ?_
                refine AllReadyH.cons rfl (fun K hK => ?_) (AllReadyH.cons rfl (fun K hK => ?_) AllReadyH.nil)
                all_goals go_simp
                · refine hK.out _ _ trivial (fun hHeld => ?_)
                  clear hK K
                  try simp only [Act.put, List.setIfInBounds_toArray, List.set_cons_zero, List.set_cons_succ]
                  refine wpAnyH_ready (rs := [3]) (by kernel_rfl) (by simp) ?_
                  refine AllReadyH.cons rfl (fun K hK => ?_) AllReadyH.nil
                  go_simp
                  (with_reducible refine (HNB1.out _ (HS8.out.below (bl w8).dr)).mono ?_)
                  rintro r w6 ⟨⟨v6, rfl, hown6⟩, HS6, hK6⟩
                  have HX6 := hide (hK6.heap (by simp; omega) (show w8.drew.heap[n2]? = _ from HX8.out))
                  have x36 := cell_at (j := 3) HX6.out rfl
                  have hx6 := (Array.getElem?_eq_some_iff.1 HX6.out).1
                  have HO6 := hide ((HO8.out.below StC.mono (bl w8).dr).kept StC.mono hK6 (by simp))
                  have HK6 := hide (HK8.out.dr.trNew hK6 (by simp))
                  have hs86 : w8.heap.size ≤ w6.heap.size := hK6.size
                  obtain ⟨pa6, cap6, rfl, hin6⟩ := hown6.news fun _ _ _ h => h.one
                  have hs8s : sb < w8.heap.size := HS8.out.lt
                  have hin7 : (pa6 = none ∧ r8.1 = []) ∨ ∃ ad news, pa6 = some ad ∧ (∀ j u, news[j]? = some u → w6.cell? (ad.add j) = some u) ∧ (∀ u ∈ news, u.oneCell' = true) ∧ Cut 8 (StC (av ((Value.slice vb l.length vd).ownBlock.toList ++ List.range (sb + 1)) w6)) r8.1 news := by
                    rcases hin6 with h | ⟨ad, news, e, h1, h2, h3⟩
                    · exact .inl h
                    · refine .inr ⟨ad, news, e, h1, h2, h3.mono fun a c h => StC.mono _ _ _ _ (has_sub fun g hg => List.mem_append.2 (.inr (List.mem_range.2 ?_))) h⟩
                      show g < w8.heap.size
                      exact own_avoid HO8.out (Nat.le_refl _) (fun g hg => by have := List.mem_range.1 hg; omega) g hg
                  have HIN := hide hin7
                  clear hin6 hin7 hown6 hK6
                  refine hK.out _ _ trivial (fun hHeld => ?_)
                  clear hK K
                  try simp only [Act.put, List.setIfInBounds_toArray, List.set_cons_zero, List.set_cons_succ]
                  refine wpAnyH_ready (rs := [4]) (by kernel_rfl) (by simp) ?_
                  refine AllReadyH.cons rfl (fun K hK => ?_) AllReadyH.nil
                  refine step_pushn _ (by rfl) _ _ 40 (by rfl) (sb + 1) 62 i0 _ 8 128 Tryd.underlying40 hi hz0 hz1 hz2 (by rfl) (Nat.succ_pos _) StC StC.mono (List.range (sb + 1)) (.slice vb l.length vd) l (by rfl) HO6.out pa6 cap6 r8.1 (by rfl) HIN.out (by unfold maxLen; omega) (by omega) (by omega) ?_
                  intro v' w7 hown7 hgrow
                  obtain ⟨va3, vc3, he, -, -⟩ := hown7.slice
                  rw [List.length_append] at he
                  subst he
                  have hbk := fun k hk => (HO6.out.lt k hk).1
                  have HK7 := hide (HK6.out.grown hgrow (fun g hg => .inr (by have := hbk g hg; omega)))
                  have HX7 := hide ((hgrow.block _ hx6 (fun e => by have := hbk _ e.symm; omega)).trans HX6.out)
                  have HS7 := hide (HS6.grown hgrow (fun g hg => by have := hbk g hg; omega))
                  have x37 := cell_at (j := 3) HX7.out rfl
                  have f37 := free_at (j := 3) HX7.out
                  have hx7 := (Array.getElem?_eq_some_iff.1 HX7.out).1
                  have HO7 := hide hown7
                  clear hown7 hgrow hbk
                  refine hK.out _ _ trivial (fun hHeld => ?_)
                  clear hK K
                  try simp only [Act.put, List.setIfInBounds_toArray, List.set_cons_zero, List.set_cons_succ]
                  refine wpAnyH_take (i := 5) (v := ?_) (by simp only [List.getElem?_toArray, List.getElem?_cons_succ, List.getElem?_cons_zero]; rfl) (by kernel_rfl) (by kernel_rfl) (by kernel_rfl) (by exact fun _ _ _ h => h) (Or.inl ⟨by rfl, ?_⟩) (by assumption) ?_
                  rotate_left 1
                  · ((intro w hSw; (try dsimp only at hSw); go_simp) <;> with_reducible rfl)
                  try simp only [Act.put, List.setIfInBounds_toArray, List.set_cons_zero, List.set_cons_succ]
                  refine wpAnyH_ready (rs := [6]) (by kernel_rfl) (by simp) ?_
                  refine AllReadyH.cons rfl (fun K hK => ?_) AllReadyH.nil
                  go_simp
                  refine hK.out _ _ trivial (fun hHeld => ?_)
                  clear hK K
                  try simp only [Act.put, List.setIfInBounds_toArray, List.set_cons_zero, List.set_cons_succ]
                  refine wpAnyH_done (by kernel_rfl) ?_ _
                  go_wp2_with fail
                  have HS9 := HS7.out.setF HX7.out (by omega) 3 (.slice va3 (l.length + r8.1.length) vc3)
                  go_roundw
                  case rel =>
                    exact ⟨l ++ r8.1, r8.2.1, r8.2.2, m', va3, vc3, HSTEP, by omega, hm60, hide (show r8.2.2 = cntL (l ++ r8.1) by rw [cntL_app, ← HCN.out]; exact hcnt), hide (by simpa using heap_set (i := 3) HX7.out (.slice va3 (l.length + r8.1.length) vc3)), hide (by rw [List.length_append]; exact HO7.out.kept StC.mono ((Kept.refl [n2] w7).set (g := n2) (.inl (by simp)) 3 _) (by simp; omega)), HS9, hide (HK7.out.set (g := n2) (.inl (by simp)) 3 _)⟩
                  case measure =>
                    have e1 := HPT.out
                    have e2 := HS9.pt
                    rw [e1, e2]
                    omega
                · (with_reducible refine (HNB1.out _ (HS8.out.below (bl w8).dr)).mono ?_)
                  rintro r w6 ⟨⟨v6, rfl, hown6⟩, HS6, hK6⟩
                  have HX6 := hide (hK6.heap (by simp; omega) (show w8.drew.heap[n2]? = _ from HX8.out))
                  have x36 := cell_at (j := 3) HX6.out rfl
                  have hx6 := (Array.getElem?_eq_some_iff.1 HX6.out).1
                  have HO6 := hide ((HO8.out.below StC.mono (bl w8).dr).kept StC.mono hK6 (by simp))
                  have HK6 := hide (HK8.out.dr.trNew hK6 (by simp))
                  have hs86 : w8.heap.size ≤ w6.heap.size := hK6.size
                  obtain ⟨pa6, cap6, rfl, hin6⟩ := hown6.news fun _ _ _ h => h.one
                  have hs8s : sb < w8.heap.size := HS8.out.lt
                  have hin7 : (pa6 = none ∧ r8.1 = []) ∨ ∃ ad news, pa6 = some ad ∧ (∀ j u, news[j]? = some u → w6.cell? (ad.add j) = some u) ∧ (∀ u ∈ news, u.oneCell' = true) ∧ Cut 8 (StC (av ((Value.slice vb l.length vd).ownBlock.toList ++ List.range (sb + 1)) w6)) r8.1 news := by
                    rcases hin6 with h | ⟨ad, news, e, h1, h2, h3⟩
                    · exact .inl h
                    · refine .inr ⟨ad, news, e, h1, h2, h3.mono fun a c h => StC.mono _ _ _ _ (has_sub fun g hg => List.mem_append.2 (.inr (List.mem_range.2 ?_))) h⟩
                      show g < w8.heap.size
                      exact own_avoid HO8.out (Nat.le_refl _) (fun g hg => by have := List.mem_range.1 hg; omega) g hg
                  have HIN := hide hin7
                  clear hin6 hin7 hown6 hK6
                  refine hK.out _ _ trivial (fun hHeld => ?_)
                  clear hK K
                  try simp only [Act.put, List.setIfInBounds_toArray, List.set_cons_zero, List.set_cons_succ]
                  refine wpAnyH_ready (rs := [1]) (by kernel_rfl) (by simp) ?_
                  refine AllReadyH.cons rfl (fun K hK => ?_) AllReadyH.nil
                  go_simp
                  refine hK.out _ _ trivial (fun hHeld => ?_)
                  clear hK K
                  try simp only [Act.put, List.setIfInBounds_toArray, List.set_cons_zero, List.set_cons_succ]
                  refine wpAnyH_ready (rs := [4]) (by kernel_rfl) (by simp) ?_
                  refine AllReadyH.cons rfl (fun K hK => ?_) AllReadyH.nil
                  refine step_pushn _ (by rfl) _ _ 40 (by rfl) (sb + 1) 62 i0 _ 8 128 Tryd.underlying40 hi hz0 hz1 hz2 (by rfl) (Nat.succ_pos _) StC StC.mono (List.range (sb + 1)) (.slice vb l.length vd) l (by rfl) HO6.out pa6 cap6 r8.1 (by rfl) HIN.out (by unfold maxLen; omega) (by omega) (by omega) ?_
                  intro v' w7 hown7 hgrow
                  obtain ⟨va3, vc3, he, -, -⟩ := hown7.slice
                  rw [List.length_append] at he
                  subst he
                  have hbk := fun k hk => (HO6.out.lt k hk).1
                  have HK7 := hide (HK6.out.grown hgrow (fun g hg => .inr (by have := hbk g hg; omega)))
                  have HX7 := hide ((hgrow.block _ hx6 (fun e => by have := hbk _ e.symm; omega)).trans HX6.out)
                  have HS7 := hide (HS6.grown hgrow (fun g hg => by have := hbk g hg; omega))
                  have x37 := cell_at (j := 3) HX7.out rfl
                  have f37 := free_at (j := 3) HX7.out
                  have hx7 := (Array.getElem?_eq_some_iff.1 HX7.out).1
                  have HO7 := hide hown7
                  clear hown7 hgrow hbk
                  refine hK.out _ _ trivial (fun hHeld => ?_)
                  clear hK K
                  try simp only [Act.put, List.setIfInBounds_toArray, List.set_cons_zero, List.set_cons_succ]
                  refine wpAnyH_take (i := 5) (v := ?_) (by simp only [List.getElem?_toArray, List.getElem?_cons_succ, List.getElem?_cons_zero]; rfl) (by kernel_rfl) (by kernel_rfl) (by kernel_rfl) (by exact fun _ _ _ h => h) (Or.inl ⟨by rfl, ?_⟩) (by assumption) ?_
                  rotate_left 1
                  · ((intro w hSw; (try dsimp only at hSw); go_simp) <;> with_reducible rfl)
                  try simp only [Act.put, List.setIfInBounds_toArray, List.set_cons_zero, List.set_cons_succ]
                  refine wpAnyH_ready (rs := [6]) (by kernel_rfl) (by simp) ?_
                  refine AllReadyH.cons rfl (fun K hK => ?_) AllReadyH.nil
                  go_simp
                  refine hK.out _ _ trivial (fun hHeld => ?_)
                  clear hK K
                  try simp only [Act.put, List.setIfInBounds_toArray, List.set_cons_zero, List.set_cons_succ]
                  refine wpAnyH_done (by kernel_rfl) ?_ _
                  go_wp2_with fail
                  have HS9 := HS7.out.setF HX7.out (by omega) 3 (.slice va3 (l.length + r8.1.length) vc3)
                  go_roundw
                  case rel =>
                    exact ⟨l ++ r8.1, r8.2.1, r8.2.2, m', va3, vc3, HSTEP, by omega, hm60, hide (show r8.2.2 = cntL (l ++ r8.1) by rw [cntL_app, ← HCN.out]; exact hcnt), hide (by simpa using heap_set (i := 3) HX7.out (.slice va3 (l.length + r8.1.length) vc3)), hide (by rw [List.length_append]; exact HO7.out.kept StC.mono ((Kept.refl [n2] w7).set (g := n2) (.inl (by simp)) 3 _) (by simp; omega)), HS9, hide (HK7.out.set (g := n2) (.inl (by simp)) 3 _)⟩
                  case measure =>
                    have e1 := HPT.out
                    have e2 := HS9.pt
                    rw [e1, e2]
                    omega
              · have hd3 : decide ((l.length : Int) < 30) = false := by simpa using h3
                have HSTOP := hide (HR.out.symm.trans (mdsN_stop (q := (p, nx)) (l := l) (L := C) (by simp only; omega) m))
                go_wp2_with fail
                go_quiet (fail)
                have x0 := cell_at (j := 0) HX.out rfl
                have x1 := cell_at (j := 1) HX.out rfl
                have x2 := cell_at (j := 2) HX.out rfl
                have x4 := cell_at (j := 4) HX.out rfl
                have fx := free_at (j := 4) HX.out
                have HZ := hide (HK.out.heap (b := n1) (by simp; omega) HZ1.out)
                have z0 := cell_at (j := 0) HZ.out rfl
                have z1 := cell_at (j := 1) HZ.out rfl
                have z2 := cell_at (j := 2) HZ.out rfl
                have z3 := cell_at (j := 3) HZ.out rfl
                have z4 := cell_at (j := 4) HZ.out rfl
                have fz := fun j => free_at (j := j) HZ.out
                have hzl := (Array.getElem?_eq_some_iff.1 HZ.out).1
                have hn12 : ¬ n1 = n2 := by omega
                have hn21 : ¬ n2 = n1 := by omega
                have hns : ¬ n2 = sb := by omega
                go_wp2_with fail
                refine cut_end (fun W' => Kept [n1, n2] wr W' ∧ W'.cell? ⟨n1, 0, none⟩ = some (.string ⟨#[102]⟩) ∧ W'.cell? ⟨n1, 1, none⟩ = some (.slice va k vc) ∧ W'.cell? ⟨n1, 2, none⟩ = some (.int .i64 0) ∧ W'.cell? ⟨n1, 3, none⟩ = some (.slice vb l.length vd) ∧ W'.cell? ⟨n1, 4, none⟩ = some (.int .i64 nx)) ⟨by (repeat refine Kept.set ?_ (.inl (by simp)) _ _); exact (Kept.refl _ _).dn _, by go_simp, by go_simp, by go_simp, by go_simp, by go_simp⟩ ?_
                intro W' hf
                obtain ⟨hkf, r0, r1, r2, r3, r4⟩ := hf
                refine bodyPost_ret (v := .agg #[.string ⟨#[102]⟩, .slice va k vc, .int .i64 0, .slice vb l.length vd, .int .i64 nx]) (by simp [results, Tryd.results18, go_sem, r0, r1, r2, r3, r4]) rfl ?_
                obtain ⟨b2, cap2, he2, hrow, hle, hcm⟩ := HOWN.out.sts (fun g hg => List.mem_range.1 hg)
                simp only [Value.slice.injEq, true_and] at he2
                obtain ⟨rfl, rfl⟩ := he2
                have hrow2 := (hrow.has (has_nw_kept (n := sb + 1) hkf (by simp; omega))).has (has_nws (by omega : w.heap.size ≤ sb + 1))
                have hpm2 := ((HPM1.out.has (has_kept (HK.out.sub (by simp)))).has (has_kept (hkf.sub (by simp; omega)))).has (has_sub (m := List.range w.heap.size) (by simp; omega))
                have hk12 := (HK.out.below HB1.out (by simp; omega))
                have hbf := hkf.below hk12 (by simp; omega)
                refine ⟨⟨_, rfl, ?_⟩, hbf⟩
                rw [HMK.out, HSTOP.out]
                exact ⟨va, vb, vc, vd, by simp only [HLP.out], ⟨by unfold maxLen; simp, i64_l 0 (by omega), hle, hcm, i64_l _ (by simp only; omega)⟩, hpm2, hrow2⟩
            · have hd2 : decide ((nx : Int) < 60) = false := by simpa using h2
              have HSTOP := hide (HR.out.symm.trans (mdsN_stop (q := (p, nx)) (l := l) (L := C) (by simp only; omega) m))
              go_wp2_with fail
              go_quiet (fail)
              have x0 := cell_at (j := 0) HX.out rfl
              have x1 := cell_at (j := 1) HX.out rfl
              have x2 := cell_at (j := 2) HX.out rfl
              have x4 := cell_at (j := 4) HX.out rfl
              have fx := free_at (j := 4) HX.out
              have HZ := hide (HK.out.heap (b := n1) (by simp; omega) HZ1.out)
              have z0 := cell_at (j := 0) HZ.out rfl
              have z1 := cell_at (j := 1) HZ.out rfl
              have z2 := cell_at (j := 2) HZ.out rfl
              have z3 := cell_at (j := 3) HZ.out rfl
              have z4 := cell_at (j := 4) HZ.out rfl
              have fz := fun j => free_at (j := j) HZ.out
              have hzl := (Array.getElem?_eq_some_iff.1 HZ.out).1
              have hn12 : ¬ n1 = n2 := by omega
              have hn21 : ¬ n2 = n1 := by omega
              have hns : ¬ n2 = sb := by omega
              go_wp2_with fail
              refine cut_end (fun W' => Kept [n1, n2] wr W' ∧ W'.cell? ⟨n1, 0, none⟩ = some (.string ⟨#[102]⟩) ∧ W'.cell? ⟨n1, 1, none⟩ = some (.slice va k vc) ∧ W'.cell? ⟨n1, 2, none⟩ = some (.int .i64 0) ∧ W'.cell? ⟨n1, 3, none⟩ = some (.slice vb l.length vd) ∧ W'.cell? ⟨n1, 4, none⟩ = some (.int .i64 nx)) ⟨by (repeat refine Kept.set ?_ (.inl (by simp)) _ _); exact (Kept.refl _ _).dn _, by go_simp, by go_simp, by go_simp, by go_simp, by go_simp⟩ ?_
              intro W' hf
              obtain ⟨hkf, r0, r1, r2, r3, r4⟩ := hf
              refine bodyPost_ret (v := .agg #[.string ⟨#[102]⟩, .slice va k vc, .int .i64 0, .slice vb l.length vd, .int .i64 nx]) (by simp [results, Tryd.results18, go_sem, r0, r1, r2, r3, r4]) rfl ?_
              obtain ⟨b2, cap2, he2, hrow, hle, hcm⟩ := HOWN.out.sts (fun g hg => List.mem_range.1 hg)
              simp only [Value.slice.injEq, true_and] at he2
              obtain ⟨rfl, rfl⟩ := he2
              have hrow2 := (hrow.has (has_nw_kept (n := sb + 1) hkf (by simp; omega))).has (has_nws (by omega : w.heap.size ≤ sb + 1))
              have hpm2 := ((HPM1.out.has (has_kept (HK.out.sub (by simp)))).has (has_kept (hkf.sub (by simp; omega)))).has (has_sub (m := List.range w.heap.size) (by simp; omega))
              have hk12 := (HK.out.below HB1.out (by simp; omega))
              have hbf := hkf.below hk12 (by simp; omega)
              refine ⟨⟨_, rfl, ?_⟩, hbf⟩
              rw [HMK.out, HSTOP.out]
              exact ⟨va, vb, vc, vd, by simp only [HLP.out], ⟨by unfold maxLen; simp, i64_l 0 (by omega), hle, hcm, i64_l _ (by simp only; omega)⟩, hpm2, hrow2⟩
          · have hd1 : decide ((p : Int) < (C.length : Int)) = false := by simpa using h1
            have hd1b : decide (p < C.length) = false := by simpa using h1
            have hd1c : ¬ p < C.length := by omega
            have hd1d : (C.length : Int) ≤ (p : Int) := by omega
            have HSTOP := hide (HR.out.symm.trans (mdsN_stop (q := (p, nx)) (l := l) (L := C) (by simp only; omega) m))
            go_wp2_with fail
            go_quiet (fail)
            have x0 := cell_at (j := 0) HX.out rfl
            have x1 := cell_at (j := 1) HX.out rfl
            have x2 := cell_at (j := 2) HX.out rfl
            have x4 := cell_at (j := 4) HX.out rfl
            have fx := free_at (j := 4) HX.out
            have HZ := hide (HK.out.heap (b := n1) (by simp; omega) HZ1.out)
            have z0 := cell_at (j := 0) HZ.out rfl
            have z1 := cell_at (j := 1) HZ.out rfl
            have z2 := cell_at (j := 2) HZ.out rfl
            have z3 := cell_at (j := 3) HZ.out rfl
            have z4 := cell_at (j := 4) HZ.out rfl
            have fz := fun j => free_at (j := j) HZ.out
            have hzl := (Array.getElem?_eq_some_iff.1 HZ.out).1
            have hn12 : ¬ n1 = n2 := by omega
            have hn21 : ¬ n2 = n1 := by omega
            have hns : ¬ n2 = sb := by omega
            go_wp2_with fail
            refine cut_end (fun W' => Kept [n1, n2] wr W' ∧ W'.cell? ⟨n1, 0, none⟩ = some (.string ⟨#[102]⟩) ∧ W'.cell? ⟨n1, 1, none⟩ = some (.slice va k vc) ∧ W'.cell? ⟨n1, 2, none⟩ = some (.int .i64 0) ∧ W'.cell? ⟨n1, 3, none⟩ = some (.slice vb l.length vd) ∧ W'.cell? ⟨n1, 4, none⟩ = some (.int .i64 nx)) ⟨by (repeat refine Kept.set ?_ (.inl (by simp)) _ _); exact (Kept.refl _ _).dn _, by go_simp, by go_simp, by go_simp, by go_simp, by go_simp⟩ ?_
            intro W' hf
            obtain ⟨hkf, r0, r1, r2, r3, r4⟩ := hf
            refine bodyPost_ret (v := .agg #[.string ⟨#[102]⟩, .slice va k vc, .int .i64 0, .slice vb l.length vd, .int .i64 nx]) (by simp [results, Tryd.results18, go_sem, r0, r1, r2, r3, r4]) rfl ?_
            obtain ⟨b2, cap2, he2, hrow, hle, hcm⟩ := HOWN.out.sts (fun g hg => List.mem_range.1 hg)
            simp only [Value.slice.injEq, true_and] at he2
            obtain ⟨rfl, rfl⟩ := he2
            have hrow2 := (hrow.has (has_nw_kept (n := sb + 1) hkf (by simp; omega))).has (has_nws (by omega : w.heap.size ≤ sb + 1))
            have hpm2 := ((HPM1.out.has (has_kept (HK.out.sub (by simp)))).has (has_kept (hkf.sub (by simp; omega)))).has (has_sub (m := List.range w.heap.size) (by simp; omega))
            have hk12 := (HK.out.below HB1.out (by simp; omega))
            have hbf := hkf.below hk12 (by simp; omega)
            refine ⟨⟨_, rfl, ?_⟩, hbf⟩
            rw [HMK.out, HSTOP.out]
            exact ⟨va, vb, vc, vd, by simp only [HLP.out], ⟨by unfold maxLen; simp, i64_l 0 (by omega), hle, hcm, i64_l _ (by simp only; omega)⟩, hpm2, hrow2⟩
      · have hlt : k < P.length ∧ k < 8 := by simpa using hgd
        obtain ⟨hlt, hlt8⟩ := hlt
        clear hgd
        obtain ⟨b, o, rfl⟩ := HBY.out.addr (by omega)
        obtain ⟨h255, c0⟩ := HBY.out.at_ b o rfl k hlt
        have hbl : b < w.heap.size := by
          have := (HP.out.at_ b o rfl k hlt).2
          exact cell_lt this
        obtain ⟨x, hx⟩ : ∃ x, x = P[k] := ⟨_, rfl⟩
        rw [← hx] at h255 c0
        have HTK : Hid ((P.take (k + 1)).map pmN = (P.take k).map pmN ++ [⟨wdN x, 1 + (x : Int) / 24 % 3⟩]) := hide (by
          rw [take_map hlt, ← hx, pmN]
          simp)
        have HL : Hid (((P.take k).map pmN).length = k) := hide (by simp; omega)
        have HSK := hide (fun (W : World) (hW : Kept [n2] W0 W) => (⟨hW.cell (by simp; omega) (cell_at (j := 0) HD0.out rfl), hW.cell (by simp; omega) c0⟩ : W.cell? ⟨w.heap.size, 0, none⟩ = some (.slice (some ⟨b, o, none⟩) P.length pc) ∧ W.cell? ⟨b, o + k, none⟩ = some (.int .u8 (x : Nat))))
        clear c0 hx d0
        go_upto_region 5 with fail
        have x1 := cell_at (j := 1) HX.out rfl
        have hxl := (Array.getElem?_eq_some_iff.1 HX.out).1
        have hv2 : IntKind.u8.wrap ((x : Int) / 24) = (x : Int) / 24 := IntWalk.u8_in _ (by omega)
        have hv3 : ((x : Int) / 24).tmod 3 = (x : Int) / 24 % 3 := Int.tmod_eq_emod_of_nonneg (by omega)
        have hv4 : IntKind.i64.wrap ((x : Int) / 24 % 3) = (x : Int) / 24 % 3 := IntWalk.i64_in _ (by omega)
        have hv5 : IntKind.i64.wrap (1 + (x : Int) / 24 % 3) = 1 + (x : Int) / 24 % 3 := IntWalk.i64_in _ (by omega)
        have HKD := hide (HK.out.dr)
        have HOD := hide (HO.out.below PmC.mono (bl _).dr)
        refine wp_region_held_drew (S := fun W => W.cell? ⟨w.heap.size, 0, none⟩ = some (.slice (some ⟨b, o, none⟩) P.length pc) ∧ W.cell? ⟨b, o + k, none⟩ = some (.int .u8 (x : Nat))) (by kernel_rfl) (HSK.out _ HKD.out) (fun hHeld => ?_)
        refine wpAnyH_take (i := 0) (v := ?_) (by simp only [List.getElem?_toArray, List.getElem?_cons_succ, List.getElem?_cons_zero]; rfl) (by kernel_rfl) (by kernel_rfl) (by kernel_rfl) (by exact fun _ _ _ h => h) (Or.inl ⟨by rfl, ?_⟩) (by assumption) ?_
        rotate_left 1
        · ((intro w hSw; (try dsimp only at hSw); go_simp) <;> with_reducible rfl)
        try simp only [Act.put, List.setIfInBounds_toArray, List.set_cons_zero, List.set_cons_succ]
        refine wpAnyH_take (i := 2) (v := ?_) (by simp only [List.getElem?_toArray, List.getElem?_cons_succ, List.getElem?_cons_zero]; rfl) (by kernel_rfl) (by kernel_rfl) (by kernel_rfl) (by exact fun _ _ _ h => h) (Or.inl ⟨by rfl, ?_⟩) (by assumption) ?_
        rotate_left 1
        · ((intro w hSw; (try dsimp only at hSw); go_simp) <;> with_reducible rfl)
        try simp only [Act.put, List.setIfInBounds_toArray, List.set_cons_zero, List.set_cons_succ]
        refine wpAnyH_take (i := 3) (v := ?_) (by simp only [List.getElem?_toArray, List.getElem?_cons_succ, List.getElem?_cons_zero]; rfl) (by kernel_rfl) (by kernel_rfl) (by kernel_rfl) (by exact fun _ _ _ h => h) (Or.inl ⟨by rfl, ?_⟩) (by assumption) ?_
        rotate_left 1
        · ((intro w hSw; (try dsimp only at hSw); go_simp) <;> with_reducible rfl)
        try simp only [Act.put, List.setIfInBounds_toArray, List.set_cons_zero, List.set_cons_succ]
        refine wpAnyH_take (i := 4) (v := ?_) (by simp only [List.getElem?_toArray, List.getElem?_cons_succ, List.getElem?_cons_zero]; rfl) (by kernel_rfl) (by kernel_rfl) (by kernel_rfl) (by exact fun _ _ _ h => h) (Or.inl ⟨by rfl, ?_⟩) (by assumption) ?_
        rotate_left 1
        · ((intro w hSw; (try dsimp only at hSw); go_simp) <;> with_reducible rfl)
        try simp only [Act.put, List.setIfInBounds_toArray, List.set_cons_zero, List.set_cons_succ]
        refine wpAnyH_take (i := 5) (v := ?_) (by simp only [List.getElem?_toArray, List.getElem?_cons_succ, List.getElem?_cons_zero]; rfl) (by kernel_rfl) (by kernel_rfl) (by kernel_rfl) (by exact fun _ _ _ h => h) (Or.inl ⟨by rfl, ?_⟩) (by assumption) ?_
        rotate_left 1
        · ((intro w hSw; (try dsimp only at hSw); go_simp) <;> with_reducible rfl)
        try simp only [Act.put, List.setIfInBounds_toArray, List.set_cons_zero, List.set_cons_succ]
        refine wpAnyH_take (i := 6) (v := ?_) (by simp only [List.getElem?_toArray, List.getElem?_cons_succ, List.getElem?_cons_zero]; rfl) (by kernel_rfl) (by kernel_rfl) (by kernel_rfl) (by exact fun _ _ _ h => h) (Or.inl ⟨by rfl, ?_⟩) (by assumption) ?_
        rotate_left 1
        · ((intro w hSw; (try dsimp only at hSw); go_simp) <;> with_reducible rfl)
        try simp only [Act.put, List.setIfInBounds_toArray, List.set_cons_zero, List.set_cons_succ]
        refine wpAnyH_take (i := 8) (v := ?_) (by simp only [List.getElem?_toArray, List.getElem?_cons_succ, List.getElem?_cons_zero]; rfl) (by kernel_rfl) (by kernel_rfl) (by kernel_rfl) (by exact fun _ _ _ h => h) (Or.inl ⟨by rfl, ?_⟩) (by assumption) ?_
        rotate_left 1
        · ((intro w hSw; (try dsimp only at hSw); go_simp) <;> with_reducible rfl)
        try simp only [Act.put, List.setIfInBounds_toArray, List.set_cons_zero, List.set_cons_succ]
        refine wpAnyH_take (i := 9) (v := ?_) (by simp only [List.getElem?_toArray, List.getElem?_cons_succ, List.getElem?_cons_zero]; rfl) (by kernel_rfl) (by kernel_rfl) (by kernel_rfl) (by exact fun _ _ _ h => h) (Or.inl ⟨by rfl, ?_⟩) (by assumption) ?_
        rotate_left 1
        · ((intro w hSw; (try dsimp only at hSw); go_simp) <;> with_reducible rfl)
        try simp only [Act.put, List.setIfInBounds_toArray, List.set_cons_zero, List.set_cons_succ]
        refine wpAnyH_take (i := 10) (v := ?_) (by simp only [List.getElem?_toArray, List.getElem?_cons_succ, List.getElem?_cons_zero]; rfl) (by kernel_rfl) (by kernel_rfl) (by kernel_rfl) (by exact fun _ _ _ h => h) (Or.inl ⟨by rfl, ?_⟩) (by assumption) ?_
        rotate_left 1
        · ((intro w hSw; (try dsimp only at hSw); go_simp) <;> with_reducible rfl)
        try simp only [Act.put, List.setIfInBounds_toArray, List.set_cons_zero, List.set_cons_succ]
        refine wpAnyH_take (i := 11) (v := ?_) (by simp only [List.getElem?_toArray, List.getElem?_cons_succ, List.getElem?_cons_zero]; rfl) (by kernel_rfl) (by kernel_rfl) (by kernel_rfl) (by exact fun _ _ _ h => h) (Or.inl ⟨by rfl, ?_⟩) (by assumption) ?_
        rotate_left 1
        · ((intro w hSw; (try dsimp only at hSw); go_simp) <;> with_reducible rfl)
        try simp only [Act.put, List.setIfInBounds_toArray, List.set_cons_zero, List.set_cons_succ]
        refine wpAnyH_take (i := 12) (v := ?_) (by simp only [List.getElem?_toArray, List.getElem?_cons_succ, List.getElem?_cons_zero]; rfl) (by kernel_rfl) (by kernel_rfl) (by kernel_rfl) (by exact fun _ _ _ h => h) (Or.inl ⟨by rfl, ?_⟩) (by assumption) ?_
        rotate_left 1
        · ((intro w hSw; (try dsimp only at hSw); go_simp) <;> with_reducible rfl)
        try simp only [Act.put, List.setIfInBounds_toArray, List.set_cons_zero, List.set_cons_succ]
        refine wpAnyH_take (i := 13) (v := ?_) (by simp only [List.getElem?_toArray, List.getElem?_cons_succ, List.getElem?_cons_zero]; rfl) (by kernel_rfl) (by kernel_rfl) (by kernel_rfl) (by exact fun _ _ _ h => h) (Or.inl ⟨by rfl, ?_⟩) (by assumption) ?_
        rotate_left 1
        · ((intro w hSw; (try dsimp only at hSw); go_simp) <;> with_reducible rfl)
        try simp only [Act.put, List.setIfInBounds_toArray, List.set_cons_zero, List.set_cons_succ]
        refine wpAnyH_take (i := 14) (v := ?_) (by simp only [List.getElem?_toArray, List.getElem?_cons_succ, List.getElem?_cons_zero]; rfl) (by kernel_rfl) (by kernel_rfl) (by kernel_rfl) (by exact fun _ _ _ h => h) (Or.inl ⟨by rfl, ?_⟩) (by assumption) ?_
        rotate_left 1
        · ((intro w hSw; (try dsimp only at hSw); go_simp) <;> with_reducible rfl)
        try simp only [Act.put, List.setIfInBounds_toArray, List.set_cons_zero, List.set_cons_succ]
        refine wpAnyH_take (i := 15) (v := ?_) (by simp only [List.getElem?_toArray, List.getElem?_cons_succ, List.getElem?_cons_zero]; rfl) (by kernel_rfl) (by kernel_rfl) (by kernel_rfl) (by exact fun _ _ _ h => h) (Or.inl ⟨by rfl, ?_⟩) (by assumption) ?_
        rotate_left 1
        · ((intro w hSw; (try dsimp only at hSw); go_simp) <;> with_reducible rfl)
        try simp only [Act.put, List.setIfInBounds_toArray, List.set_cons_zero, List.set_cons_succ]
        refine wpAnyH_take (i := 16) (v := ?_) (by simp only [List.getElem?_toArray, List.getElem?_cons_succ, List.getElem?_cons_zero]; rfl) (by kernel_rfl) (by kernel_rfl) (by kernel_rfl) (by exact fun _ _ _ h => h) (Or.inl ⟨by rfl, ?_⟩) (by assumption) ?_
        rotate_left 1
        · ((intro w hSw; (try dsimp only at hSw); go_simp) <;> with_reducible rfl)
        try simp only [Act.put, List.setIfInBounds_toArray, List.set_cons_zero, List.set_cons_succ]
        refine wpAnyH_ready (rs := [1, 7]) (by kernel_rfl) (by simp) ?_
        refine AllReadyH.cons rfl (fun K hK => ?_) (AllReadyH.cons rfl (fun K hK => ?_) AllReadyH.nil)
        all_goals go_simp
        · refine hK.out _ _ (HSK.out _ HKD.out) (fun hHeld => ?_)
          clear hK K
          try simp only [Act.put, List.setIfInBounds_toArray, List.set_cons_zero, List.set_cons_succ]
          refine wpAnyH_ready (rs := [7]) (by kernel_rfl) (by simp) ?_
          refine AllReadyH.cons rfl (fun K hK => ?_) AllReadyH.nil
          go_simp
          refine (word_any x h255 _).mono ?_
          rintro r w6 ⟨rfl, hb6⟩
          have HK6 := hide (HKD.out.st hb6)
          have HX6 := hide ((hb6.block _ hxl).trans HX.out)
          have x1 := cell_at (j := 1) HX6.out rfl
          have hx6 := (Array.getElem?_eq_some_iff.1 HX6.out).1
          have HO6 := hide (HOD.out.below PmC.mono hb6)
          have HXA := hide ((Below.heap_alloc w6 (.cells #[.string ⟨List.toArray (wdN x)⟩, .int .i64 (1 + (x : Int) / 24 % 3)] 58) _ hx6).trans HX6.out)
          have HOA := hide (HO6.out.al PmC.mono (.cells #[.string ⟨List.toArray (wdN x)⟩, .int .i64 (1 + (x : Int) / 24 % 3)] 58))
          have HKA := hide (HK6.out.al (.cells #[.string ⟨List.toArray (wdN x)⟩, .int .i64 (1 + (x : Int) / 24 % 3)] 58))
          have HNW := hide (news_row w6 [.string ⟨List.toArray (wdN x)⟩, .int .i64 (1 + (x : Int) / 24 % 3)] 58 w6.heap.size rfl)
          have HSZ : Hid (n2 + 1 ≤ (w6.alloc (.cells #[.string ⟨List.toArray (wdN x)⟩, .int .i64 (1 + (x : Int) / 24 % 3)] 58)).heap.size) := hide (by rw [World.size_alloc]; omega)
          have HPV : Hid (∀ W, PmC W ⟨wdN x, 1 + (x : Int) / 24 % 3⟩ [.string ⟨List.toArray (wdN x)⟩, .int .i64 (1 + (x : Int) / 24 % 3)]) := hide (fun W => ⟨rfl, by unfold maxLen; simp [wdN], i64_l _ (by simp only; omega)⟩)
          clear hb6
          refine hK.out _ _ (HSK.out _ HK6.out) (fun hHeld => ?_)
          clear hK K
          try simp only [Act.put, List.setIfInBounds_toArray, List.set_cons_zero, List.set_cons_succ]
          refine wpAnyH_take (i := 17) (v := ?_) (by simp only [List.getElem?_toArray, List.getElem?_cons_succ, List.getElem?_cons_zero]; rfl) (by kernel_rfl) (by kernel_rfl) (by kernel_rfl) (by exact fun _ _ _ h => h) (Or.inl ⟨by rfl, ?_⟩) (by assumption) ?_
          rotate_left 1
          · ((intro w hSw; (try dsimp only at hSw); go_simp) <;> with_reducible rfl)
          try simp only [Act.put, List.setIfInBounds_toArray, List.set_cons_zero, List.set_cons_succ]
          refine wpAnyH_ready (rs := [18]) (by kernel_rfl) (by simp) ?_
          refine AllReadyH.cons rfl (fun K hK => ?_) AllReadyH.nil
          go_simp
          refine hK.out _ _ (HSK.out _ HKA.out) (fun hHeld => ?_)
          clear hK K
          try simp only [Act.put, List.setIfInBounds_toArray, List.set_cons_zero, List.set_cons_succ]
          refine wpAnyH_ready (rs := [19]) (by kernel_rfl) (by simp) ?_
          refine AllReadyH.cons rfl (fun K hK => ?_) AllReadyH.nil
          refine step_push _ (by rfl) _ _ 39 (by rfl) (n2 + 1) 58 i0 _ 2 24 Tryd.underlying39 hi hz0 hz1 hz2 (by rfl) (Nat.succ_pos _) PmC PmC.mono [n2] (.slice va k vc) ((P.take k).map pmN) (by rfl) HOA.out ⟨w6.heap.size, 0, none⟩ 1 [.string ⟨List.toArray (wdN x)⟩, .int .i64 (1 + (x : Int) / 24 % 3)] ⟨wdN x, 1 + (x : Int) / 24 % 3⟩ (by rfl) (by rfl) HNW.out (by simp [Value.oneCell']) (HPV.out _) (by rw [HL.out]; unfold maxLen; omega) (by rw [HL.out]; omega) HSZ.out ?_
          intro v' w7 hown7 hgrow
          obtain ⟨va3, vc3, he, -, -⟩ := hown7.slice
          rw [List.length_append, HL.out] at he
          have he : v' = .slice va3 (k + 1) vc3 := he
          subst he
          have hbk := fun k hk => (HOA.out.lt k hk).1
          have HK7 := hide (HKA.out.grown hgrow (fun g hg => .inr (by have := hbk g hg; omega)))
          have HX7 := hide ((hgrow.block _ (Array.getElem?_eq_some_iff.1 HXA.out).1 (fun e => by have := hbk _ e.symm; omega)).trans HXA.out)
          have x17 := cell_at (j := 1) HX7.out rfl
          have f17 := free_at (j := 1) HX7.out
          have hx7 := (Array.getElem?_eq_some_iff.1 HX7.out).1
          have HO7 := hide hown7
          have HK8 := hide (HK7.out.set (g := n2) (.inl (by simp)) 1 (.slice va3 (k + 1) vc3))
          clear hown7 hgrow hbk
          refine hK.out _ _ (HSK.out _ HK7.out) (fun hHeld => ?_)
          clear hK K
          try simp only [Act.put, List.setIfInBounds_toArray, List.set_cons_zero, List.set_cons_succ]
          refine wpAnyH_take (i := 20) (v := ?_) (by simp only [List.getElem?_toArray, List.getElem?_cons_succ, List.getElem?_cons_zero]; rfl) (by kernel_rfl) (by kernel_rfl) (by kernel_rfl) (by exact fun _ _ _ h => h) (Or.inl ⟨by rfl, ?_⟩) (by assumption) ?_
          rotate_left 1
          · ((intro w hSw; (try dsimp only at hSw); go_simp) <;> with_reducible rfl)
          try simp only [Act.put, List.setIfInBounds_toArray, List.set_cons_zero, List.set_cons_succ]
          refine wpAnyH_ready (rs := [21]) (by kernel_rfl) (by simp) ?_
          refine AllReadyH.cons rfl (fun K hK => ?_) AllReadyH.nil
          go_simp
          refine hK.out _ _ (HSK.out _ HK8.out) (fun hHeld => ?_)
          clear hK K
          try simp only [Act.put, List.setIfInBounds_toArray, List.set_cons_zero, List.set_cons_succ]
          refine wpAnyH_done (by kernel_rfl) ?_ _
          go_wp2_with fail
          go_roundw
          case rel =>
            refine ⟨k + 1, va3, vc3, by omega, by omega, by go_num, HK8, hide (by simpa using heap_set (i := 1) HX7.out (.slice va3 (k + 1) vc3)), hide ?_⟩
            rw [HTK.out]
            exact HO7.out.kept PmC.mono ((Kept.refl [n2] w7).set (g := n2) (.inl (by simp)) 1 _) (by simp)
          case measure => simp [intOf]; omega
        · refine (word_any x h255 _).mono ?_
          rintro r w6 ⟨rfl, hb6⟩
          have HK6 := hide (HKD.out.st hb6)
          have HX6 := hide ((hb6.block _ hxl).trans HX.out)
          have x1 := cell_at (j := 1) HX6.out rfl
          have hx6 := (Array.getElem?_eq_some_iff.1 HX6.out).1
          have HO6 := hide (HOD.out.below PmC.mono hb6)
          have HXA := hide ((Below.heap_alloc w6 (.cells #[.string ⟨List.toArray (wdN x)⟩, .int .i64 (1 + (x : Int) / 24 % 3)] 58) _ hx6).trans HX6.out)
          have HOA := hide (HO6.out.al PmC.mono (.cells #[.string ⟨List.toArray (wdN x)⟩, .int .i64 (1 + (x : Int) / 24 % 3)] 58))
          have HKA := hide (HK6.out.al (.cells #[.string ⟨List.toArray (wdN x)⟩, .int .i64 (1 + (x : Int) / 24 % 3)] 58))
          have HNW := hide (news_row w6 [.string ⟨List.toArray (wdN x)⟩, .int .i64 (1 + (x : Int) / 24 % 3)] 58 w6.heap.size rfl)
          have HSZ : Hid (n2 + 1 ≤ (w6.alloc (.cells #[.string ⟨List.toArray (wdN x)⟩, .int .i64 (1 + (x : Int) / 24 % 3)] 58)).heap.size) := hide (by rw [World.size_alloc]; omega)
          have HPV : Hid (∀ W, PmC W ⟨wdN x, 1 + (x : Int) / 24 % 3⟩ [.string ⟨List.toArray (wdN x)⟩, .int .i64 (1 + (x : Int) / 24 % 3)]) := hide (fun W => ⟨rfl, by unfold maxLen; simp [wdN], i64_l _ (by simp only; omega)⟩)
          clear hb6
          refine hK.out _ _ (HSK.out _ HK6.out) (fun hHeld => ?_)
          clear hK K
          try simp only [Act.put, List.setIfInBounds_toArray, List.set_cons_zero, List.set_cons_succ]
          refine wpAnyH_take (i := 17) (v := ?_) (by simp only [List.getElem?_toArray, List.getElem?_cons_succ, List.getElem?_cons_zero]; rfl) (by kernel_rfl) (by kernel_rfl) (by kernel_rfl) (by exact fun _ _ _ h => h) (Or.inl ⟨by rfl, ?_⟩) (by assumption) ?_
          rotate_left 1
          · ((intro w hSw; (try dsimp only at hSw); go_simp) <;> with_reducible rfl)
          try simp only [Act.put, List.setIfInBounds_toArray, List.set_cons_zero, List.set_cons_succ]
          refine wpAnyH_ready (rs := [1, 18]) (by kernel_rfl) (by simp) ?_
          refine AllReadyH.cons rfl (fun K hK => ?_) (AllReadyH.cons rfl (fun K hK => ?_) AllReadyH.nil)
          all_goals go_simp
          · refine hK.out _ _ (HSK.out _ HK6.out) (fun hHeld => ?_)
            clear hK K
            try simp only [Act.put, List.setIfInBounds_toArray, List.set_cons_zero, List.set_cons_succ]
            refine wpAnyH_ready (rs := [18]) (by kernel_rfl) (by simp) ?_
            refine AllReadyH.cons rfl (fun K hK => ?_) AllReadyH.nil
            go_simp
            refine hK.out _ _ (HSK.out _ HKA.out) (fun hHeld => ?_)
            clear hK K
            try simp only [Act.put, List.setIfInBounds_toArray, List.set_cons_zero, List.set_cons_succ]
            refine wpAnyH_ready (rs := [19]) (by kernel_rfl) (by simp) ?_
            refine AllReadyH.cons rfl (fun K hK => ?_) AllReadyH.nil
            refine step_push _ (by rfl) _ _ 39 (by rfl) (n2 + 1) 58 i0 _ 2 24 Tryd.underlying39 hi hz0 hz1 hz2 (by rfl) (Nat.succ_pos _) PmC PmC.mono [n2] (.slice va k vc) ((P.take k).map pmN) (by rfl) HOA.out ⟨w6.heap.size, 0, none⟩ 1 [.string ⟨List.toArray (wdN x)⟩, .int .i64 (1 + (x : Int) / 24 % 3)] ⟨wdN x, 1 + (x : Int) / 24 % 3⟩ (by rfl) (by rfl) HNW.out (by simp [Value.oneCell']) (HPV.out _) (by rw [HL.out]; unfold maxLen; omega) (by rw [HL.out]; omega) HSZ.out ?_
            intro v' w7 hown7 hgrow
            obtain ⟨va3, vc3, he, -, -⟩ := hown7.slice
            rw [List.length_append, HL.out] at he
            have he : v' = .slice va3 (k + 1) vc3 := he
            subst he
            have hbk := fun k hk => (HOA.out.lt k hk).1
            have HK7 := hide (HKA.out.grown hgrow (fun g hg => .inr (by have := hbk g hg; omega)))
            have HX7 := hide ((hgrow.block _ (Array.getElem?_eq_some_iff.1 HXA.out).1 (fun e => by have := hbk _ e.symm; omega)).trans HXA.out)
            have x17 := cell_at (j := 1) HX7.out rfl
            have f17 := free_at (j := 1) HX7.out
            have hx7 := (Array.getElem?_eq_some_iff.1 HX7.out).1
            have HO7 := hide hown7
            have HK8 := hide (HK7.out.set (g := n2) (.inl (by simp)) 1 (.slice va3 (k + 1) vc3))
            clear hown7 hgrow hbk
            refine hK.out _ _ (HSK.out _ HK7.out) (fun hHeld => ?_)
            clear hK K
            try simp only [Act.put, List.setIfInBounds_toArray, List.set_cons_zero, List.set_cons_succ]
            refine wpAnyH_take (i := 20) (v := ?_) (by simp only [List.getElem?_toArray, List.getElem?_cons_succ, List.getElem?_cons_zero]; rfl) (by kernel_rfl) (by kernel_rfl) (by kernel_rfl) (by exact fun _ _ _ h => h) (Or.inl ⟨by rfl, ?_⟩) (by assumption) ?_
            rotate_left 1
            · ((intro w hSw; (try dsimp only at hSw); go_simp) <;> with_reducible rfl)
            try simp only [Act.put, List.setIfInBounds_toArray, List.set_cons_zero, List.set_cons_succ]
            refine wpAnyH_ready (rs := [21]) (by kernel_rfl) (by simp) ?_
            refine AllReadyH.cons rfl (fun K hK => ?_) AllReadyH.nil
            go_simp
            refine hK.out _ _ (HSK.out _ HK8.out) (fun hHeld => ?_)
            clear hK K
            try simp only [Act.put, List.setIfInBounds_toArray, List.set_cons_zero, List.set_cons_succ]
            refine wpAnyH_done (by kernel_rfl) ?_ _
            go_wp2_with fail
            go_roundw
            case rel =>
              refine ⟨k + 1, va3, vc3, by omega, by omega, by go_num, HK8, hide (by simpa using heap_set (i := 1) HX7.out (.slice va3 (k + 1) vc3)), hide ?_⟩
              rw [HTK.out]
              exact HO7.out.kept PmC.mono ((Kept.refl [n2] w7).set (g := n2) (.inl (by simp)) 1 _) (by simp)
            case measure => simp [intOf]; omega
          · refine hK.out _ _ (HSK.out _ HKA.out) (fun hHeld => ?_)
            clear hK K
            try simp only [Act.put, List.setIfInBounds_toArray, List.set_cons_zero, List.set_cons_succ]
            refine wpAnyH_ready (rs := [1]) (by kernel_rfl) (by simp) ?_
            refine AllReadyH.cons rfl (fun K hK => ?_) AllReadyH.nil
            go_simp
            refine hK.out _ _ (HSK.out _ HKA.out) (fun hHeld => ?_)
            clear hK K
            try simp only [Act.put, List.setIfInBounds_toArray, List.set_cons_zero, List.set_cons_succ]
            refine wpAnyH_ready (rs := [19]) (by kernel_rfl) (by simp) ?_
            refine AllReadyH.cons rfl (fun K hK => ?_) AllReadyH.nil
            refine step_push _ (by rfl) _ _ 39 (by rfl) (n2 + 1) 58 i0 _ 2 24 Tryd.underlying39 hi hz0 hz1 hz2 (by rfl) (Nat.succ_pos _) PmC PmC.mono [n2] (.slice va k vc) ((P.take k).map pmN) (by rfl) HOA.out ⟨w6.heap.size, 0, none⟩ 1 [.string ⟨List.toArray (wdN x)⟩, .int .i64 (1 + (x : Int) / 24 % 3)] ⟨wdN x, 1 + (x : Int) / 24 % 3⟩ (by rfl) (by rfl) HNW.out (by simp [Value.oneCell']) (HPV.out _) (by rw [HL.out]; unfold maxLen; omega) (by rw [HL.out]; omega) HSZ.out ?_
            intro v' w7 hown7 hgrow
            obtain ⟨va3, vc3, he, -, -⟩ := hown7.slice
            rw [List.length_append, HL.out] at he
            have he : v' = .slice va3 (k + 1) vc3 := he
            subst he
            have hbk := fun k hk => (HOA.out.lt k hk).1
            have HK7 := hide (HKA.out.grown hgrow (fun g hg => .inr (by have := hbk g hg; omega)))
            have HX7 := hide ((hgrow.block _ (Array.getElem?_eq_some_iff.1 HXA.out).1 (fun e => by have := hbk _ e.symm; omega)).trans HXA.out)
            have x17 := cell_at (j := 1) HX7.out rfl
            have f17 := free_at (j := 1) HX7.out
            have hx7 := (Array.getElem?_eq_some_iff.1 HX7.out).1
            have HO7 := hide hown7
            have HK8 := hide (HK7.out.set (g := n2) (.inl (by simp)) 1 (.slice va3 (k + 1) vc3))
            clear hown7 hgrow hbk
            refine hK.out _ _ (HSK.out _ HK7.out) (fun hHeld => ?_)
            clear hK K
            try simp only [Act.put, List.setIfInBounds_toArray, List.set_cons_zero, List.set_cons_succ]
            refine wpAnyH_take (i := 20) (v := ?_) (by simp only [List.getElem?_toArray, List.getElem?_cons_succ, List.getElem?_cons_zero]; rfl) (by kernel_rfl) (by kernel_rfl) (by kernel_rfl) (by exact fun _ _ _ h => h) (Or.inl ⟨by rfl, ?_⟩) (by assumption) ?_
            rotate_left 1
            · ((intro w hSw; (try dsimp only at hSw); go_simp) <;> with_reducible rfl)
            try simp only [Act.put, List.setIfInBounds_toArray, List.set_cons_zero, List.set_cons_succ]
            refine wpAnyH_ready (rs := [21]) (by kernel_rfl) (by simp) ?_
            refine AllReadyH.cons rfl (fun K hK => ?_) AllReadyH.nil
            go_simp
            refine hK.out _ _ (HSK.out _ HK8.out) (fun hHeld => ?_)
            clear hK K
            try simp only [Act.put, List.setIfInBounds_toArray, List.set_cons_zero, List.set_cons_succ]
            refine wpAnyH_done (by kernel_rfl) ?_ _
            go_wp2_with fail
            go_roundw
            case rel =>
              refine ⟨k + 1, va3, vc3, by omega, by omega, by go_num, HK8, hide (by simpa using heap_set (i := 1) HX7.out (.slice va3 (k + 1) vc3)), hide ?_⟩
              rw [HTK.out]
              exact HO7.out.kept PmC.mono ((Kept.refl [n2] w7).set (g := n2) (.inl (by simp)) 1 _) (by simp)
            case measure => simp [intOf]; omega
end Go.Proofs.YtccgpmncpemmdaaDoor
