/- Functions with different names, and main at a place: rewindlaw12.distinct. -/
import Derived.Test.YtnkmbddjekepkaaDoorSgR
import Derived.Deep.RegionLaw
import Derived.Laws.AppendOwnNone
namespace Go.Proofs.YtnkmbddjekepkaaDoor
open Go Go.RowKit
set_option linter.unusedSimpArgs false
set_option linter.unusedVariables false
set_option linter.unnecessarySimpa false
section
variable {α : Type} {P : Program} (w : World)
/-- append of all elements of a slice, at a step of a region that draws its order. -/
theorem step_pushes {ops : Array Oper} {o : Oper} {a : Act} {K : Act → World → Prop} {Q : Exit → Act → World → Prop} {E : Prop} (hgd : o.guard = none) (s x : Operand) (t : TypeId)
    (ho : o.op = .call { callee := .builtin .append, args := #[s, x], argTypes := #[t, t] })
    (base : Nat) (e : TypeId) (i : TypeInfo) (z : Value) (size bytes : Nat) (ht : P.underlying t = some (.slice e)) (hi : P.info? e = some i) (hz : i.zero = some z)
    (hsize : i.size = size) (hby : i.bytes = bytes) (hzs : z.cells.size = size) (hsz : 0 < size)
    (V : World → α → List Value → Prop) (hm : Mono V) (ban : List Nat) (v : Value) (l : List α) (hs : a.eval s = v) (hown : OwnL w base e size V ban v l)
    (pa : Option Addr) (m cp : Nat) (news : List Value) (ms : List α) (hml : m = ms.length) (hx : a.eval x = .slice pa m cp) (hnil : pa = none → ms = [] ∧ cp = 0) (hnews : ∀ ad, pa = some ad → ∀ j u, news[j]? = some u → w.cell? (ad.add j) = some u) (h1 : ∀ u ∈ news, u.oneCell' = true)
    (hv : Cut size (V (av (v.ownBlock.toList ++ ban) w)) ms news) (h63 : l.length + ms.length ≤ maxLen) (hbytes : (l.length + ms.length) * bytes ≤ 140737488355328) (hbase : base ≤ w.heap.size)
    (h : ∀ v' w', OwnL w' base e size V ban v' (l ++ ms) → w.grownBy w' v.ownBlock → K (a.put o.dst v') w') :
    if Region.wanted o (yielded ops a.tmps) = true then Oper.wp P o a w K Q else E := by
  have hw : Region.wanted o (yielded ops a.tmps) = true := by simp [Region.wanted, hgd]
  rw [if_pos hw]
  subst hml
  have hown0 := hown
  obtain ⟨xs, hown, hcut⟩ := hown
  cases pa with
  | none =>
    obtain ⟨rfl, rfl⟩ := hnil rfl
    have hrun := run_append_owned_none (P := P) (w := w) base t o.type e i size ht hi v l.length xs hown
    unfold Oper.wp
    simp only [execOp, ho, resolve, invoke, builtin, hs, hx, List.length_nil]
    simp only [Sem.run_bind, Sem.run_pure, Result.andThen_ok, List.map_toArray, List.map_cons, List.map_nil, hs, hx, List.length_nil, hrun]
    refine h v w ?_ ⟨rfl, rfl, rfl, Nat.le_refl _, fun _ _ _ => rfl⟩
    rw [List.append_nil]
    exact hown0
  | some ad =>
    obtain ⟨v', w', hr, h2, h3, _, h5⟩ := run_append_own_at (P := P) w base t o.type e i z size bytes ht hi hz hsize hby hzs hsz v l.length xs hown ad ms.length cp news hv.len (hnews ad rfl) h1 h63 hbytes hbase
    unfold Oper.wp execOp
    simp only [ho, resolve, invoke, builtin, Sem.run_bind, Sem.run_pure, Result.andThen_ok, List.map_toArray, List.map_cons, List.map_nil, hs, hx, hr]
    exact h v' w' (own_push hm hown hcut h2 h3 h5 hv) h3
end
/-- The draft lies in three cells. -/
def Dr.At (w : World) (d : Dr) (b o : Nat) : Prop := ∃ a cap, w.cell? ⟨b, o, none⟩ = some (.int .u8 (d.name : Nat)) ∧ w.cell? ⟨b, o + 1, none⟩ = some (.int .u8 (d.res : Nat)) ∧ w.cell? ⟨b, o + 2, none⟩ = some (.slice a d.pars.length cap) ∧ d.name ≤ 255 ∧ d.res ≤ 255 ∧ Bys w d.pars a cap
theorem Dr.At.has {w w' : World} {d : Dr} {b o : Nat} (h : d.At w b o) (hh : Has w w') : d.At w' b o := by
  obtain ⟨a, cap, h0, h1, h2, h3, h4, h5⟩ := h
  exact ⟨a, cap, hh _ _ _ h0, hh _ _ _ h1, hh _ _ _ h2, h3, h4, h5.has hh⟩
structure Drs (w : World) (l : List Dr) (a : Option Addr) (cap : Nat) : Prop where
  len : l.length ≤ cap
  cap : cap ≤ maxLen
  addr : 0 < l.length → ∃ b o, a = some ⟨b, o, none⟩
  at_ : ∀ (b o : Nat), a = some ⟨b, o, none⟩ → ∀ (i : Nat) (h : i < l.length), l[i].At w b (o + i * 3)
/-- The drafts that are taken: those whose name is new, at most 19. -/
def distUp (l : List Dr) : Nat → List Dr
  | 0 => []
  | k + 1 => match l[k]? with
    | none => distUp l k
    | some d => if d.name % 20 ∉ (distUp l k).map (fun x => x.name % 20) ∧ (distUp l k).length < 19 then distUp l k ++ [d] else distUp l k
theorem distUp_succ {l : List Dr} {k : Nat} (h : k < l.length) : distUp l (k + 1) = if l[k].name % 20 ∉ (distUp l k).map (fun x => x.name % 20) ∧ (distUp l k).length < 19 then distUp l k ++ [l[k]] else distUp l k := by
  rw [distUp, List.getElem?_eq_getElem h]
theorem distUp_len (l : List Dr) : ∀ k, (distUp l k).length ≤ 19
  | 0 => Nat.zero_le _
  | k + 1 => by
    have := distUp_len l k
    rw [distUp]
    split
    · exact this
    · split
      · rw [List.length_append, List.length_singleton]; omega
      · exact this
def distM (l : List Dr) (at_ : Nat) : List Fn := ((distUp l l.length).map drFn).take (at_ % ((distUp l l.length).length + 1)) ++ mainF :: ((distUp l l.length).map drFn).drop (at_ % ((distUp l l.length).length + 1))
/-- The table of names that are there. -/
def seenA (L : List Nat) : Array Value := ((List.range 20).map fun i => Value.bool (decide (i ∈ L))).toArray
theorem seenA_nil : seenA [] = #[.bool false, .bool false, .bool false, .bool false, .bool false, .bool false, .bool false, .bool false, .bool false, .bool false, .bool false, .bool false, .bool false, .bool false, .bool false, .bool false, .bool false, .bool false, .bool false, .bool false] := rfl
theorem seenA_at (L : List Nat) {q : Nat} (h : q < 20) : (seenA L)[q]? = some (.bool (decide (q ∈ L))) := by
  simp [seenA, h]
theorem seenA_set (L : List Nat) {q : Nat} (h : q < 20) : (seenA L).setIfInBounds q (.bool true) = seenA (L ++ [q]) := by
  apply Array.ext_getElem?
  intro i
  by_cases e : q = i
  · subst e
    rw [Array.getElem?_setIfInBounds_self_of_lt (by simp [seenA]; exact h), seenA_at _ h]
    simp
  · rw [Array.getElem?_setIfInBounds_ne e]
    by_cases hi : i < 20
    · rw [seenA_at _ hi, seenA_at _ hi]
      have : (i ∈ L ++ [q]) ↔ i ∈ L := by simp [Ne.symm e]
      simp [this]
    · rw [Array.getElem?_eq_none (by simp [seenA]; omega), Array.getElem?_eq_none (by simp [seenA]; omega)]
theorem Cut.split {α : Type} {sz : Nat} {V : α → List Value → Prop} : ∀ {l m : List α} {xs : List Value}, Cut sz V (l ++ m) xs → ∃ ys zs, xs = ys ++ zs ∧ Cut sz V l ys ∧ Cut sz V m zs
  | [], _, xs, h => ⟨[], xs, rfl, rfl, h⟩
  | a :: l, m, xs, h => by
    obtain ⟨c, r, rfl, hc, hv, hr⟩ := h
    obtain ⟨ys, zs, rfl, h1, h2⟩ := Cut.split hr
    exact ⟨c ++ ys, zs, by simp, ⟨c, ys, rfl, hc, hv, h1⟩, h2⟩
/-- A new block without cells is an empty slice of the call's own. -/
theorem own_empty12 {w : World} {base g sz : Nat} {α : Type} {V : World → α → List Value → Prop} {t : TypeId} {ban : List Nat} (hb : base ≤ g) (hg : w.heap[g]? = some (.cells #[] t (0, 0))) : OwnL w base t sz V ban (.slice (some ⟨g, 0, none⟩) 0 0) ([] : List α) :=
  ⟨[], ⟨by simp, .inr ⟨g, 0, #[], rfl, hb, hg, Nat.le_refl _, Nat.zero_le _, by simp, by simp⟩⟩, rfl⟩
/-- The cells of functions are single cells. -/
theorem fn_one {V : World} {l : List Fn} {xs : List Value} (h : Cut 5 (FnC V) l xs) : ∀ u ∈ xs, u.oneCell' = true := by
  intro u hu
  obtain ⟨j, hj, rfl⟩ := List.mem_iff_getElem.1 hu
  have hlx := h.len
  have hji : j / 5 < l.length := by omega
  obtain ⟨c, ⟨_, _, _, _, rfl, _⟩, hc5, hcx⟩ := h.get (j / 5) hji
  have hjm : j % 5 < 5 := Nat.mod_lt _ (by decide)
  have h3 := hcx (j % 5) hjm
  rw [show j / 5 * 5 + j % 5 = j by omega, List.getElem?_eq_getElem hj] at h3
  have h4 : xs[j] ∈ [Value.string ⟨(l[j / 5]'hji).name.toArray⟩, _, _, _, _] := List.mem_of_getElem? h3.symm
  simp only [List.mem_cons, List.not_mem_nil, or_false] at h4
  rcases h4 with h | h | h | h | h <;> rw [h] <;> simp [Value.oneCell']
/-- What is appended out of another row: its cells lie where they lay, and say what they said, in whatever later world, without new blocks. -/
structure Src12 (wr : World) (pa : Option Addr) (cp : Nat) (xs : List Value) (l : List Fn) : Prop where
  nil : pa = none → l = [] ∧ cp = 0
  cell : ∀ W, Below wr.heap.size wr W → ∀ ad, pa = some ad → ∀ (j : Nat) (u : Value), xs[j]? = some u → W.cell? (ad.add j) = some u
  one : ∀ u ∈ xs, u.oneCell' = true
  cut : ∀ W bans, Below wr.heap.size wr W → (∀ b ∈ bans, wr.heap.size ≤ b) → Cut 5 (FnC (av bans W)) l xs
theorem Src12.empty (wr : World) (pa : Option Addr) : Src12 wr pa 0 [] [] := ⟨fun _ => ⟨rfl, rfl⟩, fun _ _ _ _ j u h => by simp at h, by simp, fun _ _ _ _ => rfl⟩
theorem src_split {wr : World} {base N vc g kk : Nat} {t : TypeId} {ban : List Nat} {L : List Fn} (h : OwnL wr base t 5 FnC ban (.slice (some ⟨g, 0, none⟩) N vc) L) (hk : kk ≤ L.length) :
    ∃ ys zs, Src12 wr (some ⟨g, 0, none⟩) vc ys (L.take kk) ∧ ∀ c, Src12 wr (some ⟨g, kk * 5, none⟩) c zs (L.drop kk) := by
  obtain ⟨xs, h1, h2⟩ := h
  have hc : ∀ (j : Nat) (u : Value), xs[j]? = some u → wr.cell? ((⟨g, 0, none⟩ : Addr).add j) = some u := h1.cells (by rfl)
  rw [← List.take_append_drop kk L] at h2
  obtain ⟨ys, zs, rfl, hy, hz⟩ := h2.split
  have hyl := hy.len
  rw [List.length_take, Nat.min_eq_left hk] at hyl
  have hm : ∀ W bans, Below wr.heap.size wr W → (∀ b ∈ bans, wr.heap.size ≤ b) → ∀ f c, FnC (av ((Value.slice (some ⟨g, 0, none⟩) N vc).ownBlock.toList ++ ban) wr) f c → FnC (av bans W) f c :=
    fun W bans hW hb f c hfc => FnC.mono _ _ _ _ (has_av.tr ((has_new hb).tr (has_av_below hW))) hfc
  refine ⟨ys, zs, ⟨(fun e => by cases e), ?_, fn_one hy, fun W bans hW hb => hy.mono (hm W bans hW hb)⟩, fun c => ⟨(fun e => by cases e), ?_, fn_one hz, fun W bans hW hb => hz.mono (hm W bans hW hb)⟩⟩
  · intro W hW ad e j u hu
    cases e
    refine cell_keep (hc j u ?_) hW (Nat.le_refl _)
    rw [List.getElem?_append_left (List.getElem?_eq_some_iff.1 hu).1]
    exact hu
  · intro W hW ad e j u hu
    cases e
    have h3 := hc (kk * 5 + j) u (by rw [List.getElem?_append_right (by omega), hyl, Nat.add_sub_cancel_left]; exact hu)
    rw [Addr.add_lit, Nat.zero_add] at h3
    rw [Addr.add_lit]
    exact cell_keep h3 hW (Nat.le_refl _)
theorem own_bans {α : Type} {w : World} {base sz : Nat} {t : TypeId} {V : World → α → List Value → Prop} {v : Value} {l : List α} (h : OwnL w base t sz V [] v l) : ∀ b ∈ v.ownBlock.toList ++ [], base ≤ b := by
  intro b hb
  simp only [List.append_nil, Option.mem_toList] at hb
  exact (h.lt b hb).1
set_option maxRecDepth 20000 in
set_option maxHeartbeats 8000000 in
theorem distinct_any (l : List Dr) (a : Option Addr) (cap : Nat) (n : Nat) (w : World) (hl : Drs w l a cap) (hn : n ≤ 255) :
    Calls Tryd.prog 18 #[.slice a l.length cap, .int .u8 (n : Nat)] w fun r w' => (∃ a' c', r = .returned (.slice a' (distM l n).length c') ∧ Fns w' (distM l n) a' c') ∧ Below w.heap.size w w' := by
  have hlen : l.length ≤ 9223372036854775807 := Nat.le_trans hl.len hl.cap
  have HL := hide hl
  obtain ⟨i0, hi, hz0, hz1, hz2⟩ := info_parts info_fn
  clear hl
  go_enter Tryd.func18, Tryd.ntmps18
  go_wp2_with fail
  go_loopw [5, 7] (fun lv i wr => ∃ (k : Nat) (va : Option Addr) (vc : Nat), k ≤ l.length ∧ i = .int .i64 k ∧ lv = .slice va (distUp l k).length vc ∧ Hid (OwnL wr (w.heap.size + 1) 53 5 FnC [w.heap.size] (.slice va (distUp l k).length vc) ((distUp l k).map drFn)) ∧
    Hid (wr.heap[w.heap.size]? = some (.cells (seenA ((distUp l k).map (fun x => x.name % 20))) 74 (0, 0))) ∧ Hid (Below w.heap.size w wr) ∧ w.heap.size + 1 ≤ wr.heap.size) (fun _ i _ => l.length - (intOf i).toNat)
  case atStart => exact ⟨0, none, 0, Nat.zero_le _, rfl, rfl, hide (OwnL.nil _ _ _ _ _ _), hide (heap_alloc_new _ _), (bl w).al _, by simp⟩
  case round =>
    obtain ⟨k, va, vc, hk, rfl, rfl, HO, HX, HB, hws⟩ := hrel
    have hdl := distUp_len l k
    have hxl : w.heap.size < wr.heap.size := hws
    by_cases hlt : k < l.length
    · obtain ⟨b, o, rfl⟩ := HL.out.addr (by omega)
      obtain ⟨pa, pc, c0, c1, c2, h255, hr255, hby⟩ := (HL.out.at_ b o rfl k hlt).has (has_below HB.out)
      have hbl := cell_lt c0
      simp only at hbl
      obtain ⟨q, hq⟩ : ∃ q, q = l[k].name % 20 := ⟨_, rfl⟩
      have hq20 : q < 20 := by omega
      have e1 : ((l[k].name : Nat) : Int) % 20 = (q : Int) := by omega
      have HDS := hide (distUp_succ hlt)
      have hsq := seenA_at ((distUp l k).map (fun x => x.name % 20)) hq20
      have s0 := cell_at (j := q) HX.out hsq
      have y0 := free_at (j := q) HX.out
      have HBY := hide hby
      have HQ := hide hq
      clear hby hq hsq
      cases hmem : decide (q ∈ (distUp l k).map (fun x => x.name % 20))
      · rw [hmem] at s0
        by_cases h19 : (distUp l k).length < 19
        · have HNM := of_decide_eq_false hmem
          have HE : Hid (distUp l (k + 1) = distUp l k ++ [l[k]]) := hide (by rw [HDS.out, if_pos ⟨by rw [← HQ.out]; exact HNM, h19⟩])
          have HB1 := hide (HB.out.setCell (p := ⟨w.heap.size, q, none⟩) (Nat.le_refl _) (.bool true))
          have HX1 : Hid ((wr.setCell ⟨w.heap.size, q, none⟩ (.bool true)).heap[w.heap.size]? = some (.cells (seenA ((distUp l k).map (fun x => x.name % 20) ++ [q])) 74 (0, 0))) := hide (by
            have := heap_set (i := q) HX.out (.bool true)
            rw [seenA_set _ hq20] at this
            exact this)
          have HO1 := hide (HO.out.kept FnC.mono ((Kept.refl [w.heap.size] wr).set (g := w.heap.size) (.inl (by simp)) q (.bool true)) (by simp))
          have hbw : b < w.heap.size := cell_lt (HL.out.at_ b o rfl k hlt).choose_spec.choose_spec.1
          have nb1 : ¬ b = w.heap.size := by omega
          have nb2 : ¬ w.heap.size = b := by omega
          have HMD : Hid (∀ W, Below w.heap.size w W → Calls Tryd.prog 21 #[.agg #[.int .u8 (l[k].name : Nat), .int .u8 (l[k].res : Nat), .slice pa l[k].pars.length pc]] W fun r w' => (∃ u, r = .returned u ∧ (drFn l[k]).Val (nw W.heap.size w') u) ∧ Below W.heap.size W w') := hide fun W hW => by
            obtain ⟨pa', pc', d0, d1, d2, h255, hr255, hby⟩ := HL.out.at_ b o rfl k hlt
            have d2 := cell_keep d2 HB.out (Nat.le_refl _)
            rw [c2] at d2
            simp only [Option.some.injEq, Value.slice.injEq, true_and] at d2
            obtain ⟨rfl, rfl⟩ := d2
            exact made12_any l[k] _ W ⟨_, _, rfl, h255, hr255, hby.has (has_below hW)⟩
          clear hmem HDS HNM
          go_wp2_with fail
          (with_reducible refine (HMD.out _ HB1.out).mono ?_)
          rintro r w3 ⟨⟨u, rfl, hu⟩, hb3⟩
          obtain ⟨f, hf⟩ : ∃ f, drFn l[k] = f := ⟨_, rfl⟩
          rw [hf] at hu
          have HF := hide hf
          obtain ⟨pp, pb, cp, cb, rfl, hfw, hps, hrow⟩ := hu
          have hz3 := hb3.size
          have hz3' : wr.heap.size ≤ w3.heap.size := by simpa [World.setCell] using hz3
          have HO3 := hide ((HO1.out.below FnC.mono hb3).al FnC.mono (.cells #[.string ⟨f.name.toArray⟩, .slice pp f.params.length cp, .int .i64 f.result, .slice pb f.body.length cb, .int .i64 f.count] 53))
          have HV3 : Hid (FnC (av ((Value.slice va (distUp l k).length vc).ownBlock.toList ++ [w.heap.size]) (w3.alloc (.cells #[.string ⟨f.name.toArray⟩, .slice pp f.params.length cp, .int .i64 f.result, .slice pb f.body.length cb, .int .i64 f.count] 53))) f [.string ⟨f.name.toArray⟩, .slice pp f.params.length cp, .int .i64 f.result, .slice pb f.body.length cb, .int .i64 f.count]) := hide (by
            have hh : Has (nw (wr.setCell ⟨w.heap.size, q, none⟩ (.bool true)).heap.size w3) (av ((Value.slice va (distUp l k).length vc).ownBlock.toList ++ [w.heap.size]) (w3.alloc (.cells #[.string ⟨f.name.toArray⟩, .slice pp f.params.length cp, .int .i64 f.result, .slice pb f.body.length cb, .int .i64 f.count] 53))) := (has_nw_below ((bl w3).al (.cells #[.string ⟨f.name.toArray⟩, .slice pp f.params.length cp, .int .i64 f.result, .slice pb f.body.length cb, .int .i64 f.count] 53))).tr (has_nw_av (fun g hg => by
              have hsz : (wr.setCell ⟨w.heap.size, q, none⟩ (.bool true)).heap.size = wr.heap.size := by simp [World.setCell]
              rw [hsz]
              simp only [List.mem_append, Option.mem_toList, List.mem_cons, List.not_mem_nil, or_false] at hg
              rcases hg with hg | rfl
              · exact (HO.out.lt g hg).2
              · exact hxl))
            exact ⟨pp, pb, cp, cb, rfl, hfw, hps.has hh, hrow.has hh⟩)
          have HNW := hide (news_row w3 [.string ⟨f.name.toArray⟩, .slice pp f.params.length cp, .int .i64 f.result, .slice pb f.body.length cb, .int .i64 f.count] 53 w3.heap.size rfl)
          have HLL : Hid (((distUp l k).map drFn).length = (distUp l k).length) := hide (List.length_map ..)
          have HMA : Hid (((distUp l k).map drFn).length + 1 ≤ maxLen) := hide (by rw [HLL.out]; unfold maxLen; omega)
          have HMB : Hid ((((distUp l k).map drFn).length + 1) * 80 ≤ 140737488355328) := hide (by rw [HLL.out]; omega)
          have HBS : Hid (w.heap.size + 1 ≤ (w3.alloc (.cells #[.string ⟨f.name.toArray⟩, .slice pp f.params.length cp, .int .i64 f.result, .slice pb f.body.length cb, .int .i64 f.count] 53)).heap.size) := hide (by simp; omega)
          have HLEN : Hid (((distUp l k).map drFn ++ [f]).length = (distUp l k).length + 1) := hide (by rw [List.length_append, HLL.out]; rfl)
          have HX3 := hide ((Below.heap_alloc _ (.cells #[.string ⟨f.name.toArray⟩, .slice pp f.params.length cp, .int .i64 f.result, .slice pb f.body.length cb, .int .i64 f.count] 53) _ (by omega)).trans ((hb3.block w.heap.size (by simp [World.setCell]; exact hxl)).trans HX1.out))
          have HB3 := hide ((HB1.out.tr hb3).al (.cells #[.string ⟨f.name.toArray⟩, .slice pp f.params.length cp, .int .i64 f.result, .slice pb f.body.length cb, .int .i64 f.count] 53))
          have hxl3 : w.heap.size < w3.heap.size := by omega
          clear hf hfw hps hrow hb3
          go_wp2_with (at_builtin; refine wpList_push _ rfl _ _ 44 rfl (w.heap.size + 1) 53 i0 _ 5 80 Tryd.underlying44 hi hz0 hz1 hz2 rfl (by decide) FnC FnC.mono [w.heap.size] _ _ rfl HO3.out ⟨w3.heap.size, 0, none⟩ 1 [.string ⟨f.name.toArray⟩, .slice pp f.params.length cp, .int .i64 f.result, .slice pb f.body.length cb, .int .i64 f.count] f rfl rfl HNW.out (by simp [Value.oneCell']) HV3.out HMA.out HMB.out HBS.out ?_; intro v4 w4 hown4 hgrow4; obtain ⟨va4, vc4, he4, -, -⟩ := hown4.slice; rw [HLEN.out] at he4; subst he4)
          go_roundw
          case rel =>
            have e2 : distUp l (k + 1) = distUp l k ++ [l[k]] := HE.out
            have e3 : (distUp l (k + 1)).length = (distUp l k).length + 1 := by rw [e2]; simp
            refine ⟨k + 1, va4, vc4, by omega, by go_num, by rw [e3], ?_, ?_, HB3.out.grown hgrow4 HB3.out.size (fun g hg => by have := (HO.out.lt g hg).1; omega), Nat.le_trans HBS.out hgrow4.size⟩
            · rw [e3, e2, List.map_append, List.map_singleton, HF.out]
              exact hown4
            · rw [e2, List.map_append, List.map_singleton, ← HQ.out]
              exact (hgrow4.block _ (by simp; omega) (fun e => by have := (HO.out.lt _ e.symm).1; omega)).trans HX3.out
          case measure => simp [intOf]; omega
        · have HE : Hid (distUp l (k + 1) = distUp l k) := hide (by rw [HDS.out, if_neg (fun h => h19 h.2)])
          clear hmem HDS
          go_wp2_with fail
          go_roundw
          case rel => exact ⟨k + 1, va, vc, by omega, by go_num, by rw [HE.out], by rw [HE.out]; exact HO, by rw [HE.out]; exact HX, HB, hws⟩
          case measure => simp [intOf]; omega
      · rw [hmem] at s0
        have HE : Hid (distUp l (k + 1) = distUp l k) := hide (by rw [HDS.out, if_neg (fun h => h.1 (by rw [← HQ.out]; exact of_decide_eq_true hmem))])
        clear hmem HDS
        go_wp2_with fail
        go_roundw
        case rel => exact ⟨k + 1, va, vc, by omega, by go_num, by rw [HE.out], by rw [HE.out]; exact HO, by rw [HE.out]; exact HX, HB, hws⟩
        case measure => simp [intOf]; omega
    · obtain rfl : k = l.length := by omega
      obtain ⟨L, hL⟩ : ∃ L, L = (distUp l l.length).map drFn := ⟨_, rfl⟩
      obtain ⟨N, hN⟩ : ∃ N, N = (distUp l l.length).length := ⟨_, rfl⟩
      have hLN : L.length = N := by rw [hL, hN]; exact List.length_map ..
      obtain ⟨kk, hkk⟩ : ∃ kk, kk = n % (N + 1) := ⟨_, rfl⟩
      have hDM : distM l n = L.take kk ++ mainF :: L.drop kk := by unfold distM; rw [hkk, hN, hL]
      have HDM := hide hDM
      rw [← hL, ← hN] at HO
      rw [← hN] at hdl ⊢
      have hkN : kk ≤ N := by rw [hkk]; have := Nat.mod_lt n (show 0 < N + 1 by omega); omega
      have ek : ((n : Nat) : Int) % ((N : Int) + 1) = (kk : Int) := by rw [hkk]; simp
      have HHLN := hide hLN
      clear hDM hL hN hkk hLN HX
      have HX1 := hide ((((bl wr).al (.cells #[.string ⟨#[109, 97, 105, 110]⟩, .slice none 0 0, .int .i64 0, .slice none 0 0, .int .i64 0] 53)).al (.cells #[] 53)).dr)
      have HX2 := hide ((((bl wr).al (.cells #[] 53)).al (.cells #[.string ⟨#[109, 97, 105, 110]⟩, .slice none 0 0, .int .i64 0, .slice none 0 0, .int .i64 0] 53)).dr)
      have HX3 := hide (((bl wr).al (.cells #[] 53)).dr)
      have HE1 : Hid (OwnL ((wr.alloc (.cells #[.string ⟨#[109, 97, 105, 110]⟩, .slice none 0 0, .int .i64 0, .slice none 0 0, .int .i64 0] 53)).alloc (.cells #[] 53)).drew wr.heap.size 53 5 FnC [] (.slice (some ⟨wr.heap.size + 1, 0, none⟩) 0 0) ([] : List Fn)) := hide (own_empty12 (by omega) (by
        show ((wr.alloc (.cells #[.string ⟨#[109, 97, 105, 110]⟩, .slice none 0 0, .int .i64 0, .slice none 0 0, .int .i64 0] 53)).alloc (.cells #[] 53)).heap[wr.heap.size + 1]? = _
        have := heap_alloc_new (wr.alloc (.cells #[.string ⟨#[109, 97, 105, 110]⟩, .slice none 0 0, .int .i64 0, .slice none 0 0, .int .i64 0] 53)) (.cells #[] 53)
        rw [World.size_alloc] at this
        exact this))
      have HE2 : Hid (OwnL ((wr.alloc (.cells #[] 53)).alloc (.cells #[.string ⟨#[109, 97, 105, 110]⟩, .slice none 0 0, .int .i64 0, .slice none 0 0, .int .i64 0] 53)).drew wr.heap.size 53 5 FnC [] (.slice (some ⟨wr.heap.size, 0, none⟩) 0 0) ([] : List Fn)) := hide (own_empty12 (by omega) (by
        show ((wr.alloc (.cells #[] 53)).alloc (.cells #[.string ⟨#[109, 97, 105, 110]⟩, .slice none 0 0, .int .i64 0, .slice none 0 0, .int .i64 0] 53)).heap[wr.heap.size]? = _
        rw [Below.heap_alloc _ _ _ (by simp)]
        exact heap_alloc_new _ _))
      have HE3 : Hid (OwnL (wr.alloc (.cells #[] 53)).drew wr.heap.size 53 5 FnC [] (.slice (some ⟨wr.heap.size, 0, none⟩) 0 0) ([] : List Fn)) := hide (own_empty12 (by omega) (heap_alloc_new _ _))
      have HM1 : Hid (((wr.alloc (.cells #[.string ⟨#[109, 97, 105, 110]⟩, .slice none 0 0, .int .i64 0, .slice none 0 0, .int .i64 0] 53)).alloc (.cells #[] 53)).drew.heap[wr.heap.size]? = some (.cells #[.string ⟨#[109, 97, 105, 110]⟩, .slice none 0 0, .int .i64 0, .slice none 0 0, .int .i64 0] 53 (0, 0))) := hide (by
        show ((wr.alloc (.cells #[.string ⟨#[109, 97, 105, 110]⟩, .slice none 0 0, .int .i64 0, .slice none 0 0, .int .i64 0] 53)).alloc (.cells #[] 53)).heap[wr.heap.size]? = _
        rw [Below.heap_alloc _ _ _ (by simp)]
        exact heap_alloc_new _ _)
      have HM2 : Hid (((wr.alloc (.cells #[] 53)).alloc (.cells #[.string ⟨#[109, 97, 105, 110]⟩, .slice none 0 0, .int .i64 0, .slice none 0 0, .int .i64 0] 53)).drew.heap[wr.heap.size + 1]? = some (.cells #[.string ⟨#[109, 97, 105, 110]⟩, .slice none 0 0, .int .i64 0, .slice none 0 0, .int .i64 0] 53 (0, 0))) := hide (by
        show ((wr.alloc (.cells #[] 53)).alloc (.cells #[.string ⟨#[109, 97, 105, 110]⟩, .slice none 0 0, .int .i64 0, .slice none 0 0, .int .i64 0] 53)).heap[wr.heap.size + 1]? = _
        have := heap_alloc_new (wr.alloc (.cells #[] 53)) (.cells #[.string ⟨#[109, 97, 105, 110]⟩, .slice none 0 0, .int .i64 0, .slice none 0 0, .int .i64 0] 53)
        rw [World.size_alloc] at this
        exact this)
      have HSA := hide fun (W : World) (o : Obj) (h : wr.heap.size ≤ W.heap.size) => (show wr.heap.size ≤ (W.alloc o).heap.size by simp; omega)
      have HOM : Hid (∀ u ∈ ([.string ⟨#[109, 97, 105, 110]⟩, .slice none 0 0, .int .i64 0, .slice none 0 0, .int .i64 0] : List Value), u.oneCell' = true) := hide (by simp [Value.oneCell'])
      have HMC : Hid (∀ W, FnC W mainF [.string ⟨#[109, 97, 105, 110]⟩, .slice none 0 0, .int .i64 0, .slice none 0 0, .int .i64 0]) := hide fun W => mainC W
      have HTKL : Hid ((L.take kk).length = kk) := hide (by rw [List.length_take, HHLN.out]; omega)
      have HDRL : Hid ((L.drop kk).length = N - kk) := hide (by rw [List.length_drop, HHLN.out])
      have HMA1 : Hid (([] : List Fn).length + (L.take kk).length ≤ maxLen) := hide (by rw [HTKL.out]; unfold maxLen; simp; omega)
      have HMB1 : Hid ((([] : List Fn).length + (L.take kk).length) * 80 ≤ 140737488355328) := hide (by rw [HTKL.out]; simp; omega)
      have HMA2 : Hid ((L.take kk).length + 1 ≤ maxLen) := hide (by rw [HTKL.out]; unfold maxLen; omega)
      have HMB2 : Hid (((L.take kk).length + 1) * 80 ≤ 140737488355328) := hide (by rw [HTKL.out]; omega)
      have HMA3 : Hid ((L.take kk ++ [mainF]).length + (L.drop kk).length ≤ maxLen) := hide (by rw [List.length_append, HTKL.out, HDRL.out]; unfold maxLen; simp; omega)
      have HMB3 : Hid (((L.take kk ++ [mainF]).length + (L.drop kk).length) * 80 ≤ 140737488355328) := hide (by rw [List.length_append, HTKL.out, HDRL.out]; simp; omega)
      have HB1 : Hid (∀ b ∈ (Value.slice (some ⟨wr.heap.size + 1, 0, none⟩) 0 0).ownBlock.toList ++ [], wr.heap.size ≤ b) := hide (by simp [Value.ownBlock])
      have HB2 : Hid (∀ b ∈ (Value.slice (some ⟨wr.heap.size, 0, none⟩) 0 0).ownBlock.toList ++ [], wr.heap.size ≤ b) := hide (by simp [Value.ownBlock])
      have HG1 : Hid (∀ k, (Value.slice (some ⟨wr.heap.size + 1, 0, none⟩) 0 0).ownBlock = some k → wr.heap.size ≤ k) := hide (by simp [Value.ownBlock])
      have HG2 : Hid (∀ k, (Value.slice (some ⟨wr.heap.size, 0, none⟩) 0 0).ownBlock = some k → wr.heap.size ≤ k) := hide (by simp [Value.ownBlock])
      have HFIN : Hid (∀ (v7 : Value) (w7 : World), OwnL w7 wr.heap.size 53 5 FnC [] v7 (L.take kk ++ [mainF] ++ L.drop kk) → ∃ a' c', v7 = .slice a' (distM l n).length c' ∧ Fns w7 (distM l n) a' c') := hide fun v7 w7 h => by
        rw [show L.take kk ++ [mainF] ++ L.drop kk = distM l n by rw [HDM.out]; simp] at h
        obtain ⟨a', c', he, hf⟩ := h.fns (by simp)
        exact ⟨a', c', he, hf.has has_av⟩
      rcases HO.out.form with ⟨hv0, hL0⟩ | ⟨g, cp, hv, hbg, hgl, h1, h2⟩
      · cases hv0
        obtain rfl : kk = 0 := by omega
        have HS1 : Hid (Src12 wr none 0 [] (L.take 0)) := hide (by rw [hL0]; exact Src12.empty wr none)
        have HS2 : Hid (Src12 wr none 0 [] (L.drop 0)) := hide (by rw [hL0]; exact Src12.empty wr none)
        have HDRL : Hid ((L.drop 0).length = 0) := hide (by rw [hL0]; rfl)
        clear hL0
        go_wp2_with fail
        go_region_law
          (first
            | (refine step_pushes _ (by rfl) _ _ 44 (by rfl) wr.heap.size 53 i0 _ 5 80 Tryd.underlying44 hi hz0 hz1 hz2 (by rfl) (Nat.succ_pos _) FnC FnC.mono [] _ ([] : List Fn) (by rfl) HE1.out _ 0 _ [] (L.take 0) HTKL.out.symm (by rfl) HS1.out.nil (HS1.out.cell _ HX1.out) HS1.out.one (HS1.out.cut _ _ HX1.out HB1.out) HMA1.out HMB1.out HX1.out.size ?_; intro v5 w5 hown5 hgrow5; have HO5 := hide hown5; have HW5 := hide (HX1.out.grown hgrow5 HX1.out.size HG1.out); have HN5 := hide (World.news_of_block ((hgrow5.block wr.heap.size (by simp <;> omega) (fun e => by simp [Value.ownBlock] at e)).trans HM1.out)); clear hown5 hgrow5)
            | (refine step_pushes _ (by rfl) _ _ 44 (by rfl) wr.heap.size 53 i0 _ 5 80 Tryd.underlying44 hi hz0 hz1 hz2 (by rfl) (Nat.succ_pos _) FnC FnC.mono [] _ ([] : List Fn) (by rfl) HE2.out _ 0 _ [] (L.take 0) HTKL.out.symm (by rfl) HS1.out.nil (HS1.out.cell _ HX2.out) HS1.out.one (HS1.out.cut _ _ HX2.out HB2.out) HMA1.out HMB1.out HX2.out.size ?_; intro v5 w5 hown5 hgrow5; have HO5 := hide hown5; have HW5 := hide (HX2.out.grown hgrow5 HX2.out.size HG2.out); have HN5 := hide (World.news_of_block ((hgrow5.block (wr.heap.size + 1) (by simp <;> omega) (fun e => by simp [Value.ownBlock] at e)).trans HM2.out)); clear hown5 hgrow5)
            | (refine step_pushes _ (by rfl) _ _ 44 (by rfl) wr.heap.size 53 i0 _ 5 80 Tryd.underlying44 hi hz0 hz1 hz2 (by rfl) (Nat.succ_pos _) FnC FnC.mono [] _ ([] : List Fn) (by rfl) HE3.out _ 0 _ [] (L.take 0) HTKL.out.symm (by rfl) HS1.out.nil (HS1.out.cell _ HX3.out) HS1.out.one (HS1.out.cut _ _ HX3.out HB2.out) HMA1.out HMB1.out HX3.out.size ?_; intro v5 w5 hown5 hgrow5; have HO5 := hide hown5; have HW5 := hide (HX3.out.grown hgrow5 HX3.out.size HG2.out); clear hown5 hgrow5)
            | (refine step_push _ (by rfl) _ _ 44 (by rfl) wr.heap.size 53 i0 _ 5 80 Tryd.underlying44 hi hz0 hz1 hz2 (by rfl) (Nat.succ_pos _) FnC FnC.mono [] v5 (L.take 0) (by rfl) HO5.out _ 1 [.string ⟨#[109, 97, 105, 110]⟩, .slice none 0 0, .int .i64 0, .slice none 0 0, .int .i64 0] mainF (by rfl) (by rfl) HN5.out HOM.out (HMC.out _) HMA2.out HMB2.out HW5.out.size ?_; intro v6 w6 hown6 hgrow6; have HO6 := hide hown6; have HW6 := hide (HW5.out.grown hgrow6 HW5.out.size (fun k hk => (HO5.out.lt k hk).1)); clear hown6 hgrow6)
            | (refine step_push _ (by rfl) _ _ 44 (by rfl) wr.heap.size 53 i0 _ 5 80 Tryd.underlying44 hi hz0 hz1 hz2 (by rfl) (Nat.succ_pos _) FnC FnC.mono [] v5 (L.take 0) (by rfl) (HO5.out.al FnC.mono _) _ 1 [.string ⟨#[109, 97, 105, 110]⟩, .slice none 0 0, .int .i64 0, .slice none 0 0, .int .i64 0] mainF (by rfl) (by rfl) (news_row w5 [.string ⟨#[109, 97, 105, 110]⟩, .slice none 0 0, .int .i64 0, .slice none 0 0, .int .i64 0] 53 w5.heap.size rfl) HOM.out (HMC.out _) HMA2.out HMB2.out (HSA.out _ _ HW5.out.size) ?_; intro v6 w6 hown6 hgrow6; have HO6 := hide hown6; have HW6 := hide ((HW5.out.al (.cells #[.string ⟨#[109, 97, 105, 110]⟩, .slice none 0 0, .int .i64 0, .slice none 0 0, .int .i64 0] 53)).grown hgrow6 (HSA.out _ _ HW5.out.size) (fun k hk => (HO5.out.lt k hk).1)); clear hown6 hgrow6)
            | (refine step_pushes _ (by rfl) _ _ 44 (by rfl) wr.heap.size 53 i0 _ 5 80 Tryd.underlying44 hi hz0 hz1 hz2 (by rfl) (Nat.succ_pos _) FnC FnC.mono [] v6 (L.take 0 ++ [mainF]) (by rfl) HO6.out _ 0 _ [] (L.drop 0) HDRL.out.symm (by rfl) HS2.out.nil (HS2.out.cell _ HW6.out) HS2.out.one (HS2.out.cut _ _ HW6.out (own_bans HO6.out)) HMA3.out HMB3.out HW6.out.size ?_; intro v7 w7 hown7 hgrow7; have HW7 := hide (HW6.out.grown hgrow7 HW6.out.size (fun k hk => (HO6.out.lt k hk).1)); obtain ⟨va7, vc7, rfl, hf7⟩ := HFIN.out _ _ hown7; have HF7 := hide hf7; clear hown7 hgrow7 hf7))
        all_goals
          go_wp2_with fail
          go_ret
          exact ⟨⟨va7, vc7, rfl, HF7.out⟩, HB.out.tr HW7.out⟩
      · rw [HHLN.out] at hv
        cases hv
        rw [HHLN.out] at h1
        obtain ⟨ys, zs, hs1, hs2⟩ := src_split (kk := kk) HO.out (by rw [HHLN.out]; exact hkN)
        have HS1 := hide hs1
        have hi1 : (0 : Int) ≤ (kk : Int) := by omega
        have hi2 : (kk : Int) ≤ (vc : Int) := by omega
        have hi3 : (kk : Int) ≤ (N : Int) := by omega
        have hvc : vc ≤ 9223372036854775807 := h2
        by_cases hkc : kk = vc
        · obtain rfl : kk = N := by omega
          subst hkc
          have HS2 : Hid (Src12 wr (some ⟨g, 0, none⟩) 0 [] (L.drop kk)) := hide (by
            rw [List.drop_eq_nil_of_le (by rw [HHLN.out]; exact Nat.le_refl _)]
            exact Src12.empty wr _)
          have HDRL : Hid ((L.drop kk).length = 0) := hide (by rw [List.length_drop, HHLN.out, Nat.sub_self])
          clear hs1 hs2
          go_wp2_with fail
          go_region_law
            (first
              | (refine step_pushes _ (by rfl) _ _ 44 (by rfl) wr.heap.size 53 i0 _ 5 80 Tryd.underlying44 hi hz0 hz1 hz2 (by rfl) (Nat.succ_pos _) FnC FnC.mono [] _ ([] : List Fn) (by rfl) HE1.out _ kk _ ys (L.take kk) HTKL.out.symm (by rfl) HS1.out.nil (HS1.out.cell _ HX1.out) HS1.out.one (HS1.out.cut _ _ HX1.out HB1.out) HMA1.out HMB1.out HX1.out.size ?_; intro v5 w5 hown5 hgrow5; have HO5 := hide hown5; have HW5 := hide (HX1.out.grown hgrow5 HX1.out.size HG1.out); have HN5 := hide (World.news_of_block ((hgrow5.block wr.heap.size (by simp <;> omega) (fun e => by simp [Value.ownBlock] at e)).trans HM1.out)); clear hown5 hgrow5)
              | (refine step_pushes _ (by rfl) _ _ 44 (by rfl) wr.heap.size 53 i0 _ 5 80 Tryd.underlying44 hi hz0 hz1 hz2 (by rfl) (Nat.succ_pos _) FnC FnC.mono [] _ ([] : List Fn) (by rfl) HE2.out _ kk _ ys (L.take kk) HTKL.out.symm (by rfl) HS1.out.nil (HS1.out.cell _ HX2.out) HS1.out.one (HS1.out.cut _ _ HX2.out HB2.out) HMA1.out HMB1.out HX2.out.size ?_; intro v5 w5 hown5 hgrow5; have HO5 := hide hown5; have HW5 := hide (HX2.out.grown hgrow5 HX2.out.size HG2.out); have HN5 := hide (World.news_of_block ((hgrow5.block (wr.heap.size + 1) (by simp <;> omega) (fun e => by simp [Value.ownBlock] at e)).trans HM2.out)); clear hown5 hgrow5)
              | (refine step_pushes _ (by rfl) _ _ 44 (by rfl) wr.heap.size 53 i0 _ 5 80 Tryd.underlying44 hi hz0 hz1 hz2 (by rfl) (Nat.succ_pos _) FnC FnC.mono [] _ ([] : List Fn) (by rfl) HE3.out _ kk _ ys (L.take kk) HTKL.out.symm (by rfl) HS1.out.nil (HS1.out.cell _ HX3.out) HS1.out.one (HS1.out.cut _ _ HX3.out HB2.out) HMA1.out HMB1.out HX3.out.size ?_; intro v5 w5 hown5 hgrow5; have HO5 := hide hown5; have HW5 := hide (HX3.out.grown hgrow5 HX3.out.size HG2.out); clear hown5 hgrow5)
              | (refine step_push _ (by rfl) _ _ 44 (by rfl) wr.heap.size 53 i0 _ 5 80 Tryd.underlying44 hi hz0 hz1 hz2 (by rfl) (Nat.succ_pos _) FnC FnC.mono [] v5 (L.take kk) (by rfl) HO5.out _ 1 [.string ⟨#[109, 97, 105, 110]⟩, .slice none 0 0, .int .i64 0, .slice none 0 0, .int .i64 0] mainF (by rfl) (by rfl) HN5.out HOM.out (HMC.out _) HMA2.out HMB2.out HW5.out.size ?_; intro v6 w6 hown6 hgrow6; have HO6 := hide hown6; have HW6 := hide (HW5.out.grown hgrow6 HW5.out.size (fun k hk => (HO5.out.lt k hk).1)); clear hown6 hgrow6)
              | (refine step_push _ (by rfl) _ _ 44 (by rfl) wr.heap.size 53 i0 _ 5 80 Tryd.underlying44 hi hz0 hz1 hz2 (by rfl) (Nat.succ_pos _) FnC FnC.mono [] v5 (L.take kk) (by rfl) (HO5.out.al FnC.mono _) _ 1 [.string ⟨#[109, 97, 105, 110]⟩, .slice none 0 0, .int .i64 0, .slice none 0 0, .int .i64 0] mainF (by rfl) (by rfl) (news_row w5 [.string ⟨#[109, 97, 105, 110]⟩, .slice none 0 0, .int .i64 0, .slice none 0 0, .int .i64 0] 53 w5.heap.size rfl) HOM.out (HMC.out _) HMA2.out HMB2.out (HSA.out _ _ HW5.out.size) ?_; intro v6 w6 hown6 hgrow6; have HO6 := hide hown6; have HW6 := hide ((HW5.out.al (.cells #[.string ⟨#[109, 97, 105, 110]⟩, .slice none 0 0, .int .i64 0, .slice none 0 0, .int .i64 0] 53)).grown hgrow6 (HSA.out _ _ HW5.out.size) (fun k hk => (HO5.out.lt k hk).1)); clear hown6 hgrow6)
              | (refine step_pushes _ (by rfl) _ _ 44 (by rfl) wr.heap.size 53 i0 _ 5 80 Tryd.underlying44 hi hz0 hz1 hz2 (by rfl) (Nat.succ_pos _) FnC FnC.mono [] v6 (L.take kk ++ [mainF]) (by rfl) HO6.out _ 0 _ [] (L.drop kk) HDRL.out.symm (by rfl) HS2.out.nil (HS2.out.cell _ HW6.out) HS2.out.one (HS2.out.cut _ _ HW6.out (own_bans HO6.out)) HMA3.out HMB3.out HW6.out.size ?_; intro v7 w7 hown7 hgrow7; have HW7 := hide (HW6.out.grown hgrow7 HW6.out.size (fun k hk => (HO6.out.lt k hk).1)); obtain ⟨va7, vc7, rfl, hf7⟩ := HFIN.out _ _ hown7; have HF7 := hide hf7; clear hown7 hgrow7 hf7))
          all_goals
            go_wp2_with fail
            go_ret
            exact ⟨⟨va7, vc7, rfl, HF7.out⟩, HB.out.tr HW7.out⟩
        · have hkc' : ¬ vc = kk := fun e => hkc e.symm
          have HS2 := hide (hs2 (vc - kk))
          clear hs1 hs2
          go_wp2_with fail
          go_region_law
            (first
              | (refine step_pushes _ (by rfl) _ _ 44 (by rfl) wr.heap.size 53 i0 _ 5 80 Tryd.underlying44 hi hz0 hz1 hz2 (by rfl) (Nat.succ_pos _) FnC FnC.mono [] _ ([] : List Fn) (by rfl) HE1.out _ kk _ ys (L.take kk) HTKL.out.symm (by rfl) HS1.out.nil (HS1.out.cell _ HX1.out) HS1.out.one (HS1.out.cut _ _ HX1.out HB1.out) HMA1.out HMB1.out HX1.out.size ?_; intro v5 w5 hown5 hgrow5; have HO5 := hide hown5; have HW5 := hide (HX1.out.grown hgrow5 HX1.out.size HG1.out); have HN5 := hide (World.news_of_block ((hgrow5.block wr.heap.size (by simp <;> omega) (fun e => by simp [Value.ownBlock] at e)).trans HM1.out)); clear hown5 hgrow5)
              | (refine step_pushes _ (by rfl) _ _ 44 (by rfl) wr.heap.size 53 i0 _ 5 80 Tryd.underlying44 hi hz0 hz1 hz2 (by rfl) (Nat.succ_pos _) FnC FnC.mono [] _ ([] : List Fn) (by rfl) HE2.out _ kk _ ys (L.take kk) HTKL.out.symm (by rfl) HS1.out.nil (HS1.out.cell _ HX2.out) HS1.out.one (HS1.out.cut _ _ HX2.out HB2.out) HMA1.out HMB1.out HX2.out.size ?_; intro v5 w5 hown5 hgrow5; have HO5 := hide hown5; have HW5 := hide (HX2.out.grown hgrow5 HX2.out.size HG2.out); have HN5 := hide (World.news_of_block ((hgrow5.block (wr.heap.size + 1) (by simp <;> omega) (fun e => by simp [Value.ownBlock] at e)).trans HM2.out)); clear hown5 hgrow5)
              | (refine step_pushes _ (by rfl) _ _ 44 (by rfl) wr.heap.size 53 i0 _ 5 80 Tryd.underlying44 hi hz0 hz1 hz2 (by rfl) (Nat.succ_pos _) FnC FnC.mono [] _ ([] : List Fn) (by rfl) HE3.out _ kk _ ys (L.take kk) HTKL.out.symm (by rfl) HS1.out.nil (HS1.out.cell _ HX3.out) HS1.out.one (HS1.out.cut _ _ HX3.out HB2.out) HMA1.out HMB1.out HX3.out.size ?_; intro v5 w5 hown5 hgrow5; have HO5 := hide hown5; have HW5 := hide (HX3.out.grown hgrow5 HX3.out.size HG2.out); clear hown5 hgrow5)
              | (refine step_push _ (by rfl) _ _ 44 (by rfl) wr.heap.size 53 i0 _ 5 80 Tryd.underlying44 hi hz0 hz1 hz2 (by rfl) (Nat.succ_pos _) FnC FnC.mono [] v5 (L.take kk) (by rfl) HO5.out _ 1 [.string ⟨#[109, 97, 105, 110]⟩, .slice none 0 0, .int .i64 0, .slice none 0 0, .int .i64 0] mainF (by rfl) (by rfl) HN5.out HOM.out (HMC.out _) HMA2.out HMB2.out HW5.out.size ?_; intro v6 w6 hown6 hgrow6; have HO6 := hide hown6; have HW6 := hide (HW5.out.grown hgrow6 HW5.out.size (fun k hk => (HO5.out.lt k hk).1)); clear hown6 hgrow6)
              | (refine step_push _ (by rfl) _ _ 44 (by rfl) wr.heap.size 53 i0 _ 5 80 Tryd.underlying44 hi hz0 hz1 hz2 (by rfl) (Nat.succ_pos _) FnC FnC.mono [] v5 (L.take kk) (by rfl) (HO5.out.al FnC.mono _) _ 1 [.string ⟨#[109, 97, 105, 110]⟩, .slice none 0 0, .int .i64 0, .slice none 0 0, .int .i64 0] mainF (by rfl) (by rfl) (news_row w5 [.string ⟨#[109, 97, 105, 110]⟩, .slice none 0 0, .int .i64 0, .slice none 0 0, .int .i64 0] 53 w5.heap.size rfl) HOM.out (HMC.out _) HMA2.out HMB2.out (HSA.out _ _ HW5.out.size) ?_; intro v6 w6 hown6 hgrow6; have HO6 := hide hown6; have HW6 := hide ((HW5.out.al (.cells #[.string ⟨#[109, 97, 105, 110]⟩, .slice none 0 0, .int .i64 0, .slice none 0 0, .int .i64 0] 53)).grown hgrow6 (HSA.out _ _ HW5.out.size) (fun k hk => (HO5.out.lt k hk).1)); clear hown6 hgrow6)
              | (refine step_pushes _ (by rfl) _ _ 44 (by rfl) wr.heap.size 53 i0 _ 5 80 Tryd.underlying44 hi hz0 hz1 hz2 (by rfl) (Nat.succ_pos _) FnC FnC.mono [] v6 (L.take kk ++ [mainF]) (by rfl) HO6.out _ (N - kk) _ zs (L.drop kk) HDRL.out.symm (by rfl) HS2.out.nil (HS2.out.cell _ HW6.out) HS2.out.one (HS2.out.cut _ _ HW6.out (own_bans HO6.out)) HMA3.out HMB3.out HW6.out.size ?_; intro v7 w7 hown7 hgrow7; have HW7 := hide (HW6.out.grown hgrow7 HW6.out.size (fun k hk => (HO6.out.lt k hk).1)); obtain ⟨va7, vc7, rfl, hf7⟩ := HFIN.out _ _ hown7; have HF7 := hide hf7; clear hown7 hgrow7 hf7))
          all_goals
            go_wp2_with fail
            go_ret
            exact ⟨⟨va7, vc7, rfl, HF7.out⟩, HB.out.tr HW7.out⟩
end Go.Proofs.YtnkmbddjekepkaaDoor
