/- names.scopes.add: a variable is added to those that are there, with its index by its name. -/
import Derived.Test.YtccgpmncpemmdaaDoorMp
import Derived.Test.YtccgpmncpemmdaaDoorNmA
import Derived.Test.YtccgpmncpemmdaaDoorRg
import Derived.Test.YtccgpmncpemmdaaDoorIn
import Derived.StillTailTactics
import Derived.Deep.RegionHeld3
namespace Go.Proofs.YtccgpmncpemmdaaDoor
open Go Go.RowKit Go.Maps
set_option linter.unusedSimpArgs false
set_option linter.unusedVariables false
set_option linter.unnecessarySimpa false
/-- The cells of a variable. -/
def VrC (_ : World) (v : Vr) (c : List Value) : Prop := c = [.string ⟨v.name.toArray⟩, .int .i64 v.typ, .int .i64 v.no, .int .i64 v.frm, .int .i64 v.til] ∧ v.wf
theorem VrC.mono : Mono VrC := fun _ _ _ _ _ h => h
theorem OwnL.vrs {w : World} {base : Nat} {t : TypeId} {v : Value} {l : List Vr} (h : OwnL w base t 5 VrC [] v l) : ∃ a cap, v = .slice a l.length cap ∧ Vrs w l a cap := by
  have h0 := h
  have hwf : ∀ p ∈ l, p.wf := fun p hp => by
    obtain ⟨xs, _, hcut⟩ := h0
    obtain ⟨i, hi, rfl⟩ := List.mem_iff_getElem.1 hp
    obtain ⟨c, hc, _⟩ := hcut.get i hi
    exact hc.2
  rcases h.form with ⟨rfl, rfl⟩ | ⟨g, cap, rfl, hbg, _, h1, h2⟩
  · exact ⟨none, 0, rfl, ⟨Nat.le_refl _, Nat.zero_le _, by simp, by simp, fun b o e => by cases e⟩⟩
  · refine ⟨_, cap, rfl, ⟨h1, h2, hwf, fun _ => ⟨_, _, rfl⟩, fun b o e i hi => ?_⟩⟩
    simp only [Option.some.injEq, Addr.mk.injEq, and_true] at e
    obtain ⟨rfl, rfl⟩ := e
    obtain ⟨_, _, c, ⟨rfl, _⟩, _, _, hcell⟩ := h0.get VrC.mono rfl i hi
    rw [Nat.zero_add]
    exact ⟨hcell 0 _ rfl, hcell 1 _ rfl, hcell 2 _ rfl, hcell 3 _ rfl, hcell 4 _ rfl⟩
theorem info_vr : (Tryd.prog.info? 50).map (fun i => (i.zero, i.size, i.bytes)) = some (some (.agg #[.string ⟨#[]⟩, .int .i64 0, .int .i64 0, .int .i64 0, .int .i64 0]), 5, 48) := by kernel_rfl
theorem zero_in (w : World) : (zeroValue 3).run Tryd.prog w = .ok (.int .i64 0) w := by kernel_rfl
/-- The indexes of variables by their names. -/
def scMap (l : List Vr) : List (Bytes × Value) := l.zipIdx.map fun p => (p.1.name, .int .i64 ((p.2 : Nat) : Int))
theorem scMap_snoc (l : List Vr) (v : Vr) : scMap (l ++ [v]) = scMap l ++ [(v.name, .int .i64 ((l.length : Nat) : Int))] := by simp [scMap, List.zipIdx_append]
theorem scMap_len (l : List Vr) : (scMap l).length = l.length := by simp [scMap]
def hasN (l : List Vr) (n : Bytes) : Bool := l.any fun v => decide (v.name = n)
theorem hasN_snoc (l : List Vr) (v : Vr) (n : Bytes) : hasN (l ++ [v]) n = (hasN l n || decide (v.name = n)) := by simp [hasN]
theorem scMap_has (l : List Vr) (n : Bytes) : (mapAt (scMap l) n).isSome = hasN l n := by
  refine snocInd (P := fun l => (mapAt (scMap l) n).isSome = hasN l n) rfl (fun l v ih => ?_) l
  rw [scMap_snoc, mapAt_snoc, hasN_snoc]
  by_cases h : v.name = n
  · simp [h]
  · simp [h, ih]
/-- The variables that have been collected: a slice of the call's own, and a map. -/
structure Sc (w : World) (base sB mB : Nat) (acc : List Vr) (ow : List Nat) : Prop where
  cells : ∃ va vc, w.heap[sB]? = some (.cells #[.slice va acc.length vc, .map (some mB)] 83 (0, 0)) ∧ OwnL w base 50 5 VrC [] (.slice va acc.length vc) acc ∧ (Value.slice va acc.length vc).ownBlock.toList = ow
  map : NMap w 9 mB (scMap acc)
  s : sB < base
  m : mB < base
  ne : sB ≠ mB
  b : base ≤ w.heap.size
theorem Sc.lt {w : World} {base sB mB : Nat} {acc : List Vr} {ow : List Nat} (h : Sc w base sB mB acc ow) : ∀ g ∈ ow, base ≤ g ∧ g < w.heap.size := by
  obtain ⟨va, vc, _, h2, rfl⟩ := h.cells
  intro g hg
  exact h2.lt g (by simpa using hg)
theorem ownV_kept {α : Type} {w w' : World} {base sz : Nat} {t : TypeId} {V : α → List Value → Prop} {v : Value} {l : List α} {m : List Nat} (h : OwnL w base t sz (fun _ => V) [] v l) (hk : Kept m w w') (ho : ∀ g ∈ v.ownBlock.toList, g ∉ m) : OwnL w' base t sz (fun _ => V) [] v l := by
  obtain ⟨xs, hown, hcut⟩ := h
  refine ⟨xs, ⟨hown.1, ?_⟩, hcut⟩
  rcases hown.2 with hn | ⟨g, cap, cur, hv, hbg, hgg, rest⟩
  · exact .inl hn
  · refine .inr ⟨g, cap, cur, hv, hbg, hk.heap (ho g ?_) hgg, rest⟩
    rw [hv]
    simp [Value.ownBlock]
theorem nmap_kept {w w' : World} {K : TypeId} {b : Nat} {L : List (Bytes × Value)} {m : List Nat} (h : NMap w K b L) (hk : Kept m w w') (hb : b ∉ m) : NMap w' K b L := by
  obtain ⟨es, clock, k1, r⟩ := h
  exact ⟨es, clock, hk.heap hb k1, r⟩
/-- append of one thing, at a step of a region that draws its order; where the new slice lies. -/
theorem step_push_at {α : Type} {P : Program} (w : World) {ops : Array Oper} {o : Oper} {a : Act} {K : Act → World → Prop} {Q' : Exit → Act → World → Prop} {E : Prop} (hgd : o.guard = none) (s x : Operand) (t : TypeId)
    (ho : o.op = .call { callee := .builtin .append, args := #[s, x], argTypes := #[t, t] })
    (base : Nat) (e : TypeId) (i : TypeInfo) (z : Value) (size bytes : Nat) (ht : P.underlying t = some (.slice e)) (hi : P.info? e = some i) (hz : i.zero = some z)
    (hsize : i.size = size) (hby : i.bytes = bytes) (hzs : z.cells.size = size) (hsz : 0 < size)
    (V : World → α → List Value → Prop) (hm : Mono V) (ban : List Nat) (v : Value) (l : List α) (hs : a.eval s = v) (hown : OwnL w base e size V ban v l)
    (ad : Addr) (cp : Nat) (news : List Value) (y : α) (hx : a.eval x = .slice (some ad) 1 cp) (hl : news.length = size) (hnews : ∀ j u, news[j]? = some u → w.cell? (ad.add j) = some u) (h1 : ∀ u ∈ news, u.oneCell' = true)
    (hv : V (av (v.ownBlock.toList ++ ban) w) y news) (h63 : l.length + 1 ≤ maxLen) (hbytes : (l.length + 1) * bytes ≤ 140737488355328) (hbase : base ≤ w.heap.size)
    (h : ∀ g cap w', OwnL w' base e size V ban (.slice (some ⟨g, 0, none⟩) (l.length + 1) cap) (l ++ [y]) → w.grownBy w' v.ownBlock → (v.ownBlock = some g ∨ g = w.heap.size) → K (a.put o.dst (.slice (some ⟨g, 0, none⟩) (l.length + 1) cap)) w') :
    if Region.wanted o (yielded ops a.tmps) = true then Oper.wp P o a w K Q' else E := by
  obtain ⟨xs, hown, hcut⟩ := hown
  exact step_append_lies w hgd s x t ho base e i z size bytes ht hi hz hsize hby hzs hsz v l.length xs hs hown ad 1 cp news hx (by omega) hnews h1 (by omega) h63 hbytes hbase _ rfl fun g cap w' hown' hgrow hat _ =>
    h g cap w' (own_push (ms := [y]) hm hown hcut hown' hgrow (hat.imp (fun h => h.symm) (fun h => by rw [h]; rfl)) (.one hl hv)) hgrow hat
/-- They stay while other blocks turn. -/
theorem Sc.kept {w w' : World} {base sB mB : Nat} {acc : List Vr} {ow m : List Nat} (h : Sc w base sB mB acc ow) (hk : Kept m w w') (hs : sB ∉ m) (hm : mB ∉ m) (ho : ∀ g ∈ ow, g ∉ m) : Sc w' base sB mB acc ow := by
  obtain ⟨⟨va, vc, h1, h2, h3⟩, h4, h5, h6, h7, h8⟩ := h
  refine ⟨⟨va, vc, hk.heap hs h1, ?_, h3⟩, ?_, h5, h6, h7, Nat.le_trans h8 hk.size⟩
  · obtain ⟨xs, hown, hcut⟩ := h2
    refine ⟨xs, ⟨hown.1, ?_⟩, hcut.mono fun a c hv => hv⟩
    rcases hown.2 with hn | ⟨g, cap, cur, hv, hbg, hgg, rest⟩
    · exact .inl hn
    · refine .inr ⟨g, cap, cur, hv, hbg, hk.heap (ho g ?_) hgg, rest⟩
      rw [← h3, hv]
      simp [Value.ownBlock]
  · obtain ⟨es, clock, k1, r⟩ := h4
    exact ⟨es, clock, hk.heap hm k1, r⟩
theorem Sc.below {w w' : World} {base sB mB : Nat} {acc : List Vr} {ow : List Nat} (h : Sc w base sB mB acc ow) (hb : Below w.heap.size w w') : Sc w' base sB mB acc ow := h.kept (m := []) (kept_below hb) (by simp) (by simp) (by simp)
def AddPost (w : World) (base sB mB : Nat) (acc : List Vr) (ow : List Nat) (v : Vr) (e : Ending) (w' : World) : Prop :=
  (hasN acc v.name = true ∧ e = .returned (.int .i64 11) ∧ Below w.heap.size w w') ∨ (hasN acc v.name = false ∧ 50 ≤ acc.length ∧ e = .returned (.int .i64 10) ∧ Below w.heap.size w w') ∨
  (hasN acc v.name = false ∧ acc.length < 50 ∧ e = .returned (.int .i64 0) ∧ ∃ ow', Sc w' base sB mB (acc ++ [v]) ow' ∧ Mv (sB :: mB :: ow) w (sB :: mB :: ow') w')
theorem still_drew {P : Program} {id : Nat} {Q' : Exit → Act → World → Prop} {a : Act} {w : World} {l : List Oper} (hm : P.follows .mixedOrders = true) (hB : Region.lexB .any l.toArray = true)
    (h : wpStill P l.toArray w.drew (fun a' => Q' .normal a' w.drew) l a) : (Code.region id l.toArray true).wp P Q' a w := wp_region_still_lit hm hB h
theorem still_tail_drew {P : Program} {id : Nat} {Q' : Exit → Act → World → Prop} {a : Act} {w : World} {l : List Oper} (n : Nat) (hm : P.follows .mixedOrders = true) (hB : Region.lexTailB .any l.toArray n = true)
    (h : wpStill P l.toArray w.drew (fun a' => wpList P l.toArray Q' (l.drop n) a' w.drew) (l.take n) a) : (Code.region id l.toArray true).wp P Q' a w := wp_region_still_tail n hm hB h
set_option maxRecDepth 20000 in
set_option maxHeartbeats 4000000 in
theorem add_any (v : Vr) (base sB mB : Nat) (acc : List Vr) (ow : List Nat) (w : World) (hs : Sc w base sB mB acc ow) (hv : v.wf) (hn : acc.length ≤ 1000) :
    Calls Tryd.prog 33 #[.pointer (some ⟨sB, 0, none⟩), v.val] w (AddPost w base sB mB acc ow v) := by
  have hlt := hs.lt
  have hs1 := hs.below ((bl w).al (.cells #[.string ⟨v.name.toArray⟩, .int .i64 v.typ, .int .i64 v.no, .int .i64 v.frm, .int .i64 v.til] 50))
  have hs2 := hs1.below (bl _).dr
  obtain ⟨va, vc, c1, hown, hog⟩ := hs.cells
  have x0 := cell_at (j := 0) c1 rfl
  have x1 := cell_at (j := 1) c1 rfl
  have hsl := (Array.getElem?_eq_some_iff.1 c1).1
  have hnl : v.name.length ≤ maxLen := hv.1
  have hK : Tryd.prog.underlying 9 = some .string := Tryd.underlying9
  obtain ⟨u, ps, hlk, hu⟩ := World.ownsMap.look_ok hs2.map (string_keyed hK) Tryd.underlying81 (zero_in _) (R := asIs) (z := .int .i64 0) rfl (key := .string ⟨v.name.toArray⟩) (kl := .string v.name) (by simpa using WideMaps.keyOf_string_mk hK (s := ⟨v.name.toArray⟩) (by simpa [ByteArray.size] using hnl))
  have hu' : Maps.has (mapD (scMap acc)) (.string v.name) = hasN acc v.name := by rw [mapD_has, scMap_has]
  rw [hu'] at hlk
  have HS := hide hs
  have HOWN := hide hown
  have HOG := hide hog
  have HV := hide hv
  have HLT := hide hlt
  have hc50 : acc.length ≤ 9223372036854775807 := by omega
  have hmb0 := hs.m
  have hsb0 := hs.s
  have hbs0 := hs.b
  have hne0 := hs.ne
  replace c1 := hide c1
  clear hs hs1 hs2 hown hog hv hlt hu hu' hK
  unfold Vr.val
  cases hq : hasN acc v.name
  · rw [hq] at hlk
    by_cases h50 : 50 ≤ acc.length
    · have HP : Hid (∀ w', Below w.heap.size w w' → AddPost w base sB mB acc ow v (.returned (.int .i64 10)) w') := hide fun w' hb => .inr (.inl ⟨hq, h50, rfl, hb⟩)
      have h50' : (50 : Int) ≤ (acc.length : Int) := by omega
      clear hq
      go_enter Tryd.func33, Tryd.ntmps33
      go_wp2_with fail
      refine still_drew (by kernel_rfl) (by kernel_rfl) ?_
      repeat still_step
      refine wpStill_nil ?_
      go_wp2_with fail
      go_ret
      exact HP.out _ (((bl w).al _).dr)
    · have h50' : ¬ (50 : Int) ≤ (acc.length : Int) := by omega
      have hm2 := hide (HS.out.below (((bl w).al (.cells #[.string ⟨v.name.toArray⟩, .int .i64 v.typ, .int .i64 v.no, .int .i64 v.frm, .int .i64 v.til] 50)).dr.dr))
      have HB2 := hide (((bl w).al (.cells #[.string ⟨v.name.toArray⟩, .int .i64 v.typ, .int .i64 v.no, .int .i64 v.frm, .int .i64 v.til] 50)).dr.dr)
      have hX : Hid ((w.alloc (.cells #[.string ⟨v.name.toArray⟩, .int .i64 v.typ, .int .i64 v.no, .int .i64 v.frm, .int .i64 v.til] 50)).heap[w.heap.size]? = some (.cells #[.string ⟨v.name.toArray⟩, .int .i64 v.typ, .int .i64 v.no, .int .i64 v.frm, .int .i64 v.til] 50 (0, 0))) := hide (heap_alloc_new w _)
      have hll : (scMap acc).length < maxLen := by rw [scMap_len]; unfold maxLen; omega
      have HQ := hide hq
      have HC1 := hide (show w.heap[sB]? = some (.cells #[.slice va acc.length vc, .map (some mB)] 83 (0, 0)) from c1.out)
      have hmb := hmb0
      have hne := hne0
      have hsb := hsb0
      have hbs := hbs0
      obtain ⟨i0, hi, hz0, hz1, hz2⟩ := info_parts info_vr
      clear hq
      go_enter Tryd.func33, Tryd.ntmps33
      go_wp2_with fail
      refine still_drew (by kernel_rfl) (by kernel_rfl) ?_
      repeat still_step
      refine wpStill_nil ?_
      go_wp2_with fail
      refine still_tail_drew 11 (by kernel_rfl) (by kernel_rfl) ?_
      simp only [List.take_succ_cons, List.take_zero, List.drop_succ_cons, List.drop_zero]
      repeat still_step
      refine wpStill_nil ?_
      go_wp2_with (at_mapUpdate; refine wpList_nmap_set _ rfl _ _ _ rfl Tryd.underlying9 Tryd.underlying81 (scMap acc) rfl hm2.out.map hll v.name _ rfl rfl hnl ?_; intro w3 hm3 hg3)
      have hk3 : Kept [mB] (w.alloc (.cells #[.string ⟨v.name.toArray⟩, .int .i64 v.typ, .int .i64 v.no, .int .i64 v.frm, .int .i64 v.til] 50)).drew.drew w3 := (Kept.refl _ _).grown hg3 (fun g e => by cases e; exact .inl (by simp))
      have hX3 : w3.heap[w.heap.size]? = some (.cells #[.string ⟨v.name.toArray⟩, .int .i64 v.typ, .int .i64 v.no, .int .i64 v.frm, .int .i64 v.til] 50 (0, 0)) := hk3.heap (by simp; omega) hX.out
      have hc3 := hk3.heap (by simp; omega) ((((bl w).al (.cells #[.string ⟨v.name.toArray⟩, .int .i64 v.typ, .int .i64 v.no, .int .i64 v.frm, .int .i64 v.til] 50)).block _ hsl).trans HC1.out)
      have hown3 : OwnL w3 base 50 5 VrC [] (.slice va acc.length vc) acc := ownV_kept (ownV_kept HOWN.out (m := []) (kept_below HB2.out) (by simp)) hk3 (fun g hg => by have := (HLT.out g (by rw [← HOG.out]; exact hg)).1; simp; omega)
      have hs3 := hk3.size
      have hsw : w.heap.size < w3.heap.size := (Array.getElem?_eq_some_iff.1 hX3).1
      have v0 := cell_at (j := 0) hX3 rfl
      have v1 := cell_at (j := 1) hX3 rfl
      have v2 := cell_at (j := 2) hX3 rfl
      have v3 := cell_at (j := 3) hX3 rfl
      have v4 := cell_at (j := 4) hX3 rfl
      have s0 := cell_at (j := 0) hc3 rfl
      have f0 := free_at (j := 0) hc3
      have hsl3 := (Array.getElem?_eq_some_iff.1 hc3).1
      have HO4 := hide ((ownV_kept hown3 (m := []) (kept_below (bl w3).dr) (by simp)).al VrC.mono (.cells #[.string ⟨v.name.toArray⟩, .int .i64 v.typ, .int .i64 v.no, .int .i64 v.frm, .int .i64 v.til] 50))
      have HNW := hide (news_row w3.drew [.string ⟨v.name.toArray⟩, .int .i64 v.typ, .int .i64 v.no, .int .i64 v.frm, .int .i64 v.til] 50 w3.heap.size rfl)
      have HK3 := hide hk3
      have HM3 := hide hm3
      have HX3 := hide hX3
      have HC3 := hide hc3
      have HONE : Hid (∀ u ∈ [Value.string ⟨v.name.toArray⟩, .int .i64 v.typ, .int .i64 v.no, .int .i64 v.frm, .int .i64 v.til], u.oneCell' = true) := hide (by simp [Value.oneCell'])
      have HML : Hid (acc.length + 1 ≤ maxLen) := hide (by unfold maxLen; omega)
      have HMB : Hid ((acc.length + 1) * 48 ≤ 140737488355328) := hide (by omega)
      have HSZ : Hid (base ≤ (w3.drew.alloc (.cells #[.string ⟨v.name.toArray⟩, .int .i64 v.typ, .int .i64 v.no, .int .i64 v.frm, .int .i64 v.til] 50)).heap.size) := hide (by have := HS.out.b; simp; omega)
      have HVC : Hid (VrC (av ((Value.slice va acc.length vc).ownBlock.toList ++ []) (w3.drew.alloc (.cells #[.string ⟨v.name.toArray⟩, .int .i64 v.typ, .int .i64 v.no, .int .i64 v.frm, .int .i64 v.til] 50))) v [.string ⟨v.name.toArray⟩, .int .i64 v.typ, .int .i64 v.no, .int .i64 v.frm, .int .i64 v.til]) := hide ⟨rfl, HV.out⟩
      have hE0 : Hid (∀ (g cap : Nat) (w6 : World), OwnL w6 base 50 5 VrC [] (.slice (some ⟨g, 0, none⟩) (acc.length + 1) cap) (acc ++ [v]) → (w3.drew.alloc (.cells #[.string ⟨v.name.toArray⟩, .int .i64 v.typ, .int .i64 v.no, .int .i64 v.frm, .int .i64 v.til] 50)).grownBy w6 (Value.slice va acc.length vc).ownBlock → ((Value.slice va acc.length vc).ownBlock = some g ∨ g = w3.heap.size + 1) →
          w6.cell? ⟨sB, 0, none⟩ = some (.slice va acc.length vc) ∧ w6.frozen? ⟨sB, 0, none⟩ = false ∧ sB < w6.heap.size ∧ AddPost w base sB mB acc ow v (.returned (.int .i64 0)) (w6.setCell ⟨sB, 0, none⟩ (.slice (some ⟨g, 0, none⟩) (acc.length + 1) cap)) ∧ w6.heap[w.heap.size]? = some (.cells #[.string ⟨v.name.toArray⟩, .int .i64 v.typ, .int .i64 v.no, .int .i64 v.frm, .int .i64 v.til] 50 (0, 0))) := hide (by
        intro g cap w6 ho6 hg6 hat
        have hob : ∀ k, (Value.slice va acc.length vc).ownBlock = some k → k ∈ ow := fun k hk => by rw [← HOG.out, hk]; simp
        have hk6 : Kept ow w3 w6 := by
          have := (((Kept.refl ow w3).dr).al (.cells #[.string ⟨v.name.toArray⟩, .int .i64 v.typ, .int .i64 v.no, .int .i64 v.frm, .int .i64 v.til] 50)).grown hg6 (fun k hk => .inl (hob k hk))
          exact this
        have hsn : sB ∉ ow := fun h => by have := (HLT.out _ h).1; omega
        have hmn : mB ∉ ow := fun h => by have := (HLT.out _ h).1; omega
        have hc6 := hk6.heap hsn HC3.out
        refine ⟨cell_at hc6 rfl, free_at hc6, (Array.getElem?_eq_some_iff.1 hc6).1, .inr (.inr ⟨HQ.out, by omega, rfl, [g], ⟨⟨some ⟨g, 0, none⟩, cap, ?_, ?_, rfl⟩, ?_, HS.out.s, HS.out.m, HS.out.ne, ?_⟩, ?_, ?_⟩), hk6.heap (fun h => by have := (HLT.out _ h).2; omega) HX3.out⟩
        · rw [List.length_append, List.length_singleton]
          exact heap_set hc6 _
        · rw [List.length_append, List.length_singleton]
          refine ownV_kept ho6 ((Kept.refl [sB] w6).set (.inl (by simp)) 0 _) ?_
          intro k hk
          simp only [Value.ownBlock, Option.toList_some, List.mem_singleton] at hk
          subst hk
          have := (ho6.lt k rfl).1
          simp; omega
        · rw [scMap_snoc]
          exact nmap_kept (nmap_kept HM3.out hk6 hmn) ((Kept.refl [sB] w6).set (.inl (by simp)) 0 _) (by simp; omega)
        · have := HS.out.b
          have := hk6.size
          simp [World.setCell]
          omega
        · have h1 : Kept (sB :: mB :: ow) w w3 := (kept_below HB2.out).tr (HK3.out.sub fun k hk => .inl (by simp at hk; simp [hk]))
          have h2 : Kept (sB :: mB :: ow) w w6 := h1.tr (hk6.sub fun k hk => .inl (by simp [hk]))
          exact h2.set (.inl (by simp)) _ _
        · intro k hk
          simp only [List.mem_cons, List.not_mem_nil, or_false] at hk
          rcases hk with rfl | rfl | rfl
          · exact .inl (by simp)
          · exact .inl (by simp)
          · rcases hat with h | h
            · exact .inl (by simp [hob _ h])
            · exact .inr (by omega))
      clear hX3 hc3 hown3 hk3 hm3 hg3
      simp only [Act.put]
      have n1 : ¬ sB = w.heap.size := by omega
      have n2 : ¬ w.heap.size = sB := by omega
      have hS5 : (w3.drew.alloc (.cells #[.string ⟨v.name.toArray⟩, .int .i64 v.typ, .int .i64 v.no, .int .i64 v.frm, .int .i64 v.til] 50)).cell? ⟨w.heap.size, 0, none⟩ = some (.string ⟨v.name.toArray⟩) ∧ (w3.drew.alloc (.cells #[.string ⟨v.name.toArray⟩, .int .i64 v.typ, .int .i64 v.no, .int .i64 v.frm, .int .i64 v.til] 50)).cell? ⟨w.heap.size, 1, none⟩ = some (.int .i64 v.typ) ∧ (w3.drew.alloc (.cells #[.string ⟨v.name.toArray⟩, .int .i64 v.typ, .int .i64 v.no, .int .i64 v.frm, .int .i64 v.til] 50)).cell? ⟨w.heap.size, 2, none⟩ = some (.int .i64 v.no) ∧ (w3.drew.alloc (.cells #[.string ⟨v.name.toArray⟩, .int .i64 v.typ, .int .i64 v.no, .int .i64 v.frm, .int .i64 v.til] 50)).cell? ⟨w.heap.size, 3, none⟩ = some (.int .i64 v.frm) ∧ (w3.drew.alloc (.cells #[.string ⟨v.name.toArray⟩, .int .i64 v.typ, .int .i64 v.no, .int .i64 v.frm, .int .i64 v.til] 50)).cell? ⟨w.heap.size, 4, none⟩ = some (.int .i64 v.til) :=
        ⟨cell_keep v0 ((bl w3).dr.al _) (Nat.le_refl _), cell_keep v1 ((bl w3).dr.al _) (Nat.le_refl _), cell_keep v2 ((bl w3).dr.al _) (Nat.le_refl _), cell_keep v3 ((bl w3).dr.al _) (Nat.le_refl _), cell_keep v4 ((bl w3).dr.al _) (Nat.le_refl _)⟩
      refine wp_region_held_drew (S := fun w' => w'.cell? ⟨w.heap.size, 0, none⟩ = some (.string ⟨v.name.toArray⟩) ∧ w'.cell? ⟨w.heap.size, 1, none⟩ = some (.int .i64 v.typ) ∧ w'.cell? ⟨w.heap.size, 2, none⟩ = some (.int .i64 v.no) ∧ w'.cell? ⟨w.heap.size, 3, none⟩ = some (.int .i64 v.frm) ∧ w'.cell? ⟨w.heap.size, 4, none⟩ = some (.int .i64 v.til)) (by kernel_rfl) ⟨v0, v1, v2, v3, v4⟩ (fun hHeld => ?_)
      refine wpAnyH_take (i := 0) (v := ?_) (by simp only [List.getElem?_toArray, List.getElem?_cons_succ, List.getElem?_cons_zero]; rfl) (by kernel_rfl) (by kernel_rfl) (by kernel_rfl) (by exact fun _ _ _ h => h) (Or.inl ⟨by rfl, ?_⟩) (by assumption) ?_
      rotate_left 1
      · ((intro w hSw; (try dsimp only at hSw); go_simp) <;> with_reducible rfl)
      try simp only [Act.put, List.setIfInBounds_toArray, List.set_cons_zero, List.set_cons_succ]
      refine wpAnyH_take (i := 1) (v := ?_) (by simp only [List.getElem?_toArray, List.getElem?_cons_succ, List.getElem?_cons_zero]; rfl) (by kernel_rfl) (by kernel_rfl) (by kernel_rfl) (by exact fun _ _ _ h => h) (Or.inl ⟨by rfl, ?_⟩) (by assumption) ?_
      rotate_left 1
      · ((intro w hSw; (try dsimp only at hSw); go_simp) <;> with_reducible rfl)
      try simp only [Act.put, List.setIfInBounds_toArray, List.set_cons_zero, List.set_cons_succ]
      refine wpAnyH_take (i := 2) (v := ?_) (by simp only [List.getElem?_toArray, List.getElem?_cons_succ, List.getElem?_cons_zero]; rfl) (by kernel_rfl) (by kernel_rfl) (by kernel_rfl) (by exact fun _ _ _ h => h) (Or.inl ⟨by rfl, ?_⟩) (by assumption) ?_
      rotate_left 1
      · ((intro w hSw; (try dsimp only at hSw); go_simp) <;> with_reducible rfl)
      try simp only [Act.put, List.setIfInBounds_toArray, List.set_cons_zero, List.set_cons_succ]
      refine wpAnyH_take (i := 3) (v := ?_) (by simp only [List.getElem?_toArray, List.getElem?_cons_succ, List.getElem?_cons_zero]; rfl) (by kernel_rfl) (by kernel_rfl) (by kernel_rfl) (by exact fun _ _ _ h => h) (Or.inl ⟨by rfl, ?_⟩) (by assumption) ?_
      rotate_left 1
      · ((intro w hSw; (try dsimp only at hSw); go_simp) <;> with_reducible rfl)
      try simp only [Act.put, List.setIfInBounds_toArray, List.set_cons_zero, List.set_cons_succ]
      refine wpAnyH_take (i := 5) (v := ?_) (by simp only [List.getElem?_toArray, List.getElem?_cons_succ, List.getElem?_cons_zero]; rfl) (by kernel_rfl) (by kernel_rfl) (by kernel_rfl) (by exact fun _ _ _ h => h) (Or.inl ⟨by rfl, ?_⟩) (by assumption) ?_
      rotate_left 1
      · ((intro w hSw; (try dsimp only at hSw); go_simp) <;> with_reducible rfl)
      try simp only [Act.put, List.setIfInBounds_toArray, List.set_cons_zero, List.set_cons_succ]
      refine wpAnyH_ready (rs := [4, 6]) (by kernel_rfl) (by simp) ?_
      refine AllReadyH.cons rfl (fun K hK => ?_) (AllReadyH.cons rfl (fun K hK => ?_) AllReadyH.nil)
      · go_simp
        refine hK.out _ _ ⟨v0, v1, v2, v3, v4⟩ (fun hHeld => ?_)
        clear hK K
        try simp only [Act.put, List.setIfInBounds_toArray, List.set_cons_zero, List.set_cons_succ]
        refine wpAnyH_ready (rs := [6]) (by kernel_rfl) (by simp) ?_
        refine AllReadyH.cons rfl (fun K hK => ?_) AllReadyH.nil
        go_simp
        refine hK.out _ _ hS5 (fun hHeld => ?_)
        clear hK K
        try simp only [Act.put, List.setIfInBounds_toArray, List.set_cons_zero, List.set_cons_succ]
        refine wpAnyH_ready (rs := [7]) (by kernel_rfl) (by simp) ?_
        refine AllReadyH.cons rfl (fun K hK => ?_) AllReadyH.nil
        refine step_push_at _ (by rfl) _ _ 22 (by rfl) base 50 i0 _ 5 48 Tryd.underlying22 hi hz0 hz1 hz2 (by rfl) (Nat.succ_pos _) VrC VrC.mono [] (.slice va acc.length vc) acc (by rfl) HO4.out ⟨w3.heap.size, 0, none⟩ 1 _ v (by rfl) (by rfl) HNW.out HONE.out HVC.out HML.out HMB.out HSZ.out ?_
        intro g cap w6 hown6 hgrow hat
        obtain ⟨e0, e1, e2, e3, e4⟩ := hE0.out g cap w6 hown6 hgrow (by simpa using hat)
        have HP := hide e3
        have r0 := cell_at (j := 0) e4 rfl
        have r1 := cell_at (j := 1) e4 rfl
        have r2 := cell_at (j := 2) e4 rfl
        have r3 := cell_at (j := 3) e4 rfl
        have r4 := cell_at (j := 4) e4 rfl
        clear hown6 hgrow hat e3 e4
        refine hK.out _ _ ⟨r0, r1, r2, r3, r4⟩ (fun hHeld => ?_)
        clear hK K
        try simp only [Act.put, List.setIfInBounds_toArray, List.set_cons_zero, List.set_cons_succ]
        refine wpAnyH_take (i := 8) (v := ?_) (by simp only [List.getElem?_toArray, List.getElem?_cons_succ, List.getElem?_cons_zero]; rfl) (by kernel_rfl) (by kernel_rfl) (by kernel_rfl) (by exact fun _ _ _ h => h) (Or.inl ⟨by rfl, ?_⟩) (by assumption) ?_
        rotate_left 1
        · ((intro w hSw; (try dsimp only at hSw); go_simp) <;> with_reducible rfl)
        try simp only [Act.put, List.setIfInBounds_toArray, List.set_cons_zero, List.set_cons_succ]
        refine wpAnyH_take (i := 9) (v := ?_) (by simp only [List.getElem?_toArray, List.getElem?_cons_succ, List.getElem?_cons_zero]; rfl) (by kernel_rfl) (by kernel_rfl) (by kernel_rfl) (by exact fun _ _ _ h => h) (Or.inl ⟨by rfl, ?_⟩) (by assumption) ?_
        rotate_left 1
        · ((intro w hSw; (try dsimp only at hSw); go_simp) <;> with_reducible rfl)
        try simp only [Act.put, List.setIfInBounds_toArray, List.set_cons_zero, List.set_cons_succ]
        refine wpAnyH_ready (rs := [10]) (by kernel_rfl) (by simp) ?_
        refine AllReadyH.cons rfl (fun K hK => ?_) AllReadyH.nil
        go_simp
        refine hK.out _ _ (by go_simp) (fun hHeld => ?_)
        clear hK K
        try simp only [Act.put, List.setIfInBounds_toArray, List.set_cons_zero, List.set_cons_succ]
        refine wpAnyH_done (by kernel_rfl) ?_ _
        go_wp2_with fail
        go_ret
        exact HP.out
      · go_simp
        refine hK.out _ _ hS5 (fun hHeld => ?_)
        clear hK K
        try simp only [Act.put, List.setIfInBounds_toArray, List.set_cons_zero, List.set_cons_succ]
        refine wpAnyH_ready (rs := [4]) (by kernel_rfl) (by simp) ?_
        refine AllReadyH.cons rfl (fun K hK => ?_) AllReadyH.nil
        go_simp
        refine hK.out _ _ hS5 (fun hHeld => ?_)
        clear hK K
        try simp only [Act.put, List.setIfInBounds_toArray, List.set_cons_zero, List.set_cons_succ]
        refine wpAnyH_ready (rs := [7]) (by kernel_rfl) (by simp) ?_
        refine AllReadyH.cons rfl (fun K hK => ?_) AllReadyH.nil
        refine step_push_at _ (by rfl) _ _ 22 (by rfl) base 50 i0 _ 5 48 Tryd.underlying22 hi hz0 hz1 hz2 (by rfl) (Nat.succ_pos _) VrC VrC.mono [] (.slice va acc.length vc) acc (by rfl) HO4.out ⟨w3.heap.size, 0, none⟩ 1 _ v (by rfl) (by rfl) HNW.out HONE.out HVC.out HML.out HMB.out HSZ.out ?_
        intro g cap w6 hown6 hgrow hat
        obtain ⟨e0, e1, e2, e3, e4⟩ := hE0.out g cap w6 hown6 hgrow (by simpa using hat)
        have HP := hide e3
        have r0 := cell_at (j := 0) e4 rfl
        have r1 := cell_at (j := 1) e4 rfl
        have r2 := cell_at (j := 2) e4 rfl
        have r3 := cell_at (j := 3) e4 rfl
        have r4 := cell_at (j := 4) e4 rfl
        clear hown6 hgrow hat e3 e4
        refine hK.out _ _ ⟨r0, r1, r2, r3, r4⟩ (fun hHeld => ?_)
        clear hK K
        try simp only [Act.put, List.setIfInBounds_toArray, List.set_cons_zero, List.set_cons_succ]
        refine wpAnyH_take (i := 8) (v := ?_) (by simp only [List.getElem?_toArray, List.getElem?_cons_succ, List.getElem?_cons_zero]; rfl) (by kernel_rfl) (by kernel_rfl) (by kernel_rfl) (by exact fun _ _ _ h => h) (Or.inl ⟨by rfl, ?_⟩) (by assumption) ?_
        rotate_left 1
        · ((intro w hSw; (try dsimp only at hSw); go_simp) <;> with_reducible rfl)
        try simp only [Act.put, List.setIfInBounds_toArray, List.set_cons_zero, List.set_cons_succ]
        refine wpAnyH_take (i := 9) (v := ?_) (by simp only [List.getElem?_toArray, List.getElem?_cons_succ, List.getElem?_cons_zero]; rfl) (by kernel_rfl) (by kernel_rfl) (by kernel_rfl) (by exact fun _ _ _ h => h) (Or.inl ⟨by rfl, ?_⟩) (by assumption) ?_
        rotate_left 1
        · ((intro w hSw; (try dsimp only at hSw); go_simp) <;> with_reducible rfl)
        try simp only [Act.put, List.setIfInBounds_toArray, List.set_cons_zero, List.set_cons_succ]
        refine wpAnyH_ready (rs := [10]) (by kernel_rfl) (by simp) ?_
        refine AllReadyH.cons rfl (fun K hK => ?_) AllReadyH.nil
        go_simp
        refine hK.out _ _ (by go_simp) (fun hHeld => ?_)
        clear hK K
        try simp only [Act.put, List.setIfInBounds_toArray, List.set_cons_zero, List.set_cons_succ]
        refine wpAnyH_done (by kernel_rfl) ?_ _
        go_wp2_with fail
        go_ret
        exact HP.out
  · rw [hq] at hlk
    have HP : Hid (∀ w', Below w.heap.size w w' → AddPost w base sB mB acc ow v (.returned (.int .i64 11)) w') := hide fun w' hb => .inl ⟨hq, rfl, hb⟩
    clear hq
    go_enter Tryd.func33, Tryd.ntmps33
    go_wp2_with fail
    refine still_drew (by kernel_rfl) (by kernel_rfl) ?_
    repeat still_step
    refine wpStill_nil ?_
    go_wp2_with fail
    go_ret
    exact HP.out _ (((bl w).al _).dr)
end Go.Proofs.YtccgpmncpemmdaaDoor
