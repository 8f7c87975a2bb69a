/- The source of a draft: function answers the model's function, in new memory, and changes only the source's own cells. -/
import Derived.Test.YtnkmbddjekepkaaGreatDoorMkG
import Derived.Test.YtnkmbddjekepkaaGreatDoorOw2
import Derived.IntWalk
import Derived.Deep.RegionLaw
namespace Go.Proofs.YtnkmbddjekepkaaGreatDoor
open Go Go.RowKit
set_option linter.unusedSimpArgs false
set_option linter.unusedVariables false
set_option linter.unnecessarySimpa false
def FnPost (w : World) (sb : Nat) (L : List Nat) (q : Fn × Sd) (r : Ending) (w' : World) : Prop :=
  (∃ v, r = .returned v ∧ Fn.Val (nw w.heap.size w') q.1 v) ∧ Src w' sb L q.2.1 q.2.2 ∧ Kept [sb] w w'
/-- What is carried through a function that is being made: the source, the two blocks of the function, its parameters. -/
structure Buf (sb : Nat) (L : List Nat) (left : Nat) (w w2 : World) (name : Bytes) (res : Int) (v : Value) (W : World) (p : Nat) : Prop where
  src : Src W sb L p left
  r : W.heap[w.heap.size]? = some (.cells #[.string ⟨#[]⟩, .slice none 0 0, .int .i64 0, .slice none 0 0, .int .i64 0] 30 (0, 0))
  x : W.heap[w2.heap.size]? = some (.cells #[.string ⟨name.toArray⟩, v, .int .i64 res, .slice none 0 0, .int .i64 0] 30 (0, 0))
  k : Kept [sb] w W
section
variable {sb left p : Nat} {L : List Nat} {w w2 W : World} {name : Bytes} {res : Int} {v : Value}
theorem Buf.st {W' : World} {p' left' : Nat} (h : Buf sb L left w w2 name res v W p) (hw : sb < w.heap.size ∧ sb < w2.heap.size) (hs : Src W' sb L p' left') (hk : Kept [sb] W W') : Buf sb L left' w w2 name res v W' p' :=
  ⟨hs, hk.heap (by simp; omega) h.r, hk.heap (by simp; omega) h.x, h.k.tr hk⟩
theorem Buf.be {W' : World} (h : Buf sb L left w w2 name res v W p) (hb : Below W.heap.size W W') : Buf sb L left w w2 name res v W' p :=
  ⟨h.src.below hb, (hb.block _ (Array.getElem?_eq_some_iff.1 h.r).1).trans h.r, (hb.block _ (Array.getElem?_eq_some_iff.1 h.x).1).trans h.x, h.k.st hb⟩
theorem Buf.al (h : Buf sb L left w w2 name res v W p) (o : Obj) : Buf sb L left w w2 name res v (W.alloc o) p := h.be ((bl W).al o)
theorem Buf.dr (h : Buf sb L left w w2 name res v W p) : Buf sb L left w w2 name res v W.drew p := h.be (bl W).dr
theorem Buf.grown {W' : World} {row : Option Nat} (h : Buf sb L left w w2 name res v W p) (hw : sb < w.heap.size ∧ sb < w2.heap.size ∧ w.heap.size < w2.heap.size) (hg : W.grownBy W' row) (hr : ∀ k, row = some k → w2.heap.size < k) : Buf sb L left w w2 name res v W' p := by
  have hk : Kept row.toList W W' := (Kept.refl _ W).grown hg fun k hk => .inl (by simp [hk])
  have hlt : ∀ g ∈ row.toList, w2.heap.size < g := fun g hg => hr g (by simpa using hg)
  exact ⟨h.src.keep hk fun g hg => by have := hlt g hg; omega, hk.heap (fun hg => by have := hlt _ hg; omega) h.r, hk.heap (fun hg => by have := hlt _ hg; omega) h.x, h.k.trNew hk fun g hg => .inr (by have := hlt g hg; omega)⟩
theorem Buf.setx (h : Buf sb L left w w2 name res v W p) (hw : sb < w.heap.size ∧ sb < w2.heap.size ∧ w.heap.size < w2.heap.size) (u : Value) : Buf sb L left w w2 name res u (W.setCell ⟨w2.heap.size, 1, none⟩ u) p :=
  ⟨h.src.setNew hw.2.1 _ _, (Below.heap_setCell _ _ _ _ (by simp only; omega)).trans h.r, by
    simp only [World.setCell, Array.getElem?_modify, if_true, h.x, Option.map_some]
    simp, h.k.set (.inr (by omega)) _ _⟩
theorem next_buf (h : Buf sb L left w w2 name res v W p) (hw : sb < w.heap.size ∧ sb < w2.heap.size) (n : Nat) (hn : 0 < n) (hn2 : n ≤ 1000) :
    Calls Tryz.prog 26 #[.pointer (some ⟨sb, 0, none⟩), .int .i64 n] W fun r w' => r = .returned (.int .i64 (nextD L n p).1) ∧ Buf sb L left w w2 name res v w' (nextD L n p).2 ∧ Kept [sb] W w' :=
  (next_any sb left n p L W h.src hn hn2).mono fun _ _ ⟨h1, h2, h3⟩ => ⟨h1, h.st hw h2 h3, h3⟩
theorem name_buf (h : Buf sb L left w w2 name res v W p) (hw : sb < w.heap.size ∧ sb < w2.heap.size) :
    Calls Tryz.prog 42 #[.pointer (some ⟨sb, 0, none⟩)] W fun r w' => r = .returned (.string ⟨(nameD L p).1.toArray⟩) ∧ Buf sb L left w w2 name res v w' (nameD L p).2 ∧ Kept [sb] W w' :=
  (sname_any sb left p L W h.src).mono fun _ _ ⟨h1, h2, h3⟩ => ⟨h1, h.st hw h2 h3, h3⟩
end
/-- What is said of the end: of the world W only the blocks R and F have turned, and R's cells are these. -/
def FinF (R F : Nat) (W : World) (c0 c1 c2 c3 c4 : Value) (W' : World) : Prop :=
  Kept [R, F] W W' ∧ W'.cell? ⟨R, 0, none⟩ = some c0 ∧ W'.cell? ⟨R, 1, none⟩ = some c1 ∧ W'.cell? ⟨R, 2, none⟩ = some c2 ∧ W'.cell? ⟨R, 3, none⟩ = some c3 ∧ W'.cell? ⟨R, 4, none⟩ = some c4
theorem fn_post {w W W' : World} {sb R F : Nat} {L : List Nat} {f : Fn} {pp pb : Option Addr} {cp cb : Nat} {q : Sd} (hf : Kept [R, F] W W') (hwf : FnWf f cb) (hR : w.heap.size ≤ R ∧ R < F) (hp : Pms (nw (F + 1) W) f.params pp cp) (hb : St.Row (nw (F + 1) W) f.body pb)
    (hs : Src W sb L q.1 q.2) (hsb : sb < w.heap.size) (hK : Kept [sb] w W) :
    FnPost w sb L (f, q) (.returned (.agg #[.string ⟨f.name.toArray⟩, .slice pp f.params.length cp, .int .i64 f.result, .slice pb f.body.length cb, .int .i64 f.count])) W' := by
  have hh : Has (nw (F + 1) W) (nw w.heap.size W') := (has_nw_kept hf (by simp; omega)).tr (has_nws (by omega))
  exact ⟨⟨_, rfl, pp, pb, cp, cb, rfl, hwf, hp.has hh, hb.has hh⟩, hs.keep hf (by simp; omega), hK.trNew hf (by simp; omega)⟩
set_option maxRecDepth 20000 in
set_option maxHeartbeats 40000000 in
theorem sfunc_any (sb left : Nat) (L : List Nat) (name : Bytes) (hnm : name.length ≤ 16) (w : World) (p : Nat) (h : Src w sb L p left) :
    Calls Tryz.prog 27 #[.pointer (some ⟨sb, 0, none⟩), .string ⟨name.toArray⟩] w (FnPost w sb L (funcD L name p)) := by
  obtain ⟨i0, hi, hz0, hz1, hz2⟩ := info_parts info_pm
  obtain ⟨j0, hj, hy0, hy1, hy2⟩ := info_parts info_st
  have HN := hide fun (n p : Nat) (hn : 0 < n) (hn2 : n ≤ 1000) (W : World) (hW : Src W sb L p left) => next_any sb left n p L W hW hn hn2
  have HSRC := hide (h.al (.cells #[.string ⟨#[]⟩, .slice none 0 0, .int .i64 0, .slice none 0 0, .int .i64 0] 30))
  have hsb := h.lt
  have HZ0 : Hid ((w.alloc (.cells #[.string ⟨#[]⟩, .slice none 0 0, .int .i64 0, .slice none 0 0, .int .i64 0] 30)).heap[w.heap.size]? = some (.cells #[.string ⟨#[]⟩, .slice none 0 0, .int .i64 0, .slice none 0 0, .int .i64 0] 30 (0, 0))) := hide (by show (w.heap.push _)[w.heap.size]? = _; simp)
  have HK0 := hide ((Kept.refl [sb] w).al (.cells #[.string ⟨#[]⟩, .slice none 0 0, .int .i64 0, .slice none 0 0, .int .i64 0] 30))
  clear h
  go_enter Tryz.func27, Tryz.ntmps27
  go_wp2_with fail
  refine (HN.out 4 p (by omega) (by omega) _ HSRC.out).mono ?_
  rintro r w2 ⟨rfl, HS, hK⟩
  have HZ := hide (hK.heap (by simp; omega) HZ0.out)
  have hw2 : w.heap.size < w2.heap.size := (Array.getElem?_eq_some_iff.1 HZ.out).1
  have HB : Buf sb L left w w2 name ((nextD L 4 p).1 : Nat) (.slice none 0 0) (w2.alloc (.cells #[.string ⟨name.toArray⟩, .slice none 0 0, .int .i64 ((nextD L 4 p).1 : Nat), .slice none 0 0, .int .i64 0] 30)) (nextD L 4 p).2 :=
    ⟨HS.al _, (Below.heap_alloc _ _ _ hw2).trans HZ.out, by show (w2.heap.push _)[w2.heap.size]? = _; simp, (HK0.out.tr hK).al _⟩
  have hsw : sb < w.heap.size ∧ sb < w2.heap.size := ⟨hsb, by omega⟩
  have hsw3 : sb < w.heap.size ∧ sb < w2.heap.size ∧ w.heap.size < w2.heap.size := ⟨hsb, by omega, hw2⟩
  clear HZ HS hK HZ0 HK0 HSRC HN
  go_wp2_with fail
  refine (next_buf HB hsw 3 (Nat.succ_pos _) (by omega)).mono ?_
  rintro r w3 ⟨rfl, HB, hK⟩
  have hn3 := nextD_lt L (n := 3) (nextD L 4 p).2 (by omega)
  have hbase : w2.heap.size + 1 ≤ w3.heap.size := (Array.getElem?_eq_some_iff.1 HB.x).1
  obtain ⟨n, p3, hq⟩ : ∃ n p3, nextD L 3 (nextD L 4 p).2 = (n, p3) := ⟨_, _, rfl⟩
  have HQ := hide hq
  rw [hq] at hn3 HB ⊢
  simp only at hn3
  clear hK hq
  go_wp2_with fail
  go_loopw [12] (fun i wr => ∃ (k : Nat) (v : Value), k ≤ n ∧ i = .int .i64 k ∧ Buf sb L left w w2 name ((nextD L 4 p).1 : Nat) v wr (paramsD L k p3).2 ∧ OwnL wr (w2.heap.size + 1) 72 2 PmC (List.range (w2.heap.size + 1)) v (paramsD L k p3).1 ∧ w2.heap.size + 1 ≤ wr.heap.size) (fun i _ => n - (intOf i).toNat)
  case atStart => exact ⟨0, _, Nat.zero_le _, rfl, HB, OwnL.nil _ _ _ _ _ _, hbase⟩
  case round =>
    obtain ⟨k, v, hk, rfl, HB, hown, hbs⟩ := hrel
    obtain ⟨va0, vc0, rfl, -, -⟩ := hown.slice
    have HOWN := hide hown
    clear hown
    have x1 := cell_at (j := 1) HB.x rfl
    have hxl := cell_lt x1
    simp only at hxl
    by_cases hlt : k < n
    · have hl9 := (paramsD_ok L k p3).1
      have hl8 : (paramsD L k p3).1.length + 1 ≤ 10 := by omega
      have HST := hide (show paramsD L (k + 1) p3 = ((paramsD L k p3).1 ++ [⟨(nameD L (paramsD L k p3).2).1, 1 + ((nextD L 3 (nameD L (paramsD L k p3).2).2).1 : Nat)⟩], (nextD L 3 (nameD L (paramsD L k p3).2).2).2) from rfl)
      have ht3 := nextD_lt L (n := 3) (nameD L (paramsD L k p3).2).2 (by omega)
      have hsm := (nm5_ok _ (nameD_mem L (paramsD L k p3).2)).2
      have HPM : Hid (∀ W, PmC W ⟨(nameD L (paramsD L k p3).2).1, 1 + ((nextD L 3 (nameD L (paramsD L k p3).2).2).1 : Nat)⟩ [.string ⟨(nameD L (paramsD L k p3).2).1.toArray⟩, .int .i64 (1 + ((nextD L 3 (nameD L (paramsD L k p3).2).2).1 : Nat))]) := hide fun W => ⟨rfl, by unfold maxLen; simp only; omega, (show I64 (1 + ((nextD L 3 (nameD L (paramsD L k p3).2).2).1 : Nat)) from i64_sm (by omega))⟩
      have hml : (paramsD L k p3).1.length + 1 ≤ maxLen := by unfold maxLen; omega
      have hmb : ((paramsD L k p3).1.length + 1) * 24 ≤ 140737488355328 := by omega
      have hsb1 : ∀ g ∈ [sb], g < w2.heap.size + 1 ∧ g ∈ List.range (w2.heap.size + 1) := by simp; omega
      have hone : ∀ u ∈ [Value.string ⟨(nameD L (paramsD L k p3).2).1.toArray⟩, .int .i64 (1 + ((nextD L 3 (nameD L (paramsD L k p3).2).2).1 : Nat))], u.oneCell' = true := by simp [Value.oneCell']
      have HONE := hide hone
      have HSZ5 := hide fun (W : World) (o : Obj) (h : w2.heap.size + 1 ≤ W.heap.size) => (show w2.heap.size + 1 ≤ (W.alloc o).heap.size by simp; omega)
      have HBLT := hide fun k hk => Nat.lt_of_lt_of_le (Nat.lt_succ_self _) (HOWN.out.lt k hk).1
      have hKd : Kept [sb] wr wr.drew := (Kept.refl _ _).dr
      have hwrap : IntKind.i64.wrap (1 + ((nextD L 3 (nameD L (paramsD L k p3).2).2).1 : Nat)) = 1 + ((nextD L 3 (nameD L (paramsD L k p3).2).2).1 : Nat) := IntWalk.i64_in _ (by omega)
      clear hl9 hsm hone
      go_wp2_with fail
      go_region_law
        (first | (go_simp; go_at_call 42; refine (name_buf (L := L) (left := left) (w := w) (w2 := w2) (name := name) (res := ((nextD L 4 p).1 : Nat)) (v := .slice va0 (paramsD L k p3).1.length vc0) (p := (paramsD L k p3).2) ?_ hsw).mono ?_; (· (first | exact HB | exact HB.al _ | exact (HB.al _).dr | exact HB.dr | exact (HB.dr).al _)); rintro r w4 ⟨rfl, HB, hK⟩; have HOWN := hide (HOWN.out.kept PmC.mono (hKd.tr hK) hsb1); have x1 := cell_at (j := 1) HB.x rfl; have hb4 : wr.heap.size ≤ w4.heap.size := hK.size; have hx4 : w2.heap.size < w4.heap.size := cell_lt x1; clear hK)
               | (go_simp; go_at_call 26; refine (next_buf (L := L) (left := left) (w := w) (w2 := w2) (name := name) (res := ((nextD L 4 p).1 : Nat)) (v := .slice va0 (paramsD L k p3).1.length vc0) (p := (nameD L (paramsD L k p3).2).2) ?_ hsw 3 (Nat.succ_pos _) three_le).mono ?_; (· (first | exact HB | exact HB.al _ | exact (HB.al _).dr | exact HB.dr | exact (HB.dr).al _)); rintro r w5 ⟨rfl, HB, hK⟩; have HOWN := hide (HOWN.out.kept PmC.mono hK hsb1); have x1 := cell_at (j := 1) HB.x rfl; have hb5 := Nat.le_trans hbs (Nat.le_trans hb4 hK.size); have hx5 : w2.heap.size < w5.heap.size := cell_lt x1; clear hK)
               | (refine step_push _ (by rfl) _ _ 27 (by rfl) (w2.heap.size + 1) 72 i0 _ 2 24 Tryz.underlying27 hi hz0 hz1 hz2 (by rfl) (Nat.succ_pos _) PmC PmC.mono (List.range (w2.heap.size + 1)) (.slice va0 (paramsD L k p3).1.length vc0) (paramsD L k p3).1 (by rfl) (HOWN.out.al PmC.mono _) ⟨w5.heap.size, 0, none⟩ 1 _ ⟨(nameD L (paramsD L k p3).2).1, 1 + ((nextD L 3 (nameD L (paramsD L k p3).2).2).1 : Nat)⟩ (by rfl) (by rfl) (news_row _ _ _ _ rfl) HONE.out (HPM.out _) hml hmb (HSZ5.out _ _ hb5) ?_; intro v' w6 hown6 hgrow; obtain ⟨va, vcap, rfl, -, -⟩ := hown6.slice; have HOWN6 := hide hown6; clear hown6; have HB := (HB.al _).grown hsw3 hgrow HBLT.out; have x1 := cell_at (j := 1) HB.x rfl; have y1 := free_at (j := 1) HB.x))
      all_goals
        clear hwrap
        have HB := HB.setx hsw3 (.slice va ((paramsD L k p3).1.length + 1) vcap)
        have HO := HOWN6.out
        simp only [List.length_append, List.length_cons, List.length_nil, Nat.zero_add] at HO
        have HO := hide (HO.kept PmC.mono ((Kept.refl [w2.heap.size] w6).set (g := w2.heap.size) (.inl (by simp)) 1 (.slice va ((paramsD L k p3).1.length + 1) vcap)) (by simp))
        go_wp2_with fail
        go_roundw
        case rel =>
          refine ⟨k + 1, .slice va ((paramsD L k p3).1.length + 1) vcap, by omega, by go_num, ?_, ?_, ?_⟩
          · rw [HST.out]; exact HB
          · rw [HST.out]; exact HO.out
          · have := hgrow.size; simp [World.setCell] at this ⊢; omega
        case measure => simp [intOf]; omega
    · obtain rfl : k = n := by omega
      obtain ⟨hc2, hf2⟩ := HB.src.c2
      have hs0 := HB.src.set (p' := (paramsD L k p3).2) (left' := 12) (.int .i64 12) (.inr ⟨rfl, rfl, rfl, by omega⟩)
      have hk0 : Kept [sb] wr (wr.setCell ⟨sb, 2, none⟩ (.int .i64 12)) := (Kept.refl _ _).set (g := sb) (.inl (by simp)) _ _
      have HB0 := HB.st hsw hs0 hk0
      have hsz0 : (wr.setCell ⟨sb, 2, none⟩ (.int .i64 12)).heap.size = wr.heap.size := by simp [World.setCell]
      have HBK : Hid (∀ (q : Sd) (W : World), Src W sb L q.1 q.2 → Calls Tryz.prog 43 #[.pointer (some ⟨sb, 0, none⟩), .int .i64 3] W (BlkPost W sb L (blockD L 3 q))) := hide fun q W hW => sblock_any sb L 3 (by omega) q W hW
      have HQ2 := hide (show funcD L name p = (⟨name, (paramsD L k p3).1, ((nextD L 4 p).1 : Nat), (blockD L 3 ((paramsD L k p3).2, 12)).1 ++ (blockD L 3 (blockD L 3 ((paramsD L k p3).2, 12)).2).1, 0⟩, (blockD L 3 (blockD L 3 ((paramsD L k p3).2, 12)).2).2) by unfold funcD; simp only [HQ.out])
      have hg1 := (blockD_good L 3 ((paramsD L k p3).2, 12)).2.2
      have hg2 := (blockD_good L 3 (blockD L 3 ((paramsD L k p3).2, 12)).2).2.2
      have HSZ0 := hide hsz0
      clear hsz0
      go_wp2_with fail
      (with_reducible refine (HBK.out ((paramsD L k p3).2, 12) _ hs0).mono ?_)
      rintro r w4 ⟨⟨v1, rfl, hown1⟩, hs1, hK1⟩
      have HB1 := HB0.st hsw hs1 hK1
      go_wp2_with fail
      (with_reducible refine (HBK.out (blockD L 3 ((paramsD L k p3).2, 12)).2 _ hs1).mono ?_)
      rintro r w5 ⟨⟨v2, rfl, hown2⟩, hs2, hK2⟩
      have HB2 := HB1.st hsw hs2 hK2
      generalize blockD L 3 ((paramsD L k p3).2, 12) = b1 at *
      generalize blockD L 3 b1.2 = b2 at *
      rw [HSZ0.out] at hown1
      have hav := own_avoid hown1 (Nat.le_refl _) (fun g hg => by have := List.mem_range.1 hg; have := hK1.size; have := HSZ0.out; omega)
      have hown1 := hown1.kept StC.mono hK2 (by simp; omega)
      obtain ⟨pa2, cap2, rfl, hin⟩ := hown2.news fun _ _ _ h => h.one
      have hin2 : (pa2 = none ∧ b2.1 = []) ∨ ∃ ad news, pa2 = some ad ∧ (∀ j u, news[j]? = some u → w5.cell? (ad.add j) = some u) ∧ (∀ u ∈ news, u.oneCell' = true) ∧ Cut 8 (StC (av (v1.ownBlock.toList ++ List.range wr.heap.size) w5)) b2.1 news := by
        rcases hin with h | ⟨ad, news, e, h1, h2, h3⟩
        · exact .inl h
        · exact .inr ⟨ad, news, e, h1, h2, h3.mono fun a c h => StC.mono _ _ _ _ (has_sub fun g hg => List.mem_append.2 (.inr (List.mem_range.2 (hav g hg)))) h⟩
      have HIN := hide hin2
      have HOWN1 := hide hown1
      have HM1 : Hid (b1.1.length + b2.1.length ≤ maxLen) := hide (by unfold maxLen; omega)
      have HM2 : Hid ((b1.1.length + b2.1.length) * 128 ≤ 140737488355328) := hide (by omega)
      have HM3 : Hid (wr.heap.size ≤ w5.heap.size) := hide (by have := hK1.size; have := hK2.size; have := HSZ0.out; omega)
      have HKA := hide ((hk0.tr hK1).tr hK2)
      have HBS := hide hbs
      clear hin hin2 hown1 hown2 hav hK1 hK2 hk0 hs0 HB0 HB1 hs1 hs2 x1 hxl
      go_wp2_with (at_builtin; refine wpList_pushin _ rfl _ _ 28 rfl wr.heap.size 84 j0 _ 8 128 Tryz.underlying28 hj hy0 hy1 hy2 rfl (by decide) StC StC.mono (List.range wr.heap.size) v1 b1.1 rfl HOWN1.out pa2 cap2 b2.1 rfl HIN.out HM1.out HM2.out HM3.out ?_; intro v' w6 hown6 hgrow; obtain ⟨va, vcap, rfl, -, -⟩ := hown6.slice; have HOWN6 := hide hown6; clear hown6; have HB6 := HB2.grown hsw3 hgrow (fun g hg => Nat.lt_of_lt_of_le (Nat.lt_of_succ_le hbs) (HOWN1.out.lt g hg).1); have q0 := cell_at (j := 0) HB6.r rfl; have q1 := cell_at (j := 1) HB6.r rfl; have q2 := cell_at (j := 2) HB6.r rfl; have q3 := cell_at (j := 3) HB6.r rfl; have q4 := cell_at (j := 4) HB6.r rfl; have z := (fun j => free_at (j := j) HB6.r); have x0 := cell_at (j := 0) HB6.x rfl; have x1 := cell_at (j := 1) HB6.x rfl; have x2 := cell_at (j := 2) HB6.x rfl; have x3 := cell_at (j := 3) HB6.x rfl; have x4 := cell_at (j := 4) HB6.x rfl; have y := (fun j => free_at (j := j) HB6.x))
      refine cut_end (FinF w.heap.size w2.heap.size w6 (.string ⟨name.toArray⟩) (.slice va0 (paramsD L k p3).1.length vc0) (.int .i64 ((nextD L 4 p).1 : Nat)) (.slice va (b1.1.length + b2.1.length) vcap) (.int .i64 0)) ⟨by (repeat refine Kept.set ?_ (.inl (by simp)) _ _); exact Kept.refl _ _, by go_simp, by go_simp, by go_simp, by go_simp, by go_simp⟩ ?_
      intro W' hf
      obtain ⟨hkf, r0, r1, r2, r3, r4⟩ := hf
      have hKA := HKA.out.grown hgrow fun g hg => .inr (HOWN1.out.lt g hg).1
      have hop := HOWN.out.kept PmC.mono hKA (by simp; omega)
      obtain ⟨pp, cp, e1, hpms⟩ := hop.pms (fun g hg => List.mem_range.1 hg)
      obtain ⟨pb, cb, e2, hrow, hle, hcm⟩ := HOWN6.out.sts (fun g hg => List.mem_range.1 hg)
      simp only [Value.slice.injEq, true_and] at e1 e2
      obtain ⟨rfl, rfl⟩ := e1
      obtain ⟨rfl, rfl⟩ := e2
      have hn4 := nextD_lt L (n := 4) p (by omega)
      refine bodyPost_ret (v := .agg #[.string ⟨name.toArray⟩, .slice va0 (paramsD L k p3).1.length vc0, .int .i64 ((nextD L 4 p).1 : Nat), .slice va (b1.1.length + b2.1.length) vcap, .int .i64 0]) (by simp [results, Tryz.results27, go_sem, r0, r1, r2, r3, r4]) rfl ?_
      rw [HQ2.out]
      have := fn_post (w := w) (sb := sb) (L := L) (f := ⟨name, (paramsD L k p3).1, ((nextD L 4 p).1 : Nat), b1.1 ++ b2.1, 0⟩) (q := b2.2) hkf ⟨by unfold maxLen; simp only; omega, i64_sm (by simp only; omega), hle, hcm, i64_sm (by simp only; omega)⟩ ⟨Nat.le_refl _, hw2⟩ hpms (hrow.has (has_nws (by omega))) HB6.src hsb HB6.k
      simpa using this
end Go.Proofs.YtnkmbddjekepkaaGreatDoor
