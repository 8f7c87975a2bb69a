/- The source of a draft: stmt answers the model's statement for calls, and for those with blocks; and block answers the model's block. -/
import Derived.Test.YtnkmbddjekepkaaGreatDoorMkE
import Derived.Deep.RegionLaw
namespace Go.Proofs.YtnkmbddjekepkaaGreatDoor
open Go Go.RowKit
set_option linter.unusedSimpArgs false
set_option linter.unusedVariables false
set_option linter.unnecessarySimpa false
set_option maxRecDepth 20000 in
set_option maxHeartbeats 2000000 in
theorem sstmt_while (sb left : Nat) (L : List Nat) (ht : Nat) (htb : ht ≤ 100) (w : World) (p : Nat) (h : Src w sb L p left) (k p1 : Nat) (hq : nextD L 10 p = (k, p1)) (blk : Sd → List St × Sd) (hk : k = 9) (HB : Hid (∀ (q : Sd) (W : World), Src W sb L q.1 q.2 → Calls Tryz.prog 43 #[.pointer (some ⟨sb, 0, none⟩), .int .i64 ht] W (BlkPost W sb L (blk q)))) :
    Calls Tryz.prog 61 #[.pointer (some ⟨sb, 0, none⟩), .int .i64 (ht + 1 : Nat)] w (StPost w sb L (stmtD L blk (p, left))) := by
  subst hk
  have HN := hide fun (n p : Nat) (hn : 0 < n) (hn2 : n ≤ 1000) (W : World) (hW : Src W sb L p left) => next_any sb left n p L W hW hn hn2
  have HNM := hide fun (p : Nat) (W : World) (hW : Src W sb L p left) => sname_any sb left p L W hW
  have HXS := hide fun (n : Nat) (hn : n ≤ 10) (p : Nat) (W : World) (hW : Src W sb L p left) => sexprs_any sb left L n hn W p hW
  have HSRC := hide (h.al (.cells #[.int .i64 0, .int .i64 0, .string ⟨#[]⟩, .int .i64 0, .string ⟨#[]⟩, .slice none 0 0, .slice none 0 0, .slice none 0 0] 84))
  have hsb := h.lt
  have HZ0 : Hid ((w.alloc (.cells #[.int .i64 0, .int .i64 0, .string ⟨#[]⟩, .int .i64 0, .string ⟨#[]⟩, .slice none 0 0, .slice none 0 0, .slice none 0 0] 84)).heap[w.heap.size]? = some (.cells #[.int .i64 0, .int .i64 0, .string ⟨#[]⟩, .int .i64 0, .string ⟨#[]⟩, .slice none 0 0, .slice none 0 0, .slice none 0 0] 84 (0, 0))) := hide (by show (w.heap.push _)[w.heap.size]? = _; simp)
  have HK0 := hide ((Kept.refl [sb] w).al (.cells #[.int .i64 0, .int .i64 0, .string ⟨#[]⟩, .int .i64 0, .string ⟨#[]⟩, .slice none 0 0, .slice none 0 0, .slice none 0 0] 84))
  have hI : ∀ n q m : Nat, 0 < n → n ≤ 100 → m ≤ 100 → I64 ((m : Int) + ((nextD L n q).1 : Nat)) := fun n q m h0 h1 h2 => by
    have := nextD_lt L q h0
    exact i64_sm (by omega)
  have HI := hide hI
  have hns : ∀ q, (nameD L q).1.length ≤ 100 := fun q => by have := (nm5_ok _ (nameD_mem L q)).2; omega
  have HNS := hide hns
  clear h hI hns
  have e : stmtD L blk (p, left) = (.mk 10 0 [] 0 [] (exprsD L 1 p1).1 (blk ((exprsD L 1 p1).2, left)).1 [], (blk ((exprsD L 1 p1).2, left)).2) := by rw [stmtD]; simp [hq]
  rw [e]
  clear e
  go_enter Tryz.func61, Tryz.ntmps61
  go_wp2_with fail
  refine (HN.out 10 p (by omega) (by omega) _ HSRC.out).mono ?_
  rintro r w2 ⟨hr, HS, hK⟩
  rw [hq] at hr HS
  subst hr
  have HZ := hide (hK.heap (by simp; omega) HZ0.out)
  have hw2 : w.heap.size < w2.heap.size := (Array.getElem?_eq_some_iff.1 HZ.out).1
  have HZ := hide ((Below.heap_alloc _ (.cells #[.int .i64 10, .int .i64 0, .string ⟨#[]⟩, .int .i64 0, .string ⟨#[]⟩, .slice none 0 0, .slice none 0 0, .slice none 0 0] 84) _ hw2).trans HZ.out)
  have HX : Hid ((w2.alloc (.cells #[.int .i64 10, .int .i64 0, .string ⟨#[]⟩, .int .i64 0, .string ⟨#[]⟩, .slice none 0 0, .slice none 0 0, .slice none 0 0] 84)).heap[w2.heap.size]? = some (.cells #[.int .i64 10, .int .i64 0, .string ⟨#[]⟩, .int .i64 0, .string ⟨#[]⟩, .slice none 0 0, .slice none 0 0, .slice none 0 0] 84 (0, 0))) := hide (by show (w2.heap.push _)[w2.heap.size]? = _; simp)
  have HS := HS.al (.cells #[.int .i64 10, .int .i64 0, .string ⟨#[]⟩, .int .i64 0, .string ⟨#[]⟩, .slice none 0 0, .slice none 0 0, .slice none 0 0] 84)
  have HK := hide ((HK0.out.tr hK).al (.cells #[.int .i64 10, .int .i64 0, .string ⟨#[]⟩, .int .i64 0, .string ⟨#[]⟩, .slice none 0 0, .slice none 0 0, .slice none 0 0] 84))
  clear hK
  have hne : ¬ w.heap.size = w2.heap.size := by omega
  have hne2 : ¬ w2.heap.size = w.heap.size := by omega
  have hlt2 := (Array.getElem?_eq_some_iff.1 HX.out).1
  go_wp2_with fail
  refine (HXS.out 1 (by omega) p1 _ HS).mono ?_
  rintro r w6 ⟨⟨v, rfl, hown⟩, HS, hK⟩
  obtain ⟨ra, rcap, rfl, hrow, hlc, hcm⟩ := hown.exs below_range
  have HROW : Hid (Ex.Row (nw (w2.heap.size + 1) w6) _ ra) := hide (hrow.has (has_nws hlt2))
  have HZ := hide (hK.heap (by simp; omega) HZ.out)
  have HX := hide (hK.heap (by simp; omega) HX.out)
  have hsz2 := hK.size
  have HK := hide (HK.out.tr hK)
  clear hK hown hrow
  have hlt2 := (Array.getElem?_eq_some_iff.1 HX.out).1
  go_wp2_with fail
  (with_reducible refine (HB.out (_, _) _ HS).mono ?_)
  rintro r w7 ⟨⟨v, rfl, hown⟩, HS, hK⟩
  obtain ⟨ba, bcap, rfl, hrow, hbl, hbm⟩ := hown.sts below_range
  have HB1 : Hid (St.Row (nw (w2.heap.size + 1) w7) _ ba) := hide (hrow.has (has_nws hlt2))
  have hsn : sb < w2.heap.size + 1 := by omega
  have HROW := hide (HROW.out.has (has_nw_one hK hsn))
  have HZ := hide (hK.heap (by simp; omega) HZ.out)
  have HX := hide (hK.heap (by simp; omega) HX.out)
  have hsz2 := hK.size
  have HK := hide (HK.out.tr hK)
  clear hK hown hrow
  have q0 := cell_at (j := 0) HZ.out rfl
  have q1 := cell_at (j := 1) HZ.out rfl
  have q2 := cell_at (j := 2) HZ.out rfl
  have q3 := cell_at (j := 3) HZ.out rfl
  have q4 := cell_at (j := 4) HZ.out rfl
  have q5 := cell_at (j := 5) HZ.out rfl
  have q6 := cell_at (j := 6) HZ.out rfl
  have q7 := cell_at (j := 7) HZ.out rfl
  have x0 := cell_at (j := 0) HX.out rfl
  have x1 := cell_at (j := 1) HX.out rfl
  have x2 := cell_at (j := 2) HX.out rfl
  have x3 := cell_at (j := 3) HX.out rfl
  have x4 := cell_at (j := 4) HX.out rfl
  have x5 := cell_at (j := 5) HX.out rfl
  have x6 := cell_at (j := 6) HX.out rfl
  have x7 := cell_at (j := 7) HX.out rfl
  have z := fun j => free_at (j := j) HZ.out
  have y := fun j => free_at (j := j) HX.out
  have hzl := cell_lt q0
  have hxl := cell_lt x0
  simp only at hzl hxl
  go_wp2_with fail
  refine cut_end (Fin8 w.heap.size w2.heap.size w7 10 0 [] [] (.slice ra (exprsD L 1 p1).1.length rcap) (.slice ba (blk ((exprsD L 1 p1).2, left)).1.length bcap) (.slice none 0 0)) ⟨by (repeat refine Kept.set ?_ (.inl (by simp)) _ _); exact Kept.refl _ _, ⟨by go_simp, by go_simp, by go_simp, by go_simp, by go_simp, by go_simp, by go_simp, by go_simp⟩⟩ ?_
  intro W' hf
  obtain ⟨r0, r1, r2, r3, r4, r5, r6, r7⟩ := hf.2
  simp only [Nat.zero_add] at r0 r1 r2 r3 r4 r5 r6 r7
  refine bodyPost_ret (v := .agg #[.int .i64 10, .int .i64 0, .string ⟨List.toArray []⟩, .int .i64 0, .string ⟨List.toArray []⟩, (.slice ra (exprsD L 1 p1).1.length rcap), (.slice ba (blk ((exprsD L 1 p1).2, left)).1.length bcap), (.slice none 0 0)]) (by simp [results, Tryz.results61, go_sem, r0, r1, r2, r3, r4, r5, r6, r7]) rfl ?_
  exact st_post (as_ := (exprsD L 1 p1).1) (bs := (blk ((exprsD L 1 p1).2, left)).1) (es := []) hf (stWf' (show I64 10 from i64_sm (by decide)) (show I64 0 from i64_sm (by decide)) (Nat.zero_le _) (Nat.zero_le _) hlc hcm hbl hbm (Nat.le_refl _) z_le) (by omega) (by omega) HROW.out HB1.out trivial HS hsb HK.out
set_option maxRecDepth 20000 in
set_option maxHeartbeats 2000000 in
theorem sstmt_if (sb left : Nat) (L : List Nat) (ht : Nat) (htb : ht ≤ 100) (w : World) (p : Nat) (h : Src w sb L p left) (k p1 : Nat) (hq : nextD L 10 p = (k, p1)) (blk : Sd → List St × Sd) (hk : k = 8) (HB : Hid (∀ (q : Sd) (W : World), Src W sb L q.1 q.2 → Calls Tryz.prog 43 #[.pointer (some ⟨sb, 0, none⟩), .int .i64 ht] W (BlkPost W sb L (blk q)))) :
    Calls Tryz.prog 61 #[.pointer (some ⟨sb, 0, none⟩), .int .i64 (ht + 1 : Nat)] w (StPost w sb L (stmtD L blk (p, left))) := by
  subst hk
  have HN := hide fun (n p : Nat) (hn : 0 < n) (hn2 : n ≤ 1000) (W : World) (hW : Src W sb L p left) => next_any sb left n p L W hW hn hn2
  have HNM := hide fun (p : Nat) (W : World) (hW : Src W sb L p left) => sname_any sb left p L W hW
  have HXS := hide fun (n : Nat) (hn : n ≤ 10) (p : Nat) (W : World) (hW : Src W sb L p left) => sexprs_any sb left L n hn W p hW
  have HSRC := hide (h.al (.cells #[.int .i64 0, .int .i64 0, .string ⟨#[]⟩, .int .i64 0, .string ⟨#[]⟩, .slice none 0 0, .slice none 0 0, .slice none 0 0] 84))
  have hsb := h.lt
  have HZ0 : Hid ((w.alloc (.cells #[.int .i64 0, .int .i64 0, .string ⟨#[]⟩, .int .i64 0, .string ⟨#[]⟩, .slice none 0 0, .slice none 0 0, .slice none 0 0] 84)).heap[w.heap.size]? = some (.cells #[.int .i64 0, .int .i64 0, .string ⟨#[]⟩, .int .i64 0, .string ⟨#[]⟩, .slice none 0 0, .slice none 0 0, .slice none 0 0] 84 (0, 0))) := hide (by show (w.heap.push _)[w.heap.size]? = _; simp)
  have HK0 := hide ((Kept.refl [sb] w).al (.cells #[.int .i64 0, .int .i64 0, .string ⟨#[]⟩, .int .i64 0, .string ⟨#[]⟩, .slice none 0 0, .slice none 0 0, .slice none 0 0] 84))
  have hI : ∀ n q m : Nat, 0 < n → n ≤ 100 → m ≤ 100 → I64 ((m : Int) + ((nextD L n q).1 : Nat)) := fun n q m h0 h1 h2 => by
    have := nextD_lt L q h0
    exact i64_sm (by omega)
  have HI := hide hI
  have hns : ∀ q, (nameD L q).1.length ≤ 100 := fun q => by have := (nm5_ok _ (nameD_mem L q)).2; omega
  have HNS := hide hns
  clear h hI hns
  have e : stmtD L blk (p, left) = (.mk 9 0 [] 0 [] (exprsD L 1 p1).1 (blk ((exprsD L 1 p1).2, left)).1 (blk (blk ((exprsD L 1 p1).2, left)).2).1, (blk (blk ((exprsD L 1 p1).2, left)).2).2) := by rw [stmtD]; simp [hq]
  rw [e]
  clear e
  go_enter Tryz.func61, Tryz.ntmps61
  go_wp2_with fail
  refine (HN.out 10 p (by omega) (by omega) _ HSRC.out).mono ?_
  rintro r w2 ⟨hr, HS, hK⟩
  rw [hq] at hr HS
  subst hr
  have HZ := hide (hK.heap (by simp; omega) HZ0.out)
  have hw2 : w.heap.size < w2.heap.size := (Array.getElem?_eq_some_iff.1 HZ.out).1
  have HZ := hide ((Below.heap_alloc _ (.cells #[.int .i64 9, .int .i64 0, .string ⟨#[]⟩, .int .i64 0, .string ⟨#[]⟩, .slice none 0 0, .slice none 0 0, .slice none 0 0] 84) _ hw2).trans HZ.out)
  have HX : Hid ((w2.alloc (.cells #[.int .i64 9, .int .i64 0, .string ⟨#[]⟩, .int .i64 0, .string ⟨#[]⟩, .slice none 0 0, .slice none 0 0, .slice none 0 0] 84)).heap[w2.heap.size]? = some (.cells #[.int .i64 9, .int .i64 0, .string ⟨#[]⟩, .int .i64 0, .string ⟨#[]⟩, .slice none 0 0, .slice none 0 0, .slice none 0 0] 84 (0, 0))) := hide (by show (w2.heap.push _)[w2.heap.size]? = _; simp)
  have HS := HS.al (.cells #[.int .i64 9, .int .i64 0, .string ⟨#[]⟩, .int .i64 0, .string ⟨#[]⟩, .slice none 0 0, .slice none 0 0, .slice none 0 0] 84)
  have HK := hide ((HK0.out.tr hK).al (.cells #[.int .i64 9, .int .i64 0, .string ⟨#[]⟩, .int .i64 0, .string ⟨#[]⟩, .slice none 0 0, .slice none 0 0, .slice none 0 0] 84))
  clear hK
  have hne : ¬ w.heap.size = w2.heap.size := by omega
  have hne2 : ¬ w2.heap.size = w.heap.size := by omega
  have hlt2 := (Array.getElem?_eq_some_iff.1 HX.out).1
  go_wp2_with fail
  refine (HXS.out 1 (by omega) p1 _ HS).mono ?_
  rintro r w6 ⟨⟨v, rfl, hown⟩, HS, hK⟩
  obtain ⟨ra, rcap, rfl, hrow, hlc, hcm⟩ := hown.exs below_range
  have HROW : Hid (Ex.Row (nw (w2.heap.size + 1) w6) _ ra) := hide (hrow.has (has_nws hlt2))
  have HZ := hide (hK.heap (by simp; omega) HZ.out)
  have HX := hide (hK.heap (by simp; omega) HX.out)
  have hsz2 := hK.size
  have HK := hide (HK.out.tr hK)
  clear hK hown hrow
  have hlt2 := (Array.getElem?_eq_some_iff.1 HX.out).1
  go_wp2_with fail
  (with_reducible refine (HB.out (_, _) _ HS).mono ?_)
  rintro r w7 ⟨⟨v, rfl, hown⟩, HS, hK⟩
  obtain ⟨ba, bcap, rfl, hrow, hbl, hbm⟩ := hown.sts below_range
  have HB1 : Hid (St.Row (nw (w2.heap.size + 1) w7) _ ba) := hide (hrow.has (has_nws hlt2))
  have hsn : sb < w2.heap.size + 1 := by omega
  have HROW := hide (HROW.out.has (has_nw_one hK hsn))
  have HZ := hide (hK.heap (by simp; omega) HZ.out)
  have HX := hide (hK.heap (by simp; omega) HX.out)
  have hsz2 := hK.size
  have HK := hide (HK.out.tr hK)
  clear hK hown hrow
  have hlt2 := (Array.getElem?_eq_some_iff.1 HX.out).1
  go_wp2_with fail
  (with_reducible refine (HB.out (blk ((exprsD L 1 p1).2, left)).2 _ HS).mono ?_)
  rintro r w8 ⟨⟨v, rfl, hown⟩, HS, hK⟩
  obtain ⟨ea, ecap, rfl, hrow, hel, hem⟩ := hown.sts below_range
  have HE1 : Hid (St.Row (nw (w2.heap.size + 1) w8) _ ea) := hide (hrow.has (has_nws hlt2))
  have hsn : sb < w2.heap.size + 1 := by omega
  have HROW := hide (HROW.out.has (has_nw_one hK hsn))
  have HZ := hide (hK.heap (by simp; omega) HZ.out)
  have HX := hide (hK.heap (by simp; omega) HX.out)
  have hsz2 := hK.size
  have HK := hide (HK.out.tr hK)
  have HB1 := hide (HB1.out.has (has_nw_one hK hsn))
  clear hK hown hrow
  have q0 := cell_at (j := 0) HZ.out rfl
  have q1 := cell_at (j := 1) HZ.out rfl
  have q2 := cell_at (j := 2) HZ.out rfl
  have q3 := cell_at (j := 3) HZ.out rfl
  have q4 := cell_at (j := 4) HZ.out rfl
  have q5 := cell_at (j := 5) HZ.out rfl
  have q6 := cell_at (j := 6) HZ.out rfl
  have q7 := cell_at (j := 7) HZ.out rfl
  have x0 := cell_at (j := 0) HX.out rfl
  have x1 := cell_at (j := 1) HX.out rfl
  have x2 := cell_at (j := 2) HX.out rfl
  have x3 := cell_at (j := 3) HX.out rfl
  have x4 := cell_at (j := 4) HX.out rfl
  have x5 := cell_at (j := 5) HX.out rfl
  have x6 := cell_at (j := 6) HX.out rfl
  have x7 := cell_at (j := 7) HX.out rfl
  have z := fun j => free_at (j := j) HZ.out
  have y := fun j => free_at (j := j) HX.out
  have hzl := cell_lt q0
  have hxl := cell_lt x0
  simp only at hzl hxl
  go_wp2_with fail
  refine cut_end (Fin8 w.heap.size w2.heap.size w8 9 0 [] [] (.slice ra (exprsD L 1 p1).1.length rcap) (.slice ba (blk ((exprsD L 1 p1).2, left)).1.length bcap) (.slice ea (blk (blk ((exprsD L 1 p1).2, left)).2).1.length ecap)) ⟨by (repeat refine Kept.set ?_ (.inl (by simp)) _ _); exact Kept.refl _ _, ⟨by go_simp, by go_simp, by go_simp, by go_simp, by go_simp, by go_simp, by go_simp, by go_simp⟩⟩ ?_
  intro W' hf
  obtain ⟨r0, r1, r2, r3, r4, r5, r6, r7⟩ := hf.2
  simp only [Nat.zero_add] at r0 r1 r2 r3 r4 r5 r6 r7
  refine bodyPost_ret (v := .agg #[.int .i64 9, .int .i64 0, .string ⟨List.toArray []⟩, .int .i64 0, .string ⟨List.toArray []⟩, (.slice ra (exprsD L 1 p1).1.length rcap), (.slice ba (blk ((exprsD L 1 p1).2, left)).1.length bcap), (.slice ea (blk (blk ((exprsD L 1 p1).2, left)).2).1.length ecap)]) (by simp [results, Tryz.results61, go_sem, r0, r1, r2, r3, r4, r5, r6, r7]) rfl ?_
  exact st_post (as_ := (exprsD L 1 p1).1) (bs := (blk ((exprsD L 1 p1).2, left)).1) (es := (blk (blk ((exprsD L 1 p1).2, left)).2).1) hf (stWf' (show I64 9 from i64_sm (by decide)) (show I64 0 from i64_sm (by decide)) (Nat.zero_le _) (Nat.zero_le _) hlc hcm hbl hbm hel hem) (by omega) (by omega) HROW.out HB1.out HE1.out HS hsb HK.out
/-- What is carried through a statement that is being made: the source, the two blocks of the statement, and that nothing else has turned. -/
structure Bun (sb : Nat) (L : List Nat) (left : Nat) (w w2 : World) (K : Int) (W : World) (p : Nat) : Prop where
  src : Src W sb L p left
  r : W.heap[w.heap.size]? = some (.cells #[.int .i64 0, .int .i64 0, .string ⟨#[]⟩, .int .i64 0, .string ⟨#[]⟩, .slice none 0 0, .slice none 0 0, .slice none 0 0] 84 (0, 0))
  x : W.heap[w2.heap.size]? = some (.cells #[.int .i64 K, .int .i64 0, .string ⟨#[]⟩, .int .i64 0, .string ⟨#[]⟩, .slice none 0 0, .slice none 0 0, .slice none 0 0] 84 (0, 0))
  k : Kept [sb] w W
section
variable {sb left p : Nat} {L : List Nat} {w w2 W : World} {K : Int}
theorem Bun.st {W' : World} {p' : Nat} (h : Bun sb L left w w2 K W p) (hw : sb < w.heap.size ∧ sb < w2.heap.size) (hs : Src W' sb L p' left) (hk : Kept [sb] W W') : Bun sb L left w w2 K W' p' :=
  ⟨hs, hk.heap (by simp; omega) h.r, hk.heap (by simp; omega) h.x, h.k.tr hk⟩
theorem Bun.be {W' : World} (h : Bun sb L left w w2 K W p) (hb : Below W.heap.size W W') : Bun sb L left w w2 K W' p :=
  ⟨h.src.below hb, (hb.block _ (Array.getElem?_eq_some_iff.1 h.r).1).trans h.r, (hb.block _ (Array.getElem?_eq_some_iff.1 h.x).1).trans h.x, h.k.st hb⟩
theorem Bun.al (h : Bun sb L left w w2 K W p) (o : Obj) : Bun sb L left w w2 K (W.alloc o) p := h.be ((bl W).al o)
theorem Bun.dr (h : Bun sb L left w w2 K W p) : Bun sb L left w w2 K W.drew p := h.be (bl W).dr
theorem next_bun (h : Bun sb L left w w2 K W p) (hw : sb < w.heap.size ∧ sb < w2.heap.size) (n : Nat) (hn : 0 < n) (hn2 : n ≤ 1000) :
    Calls Tryz.prog 26 #[.pointer (some ⟨sb, 0, none⟩), .int .i64 n] W fun r w' => r = .returned (.int .i64 (nextD L n p).1) ∧ Bun sb L left w w2 K w' (nextD L n p).2 ∧ Kept [sb] W w' :=
  (next_any sb left n p L W h.src hn hn2).mono fun _ _ ⟨h1, h2, h3⟩ => ⟨h1, h.st hw h2 h3, h3⟩
theorem exprs_bun (h : Bun sb L left w w2 K W p) (hw : sb < w.heap.size ∧ sb < w2.heap.size) (n : Nat) (hn : n ≤ 10) :
    Calls Tryz.prog 81 #[.pointer (some ⟨sb, 0, none⟩), .int .i64 n] W fun r w' => Hid (∃ a cap, r = .returned (.slice a (exprsD L n p).1.length cap) ∧ Ex.Row (nw (w2.heap.size + 1) w') (exprsD L n p).1 a ∧ (exprsD L n p).1.length ≤ cap ∧ cap ≤ maxLen) ∧ Bun sb L left w w2 K w' (exprsD L n p).2 ∧ Kept [sb] W w' :=
  (sexprs_any sb left L n hn W p h.src).mono fun _ _ ⟨⟨v, h1, hown⟩, h2, h3⟩ => by
    obtain ⟨ra, rcap, rfl, hrow, hlc, hcm⟩ := hown.exs below_range
    exact ⟨⟨ra, rcap, h1, hrow.has (has_nws (Array.getElem?_eq_some_iff.1 h.x).1), hlc, hcm⟩, h.st hw h2 h3, h3⟩
end
/-- The same, where the callee and the arguments are there. -/
structure Bun2 (sb : Nat) (L : List Nat) (left : Nat) (w w2 : World) (c : Bytes) (es : List Ex) (ra : Option Addr) (cap : Nat) (W : World) (p : Nat) : Prop where
  src : Src W sb L p left
  r : W.heap[w.heap.size]? = some (.cells #[.int .i64 0, .int .i64 0, .string ⟨#[]⟩, .int .i64 0, .string ⟨#[]⟩, .slice none 0 0, .slice none 0 0, .slice none 0 0] 84 (0, 0))
  x : W.heap[w2.heap.size]? = some (.cells #[.int .i64 7, .int .i64 0, .string ⟨#[]⟩, .int .i64 0, .string ⟨c.toArray⟩, .slice ra es.length cap, .slice none 0 0, .slice none 0 0] 84 (0, 0))
  k : Kept [sb] w W
  row : Ex.Row (nw (w2.heap.size + 1) W) es ra
section
variable {sb left p : Nat} {L : List Nat} {w w2 W : World} {c : Bytes} {es : List Ex} {ra : Option Addr} {cap : Nat}
theorem Bun.fill (h : Bun sb L left w w2 7 W p) (hsw : sb < w.heap.size ∧ sb < w2.heap.size) (hw : w.heap.size < w2.heap.size) (c : Bytes) (cap : Nat) (hr : Ex.Row (nw (w2.heap.size + 1) W) es ra) :
    Bun2 sb L left w w2 c es ra cap ((W.setCell ⟨w2.heap.size, 4, none⟩ (.string ⟨c.toArray⟩)).setCell ⟨w2.heap.size, 5, none⟩ (.slice ra es.length cap)) p :=
  ⟨(h.src.setNew hsw.2 _ _).setNew hsw.2 _ _, ((Below.heap_setCell _ _ _ _ (by simp only; omega)).trans (Below.heap_setCell _ _ _ _ (by simp only; omega))).trans h.r, by
    simp only [World.setCell, Array.getElem?_modify, if_true, h.x, Option.map_some]
    simp, (h.k.set (.inr (by omega)) _ _).set (.inr (by omega)) _ _, hr.has (has_nw_one (((Kept.refl _ W).set (.inl (by simp)) _ _).set (.inl (by simp)) _ _) (Nat.lt_succ_self _))⟩
theorem Bun2.st {W' : World} {p' : Nat} (h : Bun2 sb L left w w2 c es ra cap W p) (hw : sb < w.heap.size ∧ sb < w2.heap.size) (hs : Src W' sb L p' left) (hk : Kept [sb] W W') : Bun2 sb L left w w2 c es ra cap W' p' :=
  ⟨hs, hk.heap (by simp; omega) h.r, hk.heap (by simp; omega) h.x, h.k.tr hk, h.row.has (has_nw_one hk (by omega))⟩
theorem Bun2.al (h : Bun2 sb L left w w2 c es ra cap W p) (o : Obj) : Bun2 sb L left w w2 c es ra cap (W.alloc o) p :=
  ⟨h.src.al o, (Below.heap_alloc _ _ _ (Array.getElem?_eq_some_iff.1 h.r).1).trans h.r, (Below.heap_alloc _ _ _ (Array.getElem?_eq_some_iff.1 h.x).1).trans h.x, h.k.al o, h.row.has (has_nw_below ((bl W).al o))⟩
end
theorem nsb {sb n : Nat} (h : sb < n) : n ∉ [sb] := by simp; omega
theorem three_le : 3 ≤ 1000 := by omega
theorem fn3_str (k : Nat) (hk : k < 3) : (fn3.map fun s => Value.string ⟨s.toArray⟩)[k]? = some (.string ⟨(fn3[k]!).toArray⟩) := by rw [List.getElem?_map, List.getElem?_eq_getElem (show k < fn3.length from hk), getElem!_pos fn3 k hk]; rfl
theorem fn3_len {k : Nat} (h : k < 3) : (fn3[k]!).length ≤ 100 := by
  rw [getElem!_pos fn3 k h]
  have := (fn3_ok _ (List.getElem_mem (show k < fn3.length from h))).2
  omega
set_option maxRecDepth 20000 in
set_option maxHeartbeats 40000000 in
theorem sstmt_call00 (sb left : Nat) (L : List Nat) (ht : Nat) (htb : ht ≤ 100) (w : World) (p : Nat) (h : Src w sb L p left) (k p1 : Nat) (hq : nextD L 10 p = (k, p1)) (blk : Sd → List St × Sd) (hk : k = 6) (c p2 : Nat) (hq3 : nextD L 3 p1 = (c, p2)) (hc : c = 0) (b p5 : Nat) (hq5 : nextD L 2 (exprsD L (nextD L 3 p2).1 (nextD L 3 p2).2).2 = (b, p5)) (hb : b = 0) :
    Calls Tryz.prog 61 #[.pointer (some ⟨sb, 0, none⟩), .int .i64 (ht + 1 : Nat)] w (StPost w sb L (stmtD L blk (p, left))) := by
  subst hk
  subst hc
  subst hb
  have HN := hide fun (n p : Nat) (hn : 0 < n) (hn2 : n ≤ 1000) (W : World) (hW : Src W sb L p left) => next_any sb left n p L W hW hn hn2
  have HNM := hide fun (p : Nat) (W : World) (hW : Src W sb L p left) => sname_any sb left p L W hW
  have HXS := hide fun (n : Nat) (hn : n ≤ 10) (p : Nat) (W : World) (hW : Src W sb L p left) => sexprs_any sb left L n hn W p hW
  have HSRC := hide (h.al (.cells #[.int .i64 0, .int .i64 0, .string ⟨#[]⟩, .int .i64 0, .string ⟨#[]⟩, .slice none 0 0, .slice none 0 0, .slice none 0 0] 84))
  have hsb := h.lt
  have HZ0 : Hid ((w.alloc (.cells #[.int .i64 0, .int .i64 0, .string ⟨#[]⟩, .int .i64 0, .string ⟨#[]⟩, .slice none 0 0, .slice none 0 0, .slice none 0 0] 84)).heap[w.heap.size]? = some (.cells #[.int .i64 0, .int .i64 0, .string ⟨#[]⟩, .int .i64 0, .string ⟨#[]⟩, .slice none 0 0, .slice none 0 0, .slice none 0 0] 84 (0, 0))) := hide (by show (w.heap.push _)[w.heap.size]? = _; simp)
  have HK0 := hide ((Kept.refl [sb] w).al (.cells #[.int .i64 0, .int .i64 0, .string ⟨#[]⟩, .int .i64 0, .string ⟨#[]⟩, .slice none 0 0, .slice none 0 0, .slice none 0 0] 84))
  have hI : ∀ n q m : Nat, 0 < n → n ≤ 100 → m ≤ 100 → I64 ((m : Int) + ((nextD L n q).1 : Nat)) := fun n q m h0 h1 h2 => by
    have := nextD_lt L q h0
    exact i64_sm (by omega)
  have HI := hide hI
  have hns : ∀ q, (nameD L q).1.length ≤ 100 := fun q => by have := (nm5_ok _ (nameD_mem L q)).2; omega
  have HNS := hide hns
  clear h hI hns
  have e : stmtD L blk (p, left) = (.mk 7 0 [] 0 [109, 97, 105, 110] (exprsD L (nextD L 3 p2).1 (nextD L 3 p2).2).1 [] [], p5, left) := by
    rw [stmtD]
    simp [hq, hq3, hq5, fn3]
  rw [e]
  clear e
  have hn3 := nextD_lt L (n := 3) p2 (by omega)
  have hn10 : (nextD L 3 p2).1 ≤ 10 := by omega
  go_enter Tryz.func61, Tryz.ntmps61
  go_wp2_with fail
  refine (HN.out 10 p (by omega) (by omega) _ HSRC.out).mono ?_
  rintro r w2 ⟨hr, HS, hK⟩
  rw [hq] at hr HS
  subst hr
  have HZ := hide (hK.heap (by simp; omega) HZ0.out)
  have hw2 : w.heap.size < w2.heap.size := (Array.getElem?_eq_some_iff.1 HZ.out).1
  have HZ := hide ((Below.heap_alloc _ (.cells #[.int .i64 7, .int .i64 0, .string ⟨#[]⟩, .int .i64 0, .string ⟨#[]⟩, .slice none 0 0, .slice none 0 0, .slice none 0 0] 84) _ hw2).trans HZ.out)
  have HX : Hid ((w2.alloc (.cells #[.int .i64 7, .int .i64 0, .string ⟨#[]⟩, .int .i64 0, .string ⟨#[]⟩, .slice none 0 0, .slice none 0 0, .slice none 0 0] 84)).heap[w2.heap.size]? = some (.cells #[.int .i64 7, .int .i64 0, .string ⟨#[]⟩, .int .i64 0, .string ⟨#[]⟩, .slice none 0 0, .slice none 0 0, .slice none 0 0] 84 (0, 0))) := hide (by show (w2.heap.push _)[w2.heap.size]? = _; simp)
  have HS := HS.al (.cells #[.int .i64 7, .int .i64 0, .string ⟨#[]⟩, .int .i64 0, .string ⟨#[]⟩, .slice none 0 0, .slice none 0 0, .slice none 0 0] 84)
  have HK := hide ((HK0.out.tr hK).al (.cells #[.int .i64 7, .int .i64 0, .string ⟨#[]⟩, .int .i64 0, .string ⟨#[]⟩, .slice none 0 0, .slice none 0 0, .slice none 0 0] 84))
  clear hK
  have hne : ¬ w.heap.size = w2.heap.size := by omega
  have hne2 : ¬ w2.heap.size = w.heap.size := by omega
  go_wp2_with fail
  have HB : Bun sb L left w w2 7 _ p1 := ⟨HS, HZ.out, HX.out, HK.out⟩
  have hsw : sb < w.heap.size ∧ sb < w2.heap.size := ⟨hsb, by omega⟩
  clear HZ HX HS HK
  have hcell : (((w2.alloc (.cells #[.int .i64 7, .int .i64 0, .string ⟨#[]⟩, .int .i64 0, .string ⟨#[]⟩, .slice none 0 0, .slice none 0 0, .slice none 0 0] 84)).alloc (.cells #[.string ⟨#[109, 97, 105, 110]⟩, .string ⟨#[102]⟩, .string ⟨#[103]⟩] 9)).drew).cell? ⟨w2.heap.size + 1, 0, none⟩ = some (.string ⟨#[109, 97, 105, 110]⟩) := by
    have := cell_of_list (w2.alloc (.cells #[.int .i64 7, .int .i64 0, .string ⟨#[]⟩, .int .i64 0, .string ⟨#[]⟩, .slice none 0 0, .slice none 0 0, .slice none 0 0] 84)) [.string ⟨#[109, 97, 105, 110]⟩, .string ⟨#[102]⟩, .string ⟨#[103]⟩] 9 0 (.string ⟨#[109, 97, 105, 110]⟩) rfl
    simp
  have HC := hide hcell
  have hnsb : w2.heap.size + 1 ∉ [sb] := by simp; omega
  have hcn : ∀ W w' : World, sb < W.heap.size → Kept [sb] (W.alloc (.cells #[.string ⟨#[109, 97, 105, 110]⟩, .string ⟨#[102]⟩, .string ⟨#[103]⟩] 9)) w' → w'.cell? ⟨W.heap.size, 0, none⟩ = some (.string ⟨#[109, 97, 105, 110]⟩) := fun W w' h hK => hK.cell (nsb h) (cell_of_list W [.string ⟨#[109, 97, 105, 110]⟩, .string ⟨#[102]⟩, .string ⟨#[103]⟩] 9 0 (.string ⟨#[109, 97, 105, 110]⟩) rfl)
  have HCN := hide hcn
  have hnx : ∀ W, Bun sb L left w w2 7 W p1 → Calls Tryz.prog 26 #[.pointer (some ⟨sb, 0, none⟩), .int .i64 3] W fun r w' => r = .returned (.int .i64 0) ∧ Bun sb L left w w2 7 w' p2 ∧ Kept [sb] W w' := fun W hW => by
    have := next_bun hW hsw 3 (Nat.succ_pos _) three_le
    rw [hq3] at this
    exact this
  have HNX := hide hnx
  have hny : ∀ W, Src W sb L (exprsD L (nextD L 3 p2).1 (nextD L 3 p2).2).2 left → Calls Tryz.prog 26 #[.pointer (some ⟨sb, 0, none⟩), .int .i64 2] W fun r w' => r = .returned (.int .i64 0) ∧ Src w' sb L p5 left ∧ Kept [sb] W w' := fun W hW => by
    have := next_any sb left 2 _ L W hW (Nat.succ_pos _) (by omega)
    rw [hq5] at this
    exact this
  have HNY := hide hny
  clear hcell hcn hnx hny hq hq3 hq5
  go_region_law
    (first | (go_simp; go_at_call 26; refine (HNX.out _ ?_).mono ?_; (· (first | exact HB | exact HB.al _ | exact (HB.al _).dr | exact HB.dr | exact (HB.dr).al _)); rintro r w3 ⟨rfl, HB, hK⟩; (try have hc := hK.cell hnsb HC.out); clear hK)
           | (go_simp; go_at_call 26; refine (next_bun (L := L) (left := left) (w := w) (w2 := w2) (K := 7) (p := p2) ?_ hsw 3 (Nat.succ_pos _) three_le).mono ?_; (· (first | exact HB | exact HB.al _ | exact (HB.al _).dr | exact HB.dr | exact (HB.dr).al _)); have hsl := HB.src.lt; rintro r w4 ⟨rfl, HB, hK⟩; (try have hc := hK.cell hnsb hc); (try have hd := HCN.out _ _ hsl hK); clear hK)
           | (go_simp; go_at_call 81; refine (exprs_bun (L := L) (left := left) (w := w) (w2 := w2) (K := 7) (p := (nextD L 3 p2).2) ?_ hsw (nextD L 3 p2).1 hn10).mono ?_; (· (first | exact HB | exact HB.al _ | exact (HB.al _).dr | exact HB.dr | exact (HB.dr).al _)); have hsl2 := HB.src.lt; rintro r w5 ⟨⟨ra, rcap, rfl, hrow, hlc, hcm⟩, HB, hK⟩; (try have hc := hK.cell hnsb hc); (try have hd := hK.cell (nsb hsl) hd); (try have he := HCN.out _ _ hsl2 hK); clear hK; have HROW := hide hrow; have x4 := cell_at (j := 4) HB.x rfl; have x5 := cell_at (j := 5) HB.x rfl; have y4 := free_at (j := 4) HB.x; have y5 := free_at (j := 5) HB.x; have hxl := (Array.getElem?_eq_some_iff.1 HB.x).1; clear hrow))
  all_goals
    clear x4 x5 y4 y5
    have HB2 := HB.fill hsw hw2 [109, 97, 105, 110] rcap HROW.out
    first
      | (go_wp2_with fail; (with_reducible refine (HNY.out _ HB2.src).mono ?_))
      | (go_wp2_with fail; (with_reducible refine (HNY.out _ (HB2.al _).src).mono ?_); have HB2 := HB2.al (.cells #[.string ⟨#[109, 97, 105, 110]⟩, .string ⟨#[102]⟩, .string ⟨#[103]⟩] 9))
    rintro r w6 ⟨rfl, HS, hK⟩
    have HB := HB2.st hsw HS hK
    have HZ := hide HB.r
    have HX := hide HB.x
    have HROW := hide HB.row
    have HK := hide HB.k
    clear HB HB2 hK
    have hlt2 := (Array.getElem?_eq_some_iff.1 HX.out).1
    have q0 := cell_at (j := 0) HZ.out rfl
    have q1 := cell_at (j := 1) HZ.out rfl
    have q2 := cell_at (j := 2) HZ.out rfl
    have q3 := cell_at (j := 3) HZ.out rfl
    have q4 := cell_at (j := 4) HZ.out rfl
    have q5 := cell_at (j := 5) HZ.out rfl
    have q6 := cell_at (j := 6) HZ.out rfl
    have q7 := cell_at (j := 7) HZ.out rfl
    have x0 := cell_at (j := 0) HX.out rfl
    have x1 := cell_at (j := 1) HX.out rfl
    have x2 := cell_at (j := 2) HX.out rfl
    have x3 := cell_at (j := 3) HX.out rfl
    have x4 := cell_at (j := 4) HX.out rfl
    have x5 := cell_at (j := 5) HX.out rfl
    have x6 := cell_at (j := 6) HX.out rfl
    have x7 := cell_at (j := 7) HX.out rfl
    have z := fun j => free_at (j := j) HZ.out
    have y := fun j => free_at (j := j) HX.out
    have hzl := cell_lt q0
    have hxl := cell_lt x0
    simp only at hzl hxl
    go_wp2_with fail
    refine cut_end (Fin8 w.heap.size w2.heap.size w6 7 0 [] [109, 97, 105, 110] (.slice ra (exprsD L (nextD L 3 p2).1 (nextD L 3 p2).2).1.length rcap) (.slice none 0 0) (.slice none 0 0)) ⟨by (repeat refine Kept.set ?_ (.inl (by simp)) _ _); exact Kept.refl _ _, ⟨by go_simp, by go_simp, by go_simp, by go_simp, by go_simp, by go_simp, by go_simp, by go_simp⟩⟩ ?_
    intro W' hf
    obtain ⟨r0, r1, r2, r3, r4, r5, r6, r7⟩ := hf.2
    simp only [Nat.zero_add] at r0 r1 r2 r3 r4 r5 r6 r7
    refine bodyPost_ret (v := .agg #[.int .i64 7, .int .i64 0, .string ⟨List.toArray []⟩, .int .i64 0, .string ⟨List.toArray [109, 97, 105, 110]⟩, (.slice ra (exprsD L (nextD L 3 p2).1 (nextD L 3 p2).2).1.length rcap), (.slice none 0 0), (.slice none 0 0)]) (by simp [results, Tryz.results61, go_sem, r0, r1, r2, r3, r4, r5, r6, r7]) rfl ?_
    exact st_post (as_ := (exprsD L (nextD L 3 p2).1 (nextD L 3 p2).2).1) (bs := []) (es := []) hf (stWf' (show I64 7 from i64_sm (by decide)) (show I64 0 from i64_sm (by decide)) (Nat.zero_le _) (by decide) hlc hcm (Nat.le_refl _) z_le (Nat.le_refl _) z_le) (by omega) (by omega) HROW.out trivial trivial HS hsb HK.out
set_option maxRecDepth 20000 in
set_option maxHeartbeats 40000000 in
theorem sstmt_call01 (sb left : Nat) (L : List Nat) (ht : Nat) (htb : ht ≤ 100) (w : World) (p : Nat) (h : Src w sb L p left) (k p1 : Nat) (hq : nextD L 10 p = (k, p1)) (blk : Sd → List St × Sd) (hk : k = 6) (c p2 : Nat) (hq3 : nextD L 3 p1 = (c, p2)) (hc : c = 0) (b p5 : Nat) (hq5 : nextD L 2 (exprsD L (nextD L 3 p2).1 (nextD L 3 p2).2).2 = (b, p5)) (hb : b = 1) :
    Calls Tryz.prog 61 #[.pointer (some ⟨sb, 0, none⟩), .int .i64 (ht + 1 : Nat)] w (StPost w sb L (stmtD L blk (p, left))) := by
  subst hk
  subst hc
  subst hb
  have HN := hide fun (n p : Nat) (hn : 0 < n) (hn2 : n ≤ 1000) (W : World) (hW : Src W sb L p left) => next_any sb left n p L W hW hn hn2
  have HNM := hide fun (p : Nat) (W : World) (hW : Src W sb L p left) => sname_any sb left p L W hW
  have HXS := hide fun (n : Nat) (hn : n ≤ 10) (p : Nat) (W : World) (hW : Src W sb L p left) => sexprs_any sb left L n hn W p hW
  have HSRC := hide (h.al (.cells #[.int .i64 0, .int .i64 0, .string ⟨#[]⟩, .int .i64 0, .string ⟨#[]⟩, .slice none 0 0, .slice none 0 0, .slice none 0 0] 84))
  have hsb := h.lt
  have HZ0 : Hid ((w.alloc (.cells #[.int .i64 0, .int .i64 0, .string ⟨#[]⟩, .int .i64 0, .string ⟨#[]⟩, .slice none 0 0, .slice none 0 0, .slice none 0 0] 84)).heap[w.heap.size]? = some (.cells #[.int .i64 0, .int .i64 0, .string ⟨#[]⟩, .int .i64 0, .string ⟨#[]⟩, .slice none 0 0, .slice none 0 0, .slice none 0 0] 84 (0, 0))) := hide (by show (w.heap.push _)[w.heap.size]? = _; simp)
  have HK0 := hide ((Kept.refl [sb] w).al (.cells #[.int .i64 0, .int .i64 0, .string ⟨#[]⟩, .int .i64 0, .string ⟨#[]⟩, .slice none 0 0, .slice none 0 0, .slice none 0 0] 84))
  have hI : ∀ n q m : Nat, 0 < n → n ≤ 100 → m ≤ 100 → I64 ((m : Int) + ((nextD L n q).1 : Nat)) := fun n q m h0 h1 h2 => by
    have := nextD_lt L q h0
    exact i64_sm (by omega)
  have HI := hide hI
  have hns : ∀ q, (nameD L q).1.length ≤ 100 := fun q => by have := (nm5_ok _ (nameD_mem L q)).2; omega
  have HNS := hide hns
  clear h hI hns
  have e : stmtD L blk (p, left) = (.mk 7 0 (nameD L p5).1 0 [109, 97, 105, 110] (exprsD L (nextD L 3 p2).1 (nextD L 3 p2).2).1 [] [], (nameD L p5).2, left) := by
    rw [stmtD]
    simp [hq, hq3, hq5, fn3]
  rw [e]
  clear e
  have hn3 := nextD_lt L (n := 3) p2 (by omega)
  have hn10 : (nextD L 3 p2).1 ≤ 10 := by omega
  go_enter Tryz.func61, Tryz.ntmps61
  go_wp2_with fail
  refine (HN.out 10 p (by omega) (by omega) _ HSRC.out).mono ?_
  rintro r w2 ⟨hr, HS, hK⟩
  rw [hq] at hr HS
  subst hr
  have HZ := hide (hK.heap (by simp; omega) HZ0.out)
  have hw2 : w.heap.size < w2.heap.size := (Array.getElem?_eq_some_iff.1 HZ.out).1
  have HZ := hide ((Below.heap_alloc _ (.cells #[.int .i64 7, .int .i64 0, .string ⟨#[]⟩, .int .i64 0, .string ⟨#[]⟩, .slice none 0 0, .slice none 0 0, .slice none 0 0] 84) _ hw2).trans HZ.out)
  have HX : Hid ((w2.alloc (.cells #[.int .i64 7, .int .i64 0, .string ⟨#[]⟩, .int .i64 0, .string ⟨#[]⟩, .slice none 0 0, .slice none 0 0, .slice none 0 0] 84)).heap[w2.heap.size]? = some (.cells #[.int .i64 7, .int .i64 0, .string ⟨#[]⟩, .int .i64 0, .string ⟨#[]⟩, .slice none 0 0, .slice none 0 0, .slice none 0 0] 84 (0, 0))) := hide (by show (w2.heap.push _)[w2.heap.size]? = _; simp)
  have HS := HS.al (.cells #[.int .i64 7, .int .i64 0, .string ⟨#[]⟩, .int .i64 0, .string ⟨#[]⟩, .slice none 0 0, .slice none 0 0, .slice none 0 0] 84)
  have HK := hide ((HK0.out.tr hK).al (.cells #[.int .i64 7, .int .i64 0, .string ⟨#[]⟩, .int .i64 0, .string ⟨#[]⟩, .slice none 0 0, .slice none 0 0, .slice none 0 0] 84))
  clear hK
  have hne : ¬ w.heap.size = w2.heap.size := by omega
  have hne2 : ¬ w2.heap.size = w.heap.size := by omega
  go_wp2_with fail
  have HB : Bun sb L left w w2 7 _ p1 := ⟨HS, HZ.out, HX.out, HK.out⟩
  have hsw : sb < w.heap.size ∧ sb < w2.heap.size := ⟨hsb, by omega⟩
  clear HZ HX HS HK
  have hcell : (((w2.alloc (.cells #[.int .i64 7, .int .i64 0, .string ⟨#[]⟩, .int .i64 0, .string ⟨#[]⟩, .slice none 0 0, .slice none 0 0, .slice none 0 0] 84)).alloc (.cells #[.string ⟨#[109, 97, 105, 110]⟩, .string ⟨#[102]⟩, .string ⟨#[103]⟩] 9)).drew).cell? ⟨w2.heap.size + 1, 0, none⟩ = some (.string ⟨#[109, 97, 105, 110]⟩) := by
    have := cell_of_list (w2.alloc (.cells #[.int .i64 7, .int .i64 0, .string ⟨#[]⟩, .int .i64 0, .string ⟨#[]⟩, .slice none 0 0, .slice none 0 0, .slice none 0 0] 84)) [.string ⟨#[109, 97, 105, 110]⟩, .string ⟨#[102]⟩, .string ⟨#[103]⟩] 9 0 (.string ⟨#[109, 97, 105, 110]⟩) rfl
    simp
  have HC := hide hcell
  have hnsb : w2.heap.size + 1 ∉ [sb] := by simp; omega
  have hcn : ∀ W w' : World, sb < W.heap.size → Kept [sb] (W.alloc (.cells #[.string ⟨#[109, 97, 105, 110]⟩, .string ⟨#[102]⟩, .string ⟨#[103]⟩] 9)) w' → w'.cell? ⟨W.heap.size, 0, none⟩ = some (.string ⟨#[109, 97, 105, 110]⟩) := fun W w' h hK => hK.cell (nsb h) (cell_of_list W [.string ⟨#[109, 97, 105, 110]⟩, .string ⟨#[102]⟩, .string ⟨#[103]⟩] 9 0 (.string ⟨#[109, 97, 105, 110]⟩) rfl)
  have HCN := hide hcn
  have hnx : ∀ W, Bun sb L left w w2 7 W p1 → Calls Tryz.prog 26 #[.pointer (some ⟨sb, 0, none⟩), .int .i64 3] W fun r w' => r = .returned (.int .i64 0) ∧ Bun sb L left w w2 7 w' p2 ∧ Kept [sb] W w' := fun W hW => by
    have := next_bun hW hsw 3 (Nat.succ_pos _) three_le
    rw [hq3] at this
    exact this
  have HNX := hide hnx
  have hny : ∀ W, Src W sb L (exprsD L (nextD L 3 p2).1 (nextD L 3 p2).2).2 left → Calls Tryz.prog 26 #[.pointer (some ⟨sb, 0, none⟩), .int .i64 2] W fun r w' => r = .returned (.int .i64 1) ∧ Src w' sb L p5 left ∧ Kept [sb] W w' := fun W hW => by
    have := next_any sb left 2 _ L W hW (Nat.succ_pos _) (by omega)
    rw [hq5] at this
    exact this
  have HNY := hide hny
  clear hcell hcn hnx hny hq hq3 hq5
  go_region_law
    (first | (go_simp; go_at_call 26; refine (HNX.out _ ?_).mono ?_; (· (first | exact HB | exact HB.al _ | exact (HB.al _).dr | exact HB.dr | exact (HB.dr).al _)); rintro r w3 ⟨rfl, HB, hK⟩; (try have hc := hK.cell hnsb HC.out); clear hK)
           | (go_simp; go_at_call 26; refine (next_bun (L := L) (left := left) (w := w) (w2 := w2) (K := 7) (p := p2) ?_ hsw 3 (Nat.succ_pos _) three_le).mono ?_; (· (first | exact HB | exact HB.al _ | exact (HB.al _).dr | exact HB.dr | exact (HB.dr).al _)); have hsl := HB.src.lt; rintro r w4 ⟨rfl, HB, hK⟩; (try have hc := hK.cell hnsb hc); (try have hd := HCN.out _ _ hsl hK); clear hK)
           | (go_simp; go_at_call 81; refine (exprs_bun (L := L) (left := left) (w := w) (w2 := w2) (K := 7) (p := (nextD L 3 p2).2) ?_ hsw (nextD L 3 p2).1 hn10).mono ?_; (· (first | exact HB | exact HB.al _ | exact (HB.al _).dr | exact HB.dr | exact (HB.dr).al _)); have hsl2 := HB.src.lt; rintro r w5 ⟨⟨ra, rcap, rfl, hrow, hlc, hcm⟩, HB, hK⟩; (try have hc := hK.cell hnsb hc); (try have hd := hK.cell (nsb hsl) hd); (try have he := HCN.out _ _ hsl2 hK); clear hK; have HROW := hide hrow; have x4 := cell_at (j := 4) HB.x rfl; have x5 := cell_at (j := 5) HB.x rfl; have y4 := free_at (j := 4) HB.x; have y5 := free_at (j := 5) HB.x; have hxl := (Array.getElem?_eq_some_iff.1 HB.x).1; clear hrow))
  all_goals
    clear x4 x5 y4 y5
    have HB2 := HB.fill hsw hw2 [109, 97, 105, 110] rcap HROW.out
    first
      | (go_wp2_with fail; (with_reducible refine (HNY.out _ HB2.src).mono ?_))
      | (go_wp2_with fail; (with_reducible refine (HNY.out _ (HB2.al _).src).mono ?_); have HB2 := HB2.al (.cells #[.string ⟨#[109, 97, 105, 110]⟩, .string ⟨#[102]⟩, .string ⟨#[103]⟩] 9))
    rintro r w6 ⟨rfl, HS, hK⟩
    have HB := HB2.st hsw HS hK
    go_wp2_with fail
    (with_reducible refine (HNM.out p5 _ HS).mono ?_)
    rintro r w7 ⟨rfl, HS, hK7⟩
    have HB := HB.st hsw HS hK7
    have HZ := hide HB.r
    have HX := hide HB.x
    have HROW := hide HB.row
    have HK := hide HB.k
    clear HB HB2 hK hK7
    have hlt2 := (Array.getElem?_eq_some_iff.1 HX.out).1
    have q0 := cell_at (j := 0) HZ.out rfl
    have q1 := cell_at (j := 1) HZ.out rfl
    have q2 := cell_at (j := 2) HZ.out rfl
    have q3 := cell_at (j := 3) HZ.out rfl
    have q4 := cell_at (j := 4) HZ.out rfl
    have q5 := cell_at (j := 5) HZ.out rfl
    have q6 := cell_at (j := 6) HZ.out rfl
    have q7 := cell_at (j := 7) HZ.out rfl
    have x0 := cell_at (j := 0) HX.out rfl
    have x1 := cell_at (j := 1) HX.out rfl
    have x2 := cell_at (j := 2) HX.out rfl
    have x3 := cell_at (j := 3) HX.out rfl
    have x4 := cell_at (j := 4) HX.out rfl
    have x5 := cell_at (j := 5) HX.out rfl
    have x6 := cell_at (j := 6) HX.out rfl
    have x7 := cell_at (j := 7) HX.out rfl
    have z := fun j => free_at (j := j) HZ.out
    have y := fun j => free_at (j := j) HX.out
    have hzl := cell_lt q0
    have hxl := cell_lt x0
    simp only at hzl hxl
    go_wp2_with fail
    refine cut_end (Fin8 w.heap.size w2.heap.size w7 7 0 (nameD L p5).1 [109, 97, 105, 110] (.slice ra (exprsD L (nextD L 3 p2).1 (nextD L 3 p2).2).1.length rcap) (.slice none 0 0) (.slice none 0 0)) ⟨by (repeat refine Kept.set ?_ (.inl (by simp)) _ _); exact Kept.refl _ _, ⟨by go_simp, by go_simp, by go_simp, by go_simp, by go_simp, by go_simp, by go_simp, by go_simp⟩⟩ ?_
    intro W' hf
    obtain ⟨r0, r1, r2, r3, r4, r5, r6, r7⟩ := hf.2
    simp only [Nat.zero_add] at r0 r1 r2 r3 r4 r5 r6 r7
    refine bodyPost_ret (v := .agg #[.int .i64 7, .int .i64 0, .string ⟨List.toArray (nameD L p5).1⟩, .int .i64 0, .string ⟨List.toArray [109, 97, 105, 110]⟩, (.slice ra (exprsD L (nextD L 3 p2).1 (nextD L 3 p2).2).1.length rcap), (.slice none 0 0), (.slice none 0 0)]) (by simp [results, Tryz.results61, go_sem, r0, r1, r2, r3, r4, r5, r6, r7]) rfl ?_
    exact st_post (as_ := (exprsD L (nextD L 3 p2).1 (nextD L 3 p2).2).1) (bs := []) (es := []) hf (stWf' (show I64 7 from i64_sm (by decide)) (show I64 0 from i64_sm (by decide)) (HNS.out _) (by decide) hlc hcm (Nat.le_refl _) z_le (Nat.le_refl _) z_le) (by omega) (by omega) HROW.out trivial trivial HS hsb HK.out
set_option maxRecDepth 20000 in
set_option maxHeartbeats 40000000 in
theorem sstmt_call10 (sb left : Nat) (L : List Nat) (ht : Nat) (htb : ht ≤ 100) (w : World) (p : Nat) (h : Src w sb L p left) (k p1 : Nat) (hq : nextD L 10 p = (k, p1)) (blk : Sd → List St × Sd) (hk : k = 6) (c p2 : Nat) (hq3 : nextD L 3 p1 = (c, p2)) (hc : c = 1) (b p5 : Nat) (hq5 : nextD L 2 (exprsD L (nextD L 3 p2).1 (nextD L 3 p2).2).2 = (b, p5)) (hb : b = 0) :
    Calls Tryz.prog 61 #[.pointer (some ⟨sb, 0, none⟩), .int .i64 (ht + 1 : Nat)] w (StPost w sb L (stmtD L blk (p, left))) := by
  subst hk
  subst hc
  subst hb
  have HN := hide fun (n p : Nat) (hn : 0 < n) (hn2 : n ≤ 1000) (W : World) (hW : Src W sb L p left) => next_any sb left n p L W hW hn hn2
  have HNM := hide fun (p : Nat) (W : World) (hW : Src W sb L p left) => sname_any sb left p L W hW
  have HXS := hide fun (n : Nat) (hn : n ≤ 10) (p : Nat) (W : World) (hW : Src W sb L p left) => sexprs_any sb left L n hn W p hW
  have HSRC := hide (h.al (.cells #[.int .i64 0, .int .i64 0, .string ⟨#[]⟩, .int .i64 0, .string ⟨#[]⟩, .slice none 0 0, .slice none 0 0, .slice none 0 0] 84))
  have hsb := h.lt
  have HZ0 : Hid ((w.alloc (.cells #[.int .i64 0, .int .i64 0, .string ⟨#[]⟩, .int .i64 0, .string ⟨#[]⟩, .slice none 0 0, .slice none 0 0, .slice none 0 0] 84)).heap[w.heap.size]? = some (.cells #[.int .i64 0, .int .i64 0, .string ⟨#[]⟩, .int .i64 0, .string ⟨#[]⟩, .slice none 0 0, .slice none 0 0, .slice none 0 0] 84 (0, 0))) := hide (by show (w.heap.push _)[w.heap.size]? = _; simp)
  have HK0 := hide ((Kept.refl [sb] w).al (.cells #[.int .i64 0, .int .i64 0, .string ⟨#[]⟩, .int .i64 0, .string ⟨#[]⟩, .slice none 0 0, .slice none 0 0, .slice none 0 0] 84))
  have hI : ∀ n q m : Nat, 0 < n → n ≤ 100 → m ≤ 100 → I64 ((m : Int) + ((nextD L n q).1 : Nat)) := fun n q m h0 h1 h2 => by
    have := nextD_lt L q h0
    exact i64_sm (by omega)
  have HI := hide hI
  have hns : ∀ q, (nameD L q).1.length ≤ 100 := fun q => by have := (nm5_ok _ (nameD_mem L q)).2; omega
  have HNS := hide hns
  clear h hI hns
  have e : stmtD L blk (p, left) = (.mk 7 0 [] 0 [102] (exprsD L (nextD L 3 p2).1 (nextD L 3 p2).2).1 [] [], p5, left) := by
    rw [stmtD]
    simp [hq, hq3, hq5, fn3]
  rw [e]
  clear e
  have hn3 := nextD_lt L (n := 3) p2 (by omega)
  have hn10 : (nextD L 3 p2).1 ≤ 10 := by omega
  go_enter Tryz.func61, Tryz.ntmps61
  go_wp2_with fail
  refine (HN.out 10 p (by omega) (by omega) _ HSRC.out).mono ?_
  rintro r w2 ⟨hr, HS, hK⟩
  rw [hq] at hr HS
  subst hr
  have HZ := hide (hK.heap (by simp; omega) HZ0.out)
  have hw2 : w.heap.size < w2.heap.size := (Array.getElem?_eq_some_iff.1 HZ.out).1
  have HZ := hide ((Below.heap_alloc _ (.cells #[.int .i64 7, .int .i64 0, .string ⟨#[]⟩, .int .i64 0, .string ⟨#[]⟩, .slice none 0 0, .slice none 0 0, .slice none 0 0] 84) _ hw2).trans HZ.out)
  have HX : Hid ((w2.alloc (.cells #[.int .i64 7, .int .i64 0, .string ⟨#[]⟩, .int .i64 0, .string ⟨#[]⟩, .slice none 0 0, .slice none 0 0, .slice none 0 0] 84)).heap[w2.heap.size]? = some (.cells #[.int .i64 7, .int .i64 0, .string ⟨#[]⟩, .int .i64 0, .string ⟨#[]⟩, .slice none 0 0, .slice none 0 0, .slice none 0 0] 84 (0, 0))) := hide (by show (w2.heap.push _)[w2.heap.size]? = _; simp)
  have HS := HS.al (.cells #[.int .i64 7, .int .i64 0, .string ⟨#[]⟩, .int .i64 0, .string ⟨#[]⟩, .slice none 0 0, .slice none 0 0, .slice none 0 0] 84)
  have HK := hide ((HK0.out.tr hK).al (.cells #[.int .i64 7, .int .i64 0, .string ⟨#[]⟩, .int .i64 0, .string ⟨#[]⟩, .slice none 0 0, .slice none 0 0, .slice none 0 0] 84))
  clear hK
  have hne : ¬ w.heap.size = w2.heap.size := by omega
  have hne2 : ¬ w2.heap.size = w.heap.size := by omega
  go_wp2_with fail
  have HB : Bun sb L left w w2 7 _ p1 := ⟨HS, HZ.out, HX.out, HK.out⟩
  have hsw : sb < w.heap.size ∧ sb < w2.heap.size := ⟨hsb, by omega⟩
  clear HZ HX HS HK
  have hcell : (((w2.alloc (.cells #[.int .i64 7, .int .i64 0, .string ⟨#[]⟩, .int .i64 0, .string ⟨#[]⟩, .slice none 0 0, .slice none 0 0, .slice none 0 0] 84)).alloc (.cells #[.string ⟨#[109, 97, 105, 110]⟩, .string ⟨#[102]⟩, .string ⟨#[103]⟩] 9)).drew).cell? ⟨w2.heap.size + 1, 1, none⟩ = some (.string ⟨#[102]⟩) := by
    have := cell_of_list (w2.alloc (.cells #[.int .i64 7, .int .i64 0, .string ⟨#[]⟩, .int .i64 0, .string ⟨#[]⟩, .slice none 0 0, .slice none 0 0, .slice none 0 0] 84)) [.string ⟨#[109, 97, 105, 110]⟩, .string ⟨#[102]⟩, .string ⟨#[103]⟩] 9 1 (.string ⟨#[102]⟩) rfl
    simp
  have HC := hide hcell
  have hnsb : w2.heap.size + 1 ∉ [sb] := by simp; omega
  have hcn : ∀ W w' : World, sb < W.heap.size → Kept [sb] (W.alloc (.cells #[.string ⟨#[109, 97, 105, 110]⟩, .string ⟨#[102]⟩, .string ⟨#[103]⟩] 9)) w' → w'.cell? ⟨W.heap.size, 1, none⟩ = some (.string ⟨#[102]⟩) := fun W w' h hK => hK.cell (nsb h) (cell_of_list W [.string ⟨#[109, 97, 105, 110]⟩, .string ⟨#[102]⟩, .string ⟨#[103]⟩] 9 1 (.string ⟨#[102]⟩) rfl)
  have HCN := hide hcn
  have hnx : ∀ W, Bun sb L left w w2 7 W p1 → Calls Tryz.prog 26 #[.pointer (some ⟨sb, 0, none⟩), .int .i64 3] W fun r w' => r = .returned (.int .i64 1) ∧ Bun sb L left w w2 7 w' p2 ∧ Kept [sb] W w' := fun W hW => by
    have := next_bun hW hsw 3 (Nat.succ_pos _) three_le
    rw [hq3] at this
    exact this
  have HNX := hide hnx
  have hny : ∀ W, Src W sb L (exprsD L (nextD L 3 p2).1 (nextD L 3 p2).2).2 left → Calls Tryz.prog 26 #[.pointer (some ⟨sb, 0, none⟩), .int .i64 2] W fun r w' => r = .returned (.int .i64 0) ∧ Src w' sb L p5 left ∧ Kept [sb] W w' := fun W hW => by
    have := next_any sb left 2 _ L W hW (Nat.succ_pos _) (by omega)
    rw [hq5] at this
    exact this
  have HNY := hide hny
  clear hcell hcn hnx hny hq hq3 hq5
  go_region_law
    (first | (go_simp; go_at_call 26; refine (HNX.out _ ?_).mono ?_; (· (first | exact HB | exact HB.al _ | exact (HB.al _).dr | exact HB.dr | exact (HB.dr).al _)); rintro r w3 ⟨rfl, HB, hK⟩; (try have hc := hK.cell hnsb HC.out); clear hK)
           | (go_simp; go_at_call 26; refine (next_bun (L := L) (left := left) (w := w) (w2 := w2) (K := 7) (p := p2) ?_ hsw 3 (Nat.succ_pos _) three_le).mono ?_; (· (first | exact HB | exact HB.al _ | exact (HB.al _).dr | exact HB.dr | exact (HB.dr).al _)); have hsl := HB.src.lt; rintro r w4 ⟨rfl, HB, hK⟩; (try have hc := hK.cell hnsb hc); (try have hd := HCN.out _ _ hsl hK); clear hK)
           | (go_simp; go_at_call 81; refine (exprs_bun (L := L) (left := left) (w := w) (w2 := w2) (K := 7) (p := (nextD L 3 p2).2) ?_ hsw (nextD L 3 p2).1 hn10).mono ?_; (· (first | exact HB | exact HB.al _ | exact (HB.al _).dr | exact HB.dr | exact (HB.dr).al _)); have hsl2 := HB.src.lt; rintro r w5 ⟨⟨ra, rcap, rfl, hrow, hlc, hcm⟩, HB, hK⟩; (try have hc := hK.cell hnsb hc); (try have hd := hK.cell (nsb hsl) hd); (try have he := HCN.out _ _ hsl2 hK); clear hK; have HROW := hide hrow; have x4 := cell_at (j := 4) HB.x rfl; have x5 := cell_at (j := 5) HB.x rfl; have y4 := free_at (j := 4) HB.x; have y5 := free_at (j := 5) HB.x; have hxl := (Array.getElem?_eq_some_iff.1 HB.x).1; clear hrow))
  all_goals
    clear x4 x5 y4 y5
    have HB2 := HB.fill hsw hw2 [102] rcap HROW.out
    first
      | (go_wp2_with fail; (with_reducible refine (HNY.out _ HB2.src).mono ?_))
      | (go_wp2_with fail; (with_reducible refine (HNY.out _ (HB2.al _).src).mono ?_); have HB2 := HB2.al (.cells #[.string ⟨#[109, 97, 105, 110]⟩, .string ⟨#[102]⟩, .string ⟨#[103]⟩] 9))
    rintro r w6 ⟨rfl, HS, hK⟩
    have HB := HB2.st hsw HS hK
    have HZ := hide HB.r
    have HX := hide HB.x
    have HROW := hide HB.row
    have HK := hide HB.k
    clear HB HB2 hK
    have hlt2 := (Array.getElem?_eq_some_iff.1 HX.out).1
    have q0 := cell_at (j := 0) HZ.out rfl
    have q1 := cell_at (j := 1) HZ.out rfl
    have q2 := cell_at (j := 2) HZ.out rfl
    have q3 := cell_at (j := 3) HZ.out rfl
    have q4 := cell_at (j := 4) HZ.out rfl
    have q5 := cell_at (j := 5) HZ.out rfl
    have q6 := cell_at (j := 6) HZ.out rfl
    have q7 := cell_at (j := 7) HZ.out rfl
    have x0 := cell_at (j := 0) HX.out rfl
    have x1 := cell_at (j := 1) HX.out rfl
    have x2 := cell_at (j := 2) HX.out rfl
    have x3 := cell_at (j := 3) HX.out rfl
    have x4 := cell_at (j := 4) HX.out rfl
    have x5 := cell_at (j := 5) HX.out rfl
    have x6 := cell_at (j := 6) HX.out rfl
    have x7 := cell_at (j := 7) HX.out rfl
    have z := fun j => free_at (j := j) HZ.out
    have y := fun j => free_at (j := j) HX.out
    have hzl := cell_lt q0
    have hxl := cell_lt x0
    simp only at hzl hxl
    go_wp2_with fail
    refine cut_end (Fin8 w.heap.size w2.heap.size w6 7 0 [] [102] (.slice ra (exprsD L (nextD L 3 p2).1 (nextD L 3 p2).2).1.length rcap) (.slice none 0 0) (.slice none 0 0)) ⟨by (repeat refine Kept.set ?_ (.inl (by simp)) _ _); exact Kept.refl _ _, ⟨by go_simp, by go_simp, by go_simp, by go_simp, by go_simp, by go_simp, by go_simp, by go_simp⟩⟩ ?_
    intro W' hf
    obtain ⟨r0, r1, r2, r3, r4, r5, r6, r7⟩ := hf.2
    simp only [Nat.zero_add] at r0 r1 r2 r3 r4 r5 r6 r7
    refine bodyPost_ret (v := .agg #[.int .i64 7, .int .i64 0, .string ⟨List.toArray []⟩, .int .i64 0, .string ⟨List.toArray [102]⟩, (.slice ra (exprsD L (nextD L 3 p2).1 (nextD L 3 p2).2).1.length rcap), (.slice none 0 0), (.slice none 0 0)]) (by simp [results, Tryz.results61, go_sem, r0, r1, r2, r3, r4, r5, r6, r7]) rfl ?_
    exact st_post (as_ := (exprsD L (nextD L 3 p2).1 (nextD L 3 p2).2).1) (bs := []) (es := []) hf (stWf' (show I64 7 from i64_sm (by decide)) (show I64 0 from i64_sm (by decide)) (Nat.zero_le _) (by decide) hlc hcm (Nat.le_refl _) z_le (Nat.le_refl _) z_le) (by omega) (by omega) HROW.out trivial trivial HS hsb HK.out
set_option maxRecDepth 20000 in
set_option maxHeartbeats 40000000 in
theorem sstmt_call11 (sb left : Nat) (L : List Nat) (ht : Nat) (htb : ht ≤ 100) (w : World) (p : Nat) (h : Src w sb L p left) (k p1 : Nat) (hq : nextD L 10 p = (k, p1)) (blk : Sd → List St × Sd) (hk : k = 6) (c p2 : Nat) (hq3 : nextD L 3 p1 = (c, p2)) (hc : c = 1) (b p5 : Nat) (hq5 : nextD L 2 (exprsD L (nextD L 3 p2).1 (nextD L 3 p2).2).2 = (b, p5)) (hb : b = 1) :
    Calls Tryz.prog 61 #[.pointer (some ⟨sb, 0, none⟩), .int .i64 (ht + 1 : Nat)] w (StPost w sb L (stmtD L blk (p, left))) := by
  subst hk
  subst hc
  subst hb
  have HN := hide fun (n p : Nat) (hn : 0 < n) (hn2 : n ≤ 1000) (W : World) (hW : Src W sb L p left) => next_any sb left n p L W hW hn hn2
  have HNM := hide fun (p : Nat) (W : World) (hW : Src W sb L p left) => sname_any sb left p L W hW
  have HXS := hide fun (n : Nat) (hn : n ≤ 10) (p : Nat) (W : World) (hW : Src W sb L p left) => sexprs_any sb left L n hn W p hW
  have HSRC := hide (h.al (.cells #[.int .i64 0, .int .i64 0, .string ⟨#[]⟩, .int .i64 0, .string ⟨#[]⟩, .slice none 0 0, .slice none 0 0, .slice none 0 0] 84))
  have hsb := h.lt
  have HZ0 : Hid ((w.alloc (.cells #[.int .i64 0, .int .i64 0, .string ⟨#[]⟩, .int .i64 0, .string ⟨#[]⟩, .slice none 0 0, .slice none 0 0, .slice none 0 0] 84)).heap[w.heap.size]? = some (.cells #[.int .i64 0, .int .i64 0, .string ⟨#[]⟩, .int .i64 0, .string ⟨#[]⟩, .slice none 0 0, .slice none 0 0, .slice none 0 0] 84 (0, 0))) := hide (by show (w.heap.push _)[w.heap.size]? = _; simp)
  have HK0 := hide ((Kept.refl [sb] w).al (.cells #[.int .i64 0, .int .i64 0, .string ⟨#[]⟩, .int .i64 0, .string ⟨#[]⟩, .slice none 0 0, .slice none 0 0, .slice none 0 0] 84))
  have hI : ∀ n q m : Nat, 0 < n → n ≤ 100 → m ≤ 100 → I64 ((m : Int) + ((nextD L n q).1 : Nat)) := fun n q m h0 h1 h2 => by
    have := nextD_lt L q h0
    exact i64_sm (by omega)
  have HI := hide hI
  have hns : ∀ q, (nameD L q).1.length ≤ 100 := fun q => by have := (nm5_ok _ (nameD_mem L q)).2; omega
  have HNS := hide hns
  clear h hI hns
  have e : stmtD L blk (p, left) = (.mk 7 0 (nameD L p5).1 0 [102] (exprsD L (nextD L 3 p2).1 (nextD L 3 p2).2).1 [] [], (nameD L p5).2, left) := by
    rw [stmtD]
    simp [hq, hq3, hq5, fn3]
  rw [e]
  clear e
  have hn3 := nextD_lt L (n := 3) p2 (by omega)
  have hn10 : (nextD L 3 p2).1 ≤ 10 := by omega
  go_enter Tryz.func61, Tryz.ntmps61
  go_wp2_with fail
  refine (HN.out 10 p (by omega) (by omega) _ HSRC.out).mono ?_
  rintro r w2 ⟨hr, HS, hK⟩
  rw [hq] at hr HS
  subst hr
  have HZ := hide (hK.heap (by simp; omega) HZ0.out)
  have hw2 : w.heap.size < w2.heap.size := (Array.getElem?_eq_some_iff.1 HZ.out).1
  have HZ := hide ((Below.heap_alloc _ (.cells #[.int .i64 7, .int .i64 0, .string ⟨#[]⟩, .int .i64 0, .string ⟨#[]⟩, .slice none 0 0, .slice none 0 0, .slice none 0 0] 84) _ hw2).trans HZ.out)
  have HX : Hid ((w2.alloc (.cells #[.int .i64 7, .int .i64 0, .string ⟨#[]⟩, .int .i64 0, .string ⟨#[]⟩, .slice none 0 0, .slice none 0 0, .slice none 0 0] 84)).heap[w2.heap.size]? = some (.cells #[.int .i64 7, .int .i64 0, .string ⟨#[]⟩, .int .i64 0, .string ⟨#[]⟩, .slice none 0 0, .slice none 0 0, .slice none 0 0] 84 (0, 0))) := hide (by show (w2.heap.push _)[w2.heap.size]? = _; simp)
  have HS := HS.al (.cells #[.int .i64 7, .int .i64 0, .string ⟨#[]⟩, .int .i64 0, .string ⟨#[]⟩, .slice none 0 0, .slice none 0 0, .slice none 0 0] 84)
  have HK := hide ((HK0.out.tr hK).al (.cells #[.int .i64 7, .int .i64 0, .string ⟨#[]⟩, .int .i64 0, .string ⟨#[]⟩, .slice none 0 0, .slice none 0 0, .slice none 0 0] 84))
  clear hK
  have hne : ¬ w.heap.size = w2.heap.size := by omega
  have hne2 : ¬ w2.heap.size = w.heap.size := by omega
  go_wp2_with fail
  have HB : Bun sb L left w w2 7 _ p1 := ⟨HS, HZ.out, HX.out, HK.out⟩
  have hsw : sb < w.heap.size ∧ sb < w2.heap.size := ⟨hsb, by omega⟩
  clear HZ HX HS HK
  have hcell : (((w2.alloc (.cells #[.int .i64 7, .int .i64 0, .string ⟨#[]⟩, .int .i64 0, .string ⟨#[]⟩, .slice none 0 0, .slice none 0 0, .slice none 0 0] 84)).alloc (.cells #[.string ⟨#[109, 97, 105, 110]⟩, .string ⟨#[102]⟩, .string ⟨#[103]⟩] 9)).drew).cell? ⟨w2.heap.size + 1, 1, none⟩ = some (.string ⟨#[102]⟩) := by
    have := cell_of_list (w2.alloc (.cells #[.int .i64 7, .int .i64 0, .string ⟨#[]⟩, .int .i64 0, .string ⟨#[]⟩, .slice none 0 0, .slice none 0 0, .slice none 0 0] 84)) [.string ⟨#[109, 97, 105, 110]⟩, .string ⟨#[102]⟩, .string ⟨#[103]⟩] 9 1 (.string ⟨#[102]⟩) rfl
    simp
  have HC := hide hcell
  have hnsb : w2.heap.size + 1 ∉ [sb] := by simp; omega
  have hcn : ∀ W w' : World, sb < W.heap.size → Kept [sb] (W.alloc (.cells #[.string ⟨#[109, 97, 105, 110]⟩, .string ⟨#[102]⟩, .string ⟨#[103]⟩] 9)) w' → w'.cell? ⟨W.heap.size, 1, none⟩ = some (.string ⟨#[102]⟩) := fun W w' h hK => hK.cell (nsb h) (cell_of_list W [.string ⟨#[109, 97, 105, 110]⟩, .string ⟨#[102]⟩, .string ⟨#[103]⟩] 9 1 (.string ⟨#[102]⟩) rfl)
  have HCN := hide hcn
  have hnx : ∀ W, Bun sb L left w w2 7 W p1 → Calls Tryz.prog 26 #[.pointer (some ⟨sb, 0, none⟩), .int .i64 3] W fun r w' => r = .returned (.int .i64 1) ∧ Bun sb L left w w2 7 w' p2 ∧ Kept [sb] W w' := fun W hW => by
    have := next_bun hW hsw 3 (Nat.succ_pos _) three_le
    rw [hq3] at this
    exact this
  have HNX := hide hnx
  have hny : ∀ W, Src W sb L (exprsD L (nextD L 3 p2).1 (nextD L 3 p2).2).2 left → Calls Tryz.prog 26 #[.pointer (some ⟨sb, 0, none⟩), .int .i64 2] W fun r w' => r = .returned (.int .i64 1) ∧ Src w' sb L p5 left ∧ Kept [sb] W w' := fun W hW => by
    have := next_any sb left 2 _ L W hW (Nat.succ_pos _) (by omega)
    rw [hq5] at this
    exact this
  have HNY := hide hny
  clear hcell hcn hnx hny hq hq3 hq5
  go_region_law
    (first | (go_simp; go_at_call 26; refine (HNX.out _ ?_).mono ?_; (· (first | exact HB | exact HB.al _ | exact (HB.al _).dr | exact HB.dr | exact (HB.dr).al _)); rintro r w3 ⟨rfl, HB, hK⟩; (try have hc := hK.cell hnsb HC.out); clear hK)
           | (go_simp; go_at_call 26; refine (next_bun (L := L) (left := left) (w := w) (w2 := w2) (K := 7) (p := p2) ?_ hsw 3 (Nat.succ_pos _) three_le).mono ?_; (· (first | exact HB | exact HB.al _ | exact (HB.al _).dr | exact HB.dr | exact (HB.dr).al _)); have hsl := HB.src.lt; rintro r w4 ⟨rfl, HB, hK⟩; (try have hc := hK.cell hnsb hc); (try have hd := HCN.out _ _ hsl hK); clear hK)
           | (go_simp; go_at_call 81; refine (exprs_bun (L := L) (left := left) (w := w) (w2 := w2) (K := 7) (p := (nextD L 3 p2).2) ?_ hsw (nextD L 3 p2).1 hn10).mono ?_; (· (first | exact HB | exact HB.al _ | exact (HB.al _).dr | exact HB.dr | exact (HB.dr).al _)); have hsl2 := HB.src.lt; rintro r w5 ⟨⟨ra, rcap, rfl, hrow, hlc, hcm⟩, HB, hK⟩; (try have hc := hK.cell hnsb hc); (try have hd := hK.cell (nsb hsl) hd); (try have he := HCN.out _ _ hsl2 hK); clear hK; have HROW := hide hrow; have x4 := cell_at (j := 4) HB.x rfl; have x5 := cell_at (j := 5) HB.x rfl; have y4 := free_at (j := 4) HB.x; have y5 := free_at (j := 5) HB.x; have hxl := (Array.getElem?_eq_some_iff.1 HB.x).1; clear hrow))
  all_goals
    clear x4 x5 y4 y5
    have HB2 := HB.fill hsw hw2 [102] rcap HROW.out
    first
      | (go_wp2_with fail; (with_reducible refine (HNY.out _ HB2.src).mono ?_))
      | (go_wp2_with fail; (with_reducible refine (HNY.out _ (HB2.al _).src).mono ?_); have HB2 := HB2.al (.cells #[.string ⟨#[109, 97, 105, 110]⟩, .string ⟨#[102]⟩, .string ⟨#[103]⟩] 9))
    rintro r w6 ⟨rfl, HS, hK⟩
    have HB := HB2.st hsw HS hK
    go_wp2_with fail
    (with_reducible refine (HNM.out p5 _ HS).mono ?_)
    rintro r w7 ⟨rfl, HS, hK7⟩
    have HB := HB.st hsw HS hK7
    have HZ := hide HB.r
    have HX := hide HB.x
    have HROW := hide HB.row
    have HK := hide HB.k
    clear HB HB2 hK hK7
    have hlt2 := (Array.getElem?_eq_some_iff.1 HX.out).1
    have q0 := cell_at (j := 0) HZ.out rfl
    have q1 := cell_at (j := 1) HZ.out rfl
    have q2 := cell_at (j := 2) HZ.out rfl
    have q3 := cell_at (j := 3) HZ.out rfl
    have q4 := cell_at (j := 4) HZ.out rfl
    have q5 := cell_at (j := 5) HZ.out rfl
    have q6 := cell_at (j := 6) HZ.out rfl
    have q7 := cell_at (j := 7) HZ.out rfl
    have x0 := cell_at (j := 0) HX.out rfl
    have x1 := cell_at (j := 1) HX.out rfl
    have x2 := cell_at (j := 2) HX.out rfl
    have x3 := cell_at (j := 3) HX.out rfl
    have x4 := cell_at (j := 4) HX.out rfl
    have x5 := cell_at (j := 5) HX.out rfl
    have x6 := cell_at (j := 6) HX.out rfl
    have x7 := cell_at (j := 7) HX.out rfl
    have z := fun j => free_at (j := j) HZ.out
    have y := fun j => free_at (j := j) HX.out
    have hzl := cell_lt q0
    have hxl := cell_lt x0
    simp only at hzl hxl
    go_wp2_with fail
    refine cut_end (Fin8 w.heap.size w2.heap.size w7 7 0 (nameD L p5).1 [102] (.slice ra (exprsD L (nextD L 3 p2).1 (nextD L 3 p2).2).1.length rcap) (.slice none 0 0) (.slice none 0 0)) ⟨by (repeat refine Kept.set ?_ (.inl (by simp)) _ _); exact Kept.refl _ _, ⟨by go_simp, by go_simp, by go_simp, by go_simp, by go_simp, by go_simp, by go_simp, by go_simp⟩⟩ ?_
    intro W' hf
    obtain ⟨r0, r1, r2, r3, r4, r5, r6, r7⟩ := hf.2
    simp only [Nat.zero_add] at r0 r1 r2 r3 r4 r5 r6 r7
    refine bodyPost_ret (v := .agg #[.int .i64 7, .int .i64 0, .string ⟨List.toArray (nameD L p5).1⟩, .int .i64 0, .string ⟨List.toArray [102]⟩, (.slice ra (exprsD L (nextD L 3 p2).1 (nextD L 3 p2).2).1.length rcap), (.slice none 0 0), (.slice none 0 0)]) (by simp [results, Tryz.results61, go_sem, r0, r1, r2, r3, r4, r5, r6, r7]) rfl ?_
    exact st_post (as_ := (exprsD L (nextD L 3 p2).1 (nextD L 3 p2).2).1) (bs := []) (es := []) hf (stWf' (show I64 7 from i64_sm (by decide)) (show I64 0 from i64_sm (by decide)) (HNS.out _) (by decide) hlc hcm (Nat.le_refl _) z_le (Nat.le_refl _) z_le) (by omega) (by omega) HROW.out trivial trivial HS hsb HK.out
set_option maxRecDepth 20000 in
set_option maxHeartbeats 40000000 in
theorem sstmt_call20 (sb left : Nat) (L : List Nat) (ht : Nat) (htb : ht ≤ 100) (w : World) (p : Nat) (h : Src w sb L p left) (k p1 : Nat) (hq : nextD L 10 p = (k, p1)) (blk : Sd → List St × Sd) (hk : k = 6) (c p2 : Nat) (hq3 : nextD L 3 p1 = (c, p2)) (hc : c = 2) (b p5 : Nat) (hq5 : nextD L 2 (exprsD L (nextD L 3 p2).1 (nextD L 3 p2).2).2 = (b, p5)) (hb : b = 0) :
    Calls Tryz.prog 61 #[.pointer (some ⟨sb, 0, none⟩), .int .i64 (ht + 1 : Nat)] w (StPost w sb L (stmtD L blk (p, left))) := by
  subst hk
  subst hc
  subst hb
  have HN := hide fun (n p : Nat) (hn : 0 < n) (hn2 : n ≤ 1000) (W : World) (hW : Src W sb L p left) => next_any sb left n p L W hW hn hn2
  have HNM := hide fun (p : Nat) (W : World) (hW : Src W sb L p left) => sname_any sb left p L W hW
  have HXS := hide fun (n : Nat) (hn : n ≤ 10) (p : Nat) (W : World) (hW : Src W sb L p left) => sexprs_any sb left L n hn W p hW
  have HSRC := hide (h.al (.cells #[.int .i64 0, .int .i64 0, .string ⟨#[]⟩, .int .i64 0, .string ⟨#[]⟩, .slice none 0 0, .slice none 0 0, .slice none 0 0] 84))
  have hsb := h.lt
  have HZ0 : Hid ((w.alloc (.cells #[.int .i64 0, .int .i64 0, .string ⟨#[]⟩, .int .i64 0, .string ⟨#[]⟩, .slice none 0 0, .slice none 0 0, .slice none 0 0] 84)).heap[w.heap.size]? = some (.cells #[.int .i64 0, .int .i64 0, .string ⟨#[]⟩, .int .i64 0, .string ⟨#[]⟩, .slice none 0 0, .slice none 0 0, .slice none 0 0] 84 (0, 0))) := hide (by show (w.heap.push _)[w.heap.size]? = _; simp)
  have HK0 := hide ((Kept.refl [sb] w).al (.cells #[.int .i64 0, .int .i64 0, .string ⟨#[]⟩, .int .i64 0, .string ⟨#[]⟩, .slice none 0 0, .slice none 0 0, .slice none 0 0] 84))
  have hI : ∀ n q m : Nat, 0 < n → n ≤ 100 → m ≤ 100 → I64 ((m : Int) + ((nextD L n q).1 : Nat)) := fun n q m h0 h1 h2 => by
    have := nextD_lt L q h0
    exact i64_sm (by omega)
  have HI := hide hI
  have hns : ∀ q, (nameD L q).1.length ≤ 100 := fun q => by have := (nm5_ok _ (nameD_mem L q)).2; omega
  have HNS := hide hns
  clear h hI hns
  have e : stmtD L blk (p, left) = (.mk 7 0 [] 0 [103] (exprsD L (nextD L 3 p2).1 (nextD L 3 p2).2).1 [] [], p5, left) := by
    rw [stmtD]
    simp [hq, hq3, hq5, fn3]
  rw [e]
  clear e
  have hn3 := nextD_lt L (n := 3) p2 (by omega)
  have hn10 : (nextD L 3 p2).1 ≤ 10 := by omega
  go_enter Tryz.func61, Tryz.ntmps61
  go_wp2_with fail
  refine (HN.out 10 p (by omega) (by omega) _ HSRC.out).mono ?_
  rintro r w2 ⟨hr, HS, hK⟩
  rw [hq] at hr HS
  subst hr
  have HZ := hide (hK.heap (by simp; omega) HZ0.out)
  have hw2 : w.heap.size < w2.heap.size := (Array.getElem?_eq_some_iff.1 HZ.out).1
  have HZ := hide ((Below.heap_alloc _ (.cells #[.int .i64 7, .int .i64 0, .string ⟨#[]⟩, .int .i64 0, .string ⟨#[]⟩, .slice none 0 0, .slice none 0 0, .slice none 0 0] 84) _ hw2).trans HZ.out)
  have HX : Hid ((w2.alloc (.cells #[.int .i64 7, .int .i64 0, .string ⟨#[]⟩, .int .i64 0, .string ⟨#[]⟩, .slice none 0 0, .slice none 0 0, .slice none 0 0] 84)).heap[w2.heap.size]? = some (.cells #[.int .i64 7, .int .i64 0, .string ⟨#[]⟩, .int .i64 0, .string ⟨#[]⟩, .slice none 0 0, .slice none 0 0, .slice none 0 0] 84 (0, 0))) := hide (by show (w2.heap.push _)[w2.heap.size]? = _; simp)
  have HS := HS.al (.cells #[.int .i64 7, .int .i64 0, .string ⟨#[]⟩, .int .i64 0, .string ⟨#[]⟩, .slice none 0 0, .slice none 0 0, .slice none 0 0] 84)
  have HK := hide ((HK0.out.tr hK).al (.cells #[.int .i64 7, .int .i64 0, .string ⟨#[]⟩, .int .i64 0, .string ⟨#[]⟩, .slice none 0 0, .slice none 0 0, .slice none 0 0] 84))
  clear hK
  have hne : ¬ w.heap.size = w2.heap.size := by omega
  have hne2 : ¬ w2.heap.size = w.heap.size := by omega
  go_wp2_with fail
  have HB : Bun sb L left w w2 7 _ p1 := ⟨HS, HZ.out, HX.out, HK.out⟩
  have hsw : sb < w.heap.size ∧ sb < w2.heap.size := ⟨hsb, by omega⟩
  clear HZ HX HS HK
  have hcell : (((w2.alloc (.cells #[.int .i64 7, .int .i64 0, .string ⟨#[]⟩, .int .i64 0, .string ⟨#[]⟩, .slice none 0 0, .slice none 0 0, .slice none 0 0] 84)).alloc (.cells #[.string ⟨#[109, 97, 105, 110]⟩, .string ⟨#[102]⟩, .string ⟨#[103]⟩] 9)).drew).cell? ⟨w2.heap.size + 1, 2, none⟩ = some (.string ⟨#[103]⟩) := by
    have := cell_of_list (w2.alloc (.cells #[.int .i64 7, .int .i64 0, .string ⟨#[]⟩, .int .i64 0, .string ⟨#[]⟩, .slice none 0 0, .slice none 0 0, .slice none 0 0] 84)) [.string ⟨#[109, 97, 105, 110]⟩, .string ⟨#[102]⟩, .string ⟨#[103]⟩] 9 2 (.string ⟨#[103]⟩) rfl
    simp
  have HC := hide hcell
  have hnsb : w2.heap.size + 1 ∉ [sb] := by simp; omega
  have hcn : ∀ W w' : World, sb < W.heap.size → Kept [sb] (W.alloc (.cells #[.string ⟨#[109, 97, 105, 110]⟩, .string ⟨#[102]⟩, .string ⟨#[103]⟩] 9)) w' → w'.cell? ⟨W.heap.size, 2, none⟩ = some (.string ⟨#[103]⟩) := fun W w' h hK => hK.cell (nsb h) (cell_of_list W [.string ⟨#[109, 97, 105, 110]⟩, .string ⟨#[102]⟩, .string ⟨#[103]⟩] 9 2 (.string ⟨#[103]⟩) rfl)
  have HCN := hide hcn
  have hnx : ∀ W, Bun sb L left w w2 7 W p1 → Calls Tryz.prog 26 #[.pointer (some ⟨sb, 0, none⟩), .int .i64 3] W fun r w' => r = .returned (.int .i64 2) ∧ Bun sb L left w w2 7 w' p2 ∧ Kept [sb] W w' := fun W hW => by
    have := next_bun hW hsw 3 (Nat.succ_pos _) three_le
    rw [hq3] at this
    exact this
  have HNX := hide hnx
  have hny : ∀ W, Src W sb L (exprsD L (nextD L 3 p2).1 (nextD L 3 p2).2).2 left → Calls Tryz.prog 26 #[.pointer (some ⟨sb, 0, none⟩), .int .i64 2] W fun r w' => r = .returned (.int .i64 0) ∧ Src w' sb L p5 left ∧ Kept [sb] W w' := fun W hW => by
    have := next_any sb left 2 _ L W hW (Nat.succ_pos _) (by omega)
    rw [hq5] at this
    exact this
  have HNY := hide hny
  clear hcell hcn hnx hny hq hq3 hq5
  go_region_law
    (first | (go_simp; go_at_call 26; refine (HNX.out _ ?_).mono ?_; (· (first | exact HB | exact HB.al _ | exact (HB.al _).dr | exact HB.dr | exact (HB.dr).al _)); rintro r w3 ⟨rfl, HB, hK⟩; (try have hc := hK.cell hnsb HC.out); clear hK)
           | (go_simp; go_at_call 26; refine (next_bun (L := L) (left := left) (w := w) (w2 := w2) (K := 7) (p := p2) ?_ hsw 3 (Nat.succ_pos _) three_le).mono ?_; (· (first | exact HB | exact HB.al _ | exact (HB.al _).dr | exact HB.dr | exact (HB.dr).al _)); have hsl := HB.src.lt; rintro r w4 ⟨rfl, HB, hK⟩; (try have hc := hK.cell hnsb hc); (try have hd := HCN.out _ _ hsl hK); clear hK)
           | (go_simp; go_at_call 81; refine (exprs_bun (L := L) (left := left) (w := w) (w2 := w2) (K := 7) (p := (nextD L 3 p2).2) ?_ hsw (nextD L 3 p2).1 hn10).mono ?_; (· (first | exact HB | exact HB.al _ | exact (HB.al _).dr | exact HB.dr | exact (HB.dr).al _)); have hsl2 := HB.src.lt; rintro r w5 ⟨⟨ra, rcap, rfl, hrow, hlc, hcm⟩, HB, hK⟩; (try have hc := hK.cell hnsb hc); (try have hd := hK.cell (nsb hsl) hd); (try have he := HCN.out _ _ hsl2 hK); clear hK; have HROW := hide hrow; have x4 := cell_at (j := 4) HB.x rfl; have x5 := cell_at (j := 5) HB.x rfl; have y4 := free_at (j := 4) HB.x; have y5 := free_at (j := 5) HB.x; have hxl := (Array.getElem?_eq_some_iff.1 HB.x).1; clear hrow))
  all_goals
    clear x4 x5 y4 y5
    have HB2 := HB.fill hsw hw2 [103] rcap HROW.out
    first
      | (go_wp2_with fail; (with_reducible refine (HNY.out _ HB2.src).mono ?_))
      | (go_wp2_with fail; (with_reducible refine (HNY.out _ (HB2.al _).src).mono ?_); have HB2 := HB2.al (.cells #[.string ⟨#[109, 97, 105, 110]⟩, .string ⟨#[102]⟩, .string ⟨#[103]⟩] 9))
    rintro r w6 ⟨rfl, HS, hK⟩
    have HB := HB2.st hsw HS hK
    have HZ := hide HB.r
    have HX := hide HB.x
    have HROW := hide HB.row
    have HK := hide HB.k
    clear HB HB2 hK
    have hlt2 := (Array.getElem?_eq_some_iff.1 HX.out).1
    have q0 := cell_at (j := 0) HZ.out rfl
    have q1 := cell_at (j := 1) HZ.out rfl
    have q2 := cell_at (j := 2) HZ.out rfl
    have q3 := cell_at (j := 3) HZ.out rfl
    have q4 := cell_at (j := 4) HZ.out rfl
    have q5 := cell_at (j := 5) HZ.out rfl
    have q6 := cell_at (j := 6) HZ.out rfl
    have q7 := cell_at (j := 7) HZ.out rfl
    have x0 := cell_at (j := 0) HX.out rfl
    have x1 := cell_at (j := 1) HX.out rfl
    have x2 := cell_at (j := 2) HX.out rfl
    have x3 := cell_at (j := 3) HX.out rfl
    have x4 := cell_at (j := 4) HX.out rfl
    have x5 := cell_at (j := 5) HX.out rfl
    have x6 := cell_at (j := 6) HX.out rfl
    have x7 := cell_at (j := 7) HX.out rfl
    have z := fun j => free_at (j := j) HZ.out
    have y := fun j => free_at (j := j) HX.out
    have hzl := cell_lt q0
    have hxl := cell_lt x0
    simp only at hzl hxl
    go_wp2_with fail
    refine cut_end (Fin8 w.heap.size w2.heap.size w6 7 0 [] [103] (.slice ra (exprsD L (nextD L 3 p2).1 (nextD L 3 p2).2).1.length rcap) (.slice none 0 0) (.slice none 0 0)) ⟨by (repeat refine Kept.set ?_ (.inl (by simp)) _ _); exact Kept.refl _ _, ⟨by go_simp, by go_simp, by go_simp, by go_simp, by go_simp, by go_simp, by go_simp, by go_simp⟩⟩ ?_
    intro W' hf
    obtain ⟨r0, r1, r2, r3, r4, r5, r6, r7⟩ := hf.2
    simp only [Nat.zero_add] at r0 r1 r2 r3 r4 r5 r6 r7
    refine bodyPost_ret (v := .agg #[.int .i64 7, .int .i64 0, .string ⟨List.toArray []⟩, .int .i64 0, .string ⟨List.toArray [103]⟩, (.slice ra (exprsD L (nextD L 3 p2).1 (nextD L 3 p2).2).1.length rcap), (.slice none 0 0), (.slice none 0 0)]) (by simp [results, Tryz.results61, go_sem, r0, r1, r2, r3, r4, r5, r6, r7]) rfl ?_
    exact st_post (as_ := (exprsD L (nextD L 3 p2).1 (nextD L 3 p2).2).1) (bs := []) (es := []) hf (stWf' (show I64 7 from i64_sm (by decide)) (show I64 0 from i64_sm (by decide)) (Nat.zero_le _) (by decide) hlc hcm (Nat.le_refl _) z_le (Nat.le_refl _) z_le) (by omega) (by omega) HROW.out trivial trivial HS hsb HK.out
set_option maxRecDepth 20000 in
set_option maxHeartbeats 40000000 in
theorem sstmt_call21 (sb left : Nat) (L : List Nat) (ht : Nat) (htb : ht ≤ 100) (w : World) (p : Nat) (h : Src w sb L p left) (k p1 : Nat) (hq : nextD L 10 p = (k, p1)) (blk : Sd → List St × Sd) (hk : k = 6) (c p2 : Nat) (hq3 : nextD L 3 p1 = (c, p2)) (hc : c = 2) (b p5 : Nat) (hq5 : nextD L 2 (exprsD L (nextD L 3 p2).1 (nextD L 3 p2).2).2 = (b, p5)) (hb : b = 1) :
    Calls Tryz.prog 61 #[.pointer (some ⟨sb, 0, none⟩), .int .i64 (ht + 1 : Nat)] w (StPost w sb L (stmtD L blk (p, left))) := by
  subst hk
  subst hc
  subst hb
  have HN := hide fun (n p : Nat) (hn : 0 < n) (hn2 : n ≤ 1000) (W : World) (hW : Src W sb L p left) => next_any sb left n p L W hW hn hn2
  have HNM := hide fun (p : Nat) (W : World) (hW : Src W sb L p left) => sname_any sb left p L W hW
  have HXS := hide fun (n : Nat) (hn : n ≤ 10) (p : Nat) (W : World) (hW : Src W sb L p left) => sexprs_any sb left L n hn W p hW
  have HSRC := hide (h.al (.cells #[.int .i64 0, .int .i64 0, .string ⟨#[]⟩, .int .i64 0, .string ⟨#[]⟩, .slice none 0 0, .slice none 0 0, .slice none 0 0] 84))
  have hsb := h.lt
  have HZ0 : Hid ((w.alloc (.cells #[.int .i64 0, .int .i64 0, .string ⟨#[]⟩, .int .i64 0, .string ⟨#[]⟩, .slice none 0 0, .slice none 0 0, .slice none 0 0] 84)).heap[w.heap.size]? = some (.cells #[.int .i64 0, .int .i64 0, .string ⟨#[]⟩, .int .i64 0, .string ⟨#[]⟩, .slice none 0 0, .slice none 0 0, .slice none 0 0] 84 (0, 0))) := hide (by show (w.heap.push _)[w.heap.size]? = _; simp)
  have HK0 := hide ((Kept.refl [sb] w).al (.cells #[.int .i64 0, .int .i64 0, .string ⟨#[]⟩, .int .i64 0, .string ⟨#[]⟩, .slice none 0 0, .slice none 0 0, .slice none 0 0] 84))
  have hI : ∀ n q m : Nat, 0 < n → n ≤ 100 → m ≤ 100 → I64 ((m : Int) + ((nextD L n q).1 : Nat)) := fun n q m h0 h1 h2 => by
    have := nextD_lt L q h0
    exact i64_sm (by omega)
  have HI := hide hI
  have hns : ∀ q, (nameD L q).1.length ≤ 100 := fun q => by have := (nm5_ok _ (nameD_mem L q)).2; omega
  have HNS := hide hns
  clear h hI hns
  have e : stmtD L blk (p, left) = (.mk 7 0 (nameD L p5).1 0 [103] (exprsD L (nextD L 3 p2).1 (nextD L 3 p2).2).1 [] [], (nameD L p5).2, left) := by
    rw [stmtD]
    simp [hq, hq3, hq5, fn3]
  rw [e]
  clear e
  have hn3 := nextD_lt L (n := 3) p2 (by omega)
  have hn10 : (nextD L 3 p2).1 ≤ 10 := by omega
  go_enter Tryz.func61, Tryz.ntmps61
  go_wp2_with fail
  refine (HN.out 10 p (by omega) (by omega) _ HSRC.out).mono ?_
  rintro r w2 ⟨hr, HS, hK⟩
  rw [hq] at hr HS
  subst hr
  have HZ := hide (hK.heap (by simp; omega) HZ0.out)
  have hw2 : w.heap.size < w2.heap.size := (Array.getElem?_eq_some_iff.1 HZ.out).1
  have HZ := hide ((Below.heap_alloc _ (.cells #[.int .i64 7, .int .i64 0, .string ⟨#[]⟩, .int .i64 0, .string ⟨#[]⟩, .slice none 0 0, .slice none 0 0, .slice none 0 0] 84) _ hw2).trans HZ.out)
  have HX : Hid ((w2.alloc (.cells #[.int .i64 7, .int .i64 0, .string ⟨#[]⟩, .int .i64 0, .string ⟨#[]⟩, .slice none 0 0, .slice none 0 0, .slice none 0 0] 84)).heap[w2.heap.size]? = some (.cells #[.int .i64 7, .int .i64 0, .string ⟨#[]⟩, .int .i64 0, .string ⟨#[]⟩, .slice none 0 0, .slice none 0 0, .slice none 0 0] 84 (0, 0))) := hide (by show (w2.heap.push _)[w2.heap.size]? = _; simp)
  have HS := HS.al (.cells #[.int .i64 7, .int .i64 0, .string ⟨#[]⟩, .int .i64 0, .string ⟨#[]⟩, .slice none 0 0, .slice none 0 0, .slice none 0 0] 84)
  have HK := hide ((HK0.out.tr hK).al (.cells #[.int .i64 7, .int .i64 0, .string ⟨#[]⟩, .int .i64 0, .string ⟨#[]⟩, .slice none 0 0, .slice none 0 0, .slice none 0 0] 84))
  clear hK
  have hne : ¬ w.heap.size = w2.heap.size := by omega
  have hne2 : ¬ w2.heap.size = w.heap.size := by omega
  go_wp2_with fail
  have HB : Bun sb L left w w2 7 _ p1 := ⟨HS, HZ.out, HX.out, HK.out⟩
  have hsw : sb < w.heap.size ∧ sb < w2.heap.size := ⟨hsb, by omega⟩
  clear HZ HX HS HK
  have hcell : (((w2.alloc (.cells #[.int .i64 7, .int .i64 0, .string ⟨#[]⟩, .int .i64 0, .string ⟨#[]⟩, .slice none 0 0, .slice none 0 0, .slice none 0 0] 84)).alloc (.cells #[.string ⟨#[109, 97, 105, 110]⟩, .string ⟨#[102]⟩, .string ⟨#[103]⟩] 9)).drew).cell? ⟨w2.heap.size + 1, 2, none⟩ = some (.string ⟨#[103]⟩) := by
    have := cell_of_list (w2.alloc (.cells #[.int .i64 7, .int .i64 0, .string ⟨#[]⟩, .int .i64 0, .string ⟨#[]⟩, .slice none 0 0, .slice none 0 0, .slice none 0 0] 84)) [.string ⟨#[109, 97, 105, 110]⟩, .string ⟨#[102]⟩, .string ⟨#[103]⟩] 9 2 (.string ⟨#[103]⟩) rfl
    simp
  have HC := hide hcell
  have hnsb : w2.heap.size + 1 ∉ [sb] := by simp; omega
  have hcn : ∀ W w' : World, sb < W.heap.size → Kept [sb] (W.alloc (.cells #[.string ⟨#[109, 97, 105, 110]⟩, .string ⟨#[102]⟩, .string ⟨#[103]⟩] 9)) w' → w'.cell? ⟨W.heap.size, 2, none⟩ = some (.string ⟨#[103]⟩) := fun W w' h hK => hK.cell (nsb h) (cell_of_list W [.string ⟨#[109, 97, 105, 110]⟩, .string ⟨#[102]⟩, .string ⟨#[103]⟩] 9 2 (.string ⟨#[103]⟩) rfl)
  have HCN := hide hcn
  have hnx : ∀ W, Bun sb L left w w2 7 W p1 → Calls Tryz.prog 26 #[.pointer (some ⟨sb, 0, none⟩), .int .i64 3] W fun r w' => r = .returned (.int .i64 2) ∧ Bun sb L left w w2 7 w' p2 ∧ Kept [sb] W w' := fun W hW => by
    have := next_bun hW hsw 3 (Nat.succ_pos _) three_le
    rw [hq3] at this
    exact this
  have HNX := hide hnx
  have hny : ∀ W, Src W sb L (exprsD L (nextD L 3 p2).1 (nextD L 3 p2).2).2 left → Calls Tryz.prog 26 #[.pointer (some ⟨sb, 0, none⟩), .int .i64 2] W fun r w' => r = .returned (.int .i64 1) ∧ Src w' sb L p5 left ∧ Kept [sb] W w' := fun W hW => by
    have := next_any sb left 2 _ L W hW (Nat.succ_pos _) (by omega)
    rw [hq5] at this
    exact this
  have HNY := hide hny
  clear hcell hcn hnx hny hq hq3 hq5
  go_region_law
    (first | (go_simp; go_at_call 26; refine (HNX.out _ ?_).mono ?_; (· (first | exact HB | exact HB.al _ | exact (HB.al _).dr | exact HB.dr | exact (HB.dr).al _)); rintro r w3 ⟨rfl, HB, hK⟩; (try have hc := hK.cell hnsb HC.out); clear hK)
           | (go_simp; go_at_call 26; refine (next_bun (L := L) (left := left) (w := w) (w2 := w2) (K := 7) (p := p2) ?_ hsw 3 (Nat.succ_pos _) three_le).mono ?_; (· (first | exact HB | exact HB.al _ | exact (HB.al _).dr | exact HB.dr | exact (HB.dr).al _)); have hsl := HB.src.lt; rintro r w4 ⟨rfl, HB, hK⟩; (try have hc := hK.cell hnsb hc); (try have hd := HCN.out _ _ hsl hK); clear hK)
           | (go_simp; go_at_call 81; refine (exprs_bun (L := L) (left := left) (w := w) (w2 := w2) (K := 7) (p := (nextD L 3 p2).2) ?_ hsw (nextD L 3 p2).1 hn10).mono ?_; (· (first | exact HB | exact HB.al _ | exact (HB.al _).dr | exact HB.dr | exact (HB.dr).al _)); have hsl2 := HB.src.lt; rintro r w5 ⟨⟨ra, rcap, rfl, hrow, hlc, hcm⟩, HB, hK⟩; (try have hc := hK.cell hnsb hc); (try have hd := hK.cell (nsb hsl) hd); (try have he := HCN.out _ _ hsl2 hK); clear hK; have HROW := hide hrow; have x4 := cell_at (j := 4) HB.x rfl; have x5 := cell_at (j := 5) HB.x rfl; have y4 := free_at (j := 4) HB.x; have y5 := free_at (j := 5) HB.x; have hxl := (Array.getElem?_eq_some_iff.1 HB.x).1; clear hrow))
  all_goals
    clear x4 x5 y4 y5
    have HB2 := HB.fill hsw hw2 [103] rcap HROW.out
    first
      | (go_wp2_with fail; (with_reducible refine (HNY.out _ HB2.src).mono ?_))
      | (go_wp2_with fail; (with_reducible refine (HNY.out _ (HB2.al _).src).mono ?_); have HB2 := HB2.al (.cells #[.string ⟨#[109, 97, 105, 110]⟩, .string ⟨#[102]⟩, .string ⟨#[103]⟩] 9))
    rintro r w6 ⟨rfl, HS, hK⟩
    have HB := HB2.st hsw HS hK
    go_wp2_with fail
    (with_reducible refine (HNM.out p5 _ HS).mono ?_)
    rintro r w7 ⟨rfl, HS, hK7⟩
    have HB := HB.st hsw HS hK7
    have HZ := hide HB.r
    have HX := hide HB.x
    have HROW := hide HB.row
    have HK := hide HB.k
    clear HB HB2 hK hK7
    have hlt2 := (Array.getElem?_eq_some_iff.1 HX.out).1
    have q0 := cell_at (j := 0) HZ.out rfl
    have q1 := cell_at (j := 1) HZ.out rfl
    have q2 := cell_at (j := 2) HZ.out rfl
    have q3 := cell_at (j := 3) HZ.out rfl
    have q4 := cell_at (j := 4) HZ.out rfl
    have q5 := cell_at (j := 5) HZ.out rfl
    have q6 := cell_at (j := 6) HZ.out rfl
    have q7 := cell_at (j := 7) HZ.out rfl
    have x0 := cell_at (j := 0) HX.out rfl
    have x1 := cell_at (j := 1) HX.out rfl
    have x2 := cell_at (j := 2) HX.out rfl
    have x3 := cell_at (j := 3) HX.out rfl
    have x4 := cell_at (j := 4) HX.out rfl
    have x5 := cell_at (j := 5) HX.out rfl
    have x6 := cell_at (j := 6) HX.out rfl
    have x7 := cell_at (j := 7) HX.out rfl
    have z := fun j => free_at (j := j) HZ.out
    have y := fun j => free_at (j := j) HX.out
    have hzl := cell_lt q0
    have hxl := cell_lt x0
    simp only at hzl hxl
    go_wp2_with fail
    refine cut_end (Fin8 w.heap.size w2.heap.size w7 7 0 (nameD L p5).1 [103] (.slice ra (exprsD L (nextD L 3 p2).1 (nextD L 3 p2).2).1.length rcap) (.slice none 0 0) (.slice none 0 0)) ⟨by (repeat refine Kept.set ?_ (.inl (by simp)) _ _); exact Kept.refl _ _, ⟨by go_simp, by go_simp, by go_simp, by go_simp, by go_simp, by go_simp, by go_simp, by go_simp⟩⟩ ?_
    intro W' hf
    obtain ⟨r0, r1, r2, r3, r4, r5, r6, r7⟩ := hf.2
    simp only [Nat.zero_add] at r0 r1 r2 r3 r4 r5 r6 r7
    refine bodyPost_ret (v := .agg #[.int .i64 7, .int .i64 0, .string ⟨List.toArray (nameD L p5).1⟩, .int .i64 0, .string ⟨List.toArray [103]⟩, (.slice ra (exprsD L (nextD L 3 p2).1 (nextD L 3 p2).2).1.length rcap), (.slice none 0 0), (.slice none 0 0)]) (by simp [results, Tryz.results61, go_sem, r0, r1, r2, r3, r4, r5, r6, r7]) rfl ?_
    exact st_post (as_ := (exprsD L (nextD L 3 p2).1 (nextD L 3 p2).2).1) (bs := []) (es := []) hf (stWf' (show I64 7 from i64_sm (by decide)) (show I64 0 from i64_sm (by decide)) (HNS.out _) (by decide) hlc hcm (Nat.le_refl _) z_le (Nat.le_refl _) z_le) (by omega) (by omega) HROW.out trivial trivial HS hsb HK.out
end Go.Proofs.YtnkmbddjekepkaaGreatDoor
