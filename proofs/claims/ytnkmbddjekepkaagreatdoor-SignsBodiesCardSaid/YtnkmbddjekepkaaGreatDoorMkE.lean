/- The source of a draft: stmt answers the model's statement for the kinds without blocks, in new memory, and changes only the source's own cells. -/
import Derived.Test.YtnkmbddjekepkaaGreatDoorMkD
import Derived.Deep.RegionHeld3
namespace Go.Proofs.YtnkmbddjekepkaaGreatDoor
open Go Go.RowKit
set_option linter.unusedSimpArgs false
set_option linter.unusedVariables false
set_option linter.unnecessarySimpa false
/-- What a part of the source answers of a statement, of a block. -/
def StPost (w : World) (sb : Nat) (L : List Nat) (q : St × Sd) (r : Ending) (w' : World) : Prop :=
  (∃ v, r = .returned v ∧ St.Val (nw w.heap.size w') q.1 v) ∧ Src w' sb L q.2.1 q.2.2 ∧ Kept [sb] w w'
def BlkPost (w : World) (sb : Nat) (L : List Nat) (q : List St × Sd) (r : Ending) (w' : World) : Prop :=
  (∃ v, r = .returned v ∧ OwnL w' w.heap.size 84 8 StC (List.range w.heap.size) v q.1) ∧ Src w' sb L q.2.1 q.2.2 ∧ Kept [sb] w w'
theorem stWf' {k t : Int} {s c : Bytes} {la ca lb cb le ce : Nat} (hk : I64 k) (ht : I64 t) (hs : s.length ≤ 100) (hc : c.length ≤ 100) (h1 : la ≤ ca) (h2 : ca ≤ maxLen) (h3 : lb ≤ cb) (h4 : cb ≤ maxLen) (h5 : le ≤ ce) (h6 : ce ≤ maxLen) : StWf k 0 s t c la ca lb cb le ce :=
  ⟨hk, i64_sm (by decide), by unfold maxLen; omega, ht, by unfold maxLen; omega, h1, h2, h3, h4, h5, h6⟩
theorem z_le : 0 ≤ maxLen := Nat.zero_le _
/-- What is said of the end: of the world W only the blocks R and X have turned, and R's cells are these. -/
def Fin8 (R X : Nat) (W : World) (k t : Int) (s c : Bytes) (va vb ve : Value) (W' : World) : Prop :=
  Kept [R, X] W W' ∧ StCells W' R 0 k 0 s t c va vb ve
theorem st_post {w W W' : World} {sb R X n : Nat} {L : List Nat} {k t : Int} {s c : Bytes} {as_ : List Ex} {bs es : List St} {pa pb pe : Option Addr} {ca cb ce : Nat} {q : Sd} (hf : Fin8 R X W k t s c (.slice pa as_.length ca) (.slice pb bs.length cb) (.slice pe es.length ce) W')
    (hwf : StWf k 0 s t c as_.length ca bs.length cb es.length ce) (hR : w.heap.size ≤ R ∧ R < n) (hX : w.heap.size ≤ X ∧ X < n) (ha : Ex.Row (nw n W) as_ pa) (hb : St.Row (nw n W) bs pb) (he : St.Row (nw n W) es pe)
    (hs : Src W sb L q.1 q.2) (hsb : sb < w.heap.size) (hK : Kept [sb] w W) :
    StPost w sb L (.mk k 0 s t c as_ bs es, q) (.returned (.agg #[.int .i64 k, .int .i64 0, .string ⟨s.toArray⟩, .int .i64 t, .string ⟨c.toArray⟩, .slice pa as_.length ca, .slice pb bs.length cb, .slice pe es.length ce])) W' := by
  have hh : Has (nw n W) (nw w.heap.size W') := (has_nw_kept hf.1 (by simp; omega)).tr (has_nws (by omega))
  exact ⟨⟨_, rfl, pa, pb, pe, ca, cb, ce, rfl, hwf, ha.has hh, hb.has hh, he.has hh⟩, hs.keep hf.1 (by simp; omega), hK.trNew hf.1 (by simp; omega)⟩
set_option maxRecDepth 20000 in
set_option maxHeartbeats 2000000 in
theorem sstmt_var (sb left : Nat) (L : List Nat) (ht : Int) (w : World) (p : Nat) (h : Src w sb L p left) (k p1 : Nat) (hq : nextD L 10 p = (k, p1)) (blk : Sd → List St × Sd) (hk : k = 0) :
    Calls Tryz.prog 61 #[.pointer (some ⟨sb, 0, none⟩), .int .i64 ht] w (StPost w sb L (stmtD L blk (p, left))) := by
  subst hk
  have HN := hide fun (n p : Nat) (hn : 0 < n) (hn2 : n ≤ 1000) (W : World) (hW : Src W sb L p left) => next_any sb left n p L W hW hn hn2
  have HNM := hide fun (p : Nat) (W : World) (hW : Src W sb L p left) => sname_any sb left p L W hW
  have HXS := hide fun (n : Nat) (hn : n ≤ 10) (p : Nat) (W : World) (hW : Src W sb L p left) => sexprs_any sb left L n hn W p hW
  have HSRC := hide (h.al (.cells #[.int .i64 0, .int .i64 0, .string ⟨#[]⟩, .int .i64 0, .string ⟨#[]⟩, .slice none 0 0, .slice none 0 0, .slice none 0 0] 84))
  have hsb := h.lt
  have HZ0 : Hid ((w.alloc (.cells #[.int .i64 0, .int .i64 0, .string ⟨#[]⟩, .int .i64 0, .string ⟨#[]⟩, .slice none 0 0, .slice none 0 0, .slice none 0 0] 84)).heap[w.heap.size]? = some (.cells #[.int .i64 0, .int .i64 0, .string ⟨#[]⟩, .int .i64 0, .string ⟨#[]⟩, .slice none 0 0, .slice none 0 0, .slice none 0 0] 84 (0, 0))) := hide (by show (w.heap.push _)[w.heap.size]? = _; simp)
  have HK0 := hide ((Kept.refl [sb] w).al (.cells #[.int .i64 0, .int .i64 0, .string ⟨#[]⟩, .int .i64 0, .string ⟨#[]⟩, .slice none 0 0, .slice none 0 0, .slice none 0 0] 84))
  have hI : ∀ n q m : Nat, 0 < n → n ≤ 100 → m ≤ 100 → I64 ((m : Int) + ((nextD L n q).1 : Nat)) := fun n q m h0 h1 h2 => by
    have := nextD_lt L q h0
    exact i64_sm (by omega)
  have HI := hide hI
  have hns : ∀ q, (nameD L q).1.length ≤ 100 := fun q => by have := (nm5_ok _ (nameD_mem L q)).2; omega
  have HNS := hide hns
  clear h hI hns
  have e : stmtD L blk (p, left) = (.mk 1 0 (nameD L p1).1 (1 + ((nextD L 3 (nameD L p1).2).1 : Nat)) [] (exprsD L (nextD L 2 (nextD L 3 (nameD L p1).2).2).1 (nextD L 2 (nextD L 3 (nameD L p1).2).2).2).1 [] [], (exprsD L (nextD L 2 (nextD L 3 (nameD L p1).2).2).1 (nextD L 2 (nextD L 3 (nameD L p1).2).2).2).2, left) := by rw [stmtD]; simp [hq]
  rw [e]
  clear e
  have hn2 := nextD_lt L (n := 2) (nextD L 3 (nameD L p1).2).2 (by omega)
  have hn3 := nextD_lt L (n := 3) (nameD L p1).2 (by omega)
  go_enter Tryz.func61, Tryz.ntmps61
  go_wp2_with fail
  refine (HN.out 10 p (by omega) (by omega) _ HSRC.out).mono ?_
  rintro r w2 ⟨hr, HS, hK⟩
  rw [hq] at hr HS
  subst hr
  have HZ := hide (hK.heap (by simp; omega) HZ0.out)
  have hw2 : w.heap.size < w2.heap.size := (Array.getElem?_eq_some_iff.1 HZ.out).1
  have HZ := hide ((Below.heap_alloc _ (.cells #[.int .i64 1, .int .i64 0, .string ⟨#[]⟩, .int .i64 0, .string ⟨#[]⟩, .slice none 0 0, .slice none 0 0, .slice none 0 0] 84) _ hw2).trans HZ.out)
  have HX : Hid ((w2.alloc (.cells #[.int .i64 1, .int .i64 0, .string ⟨#[]⟩, .int .i64 0, .string ⟨#[]⟩, .slice none 0 0, .slice none 0 0, .slice none 0 0] 84)).heap[w2.heap.size]? = some (.cells #[.int .i64 1, .int .i64 0, .string ⟨#[]⟩, .int .i64 0, .string ⟨#[]⟩, .slice none 0 0, .slice none 0 0, .slice none 0 0] 84 (0, 0))) := hide (by show (w2.heap.push _)[w2.heap.size]? = _; simp)
  have HS := HS.al (.cells #[.int .i64 1, .int .i64 0, .string ⟨#[]⟩, .int .i64 0, .string ⟨#[]⟩, .slice none 0 0, .slice none 0 0, .slice none 0 0] 84)
  have HK := hide ((HK0.out.tr hK).al (.cells #[.int .i64 1, .int .i64 0, .string ⟨#[]⟩, .int .i64 0, .string ⟨#[]⟩, .slice none 0 0, .slice none 0 0, .slice none 0 0] 84))
  clear hK
  have hne : ¬ w.heap.size = w2.heap.size := by omega
  have hne2 : ¬ w2.heap.size = w.heap.size := by omega
  go_wp2_with fail
  refine (HNM.out p1 _ HS).mono ?_
  rintro r w3 ⟨rfl, HS, hK⟩
  have HZ := hide (hK.heap (by simp; omega) HZ.out)
  have HX := hide (hK.heap (by simp; omega) HX.out)
  have hsz2 := hK.size
  have HK := hide (HK.out.tr hK)
  clear hK
  go_wp2_with fail
  refine (HN.out 3 (nameD L p1).2 (by omega) (by omega) _ HS).mono ?_
  rintro r w4 ⟨rfl, HS, hK⟩
  have HZ := hide (hK.heap (by simp; omega) HZ.out)
  have HX := hide (hK.heap (by simp; omega) HX.out)
  have hsz2 := hK.size
  have HK := hide (HK.out.tr hK)
  clear hK
  go_wp2_with fail
  refine (HN.out 2 (nextD L 3 (nameD L p1).2).2 (by omega) (by omega) _ HS).mono ?_
  rintro r w5 ⟨rfl, HS, hK⟩
  have HZ := hide (hK.heap (by simp; omega) HZ.out)
  have HX := hide (hK.heap (by simp; omega) HX.out)
  have hsz2 := hK.size
  have HK := hide (HK.out.tr hK)
  clear hK
  have hlt2 := (Array.getElem?_eq_some_iff.1 HX.out).1
  go_wp2_with fail
  refine (HXS.out (nextD L 2 (nextD L 3 (nameD L p1).2).2).1 (by omega) _ _ HS).mono ?_
  rintro r w6 ⟨⟨v, rfl, hown⟩, HS, hK⟩
  obtain ⟨ra, rcap, rfl, hrow, hlc, hcm⟩ := hown.exs below_range
  have HROW : Hid (Ex.Row (nw (w2.heap.size + 1) w6) _ ra) := hide (hrow.has (has_nws hlt2))
  have HZ := hide (hK.heap (by simp; omega) HZ.out)
  have HX := hide (hK.heap (by simp; omega) HX.out)
  have hsz2 := hK.size
  have HK := hide (HK.out.tr hK)
  clear hK hown hrow
  have q0 := cell_at (j := 0) HZ.out rfl
  have q1 := cell_at (j := 1) HZ.out rfl
  have q2 := cell_at (j := 2) HZ.out rfl
  have q3 := cell_at (j := 3) HZ.out rfl
  have q4 := cell_at (j := 4) HZ.out rfl
  have q5 := cell_at (j := 5) HZ.out rfl
  have q6 := cell_at (j := 6) HZ.out rfl
  have q7 := cell_at (j := 7) HZ.out rfl
  have x0 := cell_at (j := 0) HX.out rfl
  have x1 := cell_at (j := 1) HX.out rfl
  have x2 := cell_at (j := 2) HX.out rfl
  have x3 := cell_at (j := 3) HX.out rfl
  have x4 := cell_at (j := 4) HX.out rfl
  have x5 := cell_at (j := 5) HX.out rfl
  have x6 := cell_at (j := 6) HX.out rfl
  have x7 := cell_at (j := 7) HX.out rfl
  have z := fun j => free_at (j := j) HZ.out
  have y := fun j => free_at (j := j) HX.out
  have hzl := cell_lt q0
  have hxl := cell_lt x0
  simp only at hzl hxl
  go_wp2_with fail
  refine cut_end (Fin8 w.heap.size w2.heap.size w6 1 (1 + ((nextD L 3 (nameD L p1).2).1 : Nat)) (nameD L p1).1 [] (.slice ra (exprsD L (nextD L 2 (nextD L 3 (nameD L p1).2).2).1 (nextD L 2 (nextD L 3 (nameD L p1).2).2).2).1.length rcap) (.slice none 0 0) (.slice none 0 0)) ⟨by (repeat refine Kept.set ?_ (.inl (by simp)) _ _); exact Kept.refl _ _, ⟨by go_simp, by go_simp, by go_simp, by go_simp, by go_simp, by go_simp, by go_simp, by go_simp⟩⟩ ?_
  intro W' hf
  obtain ⟨r0, r1, r2, r3, r4, r5, r6, r7⟩ := hf.2
  simp only [Nat.zero_add] at r0 r1 r2 r3 r4 r5 r6 r7
  refine bodyPost_ret (v := .agg #[.int .i64 1, .int .i64 0, .string ⟨List.toArray (nameD L p1).1⟩, .int .i64 (1 + ((nextD L 3 (nameD L p1).2).1 : Nat)), .string ⟨List.toArray []⟩, (.slice ra (exprsD L (nextD L 2 (nextD L 3 (nameD L p1).2).2).1 (nextD L 2 (nextD L 3 (nameD L p1).2).2).2).1.length rcap), (.slice none 0 0), (.slice none 0 0)]) (by simp [results, Tryz.results61, go_sem, r0, r1, r2, r3, r4, r5, r6, r7]) rfl ?_
  exact st_post (as_ := (exprsD L (nextD L 2 (nextD L 3 (nameD L p1).2).2).1 (nextD L 2 (nextD L 3 (nameD L p1).2).2).2).1) (bs := []) (es := []) hf (stWf' (show I64 1 from i64_sm (by decide)) (HI.out 3 _ 1 (by omega) (by omega) (by omega)) (HNS.out _) (Nat.zero_le _) hlc hcm (Nat.le_refl _) z_le (Nat.le_refl _) z_le) (by omega) (by omega) HROW.out trivial trivial HS hsb HK.out
set_option maxRecDepth 20000 in
set_option maxHeartbeats 2000000 in
theorem sstmt_set2 (sb left : Nat) (L : List Nat) (ht : Int) (w : World) (p : Nat) (h : Src w sb L p left) (k p1 : Nat) (hq : nextD L 10 p = (k, p1)) (blk : Sd → List St × Sd) (hk : k = 1) :
    Calls Tryz.prog 61 #[.pointer (some ⟨sb, 0, none⟩), .int .i64 ht] w (StPost w sb L (stmtD L blk (p, left))) := by
  subst hk
  have HN := hide fun (n p : Nat) (hn : 0 < n) (hn2 : n ≤ 1000) (W : World) (hW : Src W sb L p left) => next_any sb left n p L W hW hn hn2
  have HNM := hide fun (p : Nat) (W : World) (hW : Src W sb L p left) => sname_any sb left p L W hW
  have HXS := hide fun (n : Nat) (hn : n ≤ 10) (p : Nat) (W : World) (hW : Src W sb L p left) => sexprs_any sb left L n hn W p hW
  have HSRC := hide (h.al (.cells #[.int .i64 0, .int .i64 0, .string ⟨#[]⟩, .int .i64 0, .string ⟨#[]⟩, .slice none 0 0, .slice none 0 0, .slice none 0 0] 84))
  have hsb := h.lt
  have HZ0 : Hid ((w.alloc (.cells #[.int .i64 0, .int .i64 0, .string ⟨#[]⟩, .int .i64 0, .string ⟨#[]⟩, .slice none 0 0, .slice none 0 0, .slice none 0 0] 84)).heap[w.heap.size]? = some (.cells #[.int .i64 0, .int .i64 0, .string ⟨#[]⟩, .int .i64 0, .string ⟨#[]⟩, .slice none 0 0, .slice none 0 0, .slice none 0 0] 84 (0, 0))) := hide (by show (w.heap.push _)[w.heap.size]? = _; simp)
  have HK0 := hide ((Kept.refl [sb] w).al (.cells #[.int .i64 0, .int .i64 0, .string ⟨#[]⟩, .int .i64 0, .string ⟨#[]⟩, .slice none 0 0, .slice none 0 0, .slice none 0 0] 84))
  have hI : ∀ n q m : Nat, 0 < n → n ≤ 100 → m ≤ 100 → I64 ((m : Int) + ((nextD L n q).1 : Nat)) := fun n q m h0 h1 h2 => by
    have := nextD_lt L q h0
    exact i64_sm (by omega)
  have HI := hide hI
  have hns : ∀ q, (nameD L q).1.length ≤ 100 := fun q => by have := (nm5_ok _ (nameD_mem L q)).2; omega
  have HNS := hide hns
  clear h hI hns
  have e : stmtD L blk (p, left) = (.mk 2 0 (nameD L p1).1 0 [] (exprsD L 1 (nameD L p1).2).1 [] [], (exprsD L 1 (nameD L p1).2).2, left) := by rw [stmtD]; simp [hq]
  rw [e]
  clear e
  go_enter Tryz.func61, Tryz.ntmps61
  go_wp2_with fail
  refine (HN.out 10 p (by omega) (by omega) _ HSRC.out).mono ?_
  rintro r w2 ⟨hr, HS, hK⟩
  rw [hq] at hr HS
  subst hr
  have HZ := hide (hK.heap (by simp; omega) HZ0.out)
  have hw2 : w.heap.size < w2.heap.size := (Array.getElem?_eq_some_iff.1 HZ.out).1
  have HZ := hide ((Below.heap_alloc _ (.cells #[.int .i64 2, .int .i64 0, .string ⟨#[]⟩, .int .i64 0, .string ⟨#[]⟩, .slice none 0 0, .slice none 0 0, .slice none 0 0] 84) _ hw2).trans HZ.out)
  have HX : Hid ((w2.alloc (.cells #[.int .i64 2, .int .i64 0, .string ⟨#[]⟩, .int .i64 0, .string ⟨#[]⟩, .slice none 0 0, .slice none 0 0, .slice none 0 0] 84)).heap[w2.heap.size]? = some (.cells #[.int .i64 2, .int .i64 0, .string ⟨#[]⟩, .int .i64 0, .string ⟨#[]⟩, .slice none 0 0, .slice none 0 0, .slice none 0 0] 84 (0, 0))) := hide (by show (w2.heap.push _)[w2.heap.size]? = _; simp)
  have HS := HS.al (.cells #[.int .i64 2, .int .i64 0, .string ⟨#[]⟩, .int .i64 0, .string ⟨#[]⟩, .slice none 0 0, .slice none 0 0, .slice none 0 0] 84)
  have HK := hide ((HK0.out.tr hK).al (.cells #[.int .i64 2, .int .i64 0, .string ⟨#[]⟩, .int .i64 0, .string ⟨#[]⟩, .slice none 0 0, .slice none 0 0, .slice none 0 0] 84))
  clear hK
  have hne : ¬ w.heap.size = w2.heap.size := by omega
  have hne2 : ¬ w2.heap.size = w.heap.size := by omega
  go_wp2_with fail
  refine (HNM.out p1 _ HS).mono ?_
  rintro r w3 ⟨rfl, HS, hK⟩
  have HZ := hide (hK.heap (by simp; omega) HZ.out)
  have HX := hide (hK.heap (by simp; omega) HX.out)
  have hsz2 := hK.size
  have HK := hide (HK.out.tr hK)
  clear hK
  have hlt2 := (Array.getElem?_eq_some_iff.1 HX.out).1
  go_wp2_with fail
  refine (HXS.out 1 (by omega) _ _ HS).mono ?_
  rintro r w6 ⟨⟨v, rfl, hown⟩, HS, hK⟩
  obtain ⟨ra, rcap, rfl, hrow, hlc, hcm⟩ := hown.exs below_range
  have HROW : Hid (Ex.Row (nw (w2.heap.size + 1) w6) _ ra) := hide (hrow.has (has_nws hlt2))
  have HZ := hide (hK.heap (by simp; omega) HZ.out)
  have HX := hide (hK.heap (by simp; omega) HX.out)
  have hsz2 := hK.size
  have HK := hide (HK.out.tr hK)
  clear hK hown hrow
  have q0 := cell_at (j := 0) HZ.out rfl
  have q1 := cell_at (j := 1) HZ.out rfl
  have q2 := cell_at (j := 2) HZ.out rfl
  have q3 := cell_at (j := 3) HZ.out rfl
  have q4 := cell_at (j := 4) HZ.out rfl
  have q5 := cell_at (j := 5) HZ.out rfl
  have q6 := cell_at (j := 6) HZ.out rfl
  have q7 := cell_at (j := 7) HZ.out rfl
  have x0 := cell_at (j := 0) HX.out rfl
  have x1 := cell_at (j := 1) HX.out rfl
  have x2 := cell_at (j := 2) HX.out rfl
  have x3 := cell_at (j := 3) HX.out rfl
  have x4 := cell_at (j := 4) HX.out rfl
  have x5 := cell_at (j := 5) HX.out rfl
  have x6 := cell_at (j := 6) HX.out rfl
  have x7 := cell_at (j := 7) HX.out rfl
  have z := fun j => free_at (j := j) HZ.out
  have y := fun j => free_at (j := j) HX.out
  have hzl := cell_lt q0
  have hxl := cell_lt x0
  simp only at hzl hxl
  go_wp2_with fail
  refine cut_end (Fin8 w.heap.size w2.heap.size w6 2 0 (nameD L p1).1 [] (.slice ra (exprsD L 1 (nameD L p1).2).1.length rcap) (.slice none 0 0) (.slice none 0 0)) ⟨by (repeat refine Kept.set ?_ (.inl (by simp)) _ _); exact Kept.refl _ _, ⟨by go_simp, by go_simp, by go_simp, by go_simp, by go_simp, by go_simp, by go_simp, by go_simp⟩⟩ ?_
  intro W' hf
  obtain ⟨r0, r1, r2, r3, r4, r5, r6, r7⟩ := hf.2
  simp only [Nat.zero_add] at r0 r1 r2 r3 r4 r5 r6 r7
  refine bodyPost_ret (v := .agg #[.int .i64 2, .int .i64 0, .string ⟨List.toArray (nameD L p1).1⟩, .int .i64 0, .string ⟨List.toArray []⟩, (.slice ra (exprsD L 1 (nameD L p1).2).1.length rcap), (.slice none 0 0), (.slice none 0 0)]) (by simp [results, Tryz.results61, go_sem, r0, r1, r2, r3, r4, r5, r6, r7]) rfl ?_
  exact st_post (as_ := (exprsD L 1 (nameD L p1).2).1) (bs := []) (es := []) hf (stWf' (show I64 2 from i64_sm (by decide)) (show I64 0 from i64_sm (by decide)) (HNS.out _) (Nat.zero_le _) hlc hcm (Nat.le_refl _) z_le (Nat.le_refl _) z_le) (by omega) (by omega) HROW.out trivial trivial HS hsb HK.out
set_option maxRecDepth 20000 in
set_option maxHeartbeats 2000000 in
theorem sstmt_set4 (sb left : Nat) (L : List Nat) (ht : Int) (w : World) (p : Nat) (h : Src w sb L p left) (k p1 : Nat) (hq : nextD L 10 p = (k, p1)) (blk : Sd → List St × Sd) (hk : k = 3) :
    Calls Tryz.prog 61 #[.pointer (some ⟨sb, 0, none⟩), .int .i64 ht] w (StPost w sb L (stmtD L blk (p, left))) := by
  subst hk
  have HN := hide fun (n p : Nat) (hn : 0 < n) (hn2 : n ≤ 1000) (W : World) (hW : Src W sb L p left) => next_any sb left n p L W hW hn hn2
  have HNM := hide fun (p : Nat) (W : World) (hW : Src W sb L p left) => sname_any sb left p L W hW
  have HXS := hide fun (n : Nat) (hn : n ≤ 10) (p : Nat) (W : World) (hW : Src W sb L p left) => sexprs_any sb left L n hn W p hW
  have HSRC := hide (h.al (.cells #[.int .i64 0, .int .i64 0, .string ⟨#[]⟩, .int .i64 0, .string ⟨#[]⟩, .slice none 0 0, .slice none 0 0, .slice none 0 0] 84))
  have hsb := h.lt
  have HZ0 : Hid ((w.alloc (.cells #[.int .i64 0, .int .i64 0, .string ⟨#[]⟩, .int .i64 0, .string ⟨#[]⟩, .slice none 0 0, .slice none 0 0, .slice none 0 0] 84)).heap[w.heap.size]? = some (.cells #[.int .i64 0, .int .i64 0, .string ⟨#[]⟩, .int .i64 0, .string ⟨#[]⟩, .slice none 0 0, .slice none 0 0, .slice none 0 0] 84 (0, 0))) := hide (by show (w.heap.push _)[w.heap.size]? = _; simp)
  have HK0 := hide ((Kept.refl [sb] w).al (.cells #[.int .i64 0, .int .i64 0, .string ⟨#[]⟩, .int .i64 0, .string ⟨#[]⟩, .slice none 0 0, .slice none 0 0, .slice none 0 0] 84))
  have hI : ∀ n q m : Nat, 0 < n → n ≤ 100 → m ≤ 100 → I64 ((m : Int) + ((nextD L n q).1 : Nat)) := fun n q m h0 h1 h2 => by
    have := nextD_lt L q h0
    exact i64_sm (by omega)
  have HI := hide hI
  have hns : ∀ q, (nameD L q).1.length ≤ 100 := fun q => by have := (nm5_ok _ (nameD_mem L q)).2; omega
  have HNS := hide hns
  clear h hI hns
  have e : stmtD L blk (p, left) = (.mk 4 0 (nameD L p1).1 0 [] (exprsD L 1 (nameD L p1).2).1 [] [], (exprsD L 1 (nameD L p1).2).2, left) := by rw [stmtD]; simp [hq]
  rw [e]
  clear e
  go_enter Tryz.func61, Tryz.ntmps61
  go_wp2_with fail
  refine (HN.out 10 p (by omega) (by omega) _ HSRC.out).mono ?_
  rintro r w2 ⟨hr, HS, hK⟩
  rw [hq] at hr HS
  subst hr
  have HZ := hide (hK.heap (by simp; omega) HZ0.out)
  have hw2 : w.heap.size < w2.heap.size := (Array.getElem?_eq_some_iff.1 HZ.out).1
  have HZ := hide ((Below.heap_alloc _ (.cells #[.int .i64 4, .int .i64 0, .string ⟨#[]⟩, .int .i64 0, .string ⟨#[]⟩, .slice none 0 0, .slice none 0 0, .slice none 0 0] 84) _ hw2).trans HZ.out)
  have HX : Hid ((w2.alloc (.cells #[.int .i64 4, .int .i64 0, .string ⟨#[]⟩, .int .i64 0, .string ⟨#[]⟩, .slice none 0 0, .slice none 0 0, .slice none 0 0] 84)).heap[w2.heap.size]? = some (.cells #[.int .i64 4, .int .i64 0, .string ⟨#[]⟩, .int .i64 0, .string ⟨#[]⟩, .slice none 0 0, .slice none 0 0, .slice none 0 0] 84 (0, 0))) := hide (by show (w2.heap.push _)[w2.heap.size]? = _; simp)
  have HS := HS.al (.cells #[.int .i64 4, .int .i64 0, .string ⟨#[]⟩, .int .i64 0, .string ⟨#[]⟩, .slice none 0 0, .slice none 0 0, .slice none 0 0] 84)
  have HK := hide ((HK0.out.tr hK).al (.cells #[.int .i64 4, .int .i64 0, .string ⟨#[]⟩, .int .i64 0, .string ⟨#[]⟩, .slice none 0 0, .slice none 0 0, .slice none 0 0] 84))
  clear hK
  have hne : ¬ w.heap.size = w2.heap.size := by omega
  have hne2 : ¬ w2.heap.size = w.heap.size := by omega
  go_wp2_with fail
  refine (HNM.out p1 _ HS).mono ?_
  rintro r w3 ⟨rfl, HS, hK⟩
  have HZ := hide (hK.heap (by simp; omega) HZ.out)
  have HX := hide (hK.heap (by simp; omega) HX.out)
  have hsz2 := hK.size
  have HK := hide (HK.out.tr hK)
  clear hK
  have hlt2 := (Array.getElem?_eq_some_iff.1 HX.out).1
  go_wp2_with fail
  refine (HXS.out 1 (by omega) _ _ HS).mono ?_
  rintro r w6 ⟨⟨v, rfl, hown⟩, HS, hK⟩
  obtain ⟨ra, rcap, rfl, hrow, hlc, hcm⟩ := hown.exs below_range
  have HROW : Hid (Ex.Row (nw (w2.heap.size + 1) w6) _ ra) := hide (hrow.has (has_nws hlt2))
  have HZ := hide (hK.heap (by simp; omega) HZ.out)
  have HX := hide (hK.heap (by simp; omega) HX.out)
  have hsz2 := hK.size
  have HK := hide (HK.out.tr hK)
  clear hK hown hrow
  have q0 := cell_at (j := 0) HZ.out rfl
  have q1 := cell_at (j := 1) HZ.out rfl
  have q2 := cell_at (j := 2) HZ.out rfl
  have q3 := cell_at (j := 3) HZ.out rfl
  have q4 := cell_at (j := 4) HZ.out rfl
  have q5 := cell_at (j := 5) HZ.out rfl
  have q6 := cell_at (j := 6) HZ.out rfl
  have q7 := cell_at (j := 7) HZ.out rfl
  have x0 := cell_at (j := 0) HX.out rfl
  have x1 := cell_at (j := 1) HX.out rfl
  have x2 := cell_at (j := 2) HX.out rfl
  have x3 := cell_at (j := 3) HX.out rfl
  have x4 := cell_at (j := 4) HX.out rfl
  have x5 := cell_at (j := 5) HX.out rfl
  have x6 := cell_at (j := 6) HX.out rfl
  have x7 := cell_at (j := 7) HX.out rfl
  have z := fun j => free_at (j := j) HZ.out
  have y := fun j => free_at (j := j) HX.out
  have hzl := cell_lt q0
  have hxl := cell_lt x0
  simp only at hzl hxl
  go_wp2_with fail
  refine cut_end (Fin8 w.heap.size w2.heap.size w6 4 0 (nameD L p1).1 [] (.slice ra (exprsD L 1 (nameD L p1).2).1.length rcap) (.slice none 0 0) (.slice none 0 0)) ⟨by (repeat refine Kept.set ?_ (.inl (by simp)) _ _); exact Kept.refl _ _, ⟨by go_simp, by go_simp, by go_simp, by go_simp, by go_simp, by go_simp, by go_simp, by go_simp⟩⟩ ?_
  intro W' hf
  obtain ⟨r0, r1, r2, r3, r4, r5, r6, r7⟩ := hf.2
  simp only [Nat.zero_add] at r0 r1 r2 r3 r4 r5 r6 r7
  refine bodyPost_ret (v := .agg #[.int .i64 4, .int .i64 0, .string ⟨List.toArray (nameD L p1).1⟩, .int .i64 0, .string ⟨List.toArray []⟩, (.slice ra (exprsD L 1 (nameD L p1).2).1.length rcap), (.slice none 0 0), (.slice none 0 0)]) (by simp [results, Tryz.results61, go_sem, r0, r1, r2, r3, r4, r5, r6, r7]) rfl ?_
  exact st_post (as_ := (exprsD L 1 (nameD L p1).2).1) (bs := []) (es := []) hf (stWf' (show I64 4 from i64_sm (by decide)) (show I64 0 from i64_sm (by decide)) (HNS.out _) (Nat.zero_le _) hlc hcm (Nat.le_refl _) z_le (Nat.le_refl _) z_le) (by omega) (by omega) HROW.out trivial trivial HS hsb HK.out
set_option maxRecDepth 20000 in
set_option maxHeartbeats 2000000 in
theorem sstmt_store (sb left : Nat) (L : List Nat) (ht : Int) (w : World) (p : Nat) (h : Src w sb L p left) (k p1 : Nat) (hq : nextD L 10 p = (k, p1)) (blk : Sd → List St × Sd) (hk : k = 2) :
    Calls Tryz.prog 61 #[.pointer (some ⟨sb, 0, none⟩), .int .i64 ht] w (StPost w sb L (stmtD L blk (p, left))) := by
  subst hk
  have HN := hide fun (n p : Nat) (hn : 0 < n) (hn2 : n ≤ 1000) (W : World) (hW : Src W sb L p left) => next_any sb left n p L W hW hn hn2
  have HNM := hide fun (p : Nat) (W : World) (hW : Src W sb L p left) => sname_any sb left p L W hW
  have HXS := hide fun (n : Nat) (hn : n ≤ 10) (p : Nat) (W : World) (hW : Src W sb L p left) => sexprs_any sb left L n hn W p hW
  have HSRC := hide (h.al (.cells #[.int .i64 0, .int .i64 0, .string ⟨#[]⟩, .int .i64 0, .string ⟨#[]⟩, .slice none 0 0, .slice none 0 0, .slice none 0 0] 84))
  have hsb := h.lt
  have HZ0 : Hid ((w.alloc (.cells #[.int .i64 0, .int .i64 0, .string ⟨#[]⟩, .int .i64 0, .string ⟨#[]⟩, .slice none 0 0, .slice none 0 0, .slice none 0 0] 84)).heap[w.heap.size]? = some (.cells #[.int .i64 0, .int .i64 0, .string ⟨#[]⟩, .int .i64 0, .string ⟨#[]⟩, .slice none 0 0, .slice none 0 0, .slice none 0 0] 84 (0, 0))) := hide (by show (w.heap.push _)[w.heap.size]? = _; simp)
  have HK0 := hide ((Kept.refl [sb] w).al (.cells #[.int .i64 0, .int .i64 0, .string ⟨#[]⟩, .int .i64 0, .string ⟨#[]⟩, .slice none 0 0, .slice none 0 0, .slice none 0 0] 84))
  have hI : ∀ n q m : Nat, 0 < n → n ≤ 100 → m ≤ 100 → I64 ((m : Int) + ((nextD L n q).1 : Nat)) := fun n q m h0 h1 h2 => by
    have := nextD_lt L q h0
    exact i64_sm (by omega)
  have HI := hide hI
  have hns : ∀ q, (nameD L q).1.length ≤ 100 := fun q => by have := (nm5_ok _ (nameD_mem L q)).2; omega
  have HNS := hide hns
  clear h hI hns
  have e : stmtD L blk (p, left) = (.mk 3 0 (nameD L p1).1 0 [] (exprsD L 2 (nameD L p1).2).1 [] [], (exprsD L 2 (nameD L p1).2).2, left) := by rw [stmtD]; simp [hq]
  rw [e]
  clear e
  go_enter Tryz.func61, Tryz.ntmps61
  go_wp2_with fail
  refine (HN.out 10 p (by omega) (by omega) _ HSRC.out).mono ?_
  rintro r w2 ⟨hr, HS, hK⟩
  rw [hq] at hr HS
  subst hr
  have HZ := hide (hK.heap (by simp; omega) HZ0.out)
  have hw2 : w.heap.size < w2.heap.size := (Array.getElem?_eq_some_iff.1 HZ.out).1
  have HZ := hide ((Below.heap_alloc _ (.cells #[.int .i64 3, .int .i64 0, .string ⟨#[]⟩, .int .i64 0, .string ⟨#[]⟩, .slice none 0 0, .slice none 0 0, .slice none 0 0] 84) _ hw2).trans HZ.out)
  have HX : Hid ((w2.alloc (.cells #[.int .i64 3, .int .i64 0, .string ⟨#[]⟩, .int .i64 0, .string ⟨#[]⟩, .slice none 0 0, .slice none 0 0, .slice none 0 0] 84)).heap[w2.heap.size]? = some (.cells #[.int .i64 3, .int .i64 0, .string ⟨#[]⟩, .int .i64 0, .string ⟨#[]⟩, .slice none 0 0, .slice none 0 0, .slice none 0 0] 84 (0, 0))) := hide (by show (w2.heap.push _)[w2.heap.size]? = _; simp)
  have HS := HS.al (.cells #[.int .i64 3, .int .i64 0, .string ⟨#[]⟩, .int .i64 0, .string ⟨#[]⟩, .slice none 0 0, .slice none 0 0, .slice none 0 0] 84)
  have HK := hide ((HK0.out.tr hK).al (.cells #[.int .i64 3, .int .i64 0, .string ⟨#[]⟩, .int .i64 0, .string ⟨#[]⟩, .slice none 0 0, .slice none 0 0, .slice none 0 0] 84))
  clear hK
  have hne : ¬ w.heap.size = w2.heap.size := by omega
  have hne2 : ¬ w2.heap.size = w.heap.size := by omega
  go_wp2_with fail
  refine (HNM.out p1 _ HS).mono ?_
  rintro r w3 ⟨rfl, HS, hK⟩
  have HZ := hide (hK.heap (by simp; omega) HZ.out)
  have HX := hide (hK.heap (by simp; omega) HX.out)
  have hsz2 := hK.size
  have HK := hide (HK.out.tr hK)
  clear hK
  have hlt2 := (Array.getElem?_eq_some_iff.1 HX.out).1
  go_wp2_with fail
  refine (HXS.out 2 (by omega) _ _ HS).mono ?_
  rintro r w6 ⟨⟨v, rfl, hown⟩, HS, hK⟩
  obtain ⟨ra, rcap, rfl, hrow, hlc, hcm⟩ := hown.exs below_range
  have HROW : Hid (Ex.Row (nw (w2.heap.size + 1) w6) _ ra) := hide (hrow.has (has_nws hlt2))
  have HZ := hide (hK.heap (by simp; omega) HZ.out)
  have HX := hide (hK.heap (by simp; omega) HX.out)
  have hsz2 := hK.size
  have HK := hide (HK.out.tr hK)
  clear hK hown hrow
  have q0 := cell_at (j := 0) HZ.out rfl
  have q1 := cell_at (j := 1) HZ.out rfl
  have q2 := cell_at (j := 2) HZ.out rfl
  have q3 := cell_at (j := 3) HZ.out rfl
  have q4 := cell_at (j := 4) HZ.out rfl
  have q5 := cell_at (j := 5) HZ.out rfl
  have q6 := cell_at (j := 6) HZ.out rfl
  have q7 := cell_at (j := 7) HZ.out rfl
  have x0 := cell_at (j := 0) HX.out rfl
  have x1 := cell_at (j := 1) HX.out rfl
  have x2 := cell_at (j := 2) HX.out rfl
  have x3 := cell_at (j := 3) HX.out rfl
  have x4 := cell_at (j := 4) HX.out rfl
  have x5 := cell_at (j := 5) HX.out rfl
  have x6 := cell_at (j := 6) HX.out rfl
  have x7 := cell_at (j := 7) HX.out rfl
  have z := fun j => free_at (j := j) HZ.out
  have y := fun j => free_at (j := j) HX.out
  have hzl := cell_lt q0
  have hxl := cell_lt x0
  simp only at hzl hxl
  go_wp2_with fail
  refine cut_end (Fin8 w.heap.size w2.heap.size w6 3 0 (nameD L p1).1 [] (.slice ra (exprsD L 2 (nameD L p1).2).1.length rcap) (.slice none 0 0) (.slice none 0 0)) ⟨by (repeat refine Kept.set ?_ (.inl (by simp)) _ _); exact Kept.refl _ _, ⟨by go_simp, by go_simp, by go_simp, by go_simp, by go_simp, by go_simp, by go_simp, by go_simp⟩⟩ ?_
  intro W' hf
  obtain ⟨r0, r1, r2, r3, r4, r5, r6, r7⟩ := hf.2
  simp only [Nat.zero_add] at r0 r1 r2 r3 r4 r5 r6 r7
  refine bodyPost_ret (v := .agg #[.int .i64 3, .int .i64 0, .string ⟨List.toArray (nameD L p1).1⟩, .int .i64 0, .string ⟨List.toArray []⟩, (.slice ra (exprsD L 2 (nameD L p1).2).1.length rcap), (.slice none 0 0), (.slice none 0 0)]) (by simp [results, Tryz.results61, go_sem, r0, r1, r2, r3, r4, r5, r6, r7]) rfl ?_
  exact st_post (as_ := (exprsD L 2 (nameD L p1).2).1) (bs := []) (es := []) hf (stWf' (show I64 3 from i64_sm (by decide)) (show I64 0 from i64_sm (by decide)) (HNS.out _) (Nat.zero_le _) hlc hcm (Nat.le_refl _) z_le (Nat.le_refl _) z_le) (by omega) (by omega) HROW.out trivial trivial HS hsb HK.out
set_option maxRecDepth 20000 in
set_option maxHeartbeats 2000000 in
theorem sstmt_read (sb left : Nat) (L : List Nat) (ht : Int) (w : World) (p : Nat) (h : Src w sb L p left) (k p1 : Nat) (hq : nextD L 10 p = (k, p1)) (blk : Sd → List St × Sd) (hk : k = 4) :
    Calls Tryz.prog 61 #[.pointer (some ⟨sb, 0, none⟩), .int .i64 ht] w (StPost w sb L (stmtD L blk (p, left))) := by
  subst hk
  have HN := hide fun (n p : Nat) (hn : 0 < n) (hn2 : n ≤ 1000) (W : World) (hW : Src W sb L p left) => next_any sb left n p L W hW hn hn2
  have HNM := hide fun (p : Nat) (W : World) (hW : Src W sb L p left) => sname_any sb left p L W hW
  have HXS := hide fun (n : Nat) (hn : n ≤ 10) (p : Nat) (W : World) (hW : Src W sb L p left) => sexprs_any sb left L n hn W p hW
  have HSRC := hide (h.al (.cells #[.int .i64 0, .int .i64 0, .string ⟨#[]⟩, .int .i64 0, .string ⟨#[]⟩, .slice none 0 0, .slice none 0 0, .slice none 0 0] 84))
  have hsb := h.lt
  have HZ0 : Hid ((w.alloc (.cells #[.int .i64 0, .int .i64 0, .string ⟨#[]⟩, .int .i64 0, .string ⟨#[]⟩, .slice none 0 0, .slice none 0 0, .slice none 0 0] 84)).heap[w.heap.size]? = some (.cells #[.int .i64 0, .int .i64 0, .string ⟨#[]⟩, .int .i64 0, .string ⟨#[]⟩, .slice none 0 0, .slice none 0 0, .slice none 0 0] 84 (0, 0))) := hide (by show (w.heap.push _)[w.heap.size]? = _; simp)
  have HK0 := hide ((Kept.refl [sb] w).al (.cells #[.int .i64 0, .int .i64 0, .string ⟨#[]⟩, .int .i64 0, .string ⟨#[]⟩, .slice none 0 0, .slice none 0 0, .slice none 0 0] 84))
  have hI : ∀ n q m : Nat, 0 < n → n ≤ 100 → m ≤ 100 → I64 ((m : Int) + ((nextD L n q).1 : Nat)) := fun n q m h0 h1 h2 => by
    have := nextD_lt L q h0
    exact i64_sm (by omega)
  have HI := hide hI
  have hns : ∀ q, (nameD L q).1.length ≤ 100 := fun q => by have := (nm5_ok _ (nameD_mem L q)).2; omega
  have HNS := hide hns
  clear h hI hns
  have e : stmtD L blk (p, left) = (.mk 5 0 (nameD L p1).1 0 [] [] [] [], (nameD L p1).2, left) := by rw [stmtD]; simp [hq]
  rw [e]
  clear e
  go_enter Tryz.func61, Tryz.ntmps61
  go_wp2_with fail
  refine (HN.out 10 p (by omega) (by omega) _ HSRC.out).mono ?_
  rintro r w2 ⟨hr, HS, hK⟩
  rw [hq] at hr HS
  subst hr
  have HZ := hide (hK.heap (by simp; omega) HZ0.out)
  have hw2 : w.heap.size < w2.heap.size := (Array.getElem?_eq_some_iff.1 HZ.out).1
  have HZ := hide ((Below.heap_alloc _ (.cells #[.int .i64 5, .int .i64 0, .string ⟨#[]⟩, .int .i64 0, .string ⟨#[]⟩, .slice none 0 0, .slice none 0 0, .slice none 0 0] 84) _ hw2).trans HZ.out)
  have HX : Hid ((w2.alloc (.cells #[.int .i64 5, .int .i64 0, .string ⟨#[]⟩, .int .i64 0, .string ⟨#[]⟩, .slice none 0 0, .slice none 0 0, .slice none 0 0] 84)).heap[w2.heap.size]? = some (.cells #[.int .i64 5, .int .i64 0, .string ⟨#[]⟩, .int .i64 0, .string ⟨#[]⟩, .slice none 0 0, .slice none 0 0, .slice none 0 0] 84 (0, 0))) := hide (by show (w2.heap.push _)[w2.heap.size]? = _; simp)
  have HS := HS.al (.cells #[.int .i64 5, .int .i64 0, .string ⟨#[]⟩, .int .i64 0, .string ⟨#[]⟩, .slice none 0 0, .slice none 0 0, .slice none 0 0] 84)
  have HK := hide ((HK0.out.tr hK).al (.cells #[.int .i64 5, .int .i64 0, .string ⟨#[]⟩, .int .i64 0, .string ⟨#[]⟩, .slice none 0 0, .slice none 0 0, .slice none 0 0] 84))
  clear hK
  have hne : ¬ w.heap.size = w2.heap.size := by omega
  have hne2 : ¬ w2.heap.size = w.heap.size := by omega
  go_wp2_with fail
  refine (HNM.out p1 _ HS).mono ?_
  rintro r w6 ⟨rfl, HS, hK⟩
  have HZ := hide (hK.heap (by simp; omega) HZ.out)
  have HX := hide (hK.heap (by simp; omega) HX.out)
  have hsz2 := hK.size
  have HK := hide (HK.out.tr hK)
  clear hK
  have hlt2 := (Array.getElem?_eq_some_iff.1 HX.out).1
  have q0 := cell_at (j := 0) HZ.out rfl
  have q1 := cell_at (j := 1) HZ.out rfl
  have q2 := cell_at (j := 2) HZ.out rfl
  have q3 := cell_at (j := 3) HZ.out rfl
  have q4 := cell_at (j := 4) HZ.out rfl
  have q5 := cell_at (j := 5) HZ.out rfl
  have q6 := cell_at (j := 6) HZ.out rfl
  have q7 := cell_at (j := 7) HZ.out rfl
  have x0 := cell_at (j := 0) HX.out rfl
  have x1 := cell_at (j := 1) HX.out rfl
  have x2 := cell_at (j := 2) HX.out rfl
  have x3 := cell_at (j := 3) HX.out rfl
  have x4 := cell_at (j := 4) HX.out rfl
  have x5 := cell_at (j := 5) HX.out rfl
  have x6 := cell_at (j := 6) HX.out rfl
  have x7 := cell_at (j := 7) HX.out rfl
  have z := fun j => free_at (j := j) HZ.out
  have y := fun j => free_at (j := j) HX.out
  have hzl := cell_lt q0
  have hxl := cell_lt x0
  simp only at hzl hxl
  go_wp2_with fail
  refine cut_end (Fin8 w.heap.size w2.heap.size w6 5 0 (nameD L p1).1 [] (.slice none 0 0) (.slice none 0 0) (.slice none 0 0)) ⟨by (repeat refine Kept.set ?_ (.inl (by simp)) _ _); exact Kept.refl _ _, ⟨by go_simp, by go_simp, by go_simp, by go_simp, by go_simp, by go_simp, by go_simp, by go_simp⟩⟩ ?_
  intro W' hf
  obtain ⟨r0, r1, r2, r3, r4, r5, r6, r7⟩ := hf.2
  simp only [Nat.zero_add] at r0 r1 r2 r3 r4 r5 r6 r7
  refine bodyPost_ret (v := .agg #[.int .i64 5, .int .i64 0, .string ⟨List.toArray (nameD L p1).1⟩, .int .i64 0, .string ⟨List.toArray []⟩, (.slice none 0 0), (.slice none 0 0), (.slice none 0 0)]) (by simp [results, Tryz.results61, go_sem, r0, r1, r2, r3, r4, r5, r6, r7]) rfl ?_
  exact st_post (n := w2.heap.size + 1) (as_ := []) (bs := []) (es := []) hf (stWf' (show I64 5 from i64_sm (by decide)) (show I64 0 from i64_sm (by decide)) (HNS.out _) (Nat.zero_le _) (Nat.le_refl _) z_le (Nat.le_refl _) z_le (Nat.le_refl _) z_le) (by omega) (by omega) trivial trivial trivial HS hsb HK.out
set_option maxRecDepth 20000 in
set_option maxHeartbeats 2000000 in
theorem sstmt_print (sb left : Nat) (L : List Nat) (ht : Int) (w : World) (p : Nat) (h : Src w sb L p left) (k p1 : Nat) (hq : nextD L 10 p = (k, p1)) (blk : Sd → List St × Sd) (hk : k = 5) :
    Calls Tryz.prog 61 #[.pointer (some ⟨sb, 0, none⟩), .int .i64 ht] w (StPost w sb L (stmtD L blk (p, left))) := by
  subst hk
  have HN := hide fun (n p : Nat) (hn : 0 < n) (hn2 : n ≤ 1000) (W : World) (hW : Src W sb L p left) => next_any sb left n p L W hW hn hn2
  have HNM := hide fun (p : Nat) (W : World) (hW : Src W sb L p left) => sname_any sb left p L W hW
  have HXS := hide fun (n : Nat) (hn : n ≤ 10) (p : Nat) (W : World) (hW : Src W sb L p left) => sexprs_any sb left L n hn W p hW
  have HSRC := hide (h.al (.cells #[.int .i64 0, .int .i64 0, .string ⟨#[]⟩, .int .i64 0, .string ⟨#[]⟩, .slice none 0 0, .slice none 0 0, .slice none 0 0] 84))
  have hsb := h.lt
  have HZ0 : Hid ((w.alloc (.cells #[.int .i64 0, .int .i64 0, .string ⟨#[]⟩, .int .i64 0, .string ⟨#[]⟩, .slice none 0 0, .slice none 0 0, .slice none 0 0] 84)).heap[w.heap.size]? = some (.cells #[.int .i64 0, .int .i64 0, .string ⟨#[]⟩, .int .i64 0, .string ⟨#[]⟩, .slice none 0 0, .slice none 0 0, .slice none 0 0] 84 (0, 0))) := hide (by show (w.heap.push _)[w.heap.size]? = _; simp)
  have HK0 := hide ((Kept.refl [sb] w).al (.cells #[.int .i64 0, .int .i64 0, .string ⟨#[]⟩, .int .i64 0, .string ⟨#[]⟩, .slice none 0 0, .slice none 0 0, .slice none 0 0] 84))
  have hI : ∀ n q m : Nat, 0 < n → n ≤ 100 → m ≤ 100 → I64 ((m : Int) + ((nextD L n q).1 : Nat)) := fun n q m h0 h1 h2 => by
    have := nextD_lt L q h0
    exact i64_sm (by omega)
  have HI := hide hI
  have hns : ∀ q, (nameD L q).1.length ≤ 100 := fun q => by have := (nm5_ok _ (nameD_mem L q)).2; omega
  have HNS := hide hns
  clear h hI hns
  have e : stmtD L blk (p, left) = (.mk 6 0 [] 0 [] (exprsD L 1 p1).1 [] [], (exprsD L 1 p1).2, left) := by rw [stmtD]; simp [hq]
  rw [e]
  clear e
  go_enter Tryz.func61, Tryz.ntmps61
  go_wp2_with fail
  refine (HN.out 10 p (by omega) (by omega) _ HSRC.out).mono ?_
  rintro r w2 ⟨hr, HS, hK⟩
  rw [hq] at hr HS
  subst hr
  have HZ := hide (hK.heap (by simp; omega) HZ0.out)
  have hw2 : w.heap.size < w2.heap.size := (Array.getElem?_eq_some_iff.1 HZ.out).1
  have HZ := hide ((Below.heap_alloc _ (.cells #[.int .i64 6, .int .i64 0, .string ⟨#[]⟩, .int .i64 0, .string ⟨#[]⟩, .slice none 0 0, .slice none 0 0, .slice none 0 0] 84) _ hw2).trans HZ.out)
  have HX : Hid ((w2.alloc (.cells #[.int .i64 6, .int .i64 0, .string ⟨#[]⟩, .int .i64 0, .string ⟨#[]⟩, .slice none 0 0, .slice none 0 0, .slice none 0 0] 84)).heap[w2.heap.size]? = some (.cells #[.int .i64 6, .int .i64 0, .string ⟨#[]⟩, .int .i64 0, .string ⟨#[]⟩, .slice none 0 0, .slice none 0 0, .slice none 0 0] 84 (0, 0))) := hide (by show (w2.heap.push _)[w2.heap.size]? = _; simp)
  have HS := HS.al (.cells #[.int .i64 6, .int .i64 0, .string ⟨#[]⟩, .int .i64 0, .string ⟨#[]⟩, .slice none 0 0, .slice none 0 0, .slice none 0 0] 84)
  have HK := hide ((HK0.out.tr hK).al (.cells #[.int .i64 6, .int .i64 0, .string ⟨#[]⟩, .int .i64 0, .string ⟨#[]⟩, .slice none 0 0, .slice none 0 0, .slice none 0 0] 84))
  clear hK
  have hne : ¬ w.heap.size = w2.heap.size := by omega
  have hne2 : ¬ w2.heap.size = w.heap.size := by omega
  have hlt2 := (Array.getElem?_eq_some_iff.1 HX.out).1
  go_wp2_with fail
  refine (HXS.out 1 (by omega) _ _ HS).mono ?_
  rintro r w6 ⟨⟨v, rfl, hown⟩, HS, hK⟩
  obtain ⟨ra, rcap, rfl, hrow, hlc, hcm⟩ := hown.exs below_range
  have HROW : Hid (Ex.Row (nw (w2.heap.size + 1) w6) _ ra) := hide (hrow.has (has_nws hlt2))
  have HZ := hide (hK.heap (by simp; omega) HZ.out)
  have HX := hide (hK.heap (by simp; omega) HX.out)
  have hsz2 := hK.size
  have HK := hide (HK.out.tr hK)
  clear hK hown hrow
  have q0 := cell_at (j := 0) HZ.out rfl
  have q1 := cell_at (j := 1) HZ.out rfl
  have q2 := cell_at (j := 2) HZ.out rfl
  have q3 := cell_at (j := 3) HZ.out rfl
  have q4 := cell_at (j := 4) HZ.out rfl
  have q5 := cell_at (j := 5) HZ.out rfl
  have q6 := cell_at (j := 6) HZ.out rfl
  have q7 := cell_at (j := 7) HZ.out rfl
  have x0 := cell_at (j := 0) HX.out rfl
  have x1 := cell_at (j := 1) HX.out rfl
  have x2 := cell_at (j := 2) HX.out rfl
  have x3 := cell_at (j := 3) HX.out rfl
  have x4 := cell_at (j := 4) HX.out rfl
  have x5 := cell_at (j := 5) HX.out rfl
  have x6 := cell_at (j := 6) HX.out rfl
  have x7 := cell_at (j := 7) HX.out rfl
  have z := fun j => free_at (j := j) HZ.out
  have y := fun j => free_at (j := j) HX.out
  have hzl := cell_lt q0
  have hxl := cell_lt x0
  simp only at hzl hxl
  go_wp2_with fail
  refine cut_end (Fin8 w.heap.size w2.heap.size w6 6 0 [] [] (.slice ra (exprsD L 1 p1).1.length rcap) (.slice none 0 0) (.slice none 0 0)) ⟨by (repeat refine Kept.set ?_ (.inl (by simp)) _ _); exact Kept.refl _ _, ⟨by go_simp, by go_simp, by go_simp, by go_simp, by go_simp, by go_simp, by go_simp, by go_simp⟩⟩ ?_
  intro W' hf
  obtain ⟨r0, r1, r2, r3, r4, r5, r6, r7⟩ := hf.2
  simp only [Nat.zero_add] at r0 r1 r2 r3 r4 r5 r6 r7
  refine bodyPost_ret (v := .agg #[.int .i64 6, .int .i64 0, .string ⟨List.toArray []⟩, .int .i64 0, .string ⟨List.toArray []⟩, (.slice ra (exprsD L 1 p1).1.length rcap), (.slice none 0 0), (.slice none 0 0)]) (by simp [results, Tryz.results61, go_sem, r0, r1, r2, r3, r4, r5, r6, r7]) rfl ?_
  exact st_post (as_ := (exprsD L 1 p1).1) (bs := []) (es := []) hf (stWf' (show I64 6 from i64_sm (by decide)) (show I64 0 from i64_sm (by decide)) (Nat.zero_le _) (Nat.zero_le _) hlc hcm (Nat.le_refl _) z_le (Nat.le_refl _) z_le) (by omega) (by omega) HROW.out trivial trivial HS hsb HK.out
set_option maxRecDepth 20000 in
set_option maxHeartbeats 2000000 in
theorem sstmt_return (sb left : Nat) (L : List Nat) (ht : Int) (w : World) (p : Nat) (h : Src w sb L p left) (k p1 : Nat) (hq : nextD L 10 p = (k, p1)) (blk : Sd → List St × Sd) (hk : k = 7) :
    Calls Tryz.prog 61 #[.pointer (some ⟨sb, 0, none⟩), .int .i64 ht] w (StPost w sb L (stmtD L blk (p, left))) := by
  subst hk
  have HN := hide fun (n p : Nat) (hn : 0 < n) (hn2 : n ≤ 1000) (W : World) (hW : Src W sb L p left) => next_any sb left n p L W hW hn hn2
  have HNM := hide fun (p : Nat) (W : World) (hW : Src W sb L p left) => sname_any sb left p L W hW
  have HXS := hide fun (n : Nat) (hn : n ≤ 10) (p : Nat) (W : World) (hW : Src W sb L p left) => sexprs_any sb left L n hn W p hW
  have HSRC := hide (h.al (.cells #[.int .i64 0, .int .i64 0, .string ⟨#[]⟩, .int .i64 0, .string ⟨#[]⟩, .slice none 0 0, .slice none 0 0, .slice none 0 0] 84))
  have hsb := h.lt
  have HZ0 : Hid ((w.alloc (.cells #[.int .i64 0, .int .i64 0, .string ⟨#[]⟩, .int .i64 0, .string ⟨#[]⟩, .slice none 0 0, .slice none 0 0, .slice none 0 0] 84)).heap[w.heap.size]? = some (.cells #[.int .i64 0, .int .i64 0, .string ⟨#[]⟩, .int .i64 0, .string ⟨#[]⟩, .slice none 0 0, .slice none 0 0, .slice none 0 0] 84 (0, 0))) := hide (by show (w.heap.push _)[w.heap.size]? = _; simp)
  have HK0 := hide ((Kept.refl [sb] w).al (.cells #[.int .i64 0, .int .i64 0, .string ⟨#[]⟩, .int .i64 0, .string ⟨#[]⟩, .slice none 0 0, .slice none 0 0, .slice none 0 0] 84))
  have hI : ∀ n q m : Nat, 0 < n → n ≤ 100 → m ≤ 100 → I64 ((m : Int) + ((nextD L n q).1 : Nat)) := fun n q m h0 h1 h2 => by
    have := nextD_lt L q h0
    exact i64_sm (by omega)
  have HI := hide hI
  have hns : ∀ q, (nameD L q).1.length ≤ 100 := fun q => by have := (nm5_ok _ (nameD_mem L q)).2; omega
  have HNS := hide hns
  clear h hI hns
  have e : stmtD L blk (p, left) = (.mk 8 0 [] 0 [] (exprsD L (nextD L 2 p1).1 (nextD L 2 p1).2).1 [] [], (exprsD L (nextD L 2 p1).1 (nextD L 2 p1).2).2, left) := by rw [stmtD]; simp [hq]
  rw [e]
  clear e
  have hn2 := nextD_lt L (n := 2) p1 (by omega)
  go_enter Tryz.func61, Tryz.ntmps61
  go_wp2_with fail
  refine (HN.out 10 p (by omega) (by omega) _ HSRC.out).mono ?_
  rintro r w2 ⟨hr, HS, hK⟩
  rw [hq] at hr HS
  subst hr
  have HZ := hide (hK.heap (by simp; omega) HZ0.out)
  have hw2 : w.heap.size < w2.heap.size := (Array.getElem?_eq_some_iff.1 HZ.out).1
  have HZ := hide ((Below.heap_alloc _ (.cells #[.int .i64 8, .int .i64 0, .string ⟨#[]⟩, .int .i64 0, .string ⟨#[]⟩, .slice none 0 0, .slice none 0 0, .slice none 0 0] 84) _ hw2).trans HZ.out)
  have HX : Hid ((w2.alloc (.cells #[.int .i64 8, .int .i64 0, .string ⟨#[]⟩, .int .i64 0, .string ⟨#[]⟩, .slice none 0 0, .slice none 0 0, .slice none 0 0] 84)).heap[w2.heap.size]? = some (.cells #[.int .i64 8, .int .i64 0, .string ⟨#[]⟩, .int .i64 0, .string ⟨#[]⟩, .slice none 0 0, .slice none 0 0, .slice none 0 0] 84 (0, 0))) := hide (by show (w2.heap.push _)[w2.heap.size]? = _; simp)
  have HS := HS.al (.cells #[.int .i64 8, .int .i64 0, .string ⟨#[]⟩, .int .i64 0, .string ⟨#[]⟩, .slice none 0 0, .slice none 0 0, .slice none 0 0] 84)
  have HK := hide ((HK0.out.tr hK).al (.cells #[.int .i64 8, .int .i64 0, .string ⟨#[]⟩, .int .i64 0, .string ⟨#[]⟩, .slice none 0 0, .slice none 0 0, .slice none 0 0] 84))
  clear hK
  have hne : ¬ w.heap.size = w2.heap.size := by omega
  have hne2 : ¬ w2.heap.size = w.heap.size := by omega
  go_wp2_with fail
  refine (HN.out 2 p1 (by omega) (by omega) _ HS).mono ?_
  rintro r w3 ⟨rfl, HS, hK⟩
  have HZ := hide (hK.heap (by simp; omega) HZ.out)
  have HX := hide (hK.heap (by simp; omega) HX.out)
  have hsz2 := hK.size
  have HK := hide (HK.out.tr hK)
  clear hK
  have hlt2 := (Array.getElem?_eq_some_iff.1 HX.out).1
  go_wp2_with fail
  refine (HXS.out (nextD L 2 p1).1 (by omega) _ _ HS).mono ?_
  rintro r w6 ⟨⟨v, rfl, hown⟩, HS, hK⟩
  obtain ⟨ra, rcap, rfl, hrow, hlc, hcm⟩ := hown.exs below_range
  have HROW : Hid (Ex.Row (nw (w2.heap.size + 1) w6) _ ra) := hide (hrow.has (has_nws hlt2))
  have HZ := hide (hK.heap (by simp; omega) HZ.out)
  have HX := hide (hK.heap (by simp; omega) HX.out)
  have hsz2 := hK.size
  have HK := hide (HK.out.tr hK)
  clear hK hown hrow
  have q0 := cell_at (j := 0) HZ.out rfl
  have q1 := cell_at (j := 1) HZ.out rfl
  have q2 := cell_at (j := 2) HZ.out rfl
  have q3 := cell_at (j := 3) HZ.out rfl
  have q4 := cell_at (j := 4) HZ.out rfl
  have q5 := cell_at (j := 5) HZ.out rfl
  have q6 := cell_at (j := 6) HZ.out rfl
  have q7 := cell_at (j := 7) HZ.out rfl
  have x0 := cell_at (j := 0) HX.out rfl
  have x1 := cell_at (j := 1) HX.out rfl
  have x2 := cell_at (j := 2) HX.out rfl
  have x3 := cell_at (j := 3) HX.out rfl
  have x4 := cell_at (j := 4) HX.out rfl
  have x5 := cell_at (j := 5) HX.out rfl
  have x6 := cell_at (j := 6) HX.out rfl
  have x7 := cell_at (j := 7) HX.out rfl
  have z := fun j => free_at (j := j) HZ.out
  have y := fun j => free_at (j := j) HX.out
  have hzl := cell_lt q0
  have hxl := cell_lt x0
  simp only at hzl hxl
  go_wp2_with fail
  refine cut_end (Fin8 w.heap.size w2.heap.size w6 8 0 [] [] (.slice ra (exprsD L (nextD L 2 p1).1 (nextD L 2 p1).2).1.length rcap) (.slice none 0 0) (.slice none 0 0)) ⟨by (repeat refine Kept.set ?_ (.inl (by simp)) _ _); exact Kept.refl _ _, ⟨by go_simp, by go_simp, by go_simp, by go_simp, by go_simp, by go_simp, by go_simp, by go_simp⟩⟩ ?_
  intro W' hf
  obtain ⟨r0, r1, r2, r3, r4, r5, r6, r7⟩ := hf.2
  simp only [Nat.zero_add] at r0 r1 r2 r3 r4 r5 r6 r7
  refine bodyPost_ret (v := .agg #[.int .i64 8, .int .i64 0, .string ⟨List.toArray []⟩, .int .i64 0, .string ⟨List.toArray []⟩, (.slice ra (exprsD L (nextD L 2 p1).1 (nextD L 2 p1).2).1.length rcap), (.slice none 0 0), (.slice none 0 0)]) (by simp [results, Tryz.results61, go_sem, r0, r1, r2, r3, r4, r5, r6, r7]) rfl ?_
  exact st_post (as_ := (exprsD L (nextD L 2 p1).1 (nextD L 2 p1).2).1) (bs := []) (es := []) hf (stWf' (show I64 8 from i64_sm (by decide)) (show I64 0 from i64_sm (by decide)) (Nat.zero_le _) (Nat.zero_le _) hlc hcm (Nat.le_refl _) z_le (Nat.le_refl _) z_le) (by omega) (by omega) HROW.out trivial trivial HS hsb HK.out
end Go.Proofs.YtnkmbddjekepkaaGreatDoor
