/- rewindlaw03.Draft.Made answers the model's program, in new memory. -/
import Derived.Test.YtnkmbddjekepkaaGreatDoorMkH
import Derived.Test.YtnkmbddjekepkaaGreatDoorRsG
import Derived.Deep.RegionLaw
namespace Go.Proofs.YtnkmbddjekepkaaGreatDoor
open Go Go.RowKit
set_option linter.unusedSimpArgs false
set_option linter.unusedVariables false
set_option linter.unnecessarySimpa false
/-- The slice a, l, cap holds these bytes. -/
structure U8s (w : World) (l : List Nat) (a : Option Addr) (cap : Nat) : Prop where
  len : l.length ≤ cap
  cap : cap ≤ maxLen
  addr : 0 < l.length → ∃ b o, a = some ⟨b, o, none⟩
  at_ : ∀ (b o : Nat), a = some ⟨b, o, none⟩ → ∀ (i : Nat) (h : i < l.length), l[i] ≤ 255 ∧ w.cell? ⟨b, o + i, none⟩ = some (.int .u8 (l[i] : Nat))
theorem U8s.has {w w' : World} {l : List Nat} {a : Option Addr} {cap : Nat} (h : U8s w l a cap) (hh : Has w w') : U8s w' l a cap :=
  ⟨h.len, h.cap, h.addr, fun b o e i hi => ⟨(h.at_ b o e i hi).1, hh _ _ _ (h.at_ b o e i hi).2⟩⟩
theorem src_new {w W : World} {D : List Nat} {a : Option Addr} {cap n sb : Nat} (h : U8s w D a cap) (hb : Below w.heap.size w W) (hs : sb = W.heap.size) (hn : n = (D.take 300).length) : Src (W.alloc (.cells #[.slice a n cap, .int .i64 0, .int .i64 0] 66)) sb (D.take 300) 0 0 := by
  subst hs
  subst hn
  refine ⟨a, cap, heap_alloc_new W _, Nat.zero_le _, ⟨by simp; omega, by omega⟩, fun h0 => ?_⟩
  have h1 : 0 < D.length := by simp at h0; omega
  obtain ⟨b, o, rfl⟩ := h.addr h1
  have hc := fun i (hi : i < D.length) => h.at_ b o rfl i hi
  refine ⟨b, o, rfl, ?_, fun i hi => ?_⟩
  · have := cell_lt (hc 0 h1).2
    simp only at this
    exact Nat.lt_of_lt_of_le this hb.size
  · have hi' : i < D.length := by simp at hi; omega
    have e : (D.take 300)[i]! = D[i] := by rw [getElem!_pos _ i hi]; simp
    rw [e]
    exact ⟨(hc i hi').1, cell_keep (hc i hi').2 (hb.al _) (Nat.le_refl _)⟩
/-- What is carried through a program that is being made: the source, the two blocks of the program. -/
structure Bum (sb : Nat) (L : List Nat) (w : World) (v : Value) (W : World) (p : Nat) : Prop where
  src : ∃ left, Src W sb L p left
  r : W.heap[w.heap.size]? = some (.cells #[.slice none 0 0] 24 (0, 0))
  x : W.heap[w.heap.size + 1 + 1]? = some (.cells #[v] 24 (0, 0))
  k : Below w.heap.size w W
section
variable {sb p : Nat} {L : List Nat} {w W : World} {v : Value}
theorem Bum.be {W' : World} (h : Bum sb L w v W p) (hb : Below W.heap.size W W') : Bum sb L w v W' p :=
  ⟨h.src.imp fun _ s => s.below hb, (hb.block _ (Array.getElem?_eq_some_iff.1 h.r).1).trans h.r, (hb.block _ (Array.getElem?_eq_some_iff.1 h.x).1).trans h.x, h.k.tr hb⟩
theorem Bum.al (h : Bum sb L w v W p) (o : Obj) : Bum sb L w v (W.alloc o) p := h.be ((bl W).al o)
theorem Bum.dr (h : Bum sb L w v W p) : Bum sb L w v W.drew p := h.be (bl W).dr
theorem Bum.grown {W' : World} {row : Option Nat} (h : Bum sb L w v W p) (hs : sb = w.heap.size + 1) (hg : W.grownBy W' row) (hr : ∀ k, row = some k → w.heap.size + 3 ≤ k) : Bum sb L w v W' p := by
  have h1 := (Array.getElem?_eq_some_iff.1 h.x).1
  refine ⟨h.src.imp fun _ s => s.grown hg fun k hk => by have := hr k hk; omega, (hg.block _ (by omega) (fun e => by have := hr _ e.symm; omega)).trans h.r, (hg.block _ h1 (fun e => by have := hr _ e.symm; omega)).trans h.x, h.k.grown hg h.k.size (fun k hk => by have := hr k hk; omega)⟩
theorem Bum.setx (h : Bum sb L w v W p) (hs : sb = w.heap.size + 1) (u : Value) : Bum sb L w u (W.setCell ⟨w.heap.size + 1 + 1, 0, none⟩ u) p :=
  ⟨h.src.imp fun _ s => s.setNew (by omega) _ _, (Below.heap_setCell _ _ _ _ (by simp only; omega)).trans h.r, by
    have := heap_set (i := 0) h.x u
    simpa using this, h.k.setCell (by simp only; omega) _⟩
end
theorem FnC.one {W : World} {a : Fn} {c : List Value} (h : FnC W a c) : ∀ u ∈ c, u.oneCell' = true := by
  obtain ⟨_, _, _, _, rfl, _⟩ := h
  simp [Value.oneCell']
/-- And the functions that there are. -/
structure Buo (sb : Nat) (L : List Nat) (w : World) (v : Value) (l : List Fn) (W : World) (p : Nat) : Prop where
  b : Bum sb L w v W p
  own : OwnL W (w.heap.size + 3) 30 5 FnC (List.range (w.heap.size + 3)) v l
  size : w.heap.size + 3 ≤ W.heap.size
section
variable {sb p : Nat} {L : List Nat} {w W : World} {v : Value} {l : List Fn}
theorem Buo.be {W' : World} (h : Buo sb L w v l W p) (hb : Below W.heap.size W W') : Buo sb L w v l W' p := ⟨h.b.be hb, h.own.below FnC.mono hb, Nat.le_trans h.size hb.size⟩
theorem Buo.al (h : Buo sb L w v l W p) (o : Obj) : Buo sb L w v l (W.alloc o) p := h.be ((bl W).al o)
theorem Buo.dr (h : Buo sb L w v l W p) : Buo sb L w v l W.drew p := h.be (bl W).dr
/-- What function answers here. -/
def FunPost (sb : Nat) (L : List Nat) (w : World) (v : Value) (l : List Fn) (f : Fn) (q : Nat) (r : Ending) (w' : World) : Prop :=
  (∃ pp pb cp cb, r = .returned (.agg #[.string ⟨f.name.toArray⟩, .slice pp f.params.length cp, .int .i64 f.result, .slice pb f.body.length cb, .int .i64 f.count]) ∧
      ∀ o, FnC (av (v.ownBlock.toList ++ List.range (w.heap.size + 3)) (w'.alloc o)) f [.string ⟨f.name.toArray⟩, .slice pp f.params.length cp, .int .i64 f.result, .slice pb f.body.length cb, .int .i64 f.count]) ∧ Buo sb L w v l w' q
theorem func_buo (h : Buo sb L w v l W p) (hs : sb = w.heap.size + 1) (name : Bytes) (hn : name.length ≤ 16) :
    Calls Tryz.prog 27 #[.pointer (some ⟨sb, 0, none⟩), .string ⟨name.toArray⟩] W (FunPost sb L w v l (funcD L name p).1 (funcD L name p).2.1) := by
  obtain ⟨left, hsrc⟩ := h.b.src
  have hav := own_avoid h.own (Nat.le_refl _) (fun g hg => by have := List.mem_range.1 hg; have := h.size; omega)
  refine (sfunc_any sb left L name hn W p hsrc).mono ?_
  rintro r w' ⟨⟨z, rfl, pp, pb, cp, cb, rfl, h1, h2, h3⟩, h4, h5⟩
  refine ⟨⟨pp, pb, cp, cb, rfl, fun o => FnC.mono _ _ _ _ ((has_nw_av hav).tr (has_av_below ((bl _).al o))) ⟨pp, pb, cp, cb, rfl, h1, h2, h3⟩⟩, ⟨⟨⟨_, h4⟩, h5.heap (by simp; omega) h.b.r, h5.heap (by simp; omega) h.b.x, h5.below h.b.k (by simp; omega)⟩, h.own.kept FnC.mono h5 (by simp; omega), Nat.le_trans h.size h5.size⟩⟩
end
set_option maxRecDepth 20000 in
set_option maxHeartbeats 40000000 in
theorem made_any (D : List Nat) (a : Option Addr) (cap : Nat) (w : World) (hd : U8s w D a cap) :
    Calls Tryz.prog 11 #[.slice a D.length cap] w (NbrPost w (List.range w.heap.size) (madeD D)) := by
  obtain ⟨j0, hj, hy0, hy1, hy2⟩ := info_parts info_fn
  have hlen : D.length ≤ 9223372036854775807 := Nat.le_trans hd.len hd.cap
  have hlc := hd.len
  have hcm : cap ≤ 9223372036854775807 := hd.cap
  have HD := hide hd
  have haddr := hd.addr
  clear hd
  go_enter Tryz.func11, Tryz.ntmps11
  go_wp2_with fail
  have hs0 := (src_new (n := (min (D.length : Int) 300).toNat) HD.out ((bl w).al (.cells #[.slice none 0 0] 24)) (sb := w.heap.size + 1) (by simp) (by simp; omega)).al (.cells #[.slice none 0 0] 24)
  have HB0 : Bum (w.heap.size + 1) (D.take 300) w (.slice none 0 0) _ 0 := ⟨⟨_, hs0⟩, by
      rw [Below.heap_alloc _ _ _ (by simp; omega), Below.heap_alloc _ _ _ (by simp)]
      exact heap_alloc_new w _, by
      have := heap_alloc_new ((w.alloc (.cells #[.slice none 0 0] 24)).alloc (.cells #[.slice a (min (D.length : Int) 300).toNat cap, .int .i64 0, .int .i64 0] 66)) (.cells #[.slice none 0 0] 24)
      simpa using this, (((bl w).al _).al _).al _⟩
  obtain ⟨L, hL⟩ : ∃ L, L = D.take 300 := ⟨_, rfl⟩
  rw [← hL] at hs0 HB0
  have hx3 := nextD_lt L (n := 3) 0 (by omega)
  obtain ⟨x, p1, hq⟩ : ∃ x p1, nextD L 3 0 = (x, p1) := ⟨_, _, rfl⟩
  have HNX : Hid (∀ W, Src W (w.heap.size + 1) L 0 0 → Calls Tryz.prog 26 #[.pointer (some ⟨w.heap.size + 1, 0, none⟩), .int .i64 3] W fun r w' => r = .returned (.int .i64 x) ∧ Src w' (w.heap.size + 1) L p1 0 ∧ Kept [w.heap.size + 1] W w') := hide fun W hW => by
    have := next_any (w.heap.size + 1) 0 3 0 L W hW (by omega) (by omega)
    rw [hq] at this
    exact this
  have HM : Hid (madeD D = numberM (funcsD L (1 + x) p1).1) := hide (by unfold madeD draftD; rw [← hL, hq])
  rw [hq] at hx3
  simp only at hx3
  clear hq hL
  (with_reducible refine (HNX.out _ hs0).mono ?_)
  rintro r w1 ⟨rfl, hs1, hK1⟩
  have HB1 : Bum (w.heap.size + 1) L w (.slice none 0 0) w1 p1 := ⟨⟨_, hs1⟩, hK1.heap (by simp) HB0.r, hK1.heap (by simp) HB0.x, hK1.below HB0.k (by simp)⟩
  have hw1 : w.heap.size + 3 ≤ w1.heap.size := by have := hK1.size; simpa using this
  clear hs0 HB0 hs1 hK1
  go_wp2_with fail
  go_loopw [16] (fun i wr => ∃ (k : Nat) (v : Value), k ≤ 1 + x ∧ i = .int .i64 k ∧ Bum (w.heap.size + 1) L w v wr (funcsD L k p1).2 ∧ OwnL wr (w.heap.size + 3) 30 5 FnC (List.range (w.heap.size + 3)) v (funcsD L k p1).1 ∧ w.heap.size + 3 ≤ wr.heap.size) (fun i _ => 1 + x - (intOf i).toNat)
  case atStart => exact ⟨0, _, Nat.zero_le _, rfl, HB1, OwnL.nil _ _ _ _ _ _, hw1⟩
  case round =>
    obtain ⟨k, v, hk, rfl, HB, hown, hbs⟩ := hrel
    obtain ⟨va0, vc0, rfl, -, -⟩ := hown.slice
    have HOWN := hide hown
    clear hown
    have hxl : w.heap.size + 1 + 1 < wr.heap.size := by omega
    by_cases hlt : k < 1 + x
    · have hk3 : k = 0 ∨ k = 1 ∨ k = 2 := by omega
      rcases hk3 with rfl | rfl | rfl
      · obtain ⟨l, q, hlq⟩ : ∃ l q, funcsD L 0 p1 = (l, q) := ⟨_, _, rfl⟩
        obtain ⟨fq, hfq⟩ : ∃ fq, fq = funcD L [109, 97, 105, 110] q := ⟨_, rfl⟩
        have HST := hide (show funcsD L (0 + 1) p1 = (l ++ [fq.1], fq.2.1) by rw [funcsD, hlq, hfq]; rfl)
        have hl8 := (funcsD_ok L 0 p1 (by omega)).1
        rw [hlq] at hl8 HB HOWN
        simp only at hl8
        have HBO : Buo (w.heap.size + 1) L w (.slice va0 l.length vc0) l wr q := ⟨HB, HOWN.out, hbs⟩
        have HFB : Hid (∀ W, Buo (w.heap.size + 1) L w (.slice va0 l.length vc0) l W q → Calls Tryz.prog 27 #[.pointer (some ⟨w.heap.size + 1, 0, none⟩), .string ⟨#[109, 97, 105, 110]⟩] W (FunPost (w.heap.size + 1) L w (.slice va0 l.length vc0) l fq.1 fq.2.1)) :=
          hide fun W hW => by rw [hfq]; exact func_buo hW rfl [109, 97, 105, 110] (by decide)
        have hml : l.length + 1 ≤ maxLen := by unfold maxLen; omega
        have hmb : (l.length + 1) * 80 ≤ 140737488355328 := by omega
        have HBLT := hide fun k hk => (HOWN.out.lt k hk).1
        have HSZ5 := hide fun (W : World) (o : Obj) (h : w.heap.size + 3 ≤ W.heap.size) => (show w.heap.size + 3 ≤ (W.alloc o).heap.size by simp; omega)
        clear hlq hfq hl8 HB
        have HB := HBO
        have x0 : wr.cell? ⟨w.heap.size + 1 + 1, 0, none⟩ = some (.slice va0 l.length vc0) := cell_at (j := 0) HB.b.x rfl
        clear HBO
        go_wp2_with fail
        go_region_law
          (first | (go_simp; go_at_call 27; (with_reducible refine (HFB.out _ ?_).mono ?_); (· (first | exact HB | exact HB.al _ | exact (HB.al _).dr | exact HB.dr | exact (HB.dr).al _)); rintro r w5 ⟨⟨pp, pb, cp, cb, rfl, hfc⟩, HB⟩; have HFC := hide hfc; have HONE := hide (hfc (.cells #[] 0)).one; have x0 : w5.cell? ⟨w.heap.size + 1 + 1, 0, none⟩ = some (.slice va0 l.length vc0) := cell_at (j := 0) HB.b.x rfl; have hx5 : w.heap.size + 1 + 1 < w5.heap.size := cell_lt x0; clear hfc)
                 | (refine step_push _ (by rfl) _ _ 22 (by rfl) (w.heap.size + 3) 30 j0 _ 5 80 Tryz.underlying22 hj hy0 hy1 hy2 (by rfl) (Nat.succ_pos _) FnC FnC.mono (List.range (w.heap.size + 3)) (.slice va0 l.length vc0) l (by rfl) (HB.own.al FnC.mono _) ⟨w5.heap.size, 0, none⟩ 1 _ fq.1 (by rfl) (by rfl) (news_row _ _ _ _ rfl) HONE.out (HFC.out _) hml hmb (HSZ5.out _ _ HB.size) ?_; intro v' w6 hown6 hgrow; obtain ⟨va, vcap, rfl, -, -⟩ := hown6.slice; have HOWN6 := hide hown6; have HB := (HB.b.al _).grown rfl hgrow HBLT.out; have x0 : w6.cell? ⟨w.heap.size + 1 + 1, 0, none⟩ = some (.slice va0 l.length vc0) := cell_at (j := 0) HB.x rfl; have y0 := free_at (j := 0) HB.x; clear hown6))
        all_goals
          have HB := HB.setx rfl (.slice va (l.length + 1) vcap)
          have HO := HOWN6.out
          simp only [List.length_append, List.length_cons, List.length_nil, Nat.zero_add] at HO
          have HO := hide (HO.kept FnC.mono ((Kept.refl [w.heap.size + 1 + 1] w6).set (g := w.heap.size + 1 + 1) (.inl (by simp)) 0 (.slice va (l.length + 1) vcap)) (by simp))
          have hs6 : w.heap.size + 3 ≤ w6.heap.size := by have := hgrow.size; simp at this; have := hx5; omega
          go_wp2_with fail
          go_roundw
          case rel =>
            refine ⟨0 + 1, .slice va (l.length + 1) vcap, by omega, by go_num, ?_, ?_, ?_⟩
            · rw [HST.out]; exact HB
            · rw [HST.out]; exact HO.out
            · simpa [World.setCell] using hs6
          case measure => first | (simp [intOf]; done) | (simp [intOf]; omega)
      · obtain ⟨l, q, hlq⟩ : ∃ l q, funcsD L 1 p1 = (l, q) := ⟨_, _, rfl⟩
        obtain ⟨fq, hfq⟩ : ∃ fq, fq = funcD L [102] q := ⟨_, rfl⟩
        have HST := hide (show funcsD L (1 + 1) p1 = (l ++ [fq.1], fq.2.1) by rw [funcsD, hlq, hfq]; rfl)
        have hl8 := (funcsD_ok L 1 p1 (by omega)).1
        rw [hlq] at hl8 HB HOWN
        simp only at hl8
        have HBO : Buo (w.heap.size + 1) L w (.slice va0 l.length vc0) l wr q := ⟨HB, HOWN.out, hbs⟩
        have HFB : Hid (∀ W, Buo (w.heap.size + 1) L w (.slice va0 l.length vc0) l W q → Calls Tryz.prog 27 #[.pointer (some ⟨w.heap.size + 1, 0, none⟩), .string ⟨#[102]⟩] W (FunPost (w.heap.size + 1) L w (.slice va0 l.length vc0) l fq.1 fq.2.1)) :=
          hide fun W hW => by rw [hfq]; exact func_buo hW rfl [102] (by decide)
        have hml : l.length + 1 ≤ maxLen := by unfold maxLen; omega
        have hmb : (l.length + 1) * 80 ≤ 140737488355328 := by omega
        have HBLT := hide fun k hk => (HOWN.out.lt k hk).1
        have HSZ5 := hide fun (W : World) (o : Obj) (h : w.heap.size + 3 ≤ W.heap.size) => (show w.heap.size + 3 ≤ (W.alloc o).heap.size by simp; omega)
        clear hlq hfq hl8 HB
        have HB := HBO
        have x0 : wr.cell? ⟨w.heap.size + 1 + 1, 0, none⟩ = some (.slice va0 l.length vc0) := cell_at (j := 0) HB.b.x rfl
        clear HBO
        go_wp2_with fail
        go_region_law
          (first | (go_simp; go_at_call 27; (with_reducible refine (HFB.out _ ?_).mono ?_); (· (first | exact HB | exact HB.al _ | exact (HB.al _).dr | exact HB.dr | exact (HB.dr).al _)); rintro r w5 ⟨⟨pp, pb, cp, cb, rfl, hfc⟩, HB⟩; have HFC := hide hfc; have HONE := hide (hfc (.cells #[] 0)).one; have x0 : w5.cell? ⟨w.heap.size + 1 + 1, 0, none⟩ = some (.slice va0 l.length vc0) := cell_at (j := 0) HB.b.x rfl; have hx5 : w.heap.size + 1 + 1 < w5.heap.size := cell_lt x0; clear hfc)
                 | (refine step_push _ (by rfl) _ _ 22 (by rfl) (w.heap.size + 3) 30 j0 _ 5 80 Tryz.underlying22 hj hy0 hy1 hy2 (by rfl) (Nat.succ_pos _) FnC FnC.mono (List.range (w.heap.size + 3)) (.slice va0 l.length vc0) l (by rfl) (HB.own.al FnC.mono _) ⟨w5.heap.size, 0, none⟩ 1 _ fq.1 (by rfl) (by rfl) (news_row _ _ _ _ rfl) HONE.out (HFC.out _) hml hmb (HSZ5.out _ _ HB.size) ?_; intro v' w6 hown6 hgrow; obtain ⟨va, vcap, rfl, -, -⟩ := hown6.slice; have HOWN6 := hide hown6; have HB := (HB.b.al _).grown rfl hgrow HBLT.out; have x0 : w6.cell? ⟨w.heap.size + 1 + 1, 0, none⟩ = some (.slice va0 l.length vc0) := cell_at (j := 0) HB.x rfl; have y0 := free_at (j := 0) HB.x; clear hown6))
        all_goals
          have HB := HB.setx rfl (.slice va (l.length + 1) vcap)
          have HO := HOWN6.out
          simp only [List.length_append, List.length_cons, List.length_nil, Nat.zero_add] at HO
          have HO := hide (HO.kept FnC.mono ((Kept.refl [w.heap.size + 1 + 1] w6).set (g := w.heap.size + 1 + 1) (.inl (by simp)) 0 (.slice va (l.length + 1) vcap)) (by simp))
          have hs6 : w.heap.size + 3 ≤ w6.heap.size := by have := hgrow.size; simp at this; have := hx5; omega
          go_wp2_with fail
          go_roundw
          case rel =>
            refine ⟨1 + 1, .slice va (l.length + 1) vcap, by omega, by go_num, ?_, ?_, ?_⟩
            · rw [HST.out]; exact HB
            · rw [HST.out]; exact HO.out
            · simpa [World.setCell] using hs6
          case measure => first | (simp [intOf]; done) | (simp [intOf]; omega)
      · obtain ⟨l, q, hlq⟩ : ∃ l q, funcsD L 2 p1 = (l, q) := ⟨_, _, rfl⟩
        obtain ⟨fq, hfq⟩ : ∃ fq, fq = funcD L [103] q := ⟨_, rfl⟩
        have HST := hide (show funcsD L (2 + 1) p1 = (l ++ [fq.1], fq.2.1) by rw [funcsD, hlq, hfq]; rfl)
        have hl8 := (funcsD_ok L 2 p1 (by omega)).1
        rw [hlq] at hl8 HB HOWN
        simp only at hl8
        have HBO : Buo (w.heap.size + 1) L w (.slice va0 l.length vc0) l wr q := ⟨HB, HOWN.out, hbs⟩
        have HFB : Hid (∀ W, Buo (w.heap.size + 1) L w (.slice va0 l.length vc0) l W q → Calls Tryz.prog 27 #[.pointer (some ⟨w.heap.size + 1, 0, none⟩), .string ⟨#[103]⟩] W (FunPost (w.heap.size + 1) L w (.slice va0 l.length vc0) l fq.1 fq.2.1)) :=
          hide fun W hW => by rw [hfq]; exact func_buo hW rfl [103] (by decide)
        have hml : l.length + 1 ≤ maxLen := by unfold maxLen; omega
        have hmb : (l.length + 1) * 80 ≤ 140737488355328 := by omega
        have HBLT := hide fun k hk => (HOWN.out.lt k hk).1
        have HSZ5 := hide fun (W : World) (o : Obj) (h : w.heap.size + 3 ≤ W.heap.size) => (show w.heap.size + 3 ≤ (W.alloc o).heap.size by simp; omega)
        clear hlq hfq hl8 HB
        have HB := HBO
        have x0 : wr.cell? ⟨w.heap.size + 1 + 1, 0, none⟩ = some (.slice va0 l.length vc0) := cell_at (j := 0) HB.b.x rfl
        clear HBO
        go_wp2_with fail
        go_region_law
          (first | (go_simp; go_at_call 27; (with_reducible refine (HFB.out _ ?_).mono ?_); (· (first | exact HB | exact HB.al _ | exact (HB.al _).dr | exact HB.dr | exact (HB.dr).al _)); rintro r w5 ⟨⟨pp, pb, cp, cb, rfl, hfc⟩, HB⟩; have HFC := hide hfc; have HONE := hide (hfc (.cells #[] 0)).one; have x0 : w5.cell? ⟨w.heap.size + 1 + 1, 0, none⟩ = some (.slice va0 l.length vc0) := cell_at (j := 0) HB.b.x rfl; have hx5 : w.heap.size + 1 + 1 < w5.heap.size := cell_lt x0; clear hfc)
                 | (refine step_push _ (by rfl) _ _ 22 (by rfl) (w.heap.size + 3) 30 j0 _ 5 80 Tryz.underlying22 hj hy0 hy1 hy2 (by rfl) (Nat.succ_pos _) FnC FnC.mono (List.range (w.heap.size + 3)) (.slice va0 l.length vc0) l (by rfl) (HB.own.al FnC.mono _) ⟨w5.heap.size, 0, none⟩ 1 _ fq.1 (by rfl) (by rfl) (news_row _ _ _ _ rfl) HONE.out (HFC.out _) hml hmb (HSZ5.out _ _ HB.size) ?_; intro v' w6 hown6 hgrow; obtain ⟨va, vcap, rfl, -, -⟩ := hown6.slice; have HOWN6 := hide hown6; have HB := (HB.b.al _).grown rfl hgrow HBLT.out; have x0 : w6.cell? ⟨w.heap.size + 1 + 1, 0, none⟩ = some (.slice va0 l.length vc0) := cell_at (j := 0) HB.x rfl; have y0 := free_at (j := 0) HB.x; clear hown6))
        all_goals
          have HB := HB.setx rfl (.slice va (l.length + 1) vcap)
          have HO := HOWN6.out
          simp only [List.length_append, List.length_cons, List.length_nil, Nat.zero_add] at HO
          have HO := hide (HO.kept FnC.mono ((Kept.refl [w.heap.size + 1 + 1] w6).set (g := w.heap.size + 1 + 1) (.inl (by simp)) 0 (.slice va (l.length + 1) vcap)) (by simp))
          have hs6 : w.heap.size + 3 ≤ w6.heap.size := by have := hgrow.size; simp at this; have := hx5; omega
          go_wp2_with fail
          go_roundw
          case rel =>
            refine ⟨2 + 1, .slice va (l.length + 1) vcap, by omega, by go_num, ?_, ?_, ?_⟩
            · rw [HST.out]; exact HB
            · rw [HST.out]; exact HO.out
            · simpa [World.setCell] using hs6
          case measure => first | (simp [intOf]; done) | (simp [intOf]; omega)
    · obtain rfl : k = 1 + x := by omega
      generalize (funcsD L (1 + x) p1).1 = l at *
      have x0 : wr.cell? ⟨w.heap.size + 1 + 1, 0, none⟩ = some (.slice va0 l.length vc0) := cell_at (j := 0) HB.x rfl
      obtain ⟨aa, ac, e, hfns⟩ := HOWN.out.fns (fun g hg => List.mem_range.1 hg)
      simp only [Value.slice.injEq, true_and] at e
      obtain ⟨rfl, rfl⟩ := e
      have HNB := hide fun (h : Fns (av (List.range (w.heap.size + 3)) wr) l va0 vc0) => refNumber_any (List.range (w.heap.size + 3)) l va0 vc0 wr h (fun g hg => by have := List.mem_range.1 hg; omega)
      have HFNS := hide hfns
      clear hfns
      go_wp2_with fail
      (with_reducible refine (HNB.out HFNS.out).mono ?_)
      rintro r w2 ⟨⟨v, rfl, hown⟩, hb2⟩
      obtain ⟨vb, vc, rfl, -, -⟩ := hown.slice
      have r0 := cell_at (j := 0) ((hb2.block w.heap.size (by omega)).trans HB.r) rfl
      have ry := free_at (j := 0) ((hb2.block w.heap.size (by omega)).trans HB.r)
      have hrl : w.heap.size < w2.heap.size := by have := hb2.size; omega
      have HOWN2 := hide hown
      clear hown x0
      go_wp2_with fail
      refine bodyPost_ret (v := .agg #[.slice vb (numberM l).length vc]) (by simp [results, Tryz.results11, go_sem, r0]) rfl ?_
      have h7 := HOWN2.out.kept FnC.mono ((Kept.refl [w.heap.size] w2).set (g := w.heap.size) (.inl (by simp)) 0 (.slice vb (numberM l).length vc)) (by simp; omega)
      have h8 := h7.weaken (b2 := w.heap.size) (m2 := List.range w.heap.size) FnC.mono (by omega) (fun g hg => by rw [List.mem_range] at *; omega)
      rw [HM.out]
      exact ⟨⟨_, rfl, h8⟩, (HB.k.tr hb2).setCell (by simp) _⟩
end Go.Proofs.YtnkmbddjekepkaaGreatDoor
