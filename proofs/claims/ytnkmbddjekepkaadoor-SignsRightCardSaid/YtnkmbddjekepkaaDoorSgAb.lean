/- SignsRight: the first loop finds each function's signature. -/
import Derived.Test.YtnkmbddjekepkaaDoorSgAa
import Derived.Deep.RegionHeld3
import Derived.Deep.DeepCutAuto
namespace Go.Proofs.YtnkmbddjekepkaaDoor
open Go Go.RowKit
set_option linter.unusedSimpArgs false
set_option linter.unusedVariables false
set_option linter.unnecessarySimpa false
def FoundR (L : List Fn) (i : Nat) (h : i < L.length) (w : World) (r : Ending) (w' : World) : Prop :=
  (∃ pa pc, r = .returned (.tuple #[.agg #[.string ⟨L[i].name.toArray⟩, .slice pa L[i].params.length pc, .int .i64 L[i].result], .bool true]) ∧ Ints w' (sgOf L[i]).pars pa pc) ∧ Below w.heap.size w w'
theorem find_r {L : List Fn} (hn : (L.map (·.name)).Nodup) (hp : ∀ f ∈ L, f.params.length ≤ 8) {i : Nat} (hi : i < L.length) (a : Option Addr) (cap : Nat) (w : World) (hl : Sgs w (L.map sgOf) a cap) :
    Calls Tryd.prog 10 #[.slice a L.length cap, .string ⟨L[i].name.toArray⟩] w (FoundR L i hi w) := by
  have h := find12_any (L.map sgOf) L[i].name a cap w hl (fun s hs => by
    obtain ⟨f, hf, rfl⟩ := List.mem_map.1 hs
    have := hp f hf
    simp only [sgOf, List.length_map]
    omega)
  rw [List.length_map, find_right hn hi] at h
  refine h.mono ?_
  rintro r w' ⟨⟨v, rfl, pa, pc, rfl, hints⟩, hb⟩
  refine ⟨⟨pa, pc, ?_, hints⟩, hb⟩
  simp only [Option.getD_some, Option.isSome_some, sgOf, List.length_map]
def OfR (L : List Fn) (w : World) (r : Ending) (w' : World) : Prop :=
  (∃ b o cap, r = .returned (.tuple #[.slice (some ⟨b, o, none⟩) L.length cap, .int .i64 0, .int .i64 0]) ∧ Sgs w' (L.map sgOf) (some ⟨b, o, none⟩) cap) ∧ Below w.heap.size w w'
theorem of_r {L : List Fn} (h : Right L) (a : Option Addr) (cap : Nat) (w : World) (hl : Fns w L a cap) (hT : Tab w) : Calls Tryd.prog 19 #[.agg #[.slice a L.length cap]] w (OfR L w) := by
  have h1 := signsOf_any L a cap w hl hT
  rw [signs_right h] at h1
  refine h1.mono ?_
  rintro r w' ⟨⟨a', c', rfl, hs⟩, hb⟩
  obtain ⟨b, o, rfl⟩ := hs.addr (by simp only [List.length_map]; exact h.one)
  exact ⟨⟨b, o, c', by simp only [List.length_map], hs⟩, hb⟩
structure AppI (w : World) : Prop where
  x1 : Below w.heap.size w ((w.alloc (.cells #[.int .i64 1] 3)).alloc (.cells #[] 3))
  x2 : Below w.heap.size w ((w.alloc (.cells #[] 3)).alloc (.cells #[.int .i64 1] 3))
  x3 : Below w.heap.size w (w.alloc (.cells #[] 3))
  e1 : OwnL ((w.alloc (.cells #[.int .i64 1] 3)).alloc (.cells #[] 3)) w.heap.size 3 1 InC [] (.slice (some ⟨w.heap.size + 1, 0, none⟩) 0 0) ([] : List Int)
  e2 : OwnL ((w.alloc (.cells #[] 3)).alloc (.cells #[.int .i64 1] 3)) w.heap.size 3 1 InC [] (.slice (some ⟨w.heap.size, 0, none⟩) 0 0) ([] : List Int)
  e3 : OwnL (w.alloc (.cells #[] 3)) w.heap.size 3 1 InC [] (.slice (some ⟨w.heap.size, 0, none⟩) 0 0) ([] : List Int)
  m1 : ∀ W, ((w.alloc (.cells #[.int .i64 1] 3)).alloc (.cells #[] 3)).grownBy W (Value.slice (some ⟨w.heap.size + 1, 0, none⟩) 0 0).ownBlock → ∀ (j : Nat) (u : Value), [Value.int .i64 1][j]? = some u → W.cell? ((⟨w.heap.size, 0, none⟩ : Addr).add j) = some u
  m2 : ∀ W, ((w.alloc (.cells #[] 3)).alloc (.cells #[.int .i64 1] 3)).grownBy W (Value.slice (some ⟨w.heap.size, 0, none⟩) 0 0).ownBlock → ∀ (j : Nat) (u : Value), [Value.int .i64 1][j]? = some u → W.cell? ((⟨w.heap.size + 1, 0, none⟩ : Addr).add j) = some u
  g1 : ∀ k, (Value.slice (some ⟨w.heap.size + 1, 0, none⟩) 0 0).ownBlock = some k → w.heap.size ≤ k
  g2 : ∀ k, (Value.slice (some ⟨w.heap.size, 0, none⟩) 0 0).ownBlock = some k → w.heap.size ≤ k
  sa : ∀ (W : World) (o : Obj), w.heap.size ≤ W.heap.size → w.heap.size ≤ (W.alloc o).heap.size
theorem app_ints (w : World) : AppI w := by
  have hm1 : ((w.alloc (.cells #[.int .i64 1] 3)).alloc (.cells #[] 3)).heap[w.heap.size]? = some (.cells #[.int .i64 1] 3 (0, 0)) := by
    rw [Below.heap_alloc _ _ _ (by simp)]
    exact heap_alloc_new _ _
  have hm2 : ((w.alloc (.cells #[] 3)).alloc (.cells #[.int .i64 1] 3)).heap[w.heap.size + 1]? = some (.cells #[.int .i64 1] 3 (0, 0)) := by
    have := heap_alloc_new (w.alloc (.cells #[] 3)) (.cells #[.int .i64 1] 3)
    rw [World.size_alloc] at this
    exact this
  refine ⟨((bl w).al _).al _, ((bl w).al _).al _, (bl w).al _, own_empty12 (by omega) ?_, own_empty12 (Nat.le_refl _) ?_, own_empty12 (Nat.le_refl _) (heap_alloc_new _ _), ?_, ?_, ?_, ?_, ?_⟩
  · have := heap_alloc_new (w.alloc (.cells #[.int .i64 1] 3)) (.cells #[] 3)
    rw [World.size_alloc] at this
    exact this
  · rw [Below.heap_alloc _ _ _ (by simp)]
    exact heap_alloc_new _ _
  · intro W hg
    exact World.news_of_block ((hg.block w.heap.size (by simp <;> omega) (fun e => by simp [Value.ownBlock] at e)).trans hm1)
  · intro W hg
    exact World.news_of_block ((hg.block (w.heap.size + 1) (by simp <;> omega) (fun e => by simp [Value.ownBlock] at e)).trans hm2)
  · simp [Value.ownBlock]
  · simp [Value.ownBlock]
  · intro W o h
    simp
    omega
theorem guard_free {ops : Array Oper} {o : Oper} {a : Act} {w : World} {K : Act → World → Prop} {Q : Exit → Act → World → Prop} {E : Prop} (hw : Region.wanted o (yielded ops a.tmps) = true)
    (h : if Region.wanted { o with guard := none } (yielded ops a.tmps) = true then Oper.wp Tryd.prog { o with guard := none } a w K Q else E) :
    if Region.wanted o (yielded ops a.tmps) = true then Oper.wp Tryd.prog o a w K Q else E := by
  rw [if_pos hw]
  rw [if_pos (by simp [Region.wanted])] at h
  exact h
theorem targeted12_any (r t : Int) (w : World) : Calls Tryd.prog 20 #[.int .i64 r, .int .i64 t] w fun x w' => x = .returned (.int .i64 (if r = t then 0 else 12)) ∧ Below w.heap.size w w' := by
  have hb := bl w
  by_cases e : r = t
  · subst e
    have he : (r == r) = true := by simp
    go_enter Tryd.func20, Tryd.ntmps20
    go_wp2_with fail
    go_ret
    exact ⟨by simp, hb⟩
  · have he : (r == t) = false := by simp [e]
    rw [if_neg e]
    go_enter Tryd.func20, Tryd.ntmps20
    go_wp2_with fail
    go_ret
    exact ⟨rfl, hb⟩
theorem ints_set1 {w : World} {l : List Int} {g cap : Nat} (h : Ints w l (some ⟨g, 0, none⟩) cap) {i : Nat} (hi : i < l.length) (u : Int) : Ints (w.setCell ⟨g, i, none⟩ (.int .i64 u)) (l.set i u) (some ⟨g, 0, none⟩) cap :=
  ⟨by rw [List.length_set]; exact h.len, h.cap, fun _ => ⟨_, _, rfl⟩, fun b o e j hj => by
    simp only [Option.some.injEq, Addr.mk.injEq, and_true] at e
    obtain ⟨rfl, rfl⟩ := e
    have hj' : j < l.length := by simpa using hj
    rw [Nat.zero_add]
    by_cases hji : j = i
    · subst hji
      rw [List.getElem_set_self]
      have h1 := h.at_ g 0 rfl j hj'
      rw [Nat.zero_add] at h1
      exact World.cell?_setCell_same w ⟨g, j, none⟩ _ h1
    · rw [List.getElem_set_ne (fun e => hji e.symm)]
      have h1 := h.at_ g 0 rfl j hj'
      rw [Nat.zero_add] at h1
      exact (World.cell?_setCell_other w ⟨g, i, none⟩ ⟨g, j, none⟩ _ (by simp only [ne_eq, Addr.mk.injEq, and_true, true_and]; exact fun e => hji e.symm)).trans h1⟩
theorem ints_tail1 {w : World} {l : List Int} {b o cap : Nat} (h : Ints w l (some ⟨b, o, none⟩) cap) (hl : 0 < l.length) : Ints w l.tail (some ⟨b, o + 1, none⟩) (cap - 1) := by
  cases l with
  | nil => simp at hl
  | cons x t =>
    have := h.len
    simp only [List.length_cons] at this
    obtain ⟨c, rfl⟩ : ∃ c, cap = c + 1 := ⟨cap - 1, by omega⟩
    exact h.tail
theorem ints_none1 {w : World} {l : List Int} {a : Option Addr} {c : Nat} (hl : l.length = 0) (hc : c ≤ maxLen) : Ints w l a c :=
  ⟨by omega, hc, by omega, fun _ _ _ i hi => by omega⟩
theorem same_self12 (s : Sg) : sameSg s s = true := by simp [sameSg]
set_option maxRecDepth 20000 in
set_option maxHeartbeats 16000000 in
theorem SignsRight_any (l : List Dr) (a : Option Addr) (cap : Nat) (n q x : Nat) (w : World) (hl : Drs w l a cap) (hn : n ≤ 255) (hq : q ≤ 255) (hx : x ≤ 255) (hT : Tab w) (hWd : Words w) :
    Calls Tryd.prog 4 #[.slice a l.length cap, .int .u8 (n : Nat), .int .u8 (q : Nat), .int .u8 (x : Nat)] w fun r w' => r = .returned (.bool true) ∧ Below w.heap.size w w' := by
  have hlen : l.length ≤ 9223372036854775807 := Nat.le_trans hl.len hl.cap
  have HT := hide hT
  have HWD := hide hWd
  by_cases q1 : (30 : Int) < (l.length : Int)
  · have HW := hide (bl w)
    clear hl hT hWd
    go_enter Tryd.func4, Tryd.ntmps4
    go_wp2_with fail
    refine (works12_any _ (HT.out.below HW.out) (HWD.out.below HW.out)).mono ?_
    rintro r w9 ⟨rfl, hb⟩
    have HW := hide (HW.out.tr hb)
    clear hb
    go_wp2_with fail
    go_ret
    exact ⟨rfl, HW.out⟩
  have HDI := hide (distinct_any l a cap n w hl hn)
  have hR := dist_right l n
  generalize distM l n = L at *
  have HR := hide hR
  have hd1 := hR.one
  have hd2 := hR.len
  obtain ⟨kk, hkk⟩ : ∃ kk, kk = q % L.length := ⟨_, rfl⟩
  have hkL : kk < L.length := by rw [hkk]; exact Nat.mod_lt _ hd1
  have ek : ((q : Nat) : Int) % (L.length : Int) = (kk : Int) := by rw [hkk]; simp
  have hne : ((L.length : Int) != (L.length : Int)) = false := by simp
  have HKK := hide hkk
  clear hl hT hWd hR hkk
  go_enter Tryd.func4, Tryd.ntmps4
  go_wp2_with fail
  (with_reducible refine HDI.out.mono ?_)
  rintro r w1 ⟨⟨fa, fc, rfl, hf⟩, hb⟩
  obtain ⟨g, o, rfl⟩ := hf.addr (by omega)
  have hLl : L.length ≤ 9223372036854775807 := Nat.le_trans hf.len hf.cap
  have HW := hide hb
  have HL := hide hf
  clear hf hb HDI
  go_wp2_with fail
  (with_reducible refine (of_r HR.out _ _ _ HL.out (HT.out.below HW.out)).mono ?_)
  rintro r w2 ⟨⟨bs, os, lc, rfl, hs⟩, hb⟩
  have HS := hide hs
  have HW := hide (HW.out.tr hb)
  have HL := hide (HL.out.has (has_below hb))
  clear hs hb
  go_wp2_with fail
  go_loopw [13] (fun i wr => ∃ k : Nat, k ≤ L.length ∧ i = .int .i64 k ∧ Hid (Below w2.heap.size w2 wr)) (fun i _ => L.length - (intOf i).toNat)
  case atStart => exact ⟨0, Nat.zero_le _, rfl, bl _⟩
  case round =>
    obtain ⟨i, hik, rfl, HB⟩ := hrel
    by_cases hlt : i < L.length
    · as_aux_lemma =>
      obtain ⟨pp, pb, cp, cb, c0, c1, c2, c3, c4, hfw, hps, hrow⟩ := HL.out.at_ g o rfl i hlt
      have HPS := hide hps
      have c0 := cell_keep c0 HB.out (Nat.le_refl _)
      have c1 := cell_keep c1 HB.out (Nat.le_refl _)
      have c2 := cell_keep c2 HB.out (Nat.le_refl _)
      have hgl := cell_lt c0
      simp only at hgl
      have hp8 := HR.out.pars _ (List.getElem_mem hlt)
      have hc1 : (0 : Int) ≤ (i : Int) := by omega
      have hc2 : (i : Int) < (L.length : Int) := by omega
      clear c3 c4 hfw hps hrow
      go_wp2_with fail
      (with_reducible refine (find_r HR.out.nodup HR.out.pars hlt _ _ _ (HS.out.has (has_below HB.out))).mono ?_)
      rintro r w3 ⟨⟨pa, pc, rfl, hi3⟩, hb⟩
      have HI3 := hide hi3
      have HB3 := hide (HB.out.tr hb)
      have hs3 := hb.size
      have c0 := cell_keep c0 hb (Nat.le_refl _)
      have c1 := cell_keep c1 hb (Nat.le_refl _)
      have c2 := cell_keep c2 hb (Nat.le_refl _)
      have hgl3 : g < w3.heap.size := by omega
      clear hi3 hb
      go_wp2_with fail
      have HX := hide (heap_alloc_new w3 (.cells #[.string ⟨L[i].name.toArray⟩, .slice pa L[i].params.length pc, .int .i64 L[i].result] 29))
      have hB1 := (bl w3).al (.cells #[.string ⟨L[i].name.toArray⟩, .slice pa L[i].params.length pc, .int .i64 L[i].result] 29)
      have c0 := cell_keep c0 hB1 (Nat.le_refl _)
      have c1 := cell_keep c1 hB1 (Nat.le_refl _)
      have c2 := cell_keep c2 hB1 (Nat.le_refl _)
      have HI4 := hide (HI3.out.keep hB1 (Nat.le_refl _))
      have HB4 := hide (HB3.out.tr hB1)
      clear hB1
      generalize w3.alloc (.cells #[.string ⟨L[i].name.toArray⟩, .slice pa L[i].params.length pc, .int .i64 L[i].result] 29) = W1 at *
      have x0 := cell_at (j := 0) HX.out rfl
      have x1 := cell_at (j := 1) HX.out rfl
      have x2 := cell_at (j := 2) HX.out rfl
      have hx := (Array.getElem?_eq_some_iff.1 HX.out).1
      have hgl4 := cell_lt c0
      simp only at hgl4
      have hat := (HS.out.at_ bs os rfl i (by simpa using hlt)).has (has_below HB4.out)
      rw [List.getElem_map] at hat
      obtain ⟨pd, pf, d0, d1, d2, hi5⟩ := hat
      have d0 : W1.cell? ⟨bs, os + i * 3, none⟩ = some (.string ⟨L[i].name.toArray⟩) := d0
      have d1 : W1.cell? ⟨bs, os + i * 3 + 1, none⟩ = some (.slice pd L[i].params.length pf) := by rw [d1]; simp [sgOf]
      have d2 : W1.cell? ⟨bs, os + i * 3 + 2, none⟩ = some (.int .i64 L[i].result) := d2
      have hbs := cell_lt d0
      simp only at hbs
      have HSM : Hid (∀ W, Below W1.heap.size W1 W → Calls Tryd.prog 17 #[.agg #[.string ⟨L[i].name.toArray⟩, .slice pa L[i].params.length pc, .int .i64 L[i].result], .agg #[.string ⟨L[i].name.toArray⟩, .slice pd L[i].params.length pf, .int .i64 L[i].result]] W fun r w' => r = .returned (.bool true) ∧ Below W.heap.size W w') := hide fun W hW => by
        have h := same_any (sgOf L[i]) (sgOf L[i]) (.agg #[.string ⟨L[i].name.toArray⟩, .slice pa L[i].params.length pc, .int .i64 L[i].result]) (.agg #[.string ⟨L[i].name.toArray⟩, .slice pd L[i].params.length pf, .int .i64 L[i].result]) W ⟨pa, pc, by simp [sgOf], HI4.out.keep hW (Nat.le_refl _)⟩ ⟨pd, pf, by simp [sgOf], hi5.keep hW (Nat.le_refl _)⟩
        rw [same_self12] at h
        exact h
      have HI5 := hide hi5
      have hnp : ((L[i].params.length : Int) != (L[i].params.length : Int)) = false := by simp
      have hnr : (L[i].result != L[i].result) = false := by simp
      clear hi5
      have hB := (bl W1).dr
      go_region_held3 (fun w' => w'.cell? ⟨w3.heap.size, 0, none⟩ = some (.string ⟨L[i].name.toArray⟩) ∧ w'.cell? ⟨w3.heap.size, 1, none⟩ = some (.slice pa L[i].params.length pc) ∧ w'.cell? ⟨w3.heap.size, 2, none⟩ = some (.int .i64 L[i].result) ∧
  w'.cell? ⟨bs, os + i * 3, none⟩ = some (.string ⟨L[i].name.toArray⟩) ∧ w'.cell? ⟨bs, os + i * 3 + 1, none⟩ = some (.slice pd L[i].params.length pf) ∧ w'.cell? ⟨bs, os + i * 3 + 2, none⟩ = some (.int .i64 L[i].result) ∧
  w'.cell? ⟨g, o + i * 5, none⟩ = some (.string ⟨L[i].name.toArray⟩) ∧ w'.cell? ⟨g, o + i * 5 + 1, none⟩ = some (.slice pp L[i].params.length cp) ∧ w'.cell? ⟨g, o + i * 5 + 2, none⟩ = some (.int .i64 L[i].result))
        (first | exact ⟨cell_keep x0 hB (Nat.le_refl _), cell_keep x1 hB (Nat.le_refl _), cell_keep x2 hB (Nat.le_refl _), cell_keep d0 hB (Nat.le_refl _), cell_keep d1 hB (Nat.le_refl _), cell_keep d2 hB (Nat.le_refl _), cell_keep c0 hB (Nat.le_refl _), cell_keep c1 hB (Nat.le_refl _), cell_keep c2 hB (Nat.le_refl _)⟩ | go_keep)
        ((go_at_call 17; (with_reducible refine (HSM.out _ hB).mono ?_); rintro r w5 ⟨rfl, hb⟩; have hB := hB.tr hb; clear hb))
      have HI7 := hide (HI4.out.keep hB (Nat.le_refl _))
      have HP7 := hide (HPS.out.has (has_below (HB4.out.tr hB)))
      have HB7 := hide (HB4.out.tr hB)
      have x1 := cell_keep x1 hB (Nat.le_refl _)
      have c1 := cell_keep c1 hB (Nat.le_refl _)
      have hx7 := Nat.lt_of_lt_of_le hx hB.size
      have hgl7 := Nat.lt_of_lt_of_le hgl4 hB.size
      have hpl : (sgOf L[i]).pars.length = L[i].params.length := by simp [sgOf]
      have HPL := hide hpl
      clear hB HI4 HI5 HX HI3 HSM HB4 HB3 x0 x2 c0 c2 d0 d1 d2 hx hgl hgl3 hgl4 hbs hpl hs3
      go_wp2_with fail
      generalize w5 = W7 at *
      go_loopw [16] (fun j wr => ∃ k m : Nat, k ≤ L[i].params.length ∧ j = .int .i64 k ∧ Hid (wr = W7.drewN m)) (fun j _ => L[i].params.length - (intOf j).toNat)
      case atStart => exact ⟨0, 0, Nat.zero_le _, rfl, hide rfl⟩
      case round =>
        obtain ⟨j, m, hj, rfl, HWR⟩ := hrel
        have x1 : wr.cell? ⟨w3.heap.size, 1, none⟩ = some (.slice pa L[i].params.length pc) := by rw [HWR.out]; exact x1
        have c1 : wr.cell? ⟨g, o + i * 5 + 1, none⟩ = some (.slice pp L[i].params.length cp) := by rw [HWR.out]; exact c1
        have hsz : wr.heap.size = W7.heap.size := by rw [HWR.out]; rfl
        have hx8 : w3.heap.size < wr.heap.size := by omega
        have hgl8 : g < wr.heap.size := by omega
        by_cases hjt : j < L[i].params.length
        · obtain ⟨pg, po, rfl⟩ := HI7.out.addr (by rw [HPL.out]; omega)
          obtain ⟨qg, qo, rfl⟩ := HP7.out.addr (by omega)
          have e0 : wr.cell? ⟨pg, po + j, none⟩ = some (.int .i64 L[i].params[j].typ) := by
            rw [HWR.out]
            have := HI7.out.at_ pg po rfl j (by rw [HPL.out]; exact hjt)
            simpa [sgOf] using this
          have f1 : wr.cell? ⟨qg, qo + j * 2 + 1, none⟩ = some (.int .i64 L[i].params[j].typ) := by
            rw [HWR.out]
            exact (HP7.out.at_ qg qo rfl j hjt).2
          have he0 := cell_lt e0
          have hf1 := cell_lt f1
          simp only at he0 hf1
          have hj1 : (0 : Int) ≤ (j : Int) := by omega
          have hj2 : (j : Int) < (L[i].params.length : Int) := by omega
          obtain ⟨tj, htj⟩ : ∃ t, L[i].params[j].typ = t := ⟨_, rfl⟩
          rw [htj] at e0 f1
          have hnt : (tj != tj) = false := by simp
          clear htj
          go_wp2_with fail
          go_quiet (fail)
          go_wp2_with fail
          go_roundw
          case rel => exact ⟨j + 1, _, by omega, by go_num, hide (by rw [HWR.out, World.drewN_drewN])⟩
          case measure => simp [intOf]; omega
        · obtain rfl : j = L[i].params.length := by omega
          go_wp2_with fail
          go_roundw
          case rel => exact ⟨i + 1, by omega, by go_num, hide (by rw [HWR.out]; exact below_dq HB7.out _)⟩
          case measure => simp [intOf]; omega
    · obtain rfl : i = L.length := by omega
      have HW := hide (HW.out.tr HB.out)
      have HL := hide (HL.out.has (has_below HB.out))
      have HS := hide (HS.out.has (has_below HB.out))
      obtain ⟨W2, rfl⟩ : ∃ W2 : World, W2 = wr := ⟨_, rfl⟩
      obtain ⟨pp, pb, cp, cb, c0, c1, c2, c3, c4, hfw, hps, hrow⟩ := HL.out.at_ g o rfl kk hkL
      have HPS := hide hps
      have hgl := cell_lt c0
      simp only at hgl
      have hp8 := HR.out.pars _ (List.getElem_mem hkL)
      obtain ⟨f0, hf0⟩ : ∃ f, f = L[kk] := ⟨_, rfl⟩
      rw [← hf0] at c0 c1 c2 c3 c4 HPS hp8
      have HF0 := hide hf0
      have hmod : q % L.length < L.length := by rw [← HKK.out]; exact hkL
      have HX0 := hide (heap_alloc_new W2 (.cells #[.string ⟨f0.name.toArray⟩, .slice pp f0.params.length cp, .int .i64 f0.result, .slice pb f0.body.length cb, .int .i64 f0.count] 53))
      have HBX := hide ((bl W2).al (.cells #[.string ⟨f0.name.toArray⟩, .slice pp f0.params.length cp, .int .i64 f0.result, .slice pb f0.body.length cb, .int .i64 f0.count] 53))
      clear hfw hps hrow HB hik hlt hf0
      obtain ⟨P0, hP0⟩ : ∃ P, P = (sgOf f0).pars := ⟨_, rfl⟩
      have hPl : P0.length = f0.params.length := by rw [hP0]; simp [sgOf]
      have HP0 := hide hP0
      have HPL := hide hPl
      obtain ⟨j0, hj, hy0, hy1, hy2⟩ := info_parts info_in
      clear hP0 hPl
      go_wp2_with fail
      rw [ek]
      go_loopw [18, 19] (fun lv i wr => ∃ (k : Nat) (va : Option Addr) (vc : Nat), k ≤ f0.params.length ∧ i = .int .i64 k ∧ lv = .slice va k vc ∧ Hid (OwnL wr (W2.heap.size + 1) 3 1 InC [] (.slice va k vc) (P0.take k)) ∧ Hid (wr.heap[W2.heap.size]? = some (.cells #[.string ⟨f0.name.toArray⟩, .slice pp f0.params.length cp, .int .i64 f0.result, .slice pb f0.body.length cb, .int .i64 f0.count] 53 (0, 0))) ∧ Hid (Below W2.heap.size W2 wr) ∧ W2.heap.size + 1 ≤ wr.heap.size) (fun _ i _ => f0.params.length - (intOf i).toNat)
      case atStart => exact ⟨0, none, 0, Nat.zero_le _, rfl, rfl, hide (OwnL.nil _ _ _ _ _ _), HX0, HBX, by simp⟩
      case round =>
        obtain ⟨k, va, vc, hk, rfl, rfl, HO, HX, HB, hws⟩ := hrel
        have x1 := cell_at (j := 1) HX.out rfl
        have hxl : W2.heap.size < wr.heap.size := hws
        by_cases hlt : k < f0.params.length
        · obtain ⟨pg, po, rfl⟩ := HPS.out.addr (by omega)
          obtain ⟨_, e1⟩ := (HPS.out.has (has_below HB.out)).at_ pg po rfl k hlt
          have hpg := cell_lt e1
          simp only at hpg
          have hlt' : k < P0.length := by rw [HPL.out]; exact hlt
          obtain ⟨tk, htk⟩ : ∃ t, P0[k] = t := ⟨_, rfl⟩
          have htk2 : f0.params[k].typ = tk := by rw [← htk]; simp [HP0.out, sgOf]
          rw [htk2] at e1
          have hll : (P0.take k).length = k := by rw [List.length_take]; omega
          have HO2 := hide (HO.out.al InC.mono (.cells #[.int .i64 tk] 3))
          have HB2 := hide (HB.out.al (.cells #[.int .i64 tk] 3))
          have HNW := hide (news_row wr [.int .i64 tk] 3 wr.heap.size rfl)
          have HMA : Hid ((P0.take k).length + 1 ≤ maxLen) := hide (by rw [hll]; unfold maxLen; omega)
          have HMB : Hid (((P0.take k).length + 1) * 8 ≤ 140737488355328) := hide (by rw [hll]; omega)
          have HBS : Hid (W2.heap.size + 1 ≤ (wr.alloc (.cells #[.int .i64 tk] 3)).heap.size) := hide (by simp; omega)
          have HLEN : Hid ((P0.take k ++ [tk]).length = k + 1) := hide (by rw [List.length_append, hll]; rfl)
          have HTK : Hid (P0.take (k + 1) = P0.take k ++ [tk]) := hide (by rw [List.take_succ_eq_append_getElem hlt', htk])
          have HX2 := hide ((Below.heap_alloc _ (.cells #[.int .i64 tk] 3) _ hxl).trans HX.out)
          clear hll htk htk2
          go_wp2_with (at_builtin; refine wpList_push _ rfl _ _ 23 rfl (W2.heap.size + 1) 3 j0 _ 1 8 Tryd.underlying23 hj hy0 hy1 hy2 rfl (by decide) InC InC.mono [] _ (P0.take k) rfl HO2.out ⟨wr.heap.size, 0, none⟩ 1 [.int .i64 tk] tk rfl rfl HNW.out (by simp [Value.oneCell']) rfl HMA.out HMB.out HBS.out ?_; intro v4 w4 hown4 hgrow4; obtain ⟨va4, vc4, he4, -, -⟩ := hown4.slice; rw [HLEN.out] at he4; subst he4)
          go_roundw
          case rel => exact ⟨k + 1, va4, vc4, by omega, by go_num, rfl, hide (by rw [HTK.out]; exact hown4), (hgrow4.block _ (by simp; omega) (fun e => by have := (HO.out.lt _ e.symm).1; omega)).trans HX2.out, HB2.out.grown hgrow4 HB2.out.size (fun g hg => by have := (HO.out.lt g hg).1; omega), Nat.le_trans HBS.out hgrow4.size⟩
          case measure => simp [intOf]; omega
        · obtain rfl : k = f0.params.length := by omega
          have ho := HO.out
          rw [← HPL.out, List.take_length] at ho
          have HOW := hide ho
          obtain ⟨a', c', he, hi⟩ := ho.ints (by simp)
          cases he
          have HI := hide (hi.has has_av)
          have HVA : Hid (0 < P0.length → ∃ g C, va = some ⟨g, 0, none⟩ ∧ W2.heap.size + 1 ≤ g ∧ wr.heap[g]? = some (.cells C 3 (0, 0))) := hide fun e => by
            obtain ⟨xs, hown, hcut⟩ := ho
            rcases hown.2 with ⟨_, h0⟩ | ⟨g, cap, cur, h1, hbg, hgg, _⟩
            · omega
            · simp only [Value.slice.injEq] at h1
              exact ⟨g, cur, h1.1, hbg, hgg⟩
          have HNIL : Hid (va = none → P0 = [] ∧ vc = 0) := hide fun e => by
            rcases ho.form with ⟨h1, h2⟩ | ⟨g', cap', h1, _⟩
            · simp only [Value.slice.injEq] at h1
              exact ⟨h2, h1.2.2⟩
            · rw [e] at h1
              simp only [Value.slice.injEq] at h1
              exact absurd h1.1 (by simp)
          have HNEW : Hid (∀ W, Below wr.heap.size wr W → ∀ ad, va = some ad → ∀ (j : Nat) (u : Value), (P0.map (Value.int .i64))[j]? = some u → W.cell? (ad.add j) = some u) := hide fun W hW ad e j u hu => by
            rcases ho.form with ⟨h1, _⟩ | ⟨g', cap', h1, _⟩
            · rw [e] at h1
              simp only [Value.slice.injEq] at h1
              exact absurd h1.1 (by simp)
            · rw [e] at h1
              simp only [Value.slice.injEq, Option.some.injEq] at h1
              obtain ⟨rfl, _, _⟩ := h1
              rw [List.getElem?_map] at hu
              obtain ⟨z, hz, rfl⟩ := Option.map_eq_some_iff.1 hu
              obtain ⟨hj, rfl⟩ := List.getElem?_eq_some_iff.1 hz
              rw [Addr.add_lit]
              exact cell_keep ((hi.has has_av).at_ g' 0 e j hj) hW (Nat.le_refl _)
          have HONE : Hid (∀ u ∈ P0.map (Value.int .i64), u.oneCell' = true) := hide fun u hu => by
            obtain ⟨z, _, rfl⟩ := List.mem_map.1 hu
            rfl
          have hpl8 : P0.length ≤ 8 := by rw [HPL.out]; exact hp8
          have HMA1 : Hid (([] : List Int).length + P0.length ≤ maxLen) := hide (by unfold maxLen; simp; omega)
          have HMB1 : Hid ((([] : List Int).length + P0.length) * 8 ≤ 140737488355328) := hide (by simp; omega)
          have HMA2 : Hid (P0.length + 1 ≤ maxLen) := hide (by unfold maxLen; omega)
          have HMB2 : Hid ((P0.length + 1) * 8 ≤ 140737488355328) := hide (by omega)
          have HLP1 : Hid ((P0 ++ [1]).length = f0.params.length + 1) := hide (by rw [List.length_append, HPL.out]; rfl)
          have HONE1 : Hid (∀ u ∈ [Value.int .i64 1], u.oneCell' = true) := hide (by simp [Value.oneCell'])
          have HIN1 : Hid (∀ W, InC W 1 [.int .i64 1]) := hide fun _ => rfl
          obtain ⟨W3, rfl⟩ : ∃ W3 : World, W3 = wr := ⟨_, rfl⟩
          have HWA := HW
          have HW := hide (HW.out.tr HB.out)
          have HS2 := HS
          have HB2' := HB
          have HS := hide (HS.out.has (has_below HB.out))
          have hps : ∀ s ∈ L.map sgOf, s.pars.length ≤ 100000 := fun s hs => by
            obtain ⟨f, hf, rfl⟩ := List.mem_map.1 hs
            have := HR.out.pars f hf
            simp only [sgOf, List.length_map]
            omega
          have HPS2 := hide hps
          have HCALL : Hid (∀ (nm : Bytes) (args : List Int) (t : Int) (m : Nat) (b : Option Addr) (cb : Nat) (W : World), args.length = m → Below W3.heap.size W3 W → Ints W args b cb → Calls Tryd.prog 13 #[.slice (some ⟨bs, os, none⟩) L.length lc, .string ⟨nm.toArray⟩, .slice b m cb, .int .i64 t] W fun r w' => r = .returned (.int .i64 (callM (L.map sgOf) nm args t)) ∧ Below W.heap.size W w') := hide fun nm args t m b cb W hm hW hints => by
            subst hm
            have h := call12_any (L.map sgOf) nm args t (some ⟨bs, os, none⟩) b lc cb W (HS.out.has (has_below hW)) hps hints
            rw [List.length_map] at h
            exact h
          have hc1' := call_ok HR.out hkL 0 (.inl rfl)
          have hc2' := call_ok HR.out hkL L[kk].result (.inr rfl)
          have hc3' := call_args HR.out hkL 0 (P0 ++ [1]) (by rw [HP0.out, HF0.out]; exact snoc_ne _ _)
          have hc4' := call_name HR.out hkL 0 P0
          have hpe : (sgOf L[kk]).pars = P0 := by rw [HP0.out, HF0.out]
          rw [hpe, ← HF0.out] at hc1' hc2'
          rw [← HF0.out] at hc3' hc4'
          have HC1 : Hid (∀ W, Below W3.heap.size W3 W → Calls Tryd.prog 13 #[.slice (some ⟨bs, os, none⟩) L.length lc, .string ⟨f0.name.toArray⟩, .slice va f0.params.length vc, .int .i64 0] W fun r w' => r = .returned (.int .i64 0) ∧ Below W.heap.size W w') := hide fun W hW => by
            have h := HCALL.out f0.name P0 0 _ va vc W HPL.out hW (HI.out.keep hW (Nat.le_refl _))
            rw [hc1'] at h
            exact h
          have HC2 : Hid (∀ W, Below W3.heap.size W3 W → Calls Tryd.prog 13 #[.slice (some ⟨bs, os, none⟩) L.length lc, .string ⟨f0.name.toArray⟩, .slice va f0.params.length vc, .int .i64 f0.result] W fun r w' => r = .returned (.int .i64 0) ∧ Below W.heap.size W w') := hide fun W hW => by
            have h := HCALL.out f0.name P0 f0.result _ va vc W HPL.out hW (HI.out.keep hW (Nat.le_refl _))
            rw [hc2'] at h
            exact h
          have HC3 : Hid (∀ (b : Option Addr) (cb : Nat) (W : World), Below W3.heap.size W3 W → Ints W (P0 ++ [1]) b cb → Calls Tryd.prog 13 #[.slice (some ⟨bs, os, none⟩) L.length lc, .string ⟨f0.name.toArray⟩, .slice b (f0.params.length + 1) cb, .int .i64 0] W fun r w' => r = .returned (.int .i64 12) ∧ Below W.heap.size W w') := hide fun b cb W hW hints => by
            have h := HCALL.out f0.name (P0 ++ [1]) 0 _ b cb W HLP1.out hW hints
            rw [hc3'] at h
            exact h
          have hst : (⟨f0.name.toArray⟩ : ByteArray) ++ ⟨#[120]⟩ = ⟨(f0.name ++ [120]).toArray⟩ := by
            rw [show (⟨#[120]⟩ : ByteArray) = ⟨([120] : Bytes).toArray⟩ from rfl, str_app]
          have HC4 : Hid (∀ W, Below W3.heap.size W3 W → Calls Tryd.prog 13 #[.slice (some ⟨bs, os, none⟩) L.length lc, .string (⟨f0.name.toArray⟩ ++ ⟨#[120]⟩), .slice va f0.params.length vc, .int .i64 0] W fun r w' => r = .returned (.int .i64 11) ∧ Below W.heap.size W w') := hide fun W hW => by
            rw [hst]
            have h := HCALL.out (f0.name ++ [120]) P0 0 _ va vc W HPL.out hW (HI.out.keep hW (Nat.le_refl _))
            rw [hc4'] at h
            exact h
          have hnm4 : f0.name.length ≤ 4 := by
            have := HR.out.size f0 (by rw [HF0.out]; exact List.getElem_mem hkL)
            omega
          have x0 := cell_at (j := 0) HX.out rfl
          have x2 := cell_at (j := 2) HX.out rfl
          have hz1 : ¬ ((⟨f0.name.toArray⟩ : ByteArray).size + (⟨#[120]⟩ : ByteArray).size > 9223372036854775807) := by simp [ByteArray.size]; omega
          have hz2 : ¬ (9223372036854775807 < (⟨f0.name.toArray⟩ : ByteArray).size + (⟨#[120]⟩ : ByteArray).size) := by simp [ByteArray.size]; omega
          have hz3 : ¬ (9223372036854775807 < f0.name.length + 1) := by omega
          have hz4 : ¬ (9223372036854775807 ≤ f0.name.length) := by omega
          clear hc1' hc2' hc3' hc4' hpe hps hst ho hi c0 c1 c2 c3 c4 hpl8
          go_upto_region 24 with fail
          go_cut [189] (fun s wx => s = .bool false ∧ Hid (Below W3.heap.size W3 wx))
          case first => as_aux_lemma =>
            have hB := (bl W3).dr
            go_region_held3 (fun w' => w'.cell? ⟨W2.heap.size, 0, none⟩ = some (.string ⟨f0.name.toArray⟩) ∧ w'.cell? ⟨W2.heap.size, 2, none⟩ = some (.int .i64 f0.result))
              (first | exact ⟨cell_keep x0 hB (Nat.le_refl _), cell_keep x2 hB (Nat.le_refl _)⟩ | exact ⟨cell_keep x0 (hB.al _) (Nat.le_refl _), cell_keep x2 (hB.al _) (Nat.le_refl _)⟩ | exact ⟨cell_keep x0 ((hB.al _).al _) (Nat.le_refl _), cell_keep x2 ((hB.al _).al _) (Nat.le_refl _)⟩)
              (first
                | (go_at_call 13; (with_reducible refine (HC1.out _ hB).mono ?_); rintro r w5 ⟨rfl, hb⟩; have hB := hB.tr hb; clear hb)
                | (go_at_call 13; (with_reducible refine (HC2.out _ hB).mono ?_); rintro r w6 ⟨rfl, hb⟩; have hB := hB.tr hb; have AF := hide (app_ints w6); have hB6 := hB; clear hb)
                | (refine guard_free (by kernel_rfl) ?_; refine step_pushes _ (by rfl) _ _ 23 (by rfl) w6.heap.size 3 j0 _ 1 8 Tryd.underlying23 hj hy0 hy1 hy2 (by rfl) (Nat.succ_pos _) InC InC.mono [] _ ([] : List Int) (by rfl) AF.out.e1 va f0.params.length vc (P0.map (Value.int .i64)) P0 HPL.out.symm (by rfl) HNIL.out (HNEW.out _ (hB.tr AF.out.x1)) HONE.out (cut_ints P0) HMA1.out HMB1.out AF.out.x1.size ?_; intro v7 w7 hown7 hgrow7; rw [List.nil_append] at hown7; have HO7 := hide hown7; have hW7 := AF.out.x1.grown hgrow7 AF.out.x1.size AF.out.g1; have HN7 := hide (AF.out.m1 _ hgrow7); have hB := hB.tr hW7; clear hown7 hgrow7)
                | (refine guard_free (by kernel_rfl) ?_; refine step_pushes _ (by rfl) _ _ 23 (by rfl) w6.heap.size 3 j0 _ 1 8 Tryd.underlying23 hj hy0 hy1 hy2 (by rfl) (Nat.succ_pos _) InC InC.mono [] _ ([] : List Int) (by rfl) AF.out.e2 va f0.params.length vc (P0.map (Value.int .i64)) P0 HPL.out.symm (by rfl) HNIL.out (HNEW.out _ (hB.tr AF.out.x2)) HONE.out (cut_ints P0) HMA1.out HMB1.out AF.out.x2.size ?_; intro v7 w7 hown7 hgrow7; rw [List.nil_append] at hown7; have HO7 := hide hown7; have hW7 := AF.out.x2.grown hgrow7 AF.out.x2.size AF.out.g2; have HN7 := hide (AF.out.m2 _ hgrow7); have hB := hB.tr hW7; clear hown7 hgrow7)
                | (refine guard_free (by kernel_rfl) ?_; refine step_pushes _ (by rfl) _ _ 23 (by rfl) w6.heap.size 3 j0 _ 1 8 Tryd.underlying23 hj hy0 hy1 hy2 (by rfl) (Nat.succ_pos _) InC InC.mono [] _ ([] : List Int) (by rfl) AF.out.e3 va f0.params.length vc (P0.map (Value.int .i64)) P0 HPL.out.symm (by rfl) HNIL.out (HNEW.out _ (hB.tr AF.out.x3)) HONE.out (cut_ints P0) HMA1.out HMB1.out AF.out.x3.size ?_; intro v7 w7 hown7 hgrow7; rw [List.nil_append] at hown7; have HO7 := hide hown7; have hW7 := AF.out.x3.grown hgrow7 AF.out.x3.size AF.out.g2; have hB := hB.tr hW7; clear hown7 hgrow7)
                | (refine guard_free (by kernel_rfl) ?_; refine step_push _ (by rfl) _ _ 23 (by rfl) w6.heap.size 3 j0 _ 1 8 Tryd.underlying23 hj hy0 hy1 hy2 (by rfl) (Nat.succ_pos _) InC InC.mono [] v7 P0 (by rfl) HO7.out _ 1 [.int .i64 1] 1 (by rfl) (by rfl) HN7.out HONE1.out (HIN1.out _) HMA2.out HMB2.out hW7.size ?_; intro v8 w8 hown8 hgrow8; have hW8 := hW7.grown hgrow8 hW7.size (fun k hk => (HO7.out.lt k hk).1); have hB := hB6.tr hW8; obtain ⟨va8, vc8, he8, hi8⟩ := hown8.ints (by simp); rw [HLP1.out] at he8; subst he8; have HI8 := hide (hi8.has has_av); clear hown8 hgrow8 hi8)
                | (refine guard_free (by kernel_rfl) ?_; refine step_push _ (by rfl) _ _ 23 (by rfl) w6.heap.size 3 j0 _ 1 8 Tryd.underlying23 hj hy0 hy1 hy2 (by rfl) (Nat.succ_pos _) InC InC.mono [] v7 P0 (by rfl) (HO7.out.al InC.mono _) _ 1 [.int .i64 1] 1 (by rfl) (by rfl) (news_row w7 [.int .i64 1] 3 w7.heap.size rfl) HONE1.out (HIN1.out _) HMA2.out HMB2.out (AF.out.sa _ _ hW7.size) ?_; intro v8 w8 hown8 hgrow8; have hW8 := (hW7.al (.cells #[.int .i64 1] 3)).grown hgrow8 (AF.out.sa _ _ hW7.size) (fun k hk => (HO7.out.lt k hk).1); have hB := hB6.tr hW8; obtain ⟨va8, vc8, he8, hi8⟩ := hown8.ints (by simp); rw [HLP1.out] at he8; subst he8; have HI8 := hide (hi8.has has_av); clear hown8 hgrow8 hi8)
                | (go_at_call 13; (with_reducible refine (HC3.out _ _ _ hB HI8.out).mono ?_); rintro r w9 ⟨rfl, hb⟩; have hB := hB.tr hb; clear hb)
                | (go_at_call 13; (with_reducible refine (HC4.out _ hB).mono ?_); rintro r w10 ⟨rfl, hb⟩; have hB := hB.tr hb; clear hb))
            all_goals
              go_wp2_with fail
              (try simp only [Act.put, List.getElem_toArray, List.getElem_cons_succ, List.getElem_cons_zero, List.setIfInBounds_toArray, List.set_cons_zero, List.set_cons_succ])
              go_meet
              case rel => exact ⟨rfl, hide hB⟩
          case rest =>
            obtain ⟨rfl, HB3⟩ := hcut
            go_wp2_with fail
            obtain ⟨W4, rfl⟩ : ∃ W4 : World, W4 = wc := ⟨_, rfl⟩
            have x0 := cell_keep x0 HB3.out (Nat.le_refl _)
            have x2 := cell_keep x2 HB3.out (Nat.le_refl _)
            have hr4 := HR.out.res f0 (by rw [HF0.out]; exact List.getElem_mem hkL)
            have hpe : (sgOf L[kk]).pars = P0 := by rw [HP0.out, HF0.out]
            have htg : (1 : Int) ≤ (IntKind.i64.wrap (1 + (IntKind.i64.wrap (f0.result + IntKind.i64.wrap ((x : Int).tmod 2))).tmod 3)) := by
              have h2 : (x : Int).tmod 2 = (x : Int) % 2 := Int.tmod_eq_emod_of_nonneg (by omega)
              have h3 : IntKind.i64.wrap ((x : Int) % 2) = (x : Int) % 2 := IntWalk.i64_in _ (by omega)
              have h4 : IntKind.i64.wrap (f0.result + (x : Int) % 2) = f0.result + (x : Int) % 2 := IntWalk.i64_in _ (by omega)
              have h5 : (f0.result + (x : Int) % 2).tmod 3 = (f0.result + (x : Int) % 2) % 3 := Int.tmod_eq_emod_of_nonneg (by omega)
              rw [h2, h3, h4, h5, IntWalk.i64_in _ (by omega)]
              omega
            obtain ⟨ev, hev⟩ : ∃ ev : Int, ev = (if f0.result = (IntKind.i64.wrap (1 + (IntKind.i64.wrap (f0.result + IntKind.i64.wrap ((x : Int).tmod 2))).tmod 3)) then 0 else 12) := ⟨_, rfl⟩
            have hc5 := call_target HR.out hkL (IntKind.i64.wrap (1 + (IntKind.i64.wrap (f0.result + IntKind.i64.wrap ((x : Int).tmod 2))).tmod 3)) (by omega)
            rw [hpe, ← HF0.out, ← hev] at hc5
            have HC5 : Hid (∀ W, Below W4.heap.size W4 W → Calls Tryd.prog 13 #[.slice (some ⟨bs, os, none⟩) L.length lc, .string ⟨f0.name.toArray⟩, .slice va f0.params.length vc, .int .i64 (IntKind.i64.wrap (1 + (IntKind.i64.wrap (f0.result + IntKind.i64.wrap ((x : Int).tmod 2))).tmod 3))] W fun r w' => r = .returned (.int .i64 ev) ∧ Below W.heap.size W w') := hide fun W hW => by
              have hW := HB3.out.tr hW
              have h := HCALL.out f0.name P0 (IntKind.i64.wrap (1 + (IntKind.i64.wrap (f0.result + IntKind.i64.wrap ((x : Int).tmod 2))).tmod 3)) _ va vc W HPL.out hW (HI.out.keep hW (Nat.le_refl _))
              rw [hc5] at h
              exact h
            have HC6 : Hid (∀ W, Calls Tryd.prog 20 #[.int .i64 f0.result, .int .i64 (IntKind.i64.wrap (1 + (IntKind.i64.wrap (f0.result + IntKind.i64.wrap ((x : Int).tmod 2))).tmod 3))] W fun r w' => r = .returned (.int .i64 ev) ∧ Below W.heap.size W w') := hide fun W => by
              have h := targeted12_any f0.result (IntKind.i64.wrap (1 + (IntKind.i64.wrap (f0.result + IntKind.i64.wrap ((x : Int).tmod 2))).tmod 3)) W
              rw [← hev] at h
              exact h
            have hnv : (ev != ev) = false := by simp
            clear hc5 hev htg
            have hB := (bl W4).dr
            go_region_held3 (fun w' => w'.cell? ⟨W2.heap.size, 0, none⟩ = some (.string ⟨f0.name.toArray⟩) ∧ w'.cell? ⟨W2.heap.size, 2, none⟩ = some (.int .i64 f0.result))
              (exact ⟨cell_keep x0 hB (Nat.le_refl _), cell_keep x2 hB (Nat.le_refl _)⟩)
              (first
                | (go_at_call 13; (with_reducible refine (HC5.out _ hB).mono ?_); rintro r w5 ⟨rfl, hb⟩; have hB := hB.tr hb; clear hb)
                | (go_at_call 20; (with_reducible refine (HC6.out _).mono ?_); rintro r w6 ⟨rfl, hb⟩; have hB := hB.tr hb; clear hb))
            obtain ⟨W6, rfl⟩ : ∃ W6 : World, W6 = w6 := ⟨_, rfl⟩
            have HB6 := hide (HB3.out.tr hB)
            have x0 := cell_keep x0 hB (Nat.le_refl _)
            have x2 := cell_keep x2 hB (Nat.le_refl _)
            clear hB HC5 HC6 HB3 hnv
            by_cases hp : 0 < f0.params.length
            · obtain ⟨vg, VC, rfl, hvg, hvc⟩ := HVA.out (by rw [HPL.out]; exact hp)
              have HVC := hide hvc
              clear hvc
              have hq1 : (1 : Int) ≤ (f0.params.length : Int) := by omega
              have hq2 : (0 : Int) < (f0.params.length : Int) := by omega
              have HT7 : Hid (∀ W, Below W6.heap.size W6 W → ∀ (b : Option Addr) (m cb : Nat), m = P0.tail.length → Ints W P0.tail b cb → Calls Tryd.prog 13 #[.slice (some ⟨bs, os, none⟩) L.length lc, .string ⟨f0.name.toArray⟩, .slice b m cb, .int .i64 0] W fun r w' => r = .returned (.int .i64 12) ∧ Below W.heap.size W w') := hide fun W hW b m cb hm hints => by
                have h := HCALL.out f0.name P0.tail 0 m b cb W hm.symm (HB6.out.tr hW) hints
                have h2 := call_args HR.out hkL 0 P0.tail (by rw [hpe]; exact tail_ne (by rw [HPL.out]; exact hp))
                rw [← HF0.out] at h2
                rw [h2] at h
                exact h
              have HI6 := hide (HI.out.keep HB6.out (Nat.le_refl _))
              have hcv := HI6.out.len
              rw [HPL.out] at hcv
              have hcv2 := HI6.out.cap
              have HTL : Hid (f0.params.length - 1 = P0.tail.length) := hide (by rw [List.length_tail, HPL.out])
              have hqc : (1 : Int) ≤ (vc : Int) := by omega
              have hqd : (f0.params.length : Int) ≤ (vc : Int) := by omega
              have hB := (bl W6).dr
              have HRE : Hid (Tab W6 ∧ Words W6) := hide ⟨HT.out.below (HW.out.tr HB6.out), HWD.out.below (HW.out.tr HB6.out)⟩
              by_cases hv1 : vc = 1
              · subst hv1
                have HTL0 : Hid (0 = P0.tail.length) := hide (by rw [List.length_tail, HPL.out]; omega)
                have HI7 : Hid (Ints W6.drew P0.tail (some ⟨vg, 0, none⟩) 0) := hide (ints_none1 (by rw [List.length_tail, HPL.out]; omega) (by omega))
                go_wp2_with fail
                go_region_held3 (fun w' => w'.cell? ⟨W2.heap.size, 0, none⟩ = some (.string ⟨f0.name.toArray⟩))
                  (exact (cell_keep x0 hB (Nat.le_refl _)))
                  ((go_at_call 13; (with_reducible refine (HT7.out _ hB _ _ _ HTL0.out HI7.out).mono ?_); rintro r w7 ⟨rfl, hb⟩; have hB := hB.tr hb; clear hb))
                obtain ⟨W7, rfl⟩ : ∃ W7 : World, W7 = w7 := ⟨_, rfl⟩
                have HB7 := hide (HB6.out.tr hB)
                have x0 := cell_keep x0 hB (Nat.le_refl _)
                have x2 := cell_keep x2 hB (Nat.le_refl _)
                obtain ⟨j, hj⟩ : ∃ j, x % f0.params.length = j := ⟨_, rfl⟩
                have hjl : j < f0.params.length := by rw [← hj]; exact Nat.mod_lt _ hp
                have hjP : j < P0.length := by rw [HPL.out]; exact hjl
                have m1 : (x : Int).tmod (f0.params.length : Int) = (j : Int) := by rw [← hj]; exact (Int.ofNat_tmod _ _).symm
                have m2 : IntKind.i64.wrap (x : Int) = (x : Int) := IntWalk.i64_in _ (by omega)
                have m3 : IntKind.i64.wrap (j : Int) = (j : Int) := IntWalk.i64_in _ (by omega)
                have m4 : ¬ (f0.params.length : Int) = 0 := by omega
                have m5 : (0 : Int) ≤ (j : Int) := by omega
                have m6 : (j : Int) < (f0.params.length : Int) := by omega
                obtain ⟨tj, htj⟩ : ∃ t, P0[j] = t := ⟨_, rfl⟩
                have HI8 := hide (HI.out.keep HB7.out (Nat.le_refl _))
                have e0 := HI8.out.at_ vg 0 rfl j hjP
                rw [htj, Nat.zero_add] at e0
                have he0 := cell_lt e0
                simp only at he0
                have hne : W2.heap.size ≠ vg := by omega
                have hfz : W7.frozen? ⟨vg, j, none⟩ = false := by
                  have h1 := (HB7.out.block vg (Array.getElem?_eq_some_iff.1 HVC.out).1).trans HVC.out
                  simp [World.frozen?, h1]
                have hty : 1 ≤ tj ∧ tj ≤ 3 := by
                  have h1 := HR.out.typ f0 (by rw [HF0.out]; exact List.getElem_mem hkL) f0.params[j] (List.getElem_mem hjl)
                  have h2 : P0[j] = f0.params[j].typ := by simp [HP0.out, sgOf]
                  rw [← htj, h2]
                  exact h1
                have m7 : IntKind.i64.wrap (1 + tj.tmod 3) = 1 + tj % 3 := by
                  rw [Int.tmod_eq_emod_of_nonneg (by omega)]
                  exact IntWalk.i64_in _ (by omega)
                have HC8 : Hid (∀ W, Below W2.heap.size W2 W → Ints W (P0.set j (1 + tj % 3)) (some ⟨vg, 0, none⟩) 1 → Calls Tryd.prog 13 #[.slice (some ⟨bs, os, none⟩) L.length lc, .string ⟨f0.name.toArray⟩, .slice (some ⟨vg, 0, none⟩) f0.params.length 1, .int .i64 f0.result] W fun r w' => r = .returned (.int .i64 12) ∧ Below W.heap.size W w') := hide fun W hW hints => by
                  have h := call12_any (L.map sgOf) f0.name (P0.set j (1 + tj % 3)) f0.result (some ⟨bs, os, none⟩) (some ⟨vg, 0, none⟩) lc 1 W (HS2.out.has (has_below hW)) HPS2.out hints
                  have h2 := call_args HR.out hkL f0.result (P0.set j (1 + tj % 3)) (by rw [hpe, ← htj]; have h3 := set_ne HR.out hkL (j := j) (by rw [hpe]; exact hjP); simp only [hpe] at h3; exact h3)
                  rw [← HF0.out] at h2
                  rw [h2, List.length_map, List.length_set, HPL.out] at h
                  exact h
                clear hj hty htj
                have HBS := hide ((HB2'.out.tr HB7.out).setCell (p := ⟨vg, j, none⟩) (by simp only; omega) (.int .i64 (1 + tj % 3)))
                have HIS := hide (ints_set1 HI8.out hjP (1 + tj % 3))
                go_wp2_with fail
                (with_reducible refine (HC8.out _ HBS.out HIS.out).mono ?_)
                rintro r w8 ⟨rfl, hb⟩
                have HW := hide (HWA.out.tr (HBS.out.tr hb))
                clear hb
                go_wp2_with fail
                refine (works12_any _ (HT.out.below HW.out) (HWD.out.below HW.out)).mono ?_
                rintro r w9 ⟨rfl, hb⟩
                have HW := hide (HW.out.tr hb)
                clear hb
                go_wp2_with fail
                go_ret
                exact ⟨rfl, HW.out⟩
              · have HI7 : Hid (Ints W6.drew P0.tail (some ⟨vg, 1, none⟩) (vc - 1)) := hide (ints_tail1 (HI6.out.keep (bl W6).dr (Nat.le_refl _)) (by rw [HPL.out]; exact hp))
                go_wp2_with fail
                have hv2 : ¬ (vc : Int) = 1 := by omega
                have hv3 : ¬ (1 : Int) = (vc : Int) := by omega
                go_region_held3 (fun w' => w'.cell? ⟨W2.heap.size, 0, none⟩ = some (.string ⟨f0.name.toArray⟩))
                  (exact (cell_keep x0 hB (Nat.le_refl _)))
                  ((go_at_call 13; (with_reducible refine (HT7.out _ hB _ _ _ HTL.out HI7.out).mono ?_); rintro r w7 ⟨rfl, hb⟩; have hB := hB.tr hb; clear hb))
                obtain ⟨W7, rfl⟩ : ∃ W7 : World, W7 = w7 := ⟨_, rfl⟩
                have HB7 := hide (HB6.out.tr hB)
                have x0 := cell_keep x0 hB (Nat.le_refl _)
                have x2 := cell_keep x2 hB (Nat.le_refl _)
                obtain ⟨j, hj⟩ : ∃ j, x % f0.params.length = j := ⟨_, rfl⟩
                have hjl : j < f0.params.length := by rw [← hj]; exact Nat.mod_lt _ hp
                have hjP : j < P0.length := by rw [HPL.out]; exact hjl
                have m1 : (x : Int).tmod (f0.params.length : Int) = (j : Int) := by rw [← hj]; exact (Int.ofNat_tmod _ _).symm
                have m2 : IntKind.i64.wrap (x : Int) = (x : Int) := IntWalk.i64_in _ (by omega)
                have m3 : IntKind.i64.wrap (j : Int) = (j : Int) := IntWalk.i64_in _ (by omega)
                have m4 : ¬ (f0.params.length : Int) = 0 := by omega
                have m5 : (0 : Int) ≤ (j : Int) := by omega
                have m6 : (j : Int) < (f0.params.length : Int) := by omega
                obtain ⟨tj, htj⟩ : ∃ t, P0[j] = t := ⟨_, rfl⟩
                have HI8 := hide (HI.out.keep HB7.out (Nat.le_refl _))
                have e0 := HI8.out.at_ vg 0 rfl j hjP
                rw [htj, Nat.zero_add] at e0
                have he0 := cell_lt e0
                simp only at he0
                have hne : W2.heap.size ≠ vg := by omega
                have hfz : W7.frozen? ⟨vg, j, none⟩ = false := by
                  have h1 := (HB7.out.block vg (Array.getElem?_eq_some_iff.1 HVC.out).1).trans HVC.out
                  simp [World.frozen?, h1]
                have hty : 1 ≤ tj ∧ tj ≤ 3 := by
                  have h1 := HR.out.typ f0 (by rw [HF0.out]; exact List.getElem_mem hkL) f0.params[j] (List.getElem_mem hjl)
                  have h2 : P0[j] = f0.params[j].typ := by simp [HP0.out, sgOf]
                  rw [← htj, h2]
                  exact h1
                have m7 : IntKind.i64.wrap (1 + tj.tmod 3) = 1 + tj % 3 := by
                  rw [Int.tmod_eq_emod_of_nonneg (by omega)]
                  exact IntWalk.i64_in _ (by omega)
                have HC8 : Hid (∀ W, Below W2.heap.size W2 W → Ints W (P0.set j (1 + tj % 3)) (some ⟨vg, 0, none⟩) vc → Calls Tryd.prog 13 #[.slice (some ⟨bs, os, none⟩) L.length lc, .string ⟨f0.name.toArray⟩, .slice (some ⟨vg, 0, none⟩) f0.params.length vc, .int .i64 f0.result] W fun r w' => r = .returned (.int .i64 12) ∧ Below W.heap.size W w') := hide fun W hW hints => by
                  have h := call12_any (L.map sgOf) f0.name (P0.set j (1 + tj % 3)) f0.result (some ⟨bs, os, none⟩) (some ⟨vg, 0, none⟩) lc vc W (HS2.out.has (has_below hW)) HPS2.out hints
                  have h2 := call_args HR.out hkL f0.result (P0.set j (1 + tj % 3)) (by rw [hpe, ← htj]; have h3 := set_ne HR.out hkL (j := j) (by rw [hpe]; exact hjP); simp only [hpe] at h3; exact h3)
                  rw [← HF0.out] at h2
                  rw [h2, List.length_map, List.length_set, HPL.out] at h
                  exact h
                clear hj hty htj
                have HBS := hide ((HB2'.out.tr HB7.out).setCell (p := ⟨vg, j, none⟩) (by simp only; omega) (.int .i64 (1 + tj % 3)))
                have HIS := hide (ints_set1 HI8.out hjP (1 + tj % 3))
                go_wp2_with fail
                (with_reducible refine (HC8.out _ HBS.out HIS.out).mono ?_)
                rintro r w8 ⟨rfl, hb⟩
                have HW := hide (HWA.out.tr (HBS.out.tr hb))
                clear hb
                go_wp2_with fail
                refine (works12_any _ (HT.out.below HW.out) (HWD.out.below HW.out)).mono ?_
                rintro r w9 ⟨rfl, hb⟩
                have HW := hide (HW.out.tr hb)
                clear hb
                go_wp2_with fail
                go_ret
                exact ⟨rfl, HW.out⟩
            · have hp0 : f0.params.length = 0 := by omega
              have HW := hide (HW.out.tr HB6.out)
              go_wp2_with fail
              refine (works12_any _ (HT.out.below HW.out) (HWD.out.below HW.out)).mono ?_
              rintro r w9 ⟨rfl, hb⟩
              have HW := hide (HW.out.tr hb)
              clear hb
              go_wp2_with fail
              go_ret
              exact ⟨rfl, HW.out⟩
end Go.Proofs.YtnkmbddjekepkaaDoor
