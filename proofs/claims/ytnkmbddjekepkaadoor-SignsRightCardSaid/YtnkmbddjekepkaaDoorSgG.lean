/- Types and their words; the signature of a function. -/
import Derived.Test.YtnkmbddjekepkaaDoorSgF
import Derived.Test.YtnkmbddjekepkaaDoorOw2
namespace Go.Proofs.YtnkmbddjekepkaaDoor
open Go Go.RowKit
set_option linter.unusedSimpArgs false
set_option linter.unusedVariables false
set_option linter.unnecessarySimpa false
theorem typed12_any (t : Int) (w : World) : Calls Tryd.prog 31 #[.int .i64 t] w fun r w' => r = .returned (.bool (typedB t)) ∧ w' = w := by
  by_cases h1 : 0 < t
  · by_cases h2 : t < 4
    · have HE : Hid (typedB t = true) := hide (by simp [typedB, h1, h2])
      go_enter Tryd.func31, Tryd.ntmps31
      go_wp2_with fail
      go_ret
      exact ⟨ret_bool (by rw [HE.out]), rfl⟩
    · have HE : Hid (typedB t = false) := hide (by simp [typedB, h2])
      go_enter Tryd.func31, Tryd.ntmps31
      go_wp2_with fail
      go_ret
      exact ⟨ret_bool (by rw [HE.out]), rfl⟩
  · have HE : Hid (typedB t = false) := hide (by simp [typedB, h1])
    go_enter Tryd.func31, Tryd.ntmps31
    go_wp2_with fail
    go_ret
    exact ⟨ret_bool (by rw [HE.out]), rfl⟩
theorem ret_string {a b : Bytes} (h : a = b) : Ending.returned (.string ⟨a.toArray⟩) = .returned (.string ⟨b.toArray⟩) := by rw [h]
theorem word12_any (t : Int) (w : World) : Calls Tryd.prog 34 #[.int .i64 t] w fun r w' => r = .returned (.string ⟨(wordB t).toArray⟩) ∧ w' = w := by
  by_cases h1 : t = 1
  · subst h1
    go_enter Tryd.func34, Tryd.ntmps34
    go_wp2_with fail
    go_ret
    exact ⟨rfl, rfl⟩
  by_cases h2 : t = 2
  · subst h2
    go_enter Tryd.func34, Tryd.ntmps34
    go_wp2_with fail
    go_ret
    exact ⟨rfl, rfl⟩
  by_cases h3 : t = 3
  · subst h3
    go_enter Tryd.func34, Tryd.ntmps34
    go_wp2_with fail
    go_ret
    exact ⟨rfl, rfl⟩
  have HE : Hid (wordB t = []) := hide (by simp [wordB, h1, h2, h3])
  have g1 : (t == 1) = false := by simpa using h1
  have g2 : (t == 2) = false := by simpa using h2
  have g3 : (t == 3) = false := by simpa using h3
  go_enter Tryd.func34, Tryd.ntmps34
  go_wp2_with fail
  go_ret
  exact ⟨by rw [HE.out]; rfl, rfl⟩
/-- The words of types are laid. -/
def Words (w : World) : Prop := ∀ t : Nat, t < 4 → w.cell? ⟨0, t, none⟩ = some (.string ⟨(wordB t).toArray⟩)
theorem Words.below {w w' : World} (h : Words w) (hb : Below w.heap.size w w') : Words w' := fun t ht => cell_keep (h t ht) hb (Nat.le_refl _)
theorem own_ints {w : World} {base n : Nat} {t : TypeId} {ban : List Nat} {v : Value} {l : List Int} (h : OwnL w base t 1 InC ban v l) (hn : n ≤ base) : ∃ a cap, v = .slice a l.length cap ∧ Ints (nw n w) l a cap := by
  obtain ⟨xs, h1, h2⟩ := h
  exact OwnL.ints (ban := List.range n) (w := w) (base := base) (t := t) (v := v) (l := l) ⟨xs, h1, h2.mono fun _ _ h => h⟩ (fun g hg => by have := List.mem_range.1 hg; omega)
set_option maxRecDepth 20000 in
set_option maxHeartbeats 4000000 in
theorem of12_any (f : Fn) (v : Value) (w : World) (hv : f.Val w v) (hn : f.params.length ≤ 100000) :
    Calls Tryd.prog 36 #[v] w fun r w' => (∃ u, r = .returned u ∧ (sgOf f).Val (nw w.heap.size w') u) ∧ Below w.heap.size w w' := by
  obtain ⟨pp, pb, cp, cb, rfl, hfw, hp, hr⟩ := hv
  have HP := hide hp
  obtain ⟨i0, hi, hz0, hz1, hz2⟩ := info_parts info_in
  have HB0 : Hid (Below w.heap.size w (((w.alloc (.cells #[.string ⟨f.name.toArray⟩, .slice pp f.params.length cp, .int .i64 f.result, .slice pb f.body.length cb, .int .i64 f.count] 53)).alloc (.cells #[.string ⟨#[]⟩, .slice none 0 0, .int .i64 0] 29)).alloc (.cells #[.string ⟨f.name.toArray⟩, .slice none 0 0, .int .i64 f.result] 29))) := hide ((((bl w).al _).al _).al _)
  have HX0 : Hid ((((w.alloc (.cells #[.string ⟨f.name.toArray⟩, .slice pp f.params.length cp, .int .i64 f.result, .slice pb f.body.length cb, .int .i64 f.count] 53)).alloc (.cells #[.string ⟨#[]⟩, .slice none 0 0, .int .i64 0] 29)).alloc (.cells #[.string ⟨f.name.toArray⟩, .slice none 0 0, .int .i64 f.result] 29)).heap[w.heap.size + 1 + 1]? = some (.cells #[.string ⟨f.name.toArray⟩, .slice none 0 0, .int .i64 f.result] 29 (0, 0))) := hide (by
    have := heap_alloc_new ((w.alloc (.cells #[.string ⟨f.name.toArray⟩, .slice pp f.params.length cp, .int .i64 f.result, .slice pb f.body.length cb, .int .i64 f.count] 53)).alloc (.cells #[.string ⟨#[]⟩, .slice none 0 0, .int .i64 0] 29)) (.cells #[.string ⟨f.name.toArray⟩, .slice none 0 0, .int .i64 f.result] 29)
    simpa using this)
  have HR0 : Hid ((((w.alloc (.cells #[.string ⟨f.name.toArray⟩, .slice pp f.params.length cp, .int .i64 f.result, .slice pb f.body.length cb, .int .i64 f.count] 53)).alloc (.cells #[.string ⟨#[]⟩, .slice none 0 0, .int .i64 0] 29)).alloc (.cells #[.string ⟨f.name.toArray⟩, .slice none 0 0, .int .i64 f.result] 29)).heap[w.heap.size + 1]? = some (.cells #[.string ⟨#[]⟩, .slice none 0 0, .int .i64 0] 29 (0, 0))) := hide (by
    rw [Below.heap_alloc _ _ _ (by simp)]
    have := heap_alloc_new (w.alloc (.cells #[.string ⟨f.name.toArray⟩, .slice pp f.params.length cp, .int .i64 f.result, .slice pb f.body.length cb, .int .i64 f.count] 53)) (.cells #[.string ⟨#[]⟩, .slice none 0 0, .int .i64 0] 29)
    simpa using this)
  clear hp hr
  go_enter Tryd.func36, Tryd.ntmps36
  go_wp2_with fail
  go_loopw [14] (fun i wr => ∃ (k : Nat) (va : Option Addr) (vc : Nat), k ≤ f.params.length ∧ i = .int .i64 k ∧ Hid (wr.heap[w.heap.size + 1 + 1]? = some (.cells #[.string ⟨f.name.toArray⟩, .slice va k vc, .int .i64 f.result] 29 (0, 0))) ∧
    Hid (OwnL wr (w.heap.size + 3) 3 1 InC [w.heap.size + 1 + 1] (.slice va k vc) ((f.params.take k).map (·.typ))) ∧ Hid (Below w.heap.size w wr) ∧ w.heap.size + 3 ≤ wr.heap.size ∧ Hid (wr.heap[w.heap.size + 1]? = some (.cells #[.string ⟨#[]⟩, .slice none 0 0, .int .i64 0] 29 (0, 0)))) (fun i _ => f.params.length - (intOf i).toNat)
  case atStart => exact ⟨0, none, 0, Nat.zero_le _, rfl, HX0, hide (OwnL.nil _ _ _ _ _ _), HB0, by simp, HR0⟩
  case round =>
    obtain ⟨k, va, vc, hk, rfl, HX, HO, HB, hws, HR⟩ := hrel
    have x0 := cell_at (j := 0) HX.out rfl
    have x1 := cell_at (j := 1) HX.out rfl
    have x2 := cell_at (j := 2) HX.out rfl
    have y1 := free_at (j := 1) HX.out
    have hsl : w.heap.size + 1 + 1 < wr.heap.size := by omega
    by_cases hlt : k < f.params.length
    · obtain ⟨b, o, rfl⟩ := HP.out.addr (by omega)
      obtain ⟨c0, c1⟩ := (HP.out.has (has_below HB.out)).at_ b o rfl k hlt
      have hbl := cell_lt c0
      simp only at hbl
      have HTK : Hid ((f.params.take (k + 1)).map (·.typ) = (f.params.take k).map (·.typ) ++ [f.params[k].typ]) := hide (by rw [List.take_succ_eq_append_getElem hlt, List.map_append]; rfl)
      have hll : ((f.params.take k).map (·.typ)).length = k := by simp; omega
      have HLL := hide hll
      have HO2 : Hid (OwnL ((wr.alloc (.cells #[.string ⟨f.params[k].name.toArray⟩, .int .i64 f.params[k].typ] 55)).alloc (.cells #[.int .i64 f.params[k].typ] 3)) (w.heap.size + 3) 3 1 InC [w.heap.size + 1 + 1] (.slice va k vc) ((f.params.take k).map (·.typ))) := hide ((HO.out.al InC.mono _).al InC.mono _)
      have HB2 := hide ((HB.out.al (.cells #[.string ⟨f.params[k].name.toArray⟩, .int .i64 f.params[k].typ] 55)).al (.cells #[.int .i64 f.params[k].typ] 3))
      have HX2 := hide ((Below.heap_alloc _ (.cells #[.int .i64 f.params[k].typ] 3) _ (by simp; omega)).trans ((Below.heap_alloc _ (.cells #[.string ⟨f.params[k].name.toArray⟩, .int .i64 f.params[k].typ] 55) _ hsl).trans HX.out))
      have HMA : Hid (((f.params.take k).map (·.typ)).length + 1 ≤ maxLen) := hide (by rw [hll]; unfold maxLen; omega)
      have HMB : Hid ((((f.params.take k).map (·.typ)).length + 1) * 8 ≤ 140737488355328) := hide (by rw [hll]; omega)
      have HNW := hide (news_row (wr.alloc (.cells #[.string ⟨f.params[k].name.toArray⟩, .int .i64 f.params[k].typ] 55)) [.int .i64 f.params[k].typ] 3 (wr.heap.size + 1) (by simp))
      have HBS : Hid (w.heap.size + 3 ≤ ((wr.alloc (.cells #[.string ⟨f.params[k].name.toArray⟩, .int .i64 f.params[k].typ] 55)).alloc (.cells #[.int .i64 f.params[k].typ] 3)).heap.size) := hide (by simp; omega)
      have HLEN : Hid (((f.params.take k).map (·.typ) ++ [f.params[k].typ]).length = k + 1) := hide (by rw [List.length_append, hll]; rfl)
      have HR2 := hide ((Below.heap_alloc _ (.cells #[.int .i64 f.params[k].typ] 3) (w.heap.size + 1) (by simp; omega)).trans ((Below.heap_alloc _ (.cells #[.string ⟨f.params[k].name.toArray⟩, .int .i64 f.params[k].typ] 55) _ (by omega)).trans HR.out))
      clear hll
      go_wp2_with (at_builtin; refine wpList_push _ rfl _ _ 23 rfl (w.heap.size + 3) 3 i0 _ 1 8 Tryd.underlying23 hi hz0 hz1 hz2 rfl (by decide) InC InC.mono [w.heap.size + 1 + 1] _ _ rfl HO2.out ⟨wr.heap.size + 1, 0, none⟩ 1 [.int .i64 f.params[k].typ] f.params[k].typ rfl rfl HNW.out (by simp [Value.oneCell']) rfl HMA.out HMB.out HBS.out ?_; intro v2 w2 hown2 hgrow2; obtain ⟨va2, vc2, he2, -, -⟩ := hown2.slice; rw [HLEN.out] at he2; subst he2; have HR3 := hide ((hgrow2.block _ (by simp; omega) (fun e => by have := (HO.out.lt _ e.symm).1; omega)).trans HR2.out); have HX3 := hide ((hgrow2.block _ (by simp; omega) (fun e => by have := (HO.out.lt _ e.symm).1; omega)).trans HX2.out); have HB3 := hide (HB2.out.grown hgrow2 HB2.out.size (fun g hg => by have := (HO.out.lt g hg).1; omega)); have HO3 := hide hown2; have hs2 := hgrow2.size; have x3 := cell_at (j := 1) HX3.out rfl; have y3 := free_at (j := 1) HX3.out; clear hgrow2 hown2)
      have hsz2 : wr.heap.size + 1 + 1 ≤ w2.heap.size := by simpa using hs2
      go_roundw
      case rel =>
        refine ⟨k + 1, va2, vc2, by omega, by go_num, ?_, ?_, hide (HB3.out.setCell (by simp only; omega) _), by simp [World.setCell]; omega, ?_⟩
        · have := heap_set (i := 1) HX3.out (.slice va2 (k + 1) vc2)
          simpa [Hid] using this
        · have h7 := HO3.out.kept InC.mono ((Kept.refl [w.heap.size + 1 + 1] w2).set (g := w.heap.size + 1 + 1) (.inl (by simp)) 1 (.slice va2 (k + 1) vc2)) (by simp)
          rw [HTK.out]
          exact h7
        · exact (Below.heap_setCell _ _ _ _ (by simp only; omega)).trans HR3.out
      case measure => simp [intOf]; omega
    · obtain rfl : k = f.params.length := by omega
      have r0 := cell_at (j := 0) HR.out rfl
      have r1 := cell_at (j := 1) HR.out rfl
      have r2 := cell_at (j := 2) HR.out rfl
      have z0 := free_at (j := 0) HR.out
      have z1 := free_at (j := 1) HR.out
      have z2 := free_at (j := 2) HR.out
      have hrl : w.heap.size + 1 < wr.heap.size := by omega
      go_wp2_with fail
      refine bodyPost_ret (v := .agg #[.string ⟨f.name.toArray⟩, .slice va f.params.length vc, .int .i64 f.result]) (by simp [results, Tryd.results36, go_sem, r0, r1, r2]) rfl ⟨⟨_, rfl, ?_⟩, ((HB.out.setCell (by simp) _).setCell (by simp) _).setCell (by simp) _⟩
      have ho := HO.out
      rw [List.take_length] at ho
      obtain ⟨a', c', he, hi'⟩ := own_ints ho (Nat.le_refl _)
      rw [List.length_map] at he
      cases he
      have hK : Kept [w.heap.size + 1] wr (((wr.setCell ⟨w.heap.size + 1, 0, none⟩ (.string ⟨f.name.toArray⟩)).setCell ⟨w.heap.size + 1, 1, none⟩ (.slice va f.params.length vc)).setCell ⟨w.heap.size + 1, 2, none⟩ (.int .i64 f.result)) :=
        (((Kept.refl _ wr).set (.inl (by simp)) _ _).set (.inl (by simp)) _ _).set (.inl (by simp)) _ _
      refine ⟨va, vc, by simp [sgOf], (hi'.has (has_nw_kept hK (by simp))).has (has_nws (by omega))⟩
end Go.Proofs.YtnkmbddjekepkaaDoor
