/- types.Uses answers usesM for every expression and every list of variables in memory, of bounded lengths. -/
import Derived.Laws.MakeOwn
import Derived.Test.YtfpikakgaghdbaaDoorTyD
namespace Go.Proofs.YtfpikakgaghdbaaDoor
open Go Go.RowKit
set_option linter.unusedSimpArgs false
set_option linter.unusedVariables false
set_option linter.unnecessarySimpa false
/-- Block g is a row of these numbers. -/
def Blk (w : World) (g : Nat) (us : List Int) : Prop := w.heap[g]? = some (.cells (us.map (Value.int .i64)).toArray 3 (0, 0))
theorem Blk.cell {w : World} {g : Nat} {us : List Int} (h : Blk w g us) (i : Nat) (hi : i < us.length) : w.cell? ⟨g, i, none⟩ = some (.int .i64 us[i]) := by
  unfold Blk at h
  unfold World.cell?
  simp only [h]
  simp [hi]
theorem Blk.free {w : World} {g : Nat} {us : List Int} (h : Blk w g us) (i : Nat) : w.frozen? ⟨g, i, none⟩ = false := by
  unfold Blk at h
  unfold World.frozen?
  simp only [h]
  simp
theorem Blk.lt {w : World} {g : Nat} {us : List Int} (h : Blk w g us) : g < w.heap.size := (Array.getElem?_eq_some_iff.1 h).1
theorem Blk.keep {w w' : World} {g : Nat} {us : List Int} (h : Blk w g us) (hb : Below w.heap.size w w') : Blk w' g us := (hb.block g h.lt).trans h
theorem Blk.set {w : World} {g : Nat} {us : List Int} (h : Blk w g us) (i : Nat) (u : Int) : Blk (w.setCell ⟨g, i, none⟩ (.int .i64 u)) g (us.set i u) := by
  unfold Blk at *
  simp only [World.setCell, Array.getElem?_modify]
  rw [h]
  simp [List.map_set]
/-- Only block g, and what is new, may have turned. -/
def Only (g : Nat) (w w' : World) : Prop := w.grownBy w' (some g)
theorem Only.refl (g : Nat) (w : World) : Only g w w := ⟨rfl, rfl, rfl, Nat.le_refl _, fun _ _ _ => rfl⟩
theorem Only.step {g : Nat} {a w w' : World} (h : Only g a w) (hb : Below w.heap.size w w') : Only g a w' :=
  ⟨hb.os.trans h.os, hb.tape.trans h.tape, hb.output.trans h.output, Nat.le_trans h.size hb.size, fun i hi hne => (hb.block i (Nat.lt_of_lt_of_le hi h.size)).trans (h.block i hi hne)⟩
theorem Only.tr {g : Nat} {a w w' : World} (h : Only g a w) (k : Only g w w') : Only g a w' :=
  ⟨k.os.trans h.os, k.tape.trans h.tape, k.output.trans h.output, Nat.le_trans h.size k.size, fun i hi hne => (k.block i (Nat.lt_of_lt_of_le hi h.size) hne).trans (h.block i hi hne)⟩
theorem Only.set {g : Nat} {a w : World} (h : Only g a w) (i : Nat) (u : Value) : Only g a (w.setCell ⟨g, i, none⟩ u) :=
  ⟨h.os, h.tape, h.output, by simpa [World.setCell] using h.size, fun i' hi hne => (Below.heap_setCell w _ u i' (fun e => hne (by rw [e]))).trans (h.block i' hi hne)⟩
theorem Only.below {g : Nat} {w0 w w' : World} (h : Only g w w') (hb : Below w0.heap.size w0 w) (hg : w0.heap.size ≤ g) : Below w0.heap.size w0 w' :=
  ⟨h.os.trans hb.os, h.tape.trans hb.tape, h.output.trans hb.output, Nat.le_trans hb.size h.size, fun k hk => (h.block k (Nat.lt_of_lt_of_le hk hb.size) (fun e => by injection e; omega)).trans (hb.block k hk)⟩
mutual
/-- The variables that an expression names, as often as it does. -/
def idsM (l : List Vr) : Ex → List Nat
  | .mk _ _ _ s es => (if (findM l s).2 && !s.isEmpty then [(findM l s).1] else []) ++ idsL l es
def idsL (l : List Vr) : List Ex → List Nat
  | [] => []
  | e :: es => idsM l e ++ idsL l es
end
theorem idsL_take (l : List Vr) : ∀ (es : List Ex) (k : Nat) (h : k < es.length), idsL l (es.take (k + 1)) = idsL l (es.take k) ++ idsM l es[k]
  | e :: es, 0, _ => by simp [idsL]
  | e :: es, k + 1, h => by
    have := idsL_take l es k (by simpa using h)
    simp only [List.take_succ_cons, idsL, List.getElem_cons_succ]
    rw [this, List.append_assoc]
theorem idsL_take_len (l : List Vr) : ∀ (es : List Ex) (j : Nat), (idsL l (es.take j)).length ≤ (idsL l es).length
  | [], j => by simp
  | e :: es, 0 => by simp [idsL]
  | e :: es, j + 1 => by
    have := idsL_take_len l es j
    simp only [List.take_succ_cons, idsL, List.length_append]
    omega
def addC (us : List Int) (ids : List Nat) : List Int := us.mapIdx fun j u => u + (ids.count j : Nat)
theorem addC_nil (us : List Int) : addC us [] = us := by
  unfold addC
  apply List.ext_getElem (by simp)
  intro i h1 h2
  simp
theorem addC_addC (us : List Int) (a b : List Nat) : addC (addC us a) b = addC us (a ++ b) := by
  unfold addC
  apply List.ext_getElem (by simp)
  intro i h1 h2
  simp [List.count_append]
  omega
theorem addC_one (us : List Int) (i : Nat) (h : i < us.length) : us.set i (us[i] + 1) = addC us [i] := by
  unfold addC
  apply List.ext_getElem (by simp)
  intro j h1 h2
  by_cases e : j = i
  · subst e; simp
  · have e' : ¬ i = j := fun x => e x.symm
    simp [e', List.count_cons]
theorem addC_len (us : List Int) (a : List Nat) : (addC us a).length = us.length := by simp [addC]
theorem addC_bd {us : List Int} {a : List Nat} {B : Int} (h : ∀ u ∈ us, 0 ≤ u ∧ u ≤ B) : ∀ u ∈ addC us a, 0 ≤ u ∧ u ≤ B + a.length := by
  intro u hu
  obtain ⟨j, hj, rfl⟩ := List.mem_iff_getElem.1 hu
  unfold addC at *
  simp at hj
  simp only [List.getElem_mapIdx]
  have := h us[j] (List.getElem_mem hj)
  have h2 : a.count j ≤ a.length := List.count_le_length
  omega
theorem ids_len (l : List Vr) : ∀ (m : Nat) (e : Ex), depthM m e ≠ 0 → (idsM l e).length + 1 ≤ 2 ^ m
  | 0, e, h => absurd rfl h
  | m + 1, .mk k o n s es, h => by
    obtain ⟨hf, hk⟩ := depthM_kids h
    have h2 := fitsM_cases hf
    simp only [Ex.args, Ex.name] at *
    have h3 : es.length ≤ 2 := by omega
    have h0 : 0 < 2 ^ m := Nat.pos_of_ne_zero (by simp)
    have h1 : ((if (findM l s).2 && !s.isEmpty then [(findM l s).1] else []) : List Nat).length ≤ 1 := by split <;> simp
    have h4 : es.length = 2 → s = [] := by rcases h2 with h | h | h | h | h | h <;> intro _ <;> first | exact h.2.1 | omega
    have h5 : es.length = 2 → ((if (findM l s).2 && !s.isEmpty then [(findM l s).1] else []) : List Nat).length = 0 := fun h => by rw [h4 h]; simp
    clear h4
    rw [idsM, List.length_append, Nat.pow_succ]
    generalize (if (findM l s).2 && !s.isEmpty then [(findM l s).1] else [] : List Nat) = own at *
    clear h hf h2
    match es, h3 with
    | [], _ => simp [idsL]; omega
    | [a], _ =>
      have := ids_len l m a (hk a (by simp))
      simp [idsL]
      omega
    | [a, b], _ =>
      have ha := ids_len l m a (hk a (by simp))
      have hb := ids_len l m b (hk b (by simp))
      have := h5 rfl
      simp [idsL]
      omega
theorem run_make_rowN {P : Program} (t e : TypeId) (i : TypeInfo) (z : Value) (ht : P.underlying t = some (.slice e)) (hi : P.info? e = some i) (hz : i.zero = some z)
    (kl kc : IntKind) (n c : Nat) (hnc : n ≤ c) (hbytes : i.bytes * c ≤ 281474976710656) (h63 : c ≤ 9223372036854775807) (w : World) :
    (Instr.makeSlice t (.int kl (n : Int)) (.int kc (c : Int))).run P w = .ok (.slice (some ⟨w.heap.size, 0, none⟩) n c) (w.alloc (.cells (madeCells z.cells (c * i.size)) e)) := by
  have hb : (i.bytes : Int) * (c : Int) ≤ 281474976710656 := by
    have h : ((i.bytes * c : Nat) : Int) ≤ 281474976710656 := by omega
    rwa [Int.natCast_mul] at h
  have hr := run_make (P := P) w t e i z ht hi hz kl kc n c (by omega) (by omega) hb (by omega)
  simp only [Int.toNat_natCast] at hr
  exact hr
def UsesPost (g : Nat) (us : List Int) (w : World) (e : Ending) (w' : World) : Prop := e = .returned (.tuple #[]) ∧ Blk w' g us ∧ Only g w w'
set_option maxRecDepth 100000 in
set_option maxHeartbeats 4000000 in
theorem uses_any (l : List Vr) (va : Option Addr) (vcap g : Nat) (w0 : World) (hl : Vrs w0 l va vcap) (hg : w0.heap.size ≤ g) : ∀ (m : Nat) (e : Ex) (v : Value) (w : World) (us : List Int) (B : Int), m ≤ 20 → depthM m e ≠ 0 → Ex.Val w0 e v → Below w0.heap.size w0 w → Blk w g us →
    us.length = l.length → (∀ u ∈ us, 0 ≤ u ∧ u ≤ B) → B + m * 2000000 ≤ 1000000000 →
    Calls Tryd.prog 41 #[.slice va l.length vcap, v, .slice (some ⟨g, 0, none⟩) l.length l.length] w (UsesPost g (addC us (idsM l e)) w) := by
  intro m
  induction m with
  | zero => intro e v w us B _ h; exact absurd rfl h
  | succ m ih =>
    intro e v w us B hm hd hv hw0 hblk hul hbd hB
    obtain ⟨hf, hkids⟩ := depthM_kids hd
    have hidl := ids_len l (m + 1) e hd
    obtain ⟨a, cap, rfl, hw, hr⟩ := hv
    cases e with
    | mk k o n s es =>
    simp only [Ex.fits, Ex.kind, Ex.op, Ex.num, Ex.name, Ex.args] at *
    have hcs := fitsM_cases hf
    have hsm : es.length ≤ 2 := by omega
    have hlen : l.length ≤ 9223372036854775807 := Nat.le_trans hl.len hl.cap
    have hfind := fun W (hW : Below w0.heap.size w0 W) => find_any l va vcap s W (hl.keep hW (Nat.le_refl _))
    have hlt' : (findM l s).2 = true → (findM l s).1 < l.length := fun h => firstM_lt h
    have hpw : 2 ^ (m + 1) ≤ 1048576 := Nat.pow_le_pow_right (n := 2) (by omega) hm
    have hidm : idsM l (.mk k o n s es) = (if (findM l s).2 && !s.isEmpty then [(findM l s).1] else []) ++ idsL l es := by rw [idsM]
    have hle0 : ∀ (j : Nat), j ≤ es.length → ((((if (findM l s).2 && !s.isEmpty then [(findM l s).1] else []) ++ idsL l (es.take j)).length : Nat) : Int) ≤ 1048576 := by
      intro j hj
      have h1 := idsL_take_len l es j
      rw [hidm] at hidl
      simp only [List.length_append] at hidl ⊢
      omega
    have IH := hide ih
    have HR := hide hr
    clear ih hr hw hd hf hcs hidl hpw
    obtain ⟨i, q, hq⟩ : ∃ i q, findM l s = (i, q) := ⟨_, _, rfl⟩
    simp only [hq] at hfind hlt' hidm hle0
    have HFIND := hide hfind
    have hO0 : Only g w (w.alloc (.cells #[.int .i64 k, .int .i64 o, .int .i64 n, .string ⟨s.toArray⟩, .slice a es.length cap] 36)) := (Only.refl g w).step ((bl w).al _)
    clear hfind hq
    have hgl := hblk.lt
    cases q
    · clear hlt'
      have HID := hide hidm
      have HLE := hide hle0
      clear hidm hle0
      simp only [Bool.false_and, Bool.false_eq_true, if_false] at HID HLE
      go_enter Tryd.func41, Tryd.ntmps41
      go_wp2_with fail
      refine (HFIND.out _ (hw0.trans (((bl w).al _).mono hw0.size))).mono ?_
      rintro r w1 ⟨rfl, hb1⟩
      obtain ⟨hc, _⟩ := bcell hb1
      go_wp2_with fail
      have hO1 := hO0.step hb1
      have hB1 := hide ((hblk.keep ((bl w).al _)).keep hb1)
      clear hc hb1 hO0 hblk
      obtain ⟨ids0, hids⟩ : ∃ ids0 : List Nat, ids0 = [] := ⟨_, rfl⟩
      rw [← addC_nil us, ← hids] at hB1
      simp only [← hids] at HID HLE
      have hO1w := hO1
      clear hO1
      go_loopw [32] (fun i wr => ∃ k : Nat, k ≤ es.length ∧ i = .int .i64 k ∧ Blk wr g (addC us (ids0 ++ idsL l (es.take k))) ∧ Only g w wr) (fun i _ => es.length - (intOf i).toNat)
      case atStart => exact ⟨0, Nat.zero_le _, rfl, by simpa [idsL] using hB1.out, hO1w⟩
      case round =>
        obtain ⟨k, hk, rfl, hblk, hO⟩ := hrel
        have hbr := hO.below hw0 hg
        by_cases hlt : k < es.length
        · obtain ⟨b, ob, rfl⟩ := HR.out.addr (by omega)
          have hat := HR.out.get k hlt
          obtain ⟨a', cap', c0, c1, c2, c3, c4, hw', hr'⟩ := hat.val
          have HE := hide (Ex.Val.mk hw' hr')
          clear hw' hr'
          have c0 := cell_keep c0 hbr (Nat.le_refl _)
          have c1 := cell_keep c1 hbr (Nat.le_refl _)
          have c2 := cell_keep c2 hbr (Nat.le_refl _)
          have c3 := cell_keep c3 hbr (Nat.le_refl _)
          have c4 := cell_keep c4 hbr (Nat.le_refl _)
          have hle : ((ids0 ++ idsL l (es.take k)).length : Int) ≤ 1048576 := HLE.out k hk
          have hcall := fun W (hW : Below wr.heap.size wr W) => IH.out es[k] _ W (addC us (ids0 ++ idsL l (es.take k))) (B + (ids0 ++ idsL l (es.take k)).length) (by omega) (hkids _ (List.getElem_mem hlt)) HE.out (hbr.tr hW) (hblk.keep hW) (by rw [addC_len]; exact hul) (addC_bd hbd) (by omega)
          have HCALL := hide hcall
          have htk := idsL_take l es k hlt
          have HTK := hide htk
          have HBLK := hide hblk
          clear hcall htk hblk
          go_wp2_with fail
          refine (HCALL.out _ ((bl wr).al _)).mono ?_
          rintro r w2 ⟨rfl, hB2, hO2⟩
          go_wp2_with fail
          go_roundw
          case rel =>
            refine ⟨k + 1, by omega, by go_num, ?_, (hO.step ((bl wr).al _)).tr hO2⟩
            rw [HTK.out, ← List.append_assoc, ← addC_addC]
            exact hB2
          case measure => simp [intOf]; omega
        · obtain rfl : k = es.length := by omega
          go_wp2_with fail
          go_end0
          rw [List.take_of_length_le (Nat.le_refl _)] at hblk
          exact ⟨rfl, by rw [HID.out]; exact hblk, hO⟩
    · have hi : i < l.length := hlt' rfl
      clear hlt'
      cases s with
      | nil =>
        have HID := hide hidm
        have HLE := hide hle0
        clear hidm hle0
        simp only [List.isEmpty_nil, Bool.not_true, Bool.and_false, Bool.false_eq_true, if_false] at HID HLE
        go_enter Tryd.func41, Tryd.ntmps41
        go_wp2_with fail
        refine (HFIND.out _ (hw0.trans (((bl w).al _).mono hw0.size))).mono ?_
        rintro r w1 ⟨rfl, hb1⟩
        obtain ⟨hc, _⟩ := bcell hb1
        go_wp2_with fail
        have hO1 := hO0.step hb1
        have hB1 := hide ((hblk.keep ((bl w).al _)).keep hb1)
        clear hc hb1 hO0 hblk
        obtain ⟨ids0, hids⟩ : ∃ ids0 : List Nat, ids0 = [] := ⟨_, rfl⟩
        rw [← addC_nil us, ← hids] at hB1
        simp only [← hids] at HID HLE
        have hO1w := hO1
        clear hO1
        go_loopw [32] (fun i wr => ∃ k : Nat, k ≤ es.length ∧ i = .int .i64 k ∧ Blk wr g (addC us (ids0 ++ idsL l (es.take k))) ∧ Only g w wr) (fun i _ => es.length - (intOf i).toNat)
        case atStart => exact ⟨0, Nat.zero_le _, rfl, by simpa [idsL] using hB1.out, hO1w⟩
        case round =>
          obtain ⟨k, hk, rfl, hblk, hO⟩ := hrel
          have hbr := hO.below hw0 hg
          by_cases hlt : k < es.length
          · obtain ⟨b, ob, rfl⟩ := HR.out.addr (by omega)
            have hat := HR.out.get k hlt
            obtain ⟨a', cap', c0, c1, c2, c3, c4, hw', hr'⟩ := hat.val
            have HE := hide (Ex.Val.mk hw' hr')
            clear hw' hr'
            have c0 := cell_keep c0 hbr (Nat.le_refl _)
            have c1 := cell_keep c1 hbr (Nat.le_refl _)
            have c2 := cell_keep c2 hbr (Nat.le_refl _)
            have c3 := cell_keep c3 hbr (Nat.le_refl _)
            have c4 := cell_keep c4 hbr (Nat.le_refl _)
            have hle : ((ids0 ++ idsL l (es.take k)).length : Int) ≤ 1048576 := HLE.out k hk
            have hcall := fun W (hW : Below wr.heap.size wr W) => IH.out es[k] _ W (addC us (ids0 ++ idsL l (es.take k))) (B + (ids0 ++ idsL l (es.take k)).length) (by omega) (hkids _ (List.getElem_mem hlt)) HE.out (hbr.tr hW) (hblk.keep hW) (by rw [addC_len]; exact hul) (addC_bd hbd) (by omega)
            have HCALL := hide hcall
            have htk := idsL_take l es k hlt
            have HTK := hide htk
            have HBLK := hide hblk
            clear hcall htk hblk
            go_wp2_with fail
            refine (HCALL.out _ ((bl wr).al _)).mono ?_
            rintro r w2 ⟨rfl, hB2, hO2⟩
            go_wp2_with fail
            go_roundw
            case rel =>
              refine ⟨k + 1, by omega, by go_num, ?_, (hO.step ((bl wr).al _)).tr hO2⟩
              rw [HTK.out, ← List.append_assoc, ← addC_addC]
              exact hB2
            case measure => simp [intOf]; omega
          · obtain rfl : k = es.length := by omega
            go_wp2_with fail
            go_end0
            rw [List.take_of_length_le (Nat.le_refl _)] at hblk
            exact ⟨rfl, by rw [HID.out]; exact hblk, hO⟩
      | cons c t =>
        have HID := hide hidm
        have HLE := hide hle0
        clear hidm hle0
        simp only [List.isEmpty_cons, Bool.not_false, Bool.and_true, if_true] at HID HLE
        have hcell0 := hblk.cell i (by omega)
        have hfree0 := hblk.free i
        have hus := hbd us[i] (List.getElem_mem (by omega))
        go_enter Tryd.func41, Tryd.ntmps41
        go_wp2_with fail
        refine (HFIND.out _ (hw0.trans (((bl w).al _).mono hw0.size))).mono ?_
        rintro r w1 ⟨rfl, hb1⟩
        obtain ⟨hc, _⟩ := bcell hb1
        have hblk1 := (hblk.keep ((bl w).al _)).keep hb1
        have hcell := hblk1.cell i (by omega)
        have hfree := hblk1.free i
        have HB1 := hide hblk1
        clear hblk1 hblk
        go_wp2_with fail
        have hO1 := (hO0.step hb1).set i (.int .i64 (us[i] + 1))
        have hB1 := hide (HB1.out.set i (us[i] + 1))
        rw [addC_one us i (by omega)] at hB1
        clear hc hb1 hO0 hcell0 hcell hfree hfree0 hus
        obtain ⟨ids0, hids⟩ : ∃ ids0 : List Nat, ids0 = [i] := ⟨_, rfl⟩
        simp only [← hids] at HID HLE hB1
        have hO1w := hO1
        clear hO1
        go_loopw [32] (fun i wr => ∃ k : Nat, k ≤ es.length ∧ i = .int .i64 k ∧ Blk wr g (addC us (ids0 ++ idsL l (es.take k))) ∧ Only g w wr) (fun i _ => es.length - (intOf i).toNat)
        case atStart => exact ⟨0, Nat.zero_le _, rfl, by simpa [idsL] using hB1.out, hO1w⟩
        case round =>
          obtain ⟨k, hk, rfl, hblk, hO⟩ := hrel
          have hbr := hO.below hw0 hg
          by_cases hlt : k < es.length
          · obtain ⟨b, ob, rfl⟩ := HR.out.addr (by omega)
            have hat := HR.out.get k hlt
            obtain ⟨a', cap', c0, c1, c2, c3, c4, hw', hr'⟩ := hat.val
            have HE := hide (Ex.Val.mk hw' hr')
            clear hw' hr'
            have c0 := cell_keep c0 hbr (Nat.le_refl _)
            have c1 := cell_keep c1 hbr (Nat.le_refl _)
            have c2 := cell_keep c2 hbr (Nat.le_refl _)
            have c3 := cell_keep c3 hbr (Nat.le_refl _)
            have c4 := cell_keep c4 hbr (Nat.le_refl _)
            have hle : ((ids0 ++ idsL l (es.take k)).length : Int) ≤ 1048576 := HLE.out k hk
            have hcall := fun W (hW : Below wr.heap.size wr W) => IH.out es[k] _ W (addC us (ids0 ++ idsL l (es.take k))) (B + (ids0 ++ idsL l (es.take k)).length) (by omega) (hkids _ (List.getElem_mem hlt)) HE.out (hbr.tr hW) (hblk.keep hW) (by rw [addC_len]; exact hul) (addC_bd hbd) (by omega)
            have HCALL := hide hcall
            have htk := idsL_take l es k hlt
            have HTK := hide htk
            have HBLK := hide hblk
            clear hcall htk hblk
            go_wp2_with fail
            refine (HCALL.out _ ((bl wr).al _)).mono ?_
            rintro r w2 ⟨rfl, hB2, hO2⟩
            go_wp2_with fail
            go_roundw
            case rel =>
              refine ⟨k + 1, by omega, by go_num, ?_, (hO.step ((bl wr).al _)).tr hO2⟩
              rw [HTK.out, ← List.append_assoc, ← addC_addC]
              exact hB2
            case measure => simp [intOf]; omega
          · obtain rfl : k = es.length := by omega
            go_wp2_with fail
            go_end0
            rw [List.take_of_length_le (Nat.le_refl _)] at hblk
            exact ⟨rfl, by rw [HID.out]; exact hblk, hO⟩
theorem blk_alloc (w : World) (C : Array Value) (us : List Int) (h : C = (us.map (Value.int .i64)).toArray) : Blk (w.alloc (.cells C 3)) w.heap.size us := by
  subst h
  show (w.heap.push _)[w.heap.size]? = _
  rw [Array.getElem?_push, if_pos rfl]
theorem madeCells_int (n : Nat) : madeCells #[Value.int .i64 0] n = ((List.replicate n (0 : Int)).map (Value.int .i64)).toArray := by
  apply Array.ext
  · simp [madeCells]
  · intro i h1 h2
    simp [madeCells, Nat.mod_one]
/-- The variables that an expression uses. -/
def usesM (l : List Vr) (e : Ex) : List Nat := if depthM 20 e = 0 then [] else (List.range l.length).filter fun i => (idsM l e).contains i
theorem usesM_take (us : List Int) (ids : List Nat) (n k : Nat) (hz : us = addC (List.replicate n 0) ids) (h : k < us.length) : ((List.range (k + 1)).filter fun i => ids.contains i) = ((List.range k).filter fun i => ids.contains i) ++ (if 0 < us[k] then [k] else []) := by
  have h1 : (0 < us[k]) = (ids.contains k = true) := by
    subst hz
    simp only [addC, List.getElem_mapIdx, List.getElem_replicate, eq_iff_iff, List.contains_iff_mem, ← List.count_pos_iff]
    omega
  rw [List.range_succ, List.filter_append]
  simp only [List.filter_cons, List.filter_nil, h1]
set_option maxRecDepth 100000 in
set_option maxHeartbeats 4000000 in
theorem Uses_any (l : List Vr) (va : Option Addr) (vcap : Nat) (e : Ex) (v : Value) (w : World) (hl : Vrs w l va vcap) (hv : Ex.Val w e v) (hT : Tab w) (hbig : l.length * 8 ≤ 140737488355328) :
    Calls Tryd.prog 24 #[.slice va l.length vcap, v] w fun r w' => Hid (∃ a cap, r = .returned (.slice a (usesM l e).length cap) ∧ Ints w' ((usesM l e).map fun (i : Nat) => (i : Int)) a cap) ∧ Below w.heap.size w w' := by
  obtain ⟨i0, hi, hz0, hz1, hz2⟩ := info_parts info_int
  have hlen : l.length ≤ 9223372036854775807 := Nat.le_trans hl.len hl.cap
  have hmk := fun W => run_make_rowN (P := Tryd.prog) 52 3 i0 (.int .i64 0) Tryd.underlying52 hi hz0 .i64 .i64 l.length l.length (Nat.le_refl _) (by rw [hz2]; omega) (by omega) W
  have hexpr := fun W (hW : Below w.heap.size w W) => expr_any e v W (hv.keep hW (Nat.le_refl _)) (hT.below hW)
  have HEX := hide hexpr
  have HV := hide hv
  have HL := hide hl
  clear hexpr hl hT
  obtain ⟨a, cap, rfl, hw, hr⟩ := hv
  clear hw hr
  by_cases hd : depthM 20 e = 0
  · have hus : usesM l e = [] := by unfold usesM; rw [if_pos hd]
    rw [hus]
    rw [if_pos hd] at HEX
    clear hd hus hmk
    go_enter Tryd.func24, Tryd.ntmps24
    go_wp2_with fail
    refine (HEX.out _ ((bl w).al _)).mono ?_
    rintro r w1 ⟨rfl, hb1⟩
    go_wp2_with fail
    go_ret
    exact ⟨⟨none, 0, rfl, Nat.le_refl _, by unfold maxLen; omega, fun h => absurd h (Nat.not_lt_zero _), fun b o e => by cases e⟩, ((bl w).al _).tr hb1⟩
  · have hus : usesM l e = (List.range l.length).filter fun i => (idsM l e).contains i := by unfold usesM; rw [if_neg hd]
    rw [hus]
    rw [if_neg hd] at HEX
    have huse := fun W g (hW : Below w.heap.size w W) (hg : w.heap.size ≤ g) (hb : Blk W g (List.replicate l.length 0)) => uses_any l va vcap g w HL.out hg 20 e _ W (List.replicate l.length 0) 0 (Nat.le_refl _) hd HV.out hW hb (by simp) (fun u hu => by have := List.eq_of_mem_replicate hu; omega) (by decide)
    have HUSE := hide huse
    clear huse hd hus
    obtain ⟨us, hus⟩ : ∃ us, us = addC (List.replicate l.length 0) (idsM l e) := ⟨_, rfl⟩
    have huslen : us.length = l.length := by rw [hus, addC_len]; simp
    rw [← hus] at HUSE
    have HUS := hide hus
    clear hus
    go_enter Tryd.func24, Tryd.ntmps24
    go_wp2_with fail
    refine (HEX.out _ ((bl w).al _)).mono ?_
    rintro r w1 ⟨rfl, hb1⟩
    obtain ⟨hc, _⟩ := bcell hb1
    have hws1 : w.heap.size < w1.heap.size := by have := hb1.size; simp at this; omega
    go_wp2_with fail
    have hbw1 := ((bl w).al _).tr hb1
    have hmc : madeCells #[Value.int .i64 0] l.length = ((List.replicate l.length (0 : Int)).map (Value.int .i64)).toArray := madeCells_int _
    have HMC := hide hmc
    clear hmc hc
    refine (HUSE.out _ w1.heap.size (hbw1.al _) (by omega) ?_).mono ?_
    · exact blk_alloc _ _ _ HMC.out
    rintro r w2 ⟨rfl, hB2, hO2⟩
    have hbw2 := hO2.below (hbw1.al _) (by omega)
    clear hmk
    go_wp2_with fail
    go_loopw [6, 21] (fun v i wr => ∃ k : Nat, k ≤ l.length ∧ i = .int .i64 k ∧ wr.ownsRow w2.heap.size 3 1 v ((List.range k).filter fun i => (idsM l e).contains i).length ((((List.range k).filter fun i => (idsM l e).contains i).map fun (i : Nat) => (i : Int)).map (Value.int .i64)) ∧ Below w2.heap.size w2 wr) (fun _ i _ => l.length - (intOf i).toNat)
    case atStart => exact ⟨0, Nat.zero_le _, rfl, by simpa using World.ownsRow_nil _ _ _ _, bl _⟩
    case round =>
      obtain ⟨k, hk, rfl, hown, hbr⟩ := hrel
      have HOWN := hide hown
      clear hown
      by_cases hlt : k < l.length
      · have hltu : k < us.length := by omega
        have hck := cell_keep (hB2.cell k hltu) hbr (Nat.le_refl _)
        have htk := usesM_take us (idsM l e) l.length k HUS.out hltu
        have hle : ((List.range k).filter fun i => (idsM l e).contains i).length ≤ k := by have := List.length_filter_le (fun i => (idsM l e).contains i) (List.range k); simpa using this
        generalize (List.range k).filter (fun i => (idsM l e).contains i) = out at *
        by_cases hp : 0 < us[k]
        · rw [if_pos hp] at htk
          have HTK := hide htk
          clear htk
          go_wp2_with (at_builtin; refine wpList_append_own _ rfl _ _ 52 rfl w2.heap.size 3 i0 (.int .i64 0) 1 8 Tryd.underlying52 hi hz0 hz1 hz2 rfl (by decide) _ _ _ rfl (HOWN.out.alloc _) ⟨wr.heap.size, 0, none⟩ 1 1 [.int .i64 k] rfl rfl (cell_one _ _ _ _ rfl) (by simp [Value.oneCell']) (by unfold maxLen; omega) (by omega) (by have := hbr.size; simp; omega) ?_; intro v' w3 hown' hgrow _)
          have hb3 : Below w2.heap.size w2 w3 := (hbr.al _).grown hgrow (by have := hbr.size; simp; omega) (fun j hj => (HOWN.out.lt j hj).1)
          go_roundw
          case rel =>
            refine ⟨k + 1, by omega, by go_num, ?_, hb3⟩
            rw [HTK.out]
            simpa using hown'
          case measure => simp [intOf]; omega
        · rw [if_neg hp, List.append_nil] at htk
          have HTK := hide htk
          clear htk
          go_wp2_with fail
          go_roundw
          case rel =>
            refine ⟨k + 1, by omega, by go_num, ?_, hbr⟩
            rw [HTK.out]
            exact HOWN.out
          case measure => simp [intOf]; omega
      · obtain rfl : k = l.length := by omega
        go_wp2_with fail
        go_ret
        have hown := HOWN.out
        generalize (List.range l.length).filter (fun i => (idsM l e).contains i) = out at *
        have e1 : out.length = (out.map fun (i : Nat) => (i : Int)).length := by simp
        rw [e1] at hown
        obtain ⟨a, cap, rfl, hi⟩ := own_ints (l := out.map fun (i : Nat) => (i : Int)) hown
        exact ⟨⟨a, cap, by simp, hi⟩, hbw2.tr hbr⟩
end Go.Proofs.YtfpikakgaghdbaaDoor
