/- rewindref11.names returns the names in an expression, for every expression of the right shape in memory. -/
import Derived.Test.YtfpikakgaghdbaaDoorRefG
import Derived.Test.YtfpikakgaghdbaaDoorRefE
import Derived.Laws.AppendOwnNone
namespace Go.Proofs.YtfpikakgaghdbaaDoor
open Go Go.RowKit
def sv (b : Bytes) : Value := .string ⟨b.toArray⟩
mutual
/-- The names in an expression, from the left to the right. -/
def namesM : Ex → List Bytes
  | .mk _ _ _ s es => (if s.isEmpty then [] else [s]) ++ namesL es
def namesL : List Ex → List Bytes
  | [] => []
  | e :: es => namesM e ++ namesL es
end
theorem namesL_take : ∀ (es : List Ex) (k : Nat) (h : k < es.length), namesL (es.take (k + 1)) = namesL (es.take k) ++ namesM es[k]
  | e :: es, 0, _ => by simp [namesL]
  | e :: es, k + 1, h => by
    have := namesL_take es k (by simpa using h)
    rw [List.take_succ_cons, List.take_succ_cons, namesL, namesL, this, List.append_assoc]
    rfl
theorem namesL_take_len : ∀ (es : List Ex) (j : Nat), (namesL (es.take j)).length ≤ (namesL es).length
  | [], j => by simp
  | e :: es, 0 => by simp [namesL]
  | e :: es, j + 1 => by
    have := namesL_take_len es j
    simp only [List.take_succ_cons, namesL, List.length_append]
    omega
theorem names_len : ∀ (m : Nat) (e : Ex), depthM m e ≠ 0 → (namesM e).length + 1 ≤ 2 ^ m
  | 0, e, h => absurd rfl h
  | m + 1, .mk k o n s es, h => by
    obtain ⟨hf, hk⟩ := depthM_kids h
    have h2 := fitsM_cases hf
    simp only [Ex.args, Ex.name] at *
    have h3 : es.length ≤ 2 := by omega
    have h0 : 0 < 2 ^ m := Nat.pos_of_ne_zero (by simp)
    have h1 : ((if s.isEmpty then [] else [s]) : List Bytes).length ≤ 1 := by split <;> simp
    have h4 : es.length = 2 → s = [] := by rcases h2 with h | h | h | h | h | h <;> intro _ <;> first | exact h.2.1 | omega
    have h5 : es.length = 2 → ((if s.isEmpty then [] else [s]) : List Bytes).length = 0 := fun h => by rw [h4 h]; simp
    clear h4
    rw [namesM, List.length_append, Nat.pow_succ]
    generalize (if s.isEmpty then [] else [s] : List Bytes) = own at *
    clear h hf h2
    match es, h3 with
    | [], _ => simp [namesL]; omega
    | [a], _ =>
      have := names_len m a (hk a (by simp))
      simp [namesL]
      omega
    | [a, b], _ =>
      have ha := names_len m a (hk a (by simp))
      have hb := names_len m b (hk b (by simp))
      have := h5 rfl
      simp [namesL]
      omega
theorem info_str : (Tryd.prog.info? 9).map (fun i => (i.zero, i.size, i.bytes)) = some (some (.string ⟨#[]⟩), 1, 16) := by kernel_rfl
theorem own_cell {w : World} {base g n cap : Nat} {e : TypeId} {xs : List Value} (h : w.ownsRow base e 1 (.slice (some ⟨g, 0, none⟩) n cap) n xs) : ∀ (j : Nat) (u : Value), xs[j]? = some u → w.cell? ((⟨g, 0, none⟩ : Addr).add j) = some u := by
  intro j u hu
  obtain ⟨hlen, ⟨h, _⟩ | ⟨g', cap', cur, hv, hg, hh, hle, hcap, hsz, htk⟩⟩ := h
  · cases h
  · cases hv
    have hj := (List.getElem?_eq_some_iff.1 hu).1
    rw [Addr.add_lit, Nat.zero_add]
    rw [← htk, List.getElem?_take_of_lt (by omega)] at hu
    unfold World.cell?
    simp only [hh]
    simpa using hu
def NamesPost (w : World) (l : List Bytes) (e : Ending) (w' : World) : Prop := ∃ v, e = .returned v ∧ w'.ownsRow w.heap.size 9 1 v l.length (l.map sv) ∧ Below w.heap.size w w'
theorem own_base {w : World} {b1 b2 n size : Nat} {e : TypeId} {v : Value} {xs : List Value} (h : w.ownsRow b1 e size v n xs) (hb : b2 ≤ b1) : w.ownsRow b2 e size v n xs := by
  obtain ⟨h1, h2 | ⟨g, cap, cur, hv, hg, r⟩⟩ := h
  · exact ⟨h1, .inl h2⟩
  · exact ⟨h1, .inr ⟨g, cap, cur, hv, Nat.le_trans hb hg, r⟩⟩
set_option maxHeartbeats 4000000 in
theorem names_any : ∀ (m : Nat) (e : Ex) (v : Value) (w : World), m ≤ 20 → depthM m e ≠ 0 → Ex.Val w e v →
    Calls Tryd.prog 42 #[v] w (NamesPost w (namesM e)) := by
  intro m
  induction m with
  | zero => intro e v w _ h; exact absurd rfl h
  | succ m ih =>
    intro e v w hm hd hv
    obtain ⟨i0, hi, hz0, hz1, hz2⟩ := info_parts info_str
    obtain ⟨hf, hkids⟩ := depthM_kids hd
    have hnl := names_len (m + 1) e hd
    have hpw : 2 ^ (m + 1) ≤ 1048576 := Nat.pow_le_pow_right (n := 2) (by omega) hm
    obtain ⟨a, cap, rfl, hw, hr⟩ := hv
    have hlen : e.args.length ≤ 9223372036854775807 := Nat.le_trans hw.len hw.cap
    cases e with
    | mk k o n s es =>
    simp only [Ex.fits, Ex.kind, Ex.op, Ex.num, Ex.name, Ex.args] at *
    have IH := hide ih
    have HR := hide hr
    have hid : namesM (.mk k o n s es) = (if s.isEmpty then [] else [s]) ++ namesL es := by rw [namesM]
    have hle0 : ∀ (j : Nat), j ≤ es.length → ((if s.isEmpty then [] else [s]) ++ namesL (es.take j)).length ≤ 1048576 := by
      intro j hj
      have h1 := namesL_take_len es j
      rw [hid] at hnl
      simp only [List.length_append] at hnl ⊢
      omega
    have HID := hide hid
    have HLE := hide hle0
    clear ih hr hw hd hf hid hle0 hnl hpw
    have hbox : (w.alloc (.cells #[.int .i64 k, .int .i64 o, .int .i64 n, .string ⟨s.toArray⟩, .slice a es.length cap] 36)).cell? ⟨w.heap.size, 4, none⟩ = some (.slice a es.length cap) := by go_simp
    have HBOX := hide hbox
    have hbw := (bl w).al (.cells #[.int .i64 k, .int .i64 o, .int .i64 n, .string ⟨s.toArray⟩, .slice a es.length cap] 36)
    clear hbox
    cases s with
    | nil =>
      simp only [List.isEmpty_nil, if_true] at HID HLE
      go_enter Tryd.func42, Tryd.ntmps42
      go_wp2_with fail
      generalize w.alloc (.cells #[.int .i64 k, .int .i64 o, .int .i64 n, .string ⟨([] : Bytes).toArray⟩, .slice a es.length cap] 36) = w1 at *
      generalize hO : ([] : List Bytes) = own at *
      have HOWN0 : Hid (w1.ownsRow w1.heap.size 9 1 (.slice none 0 0) own.length (own.map sv)) := hide (by rw [← hO]; exact World.ownsRow_nil _ _ _ _)
      have HB0 := hide (bl w1)
      clear hO
      have hsl : ∀ (j : Nat), j ≤ es.length → (own ++ namesL (es.take j)).length ≤ 1048576 := HLE.out
      go_loopw [3, 4] (fun v i wr => ∃ k : Nat, k ≤ es.length ∧ i = .int .i64 k ∧ wr.ownsRow w1.heap.size 9 1 v (own ++ namesL (es.take k)).length ((own ++ namesL (es.take k)).map sv) ∧ Below w1.heap.size w1 wr) (fun _ i _ => es.length - (intOf i).toNat)
      case atStart => exact ⟨0, Nat.zero_le _, rfl, by simpa [namesL] using HOWN0.out, HB0.out⟩
      case round =>
        obtain ⟨k, hk, rfl, hown, hb⟩ := hrel
        have hbr := hbw.tr hb
        have HOWN := hide hown
        have hbox := cell_keep HBOX.out hb (Nat.le_refl _)
        have hws : w.heap.size < wr.heap.size := cell_lt hbox
        clear hown
        by_cases hlt : k < es.length
        · obtain ⟨b, o, rfl⟩ := HR.out.addr (by omega)
          obtain ⟨a', cap', c0, c1, c2, c3, c4, hw', hr'⟩ := ((HR.out.get k hlt).keep hbr (Nat.le_refl _)).val
          have HE := hide (Ex.Val.mk hw' hr')
          clear hw' hr'
          have hcall := fun (W : World) (hW : Below wr.heap.size wr W) => IH.out es[k] _ W (by omega) (hkids _ (List.getElem_mem hlt)) (HE.out.keep hW (Nat.le_refl _))
          have HCALL := hide hcall
          have HTK := hide (namesL_take es k hlt)
          have hlk := HLE.out (k + 1) (by omega)
          rw [HTK.out, ← List.append_assoc, List.length_append] at hlk
          clear hcall
          go_wp2_with fail
          refine (HCALL.out _ (bl wr)).mono ?_
          rintro r w2 ⟨v2, rfl, hown2, hb2⟩
          have hOLD := hide (own_below HOWN.out hb2)
          have hNEW := hide hown2
          rcases hown2.2 with ⟨rfl, hn0⟩ | ⟨g, cap2, cur, rfl, hg, hh, hle, hcap, hsz, htk⟩
          · go_wp2_with (at_builtin; refine wpList_append_own_none rfl _ _ 67 rfl w1.heap.size 9 i0 1 Tryd.underlying67 hi _ _ _ rfl hOLD.out rfl ?_)
            go_roundw
            case rel =>
              refine ⟨k + 1, by omega, by go_num, ?_, hb.tr hb2⟩
              have h0 : namesM es[k] = [] := List.eq_nil_of_length_eq_zero hn0
              rw [HTK.out, h0, List.append_nil]
              exact hOLD.out
            case measure => simp [intOf]; omega
          · clear hh hsz htk hle hcap
            go_wp2_with (at_builtin; refine wpList_append_own _ rfl _ _ 67 rfl w1.heap.size 9 i0 (.string ⟨#[]⟩) 1 16 Tryd.underlying67 hi hz0 hz1 hz2 rfl (by decide) _ _ _ rfl hOLD.out ⟨g, 0, none⟩ (namesM es[k]).length cap2 ((namesM es[k]).map sv) rfl (by simp) (own_cell hNEW.out) (by intro u hu; obtain ⟨x, _, rfl⟩ := List.mem_map.1 hu; rfl) (by unfold maxLen; omega) (by omega) (by have := (hb.tr hb2).size; omega) ?_; intro v' w3 hown' hgrow _)
            have hb3 : Below w1.heap.size w1 w3 := (hb.tr hb2).grown hgrow (by have := (hb.tr hb2).size; omega) (fun j hj => (hOLD.out.lt j hj).1)
            go_roundw
            case rel =>
              refine ⟨k + 1, by omega, by go_num, ?_, hb3⟩
              rw [HTK.out, ← List.append_assoc, List.length_append, List.map_append]
              exact hown'
            case measure => simp [intOf]; omega
        · obtain rfl : k = es.length := by omega
          go_wp2_with fail
          go_ret
          have hown := HOWN.out
          rw [List.take_of_length_le (Nat.le_refl _)] at hown
          rw [HID.out]
          refine ⟨_, rfl, ?_, hbr⟩
          exact own_base hown (by have := hbw.size; omega)
    | cons c t =>
      simp only [List.isEmpty_cons, Bool.false_eq_true, if_false] at HID HLE
      go_enter Tryd.func42, Tryd.ntmps42
      go_wp2_with (at_builtin; refine wpList_append_own _ rfl _ _ 67 rfl (w.alloc (.cells #[.int .i64 k, .int .i64 o, .int .i64 n, .string ⟨(c :: t).toArray⟩, .slice a es.length cap] 36)).heap.size 9 i0 (.string ⟨#[]⟩) 1 16 Tryd.underlying67 hi hz0 hz1 hz2 rfl (by decide) _ _ _ rfl (World.ownsRow_nil _ _ _ _) ⟨w.heap.size + 1, 0, none⟩ 1 1 [.string ⟨(c :: t).toArray⟩] rfl rfl (cell_one _ _ _ _ (by simp)) (by simp [Value.oneCell']) (by unfold maxLen; omega) (by omega) (by simp) ?_; intro v' w3 hown' hgrow _)
      have hb3 : Below (w.alloc (.cells #[.int .i64 k, .int .i64 o, .int .i64 n, .string ⟨(c :: t).toArray⟩, .slice a es.length cap] 36)).heap.size (w.alloc (.cells #[.int .i64 k, .int .i64 o, .int .i64 n, .string ⟨(c :: t).toArray⟩, .slice a es.length cap] 36)) w3 := ((bl _).al _).grown hgrow (by simp) (fun j hj => by cases hj)
      generalize (w.alloc (.cells #[.int .i64 k, .int .i64 o, .int .i64 n, .string ⟨(c :: t).toArray⟩, .slice a es.length cap] 36)) = w1 at *
      generalize hO : [c :: t] = own at *
      have HOWN0 : Hid (w3.ownsRow w1.heap.size 9 1 v' own.length (own.map sv)) := hide (by rw [← hO]; exact hown')
      have HB0 := hide hb3
      clear hO hown' hgrow hb3
      have hsl : ∀ (j : Nat), j ≤ es.length → (own ++ namesL (es.take j)).length ≤ 1048576 := HLE.out
      go_loopw [3, 4] (fun v i wr => ∃ k : Nat, k ≤ es.length ∧ i = .int .i64 k ∧ wr.ownsRow w1.heap.size 9 1 v (own ++ namesL (es.take k)).length ((own ++ namesL (es.take k)).map sv) ∧ Below w1.heap.size w1 wr) (fun _ i _ => es.length - (intOf i).toNat)
      case atStart => exact ⟨0, Nat.zero_le _, rfl, by simpa [namesL] using HOWN0.out, HB0.out⟩
      case round =>
        obtain ⟨k, hk, rfl, hown, hb⟩ := hrel
        have hbr := hbw.tr hb
        have HOWN := hide hown
        have hbox := cell_keep HBOX.out hb (Nat.le_refl _)
        have hws : w.heap.size < wr.heap.size := cell_lt hbox
        clear hown
        by_cases hlt : k < es.length
        · obtain ⟨b, o, rfl⟩ := HR.out.addr (by omega)
          obtain ⟨a', cap', c0, c1, c2, c3, c4, hw', hr'⟩ := ((HR.out.get k hlt).keep hbr (Nat.le_refl _)).val
          have HE := hide (Ex.Val.mk hw' hr')
          clear hw' hr'
          have hcall := fun (W : World) (hW : Below wr.heap.size wr W) => IH.out es[k] _ W (by omega) (hkids _ (List.getElem_mem hlt)) (HE.out.keep hW (Nat.le_refl _))
          have HCALL := hide hcall
          have HTK := hide (namesL_take es k hlt)
          have hlk := HLE.out (k + 1) (by omega)
          rw [HTK.out, ← List.append_assoc, List.length_append] at hlk
          clear hcall
          go_wp2_with fail
          refine (HCALL.out _ (bl wr)).mono ?_
          rintro r w2 ⟨v2, rfl, hown2, hb2⟩
          have hOLD := hide (own_below HOWN.out hb2)
          have hNEW := hide hown2
          rcases hown2.2 with ⟨rfl, hn0⟩ | ⟨g, cap2, cur, rfl, hg, hh, hle, hcap, hsz, htk⟩
          · go_wp2_with (at_builtin; refine wpList_append_own_none rfl _ _ 67 rfl w1.heap.size 9 i0 1 Tryd.underlying67 hi _ _ _ rfl hOLD.out rfl ?_)
            go_roundw
            case rel =>
              refine ⟨k + 1, by omega, by go_num, ?_, hb.tr hb2⟩
              have h0 : namesM es[k] = [] := List.eq_nil_of_length_eq_zero hn0
              rw [HTK.out, h0, List.append_nil]
              exact hOLD.out
            case measure => simp [intOf]; omega
          · clear hh hsz htk hle hcap
            go_wp2_with (at_builtin; refine wpList_append_own _ rfl _ _ 67 rfl w1.heap.size 9 i0 (.string ⟨#[]⟩) 1 16 Tryd.underlying67 hi hz0 hz1 hz2 rfl (by decide) _ _ _ rfl hOLD.out ⟨g, 0, none⟩ (namesM es[k]).length cap2 ((namesM es[k]).map sv) rfl (by simp) (own_cell hNEW.out) (by intro u hu; obtain ⟨x, _, rfl⟩ := List.mem_map.1 hu; rfl) (by unfold maxLen; omega) (by omega) (by have := (hb.tr hb2).size; omega) ?_; intro v' w3 hown' hgrow _)
            have hb3 : Below w1.heap.size w1 w3 := (hb.tr hb2).grown hgrow (by have := (hb.tr hb2).size; omega) (fun j hj => (hOLD.out.lt j hj).1)
            go_roundw
            case rel =>
              refine ⟨k + 1, by omega, by go_num, ?_, hb3⟩
              rw [HTK.out, ← List.append_assoc, List.length_append, List.map_append]
              exact hown'
            case measure => simp [intOf]; omega
        · obtain rfl : k = es.length := by omega
          go_wp2_with fail
          go_ret
          have hown := HOWN.out
          rw [List.take_of_length_le (Nat.le_refl _)] at hown
          rw [HID.out]
          refine ⟨_, rfl, ?_, hbr⟩
          exact own_base hown (by have := hbw.size; omega)
end Go.Proofs.YtfpikakgaghdbaaDoor
