/- The helpers of types.scope answer as their models say, for expressions and variables in memory. -/
import Derived.StillTailTactics
import Derived.Test.YtfpikakgaghdbaaDoorTyB
import Derived.Test.YtfpikakgaghdbaaDoorShD
namespace Go.Proofs.YtfpikakgaghdbaaDoor
open Go Go.RowKit
set_option linter.unusedSimpArgs false
set_option linter.unusedVariables false
set_option linter.unnecessarySimpa false
theorem info_int : (Tryd.prog.info? 3).map (fun i => (i.zero, i.size, i.bytes)) = some (some (.int .i64 0), 1, 8) := by kernel_rfl
theorem cell_one (w : World) (x : Value) (t : TypeId) (n : Nat) (hn : n = w.heap.size) : ∀ (j : Nat) (u : Value), [x][j]? = some u → (w.alloc (.cells #[x] t)).cell? ((⟨n, 0, none⟩ : Addr).add j) = some u := by
  intro j u h
  subst hn
  cases j with
  | zero =>
    simp only [List.getElem?_cons_zero] at h
    show (w.alloc (.cells [x].toArray t)).cell? ⟨w.heap.size, 0, none⟩ = some u
    exact cell_of_list _ _ _ _ _ h
  | succ j => simp at h
theorem own_below {w w' : World} {base n size : Nat} {e : TypeId} {v : Value} {xs : List Value} (h : w.ownsRow base e size v n xs) (hb : Below w.heap.size w w') : w'.ownsRow base e size v n xs := by
  obtain ⟨h1, h2⟩ := h
  refine ⟨h1, ?_⟩
  rcases h2 with h2 | ⟨g, cap, cur, hv, hg, hh, r⟩
  · exact .inl h2
  · refine .inr ⟨g, cap, cur, hv, hg, ?_, r⟩
    rw [hb.block g (Array.getElem?_eq_some_iff.1 hh).1]
    exact hh
theorem own_ints {w : World} {base : Nat} {e : TypeId} {v : Value} {l : List Int} (h : w.ownsRow base e 1 v l.length (l.map (Value.int .i64))) : ∃ a cap, v = .slice a l.length cap ∧ Ints w l a cap := by
  obtain ⟨_, ⟨rfl, hn⟩ | ⟨g, cap, cur, rfl, hg, hh, hle, hcap, hsz, htk⟩⟩ := h
  · rw [hn]
    exact ⟨none, 0, rfl, by omega, by unfold maxLen; omega, fun h => by omega, fun b o e => by cases e⟩
  · refine ⟨_, cap, rfl, hle, hcap, fun _ => ⟨_, _, rfl⟩, fun b o e i hi => ?_⟩
    simp only [Option.some.injEq, Addr.mk.injEq, and_true] at e
    obtain ⟨rfl, rfl⟩ := e
    have h1 : (l.map (Value.int .i64))[i]? = some (.int .i64 l[i]) := by simp [hi]
    rw [← htk, List.getElem?_take_of_lt (by omega)] at h1
    unfold World.cell?
    simp only [hh, Nat.zero_add]
    simpa using h1
def typM (l : List Vr) (p : Int) (s : Bytes) : Int × Int := if (seenM l s p).2 then ((l[(seenM l s p).1]?.map Vr.typ).getD 0, 0) else (0, 11)
theorem firstM_lt {l : List Vr} {p : Vr → Bool} (h : (firstM l p).2 = true) : (firstM l p).1 < l.length := by
  unfold firstM at *
  cases hq : l.findIdx? p with
  | none => rw [hq] at h; cases h
  | some i => exact (List.findIdx?_eq_some_iff_getElem.1 hq).1
set_option maxHeartbeats 1000000 in
theorem typ_any (l : List Vr) (a : Option Addr) (cap : Nat) (p : Int) (s : Bytes) (w : World) (hl : Vrs w l a cap) :
    Calls Tryd.prog 54 #[.agg #[.slice a l.length cap, .int .i64 p], .string ⟨s.toArray⟩] w fun e w' => e = .returned (.tuple #[.int .i64 (typM l p s).1, .int .i64 (typM l p s).2]) ∧ Below w.heap.size w w' := by
  have h1 := fun (W : World) (hW : Below w.heap.size w W) => seen_any l a cap s p W (hl.keep hW (Nat.le_refl _))
  have hlen : l.length ≤ 9223372036854775807 := Nat.le_trans hl.len hl.cap
  have hlt := fun h => firstM_lt (l := l) (p := fun v => v.name == s && v.sees p) h
  have HL := hide hl
  clear hl
  unfold typM
  unfold seenM at *
  generalize firstM l (fun v => v.name == s && v.sees p) = r at *
  obtain ⟨i, q⟩ := r
  cases q
  · clear hlt
    have H1 := hide h1
    clear h1
    go_enter Tryd.func54, Tryd.ntmps54
    go_wp2_with fail
    refine (H1.out _ ((bl w).al _)).mono ?_
    rintro e w1 ⟨rfl, hb⟩
    go_wp2_with fail
    go_ret2
    exact ⟨rfl, ((bl w).al _).tr hb⟩
  · have hlt' : i < l.length := hlt rfl
    clear hlt
    have H1 := hide h1
    clear h1
    obtain ⟨b, o, rfl⟩ := HL.out.addr (by omega)
    have hty := (HL.out.at_ b o rfl i hlt').2.1
    have hbb : b < w.heap.size := cell_lt hty
    have HE := hide (show l[i]?.map Vr.typ = some l[i].typ by simp [hlt'])
    go_enter Tryd.func54, Tryd.ntmps54
    go_wp2_with fail
    refine (H1.out _ ((bl w).al _)).mono ?_
    rintro e w1 ⟨rfl, hb⟩
    obtain ⟨hc, _⟩ := bcell hb
    go_wp2_with fail
    go_ret2
    exact ⟨by simp, ((bl w).al _).tr hb⟩
def finM (k o own : Int) (ts : List Int) : Int × Int :=
  if k = 1 then (1, 0) else if k = 2 then (2, 0) else if k = 3 then (own, 0) else if k = 4 then unaryM o (ts[0]?.getD 0) else if k = 5 then binaryM o (ts[0]?.getD 0) (ts[1]?.getD 0)
  else if k = 6 ∧ ts[0]?.getD 0 ≠ 1 then (0, 12) else if own ≠ 3 then (0, 12) else (1, 0)
mutual
/-- The type of an expression, and the error. -/
def ofM (l : List Vr) (p : Int) : Ex → Int × Int
  | .mk k o _ s es =>
    let own := if s.isEmpty then (0, 0) else typM l p s
    if own.2 ≠ 0 then (0, own.2) else
    let r := allM l p es
    if r.1 ≠ 0 then (0, r.1) else finM k o own.1 r.2
def allM (l : List Vr) (p : Int) : List Ex → Int × List Int
  | [] => (0, [])
  | e :: es =>
    let t := ofM l p e
    if t.2 ≠ 0 then (t.2, []) else
    let r := allM l p es
    if r.1 ≠ 0 then r else (0, t.1 :: r.2)
end
theorem allM_ok (l : List Vr) (p : Int) : ∀ (es : List Ex), (∀ e ∈ es, (ofM l p e).2 = 0) → allM l p es = (0, es.map fun e => (ofM l p e).1)
  | [], _ => by simp [allM]
  | e :: es, h => by
    have h1 := h e (by simp)
    have h2 := allM_ok l p es fun x hx => h x (by simp [hx])
    simp [allM, h1, h2]
theorem allM_bad (l : List Vr) (p : Int) : ∀ (es : List Ex) (k : Nat) (h : k < es.length), (∀ e ∈ es.take k, (ofM l p e).2 = 0) → (ofM l p es[k]).2 ≠ 0 → allM l p es = ((ofM l p es[k]).2, [])
  | [], k, h, _, _ => absurd h (Nat.not_lt_zero _)
  | e :: es, 0, _, _, h2 => by
    simp only [List.getElem_cons_zero] at h2 ⊢
    simp [allM, h2]
  | e :: es, k + 1, h, h1, h2 => by
    have h3 := h1 e (by simp)
    have h4 := allM_bad l p es k (by simpa using h) (fun x hx => h1 x (by simp [hx])) (by simpa using h2)
    simp only [List.getElem_cons_succ] at h2 ⊢
    simp [allM, h3, h4, h2]
def AllPost (w : World) (r : Int × List Int) (e : Ending) (w' : World) : Prop := ∃ a cap, e = .returned (.tuple #[.slice a r.2.length cap, .int .i64 r.1]) ∧ Ints w' r.2 a cap ∧ Below w.heap.size w w'
set_option maxHeartbeats 2000000 in
theorem all_any (l : List Vr) (p : Int) (va : Option Addr) (vcap : Nat) (es : List Ex) (ea : Option Addr) (ecap : Nat) (w : World) (hsmall : es.length ≤ 1000) (hr : Ex.Row w es ea)
    (hof : ∀ (i : Nat) (h : i < es.length) (v : Value) (W : World), Below w.heap.size w W → Ex.Val W es[i] v →
      Calls Tryd.prog 37 #[.agg #[.slice va l.length vcap, .int .i64 p], v] W fun e w' => e = .returned (.tuple #[.int .i64 (ofM l p es[i]).1, .int .i64 (ofM l p es[i]).2]) ∧ Below W.heap.size W w') :
    Calls Tryd.prog 55 #[.agg #[.slice va l.length vcap, .int .i64 p], .slice ea es.length ecap] w (AllPost w (allM l p es)) := by
  obtain ⟨i0, hi, hz0, hz1, hz2⟩ := info_parts info_int
  have HR := hide hr
  have HOF := hide hof
  clear hr hof
  go_enter Tryd.func55, Tryd.ntmps55
  go_wp2
  have HC0 : (w.alloc (.cells #[.slice va l.length vcap, .int .i64 p] 82)).cell? ⟨w.heap.size, 0, none⟩ = some (.slice va l.length vcap) := by go_simp
  have HC1 : (w.alloc (.cells #[.slice va l.length vcap, .int .i64 p] 82)).cell? ⟨w.heap.size, 1, none⟩ = some (.int .i64 p) := by go_simp
  have hbw : Below w.heap.size w (w.alloc (.cells #[.slice va l.length vcap, .int .i64 p] 82)) := (bl w).al _
  have hsz : (w.alloc (.cells #[.slice va l.length vcap, .int .i64 p] 82)).heap.size = w.heap.size + 1 := by simp
  have HSZ := hide hsz
  clear hsz
  have HC0' := hide HC0
  have HC1' := hide HC1
  clear HC0 HC1
  generalize w.alloc (.cells #[.slice va l.length vcap, .int .i64 p] 82) = w1 at *
  go_loopw [6, 13] (fun v i wr => ∃ k : Nat, k ≤ es.length ∧ i = .int .i64 k ∧ Hid (∀ e ∈ es.take k, (ofM l p e).2 = 0) ∧ wr.ownsRow (w.heap.size + 1) 3 1 v k (((es.take k).map fun e => (ofM l p e).1).map (Value.int .i64)) ∧ Below w1.heap.size w1 wr) (fun _ i _ => es.length - (intOf i).toNat)
  case atStart => exact ⟨0, Nat.zero_le _, rfl, by simp [Hid], by simpa using World.ownsRow_nil _ _ _ _, bl _⟩
  case round =>
    obtain ⟨k, hk, rfl, hn, hown, hb⟩ := hrel
    have hbr := hbw.tr hb
    have c0' := cell_keep HC0'.out hb (Nat.le_refl _)
    have c1' := cell_keep HC1'.out hb (Nat.le_refl _)
    have hws : w.heap.size < wr.heap.size := cell_lt c0'
    have HOWN := hide hown
    clear hown
    by_cases hlt : k < es.length
    · obtain ⟨b, o, rfl⟩ := HR.out.addr (by omega)
      obtain ⟨a', cap', c0, c1, c2, c3, c4, hw', hr'⟩ := ((HR.out.get k hlt).keep hbr (Nat.le_refl _)).val
      have HE := hide (Ex.Val.mk hw' hr')
      clear hw' hr'
      have hcall := fun W (hW : Below wr.heap.size wr W) => HOF.out k hlt _ W (hbr.tr hW) (HE.out.keep hW (Nat.le_refl _))
      obtain ⟨t, f, hq⟩ : ∃ t f, ofM l p es[k] = (t, f) := ⟨_, _, rfl⟩
      simp only [hq] at hcall
      have HCALL := hide hcall
      have HQ := hide hq
      clear hcall hq
      have htk : es.take (k + 1) = es.take k ++ [es[k]] := List.take_succ_eq_append_getElem hlt
      have HTK := hide htk
      clear htk
      by_cases hz : f = 0
      · subst hz
        go_wp2_with fail
        refine (HCALL.out _ ((bl _).al _)).mono ?_
        rintro r w2 ⟨rfl, hb2⟩
        have hown2 := own_below (HOWN.out.alloc _) hb2
        have HOWN2 := hide hown2
        have hw2 : w.heap.size + 1 ≤ w2.heap.size := by have := hb2.size; simp at this; omega
        clear hown2
        go_wp2_with (at_builtin; refine wpList_append_own _ rfl _ _ 52 rfl (w.heap.size + 1) 3 i0 (.int .i64 0) 1 8 Tryd.underlying52 hi hz0 hz1 hz2 rfl (by decide) _ _ _ rfl (HOWN2.out.alloc _) ⟨w2.heap.size, 0, none⟩ 1 1 [.int .i64 t] rfl rfl (cell_one _ _ _ _ rfl) (by simp [Value.oneCell']) (by unfold maxLen; omega) (by omega) (by simp; omega) ?_; intro v' w3 hown' hgrow _)
        have hb3 : Below w1.heap.size w1 w3 := (((hb.al _).tr hb2).al _).grown hgrow (by simp; have := HSZ.out; omega) (fun j hj => by have := (HOWN2.out.lt j hj).1; have := HSZ.out; omega)
        go_roundw
        case rel =>
          refine ⟨k + 1, by omega, by go_num, ?_, ?_, hb3⟩
          · intro e he
            rw [HTK.out, List.mem_append, List.mem_singleton] at he
            rcases he with he | rfl
            · exact hn.out e he
            · rw [HQ.out]
          · have e1 : ((es.take (k + 1)).map fun e => (ofM l p e).1).map (Value.int .i64) = ((es.take k).map fun e => (ofM l p e).1).map (Value.int .i64) ++ [.int .i64 t] := by
              rw [HTK.out]; simp only [List.map_append, List.map_cons, List.map_nil, HQ.out]
            rw [e1]
            exact hown'
        case measure => simp [intOf]; omega
      · have hz1 : (f != 0) = true := by simpa using hz
        go_wp2_with fail
        refine (HCALL.out _ ((bl _).al _)).mono ?_
        rintro r w2 ⟨rfl, hb2⟩
        go_wp2_with fail
        go_ret2
        have h5 := allM_bad l p es k hlt hn.out (by rw [HQ.out]; exact hz)
        rw [HQ.out] at h5
        refine ⟨none, 0, by rw [h5]; rfl, ?_, (hbr.al _).tr hb2⟩
        rw [h5]
        exact ⟨Nat.le_refl _, by unfold maxLen; omega, fun h => absurd h (Nat.not_lt_zero _), fun b o e => by cases e⟩
    · obtain rfl : k = es.length := by omega
      go_wp2_with fail
      go_ret2
      have h5 := allM_ok l p es (by simpa using hn.out)
      have hown := HOWN.out
      rw [List.take_of_length_le (Nat.le_refl _)] at hown
      obtain ⟨a, cap, rfl, hi⟩ := own_ints (l := es.map fun e => (ofM l p e).1) (by simpa using hown)
      refine ⟨a, cap, by rw [h5]; simp, by rw [h5]; exact hi, hbr⟩
end Go.Proofs.YtfpikakgaghdbaaDoor
