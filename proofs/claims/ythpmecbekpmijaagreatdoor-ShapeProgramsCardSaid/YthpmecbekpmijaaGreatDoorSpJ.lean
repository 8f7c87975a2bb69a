/- slices.Clone over expressions, statements, parameters and functions: a row of the call's own with the same elements. -/
import Derived.Test.YthpmecbekpmijaaGreatDoorOw2
import Derived.Test.YthpmecbekpmijaaGreatDoorOt
import Derived.Lib.SliceRun
namespace Go.Proofs.YthpmecbekpmijaaGreatDoor
open Go Go.RowKit
set_option linter.unusedSimpArgs false
set_option linter.unusedVariables false
set_option linter.unnecessarySimpa false
/-- A row of statements as a list of cells. -/
theorem St.Row.cut {w : World} : ∀ {l : List St} {b o : Nat}, St.Row w l (some ⟨b, o, none⟩) → ∃ xs, Cut 8 (StC w) l xs ∧ ∀ (j : Nat) (u : Value), xs[j]? = some u → w.cell? ⟨b, o + j, none⟩ = some u
  | [], _, _, _ => ⟨[], rfl, by simp⟩
  | e :: es, b, o, h => by
    simp only [St.Row] at h
    obtain ⟨b', o', ha, he, hr⟩ := h
    simp only [Option.some.injEq, Addr.mk.injEq, and_true] at ha
    obtain ⟨rfl, rfl⟩ := ha
    obtain ⟨pa, pb, pe, ca, cb, ce, ⟨c0, c1, c2, c3, c4, c5, c6, c7⟩, hw, h1, h2, h3⟩ := he.val
    obtain ⟨xs, hcut, hx⟩ := St.Row.cut hr
    refine ⟨[.int .i64 e.kind, .int .i64 e.no, .string ⟨e.name.toArray⟩, .int .i64 e.typ, .string ⟨e.callee.toArray⟩, .slice pa e.args.length ca, .slice pb e.body.length cb, .slice pe e.els.length ce] ++ xs, ⟨_, xs, rfl, rfl, ⟨pa, pb, pe, ca, cb, ce, rfl, hw, h1, h2, h3⟩, hcut⟩, fun j u hu => ?_⟩
    rcases j with _ | _ | _ | _ | _ | _ | _ | _ | j
    · simp at hu; subst hu; exact c0
    · simp at hu; subst hu; exact c1
    · simp at hu; subst hu; exact c2
    · simp at hu; subst hu; exact c3
    · simp at hu; subst hu; exact c4
    · simp at hu; subst hu; exact c5
    · simp at hu; subst hu; exact c6
    · simp at hu; subst hu; exact c7
    · have := hx j u (by simpa using hu)
      rwa [show o + 8 + j = o + (j + 1 + 1 + 1 + 1 + 1 + 1 + 1 + 1) by omega] at this
theorem St.Row.pushin {w : World} {X : List Nat} {l : List St} {pa : Option Addr} (h : St.Row (av X w) l pa) :
    (pa = none ∧ l = []) ∨ ∃ ad news, pa = some ad ∧ (∀ j u, news[j]? = some u → w.cell? (ad.add j) = some u) ∧ (∀ u ∈ news, u.oneCell' = true) ∧ Cut 8 (StC (av X w)) l news := by
  cases l with
  | nil =>
    cases pa with
    | none => exact .inl ⟨rfl, rfl⟩
    | some ad => exact .inr ⟨ad, [], rfl, by simp, by simp, rfl⟩
  | cons e es =>
    obtain ⟨b, o, rfl⟩ := h.addr (by simp)
    obtain ⟨xs, hcut, hx⟩ := h.cut
    exact .inr ⟨_, xs, rfl, fun j u hu => by rw [Addr.add_lit]; exact has_av _ _ _ (hx j u hu), hcut.cells fun a c hv => hv.one, hcut⟩
theorem FnC.one' {W : World} {a : Fn} {c : List Value} (h : FnC W a c) : ∀ u ∈ c, u.oneCell' = true := by
  obtain ⟨_, _, _, _, rfl, _⟩ := h
  simp [Value.oneCell']
theorem Fns.pushin {w : World} {X : List Nat} {l : List Fn} {pa : Option Addr} {cap : Nat} (h : Fns (av X w) l pa cap) :
    (pa = none ∧ l = []) ∨ ∃ ad news, pa = some ad ∧ (∀ j u, news[j]? = some u → w.cell? (ad.add j) = some u) ∧ (∀ u ∈ news, u.oneCell' = true) ∧ Cut 5 (FnC (av X w)) l news := by
  cases l with
  | nil =>
    cases pa with
    | none => exact .inl ⟨rfl, rfl⟩
    | some ad => exact .inr ⟨ad, [], rfl, by simp, by simp, rfl⟩
  | cons p ps =>
    obtain ⟨b, o, rfl⟩ := h.addr (by simp)
    have key : ∀ (l : List Fn) (o : Nat), (∀ (i : Nat) (h : i < l.length), Fn.At (av X w) l[i] b (o + i * 5)) →
        ∃ xs, Cut 5 (FnC (av X w)) l xs ∧ ∀ (j : Nat) (u : Value), xs[j]? = some u → (av X w).cell? ⟨b, o + j, none⟩ = some u := by
      intro l
      induction l with
      | nil => exact fun _ _ => ⟨[], rfl, by simp⟩
      | cons p l ih =>
        intro o hc
        obtain ⟨xs, hcut, hx⟩ := ih (o + 5) (fun i hi => by
          have := hc (i + 1) (by simpa using hi)
          rw [show o + (i + 1) * 5 = o + 5 + i * 5 by omega] at this
          simpa using this)
        have h0 := hc 0 (by simp)
        simp only [Nat.zero_mul, Nat.add_zero, List.getElem_cons_zero] at h0
        obtain ⟨pp, pb, cp, cb, c0, c1, c2, c3, c4, hw, hp, hr⟩ := h0
        refine ⟨[.string ⟨p.name.toArray⟩, .slice pp p.params.length cp, .int .i64 p.result, .slice pb p.body.length cb, .int .i64 p.count] ++ xs, ⟨_, xs, rfl, rfl, ⟨pp, pb, cp, cb, rfl, hw, hp, hr⟩, hcut⟩, fun j u hu => ?_⟩
        rcases j with _ | _ | _ | _ | _ | j
        · simp at hu; subst hu; exact c0
        · simp at hu; subst hu; exact c1
        · simp at hu; subst hu; exact c2
        · simp at hu; subst hu; exact c3
        · simp at hu; subst hu; exact c4
        · have := hx j u (by simpa using hu)
          rwa [show o + 5 + j = o + (j + 1 + 1 + 1 + 1 + 1) by omega] at this
    obtain ⟨xs, hcut, hx⟩ := key (p :: ps) o (h.at_ b o rfl)
    exact .inr ⟨_, xs, rfl, fun j u hu => by rw [Addr.add_lit]; exact has_av _ _ _ (hx j u hu), hcut.cells fun a c hv => hv.one', hcut⟩
/-- What Clone answers. -/
def ClPost {α : Type} (w : World) (t : TypeId) (sz : Nat) (V : World → α → List Value → Prop) (l : List α) (r : Ending) (w' : World) : Prop :=
  (∃ v, r = .returned v ∧ OwnL w' w.heap.size t sz V [] v l) ∧ Below w.heap.size w w'
theorem own_ban (n : Nat) : (Value.slice (some ⟨n, 0, none⟩) 0 0).ownBlock.toList ++ [] = [n] := rfl
set_option maxRecDepth 20000 in
set_option maxHeartbeats 4000000 in
theorem clone_exs (l : List Ex) (a : Option Addr) (cap : Nat) (w : World) (hl : Ex.Row w l a) (hlen : l.length ≤ 100000) :
    Calls Tryz.prog 107 #[.slice a l.length cap] w (ClPost w 27 5 ExC l) := by
  obtain ⟨i0, hi, hz0, hz1, hz2⟩ := info_parts info_ex
  have hcap : l.length ≤ 9223372036854775807 := by omega
  cases a with
  | none =>
    obtain rfl : l = [] := by
      cases l with
      | nil => rfl
      | cons x l => have := hl.addr (by simp); obtain ⟨b, o, h⟩ := this; cases h
    have he : ∀ W : World, (binOp .eql 25 (.slice none 0 cap) (.slice none 0 0)).run Tryz.prog W = .ok (.bool true) W := fun W => Lib.run_eql_slice_nil W _ _ none 0 cap 0 0 Tryz.underlying25
    clear hl hlen
    go_enter Tryz.func107, Tryz.ntmps107
    go_wp2_with fail
    go_ret
    exact ⟨⟨_, rfl, OwnL.nil _ _ _ _ _ _⟩, bl _⟩
  | some ad =>
    have HIN := hide (((hl.has (has_new (l := [w.heap.size]) (by simp))).has (has_av_below ((bl w).al (.cells #[] 27)))).pushin)
    have HM0 := hide (OwnL.made0 w w.heap.size 27 5 ExC [] w.heap.size rfl (Nat.le_refl _))
    have HB1 : Hid (([] : List Ex).length + l.length ≤ maxLen) := hide (by simp only [List.length_nil, Nat.zero_add]; unfold maxLen; omega)
    have HB2 : Hid ((([] : List Ex).length + l.length) * 64 ≤ 140737488355328) := hide (by simp only [List.length_nil, Nat.zero_add]; omega)
    have HB3 : Hid (w.heap.size ≤ (w.alloc (.cells #[] 27)).heap.size) := hide (by simp)
    have HGR : Hid (∀ w3, (w.alloc (.cells #[] 27)).grownBy w3 (Value.slice (some ⟨w.heap.size, 0, none⟩) 0 0).ownBlock → Below w.heap.size w w3) := hide fun w3 hg => ((bl w).al _).grown hg (by simp) (by simp [Value.ownBlock])
    have he : ∀ W : World, (binOp .eql 25 (.slice (some ad) l.length cap) (.slice none 0 0)).run Tryz.prog W = .ok (.bool false) W := fun W => Lib.run_eql_slice_nil W _ _ (some ad) l.length cap 0 0 Tryz.underlying25
    clear hl hlen
    go_enter Tryz.func107, Tryz.ntmps107
    go_wp2_with (at_builtin; refine wpList_pushin _ rfl _ _ 25 rfl w.heap.size 27 i0 _ 5 64 Tryz.underlying25 hi hz0 hz1 hz2 rfl (by decide) ExC ExC.mono [] _ [] rfl HM0.out _ cap l rfl HIN.out HB1.out HB2.out HB3.out ?_; intro v w3 hown3 hgrow3)
    go_ret
    rw [List.nil_append] at hown3
    exact ⟨⟨_, rfl, hown3⟩, HGR.out _ hgrow3⟩
set_option maxRecDepth 20000 in
set_option maxHeartbeats 4000000 in
theorem clone_sts (l : List St) (a : Option Addr) (cap : Nat) (w : World) (hl : St.Row w l a) (hlen : l.length ≤ 100000) :
    Calls Tryz.prog 77 #[.slice a l.length cap] w (ClPost w 34 8 StC l) := by
  obtain ⟨i0, hi, hz0, hz1, hz2⟩ := info_parts info_st
  have hcap : l.length ≤ 9223372036854775807 := by omega
  cases a with
  | none =>
    obtain rfl : l = [] := by
      cases l with
      | nil => rfl
      | cons x l => have := hl.addr (by simp); obtain ⟨b, o, h⟩ := this; cases h
    have he : ∀ W : World, (binOp .eql 32 (.slice none 0 cap) (.slice none 0 0)).run Tryz.prog W = .ok (.bool true) W := fun W => Lib.run_eql_slice_nil W _ _ none 0 cap 0 0 Tryz.underlying32
    clear hl hlen
    go_enter Tryz.func77, Tryz.ntmps77
    go_wp2_with fail
    go_ret
    exact ⟨⟨_, rfl, OwnL.nil _ _ _ _ _ _⟩, bl _⟩
  | some ad =>
    have HIN := hide (((hl.has (has_new (l := [w.heap.size]) (by simp))).has (has_av_below ((bl w).al (.cells #[] 34)))).pushin)
    have HM0 := hide (OwnL.made0 w w.heap.size 34 8 StC [] w.heap.size rfl (Nat.le_refl _))
    have HB1 : Hid (([] : List St).length + l.length ≤ maxLen) := hide (by simp only [List.length_nil, Nat.zero_add]; unfold maxLen; omega)
    have HB2 : Hid ((([] : List St).length + l.length) * 128 ≤ 140737488355328) := hide (by simp only [List.length_nil, Nat.zero_add]; omega)
    have HB3 : Hid (w.heap.size ≤ (w.alloc (.cells #[] 34)).heap.size) := hide (by simp)
    have HGR : Hid (∀ w3, (w.alloc (.cells #[] 34)).grownBy w3 (Value.slice (some ⟨w.heap.size, 0, none⟩) 0 0).ownBlock → Below w.heap.size w w3) := hide fun w3 hg => ((bl w).al _).grown hg (by simp) (by simp [Value.ownBlock])
    have he : ∀ W : World, (binOp .eql 32 (.slice (some ad) l.length cap) (.slice none 0 0)).run Tryz.prog W = .ok (.bool false) W := fun W => Lib.run_eql_slice_nil W _ _ (some ad) l.length cap 0 0 Tryz.underlying32
    clear hl hlen
    go_enter Tryz.func77, Tryz.ntmps77
    go_wp2_with (at_builtin; refine wpList_pushin _ rfl _ _ 32 rfl w.heap.size 34 i0 _ 8 128 Tryz.underlying32 hi hz0 hz1 hz2 rfl (by decide) StC StC.mono [] _ [] rfl HM0.out _ cap l rfl HIN.out HB1.out HB2.out HB3.out ?_; intro v w3 hown3 hgrow3)
    go_ret
    rw [List.nil_append] at hown3
    exact ⟨⟨_, rfl, hown3⟩, HGR.out _ hgrow3⟩
set_option maxRecDepth 20000 in
set_option maxHeartbeats 4000000 in
theorem clone_pms (l : List Pm) (a : Option Addr) (cap : Nat) (w : World) (hl : Pms w l a cap) (hlen : l.length ≤ 100000) :
    Calls Tryz.prog 47 #[.slice a l.length cap] w (ClPost w 58 2 PmC l) := by
  obtain ⟨i0, hi, hz0, hz1, hz2⟩ := info_parts info_pm
  have hcap : l.length ≤ 9223372036854775807 := by omega
  cases a with
  | none =>
    obtain rfl : l = [] := by
      cases l with
      | nil => rfl
      | cons x l => have := hl.addr (by simp); obtain ⟨b, o, h⟩ := this; cases h
    have he : ∀ W : World, (binOp .eql 40 (.slice none 0 cap) (.slice none 0 0)).run Tryz.prog W = .ok (.bool true) W := fun W => Lib.run_eql_slice_nil W _ _ none 0 cap 0 0 Tryz.underlying40
    clear hl hlen
    go_enter Tryz.func47, Tryz.ntmps47
    go_wp2_with fail
    go_ret
    exact ⟨⟨_, rfl, OwnL.nil _ _ _ _ _ _⟩, bl _⟩
  | some ad =>
    have HIN := hide ((hl.has (has_below ((bl w).al (.cells #[] 58)))).pushin [w.heap.size])
    have HM0 := hide (OwnL.made0 w w.heap.size 58 2 PmC [] w.heap.size rfl (Nat.le_refl _))
    have HB1 : Hid (([] : List Pm).length + l.length ≤ maxLen) := hide (by simp only [List.length_nil, Nat.zero_add]; unfold maxLen; omega)
    have HB2 : Hid ((([] : List Pm).length + l.length) * 24 ≤ 140737488355328) := hide (by simp only [List.length_nil, Nat.zero_add]; omega)
    have HB3 : Hid (w.heap.size ≤ (w.alloc (.cells #[] 58)).heap.size) := hide (by simp)
    have HGR : Hid (∀ w3, (w.alloc (.cells #[] 58)).grownBy w3 (Value.slice (some ⟨w.heap.size, 0, none⟩) 0 0).ownBlock → Below w.heap.size w w3) := hide fun w3 hg => ((bl w).al _).grown hg (by simp) (by simp [Value.ownBlock])
    have he : ∀ W : World, (binOp .eql 40 (.slice (some ad) l.length cap) (.slice none 0 0)).run Tryz.prog W = .ok (.bool false) W := fun W => Lib.run_eql_slice_nil W _ _ (some ad) l.length cap 0 0 Tryz.underlying40
    clear hl hlen
    go_enter Tryz.func47, Tryz.ntmps47
    go_wp2_with (at_builtin; refine wpList_pushin _ rfl _ _ 40 rfl w.heap.size 58 i0 _ 2 24 Tryz.underlying40 hi hz0 hz1 hz2 rfl (by decide) PmC PmC.mono [] _ [] rfl HM0.out _ cap l rfl HIN.out HB1.out HB2.out HB3.out ?_; intro v w3 hown3 hgrow3)
    go_ret
    rw [List.nil_append] at hown3
    exact ⟨⟨_, rfl, hown3⟩, HGR.out _ hgrow3⟩
set_option maxRecDepth 20000 in
set_option maxHeartbeats 4000000 in
theorem clone_fns (l : List Fn) (a : Option Addr) (cap : Nat) (w : World) (hl : Fns w l a cap) (hlen : l.length ≤ 100000) :
    Calls Tryz.prog 43 #[.slice a l.length cap] w (ClPost w 42 5 FnC l) := by
  obtain ⟨i0, hi, hz0, hz1, hz2⟩ := info_parts info_fn
  have hcap : l.length ≤ 9223372036854775807 := by omega
  cases a with
  | none =>
    obtain rfl : l = [] := by
      cases l with
      | nil => rfl
      | cons x l => have := hl.addr (by simp); obtain ⟨b, o, h⟩ := this; cases h
    have he : ∀ W : World, (binOp .eql 36 (.slice none 0 cap) (.slice none 0 0)).run Tryz.prog W = .ok (.bool true) W := fun W => Lib.run_eql_slice_nil W _ _ none 0 cap 0 0 Tryz.underlying36
    clear hl hlen
    go_enter Tryz.func43, Tryz.ntmps43
    go_wp2_with fail
    go_ret
    exact ⟨⟨_, rfl, OwnL.nil _ _ _ _ _ _⟩, bl _⟩
  | some ad =>
    have HIN := hide (((hl.has (has_new (l := [w.heap.size]) (by simp))).has (has_av_below ((bl w).al (.cells #[] 42)))).pushin)
    have HM0 := hide (OwnL.made0 w w.heap.size 42 5 FnC [] w.heap.size rfl (Nat.le_refl _))
    have HB1 : Hid (([] : List Fn).length + l.length ≤ maxLen) := hide (by simp only [List.length_nil, Nat.zero_add]; unfold maxLen; omega)
    have HB2 : Hid ((([] : List Fn).length + l.length) * 80 ≤ 140737488355328) := hide (by simp only [List.length_nil, Nat.zero_add]; omega)
    have HB3 : Hid (w.heap.size ≤ (w.alloc (.cells #[] 42)).heap.size) := hide (by simp)
    have HGR : Hid (∀ w3, (w.alloc (.cells #[] 42)).grownBy w3 (Value.slice (some ⟨w.heap.size, 0, none⟩) 0 0).ownBlock → Below w.heap.size w w3) := hide fun w3 hg => ((bl w).al _).grown hg (by simp) (by simp [Value.ownBlock])
    have he : ∀ W : World, (binOp .eql 36 (.slice (some ad) l.length cap) (.slice none 0 0)).run Tryz.prog W = .ok (.bool false) W := fun W => Lib.run_eql_slice_nil W _ _ (some ad) l.length cap 0 0 Tryz.underlying36
    clear hl hlen
    go_enter Tryz.func43, Tryz.ntmps43
    go_wp2_with (at_builtin; refine wpList_pushin _ rfl _ _ 36 rfl w.heap.size 42 i0 _ 5 80 Tryz.underlying36 hi hz0 hz1 hz2 rfl (by decide) FnC FnC.mono [] _ [] rfl HM0.out _ cap l rfl HIN.out HB1.out HB2.out HB3.out ?_; intro v w3 hown3 hgrow3)
    go_ret
    rw [List.nil_append] at hown3
    exact ⟨⟨_, rfl, hown3⟩, HGR.out _ hgrow3⟩
end Go.Proofs.YthpmecbekpmijaaGreatDoor
