/- types.result answers resultM for every list of rules in memory. -/
import Derived.Test.YtfpikakgaghdbaaDoorNmA
namespace Go.Proofs.YtfpikakgaghdbaaDoor
open Go Go.RowKit
set_option linter.unusedSimpArgs false
set_option linter.unusedVariables false
set_option linter.unnecessarySimpa false
/-- The slice a, l, cap holds these numbers. -/
structure Ints (w : World) (l : List Int) (a : Option Addr) (cap : Nat) : Prop where
  len : l.length ≤ cap
  cap : cap ≤ maxLen
  addr : 0 < l.length → ∃ b o, a = some ⟨b, o, none⟩
  at_ : ∀ (b o : Nat), a = some ⟨b, o, none⟩ → ∀ (i : Nat) (h : i < l.length), w.cell? ⟨b, o + i, none⟩ = some (.int .i64 l[i])
theorem Ints.keep {w w' : World} {B : Nat} {l : List Int} {a : Option Addr} {cap : Nat} (h : Ints w l a cap) (hb : Below B w w') (hB : w.heap.size ≤ B) : Ints w' l a cap :=
  ⟨h.len, h.cap, h.addr, fun b o e i hi => cell_keep (h.at_ b o e i hi) hb hB⟩
theorem Ints.alloc (w : World) (l : List Int) (t : TypeId) (n : Nat) (h : l.length ≤ maxLen) (hn : n = w.heap.size) : Ints (w.alloc (.cells (l.map (Value.int .i64)).toArray t)) l (some ⟨n, 0, none⟩) l.length := by
  subst hn
  exact ⟨Nat.le_refl _, h, fun _ => ⟨_, _, rfl⟩, fun b o e i hi => by
    simp only [Option.some.injEq, Addr.mk.injEq, and_true] at e
    obtain ⟨rfl, rfl⟩ := e
    rw [Nat.zero_add]
    exact cell_of_list _ _ _ _ _ (by simp [hi])⟩
def idxI (l : List Int) (p : Int → Bool) : Int := match l.findIdx? p with | some i => (i : Nat) | none => -1
theorem idxI_nonneg (l : List Int) (p : Int → Bool) : 0 ≤ idxI l p ↔ l.any p = true := by
  unfold idxI
  cases hq : l.findIdx? p with
  | none =>
    rw [List.findIdx?_eq_none_iff] at hq
    simp only [List.any_eq_true]
    refine ⟨fun h => absurd h (by decide), fun ⟨x, hx, hp⟩ => ?_⟩
    rw [hq x hx] at hp
    cases hp
  | some i =>
    obtain ⟨h, hp, _⟩ := List.findIdx?_eq_some_iff_getElem.1 hq
    simp only [List.any_eq_true]
    exact ⟨fun _ => ⟨l[i], List.getElem_mem h, hp⟩, fun _ => by omega⟩
set_option maxHeartbeats 1000000 in
theorem indexFunc_ints (l : List Int) (p : Int → Bool) (a : Option Addr) (cap g : Nat) (caps : Array Value) (eg : ∀ args w, (callFunc g args).run Tryd.prog w = .ok (.enter g args) w) (w : World) (hl : Ints w l a cap)
    (hp : ∀ (v : Int) (W : World), Below w.heap.size w W → Calls Tryd.prog g (#[.int .i64 v] ++ caps) W fun e w' => e = .returned (.bool (p v)) ∧ Below W.heap.size W w') :
    Calls Tryd.prog 60 #[.slice a l.length cap, .func (.func g) #[] caps] w fun e w' => e = .returned (.int .i64 (idxI l p)) ∧ Below w.heap.size w w' := by
  have hlen : l.length ≤ 9223372036854775807 := Nat.le_trans hl.len hl.cap
  have HL := hide hl
  have HP := hide hp
  clear hl hp
  go_enter Tryd.func60, Tryd.ntmps60
  go_wp2
  go_loopw [5, 8] (fun _ i wr => ∃ k : Nat, k ≤ l.length ∧ i = .int .i64 k ∧ Hid (∀ v ∈ l.take k, p v = false) ∧ Below w.heap.size w wr) (fun _ i _ => l.length - (intOf i).toNat)
  case atStart => exact ⟨0, Nat.zero_le _, rfl, by simp [Hid], bl _⟩
  case round =>
    obtain ⟨k, hk, rfl, hn, hb⟩ := hrel
    by_cases hlt : k < l.length
    · obtain ⟨b, o, rfl⟩ := HL.out.addr (by omega)
      have c0 := cell_keep (HL.out.at_ b o rfl k hlt) hb (Nat.le_refl _)
      have h1 := HP.out l[k] wr hb
      cases hq : p l[k]
      all_goals
        simp only [hq] at h1
        have HQ := hide hq
        clear hq
      · go_wp2_with (go_at_fn g; refine h1.mono ?_; rintro e w1 ⟨rfl, hb1⟩)
        go_roundw
        case rel =>
          refine ⟨k + 1, by omega, by go_num, ?_, hb.tr hb1⟩
          intro v hv
          rw [List.take_succ_eq_append_getElem hlt, List.mem_append, List.mem_singleton] at hv
          rcases hv with hv | rfl
          · exact hn v hv
          · exact HQ
        case measure => simp [intOf]; omega
      · go_wp2_with (go_at_fn g; refine h1.mono ?_; rintro e w1 ⟨rfl, hb1⟩)
        go_ret
        refine ⟨ret_int ?_, hb.tr hb1⟩
        have h2 : l.findIdx? p = some k := by
          rw [List.findIdx?_eq_some_iff_getElem]
          refine ⟨hlt, HQ.out, fun j hj => ?_⟩
          have := hn l[j] (List.mem_take_iff_getElem.2 ⟨j, by omega, rfl⟩)
          simp [this]
        simp [idxI, h2]
    · obtain rfl : k = l.length := by omega
      go_wp2
      go_ret
      refine ⟨ret_int ?_, hb⟩
      have h2 : l.findIdx? p = none := by
        rw [List.findIdx?_eq_none_iff]
        intro v hv
        exact hn v (by simpa using hv)
      simp [idxI, h2]
set_option maxHeartbeats 1000000 in
theorem containsFunc_ints (l : List Int) (p : Int → Bool) (a : Option Addr) (cap g : Nat) (caps : Array Value) (eg : ∀ args w, (callFunc g args).run Tryd.prog w = .ok (.enter g args) w) (w : World) (hl : Ints w l a cap)
    (hp : ∀ (v : Int) (W : World), Below w.heap.size w W → Calls Tryd.prog g (#[.int .i64 v] ++ caps) W fun e w' => e = .returned (.bool (p v)) ∧ Below W.heap.size W w') (r : Bool) (hr : l.any p = r) :
    Calls Tryd.prog 44 #[.slice a l.length cap, .func (.func g) #[] caps] w fun e w' => e = .returned (.bool r) ∧ Below w.heap.size w w' := by
  have h1 := indexFunc_ints l p a cap g caps eg w hl hp
  have H1 := hide ((idxI_nonneg l p).trans (by rw [hr]))
  clear hr hl hp eg
  generalize idxI l p = i at *
  go_enter Tryd.func44, Tryd.ntmps44
  go_wp2_with fail
  refine h1.mono ?_
  rintro e w1 ⟨rfl, hb⟩
  go_wp2_with fail
  go_ret
  refine ⟨ret_bool ?_, hb⟩
  have := H1.out
  rw [Bool.eq_iff_iff, ← this]
  simp
/-- A rule of types. -/
structure Rl where
  frm : Int
  til : Int
  operands : Int
  result : Int
def Rl.on (r : Rl) (op : Int) : Bool := decide (r.frm ≤ op) && decide (op ≤ r.til)
def Rl.cells (r : Rl) : List Value := [.int .i64 r.frm, .int .i64 r.til, .int .i64 r.operands, .int .i64 r.result]
structure Rls (w : World) (l : List Rl) (b o : Nat) : Prop where
  at_ : ∀ (i : Nat) (h : i < l.length), w.cell? ⟨b, o + i * 4, none⟩ = some (.int .i64 l[i].frm) ∧ w.cell? ⟨b, o + i * 4 + 1, none⟩ = some (.int .i64 l[i].til) ∧ w.cell? ⟨b, o + i * 4 + 2, none⟩ = some (.int .i64 l[i].operands) ∧ w.cell? ⟨b, o + i * 4 + 3, none⟩ = some (.int .i64 l[i].result)
def resultM (l : List Rl) (op : Int) (ts : List Int) : Int × Int :=
  ((l.find? fun r => r.on op && !ts.any (· != r.operands)).map fun r => (r.result, (0 : Int))).getD (if l.any (·.on op) then (0, 12) else (0, 2))
theorem any_take_succ {α : Type} (l : List α) (p : α → Bool) (k : Nat) (h : k < l.length) : (l.take (k + 1)).any p = ((l.take k).any p || p l[k]) := by
  rw [List.take_succ_eq_append_getElem h, List.any_append]; simp
theorem ret2 {a b c d : Int} (h1 : a = c) (h2 : b = d) : Ending.returned (.tuple #[.int .i64 a, .int .i64 b]) = .returned (.tuple #[.int .i64 c, .int .i64 d]) := by rw [h1, h2]
theorem result1_any (t x : Int) (b : Nat) (w : World) (h : w.cell? ⟨b, 2, none⟩ = some (.int .i64 x)) :
    Calls Tryd.prog 45 #[.int .i64 t, .pointer (some ⟨b, 0, none⟩)] w fun e w' => e = .returned (.bool (t != x)) ∧ Below w.heap.size w w' := by
  go_enter Tryd.func45, Tryd.ntmps45
  go_wp2
  go_ret
  exact ⟨rfl, bl w⟩
set_option maxHeartbeats 2000000 in
theorem result_any (l : List Rl) (op : Int) (ts : List Int) (b o cap : Nat) (ta : Option Addr) (tc : Nat) (w : World) (hlen : l.length ≤ 100) (hl : Rls w l b o) (ht : Ints w ts ta tc) :
    Calls Tryd.prog 27 #[.slice (some ⟨b, o, none⟩) l.length cap, .int .i64 op, .slice ta ts.length tc] w fun e w' => e = .returned (.tuple #[.int .i64 (resultM l op ts).1, .int .i64 (resultM l op ts).2]) ∧ Below w.heap.size w w' := by
  have HL := hide hl
  have HT := hide ht
  clear hl ht
  go_enter Tryd.func27, Tryd.ntmps27
  go_wp2
  go_loopw [8, 13] (fun kn i wr => ∃ k : Nat, k ≤ l.length ∧ i = .int .i64 k ∧ kn = .bool ((l.take k).any (·.on op)) ∧ Hid (∀ r ∈ l.take k, (r.on op && !ts.any (· != r.operands)) = false) ∧ Below w.heap.size w wr) (fun _ i _ => l.length - (intOf i).toNat)
  case atStart => exact ⟨0, Nat.zero_le _, rfl, by simp, by simp [Hid], bl _⟩
  case round =>
    obtain ⟨k, hk, rfl, rfl, hn, hb⟩ := hrel
    by_cases hlt : k < l.length
    · obtain ⟨c0, c1, c2, c3⟩ := HL.out.at_ k hlt
      have c0 := cell_keep c0 hb (Nat.le_refl _)
      have c1 := cell_keep c1 hb (Nat.le_refl _)
      have c2 := cell_keep c2 hb (Nat.le_refl _)
      have c3 := cell_keep c3 hb (Nat.le_refl _)
      have ht : l.take (k + 1) = l.take k ++ [l[k]] := List.take_succ_eq_append_getElem hlt
      have HTK := hide ht
      clear ht
      by_cases h1 : op < l[k].frm
      · have hon : l[k].on op = false := by simp [Rl.on]; omega
        have HON := hide hon
        clear hon
        go_wp2_with fail
        go_roundw
        case rel =>
          refine ⟨k + 1, by omega, by go_num, by rw [any_take_succ _ _ _ hlt, HON.out]; simp, ?_, hb.al _⟩
          intro r hr
          rw [HTK.out, List.mem_append, List.mem_singleton] at hr
          rcases hr with hr | rfl
          · exact hn r hr
          · simp [HON.out]
        case measure => simp [intOf]; omega
      · by_cases h2 : l[k].til < op
        · have hon : l[k].on op = false := by simp [Rl.on]; omega
          have HON := hide hon
          clear hon
          go_wp2_with fail
          go_roundw
          case rel =>
            refine ⟨k + 1, by omega, by go_num, by rw [any_take_succ _ _ _ hlt, HON.out]; simp, ?_, hb.al _⟩
            intro r hr
            rw [HTK.out, List.mem_append, List.mem_singleton] at hr
            rcases hr with hr | rfl
            · exact hn r hr
            · simp [HON.out]
          case measure => simp [intOf]; omega
        · have hon : l[k].on op = true := by simp [Rl.on]; omega
          have HON := hide hon
          clear hon
          have h1' : l[k].frm ≤ op := by omega
          have h2' : op ≤ l[k].til := by omega
          clear h1 h2
          cases hany : ts.any (· != l[k].operands)
          all_goals
            have hcf := fun (W : World) (hW : Below w.heap.size w W) (bx : Nat) (hx : W.cell? ⟨bx, 2, none⟩ = some (.int .i64 l[k].operands)) => containsFunc_ints ts (· != l[k].operands) ta tc 45 #[.pointer (some ⟨bx, 0, none⟩)] (fun _ _ => by kernel_rfl) W (HT.out.keep hW (Nat.le_refl _)) (fun v W' hb' => result1_any v _ bx W' (cell_keep hx hb' (Nat.le_refl _))) _ hany
            have HCF := hide hcf
            clear hcf
            have HANY := hide hany
            clear hany
            go_wp2_with fail
            refine (HCF.out _ (hb.al _) wr.heap.size ?_).mono ?_
            · go_simp
            rintro e w1 ⟨rfl, hb1⟩
            obtain ⟨hc, _⟩ := bcell hb1
            go_wp2_with fail
          · go_ret2
            have h3 : l.find? (fun r => r.on op && !ts.any (· != r.operands)) = some l[k] := by
              rw [List.find?_eq_some_iff_getElem]
              refine ⟨by rw [HON.out, HANY.out]; rfl, k, hlt, rfl, fun j hj => ?_⟩
              have := hn l[j] (List.mem_take_iff_getElem.2 ⟨j, by omega, rfl⟩)
              simp [this]
            refine ⟨by simp [resultM, h3], (hb.al _).tr hb1⟩
          · go_roundw
            case rel =>
              refine ⟨k + 1, by omega, by go_num, by rw [any_take_succ _ _ _ hlt, HON.out]; simp, ?_, (hb.al _).tr hb1⟩
              intro r hr
              rw [HTK.out, List.mem_append, List.mem_singleton] at hr
              rcases hr with hr | rfl
              · exact hn r hr
              · simp [HANY.out]
            case measure => simp [intOf]; omega
    · obtain rfl : k = l.length := by omega
      have h3 : l.find? (fun r => r.on op && !ts.any (· != r.operands)) = none := by
        rw [List.find?_eq_none]
        intro r hr
        have := hn r (by simpa using hr)
        simpa using this
      have H3 := hide h3
      clear h3
      rw [List.take_of_length_le (Nat.le_refl _)]
      cases hq : l.any (·.on op)
      all_goals
        have HQ := hide hq
        clear hq
        go_wp2_with fail
        go_ret2
        refine ⟨by simp [resultM, H3.out, HQ.out], hb⟩
end Go.Proofs.YtfpikakgaghdbaaDoor
