/- names.Find and names.Seen answer findM and seenM for every list of variables in memory. -/
import Derived.Test.YtccgpmncpemmdaaDoorShC
import Derived.Lib.Walk
import Derived.Laws.EntriesVeiled
namespace Go.Proofs.YtccgpmncpemmdaaDoor
open Go Go.RowKit
set_option linter.unusedSimpArgs false
set_option linter.unusedVariables false
set_option linter.unnecessarySimpa false
/-- A variable. -/
structure Vr where
  name : Bytes
  typ : Int
  no : Int
  frm : Int
  til : Int
def Vr.wf (v : Vr) : Prop := v.name.length ≤ maxLen ∧ I64 v.typ ∧ I64 v.no ∧ I64 v.frm ∧ I64 v.til
def Vr.val (v : Vr) : Value := .agg #[.string ⟨v.name.toArray⟩, .int .i64 v.typ, .int .i64 v.no, .int .i64 v.frm, .int .i64 v.til]
def Vr.At (w : World) (v : Vr) (b o : Nat) : Prop :=
  w.cell? ⟨b, o, none⟩ = some (.string ⟨v.name.toArray⟩) ∧ w.cell? ⟨b, o + 1, none⟩ = some (.int .i64 v.typ) ∧ w.cell? ⟨b, o + 2, none⟩ = some (.int .i64 v.no) ∧ w.cell? ⟨b, o + 3, none⟩ = some (.int .i64 v.frm) ∧ w.cell? ⟨b, o + 4, none⟩ = some (.int .i64 v.til)
/-- The slice a, l, cap holds these variables. -/
structure Vrs (w : World) (l : List Vr) (a : Option Addr) (cap : Nat) : Prop where
  len : l.length ≤ cap
  cap : cap ≤ maxLen
  wf : ∀ v ∈ l, v.wf
  addr : 0 < l.length → ∃ b o, a = some ⟨b, o, none⟩
  at_ : ∀ (b o : Nat), a = some ⟨b, o, none⟩ → ∀ (i : Nat) (h : i < l.length), l[i].At w b (o + i * 5)
theorem Vr.At.keep {w w' : World} {B : Nat} {v : Vr} {b o : Nat} (h : v.At w b o) (hb : Below B w w') (hB : w.heap.size ≤ B) : v.At w' b o :=
  ⟨cell_keep h.1 hb hB, cell_keep h.2.1 hb hB, cell_keep h.2.2.1 hb hB, cell_keep h.2.2.2.1 hb hB, cell_keep h.2.2.2.2 hb hB⟩
theorem Vrs.keep {w w' : World} {B : Nat} {l : List Vr} {a : Option Addr} {cap : Nat} (h : Vrs w l a cap) (hb : Below B w w') (hB : w.heap.size ≤ B) : Vrs w' l a cap :=
  ⟨h.len, h.cap, h.wf, h.addr, fun b o e i hi => (h.at_ b o e i hi).keep hb hB⟩
def Vr.sees (v : Vr) (p : Int) : Bool := decide (v.frm ≤ p) && decide (p < v.til)
set_option maxHeartbeats 400000 in
theorem sees_any (v : Vr) (p : Int) (w : World) : Calls Tryd.prog 29 #[v.val, .int .i64 p] w fun e w' => e = .returned (.bool (v.sees p)) ∧ Below w.heap.size w w' := by
  unfold Vr.val
  by_cases h1 : v.frm ≤ p
  · rcases Int.lt_or_le p v.til with h2 | h2
    all_goals
      go_enter Tryd.func29, Tryd.ntmps29
      go_wp2
      go_ret
      refine ⟨ret_bool ?_, (bl w).al _⟩
      first
        | (simp [Vr.sees, h1, h2]; done)
        | (simp [Vr.sees]; intros; omega)
  · have h3 : p < v.frm := by omega
    clear h1
    go_enter Tryd.func29, Tryd.ntmps29
    go_wp2
    go_ret
    refine ⟨ret_bool ?_, (bl w).al _⟩
    have h4 : ¬ v.frm ≤ p := by omega
    simp [Vr.sees, h4]
set_option maxHeartbeats 400000 in
theorem seen1_any (v : Vr) (name : Bytes) (p : Int) (bn bp : Nat) (w : World) (hn : w.cell? ⟨bn, 0, none⟩ = some (.string ⟨name.toArray⟩)) (hp : w.cell? ⟨bp, 0, none⟩ = some (.int .i64 p)) :
    Calls Tryd.prog 28 #[v.val, .pointer (some ⟨bn, 0, none⟩), .pointer (some ⟨bp, 0, none⟩)] w fun e w' => e = .returned (.bool (v.name == name && v.sees p)) ∧ Below w.heap.size w w' := by
  have hbn : bn < w.heap.size := cell_lt hn
  have hbp : bp < w.heap.size := cell_lt hp
  have hs := fun W => sees_any v p W
  unfold Vr.val at hs ⊢
  cases hq : v.name == name
  all_goals
    go_enter Tryd.func28, Tryd.ntmps28
    go_wp2_with (go_at_call 29; refine (hs _).mono ?_; rintro e w1 ⟨rfl, hb⟩)
    go_ret
  · exact ⟨rfl, (bl w).al _⟩
  · exact ⟨rfl, ((bl w).al _).tr hb⟩
set_option maxHeartbeats 400000 in
theorem find1_any (v : Vr) (name : Bytes) (bn : Nat) (w : World) (hn : w.cell? ⟨bn, 0, none⟩ = some (.string ⟨name.toArray⟩)) :
    Calls Tryd.prog 27 #[v.val, .pointer (some ⟨bn, 0, none⟩)] w fun e w' => e = .returned (.bool (v.name == name)) ∧ Below w.heap.size w w' := by
  have hbn : bn < w.heap.size := cell_lt hn
  unfold Vr.val
  go_enter Tryd.func27, Tryd.ntmps27
  go_wp2
  go_ret
  exact ⟨ret_bool (by simp), (bl w).al _⟩
/-- The place of the first variable for which p holds; -1. -/
def idxM (l : List Vr) (p : Vr → Bool) : Int := match l.findIdx? p with | some i => (i : Nat) | none => -1
set_option maxHeartbeats 1000000 in
theorem indexFunc_vars (l : List Vr) (p : Vr → Bool) (a : Option Addr) (cap g : Nat) (caps : Array Value) (eg : ∀ args w, (callFunc g args).run Tryd.prog w = .ok (.enter g args) w) (w : World) (hl : Vrs w l a cap)
    (hp : ∀ (v : Vr) (W : World), Below w.heap.size w W → Calls Tryd.prog g (#[v.val] ++ caps) W fun e w' => e = .returned (.bool (p v)) ∧ Below W.heap.size W w') :
    Calls Tryd.prog 39 #[.slice a l.length cap, .func (.func g) #[] caps] w fun e w' => e = .returned (.int .i64 (idxM l p)) ∧ Below w.heap.size w w' := by
  have hlen : l.length ≤ 9223372036854775807 := Nat.le_trans hl.len hl.cap
  have HL := hide hl
  have HP := hide hp
  clear hl hp
  go_enter Tryd.func39, Tryd.ntmps39
  go_wp2
  go_loopw [5, 8] (fun _ i wr => ∃ k : Nat, k ≤ l.length ∧ i = .int .i64 k ∧ Hid (∀ v ∈ l.take k, p v = false) ∧ Below w.heap.size w wr) (fun _ i _ => l.length - (intOf i).toNat)
  case atStart => exact ⟨0, Nat.zero_le _, rfl, by simp [Hid], bl _⟩
  case round =>
    obtain ⟨k, hk, rfl, hn, hb⟩ := hrel
    by_cases hlt : k < l.length
    · obtain ⟨b, o, rfl⟩ := HL.out.addr (by omega)
      obtain ⟨c0, c1, c2, c3, c4⟩ := (HL.out.at_ b o rfl k hlt).keep hb (Nat.le_refl _)
      have h1 := HP.out l[k] wr hb
      unfold Vr.val at h1
      cases hq : p l[k]
      all_goals
        simp only [hq] at h1
        have HQ := hide hq
        clear hq
      · go_wp2_with (go_at_fn g; refine h1.mono ?_; rintro e w1 ⟨rfl, hb1⟩)
        go_roundw
        case rel =>
          refine ⟨k + 1, by omega, by go_num, ?_, hb.tr hb1⟩
          intro v hv
          rw [List.take_succ_eq_append_getElem hlt, List.mem_append, List.mem_singleton] at hv
          rcases hv with hv | rfl
          · exact hn v hv
          · exact HQ
        case measure => simp [intOf]; omega
      · go_wp2_with (go_at_fn g; refine h1.mono ?_; rintro e w1 ⟨rfl, hb1⟩)
        go_ret
        refine ⟨ret_int ?_, hb.tr hb1⟩
        have h2 : l.findIdx? p = some k := by
          rw [List.findIdx?_eq_some_iff_getElem]
          refine ⟨hlt, HQ.out, fun j hj => ?_⟩
          have := hn l[j] (List.mem_take_iff_getElem.2 ⟨j, by omega, rfl⟩)
          simp [this]
        simp [idxM, h2]
    · obtain rfl : k = l.length := by omega
      go_wp2
      go_ret
      refine ⟨ret_int ?_, hb⟩
      have h2 : l.findIdx? p = none := by
        rw [List.findIdx?_eq_none_iff]
        intro v hv
        exact hn v (by simpa using hv)
      simp [idxM, h2]
def firstM (l : List Vr) (p : Vr → Bool) : Nat × Bool := match l.findIdx? p with | some i => (i, true) | none => (0, false)
set_option maxHeartbeats 1000000 in
theorem first_vars (l : List Vr) (p : Vr → Bool) (a : Option Addr) (cap g : Nat) (caps : Array Value) (eg : ∀ args w, (callFunc g args).run Tryd.prog w = .ok (.enter g args) w) (w : World) (hl : Vrs w l a cap)
    (hp : ∀ (v : Vr) (W : World), Below w.heap.size w W → Calls Tryd.prog g (#[v.val] ++ caps) W fun e w' => e = .returned (.bool (p v)) ∧ Below W.heap.size W w') :
    Calls Tryd.prog 26 #[.slice a l.length cap, .func (.func g) #[] caps] w fun e w' => e = .returned (.tuple #[.int .i64 (firstM l p).1, .bool (firstM l p).2]) ∧ Below w.heap.size w w' := by
  have h1 := indexFunc_vars l p a cap g caps eg w hl hp
  have HL := hide hl
  clear hl hp
  unfold idxM at h1
  unfold firstM
  cases hq : l.findIdx? p with
  | none =>
    simp only [hq] at h1
    clear hq
    go_enter Tryd.func26, Tryd.ntmps26
    go_wp2_with fail
    refine h1.mono ?_
    rintro e w1 ⟨rfl, hb⟩
    go_wp2_with fail
    go_ret2
    exact ⟨rfl, hb⟩
  | some i =>
    simp only [hq] at h1
    clear hq
    go_enter Tryd.func26, Tryd.ntmps26
    go_wp2_with fail
    refine h1.mono ?_
    rintro e w1 ⟨rfl, hb⟩
    go_wp2_with fail
    go_ret2
    exact ⟨by simp, hb⟩
def findM (l : List Vr) (name : Bytes) : Nat × Bool := firstM l fun v => v.name == name
def seenM (l : List Vr) (name : Bytes) (p : Int) : Nat × Bool := firstM l fun v => v.name == name && v.sees p
set_option maxHeartbeats 1000000 in
theorem find_any (l : List Vr) (a : Option Addr) (cap : Nat) (name : Bytes) (w : World) (hl : Vrs w l a cap) :
    Calls Tryd.prog 11 #[.slice a l.length cap, .string ⟨name.toArray⟩] w fun e w' => e = .returned (.tuple #[.int .i64 (findM l name).1, .bool (findM l name).2]) ∧ Below w.heap.size w w' := by
  have h1 := fun (W : World) (hb : Below w.heap.size w W) (bn : Nat) (hn : W.cell? ⟨bn, 0, none⟩ = some (.string ⟨name.toArray⟩)) => first_vars l (fun v => v.name == name) a cap 27 #[.pointer (some ⟨bn, 0, none⟩)] (fun _ _ => by kernel_rfl) W (hl.keep hb (Nat.le_refl _))
    (fun v W' hb' => find1_any v name bn W' (cell_keep hn hb' (Nat.le_refl _)))
  have H1 := hide h1
  clear h1 hl
  unfold findM
  generalize firstM l (fun v => v.name == name) = r at *
  go_enter Tryd.func11, Tryd.ntmps11
  go_wp2_with fail
  refine (H1.out _ ((bl w).al _) w.heap.size ?_).mono ?_
  · go_simp
  rintro e w1 ⟨rfl, hb⟩
  go_wp2_with fail
  go_ret2
  exact ⟨rfl, ((bl w).al _).tr hb⟩
set_option maxHeartbeats 1000000 in
theorem seen_any (l : List Vr) (a : Option Addr) (cap : Nat) (name : Bytes) (p : Int) (w : World) (hl : Vrs w l a cap) :
    Calls Tryd.prog 13 #[.slice a l.length cap, .string ⟨name.toArray⟩, .int .i64 p] w fun e w' => e = .returned (.tuple #[.int .i64 (seenM l name p).1, .bool (seenM l name p).2]) ∧ Below w.heap.size w w' := by
  have h1 := fun (W : World) (hb : Below w.heap.size w W) (bn bp : Nat) (hn : W.cell? ⟨bn, 0, none⟩ = some (.string ⟨name.toArray⟩)) (hp : W.cell? ⟨bp, 0, none⟩ = some (.int .i64 p)) => first_vars l (fun v => v.name == name && v.sees p) a cap 28 #[.pointer (some ⟨bn, 0, none⟩), .pointer (some ⟨bp, 0, none⟩)] (fun _ _ => by kernel_rfl) W (hl.keep hb (Nat.le_refl _))
    (fun v W' hb' => seen1_any v name p bn bp W' (cell_keep hn hb' (Nat.le_refl _)) (cell_keep hp hb' (Nat.le_refl _)))
  have H1 := hide h1
  clear h1 hl
  unfold seenM
  generalize firstM l (fun v => v.name == name && v.sees p) = r at *
  go_enter Tryd.func13, Tryd.ntmps13
  go_wp2_with fail
  refine (H1.out _ (((bl w).al _).al _) w.heap.size (w.heap.size + 1) ?_ ?_).mono ?_
  · go_simp
  · go_simp
  rintro e w1 ⟨rfl, hb⟩
  go_wp2_with fail
  go_ret2
  exact ⟨rfl, (((bl w).al _).al _).tr hb⟩
end Go.Proofs.YtccgpmncpemmdaaDoor
