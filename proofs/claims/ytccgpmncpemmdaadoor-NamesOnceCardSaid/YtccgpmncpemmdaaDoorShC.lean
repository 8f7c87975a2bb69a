/- Expressions in memory as trees, and the recursive part of shape.Depth answers depthM, where the table of blanks is laid. -/
import Derived.Test.YtccgpmncpemmdaaDoorShB
namespace Go.Proofs.YtccgpmncpemmdaaDoor
open Go Go.RowKit
set_option linter.unusedSimpArgs false
set_option linter.unusedVariables false
set_option linter.unnecessarySimpa false
def I64 (n : Int) : Prop := -9223372036854775808 ≤ n ∧ n ≤ 9223372036854775807
/-- An expression as a tree. -/
inductive Ex where
  | mk (kind op num : Int) (name : Bytes) (args : List Ex)
namespace Ex
def kind : Ex → Int | .mk k _ _ _ _ => k
def op : Ex → Int | .mk _ o _ _ _ => o
def num : Ex → Int | .mk _ _ n _ _ => n
def name : Ex → Bytes | .mk _ _ _ s _ => s
def args : Ex → List Ex | .mk _ _ _ _ l => l
end Ex
/-- What lies in an expression's own cells is within the bounds. -/
structure ExWf (k o n : Int) (s : Bytes) (len cap : Nat) : Prop where
  k : I64 k
  o : I64 o
  n : I64 n
  s : s.length ≤ maxLen
  len : len ≤ cap
  cap : cap ≤ maxLen
mutual
/-- The expression e lies in the five cells from o of block b on. -/
def Ex.At (w : World) : Ex → Nat → Nat → Prop
  | .mk k p n s es, b, o => ∃ (a : Option Addr) (cap : Nat), w.cell? ⟨b, o, none⟩ = some (.int .i64 k) ∧ w.cell? ⟨b, o + 1, none⟩ = some (.int .i64 p) ∧ w.cell? ⟨b, o + 2, none⟩ = some (.int .i64 n) ∧
      w.cell? ⟨b, o + 3, none⟩ = some (.string ⟨s.toArray⟩) ∧ w.cell? ⟨b, o + 4, none⟩ = some (.slice a es.length cap) ∧ ExWf k p n s es.length cap ∧ Ex.Row w es a
/-- A row of expressions from an address on. -/
def Ex.Row (w : World) : List Ex → Option Addr → Prop
  | [], _ => True
  | e :: es, a => ∃ b o, a = some ⟨b, o, none⟩ ∧ Ex.At w e b o ∧ Ex.Row w es (some ⟨b, o + 5, none⟩)
end
/-- The value v is the expression e. -/
def Ex.Val (w : World) (e : Ex) (v : Value) : Prop :=
  ∃ (a : Option Addr) (cap : Nat), v = .agg #[.int .i64 e.kind, .int .i64 e.op, .int .i64 e.num, .string ⟨e.name.toArray⟩, .slice a e.args.length cap] ∧ ExWf e.kind e.op e.num e.name e.args.length cap ∧ Ex.Row w e.args a
theorem Ex.Val.mk {w : World} {e : Ex} {a : Option Addr} {cap : Nat} (hw : ExWf e.kind e.op e.num e.name e.args.length cap) (hr : Ex.Row w e.args a) :
    Ex.Val w e (.agg #[.int .i64 e.kind, .int .i64 e.op, .int .i64 e.num, .string ⟨e.name.toArray⟩, .slice a e.args.length cap]) := ⟨a, cap, rfl, hw, hr⟩
theorem cell_lt {w : World} {p : Addr} {v : Value} (h : w.cell? p = some v) : p.block < w.heap.size := by
  rcases Nat.lt_or_ge p.block w.heap.size with h' | h'
  · exact h'
  · unfold World.cell? at h
    rw [Array.getElem?_eq_none h'] at h
    cases h
theorem cell_keep {w w' : World} {B : Nat} {p : Addr} {v : Value} (h : w.cell? p = some v) (hb : Below B w w') (hB : w.heap.size ≤ B) : w'.cell? p = some v := by
  rw [hb.cell (Nat.lt_of_lt_of_le (cell_lt h) hB)]
  exact h
mutual
theorem Ex.At.keep {w w' : World} {B : Nat} (hb : Below B w w') (hB : w.heap.size ≤ B) : ∀ {e : Ex} {b o : Nat}, Ex.At w e b o → Ex.At w' e b o
  | .mk k p n s es, b, o, h => by
    simp only [Ex.At] at h ⊢
    obtain ⟨a, cap, h0, h1, h2, h3, h4, hw, hr⟩ := h
    exact ⟨a, cap, cell_keep h0 hb hB, cell_keep h1 hb hB, cell_keep h2 hb hB, cell_keep h3 hb hB, cell_keep h4 hb hB, hw, Ex.Row.keep hb hB hr⟩
theorem Ex.Row.keep {w w' : World} {B : Nat} (hb : Below B w w') (hB : w.heap.size ≤ B) : ∀ {l : List Ex} {a : Option Addr}, Ex.Row w l a → Ex.Row w' l a
  | [], _, _ => by simp only [Ex.Row]
  | e :: es, a, h => by
    simp only [Ex.Row] at h ⊢
    obtain ⟨b, o, ha, he, hr⟩ := h
    exact ⟨b, o, ha, Ex.At.keep hb hB he, Ex.Row.keep hb hB hr⟩
end
theorem Ex.Val.keep {w w' : World} {B : Nat} {e : Ex} {v : Value} (h : Ex.Val w e v) (hb : Below B w w') (hB : w.heap.size ≤ B) : Ex.Val w' e v := by
  obtain ⟨a, cap, hv, hw, hr⟩ := h
  exact ⟨a, cap, hv, hw, hr.keep hb hB⟩
/-- What an expression's five cells hold, as a value. -/
theorem Ex.At.val {w : World} {e : Ex} {b o : Nat} (h : Ex.At w e b o) : ∃ (a : Option Addr) (cap : Nat), w.cell? ⟨b, o, none⟩ = some (.int .i64 e.kind) ∧ w.cell? ⟨b, o + 1, none⟩ = some (.int .i64 e.op) ∧ w.cell? ⟨b, o + 2, none⟩ = some (.int .i64 e.num) ∧
      w.cell? ⟨b, o + 3, none⟩ = some (.string ⟨e.name.toArray⟩) ∧ w.cell? ⟨b, o + 4, none⟩ = some (.slice a e.args.length cap) ∧ ExWf e.kind e.op e.num e.name e.args.length cap ∧ Ex.Row w e.args a := by
  cases e
  simp only [Ex.At] at h
  exact h
theorem Ex.Row.get {w : World} : ∀ {l : List Ex} {b o : Nat}, Ex.Row w l (some ⟨b, o, none⟩) → ∀ (i : Nat) (h : i < l.length), Ex.At w l[i] b (o + i * 5)
  | [], _, _, _, _, h => absurd h (Nat.not_lt_zero _)
  | e :: es, b, o, hr, i, h => by
    simp only [Ex.Row] at hr
    obtain ⟨b', o', ha, he, hr⟩ := hr
    simp only [Option.some.injEq, Addr.mk.injEq, and_true] at ha
    obtain ⟨rfl, rfl⟩ := ha
    cases i with
    | zero => simpa using he
    | succ i =>
      have := Ex.Row.get hr i (by simpa using h)
      have e : o + 5 + i * 5 = o + (i + 1) * 5 := by omega
      rw [e] at this
      simpa using this
/-- A row that is not empty begins somewhere. -/
theorem Ex.Row.addr {w : World} {l : List Ex} {a : Option Addr} (h : Ex.Row w l a) (hl : 0 < l.length) : ∃ b o, a = some ⟨b, o, none⟩ := by
  cases l with
  | nil => cases hl
  | cons e es =>
    simp only [Ex.Row] at h
    obtain ⟨b, o, ha, _⟩ := h
    exact ⟨b, o, ha⟩
def Ex.fits (e : Ex) : Bool := fitsM e.kind e.op e.num e.name e.args.length
theorem take_map_succ {α β : Type} (f : α → β) (l : List α) (k : Nat) (h : k < l.length) : (l.map f).take (k + 1) = (l.map f).take k ++ [f l[k]] := by
  rw [List.take_succ_eq_append_getElem (by simpa using h)]
  simp
/-- How deep an expression is, at most m. -/
def depthM : Nat → Ex → Nat
  | 0, _ => 0
  | m + 1, e => if e.fits && !(e.args.map (depthM m)).contains 0 then (e.args.map (depthM m)).foldl max 0 + 1 else 0
theorem foldmax_le (l : List Nat) (a m : Nat) (ha : a ≤ m) (h : ∀ x ∈ l, x ≤ m) : l.foldl max a ≤ m := by
  induction l generalizing a with
  | nil => exact ha
  | cons x l ih =>
    have := h x (by simp)
    exact ih (max a x) (by omega) fun y hy => h y (by simp [hy])
theorem depthM_le : ∀ (m : Nat) (e : Ex), depthM m e ≤ m
  | 0, _ => Nat.le_refl _
  | m + 1, e => by
    rw [depthM]
    split
    · have := foldmax_le (e.args.map (depthM m)) 0 m (Nat.zero_le _) (fun x hx => by
        obtain ⟨y, _, rfl⟩ := List.mem_map.1 hx
        exact depthM_le m y)
      omega
    · omega
theorem depthM_zero {m : Nat} {e : Ex} (_ : e.fits = true) (h : 0 ∈ e.args.map (depthM m)) : depthM (m + 1) e = 0 := by
  rw [depthM, List.contains_iff_mem.2 h]; simp
theorem depthM_succ {m : Nat} {e : Ex} (hf : e.fits = true) (h : 0 ∉ e.args.map (depthM m)) : depthM (m + 1) e = (e.args.map (depthM m)).foldl max 0 + 1 := by
  have h2 : (e.args.map (depthM m)).contains 0 = false := by rw [← Bool.not_eq_true, List.contains_iff_mem]; exact h
  rw [depthM, h2, hf]; simp
theorem depthM_kids {m : Nat} {e : Ex} (h : depthM (m + 1) e ≠ 0) : e.fits = true ∧ ∀ x ∈ e.args, depthM m x ≠ 0 := by
  rw [depthM] at h
  split at h
  · rename_i h1
    simp only [Bool.and_eq_true, Bool.not_eq_true', ← Bool.not_eq_true, List.contains_iff_mem] at h1
    exact ⟨h1.1, fun x hx e0 => h1.2 (List.mem_map.2 ⟨x, hx, e0⟩)⟩
  · exact absurd rfl h
/-- What the shape of an expression says, kind by kind. -/
theorem fitsM_cases {k o n : Int} {s : Bytes} {len : Nat} (h : fitsM k o n s len = true) :
    ((k = 1 ∨ k = 2) ∧ s = [] ∧ len = 0) ∨ (k = 3 ∧ s ≠ [] ∧ len = 0) ∨ (k = 4 ∧ s = [] ∧ len = 1) ∨ (k = 5 ∧ s = [] ∧ len = 2) ∨ (k = 6 ∧ s ≠ [] ∧ len = 1) ∨ (k = 7 ∧ s ≠ [] ∧ len = 0) := by
  unfold fitsM partOf at h
  by_cases h1 : k = 1
  · subst h1; simp at h; exact .inl ⟨.inl rfl, h.1.1.1.1, h.2⟩
  by_cases h2 : k = 2
  · subst h2; simp at h; exact .inl ⟨.inr rfl, h.1.1.1.1.1, h.2⟩
  by_cases h3 : k = 3
  · subst h3; simp at h; exact .inr (.inl ⟨rfl, h.1.1.1.1.1.1, h.2⟩)
  by_cases h4 : k = 4
  · subst h4; simp at h; exact .inr (.inr (.inl ⟨rfl, h.1.1.1.1.1, h.2⟩))
  by_cases h5 : k = 5
  · subst h5; simp at h; exact .inr (.inr (.inr (.inl ⟨rfl, h.1.1.1.1.1, h.2⟩)))
  by_cases h6 : k = 6
  · subst h6; simp at h; exact .inr (.inr (.inr (.inr (.inl ⟨rfl, h.1.1.1.1.1.1, h.2⟩))))
  by_cases h7 : k = 7
  · subst h7; simp at h; exact .inr (.inr (.inr (.inr (.inr ⟨rfl, h.1.1.1.1.1.1, h.2⟩))))
  simp [h1, h2, h3, h4, h5, h6, h7] at h
theorem fits_args {e : Ex} (h : e.fits = true) : e.args.length ≤ 2 := by
  rcases fitsM_cases h with h | h | h | h | h | h <;> omega
set_option maxHeartbeats 1000000 in
theorem depth1_any (lb : Nat) : ∀ (m : Nat) (e : Ex) (v : Value) (w : World), m ≤ 20 → Ex.Val w e v → Tab w → w.cell? ⟨lb, 0, none⟩ = some (.func (.func 89) #[] #[.pointer (some ⟨lb, 0, none⟩)]) →
    Calls Tryd.prog 89 #[v, .int .i64 m, .pointer (some ⟨lb, 0, none⟩)] w fun r w' => r = .returned (.int .i64 (depthM m e)) ∧ Below w.heap.size w w' := by
  intro m
  induction m with
  | zero =>
    intro e v w _ hv hT hlk
    obtain ⟨a, cap, rfl, hw, hr⟩ := hv
    go_enter Tryd.func89, Tryd.ntmps89
    go_wp2
    go_ret
    exact ⟨ret_int rfl, (bl w).al _⟩
  | succ m ih =>
    intro e v w hm hv hT hlk
    obtain ⟨a, cap, rfl, hw, hr⟩ := hv
    have hf := fun W (h : Tab W) => fits_any e.kind e.op e.num e.name a e.args.length cap W h hw.s (Nat.le_trans hw.len hw.cap)
    have hlen : e.args.length ≤ 9223372036854775807 := Nat.le_trans hw.len hw.cap
    have IH := hide ih
    have HT := hide hT
    have HR := hide hr
    have HW := hide hw
    clear ih hT hr hw
    cases hq : fitsM e.kind e.op e.num e.name e.args.length
    · simp only [hq] at hf
      have HQ := hide hq
      clear hq
      go_enter Tryd.func89, Tryd.ntmps89
      go_wp2_with (go_at_call 90; refine (hf _ (HT.out.below ((bl w).al _))).mono ?_; rintro r w1 ⟨rfl, hb⟩)
      go_ret
      refine ⟨ret_int ?_, ((bl w).al _).tr hb⟩
      simp [depthM, Ex.fits, HQ.out]
    · simp only [hq] at hf
      have HQ := hide hq
      clear hq
      go_enter Tryd.func89, Tryd.ntmps89
      go_wp2_with (go_at_call 90; refine (hf _ (HT.out.below ((bl w).al _))).mono ?_; rintro r w1 ⟨rfl, hb⟩; obtain ⟨hc, _⟩ := bcell hb)
      have hb1 : Below w.heap.size w w1 := ((bl w).al _).tr hb
      have HC1 := hide (cell_keep hlk hb1 (Nat.le_refl _))
      clear hc hb hf hlk
      go_loopw [6, 20] (fun d i wr => ∃ k : Nat, k ≤ e.args.length ∧ i = .int .i64 k ∧ d = .int .i64 (((e.args.map (depthM m)).take k).foldl max 0 : Nat) ∧ Hid (0 ∉ (e.args.map (depthM m)).take k) ∧ Below w1.heap.size w1 wr) (fun _ i _ => e.args.length - (intOf i).toNat)
      case atStart => exact ⟨0, Nat.zero_le _, rfl, rfl, by simp [Hid], bl _⟩
      case round =>
        obtain ⟨k, hk, rfl, rfl, hn, hbr⟩ := hrel
        have hbw := (hb1.tr hbr)
        have HLK := cell_keep HC1.out hbr (Nat.le_refl _)
        have hlb : lb < wr.heap.size := cell_lt HLK
        by_cases hlt : k < e.args.length
        · obtain ⟨b, o, rfl⟩ := HR.out.addr (by omega)
          obtain ⟨a', cap', c0, c1, c2, c3, c4, hw', hr'⟩ := ((HR.out.get k hlt).keep hbw (Nat.le_refl _)).val
          have HE := hide (Ex.Val.mk hw' hr')
          clear hw' hr'
          cases hz : depthM m e.args[k] == 0
          all_goals
            have HZ := hide hz
            clear hz
          · have hd0 : (((depthM m e.args[k] : Nat) : Int) == 0) = false := by simpa using HZ.out
            go_wp2_with fail
            refine (IH.out e.args[k] _ _ (by omega) (HE.out.keep ((bl wr).al _) (Nat.le_refl _)) (HT.out.below (hbw.al _)) (cell_keep HLK ((bl wr).al _) (Nat.le_refl _))).mono ?_
            rintro r w2 ⟨rfl, hb2⟩
            go_wp2_with fail
            go_roundw
            case rel =>
              refine ⟨k + 1, by omega, by go_num, ?_, ?_, (hbr.al _).tr hb2⟩
              · rw [take_map_succ _ _ _ hlt, List.foldl_append]
                exact congrArg (Value.int .i64) (show max (_ : Int) _ = ((max _ _ : Nat) : Int) by omega)
              · show _ ∉ _
                rw [take_map_succ _ _ _ hlt, List.mem_append, List.mem_singleton]
                rintro (h | h)
                · exact hn h
                · have h2 := HZ.out
                  rw [← h] at h2
                  cases h2
            case measure => simp [intOf]; omega
          · go_wp2_with fail
            refine (IH.out e.args[k] _ _ (by omega) (HE.out.keep ((bl wr).al _) (Nat.le_refl _)) (HT.out.below (hbw.al _)) (cell_keep HLK ((bl wr).al _) (Nat.le_refl _))).mono ?_
            rintro r w2 ⟨rfl, hb2⟩
            have hd0 : depthM m e.args[k] = 0 := by simpa using HZ.out
            rw [hd0]
            clear hd0
            go_wp2_with fail
            go_ret
            refine ⟨ret_int ?_, (hbw.al _).tr hb2⟩
            rw [depthM_zero HQ.out (List.mem_map.2 ⟨e.args[k], List.getElem_mem hlt, by simpa using HZ.out⟩)]
            rfl
        · obtain rfl : k = e.args.length := by omega
          have hbd : (((e.args.map (depthM m)).take e.args.length).foldl max 0 : Nat) ≤ 20 := by
            have := foldmax_le ((e.args.map (depthM m)).take e.args.length) 0 m (Nat.zero_le _) (fun x hx => by
              obtain ⟨y, _, rfl⟩ := List.mem_map.1 (List.mem_of_mem_take hx)
              exact depthM_le m y)
            omega
          go_wp2_with fail
          go_ret
          refine ⟨ret_int ?_, hbw⟩
          have h1 := hn.out
          have e0 : (e.args.map (depthM m)).take e.args.length = e.args.map (depthM m) := by rw [List.take_of_length_le (by simp)]
          rw [e0] at h1 ⊢
          rw [depthM_succ HQ.out h1]
          rfl
end Go.Proofs.YtccgpmncpemmdaaDoor
