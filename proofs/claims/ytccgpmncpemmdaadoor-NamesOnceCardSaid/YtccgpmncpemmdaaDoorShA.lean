/- shape.Name answers nameOk for every string, where the table of blanks is laid. -/
import Derived.WalkKit
import Derived.Deep.DeepFit
import Derived.Lib.SmallJoins
import Derived.Lib.IndexAny
import Derived.Test.YtccgpmncpemmdaaDoorShelf
namespace Go.Proofs.YtccgpmncpemmdaaDoor
open Go Go.RowKit
set_option linter.unusedSimpArgs false
set_option linter.unusedVariables false
set_option linter.unnecessarySimpa false
theorem hide {p : Prop} (h : p) : Hid p := h
abbrev Bytes := List UInt8
theorem ret_int {k : IntKind} {a b : Int} (h : a = b) : Ending.returned (.int k a) = .returned (.int k b) := by rw [h]
theorem ret_bool {a b : Bool} (h : a = b) : Ending.returned (.bool a) = .returned (.bool b) := by rw [h]
theorem bcell {W w1 : World} (hb : Below W.heap.size W w1) : (∀ b o, b < W.heap.size → w1.cell? ⟨b, o, none⟩ = W.cell? ⟨b, o, none⟩) ∧ (∀ b o, b < W.heap.size → w1.frozen? ⟨b, o, none⟩ = W.frozen? ⟨b, o, none⟩) :=
  ⟨fun b o h => hb.cell (p := ⟨b, o, none⟩) h, fun b o h => hb.frozen (p := ⟨b, o, none⟩) h⟩
theorem bl (w : World) : Below w.heap.size w w := Below.refl _ _
theorem _root_.Go.RowKit.Below.al {a w : World} (h : Below a.heap.size a w) (o : Obj) : Below a.heap.size a (w.alloc o) := h.alloc h.size o
theorem _root_.Go.RowKit.Below.tr {a w w1 : World} (h : Below a.heap.size a w) (k : Below w.heap.size w w1) : Below a.heap.size a w1 := h.trans (k.mono h.size)
theorem _root_.Go.RowKit.Below.dr {a w : World} (h : Below a.heap.size a w) : Below a.heap.size a w.drew := Below.drew h
theorem sget {zs : List Bytes} {k : Nat} (h : k < zs.length) : zs[k]! = zs[k] := by simp [h]
set_option maxHeartbeats 400000 in
theorem index_str (b off c : Nat) (zs : List Bytes) (x : Bytes) (w : World) (hl : zs.length ≤ maxLen) (hc : ∀ (j : Nat) (h : j < zs.length), w.cell? ⟨b, off + j, none⟩ = some (.string ⟨zs[j].toArray⟩)) :
    Calls Tryd.prog 74 #[.slice (some ⟨b, off, none⟩) zs.length c, .string ⟨x.toArray⟩] w fun e w' => Hid (∃ i : Int, e = .returned (.int .i64 i) ∧ (0 ≤ i ↔ x ∈ zs)) ∧ w = w' := by
  unfold maxLen at hl
  have HC := hide hc
  clear hc
  go_enter Tryd.func74, Tryd.ntmps74
  go_wp2
  go_loop [5, 8] (fun _ i => ∃ k : Nat, k ≤ zs.length ∧ i = .int .i64 k ∧ Hid (∀ (j : Nat) (h : j < zs.length), j < k → zs[j] ≠ x)) (fun _ i => zs.length - (intOf i).toNat)
  case atStart => exact ⟨0, Nat.zero_le _, rfl, fun j _ hj => absurd hj (Nat.not_lt_zero _)⟩
  case round =>
    obtain ⟨k, hk, rfl, hn⟩ := hrel
    by_cases hlt : k < zs.length
    · have h1 := HC.out k hlt
      by_cases hx : zs[k] = x
      · rw [hx] at h1
        have HX : Hid (x ∈ zs) := hide (by rw [← hx]; simp)
        clear hx
        go_wp2
        go_ret
        exact ⟨⟨_, rfl, by simpa using HX.out⟩, rfl⟩
      · have hb : (x == zs[k]) = false := by simpa using fun e => hx e.symm
        go_wp2
        go_round
        case rel =>
          refine ⟨k + 1, by omega, by go_num, fun j h hj => ?_⟩
          by_cases e : j = k
          · subst e; exact hx
          · exact hn j h (by omega)
        case measure => simp [intOf]; omega
    · have HX : Hid (x ∉ zs) := hide (by
        intro h
        rw [List.mem_iff_getElem] at h
        obtain ⟨j, hj, e⟩ := h
        exact hn j hj (by omega) e)
      go_wp2
      go_ret
      exact ⟨⟨_, rfl, by simpa using HX.out⟩, rfl⟩
set_option maxHeartbeats 400000 in
theorem contains_str (b off c : Nat) (zs : List Bytes) (x : Bytes) (w : World) (hl : zs.length ≤ maxLen) (hc : ∀ (j : Nat) (h : j < zs.length), w.cell? ⟨b, off + j, none⟩ = some (.string ⟨zs[j].toArray⟩)) :
    Calls Tryd.prog 61 #[.slice (some ⟨b, off, none⟩) zs.length c, .string ⟨x.toArray⟩] w fun e w' => e = .returned (.bool (decide (x ∈ zs))) ∧ w = w' := by
  have HC := hide hc
  clear hc
  go_enter Tryd.func61, Tryd.ntmps61
  go_wp2_with (go_at_call 74; refine (index_str _ _ _ zs x _ hl HC.out).mono ?_; rintro e w' ⟨⟨i, rfl, hi⟩, rfl⟩; have HI := hide hi; clear hi)
  go_ret
  refine ⟨ret_bool ?_, rfl⟩
  simpa using HI.out

def letters : Bytes := [65, 66, 67, 68, 69, 70, 71, 72, 73, 74, 75, 76, 77, 78, 79, 80, 81, 82, 83, 84, 85, 86, 87, 88, 89, 90, 97, 98, 99, 100, 101, 102, 103, 104, 105, 106, 107, 108, 109, 110, 111, 112, 113, 114, 115, 116, 117, 118, 119, 120, 121, 122]
def later : Bytes := [65, 66, 67, 68, 69, 70, 71, 72, 73, 74, 75, 76, 77, 78, 79, 80, 81, 82, 83, 84, 85, 86, 87, 88, 89, 90, 97, 98, 99, 100, 101, 102, 103, 104, 105, 106, 107, 108, 109, 110, 111, 112, 113, 114, 115, 116, 117, 118, 119, 120, 121, 122, 48, 49, 50, 51, 52, 53, 54, 55, 56, 57, 95]
def kwText : Bytes := [102, 117, 110, 99, 32, 118, 97, 114, 32, 105, 102, 32, 101, 108, 115, 101, 32, 119, 104, 105, 108, 101, 32, 114, 101, 116, 117, 114, 110, 32, 112, 114, 105, 110, 116, 32, 114, 101, 97, 100, 32, 110, 101, 119, 32, 108, 101, 110, 32, 105, 110, 116, 32, 98, 111, 111, 108, 32, 97, 114, 114, 97, 121, 32, 116, 114, 117, 101, 32, 102, 97, 108, 115, 101]
def kwords : List Bytes := [[102, 117, 110, 99], [118, 97, 114], [105, 102], [101, 108, 115, 101], [119, 104, 105, 108, 101], [114, 101, 116, 117, 114, 110], [112, 114, 105, 110, 116], [114, 101, 97, 100], [110, 101, 119], [108, 101, 110], [105, 110, 116], [98, 111, 111, 108], [97, 114, 114, 97, 121], [116, 114, 117, 101], [102, 97, 108, 115, 101]]
theorem kw_fields : Lib.fields kwText = kwords := by decide +kernel
def Tab (w : World) : Prop := Lib.TabIs Tryd.prog w "strings.asciiSpace" .u8 Lib.asciiSpaceTab
theorem tab_g : Tryd.prog.globalNamed "strings.asciiSpace" = some 0 := by kernel_rfl
theorem Tab.below {w w' : World} (h : Tab w) (hb : Below w.heap.size w w') : Tab w' := Joins.tab_stays tab_g h hb (Nat.le_refl _)
theorem cell_of_list (w : World) (l : List Value) (t : TypeId) (j : Nat) (v : Value) (h : l[j]? = some v) : (w.alloc (.cells l.toArray t)).cell? ⟨w.heap.size, j, none⟩ = some v := by
  rw [World.cell?_alloc_new]; simpa using h
set_option maxHeartbeats 400000 in
theorem keywords_any (w : World) (hT : Tab w) : Calls Tryd.prog 62 #[] w fun e w' => e = .returned (.slice (some ⟨w.heap.size, 0, none⟩) 15 15) ∧ w' = w.alloc (.cells (kwords.map fun l => Value.string ⟨l.toArray⟩).toArray 9) := by
  have h1 := Any.strings_Fields Tryd.lays157 (by kernel_rfl) tab_g ⟨kwText.toArray⟩ w (by decide) (ascii_of_all (by decide)) hT
  have h2 : Calls Tryd.prog 75 #[.string ⟨kwText.toArray⟩] w fun e w' => e = .returned (.slice (some ⟨w.heap.size, 0, none⟩) 15 15) ∧ w' = w.alloc (.cells (kwords.map fun l => Value.string ⟨l.toArray⟩).toArray 9) := by
    refine h1.mono fun e w' h => ?_
    have e1 : Lib.fields (ByteArray.mk kwText.toArray).data.toList = kwords := kw_fields
    rw [e1] at h
    exact h
  clear h1
  go_enter Tryd.func62, Tryd.ntmps62
  go_wp2_with (go_at_call 75; refine h2.mono ?_; rintro e w' ⟨rfl, rfl⟩)
  go_ret
  exact ⟨rfl, rfl⟩

/-- What a name is. -/
def nameOk (s : Bytes) : Bool := !s.isEmpty && decide (s.length ≤ 16) && letters.contains (s.headD 0) && s.all later.contains && !kwords.contains s
theorem indexByte_mem (l : Bytes) (c : UInt8) : 0 ≤ Lib.indexByte l c ↔ c ∈ l := by
  have h := Lib.contains_iff_indexByte l c
  by_cases hc : c ∈ l
  · rw [List.contains_iff_mem.2 hc] at h
    simpa [hc] using h.symm
  · have h2 : l.contains c = false := by simpa using hc
    rw [h2] at h
    simpa [hc] using h.symm
theorem dropWhile_nil_iff (p : UInt8 → Bool) (l : Bytes) : l.dropWhile p = [] ↔ ∀ x ∈ l, p x = true := by
  induction l with
  | nil => simp
  | cons a l ih =>
    by_cases h : p a = true
    · simp [h, ih]
    · simp [h]
theorem trim_nil (s : Bytes) : Lib.trimS s later = [] ↔ s.all later.contains = true := by
  simp only [Lib.trimS, Lib.trimLeftS, Lib.trimRightS, dropWhile_nil_iff, List.all_eq_true]
  constructor
  · intro h x hx
    by_cases hn : later.contains x = true
    · exact hn
    · have hr : s.reverse.dropWhile (later.contains ·) ≠ [] := by
        intro e
        rw [dropWhile_nil_iff] at e
        exact hn (e x (by simpa using hx))
      obtain ⟨a, l, e⟩ := List.exists_cons_of_ne_nil hr
      have h3 := h a (by rw [e]; simp)
      have h4 := List.head_dropWhile_not (p := (later.contains ·)) (l := s.reverse) hr
      simp only [e, List.head_cons] at h4
      rw [h3] at h4
      cases h4
  · intro h x hx
    refine h x ?_
    have := List.mem_reverse.1 hx
    have h2 := (List.dropWhile_sublist _).subset this
    simpa using h2
set_option maxHeartbeats 400000 in
theorem name_any (s : Bytes) (w : World) (hT : Tab w) (hs : s.length ≤ maxLen) : Calls Tryd.prog 50 #[.string ⟨s.toArray⟩] w fun e w' => e = .returned (.bool (nameOk s)) ∧ Below w.heap.size w w' := by
  unfold maxLen at hs
  have HT := hide hT
  clear hT
  match s with
  | [] =>
    go_enter Tryd.func50, Tryd.ntmps50
    go_wp2
    go_ret
    exact ⟨rfl, Below.refl _ _⟩
  | c :: t =>
    have hlen : (c :: t).length = t.length + 1 := rfl
    rw [hlen] at hs
    clear hlen
    by_cases hl : (t.length : Int) + 1 ≤ 16
    · have hi0 : Calls Tryd.prog 59 #[.string ⟨letters.toArray⟩, .int .u8 c.toNat] w fun e w' => e = .returned (.int .i64 (Lib.indexByte letters c)) ∧ w = w' :=
        (Any.strings_IndexByte Tryd.lays137 ⟨letters.toArray⟩ c.toNat w).mono fun e w' h => ⟨by rw [h.1]; simp, h.2.symm⟩
      by_cases h1 : c ∈ letters
      · have g1 : 0 ≤ Lib.indexByte letters c := (indexByte_mem _ _).2 h1
        have ht0 := Any.strings_Trim_laid Tryd.lays160 (by kernel_rfl) ⟨(c :: t).toArray⟩ ⟨later.toArray⟩ w (by simpa [ByteArray.size] using hs) (by decide) (ascii_of_all (by decide))
        have ht : Calls Tryd.prog 60 #[.string ⟨(c :: t).toArray⟩, .string ⟨later.toArray⟩] w fun e w' => e = .returned (.string ⟨(Lib.trimS (c :: t) later).toArray⟩) ∧ Below w.heap.size w w' := ht0
        clear ht0
        generalize hq : Lib.indexByte letters c = q at *
        clear hq
        by_cases h2 : (c :: t).all later.contains = true
        · rw [(trim_nil _).2 h2] at ht
          go_enter Tryd.func50, Tryd.ntmps50
          go_wp2_with fail
          refine hi0.mono ?_
          rintro e w' ⟨rfl, rfl⟩
          go_wp2_with fail
          refine ht.mono ?_
          rintro e w1 ⟨rfl, hb⟩
          go_wp2_with fail
          refine (keywords_any _ (HT.out.below hb)).mono ?_
          rintro e w2 ⟨rfl, rfl⟩
          go_wp2_with fail
          refine (contains_str _ 0 15 kwords (c :: t) _ (by decide) (fun j h => ?_)).mono ?_
          · refine cell_of_list _ _ _ _ _ ?_
            simp [h]
          rintro e w' ⟨rfl, rfl⟩
          go_wp2_with fail
          go_ret
          refine ⟨ret_bool ?_, hb.alloc hb.size _⟩
          have h1' : letters.contains c = true := by simpa using h1
          have hl' : t.length + 1 ≤ 16 := by omega
          simp [nameOk, h1, h2, hl']
        · have g2 : Lib.trimS (c :: t) later ≠ [] := fun e => h2 ((trim_nil _).1 e)
          obtain ⟨a, l, e⟩ := List.exists_cons_of_ne_nil g2
          rw [e] at ht
          clear g2 e
          go_enter Tryd.func50, Tryd.ntmps50
          go_wp2_with fail
          refine hi0.mono ?_
          rintro e w' ⟨rfl, rfl⟩
          go_wp2_with fail
          refine ht.mono ?_
          rintro e w1 ⟨rfl, hb⟩
          go_wp2_with fail
          go_ret
          refine ⟨ret_bool ?_, hb⟩
          simp [nameOk, h1, h2]
      · have g1 : ¬ 0 ≤ Lib.indexByte letters c := fun h => h1 ((indexByte_mem _ _).1 h)
        generalize hq : Lib.indexByte letters c = q at *
        clear hq
        go_enter Tryd.func50, Tryd.ntmps50
        go_wp2_with fail
        refine hi0.mono ?_
        rintro e w' ⟨rfl, rfl⟩
        go_wp2_with fail
        go_ret
        refine ⟨ret_bool ?_, Below.refl _ _⟩
        simp [nameOk, h1]
    · go_enter Tryd.func50, Tryd.ntmps50
      go_wp2
      go_ret
      refine ⟨ret_bool ?_, Below.refl _ _⟩
      simp [nameOk]; omega

end Go.Proofs.YtccgpmncpemmdaaDoor
