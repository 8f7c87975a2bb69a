/- A map with strings for keys, whatever its elements: what it holds, as a list of names and values. -/
import Derived.Maps.OwnSet
import Derived.Maps.OwnOps
import Derived.Test.YtccgpmncpemmdaaDoorShA
namespace Go.Proofs.YtccgpmncpemmdaaDoor
open Go Go.RowKit Go.Maps
set_option linter.unusedSimpArgs false
set_option linter.unusedVariables false
set_option linter.unnecessarySimpa false
/-- Each value reads as itself. -/
def asIs (v : Value) : Option (DataW Value × List MemPlace) := some (.held v, [])
theorem asIs_inv {v u : Value} {ps : List MemPlace} (h : asIs v = some (.held u, ps)) : v = u := by
  simp only [asIs, Option.some.injEq, Prod.mk.injEq, DataW.held.injEq] at h; exact h.1
def mapD (L : List (Bytes × Value)) : DataW Value := L.foldl (fun D p => D.put (.string p.1) (.held p.2)) (.map [])
theorem mapD_snoc (L : List (Bytes × Value)) (n : Bytes) (v : Value) : mapD (L ++ [(n, v)]) = (mapD L).put (.string n) (.held v) := by simp [mapD]
/-- What the map holds at a name: the last one laid there. -/
def mapAt (L : List (Bytes × Value)) (n : Bytes) : Option Value := (L.reverse.find? (fun p => decide (p.1 = n))).map (·.2)
theorem mapAt_snoc (L : List (Bytes × Value)) (m n : Bytes) (v : Value) : mapAt (L ++ [(m, v)]) n = if m = n then some v else mapAt L n := by
  unfold mapAt
  simp only [List.reverse_append, List.reverse_cons, List.reverse_nil, List.nil_append, List.singleton_append, List.find?_cons]
  by_cases h : m = n <;> simp [h]
theorem mapAt_nil (n : Bytes) : mapAt [] n = none := rfl
theorem isMap_mapD (L : List (Bytes × Value)) : IsMap (mapD L) := by
  unfold mapD
  have : ∀ (L : List (Bytes × Value)) (D : DataW Value), IsMap D → IsMap (L.foldl (fun D p => D.put (.string p.1) (.held p.2)) D) := by
    intro L
    induction L with
    | nil => intro D h; exact h
    | cons p L ih => intro D h; exact ih _ (h.put _ _)
  exact this L _ isMap_empty
theorem snocInd {α : Type} {P : List α → Prop} (h0 : P []) (h1 : ∀ l a, P l → P (l ++ [a])) (l : List α) : P l := by
  have : ∀ l : List α, P l.reverse := by
    intro l
    induction l with
    | nil => exact h0
    | cons a l ih => rw [List.reverse_cons]; exact h1 _ _ ih
  have h := this l.reverse
  rwa [List.reverse_reverse] at h
theorem mapD_has (L : List (Bytes × Value)) (n : Bytes) : Maps.has (mapD L) (.string n) = (mapAt L n).isSome := by
  refine snocInd (P := fun L => Maps.has (mapD L) (.string n) = (mapAt L n).isSome) rfl (fun L p ih => ?_) L
  obtain ⟨m, v⟩ := p
  rw [mapD_snoc, mapAt_snoc]
  by_cases h : m = n
  · subst h; rw [has_put_same (isMap_mapD L) (k := .string m) (by trivial)]; simp
  · rw [has_put_other (by simpa using fun e => h e.symm), ih, if_neg h]
theorem mapD_at (L : List (Bytes × Value)) (n : Bytes) (z : Value) : (mapD L).atKey (.string n) (.held z) = .held ((mapAt L n).getD z) := by
  refine snocInd (P := fun L => (mapD L).atKey (.string n) (.held z) = .held ((mapAt L n).getD z)) rfl (fun L p ih => ?_) L
  obtain ⟨m, v⟩ := p
  rw [mapD_snoc, mapAt_snoc]
  by_cases h : m = n
  · subst h; rw [atKey_put_same (isMap_mapD L) (k := .string m) (by trivial)]; simp
  · rw [atKey_put_other (by simpa using fun e => h e.symm), ih, if_neg h]
/-- The block b is a map of keys of the type K that holds these. -/
def NMap (w : World) (K : TypeId) (b : Nat) (L : List (Bytes × Value)) : Prop := w.ownsMap Tryd.prog K asIs b L.length (mapD L)
theorem NMap.lt {w : World} {K : TypeId} {b : Nat} {L : List (Bytes × Value)} (h : NMap w K b L) : b < w.heap.size := World.ownsMap.lt h
theorem NMap.made (w : World) (K : TypeId) : NMap (w.alloc (.map #[] 0)) K w.heap.size [] := World.ownsMap_made w _ _ _
theorem NMap.keep {w w' : World} {K : TypeId} {b B : Nat} {L : List (Bytes × Value)} (h : NMap w K b L) (hb : Below B w w') (hB : b < B) : NMap w' K b L := by
  obtain ⟨es, clock, h1, r⟩ := h
  exact ⟨es, clock, (hb.block b hB).trans h1, r⟩
section
variable (w : World) {ops : Array Oper} {rest : List Oper} {o : Oper} {a : Act} {Q : Exit → Act → World → Prop} {t K e : TypeId} {b : Nat}
theorem wpList_nmap_ok (hg : o.guard = none) (m x : Operand) (hop : o.op = Op.lookup t m x true) (hK : Tryd.prog.underlying K = some .string) (ht : Tryd.prog.underlying t = some (.map K e))
    {z : Value} (hz : (zeroValue e).run Tryd.prog w = .ok z w) (L : List (Bytes × Value)) (hm : a.eval m = .map (some b)) (hown : NMap w K b L) (n : Bytes) (hx : a.eval x = .string ⟨n.toArray⟩) (hn : n.length ≤ maxLen)
    (hW : wpList Tryd.prog ops Q rest (a.put o.dst (.tuple #[(mapAt L n).getD z, .bool (mapAt L n).isSome])) w) : wpList Tryd.prog ops Q (o :: rest) a w := by
  refine wpList_lookup_own_ok w hg m x t hop K e (string_keyed hK) ht asIs hz (.held z) [] rfl b L.length (mapD L) hm hown _ (.string n) hx (by simpa using WideMaps.keyOf_string_mk hK (s := ⟨n.toArray⟩) (by simpa [ByteArray.size] using hn)) ?_
  intro v ps hv
  rw [mapD_at] at hv
  obtain rfl := asIs_inv hv
  rw [mapD_has]
  exact hW
theorem wpList_nmap_set (hg : o.guard = none) (m x v : Operand) (hop : o.op = Op.mapUpdate t m x v) (hK : Tryd.prog.underlying K = some .string) (ht : Tryd.prog.underlying t = some (.map K e))
    (L : List (Bytes × Value)) (hm : a.eval m = .map (some b)) (hown : NMap w K b L) (hl : L.length < maxLen) (n : Bytes) (val : Value) (hx : a.eval x = .string ⟨n.toArray⟩) (hv : a.eval v = val) (hn : n.length ≤ maxLen)
    (hW : ∀ w', NMap w' K b (L ++ [(n, val)]) → w.grownBy w' (some b) → wpList Tryd.prog ops Q rest (a.put o.dst undef) w') : wpList Tryd.prog ops Q (o :: rest) a w := by
  refine wpList_mapUpdate_own w hg m x v t hop K e (string_keyed hK) ht asIs b L.length (mapD L) hm hown hl _ _ (.string n) hx hv (by simpa using WideMaps.keyOf_string_mk hK (s := ⟨n.toArray⟩) (by simpa [ByteArray.size] using hn)) (.held val) [] rfl ?_
  intro w' h1 h2
  refine hW w' ?_ h2
  unfold NMap
  rw [mapD_snoc]
  simpa using h1
end
end Go.Proofs.YtccgpmncpemmdaaDoor
