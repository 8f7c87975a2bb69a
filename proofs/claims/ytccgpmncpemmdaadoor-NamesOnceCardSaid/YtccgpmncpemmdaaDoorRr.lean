/- Regions that draw their order, in a round of a range over a function: loads first, then what is left; and loads among calls. -/
import Derived.Test.YtccgpmncpemmdaaDoorRg
import Derived.StillTailTactics
import Derived.OrdersIn
import Derived.TacticsIn
import Derived.Deep.RegionHeld3
namespace Go.Proofs.YtccgpmncpemmdaaDoor
open Go Go.RowKit
set_option linter.unusedSimpArgs false
set_option linter.unusedVariables false
set_option linter.unnecessarySimpa false
section
variable {P : Program} {ops : Array Oper} {md : Region.Mode} {Q' : Exit → Act → World → Prop} {l n : Nat}
/-- No operation of the region is a deferred call. -/
def noDefer (ops : Array Oper) : Bool := ops.toList.all fun o => match o.op with | .defer _ => false | _ => true
theorem noDefer_spec (h : noDefer ops = true) {i : Nat} {o : Oper} (hi : ops[i]? = some o) : ∀ c, o.op ≠ .defer c := by
  intro c hc
  have := List.all_eq_true.1 h o (List.mem_iff_getElem?.2 ⟨i, by simpa using hi⟩)
  rw [hc] at this
  cases this
theorem oper_in {o : Oper} {a : Act} {w : World} {K : Act → World → Prop} (hd : ∀ c, o.op ≠ .defer c) (h : o.wp P a w K Q') : o.wpIn (Fence.wide.inRound l) n P a w K Q' := by
  refine ⟨fun _ _ => trivial, ?_⟩
  rw [Oper.semAt_eq _ _ _ hd]
  unfold Oper.wp at h
  generalize (execOp a.eval o).run P w = r at *
  cases r with
  | ok x w' =>
    cases x <;> simp only [Oper.upon] at h <;> simp only [Oper.uponIn]
    case enter f args =>
      refine ⟨fun h => (by cases h), ((callsIn_wide (n := n - 1)).2 h).inRound l |>.mono fun e w'' he => ?_⟩
      cases e <;> exact he
    case row row args =>
      refine ⟨fun h => (by cases h), fun c cs _ => ?_⟩
      obtain ⟨v, w'', h1, h2⟩ := h c cs
      exact ⟨v, w'', h1, stepsIn_wide.2 h2⟩
    all_goals exact h
  | halt x w' => cases x <;> simp only [Oper.upon] at h <;> simp only [Oper.uponIn] <;> exact h
theorem op_in {i : Nat} {a : Act} {w : World} {K : Act → World → Prop} (hd : noDefer ops = true) (hL : ¬ LetsOut Q') (h : wpOp P ops Q' i K a w) : wpOpIn (Fence.wide.inRound l) n P ops Q' i K a w := by
  unfold wpOp at h
  unfold wpOpIn
  cases ho : ops[i]? with
  | none => simp only [ho] at h ⊢; exact h
  | some o =>
    simp only [ho] at h ⊢
    split
    · rename_i hw
      simp only [hw, if_true] at h
      rcases h with h | h
      · exact oper_in (noDefer_spec hd ho) h
      · exact absurd h.2 hL
    · rename_i hw
      simp only [hw] at h
      exact ⟨fun _ _ => trivial, h⟩
theorem any_in (hd : noDefer ops = true) (hL : ¬ LetsOut Q') : ∀ (f : Nat) (listed : Array Bool) (a : Act) (w : World), wpAny P md ops Q' f listed a w → wpAnyIn (Fence.wide.inRound l) n P md ops Q' f listed a w
  | 0, _, _, _, h => h
  | f + 1, listed, a, w, h => ⟨h.1, fun i hi => wpOpIn_mono (fun a w h => any_in hd hL f _ a w h) (op_in hd hL (h.2 i hi))⟩
/-- A region in a round, by the words of the library for regions with loads among calls. -/
theorem held_in {id : Nat} {a : Act} {w : World} {S : World → Prop} (hm : P.follows .mixedOrders = true) (hd : noDefer ops = true) (hL : ¬ LetsOut Q') (hS : S w.drew)
    (h : S w.drew → wpAnyH P .any ops Q' S ops.size (Array.replicate ops.size false) a w.drew) : (Code.region id ops true).wpIn (Fence.wide.inRound l) n P Q' a w :=
  wpIn_region_any hm (any_in hd hL _ _ _ _ (wpAny_of_held _ _ _ _ (h hS)))
theorem stOp_in {w : World} {i : Nat} {a : Act} {K : Act → Prop} {K' : Act → World → Prop} (hd : noDefer ops = true) (h : ∀ a, K a → K' a w) (hh : stOp P ops w i K a) : wpOpIn (Fence.wide.inRound l) n P ops Q' i K' a w := by
  unfold stOp at hh
  unfold wpOpIn
  split
  · rename_i ho; simp only [ho] at hh; exact h _ hh
  · rename_i o ho
    simp only [ho] at hh
    split
    · rename_i hw; simp only [hw, if_true] at hh; exact oper_in (noDefer_spec hd ho) (Oper.wp_of_still h hh)
    · rename_i hw; simp only [hw] at hh; exact ⟨fun _ _ => trivial, h _ hh⟩
theorem head_in {w : World} {k g : Nat} {L : Array Bool → Act → Prop} (hd : noDefer ops = true) (hL : ∀ listed a, L listed a → wpAnyIn (Fence.wide.inRound l) n P md ops Q' g listed a w) :
    ∀ (f : Nat) (listed : Array Bool) (a : Act), wpAnyL P md ops w k L f listed a → wpAnyIn (Fence.wide.inRound l) n P md ops Q' (f + g) listed a w
  | 0, listed, a, h => by rw [Nat.zero_add]; exact hL _ _ h
  | f + 1, listed, a, h => by
    rw [show f + 1 + g = (f + g) + 1 by omega]
    exact ⟨fun h0 => absurd h0 h.1, fun i hi => stOp_in hd (fun a' h' => head_in hd hL f _ a' h') (h.2 i hi).2⟩
theorem seq_in : ∀ (m : List Oper) (k : Nat) (listed : Array Bool) (a : Act) (w : World), (∀ j, m[j]? = ops[k + j]?) →
    Region.seqB md ops m.length k listed = true → wpListIn (Fence.wide.inRound l) n P ops Q' m a w → wpAnyIn (Fence.wide.inRound l) n P md ops Q' m.length listed a w
  | [], _, _, _, _, _, hB, h => ⟨by simpa [Region.seqB] using hB, h⟩
  | o :: m, k, listed, a, w, hl, hB, h => by
    have h0 : ops[k]? = some o := by simpa using (hl 0).symm
    simp only [List.length_cons, Region.seqB, Bool.and_eq_true, decide_eq_true_eq] at hB
    refine ⟨fun h1 => (by rw [hB.1] at h1; cases h1), fun i hi => ?_⟩
    rw [hB.1] at hi
    have hik : i = k := by simpa using hi
    subst hik
    have hw : wpOpIn (Fence.wide.inRound l) n P ops Q' i (wpListIn (Fence.wide.inRound l) n P ops Q' m) a w := by unfold wpOpIn; simp only [h0]; exact h
    exact wpOpIn_mono (fun a' w' h' => seq_in m (i + 1) _ a' w' (fun j => by have := hl (j + 1); simpa [Nat.add_assoc, Nat.add_comm 1 j] using this) hB.2 h') hw
/-- Reads before one call, in a round. -/
theorem tail_in {id : Nat} {a : Act} {w : World} {m : List Oper} (k : Nat) (hm : P.follows .mixedOrders = true) (hd : noDefer m.toArray = true) (hB : Region.lexTailB .any m.toArray k = true)
    (h : wpStill P m.toArray { w with drawn := w.drawn + 1 } (fun a' => wpListIn (Fence.wide.inRound l) n P m.toArray Q' (m.drop k) a' { w with drawn := w.drawn + 1 }) (m.take k) a) : (Code.region id m.toArray true).wpIn (Fence.wide.inRound l) n P Q' a w := by
  simp only [Region.lexTailB, Bool.and_eq_true, decide_eq_true_eq] at hB
  obtain ⟨⟨⟨⟨hsel, hn⟩, hs⟩, hc⟩, hlex⟩ := hB
  have hn' : k < m.length := by simpa using hn
  have htl : (m.take k).length = k := by simp; omega
  have hdl : (m.drop k).length = m.toArray.size - k := by simp
  have inv0 : HeadInv .any m.toArray k (Array.replicate m.toArray.size false) :=
    ⟨by simp, fun j oj _ hl => (by rw [getD_replicate_false] at hl; cases hl), fun t _ ht => getD_in (by simpa using ht) (getD_replicate_false _ _)⟩
  have H := wpAnyL_lex (md := .any) (g := m.toArray.size - k) hsel hs hc hn (m.take k) 0 _ a (fun j hj => by
    have hj' : j < k := by rw [htl] at hj; exact hj
    simp [hj']) (by simpa using htl) inv0 (by rw [htl]; exact hlex) h
  refine wpIn_region_any hm ?_
  have := head_in (Q' := Q') (l := l) (n := n) (g := m.toArray.size - k) hd (fun listed a' hL => by
    have := seq_in (md := .any) (Q' := Q') (l := l) (n := n) (m.drop k) k listed a' { w with drawn := w.drawn + 1 } (fun j => by simp [List.getElem?_drop]) (by rw [hdl]; exact hL.1) hL.2
    rwa [hdl] at this) _ _ _ H
  rw [htl, show k + (m.toArray.size - k) = m.toArray.size by omega] at this
  exact this
end
theorem no_out {α : Type} {K : Act → World → Prop} {I : List α → List Nat → World → Prop} {Ix : Code → List α → List Nat → World → Prop} {xs : List α} {L : List Nat} {W : World} {i : Nat} : ¬ LetsOut (Exit.then K (Exit.inBlock i (rndBody I Ix xs L W))) := by
  rintro ⟨a, w, h⟩
  exact h
end Go.Proofs.YtccgpmncpemmdaaDoor
