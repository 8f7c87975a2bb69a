/- Small things for walks that compare. -/
import Derived.Test.YtnkmbddjekepkaaGreatDoorShp
import Derived.BigQuiet
import Derived.Deep.QuietTactic
namespace Go.Proofs.YtnkmbddjekepkaaGreatDoor
open Go Go.RowKit
set_option linter.unusedSimpArgs false
set_option linter.unusedVariables false
set_option linter.unnecessarySimpa false
theorem has_drewN {w : World} (n : Nat) : Has w (w.drewN n) := fun _ _ _ h => h
abbrev QtPost (w : World) (b : Bool) (r : Ending) (w' : World) : Prop := r = .returned (.bool b) ∧ ∃ n, w' = w.drewN n
theorem bne_no {α : Type} [BEq α] {a b : α} (h : (a == b) = false) : (a != b) = true := by simp [bne, h]
theorem bne_yes {α : Type} [BEq α] {a b : α} (h : (a == b) = true) : (a != b) = false := by simp [bne, h]
theorem exs_sz {l : List Ex} {k : Nat} (h : k < l.length) : SizeOf.sizeOf l[k].args < SizeOf.sizeOf l := by
  have h1 := List.sizeOf_lt_of_mem (List.getElem_mem h)
  have h2 : SizeOf.sizeOf l[k].args < SizeOf.sizeOf l[k] := by
    generalize l[k] = e
    cases e
    simp only [Ex.args, Ex.mk.sizeOf_spec]
    omega
  omega
theorem sts_sz {l : List St} {k : Nat} (h : k < l.length) : SizeOf.sizeOf l[k].body < SizeOf.sizeOf l ∧ SizeOf.sizeOf l[k].els < SizeOf.sizeOf l := by
  have h1 := List.sizeOf_lt_of_mem (List.getElem_mem h)
  have h2 : SizeOf.sizeOf l[k].body < SizeOf.sizeOf l[k] ∧ SizeOf.sizeOf l[k].els < SizeOf.sizeOf l[k] := by
    generalize l[k] = e
    cases e
    simp only [St.body, St.els, St.mk.sizeOf_spec]
    omega
  omega
end Go.Proofs.YtnkmbddjekepkaaGreatDoor
