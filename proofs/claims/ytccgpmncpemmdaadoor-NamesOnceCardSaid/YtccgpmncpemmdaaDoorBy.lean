/- Slices of bytes in memory. -/
import Derived.Test.YtccgpmncpemmdaaDoorOwn
import Derived.Laws.BytesArg
namespace Go.Proofs.YtccgpmncpemmdaaDoor
open Go Go.RowKit
set_option linter.unusedSimpArgs false
set_option linter.unusedVariables false
set_option linter.unnecessarySimpa false
/-- The slice a, l, cap holds these bytes. -/
structure Bys (w : World) (l : List Nat) (a : Option Addr) (cap : Nat) : Prop where
  len : l.length ≤ cap
  cap : cap ≤ maxLen
  addr : 0 < l.length → ∃ b o, a = some ⟨b, o, none⟩
  at_ : ∀ (b o : Nat), a = some ⟨b, o, none⟩ → ∀ (i : Nat) (h : i < l.length), l[i] ≤ 255 ∧ w.cell? ⟨b, o + i, none⟩ = some (.int .u8 (l[i] : Nat))
theorem Bys.has {w w' : World} {l : List Nat} {a : Option Addr} {cap : Nat} (h : Bys w l a cap) (hh : Has w w') : Bys w' l a cap :=
  ⟨h.len, h.cap, h.addr, fun b o e i hi => ⟨(h.at_ b o e i hi).1, hh _ _ _ (h.at_ b o e i hi).2⟩⟩
/-- 'string([]byte{x})', in whatever world. -/
theorem conv1g (V : World) (g : Nat) (x : Int) (n : Nat) (c : UInt8) (hc : c = UInt8.ofNat n) (hx : x = (n : Int)) (hcell : V.cell? ⟨g, 0, none⟩ = some (.int .u8 x)) :
    (convert 36 9 (.slice (some ⟨g, 0, none⟩) 1 1)).run Tryd.prog V = .ok (.string ⟨#[c]⟩) V := by
  subst hx
  subst hc
  exact run_convert_bytes_arg _ 36 5 Tryd.underlying36 Tryd.underlying5 g 0 1 1 [(n : Int)] rfl (fun i hi => by
    obtain rfl : i = 0 := by omega
    simpa using hcell) 9 Tryd.underlying9
/-- 'string([]byte{x})'. -/
theorem conv1 (W : World) (g : Nat) (x : Int) (n : Nat) (c : UInt8) (hc : c = UInt8.ofNat n) (hx : x = (n : Int)) (hg : g = W.heap.size) :
    (convert 36 9 (.slice (some ⟨g, 0, none⟩) 1 1)).run Tryd.prog (W.alloc (.cells #[.int .u8 x] 5)) = .ok (.string ⟨#[c]⟩) (W.alloc (.cells #[.int .u8 x] 5)) := by
  subst hg
  subst hx
  subst hc
  exact run_convert_bytes_arg _ 36 5 Tryd.underlying36 Tryd.underlying5 W.heap.size 0 1 1 [(n : Int)] rfl (fun i hi => by
    obtain rfl : i = 0 := by omega
    have := cell_of_list W [.int .u8 (n : Int)] 5 0 _ rfl
    simpa using this) 9 Tryd.underlying9
end Go.Proofs.YtccgpmncpemmdaaDoor
