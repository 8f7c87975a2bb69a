/- rewindref11.Of answers OfM for every expression and every list of variables in memory. -/
import Derived.Test.YtfpikakgaghdbaaDoorRefE
import Derived.Test.YtfpikakgaghdbaaDoorRefD
import Derived.Test.YtfpikakgaghdbaaDoorTyF
namespace Go.Proofs.YtfpikakgaghdbaaDoor
open Go Go.RowKit
set_option maxHeartbeats 1000000 in
theorem refOf11_any (l : List Vr) (a : Option Addr) (cap : Nat) (p : Int) (e : Ex) (v : Value) (w : World) (hl : Vrs w l a cap) (hv : Ex.Val w e v) :
    Calls Tryd.prog 21 #[.slice a l.length cap, .int .i64 p, v] w fun r w' => r = .returned (.tuple #[.int .i64 (OfM l p e).1, .int .i64 (OfM l p e).2]) ∧ Below w.heap.size w w' := by
  have h1 := fun (W : World) (hb : Below w.heap.size w W) => refExpr_any e v W (hv.keep hb (Nat.le_refl _))
  have h2 := fun (hd : depthM 20 e ≠ 0) (W : World) (hb : Below w.heap.size w W) => refOf_any l p a cap 20 e v W hd (hv.keep hb (Nat.le_refl _)) (hl.keep hb (Nat.le_refl _))
  obtain ⟨a', cap', rfl, hw, hr⟩ := hv
  clear hw hr hl
  unfold OfM
  have H1 := hide h1
  clear h1
  by_cases hz : depthM 20 e = 0
  · rw [if_pos hz] at H1 ⊢
    clear h2 hz
    go_enter Tryd.func21, Tryd.ntmps21
    go_wp2_with fail
    refine (H1.out _ ((bl w).al _)).mono ?_
    rintro r w1 ⟨rfl, hb⟩
    go_wp2_with fail
    go_ret2
    exact ⟨rfl, ((bl w).al _).tr hb⟩
  · rw [if_neg hz] at H1 ⊢
    have H2 := hide (h2 hz)
    clear h2 hz
    generalize ofM l p e = y at *
    go_enter Tryd.func21, Tryd.ntmps21
    go_wp2_with fail
    refine (H1.out _ ((bl w).al _)).mono ?_
    rintro r w1 ⟨rfl, hb⟩
    obtain ⟨hc, _⟩ := bcell hb
    go_wp2_with fail
    refine (H2.out _ (((bl w).al _).tr hb)).mono ?_
    rintro r w2 ⟨rfl, hb2⟩
    go_wp2_with fail
    go_ret2
    exact ⟨rfl, (((bl w).al _).tr hb).tr hb2⟩
end Go.Proofs.YtfpikakgaghdbaaDoor
