/- The walk of TypesOps: it returns true in every world in which the table of blanks is laid. -/
import Derived.Test.YtfpikakgaghdbaaDoorTyG
namespace Go.Proofs.YtfpikakgaghdbaaDoor
open Go Go.RowKit
set_option maxHeartbeats 1000000 in
theorem TypesOps_any (op a b : Int) (w : World) (hT : Tab w) : Calls Tryd.prog 3 #[.int .i64 op, .int .i64 a, .int .i64 b] w fun r w' => r = .returned (.bool true) ∧ Below w.heap.size w w' := by
  have h1 := unary_any op a
  have h2 := refUnary_any op a
  have h3 := binary_any op a b
  have h4 := refBinary_any op a b
  rw [unaryM_eq] at h1
  rw [binaryM_eq] at h3
  have h5 := works_any
  generalize unaryT op a = u at *
  generalize binaryT op a b = v at *
  obtain ⟨u1, u2⟩ := u
  obtain ⟨v1, v2⟩ := v
  have HT := hide hT
  have H1 := hide h1
  have H2 := hide h2
  have H3 := hide h3
  have H4 := hide h4
  have H5 := hide h5
  clear hT h1 h2 h3 h4 h5
  go_enter Tryd.func3, Tryd.ntmps3
  go_wp2_with fail
  refine (H1.out _).mono ?_
  rintro r w1 ⟨rfl, hb1⟩
  go_wp2_with fail
  refine (H2.out _).mono ?_
  rintro r w2 ⟨rfl, hb2⟩
  go_wp2_with fail
  refine (H3.out _).mono ?_
  rintro r w3 ⟨rfl, hb3⟩
  go_wp2_with fail
  refine (H4.out _).mono ?_
  rintro r w4 ⟨rfl, hb4⟩
  have hb := ((hb1.tr hb2).tr hb3).tr hb4
  go_wp2_with fail
  refine (H5.out _ (HT.out.below hb)).mono ?_
  rintro r w5 ⟨rfl, hb5⟩
  go_wp2_with fail
  go_ret
  exact ⟨rfl, hb.tr hb5⟩
end Go.Proofs.YtfpikakgaghdbaaDoor
