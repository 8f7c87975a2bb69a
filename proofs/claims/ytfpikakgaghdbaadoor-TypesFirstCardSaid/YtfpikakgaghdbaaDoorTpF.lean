/- TypesParts returns true: the walk. -/
import Derived.Test.YtfpikakgaghdbaaDoorTpB
import Derived.Test.YtfpikakgaghdbaaDoorTpC
import Derived.Test.YtfpikakgaghdbaaDoorTpE
import Derived.Test.YtfpikakgaghdbaaDoorTyG
namespace Go.Proofs.YtfpikakgaghdbaaDoor
open Go Go.RowKit
set_option linter.unusedSimpArgs false
set_option linter.unusedVariables false
set_option linter.unnecessarySimpa false
theorem varsD_typ (l : List Dc) : ∀ v ∈ varsD l, 1 ≤ v.typ ∧ v.typ ≤ 3 := listM_typ l _
theorem exOk_depth {e : Ex} (h : depthM 3 e ≠ 0) : depthM 20 e ≠ 0 := by rw [exOk_mono 3 (k := 20) (by omega) h]; exact h
set_option maxRecDepth 100000 in
set_option maxHeartbeats 4000000 in
theorem TypesParts_any (D : List Nat) (da : Option Addr) (dc : Nat) (L : List Dc) (la : Option Addr) (lc : Nat) (q : Int) (w : World) (hD : U8s w D da dc) (hL : Dcs w L la lc) (hT : Tab w) (hq : 0 ≤ q ∧ q ≤ 255) :
    Calls Tryd.prog 4 #[.slice da D.length dc, .slice la L.length lc, .int .u8 q] w fun r w' => r = .returned (.bool true) ∧ Below w.heap.size w w' := by
  have H1 := hide (list_any L la lc w hL)
  have H2 := hide fun (W : World) (hW : Below w.heap.size w W) => exprs_any D da dc W (hD.has (has_below hW))
  have HT := hide hT
  clear hD hL hT
  go_enter Tryd.func4, Tryd.ntmps4
  go_wp2_with fail
  refine H1.out.mono ?_
  rintro r w1 ⟨⟨va, vc, rfl, hv⟩, hb1⟩
  have HV := hide hv
  clear hv
  go_wp2_with fail
  refine (H2.out _ hb1).mono ?_
  rintro r w2 ⟨⟨ea, ec, outs, rfl, hl68, hle, hcm, hok, hrow⟩, hb2⟩
  have HR := hide hrow
  have HOK := hide hok
  have hb := hb1.tr hb2
  have HH := hide fun (p : Int) (e : Ex) (v : Value) (W : World) (he : depthM 20 e ≠ 0) (hv : Ex.Val W e v) (hW : Below w2.heap.size w2 W) => holds_any (varsD L) p va vc (varsD_typ L) 20 e v W (Nat.le_refl _) he hv (HV.out.keep (hb2.tr hW) (Nat.le_refl _)) (HT.out.below (hb.tr hW))
  clear hrow hok hb1 hb2 H1 H2 HV
  go_wp2_with fail
  go_loopw [17] (fun i wr => ∃ k : Nat, k ≤ outs.length ∧ i = .int .i64 k ∧ Below w2.heap.size w2 wr) (fun i _ => outs.length - (intOf i).toNat)
  case atStart => exact ⟨0, Nat.zero_le _, rfl, bl _⟩
  case round =>
    obtain ⟨k, hk, rfl, hbr⟩ := hrel
    by_cases hlt : k < outs.length
    · obtain ⟨b, o, rfl⟩ := HR.out.addr (by omega)
      obtain ⟨a', cap', c0, c1, c2, c3, c4, hw', hr'⟩ := ((HR.out.get k hlt).keep hbr (Nat.le_refl _)).val
      have HE := hide (Ex.Val.mk hw' hr')
      have HD := hide (exOk_depth (HOK.out _ (List.getElem_mem hlt)))
      clear hw' hr'
      generalize outs[k] = e at *
      go_wp2_with fail
      refine (HH.out _ e _ _ HD.out (HE.out.keep ((bl _).al _) (Nat.le_refl _)) (hbr.al _)).mono ?_
      rintro r w3 ⟨rfl, hb3⟩
      go_wp2_with fail
      go_roundw
      case rel => exact ⟨k + 1, by omega, by go_num, (hbr.al _).tr hb3⟩
      case measure => simp [intOf]; omega
    · obtain rfl : k = outs.length := by omega
      have hbw := hb.tr hbr
      go_wp2_with fail
      refine (works_any _ (HT.out.below hbw)).mono ?_
      rintro r w3 ⟨rfl, hb3⟩
      go_wp2_with fail
      go_ret
      exact ⟨rfl, hbw.tr hb3⟩
end Go.Proofs.YtfpikakgaghdbaaDoor
