/- signs.Find and signs.Call, and the document's. -/
import Derived.Test.YtnkmbddjekepkaaDoorSgD
namespace Go.Proofs.YtnkmbddjekepkaaDoor
open Go Go.RowKit
set_option linter.unusedSimpArgs false
set_option linter.unusedVariables false
set_option linter.unnecessarySimpa false
set_option maxHeartbeats 2000000 in
theorem find12_any (l : List Sg) (n : Bytes) (a : Option Addr) (cap : Nat) (w : World) (hl : Sgs w l a cap) (hs : ∀ s ∈ l, s.pars.length ≤ 100000) :
    Calls Tryd.prog 10 #[.slice a l.length cap, .string ⟨n.toArray⟩] w (FoundPost (findSg l n) w) := by
  have h1 := hide fun (W : World) (hW : Below w.heap.size w W) (bn : Nat) (hc : W.cell? ⟨bn, 0, none⟩ = some (.string ⟨n.toArray⟩)) => indexSgs_any l n bn a cap W (hl.keep hW (Nat.le_refl _)) hc
  have HL := hide hl
  have HS := hide hs
  clear hl hs
  rcases idxSg_cases l n with ⟨h2, h3⟩ | ⟨k, hk, h2, h3⟩
  · have H3 := hide h3
    clear h3
    rw [h2] at h1
    clear h2
    go_enter Tryd.func10, Tryd.ntmps10
    go_wp2_with fail
    refine (h1.out _ (((bl w).al _).al _) w.heap.size ?_).mono ?_
    · go_simp
    rintro r w1 ⟨rfl, hb1⟩
    obtain ⟨hc1, hf1⟩ := bcell hb1
    have hB := (((bl w).al _).al _).tr hb1
    clear hb1
    go_wp2_with fail
    refine bodyPost_ret (v := .tuple #[.agg #[.string ⟨#[]⟩, .slice none 0 0, .int .i64 0], .bool false]) (by simp [results, Tryd.results10, go_sem, hc1]) rfl ⟨⟨_, by rw [H3.out]; rfl, by rw [H3.out]; exact noSg_val _⟩, ((hB.setCell (by simp) _).setCell (by simp) _).setCell (by simp) _⟩
  · have H3 := hide h3
    clear h3
    rw [h2] at h1
    clear h2
    go_enter Tryd.func10, Tryd.ntmps10
    go_wp2_with fail
    refine (h1.out _ (((bl w).al _).al _) w.heap.size ?_).mono ?_
    · go_simp
    rintro r w1 ⟨rfl, hb1⟩
    obtain ⟨b, o, rfl⟩ := HL.out.addr (by omega)
    obtain ⟨hc1, hf1⟩ := bcell hb1
    have hB := (((bl w).al _).al _).tr hb1
    have hz1 := hb1.size
    simp only [World.size_alloc] at hz1
    clear hb1
    obtain ⟨pa, pc, c0, c1, c2, hi⟩ := (HL.out.at_ b o rfl k hk).has (has_below hB)
    have HI := hide hi
    clear hi
    go_wp2_with fail
    refine (cloneInts_any l[k].pars pa pc _ (HI.out.keep ((bl w1).al _) (Nat.le_refl _)) (HS.out _ (List.getElem_mem hk))).mono ?_
    rintro r w2 ⟨⟨a', c', rfl, hi2⟩, hb2⟩
    have HI2 := hide hi2
    clear hi2
    obtain ⟨hc2, hf2⟩ := bcell hb2
    have hB2 := (hB.al _).tr hb2
    have hz2 := hb2.size
    simp only [World.size_alloc] at hz2
    clear hb2
    have hn1 : ¬ w1.heap.size = w.heap.size + 1 := by omega
    have hn2 : ¬ w.heap.size + 1 = w1.heap.size := by omega
    have hn3 : w.heap.size + 1 < w1.heap.size := by omega
    have hn4 : w.heap.size + 1 < w1.heap.size + 1 := by omega
    have hn5 : w.heap.size + 1 < w.heap.size + 1 + 1 := by omega
    go_wp2_with fail
    refine bodyPost_ret (v := .tuple #[.agg #[.string ⟨l[k].name.toArray⟩, .slice a' l[k].pars.length c', .int .i64 l[k].res], .bool true]) (by simp [results, Tryd.results10, go_sem, hc1, hc2, hn1, hn2, hn3, hn4, hn5]) rfl ⟨⟨_, by rw [H3.out]; rfl, ?_⟩, (((hB2.setCell (by simp; omega) _).setCell (by simp) _).setCell (by simp) _).setCell (by simp) _⟩
    rw [H3.out]
    refine ⟨a', c', rfl, HI2.out.has ?_⟩
    have hK : Kept [w1.heap.size, w.heap.size + 1] w2 ((((w2.setCell ⟨w1.heap.size, 1, none⟩ (.slice a' l[k].pars.length c')).setCell ⟨w.heap.size + 1, 0, none⟩ (.string ⟨l[k].name.toArray⟩)).setCell ⟨w.heap.size + 1, 1, none⟩ (.slice a' l[k].pars.length c')).setCell ⟨w.heap.size + 1, 2, none⟩ (.int .i64 l[k].res)) :=
      ((((Kept.refl _ w2).set (.inl (by simp)) _ _).set (.inl (by simp)) _ _).set (.inl (by simp)) _ _).set (.inl (by simp)) _ _
    refine Has.tr (has_nw_kept hK ?_) has_nw
    intro g hg
    simp only [List.mem_cons, List.not_mem_nil, or_false] at hg
    simp only [World.size_alloc]
    omega
end Go.Proofs.YtnkmbddjekepkaaDoor
