/- Drafts of signatures: the function that a draft makes. -/
import Derived.Test.YtnkmbddjekepkaaDoorSgP
import Derived.Test.YtnkmbddjekepkaaDoorBy
import Derived.Deep.RegionLaw
import Derived.IntWalk
namespace Go.Proofs.YtnkmbddjekepkaaDoor
open Go Go.RowKit
set_option linter.unusedSimpArgs false
set_option linter.unusedVariables false
set_option linter.unnecessarySimpa false
/-- A draft of a signature. -/
structure Dr where
  name : Nat
  res : Nat
  pars : List Nat
def Dr.Val (w : World) (d : Dr) (v : Value) : Prop := ∃ a cap, v = .agg #[.int .u8 (d.name : Nat), .int .u8 (d.res : Nat), .slice a d.pars.length cap] ∧ d.name ≤ 255 ∧ d.res ≤ 255 ∧ Bys w d.pars a cap
theorem Dr.Val.has {w w' : World} {d : Dr} {v : Value} (h : d.Val w v) (hh : Has w w') : d.Val w' v := by
  obtain ⟨a, cap, h1, h2, h3, h4⟩ := h
  exact ⟨a, cap, h1, h2, h3, h4.has hh⟩
def drName (n : Nat) : Bytes := [102, UInt8.ofNat (97 + n % 20)]
def prmOf (i p : Nat) : Pm := ⟨[112, UInt8.ofNat (97 + i)], 1 + ((p % 3 : Nat) : Int)⟩
def parsUp (l : List Nat) (k : Nat) : List Pm := (List.range k).map fun i => prmOf i (l.getD i 0)
theorem parsUp_succ (l : List Nat) {k : Nat} (h : k < l.length) : parsUp l (k + 1) = parsUp l k ++ [prmOf k l[k]] := by
  unfold parsUp
  rw [List.range_succ, List.map_append, List.map_singleton]
  have e : l.getD k 0 = l[k] := by simp [List.getD, h]
  rw [e]
theorem parsUp_len (l : List Nat) (k : Nat) : (parsUp l k).length = k := by simp [parsUp]
def drFn (d : Dr) : Fn := ⟨drName d.name, parsUp d.pars (min d.pars.length 8), ((d.res % 4 : Nat) : Int), [], 0⟩
theorem drFn_wf (d : Dr) : FnWf (drFn d) 0 := by
  refine ⟨by simp [drFn, drName, maxLen], ?_, Nat.le_refl _, Nat.zero_le _, by unfold I64; simp [drFn]⟩
  have : d.res % 4 < 4 := Nat.mod_lt _ (by omega)
  unfold I64 drFn
  simp only
  omega
theorem own_pms {w : World} {base n : Nat} {t : TypeId} {ban : List Nat} {v : Value} {l : List Pm} (h : OwnL w base t 2 PmC ban v l) (hn : n ≤ base) : ∃ a cap, v = .slice a l.length cap ∧ Pms (nw n w) l a cap := by
  obtain ⟨xs, h1, h2⟩ := h
  exact OwnL.pms (ban := List.range n) (w := w) (base := base) (t := t) (v := v) (l := l) ⟨xs, h1, h2.mono fun _ _ h => h⟩ (fun g hg => by have := List.mem_range.1 hg; omega)
theorem str_two (c d : UInt8) : (⟨#[c]⟩ : ByteArray) ++ ⟨#[d]⟩ = ⟨#[c, d]⟩ := by
  rw [show (⟨#[c]⟩ : ByteArray) = ⟨([c] : Bytes).toArray⟩ from rfl, show (⟨#[d]⟩ : ByteArray) = ⟨([d] : Bytes).toArray⟩ from rfl, str_app]
  rfl
set_option maxRecDepth 20000 in
set_option maxHeartbeats 4000000 in
theorem made12_any (d : Dr) (v : Value) (w : World) (hv : d.Val w v) : Calls Tryd.prog 21 #[v] w fun r w' => (∃ u, r = .returned u ∧ (drFn d).Val (nw w.heap.size w') u) ∧ Below w.heap.size w w' := by
  obtain ⟨a, cap, rfl, hn, hr, hb⟩ := hv
  have HBY := hide hb
  have hlen : d.pars.length ≤ 9223372036854775807 := Nat.le_trans hb.len hb.cap
  obtain ⟨i0, hi, hz0, hz1, hz2⟩ := info_parts info_pm
  obtain ⟨c, hc⟩ : ∃ c, c = UInt8.ofNat (97 + d.name % 20) := ⟨_, rfl⟩
  have hcv := conv1 ((w.alloc (.cells #[.int .u8 (d.name : Nat), .int .u8 (d.res : Nat), .slice a d.pars.length cap] 60)).alloc (.cells #[.string ⟨#[]⟩, .slice none 0 0, .int .i64 0, .slice none 0 0, .int .i64 0] 53)) (w.heap.size + 1 + 1) (97 + (d.name : Int) % 20) (97 + d.name % 20) c hc (by simp) (by simp)
  have hst := str_two 102 c
  have HC := hide hc
  clear hc
  have HB0 : Hid (Below w.heap.size w ((((w.alloc (.cells #[.int .u8 (d.name : Nat), .int .u8 (d.res : Nat), .slice a d.pars.length cap] 60)).alloc (.cells #[.string ⟨#[]⟩, .slice none 0 0, .int .i64 0, .slice none 0 0, .int .i64 0] 53)).alloc (.cells #[.int .u8 (97 + (d.name : Int) % 20)] 5)).alloc (.cells #[.string ⟨#[102, c]⟩, .slice none 0 0, .int .i64 ((d.res : Int) % 4), .slice none 0 0, .int .i64 0] 53))) := hide (((((bl w).al _).al _).al _).al _)
  have HX0 : Hid (((((w.alloc (.cells #[.int .u8 (d.name : Nat), .int .u8 (d.res : Nat), .slice a d.pars.length cap] 60)).alloc (.cells #[.string ⟨#[]⟩, .slice none 0 0, .int .i64 0, .slice none 0 0, .int .i64 0] 53)).alloc (.cells #[.int .u8 (97 + (d.name : Int) % 20)] 5)).alloc (.cells #[.string ⟨#[102, c]⟩, .slice none 0 0, .int .i64 ((d.res : Int) % 4), .slice none 0 0, .int .i64 0] 53)).heap[w.heap.size + 3]? = some (.cells #[.string ⟨#[102, c]⟩, .slice none 0 0, .int .i64 ((d.res : Int) % 4), .slice none 0 0, .int .i64 0] 53 (0, 0))) := hide (by
    have := heap_alloc_new (((w.alloc (.cells #[.int .u8 (d.name : Nat), .int .u8 (d.res : Nat), .slice a d.pars.length cap] 60)).alloc (.cells #[.string ⟨#[]⟩, .slice none 0 0, .int .i64 0, .slice none 0 0, .int .i64 0] 53)).alloc (.cells #[.int .u8 (97 + (d.name : Int) % 20)] 5)) (.cells #[.string ⟨#[102, c]⟩, .slice none 0 0, .int .i64 ((d.res : Int) % 4), .slice none 0 0, .int .i64 0] 53)
    simpa using this)
  have HP0 : Hid (((((w.alloc (.cells #[.int .u8 (d.name : Nat), .int .u8 (d.res : Nat), .slice a d.pars.length cap] 60)).alloc (.cells #[.string ⟨#[]⟩, .slice none 0 0, .int .i64 0, .slice none 0 0, .int .i64 0] 53)).alloc (.cells #[.int .u8 (97 + (d.name : Int) % 20)] 5)).alloc (.cells #[.string ⟨#[102, c]⟩, .slice none 0 0, .int .i64 ((d.res : Int) % 4), .slice none 0 0, .int .i64 0] 53)).heap[w.heap.size]? = some (.cells #[.int .u8 (d.name : Nat), .int .u8 (d.res : Nat), .slice a d.pars.length cap] 60 (0, 0))) := hide (by
    rw [Below.heap_alloc _ _ _ (by simp <;> omega), Below.heap_alloc _ _ _ (by simp <;> omega), Below.heap_alloc _ _ _ (by simp <;> omega)]
    have := heap_alloc_new w (.cells #[.int .u8 (d.name : Nat), .int .u8 (d.res : Nat), .slice a d.pars.length cap] 60)
    simpa using this)
  have HZ0 : Hid (((((w.alloc (.cells #[.int .u8 (d.name : Nat), .int .u8 (d.res : Nat), .slice a d.pars.length cap] 60)).alloc (.cells #[.string ⟨#[]⟩, .slice none 0 0, .int .i64 0, .slice none 0 0, .int .i64 0] 53)).alloc (.cells #[.int .u8 (97 + (d.name : Int) % 20)] 5)).alloc (.cells #[.string ⟨#[102, c]⟩, .slice none 0 0, .int .i64 ((d.res : Int) % 4), .slice none 0 0, .int .i64 0] 53)).heap[w.heap.size + 1]? = some (.cells #[.string ⟨#[]⟩, .slice none 0 0, .int .i64 0, .slice none 0 0, .int .i64 0] 53 (0, 0))) := hide (by
    rw [Below.heap_alloc _ _ _ (by simp <;> omega), Below.heap_alloc _ _ _ (by simp <;> omega)]
    have := heap_alloc_new (w.alloc (.cells #[.int .u8 (d.name : Nat), .int .u8 (d.res : Nat), .slice a d.pars.length cap] 60)) (.cells #[.string ⟨#[]⟩, .slice none 0 0, .int .i64 0, .slice none 0 0, .int .i64 0] 53)
    simpa using this)
  clear hb
  go_enter Tryd.func21, Tryd.ntmps21
  go_wp2_with fail
  go_loopw [4] (fun i wr => ∃ (k : Nat) (va : Option Addr) (vc : Nat), k ≤ min d.pars.length 8 ∧ i = .int .i64 k ∧ Hid (wr.heap[w.heap.size + 3]? = some (.cells #[.string ⟨#[102, c]⟩, .slice va k vc, .int .i64 ((d.res : Int) % 4), .slice none 0 0, .int .i64 0] 53 (0, 0))) ∧
    Hid (wr.heap[w.heap.size]? = some (.cells #[.int .u8 (d.name : Nat), .int .u8 (d.res : Nat), .slice a d.pars.length cap] 60 (0, 0))) ∧ Hid (wr.heap[w.heap.size + 1]? = some (.cells #[.string ⟨#[]⟩, .slice none 0 0, .int .i64 0, .slice none 0 0, .int .i64 0] 53 (0, 0))) ∧ Hid (OwnL wr (w.heap.size + 4) 55 2 PmC [w.heap.size + 3] (.slice va k vc) (parsUp d.pars k)) ∧ Hid (Below w.heap.size w wr) ∧ w.heap.size + 4 ≤ wr.heap.size) (fun i _ => d.pars.length - (intOf i).toNat)
  case atStart => exact ⟨0, none, 0, Nat.zero_le _, rfl, HX0, HP0, HZ0, hide (OwnL.nil _ _ _ _ _ _), HB0, by simp⟩
  case round =>
    obtain ⟨k, va, vc, hk, rfl, HX, HP, HZ, HO, HB, hws⟩ := hrel
    have x0 := cell_at (j := 0) HX.out rfl
    have x1 := cell_at (j := 1) HX.out rfl
    have x2 := cell_at (j := 2) HX.out rfl
    have x3 := cell_at (j := 3) HX.out rfl
    have x4 := cell_at (j := 4) HX.out rfl
    have y1 := free_at (j := 1) HX.out
    have p2 := cell_at (j := 2) HP.out rfl
    have hsl : w.heap.size + 3 < wr.heap.size := by omega
    have hsl0 : w.heap.size < wr.heap.size := by omega
    by_cases hlt : k < d.pars.length
    · by_cases h8 : k < 8
      · have h8' : (k : Int) < 8 := by omega
        obtain ⟨b, o, rfl⟩ := HBY.out.addr (by omega)
        obtain ⟨h255, c0⟩ := (HBY.out.has (has_below HB.out)).at_ b o rfl k hlt
        have hbl := cell_lt c0
        simp only at hbl
        obtain ⟨p, hp⟩ : ∃ p, d.pars[k] = p := ⟨_, rfl⟩
        obtain ⟨q, hq⟩ : ∃ q, q = p % 3 := ⟨_, rfl⟩
        have hq3 : q < 3 := by omega
        rw [hp] at h255 c0
        have m1 : (p : Int).tmod 3 = (q : Int) := by rw [Int.tmod_eq_emod_of_nonneg (by omega)]; omega
        have m2 : IntKind.i64.wrap (1 + (q : Int)) = 1 + (q : Int) := IntWalk.i64_in _ (by omega)
        have m3 : IntKind.u8.wrap (k : Int) = (k : Int) := by have : IntKind.u8.wrap (k : Int) = (k : Int) % 256 := rfl; omega
        have m4 : IntKind.u8.wrap (97 + (k : Int)) = 97 + (k : Int) := by have : IntKind.u8.wrap (97 + (k : Int)) = (97 + (k : Int)) % 256 := rfl; omega
        have m5 : IntKind.i64.wrap (q : Int) = (q : Int) := IntWalk.i64_in _ (by omega)
        obtain ⟨e, he⟩ : ∃ e, e = UInt8.ofNat (97 + k) := ⟨_, rfl⟩
        have hcv := conv1g (wr.alloc (.cells #[.int .u8 (97 + (k : Int))] 5)).drew wr.heap.size (97 + (k : Int)) (97 + k) e he (by simp) (cell_of_list wr [.int .u8 (97 + (k : Int))] 5 0 _ rfl)
        have hst := str_two 112 e
        have HPK : Hid (parsUp d.pars (k + 1) = parsUp d.pars k ++ [⟨[112, e], 1 + (q : Int)⟩]) := hide (by rw [parsUp_succ _ hlt, prmOf, hp, ← he, ← hq])
        have hpl : (parsUp d.pars k).length = k := parsUp_len _ _
        have hml : (parsUp d.pars k).length + 1 ≤ maxLen := by rw [hpl]; unfold maxLen; omega
        have hmb : ((parsUp d.pars k).length + 1) * 24 ≤ 140737488355328 := by rw [hpl]; omega
        have HML := hide hml
        have HMB := hide hmb
        have HPM : Hid (∀ W, PmC W ⟨[112, e], 1 + (q : Int)⟩ [.string ⟨#[112, e]⟩, .int .i64 (1 + (q : Int))]) := hide fun W => ⟨rfl, by unfold maxLen; simp, by unfold I64; simp only; omega⟩
        have HO2 := hide (HO.out.al PmC.mono (.cells #[.int .u8 (97 + (k : Int))] 5))
        have HO3 := hide (HO2.out.al PmC.mono (.cells #[.string ⟨#[112, e]⟩, .int .i64 (1 + (q : Int))] 55))
        have HO4 := hide (HO3.out.below PmC.mono (bl _).dr)
        have HNW := hide (news_row (wr.alloc (.cells #[.int .u8 (97 + (k : Int))] 5)) [.string ⟨#[112, e]⟩, .int .i64 (1 + (q : Int))] 55 (wr.heap.size + 1) (by simp))
        have HPL := hide hpl
        have HONE : Hid (∀ u ∈ [Value.string ⟨#[112, e]⟩, .int .i64 (1 + (q : Int))], u.oneCell' = true) := hide (by simp [Value.oneCell'])
        have HSZ : Hid (w.heap.size + 4 ≤ (((wr.alloc (.cells #[.int .u8 (97 + (k : Int))] 5)).alloc (.cells #[.string ⟨#[112, e]⟩, .int .i64 (1 + (q : Int))] 55)).drew).heap.size) := hide (by simp; omega)
        clear hpl hml hmb hp hq he h255
        have e1 : w.heap.size + 3 < wr.heap.size + 1 := by omega
        have e2 : w.heap.size < wr.heap.size + 1 := by omega
        have e3 : b < wr.heap.size + 1 := by omega
        have n1 : ¬ w.heap.size + 3 = wr.heap.size := by omega
        have n2 : ¬ w.heap.size + 3 = wr.heap.size + 1 := by omega
        have n3 : ¬ w.heap.size = wr.heap.size := by omega
        have n4 : ¬ w.heap.size = wr.heap.size + 1 := by omega
        have n5 : ¬ b = wr.heap.size := by omega
        have n6 : ¬ b = wr.heap.size + 1 := by omega
        go_wp2_with fail
        have HAPP : Hid (∀ (v' : Value) (w6 : World), OwnL w6 (w.heap.size + 4) 55 2 PmC [w.heap.size + 3] v' (parsUp d.pars k ++ [⟨[112, e], 1 + (q : Int)⟩]) → (((wr.alloc (.cells #[.int .u8 (97 + (k : Int))] 5)).alloc (.cells #[.string ⟨#[112, e]⟩, .int .i64 (1 + (q : Int))] 55)).drew).grownBy w6 (Value.slice va k vc).ownBlock →
            (∃ va' vc', v' = .slice va' (k + 1) vc') ∧ w6.frozen? ⟨w.heap.size + 3, 1, none⟩ = false ∧ w.heap.size + 3 < w6.heap.size ∧ w6.heap[w.heap.size + 3]? = some (.cells #[.string ⟨#[102, c]⟩, .slice va k vc, .int .i64 ((d.res : Int) % 4), .slice none 0 0, .int .i64 0] 53 (0, 0)) ∧ w6.heap[w.heap.size]? = wr.heap[w.heap.size]? ∧ w6.heap[w.heap.size + 1]? = wr.heap[w.heap.size + 1]? ∧ Below w.heap.size w w6 ∧ w.heap.size + 4 ≤ w6.heap.size) := hide (by
          intro v' w6 hown hgrow
          have hs6 := hgrow.size
          have hlt' : wr.heap.size + 2 ≤ w6.heap.size := by simpa using hs6
          have hblk : ∀ g, g < w.heap.size + 4 → w6.heap[g]? = wr.heap[g]? := fun g hg => by
            rw [hgrow.block g (by simp; omega) (fun e => by have := (HO.out.lt _ e.symm).1; omega)]
            show ((wr.alloc _).alloc _).heap[g]? = _
            rw [Below.heap_alloc _ _ _ (by simp; omega), Below.heap_alloc _ _ _ (by omega)]
          have h3 := (hblk (w.heap.size + 3) (by omega)).trans HX.out
          obtain ⟨va', vc', he, -, -⟩ := hown.slice
          rw [List.length_append, HPL.out] at he
          refine ⟨⟨va', vc', he⟩, free_at h3, by omega, h3, hblk _ (by omega), hblk _ (by omega), ?_, by omega⟩
          exact (((HB.out.al _).al _).dr).grown hgrow (by have := HB.out.size; simp; omega) (fun g hg => by have := (HO.out.lt g hg).1; omega))
        go_region_law
          ((refine step_push _ (by rfl) _ _ 50 (by rfl) (w.heap.size + 4) 55 i0 _ 2 24 Tryd.underlying50 hi hz0 hz1 hz2 (by rfl) (Nat.succ_pos _) PmC PmC.mono [w.heap.size + 3] (.slice va k vc) (parsUp d.pars k) (by rfl) HO4.out ⟨wr.heap.size + 1, 0, none⟩ 1 _ ⟨[112, e], 1 + (q : Int)⟩ (by rfl) (by rfl) HNW.out HONE.out (HPM.out _) HML.out HMB.out HSZ.out ?_; intro v' w6 hown6 hgrow; obtain ⟨⟨va', vc', rfl⟩, y6, hl6, hx6, hp6, hz6, hb6, hs6⟩ := HAPP.out _ _ hown6 hgrow; have HOWN6 := hide hown6; have HX6 := hide hx6; have HP6 := hide (hp6.trans HP.out); have HZ6 := hide (hz6.trans HZ.out); have x16 := cell_at (j := 1) hx6 rfl; have HB6 := hide hb6; clear hown6 hgrow hx6 hp6 hz6 hb6))
        all_goals
          have HO6 := HOWN6.out
          rw [← HPK.out] at HO6
          have HO7 := hide (HO6.kept PmC.mono ((Kept.refl [w.heap.size + 3] w6).set (g := w.heap.size + 3) (.inl (by simp)) 1 (.slice va' (k + 1) vc')) (by simp))
          have HX7 := hide (heap_set (i := 1) HX6.out (.slice va' (k + 1) vc'))
          have HP7 := hide ((Below.heap_setCell w6 ⟨w.heap.size + 3, 1, none⟩ (.slice va' (k + 1) vc') w.heap.size (by simp only; omega)).trans HP6.out)
          have HZ7 := hide ((Below.heap_setCell w6 ⟨w.heap.size + 3, 1, none⟩ (.slice va' (k + 1) vc') (w.heap.size + 1) (by simp only; omega)).trans HZ6.out)
          have HB7 := hide (HB6.out.setCell (p := ⟨w.heap.size + 3, 1, none⟩) (by simp only; omega) (.slice va' (k + 1) vc'))
          go_wp2_with fail
          go_roundw
          case rel => exact ⟨k + 1, va', vc', by omega, by go_num, HX7.out, HP7.out, HZ7.out, HO7.out, HB7.out, by simp [World.setCell]; omega⟩
          case measure => simp [intOf]; omega
      · obtain rfl : k = 8 := by omega
        have hmin : min d.pars.length 8 = 8 := by omega
        have z0 := cell_at (j := 0) HZ.out rfl
        have z1 := cell_at (j := 1) HZ.out rfl
        have z2 := cell_at (j := 2) HZ.out rfl
        have z3 := cell_at (j := 3) HZ.out rfl
        have z4 := cell_at (j := 4) HZ.out rfl
        have f0 := free_at (j := 0) HZ.out
        have f1 := free_at (j := 1) HZ.out
        have f2 := free_at (j := 2) HZ.out
        have f3 := free_at (j := 3) HZ.out
        have f4 := free_at (j := 4) HZ.out
        have hsl1 : w.heap.size + 1 < wr.heap.size := by omega
        have HMIN := hide hmin
        clear hmin
        go_wp2_with fail
        refine bodyPost_ret (v := .agg #[.string ⟨#[102, c]⟩, .slice va 8 vc, .int .i64 ((d.res : Int) % 4), .slice none 0 0, .int .i64 0]) (by simp [results, Tryd.results21, go_sem, z0, z1, z2, z3, z4]) rfl ⟨⟨_, rfl, ?_⟩, ((((HB.out.setCell (by simp) _).setCell (by simp) _).setCell (by simp) _).setCell (by simp) _).setCell (by simp) _⟩
        obtain ⟨a', c', he, hp⟩ := own_pms HO.out (Nat.le_refl _)
        rw [parsUp_len] at he
        cases he
        have hK : Kept [w.heap.size + 1] wr (((((wr.setCell ⟨w.heap.size + 1, 0, none⟩ (.string ⟨#[102, c]⟩)).setCell ⟨w.heap.size + 1, 1, none⟩ (.slice va 8 vc)).setCell ⟨w.heap.size + 1, 2, none⟩ (.int .i64 ((d.res : Int) % 4))).setCell ⟨w.heap.size + 1, 3, none⟩ (.slice none 0 0)).setCell ⟨w.heap.size + 1, 4, none⟩ (.int .i64 0)) :=
          (((((Kept.refl _ wr).set (.inl (by simp)) _ _).set (.inl (by simp)) _ _).set (.inl (by simp)) _ _).set (.inl (by simp)) _ _).set (.inl (by simp)) _ _
        refine ⟨va, none, vc, 0, ?_, drFn_wf d, ?_, trivial⟩
        · simp only [drFn, drName, parsUp_len, HMIN.out, HC.out]
          rfl
        · have h := (hp.has (has_nw_kept hK (by simp))).has (has_nws (n := w.heap.size + 4) (m := w.heap.size) (by omega))
          show Pms _ (parsUp d.pars (min d.pars.length 8)) va vc
          rw [HMIN.out]
          exact h
    · obtain rfl : k = d.pars.length := by omega
      have hmin : min d.pars.length 8 = d.pars.length := by omega
      have z0 := cell_at (j := 0) HZ.out rfl
      have z1 := cell_at (j := 1) HZ.out rfl
      have z2 := cell_at (j := 2) HZ.out rfl
      have z3 := cell_at (j := 3) HZ.out rfl
      have z4 := cell_at (j := 4) HZ.out rfl
      have f0 := free_at (j := 0) HZ.out
      have f1 := free_at (j := 1) HZ.out
      have f2 := free_at (j := 2) HZ.out
      have f3 := free_at (j := 3) HZ.out
      have f4 := free_at (j := 4) HZ.out
      have hsl1 : w.heap.size + 1 < wr.heap.size := by omega
      have HMIN := hide hmin
      clear hmin
      go_wp2_with fail
      refine bodyPost_ret (v := .agg #[.string ⟨#[102, c]⟩, .slice va d.pars.length vc, .int .i64 ((d.res : Int) % 4), .slice none 0 0, .int .i64 0]) (by simp [results, Tryd.results21, go_sem, z0, z1, z2, z3, z4]) rfl ⟨⟨_, rfl, ?_⟩, ((((HB.out.setCell (by simp) _).setCell (by simp) _).setCell (by simp) _).setCell (by simp) _).setCell (by simp) _⟩
      obtain ⟨a', c', he, hp⟩ := own_pms HO.out (Nat.le_refl _)
      rw [parsUp_len] at he
      cases he
      have hK : Kept [w.heap.size + 1] wr (((((wr.setCell ⟨w.heap.size + 1, 0, none⟩ (.string ⟨#[102, c]⟩)).setCell ⟨w.heap.size + 1, 1, none⟩ (.slice va d.pars.length vc)).setCell ⟨w.heap.size + 1, 2, none⟩ (.int .i64 ((d.res : Int) % 4))).setCell ⟨w.heap.size + 1, 3, none⟩ (.slice none 0 0)).setCell ⟨w.heap.size + 1, 4, none⟩ (.int .i64 0)) :=
        (((((Kept.refl _ wr).set (.inl (by simp)) _ _).set (.inl (by simp)) _ _).set (.inl (by simp)) _ _).set (.inl (by simp)) _ _).set (.inl (by simp)) _ _
      refine ⟨va, none, vc, 0, ?_, drFn_wf d, ?_, trivial⟩
      · simp only [drFn, drName, parsUp_len, HMIN.out, HC.out]
        rfl
      · have h := (hp.has (has_nw_kept hK (by simp))).has (has_nws (n := w.heap.size + 4) (m := w.heap.size) (by omega))
        show Pms _ (parsUp d.pars (min d.pars.length 8)) va vc
        rw [HMIN.out]
        exact h
end Go.Proofs.YtnkmbddjekepkaaDoor
