/- rewindlaw11.exprs answers at most 68 expressions of the right shape, in memory, for every draft. -/
import Derived.Test.YtfpikakgaghdbaaDoorMkI
import Derived.Test.YtfpikakgaghdbaaDoorTyD
import Derived.Test.YtfpikakgaghdbaaDoorMd1
namespace Go.Proofs.YtfpikakgaghdbaaDoor
open Go Go.RowKit
set_option linter.unusedSimpArgs false
set_option linter.unusedVariables false
set_option linter.unnecessarySimpa false
/-- append of all elements of a slice that came in; the row is the old one or a new one. -/
theorem wpList_pushin2 {α : Type} {P : Program} (w : World) {ops : Array Oper} {rest : List Oper} {o : Oper} {a : Act} {Q : Exit → Act → World → Prop} (hgd : o.guard = none) (s x : Operand) (t : TypeId)
    (ho : o.op = .call { callee := .builtin .append, args := #[s, x], argTypes := #[t, t] })
    (base : Nat) (e : TypeId) (i : TypeInfo) (z : Value) (size bytes : Nat) (ht : P.underlying t = some (.slice e)) (hi : P.info? e = some i) (hz : i.zero = some z)
    (hsize : i.size = size) (hby : i.bytes = bytes) (hzs : z.cells.size = size) (hsz : 0 < size)
    (V : World → α → List Value → Prop) (hm : Mono V) (ban : List Nat) (v : Value) (l : List α) (hs : a.eval s = v) (hown : OwnL w base e size V ban v l)
    (pa : Option Addr) (cp : Nat) (ms : List α) (hx : a.eval x = .slice pa ms.length cp)
    (hin : (pa = none ∧ ms = []) ∨ ∃ ad news, pa = some ad ∧ (∀ j u, news[j]? = some u → w.cell? (ad.add j) = some u) ∧ (∀ u ∈ news, u.oneCell' = true) ∧ Cut size (V (av (v.ownBlock.toList ++ ban) w)) ms news)
    (h63 : l.length + ms.length ≤ maxLen) (hbytes : (l.length + ms.length) * bytes ≤ 140737488355328) (hbase : base ≤ w.heap.size)
    (h : ∀ v' w', OwnL w' base e size V ban v' (l ++ ms) → w.grownBy w' v.ownBlock → (v'.ownBlock = v.ownBlock ∨ v'.ownBlock = some w.heap.size) → wpList P ops Q rest (a.put o.dst v') w') :
    wpList P ops Q (o :: rest) a w := by
  have hown0 := hown
  obtain ⟨xs, hown, hcut⟩ := hown
  rcases hin with ⟨rfl, rfl⟩ | ⟨ad, news, rfl, hnews, h1, hv⟩
  · refine wpList_plain hgd fun K hK => ?_
    have hrun := run_append_none0 (P := P) (w := w) base t o.type e i size cp ht hi v l.length xs hown
    unfold Oper.wp
    simp [execOp, ho, resolve, invoke, builtin, hs, hx, hrun, Result.andThen]
    refine hK _ _ (h v w ?_ ⟨rfl, rfl, rfl, Nat.le_refl _, fun _ _ _ => rfl⟩ (.inl rfl))
    rw [List.append_nil]
    exact hown0
  · exact wpList_append_own_at w hgd s x t ho base e i z size bytes ht hi hz hsize hby hzs hsz v l.length xs hs hown ad ms.length cp news hx hv.len hnews h1 h63 hbytes hbase fun v' w' hown' hgrow _ hat =>
      h v' w' (own_push hm hown hcut hown' hgrow hat hv) hgrow hat
theorem wellM_get {m : Nat} {l : List St} (h : wellM (m + 1) l = true) {s : St} (hs : s ∈ l) : headM s = true ∧ wellM m s.body = true ∧ wellM m s.els = true := by
  have := List.all_eq_true.1 h s hs
  simp only [Bool.and_eq_true] at this
  exact ⟨this.1.1, this.1.2, this.2⟩
/-- Of the world w1 only the block oc has turned; it holds the slice v of the expressions so far. -/
structure Wk (oc : Nat) (w1 : World) (v : Value) (outs : List Ex) (W : World) : Prop where
  k : Kept [oc] w1 W
  c : W.heap[oc]? = some (.cells #[v] 33 (0, 0))
  own : OwnL W w1.heap.size 36 5 ExC [oc] v outs
  ok : ∀ e ∈ outs, depthM 3 e ≠ 0
  len : outs.length ≤ 68
/-- Between two worlds only oc and the slice's row have turned, and the row is the old one or a new one. -/
structure Ch (oc : Nat) (v : Value) (W : World) (v' : Value) (W' : World) : Prop where
  k : Kept (oc :: v.ownBlock.toList) W W'
  o : ∀ g, v'.ownBlock = some g → v.ownBlock = some g ∨ W.heap.size ≤ g
section
variable {oc : Nat} {w1 W W' W2 : World} {v v' v2 : Value} {outs : List Ex}
theorem Wk.be (h : Wk oc w1 v outs W) (hb : Below W.heap.size W W') : Wk oc w1 v outs W' :=
  ⟨h.k.st hb, (hb.block _ (Array.getElem?_eq_some_iff.1 h.c).1).trans h.c, h.own.below ExC.mono hb, h.ok, h.len⟩
theorem Wk.al (h : Wk oc w1 v outs W) (o : Obj) : Wk oc w1 v outs (W.alloc o) := h.be ((bl W).al o)
theorem Ch.refl : Ch oc v W v W := ⟨Kept.refl _ _, fun _ h => .inl h⟩
theorem Ch.tr (h : Ch oc v W v' W') (k : Ch oc v' W' v2 W2) : Ch oc v W v2 W2 := by
  refine ⟨h.k.trNew k.k fun g hg => ?_, fun g hg => ?_⟩
  · simp only [List.mem_cons, Option.mem_toList] at hg ⊢
    rcases hg with rfl | hg
    · exact .inl (.inl rfl)
    · rcases h.o g hg with h' | h'
      · exact .inl (.inr h')
      · exact .inr h'
  · rcases k.o g hg with h' | h'
    · rcases h.o g h' with h'' | h''
      · exact .inl h''
      · exact .inr h''
    · exact .inr (Nat.le_trans h.k.size h')
theorem Ch.be (h : Ch oc v W v' W') (hb : Below W'.heap.size W' W2) : Ch oc v W v' W2 := ⟨h.k.st hb, h.o⟩
theorem Ch.al (h : Ch oc v W v' W') (o : Obj) : Ch oc v W v' (W'.alloc o) := h.be ((bl _).al o)
/-- The slice's row has grown, and oc holds the new slice. -/
theorem Wk.grown {xs : List Ex} (hoc : oc < w1.heap.size) (h : Wk oc w1 v outs W) (hg : W.grownBy W' v.ownBlock) (ho : OwnL W' w1.heap.size 36 5 ExC [oc] v' (outs ++ xs)) (hok : ∀ e ∈ xs, depthM 3 e ≠ 0) (hl : outs.length + xs.length ≤ 68) :
    Wk oc w1 v' (outs ++ xs) (W'.setCell ⟨oc, 0, none⟩ v') := by
  have hc : W'.heap[oc]? = some (.cells #[v] 33 (0, 0)) := (hg.block _ (Array.getElem?_eq_some_iff.1 h.c).1 (fun e => by have := (h.own.lt oc e.symm).1; omega)).trans h.c
  refine ⟨(h.k.grown hg fun k hk => .inr (h.own.lt k hk).1).set (.inl (by simp)) _ _, ?_, ho.kept ExC.mono ((Kept.refl [oc] W').set (g := oc) (.inl (by simp)) 0 v') (by simp; exact hoc), fun e he => ?_, by simpa using hl⟩
  · have := heap_set (i := 0) hc v'
    simpa using this
  · rcases List.mem_append.1 he with he | he
    · exact h.ok e he
    · exact hok e he
theorem Ch.grown (hg : W.grownBy W' v.ownBlock) (hat : v'.ownBlock = v.ownBlock ∨ v'.ownBlock = some W.heap.size) : Ch oc v W v' (W'.setCell ⟨oc, 0, none⟩ v') := by
  refine ⟨((Kept.refl _ W).grown hg fun k hk => .inl (by simp [hk])).set (.inl (by simp)) _ _, fun g hg => ?_⟩
  rcases hat with h | h
  · exact .inl (h ▸ hg)
  · exact .inr (by rw [h] at hg; simp at hg; omega)
end
theorem loc_cell {wr w6 : World} {C : Array Value} {t : TypeId} {row : Option Nat} {base j : Nat} {u : Value} (hg : (wr.alloc (.cells C t)).grownBy w6 row) (hr : ∀ g, row = some g → base ≤ g ∧ g < wr.heap.size) (hu : C[j]? = some u) : w6.cell? ⟨wr.heap.size, j, none⟩ = some u :=
  hg.cell (cell_at (heap_alloc_new wr _) hu) (fun e => by have := hr _ e.symm; simp only at this; omega)
theorem low_cell {wr w6 : World} {O : Obj} {row : Option Nat} {base b j : Nat} {u : Value} (hg : (wr.alloc O).grownBy w6 row) (hr : ∀ g, row = some g → base ≤ g ∧ g < wr.heap.size) (hb : b < base) (hu : wr.cell? ⟨b, j, none⟩ = some u) : w6.cell? ⟨b, j, none⟩ = some u :=
  hg.cell (cell_keep hu ((bl wr).al O) (Nat.le_refl _)) (fun e => by have := hr _ e.symm; simp only at this; omega)
theorem low_free {wr w6 : World} {O : Obj} {row : Option Nat} {base b j : Nat} {C : Array Value} {t : TypeId} (hg : (wr.alloc O).grownBy w6 row) (hr : ∀ g, row = some g → base ≤ g ∧ g < wr.heap.size) (hb : b < base) (hu : wr.heap[b]? = some (.cells C t (0, 0))) : w6.frozen? ⟨b, j, none⟩ = false :=
  free_at ((hg.block b (by have := (Array.getElem?_eq_some_iff.1 hu).1; simp; omega) (fun e => by have := hr _ e.symm; omega)).trans ((Below.heap_alloc _ _ _ (Array.getElem?_eq_some_iff.1 hu).1).trans hu))
def WkPost (oc : Nat) (w1 : World) (v : Value) (W : World) (r : Ending) (w' : World) : Prop := r = .returned (.tuple #[]) ∧ ∃ v' outs, Wk oc w1 v' outs w' ∧ Ch oc v W v' w'
set_option maxRecDepth 20000 in
set_option maxHeartbeats 4000000 in
theorem walk_any (oc lb : Nat) (w1 : World) (hoc : oc < w1.heap.size) (hne : lb ≠ oc) (hlb : w1.cell? ⟨lb, 0, none⟩ = some (.func (.func 33) #[] #[.pointer (some ⟨oc, 0, none⟩), .pointer (some ⟨lb, 0, none⟩)])) :
    ∀ (m : Nat) (l : List St) (pa : Option Addr) (cap : Nat) (v : Value) (outs : List Ex) (W : World), wellM m l = true ∧ deepM m l = true → l.length ≤ maxLen → St.Row (av [oc] w1) l pa → Wk oc w1 v outs W →
      Calls Tryd.prog 33 #[.slice pa l.length cap, .pointer (some ⟨oc, 0, none⟩), .pointer (some ⟨lb, 0, none⟩)] W (WkPost oc w1 v W) := by
  obtain ⟨i0, hi, hz0, hz1, hz2⟩ := info_parts info_ex
  have HL := hide hlb
  have hlb1 := cell_lt hlb
  simp only at hlb1
  clear hlb
  intro m
  induction m with
  | zero =>
    intro l pa cap v outs W hw hlen hrow hk
    cases l with
    | cons s l => simp [wellM] at hw
    | nil =>
      have HK := hide hk
      clear hw hlen hrow hk
      go_enter Tryd.func33, Tryd.ntmps33
      go_wp2_with fail
      go_loopw [8] (fun i wr => i = .int .i64 0 ∧ wr = W) (fun _ _ => 0)
      case atStart => exact ⟨rfl, rfl⟩
      case round =>
        obtain ⟨rfl, rfl⟩ := hrel
        go_wp2_with fail
        go_end0
        exact ⟨rfl, v, outs, HK.out, Ch.refl⟩
  | succ m ih =>
    intro l pa cap v outs W hw hlen hrow hk
    have IH := hide ih
    have HR := hide hrow
    have HW := hide hw
    have HK := hide hk
    have hlen : l.length ≤ 9223372036854775807 := hlen
    clear ih hw hrow hk
    go_enter Tryd.func33, Tryd.ntmps33
    go_wp2_with fail
    go_loopw [8] (fun i wr => ∃ (k : Nat) (v' : Value) (os : List Ex), k ≤ l.length ∧ i = .int .i64 k ∧ Wk oc w1 v' os wr ∧ Ch oc v W v' wr) (fun i _ => l.length - (intOf i).toNat)
    case atStart => exact ⟨0, v, outs, Nat.zero_le _, rfl, HK.out, Ch.refl⟩
    case round =>
      obtain ⟨k, v1, os, hk, rfl, hwk, hch⟩ := hrel
      obtain ⟨va0, vc0, rfl, -, -⟩ := hwk.own.slice
      have HWK := hide hwk
      have HCH := hide hch
      clear hwk hch
      by_cases hlt : k < l.length
      · obtain ⟨b, o, rfl⟩ := HR.out.addr (by omega)
        obtain ⟨hhead, hwb, hwe⟩ := wellM_get HW.out.1 (List.getElem_mem hlt)
        obtain ⟨haok, hdb, hde⟩ := deepM_get HW.out.2 (List.getElem_mem hlt)
        obtain ⟨pA, pB, pE, ca, cb, ce, hc, hwf, hA, hB, hE⟩ := (HR.out.get k hlt).val
        generalize l[k] = s at *
        have hc := hc.has ((has_kept HWK.out.k).tr has_av)
        obtain ⟨c0, c1, c2, c3, c4, c5, c6, c7⟩ := hc
        have hbb := cell_lt c0
        simp only at hbb
        have ha8 := headM_args hhead
        have HIB := hide fun (v2 : Value) (os2 : List Ex) (W2 : World) (h : Wk oc w1 v2 os2 W2) => IH.out s.body pB cb v2 os2 W2 ⟨hwb, hdb⟩ (Nat.le_trans hwf.lb hwf.cb) hB h
        have HIE := hide fun (v2 : Value) (os2 : List Ex) (W2 : World) (h : Wk oc w1 v2 os2 W2) => IH.out s.els pE ce v2 os2 W2 ⟨hwe, hde⟩ (Nat.le_trans hwf.le hwf.ce) hE h
        have HA := hide hA
        have HAOK := hide haok
        have hlbr : wr.cell? ⟨lb, 0, none⟩ = some (.func (.func 33) #[] #[.pointer (some ⟨oc, 0, none⟩), .pointer (some ⟨lb, 0, none⟩)]) := HWK.out.k.cell (by simpa using hne) HL.out
        have hor : wr.cell? ⟨oc, 0, none⟩ = some (.slice va0 os.length vc0) := cell_at (j := 0) HWK.out.c rfl
        have hol := cell_lt hor
        have hll := cell_lt hlbr
        simp only at hol hll
        have hosl : os.length ≤ 68 := HWK.out.len
        clear hA haok hB hE hwb hwe hhead hwf hdb hde
        by_cases h60 : (os.length : Int) < 60
        · have HX := hide fun (o : Obj) => Ex.Row.pushin (X := (Value.slice va0 os.length vc0).ownBlock.toList ++ [oc]) (w := wr.alloc o) (l := s.args) (pa := pA) (by
            refine HA.out.has ((has_more fun g hg => ?_).tr ((has_kept (HWK.out.k.sub fun g hg => ?_)).tr (has_av_below ((bl wr).al o))))
            · simp only [List.mem_append, Option.mem_toList] at hg
              rcases hg with hg | hg
              · exact .inr (HWK.out.own.lt g hg).1
              · exact .inl hg
            · simp only [List.mem_singleton] at hg
              exact .inl (by simp [hg]))
          have hml : os.length + s.args.length ≤ maxLen := by unfold maxLen; omega
          have hmb : (os.length + s.args.length) * 64 ≤ 140737488355328 := by omega
          have HSZ := hide fun (o : Obj) => (show w1.heap.size ≤ (wr.alloc o).heap.size by have := HWK.out.k.size; simp; omega)
          have HLT := hide HWK.out.own.lt
          have hb68 : os.length + s.args.length ≤ 68 := by omega
          go_wp2_with (at_builtin; refine wpList_pushin2 _ rfl _ _ 33 rfl w1.heap.size 36 i0 _ 5 64 Tryd.underlying33 hi hz0 hz1 hz2 rfl (by decide) ExC ExC.mono [oc] (.slice va0 os.length vc0) os rfl (HWK.out.own.al ExC.mono _) pA ca s.args rfl (HX.out _) hml hmb (HSZ.out _) ?_; intro v' w6 hown6 hgrow hat; obtain ⟨va, vcap, rfl, -, -⟩ := hown6.slice; have hwk6 := (HWK.out.al _).grown hoc hgrow hown6 HAOK.out hb68; have hch6 := (Ch.refl.al _).tr (Ch.grown (oc := oc) hgrow hat); have s6 := loc_cell (j := 6) hgrow HLT.out rfl; have s7 := loc_cell (j := 7) hgrow HLT.out rfl; have o6 := low_cell hgrow HLT.out hoc hor; have l6 := low_cell hgrow HLT.out hlb1 hlbr; have hsz6 := hgrow.size; have y6 := low_free (j := 0) hgrow HLT.out hoc HWK.out.c; rw [List.length_append] at hwk6 hch6 hat; have HWK6 := hide hwk6; have HCH6 := hide hch6; have HAT := hide hat; clear hwk6 hch6 hown6 hgrow hat)
          have S7 := hide ((Kept.refl [oc] w6).set (g := oc) (.inl (by simp)) 0 (.slice va (os.length + s.args.length) vcap) |>.cell (b := wr.heap.size) (by simp; omega) s7)
          have HNE : Hid (wr.heap.size ∉ oc :: (Value.slice va (os.length + s.args.length) vcap).ownBlock.toList) := hide (by
            simp only [List.mem_cons, Option.mem_toList, not_or]
            refine ⟨by omega, fun e => ?_⟩
            rcases HAT.out with h | h
            · have := (HLT.out _ (h.symm.trans e)).2
              omega
            · have := Option.some.inj (h.symm.trans e)
              simp at this)
          refine (HIB.out _ _ _ HWK6.out).mono ?_
          rintro r w7 ⟨rfl, v7, os7, hwk7, hch7⟩
          have l7 := hwk7.k.cell (b := lb) (o := 0) (by simpa using hne) HL.out
          have s77 : w7.cell? ⟨wr.heap.size, 7, none⟩ = some (.slice pE s.els.length ce) := hch7.k.cell HNE.out S7.out
          have hl7 := cell_lt l7
          have hs7 := cell_lt s77
          simp only at hl7 hs7
          have HWK7 := hide hwk7
          have HCH7 := hide (HCH6.out.tr hch7)
          clear hwk7 hch7
          go_wp2_with fail
          refine (HIE.out _ _ _ HWK7.out).mono ?_
          rintro r w8 ⟨rfl, v8, os8, hwk8, hch8⟩
          have HWK8 := hide hwk8
          have HCH8 := hide ((HCH.out.tr HCH7.out).tr hch8)
          clear hwk8 hch8
          go_wp2_with fail
          go_roundw
          case rel => exact ⟨k + 1, v8, os8, by omega, by go_num, HWK8.out, HCH8.out⟩
          case measure => simp [intOf]; omega
        · have HWK6 := hide (HWK.out.al (.cells #[.int .i64 s.kind, .int .i64 s.no, .string ⟨s.name.toArray⟩, .int .i64 s.typ, .string ⟨s.callee.toArray⟩, .slice pA s.args.length ca, .slice pB s.body.length cb, .slice pE s.els.length ce] 71))
          have HCH6 := hide ((Ch.refl (oc := oc) (v := .slice va0 os.length vc0) (W := wr)).al (.cells #[.int .i64 s.kind, .int .i64 s.no, .string ⟨s.name.toArray⟩, .int .i64 s.typ, .string ⟨s.callee.toArray⟩, .slice pA s.args.length ca, .slice pB s.body.length cb, .slice pE s.els.length ce] 71))
          have S7 := hide (cell_at (j := 7) (heap_alloc_new wr (.cells #[.int .i64 s.kind, .int .i64 s.no, .string ⟨s.name.toArray⟩, .int .i64 s.typ, .string ⟨s.callee.toArray⟩, .slice pA s.args.length ca, .slice pB s.body.length cb, .slice pE s.els.length ce] 71)) rfl)
          have HLT := hide HWK.out.own.lt
          have HNE : Hid (wr.heap.size ∉ oc :: (Value.slice va0 os.length vc0).ownBlock.toList) := hide (by
            simp only [List.mem_cons, Option.mem_toList, not_or]
            refine ⟨by omega, fun e => ?_⟩
            have := (HLT.out _ e).2
            omega)
          go_wp2_with fail
          refine (HIB.out _ _ _ HWK6.out).mono ?_
          rintro r w7 ⟨rfl, v7, os7, hwk7, hch7⟩
          have l7 := hwk7.k.cell (b := lb) (o := 0) (by simpa using hne) HL.out
          have s77 : w7.cell? ⟨wr.heap.size, 7, none⟩ = some (.slice pE s.els.length ce) := hch7.k.cell HNE.out S7.out
          have hl7 := cell_lt l7
          have hs7 := cell_lt s77
          simp only at hl7 hs7
          have HWK7 := hide hwk7
          have HCH7 := hide (HCH6.out.tr hch7)
          clear hwk7 hch7
          go_wp2_with fail
          refine (HIE.out _ _ _ HWK7.out).mono ?_
          rintro r w8 ⟨rfl, v8, os8, hwk8, hch8⟩
          have HWK8 := hide hwk8
          have HCH8 := hide ((HCH.out.tr HCH7.out).tr hch8)
          clear hwk8 hch8
          go_wp2_with fail
          go_roundw
          case rel => exact ⟨k + 1, v8, os8, by omega, by go_num, HWK8.out, HCH8.out⟩
          case measure => simp [intOf]; omega
      · obtain rfl : k = l.length := by omega
        go_wp2_with fail
        go_end0
        exact ⟨rfl, _, os, HWK.out, HCH.out⟩
/-- What exprs answers. -/
def DexPost (w : World) (r : Ending) (w' : World) : Prop :=
  (∃ (a : Option Addr) (cap : Nat) (outs : List Ex), r = .returned (.slice a outs.length cap) ∧ outs.length ≤ 68 ∧ outs.length ≤ cap ∧ cap ≤ maxLen ∧ (∀ e ∈ outs, depthM 3 e ≠ 0) ∧ Ex.Row w' outs a) ∧ Below w.heap.size w w'
set_option maxRecDepth 20000 in
set_option maxHeartbeats 4000000 in
theorem exprs_any (D : List Nat) (a : Option Addr) (cap : Nat) (w : World) (hd : U8s w D a cap) :
    Calls Tryd.prog 14 #[.slice a D.length cap] w (DexPost w) := by
  have hmade := fun (W : World) (hW : Below w.heap.size w W) => made_any D a cap W (hd.has (has_below hW))
  have hok := madeD_ok D
  have hdeep := madeD_deep D
  have HM := hide hmade
  generalize madeD D = l at *
  have hl3 : l.length ≤ 3 := hok.2.1
  have HOK := hide hok.2.2
  have HDP := hide hdeep
  clear hdeep
  clear hmade hok hd
  go_enter Tryd.func14, Tryd.ntmps14
  go_wp2_with fail
  have hW0 : Below w.heap.size w ((w.alloc (.cells #[.slice none 0 0] 33)).alloc (.cells #[.func (.func 33) #[] #[.pointer (some ⟨w.heap.size, 0, none⟩), .pointer (some ⟨w.heap.size + 1, 0, none⟩)]] 68)) := ((bl w).al _).al _
  have hc0 : ((w.alloc (.cells #[.slice none 0 0] 33)).alloc (.cells #[.func (.func 33) #[] #[.pointer (some ⟨w.heap.size, 0, none⟩), .pointer (some ⟨w.heap.size + 1, 0, none⟩)]] 68)).heap[w.heap.size]? = some (.cells #[.slice none 0 0] 33 (0, 0)) := (Below.heap_alloc _ _ _ (by simp)).trans (heap_alloc_new w _)
  have hf0 : ((w.alloc (.cells #[.slice none 0 0] 33)).alloc (.cells #[.func (.func 33) #[] #[.pointer (some ⟨w.heap.size, 0, none⟩), .pointer (some ⟨w.heap.size + 1, 0, none⟩)]] 68)).cell? ⟨w.heap.size + 1, 0, none⟩ = some (.func (.func 33) #[] #[.pointer (some ⟨w.heap.size, 0, none⟩), .pointer (some ⟨w.heap.size + 1, 0, none⟩)]) := by go_simp
  have hs0 : w.heap.size < ((w.alloc (.cells #[.slice none 0 0] 33)).alloc (.cells #[.func (.func 33) #[] #[.pointer (some ⟨w.heap.size, 0, none⟩), .pointer (some ⟨w.heap.size + 1, 0, none⟩)]] 68)).heap.size := by simp; omega
  generalize ((w.alloc (.cells #[.slice none 0 0] 33)).alloc (.cells #[.func (.func 33) #[] #[.pointer (some ⟨w.heap.size, 0, none⟩), .pointer (some ⟨w.heap.size + 1, 0, none⟩)]] 68)) = W0 at *
  refine (HM.out _ hW0).mono ?_
  rintro r w1 ⟨⟨v, rfl, hown⟩, hb1⟩
  obtain ⟨aa, ac, rfl, hfns⟩ := hown.fns (fun g hg => List.mem_range.1 hg)
  have HF := hide (hfns.has (has_sub (m := [w.heap.size]) (fun g hg => by simp at hg ⊢; omega)))
  have hlen1 := hfns.len
  have hcap1 := hfns.cap
  have hoc1 : w.heap.size < w1.heap.size := Nat.lt_of_lt_of_le hs0 hb1.size
  have hlb1 := cell_keep hf0 hb1 (Nat.le_refl _)
  have HWK0 : Hid (Wk w.heap.size w1 (.slice none 0 0) [] w1) := hide ⟨Kept.refl _ _, (hb1.block _ hs0).trans hc0, OwnL.nil _ _ _ _ _ _, by simp, by simp⟩
  have HWALK := hide (walk_any w.heap.size (w.heap.size + 1) w1 hoc1 (by omega) hlb1)
  have HLB := hide hlb1
  have hbw1 := hW0.tr hb1
  have hlenl : l.length ≤ 9223372036854775807 := by omega
  have hfd : ∀ W : World, (Instr.field 74 (.agg #[.slice aa l.length ac]) 0).run Tryd.prog W = .ok (.slice aa l.length ac) W := fun _ => by kernel_rfl
  clear hown hfns hlb1 hf0 hc0 hs0 HM hb1 hW0
  go_wp2_with fail
  go_loopw [12] (fun i wr => ∃ (k : Nat) (v : Value) (os : List Ex), k ≤ l.length ∧ i = .int .i64 k ∧ Wk w.heap.size w1 v os wr) (fun i _ => l.length - (intOf i).toNat)
  case atStart => exact ⟨0, _, _, Nat.zero_le _, rfl, HWK0.out⟩
  case round =>
    obtain ⟨k, v, os, hk, rfl, hwk⟩ := hrel
    have HWK := hide hwk
    clear hwk
    have l1 := HWK.out.k.cell (b := w.heap.size + 1) (o := 0) (by simp) HLB.out
    have hl1 := cell_lt l1
    simp only at hl1
    by_cases hlt : k < l.length
    · obtain ⟨b, o, rfl⟩ := HF.out.addr (by omega)
      obtain ⟨pp, pb, cp, cb, c0, c1, c2, c3, c4, hfw, hps, hrow⟩ := HF.out.at_ b o rfl k hlt
      have hfo := HOK.out _ (List.getElem_mem hlt)
      have hfd := HDP.out _ (List.getElem_mem hlt)
      generalize l[k] = f at *
      have hh := (has_kept HWK.out.k).tr has_av
      have c0 := hh _ _ _ c0
      have c1 := hh _ _ _ c1
      have c2 := hh _ _ _ c2
      have c3 := hh _ _ _ c3
      have c4 := hh _ _ _ c4
      have hbb := cell_lt c0
      simp only at hbb
      have hwell : wellM 20 f.body = true := by
        have := hfo.1
        simp only [fnOk, Bool.and_eq_true] at this
        exact this.2.1
      have HCALL := hide fun (W : World) (h : Wk w.heap.size w1 v os W) => HWALK.out 20 f.body pb cb v os W ⟨hwell, hfd⟩ (Nat.le_trans hfw.lb hfw.cb) hrow h
      have HWK2 := hide fun (O : Obj) => HWK.out.al O
      clear hh hfo hfd hwell hfw hps hrow
      go_wp2_with fail
      refine (HCALL.out _ (HWK2.out _)).mono ?_
      rintro r w2 ⟨rfl, v2, os2, hwk2, hch2⟩
      clear hch2
      have HWK3 := hide hwk2
      clear hwk2
      go_wp2_with fail
      go_roundw
      case rel => exact ⟨k + 1, v2, os2, by omega, by go_num, HWK3.out⟩
      case measure => simp [intOf]; omega
    · obtain rfl : k = l.length := by omega
      obtain ⟨ga, gc, rfl, hrow, hle, hcm⟩ := HWK.out.own.exs (by simp; exact hoc1)
      have o1 : wr.cell? ⟨w.heap.size, 0, none⟩ = some (.slice ga os.length gc) := cell_at (j := 0) HWK.out.c rfl
      have ho1 := cell_lt o1
      simp only at ho1
      have HR := hide hrow
      clear hrow
      go_wp2_with fail
      go_ret
      exact ⟨⟨_, _, os, rfl, HWK.out.len, hle, hcm, HWK.out.ok, HR.out.has has_av⟩, HWK.out.k.below hbw1 (by simp)⟩
end Go.Proofs.YtfpikakgaghdbaaDoor
