/- The reader of a draft of layer 10: block answers the model's statements, in new memory, and changes only the reader's own cells. -/
import Derived.Test.YtccgpmncpemmdaaDoorDnC
import Derived.Test.YtccgpmncpemmdaaDoorOw2
import Derived.Deep.CutRange
import Derived.Deep.DeepCutAuto
namespace Go.Proofs.YtccgpmncpemmdaaDoor
open Go Go.RowKit
set_option linter.unusedSimpArgs false
set_option linter.unusedVariables false
set_option linter.unnecessarySimpa false
/-- Where the reader in block sb is. -/
def ptOf (w : World) (sb : Nat) : Nat := match w.cell? ⟨sb, 1, none⟩ with | some (.int _ p) => p.toNat | _ => 0
theorem Rdr.pt {w : World} {sb p nx : Nat} {L : List Nat} (h : Rdr w sb L p nx) : ptOf w sb = p := by
  obtain ⟨a, cap, hs, _⟩ := h
  have c1 := cell_at (j := 1) hs rfl
  unfold ptOf
  rw [c1]
  simp
theorem Rdr.cells {w : World} {sb p nx : Nat} {L : List Nat} (h : Rdr w sb L p nx) : ∃ a cap, w.cell? ⟨sb, 0, none⟩ = some (.slice a L.length cap) ∧ w.cell? ⟨sb, 1, none⟩ = some (.int .i64 p) ∧ w.cell? ⟨sb, 2, none⟩ = some (.int .i64 nx) ∧ w.frozen? ⟨sb, 2, none⟩ = false := by
  obtain ⟨a, cap, hs, _⟩ := h
  exact ⟨a, cap, cell_at (j := 0) hs rfl, cell_at (j := 1) hs rfl, cell_at (j := 2) hs rfl, free_at hs⟩
theorem rdsN_stop {L : List Nat} {h : Nat} {blk : Qn → List St × Qn} {l : List St} {q : Qn} (hc : ¬ (q.1 < L.length ∧ q.2 < 60 ∧ l.length < 30)) : ∀ n, rdsN L h blk n l q = (l, q)
  | 0 => rfl
  | n + 1 => by rw [rdsN, if_neg hc]
theorem rdsN_end {L : List Nat} {h : Nat} {blk : Qn → List St × Qn} {l : List St} {q : Qn} {n b p1 : Nat} (hc : q.1 < L.length ∧ q.2 < 60 ∧ l.length < 30) (hb : rbN L q.1 = (b, p1)) (h255 : b = 255) (hn : L.length ≤ q.1 + n) : rdsN L h blk n l q = (l, (p1, q.2)) := by
  cases n with
  | zero => omega
  | succ n => rw [rdsN, if_pos hc, hb, if_pos h255]
theorem rdsN_step {L : List Nat} {h : Nat} {blk : Qn → List St × Qn} {l : List St} {q : Qn} {n b p1 : Nat} (hc : q.1 < L.length ∧ q.2 < 60 ∧ l.length < 30) (hb : rbN L q.1 = (b, p1)) (h255 : b ≠ 255) (hn : L.length ≤ q.1 + n) :
    ∃ m, n = m + 1 ∧ rdsN L h blk n l q = rdsN L h blk m (l ++ [(stN L h blk b q.2 (p1, q.2 + 1)).1]) (stN L h blk b q.2 (p1, q.2 + 1)).2 := by
  cases n with
  | zero => omega
  | succ n => exact ⟨n, rfl, by rw [rdsN, if_pos hc, hb, if_neg h255]⟩
/-- What a block that is read answers. -/
def BlQ (w : World) (sb : Nat) (L : List Nat) (q : List St × Qn) (r : Ending) (w' : World) : Prop :=
  (∃ v, r = .returned v ∧ OwnL w' w.heap.size 62 8 StC (List.range w.heap.size) v q.1) ∧ Rdr w' sb L q.2.1 q.2.2 ∧ Kept [sb] w w'
/-- A statement lies in block n. -/
structure StR (wr : World) (sb n : Nat) (L : List Nat) (s : St) (q : Qn) (wx : World) : Prop where
  src : Rdr wx sb L q.1 q.2
  k : Kept [sb] wr wx
  x : ∃ (pa pb pe : Option Addr) (ca cb ce : Nat), wx.heap[n]? = some (.cells #[.int .i64 s.kind, .int .i64 s.no, .string ⟨s.name.toArray⟩, .int .i64 s.typ, .string ⟨s.callee.toArray⟩, .slice pa s.args.length ca, .slice pb s.body.length cb, .slice pe s.els.length ce] 62 (0, 0)) ∧
    StWf s.kind s.no s.name s.typ s.callee s.args.length ca s.body.length cb s.els.length ce ∧ Ex.Row (nw (n + 1) wx) s.args pa ∧ St.Row (nw (n + 1) wx) s.body pb ∧ St.Row (nw (n + 1) wx) s.els pe
/-- What is carried through a statement that is being made: the reader, and block g with the statement's cells. -/
structure Bx (wr : World) (sb g : Nat) (L : List Nat) (C : Array Value) (p nx : Nat) (W : World) : Prop where
  src : Rdr W sb L p nx
  k : Kept [sb] wr W
  x : W.heap[g]? = some (.cells C 62 (0, 0))
  lt : sb < g ∧ wr.heap.size ≤ g
section
variable {wr W W' : World} {sb g p nx : Nat} {L : List Nat} {C : Array Value}
theorem Bx.glt (h : Bx wr sb g L C p nx W) : g < W.heap.size := (Array.getElem?_eq_some_iff.1 h.x).1
theorem Bx.set (h : Bx wr sb g L C p nx W) (i : Nat) (u : Value) : Bx wr sb g L (C.setIfInBounds i u) p nx (W.setCell ⟨g, i, none⟩ u) := ⟨h.src.setNew h.lt.1 _ _, h.k.set (.inr h.lt.2) _ _, heap_set h.x u, h.lt⟩
theorem Bx.st {p' nx' : Nat} (h : Bx wr sb g L C p nx W) (hs : Rdr W' sb L p' nx') (hk : Kept [sb] W W') : Bx wr sb g L C p' nx' W' := ⟨hs, h.k.tr hk, hk.heap (by have := h.lt.1; simp; omega) h.x, h.lt⟩
theorem Bx.be (h : Bx wr sb g L C p nx W) (hb : Below W.heap.size W W') : Bx wr sb g L C p nx W' := ⟨h.src.below hb, h.k.st hb, (hb.block _ h.glt).trans h.x, h.lt⟩
theorem Bx.al (h : Bx wr sb g L C p nx W) (o : Obj) : Bx wr sb g L C p nx (W.alloc o) := h.be ((bl W).al o)
theorem Bx.to {C' : Array Value} (h : Bx wr sb g L C p nx W) (e : C = C') : Bx wr sb g L C' p nx W := by rw [← e]; exact h
/-- What avoids block g and all before it is kept. -/
theorem Bx.rset (h : Bx wr sb g L C p nx W) (i : Nat) (u : Value) : Has (nw (g + 1) W) (nw (g + 1) (W.setCell ⟨g, i, none⟩ u)) := has_nw_one ((Kept.refl [g] W).set (.inl (by simp)) i u) (Nat.lt_succ_self g)
theorem Bx.rst (h : Bx wr sb g L C p nx W) (hk : Kept [sb] W W') : Has (nw (g + 1) W) (nw (g + 1) W') := has_nw_one hk (by have := h.lt.1; omega)
theorem Bx.row1 (h : Bx wr sb g L C p nx W) {e : Ex} {ea : Option Addr} {ecap n : Nat} (hew : ExWf e.kind e.op e.num e.name e.args.length ecap) (her : Ex.Row (nw (g + 1) W) e.args ea) (hn : n = W.heap.size) :
    Bx wr sb g L (C.setIfInBounds 5 (.slice (some ⟨n, 0, none⟩) 1 1)) p nx ((W.setCell ⟨g, 5, none⟩ (.slice (some ⟨n, 0, none⟩) 1 1)).alloc (.cells [.int .i64 e.kind, .int .i64 e.op, .int .i64 e.num, .string ⟨e.name.toArray⟩, .slice ea e.args.length ecap].toArray 91)) ∧ Ex.Row (nw (g + 1) ((W.setCell ⟨g, 5, none⟩ (.slice (some ⟨n, 0, none⟩) 1 1)).alloc (.cells [.int .i64 e.kind, .int .i64 e.op, .int .i64 e.num, .string ⟨e.name.toArray⟩, .slice ea e.args.length ecap].toArray 91))) [e] (some ⟨n, 0, none⟩) := by
  have hs := h.set 5 (.slice (some ⟨n, 0, none⟩) 1 1)
  exact ⟨hs.al _, Ex.rowA 91 hew (her.has (h.rset 5 _)) (bl _) (by rw [hn]; simp) hs.glt⟩
theorem Bx.row2 (h : Bx wr sb g L C p nx W) {e f : Ex} {ea fa : Option Addr} {ecap fcap n : Nat} (hew : ExWf e.kind e.op e.num e.name e.args.length ecap) (her : Ex.Row (nw (g + 1) W) e.args ea) (hfw : ExWf f.kind f.op f.num f.name f.args.length fcap) (hfr : Ex.Row (nw (g + 1) W) f.args fa) (hn : n = W.heap.size) :
    Bx wr sb g L (C.setIfInBounds 5 (.slice (some ⟨n, 0, none⟩) 2 2)) p nx ((W.setCell ⟨g, 5, none⟩ (.slice (some ⟨n, 0, none⟩) 2 2)).alloc (.cells [.int .i64 e.kind, .int .i64 e.op, .int .i64 e.num, .string ⟨e.name.toArray⟩, .slice ea e.args.length ecap, .int .i64 f.kind, .int .i64 f.op, .int .i64 f.num, .string ⟨f.name.toArray⟩, .slice fa f.args.length fcap].toArray 91)) ∧ Ex.Row (nw (g + 1) ((W.setCell ⟨g, 5, none⟩ (.slice (some ⟨n, 0, none⟩) 2 2)).alloc (.cells [.int .i64 e.kind, .int .i64 e.op, .int .i64 e.num, .string ⟨e.name.toArray⟩, .slice ea e.args.length ecap, .int .i64 f.kind, .int .i64 f.op, .int .i64 f.num, .string ⟨f.name.toArray⟩, .slice fa f.args.length fcap].toArray 91))) [e, f] (some ⟨n, 0, none⟩) := by
  have hs := h.set 5 (.slice (some ⟨n, 0, none⟩) 2 2)
  exact ⟨hs.al _, Ex.rowB 91 hew (her.has (h.rset 5 _)) hfw (hfr.has (h.rset 5 _)) (bl _) (by rw [hn]; simp) hs.glt⟩
theorem StR.of {k no t : Int} {s c : Bytes} {as_ : List Ex} {bs es : List St} (pa pb pe : Option Addr) (ca cb ce : Nat) (h : Bx wr sb g L C p nx W) (hC : C = #[.int .i64 k, .int .i64 no, .string ⟨s.toArray⟩, .int .i64 t, .string ⟨c.toArray⟩, .slice pa as_.length ca, .slice pb bs.length cb, .slice pe es.length ce])
    (hw : StWf k no s t c as_.length ca bs.length cb es.length ce) (ha : Ex.Row (nw (g + 1) W) as_ pa) (hb : St.Row (nw (g + 1) W) bs pb) (he : St.Row (nw (g + 1) W) es pe) : StR wr sb g L (.mk k no s t c as_ bs es) (p, nx) W :=
  ⟨h.src, h.k, pa, pb, pe, ca, cb, ce, (h.to hC).x, hw, ha, hb, he⟩
end
theorem stWfN {k no t : Int} {s c : Bytes} {la ca lb cb le ce : Nat} (hk : -1000 ≤ k ∧ k ≤ 1000) (hn : -1000 ≤ no ∧ no ≤ 1000) (ht : -1000 ≤ t ∧ t ≤ 1000) (hs : s.length ≤ 100) (hc : c.length ≤ 100) (h1 : la ≤ ca ∧ ca ≤ maxLen) (h2 : lb ≤ cb ∧ cb ≤ maxLen) (h3 : le ≤ ce ∧ ce ≤ maxLen) : StWf k no s t c la ca lb cb le ce :=
  ⟨i64_l k hk, i64_l no hn, Nat.le_trans hs (by unfold maxLen; omega), i64_l t ht, Nat.le_trans hc (by unfold maxLen; omega), h1.1, h1.2, h2.1, h2.2, h3.1, h3.2⟩
theorem wr_100 (L : List Nat) (p : Nat) : (wrN L p).1.length ≤ 100 := by rw [wrN_len]; omega
theorem z_100 : ([] : Bytes).length ≤ 100 := Nat.zero_le _
theorem zz_le : 0 ≤ 0 ∧ 0 ≤ maxLen := ⟨Nat.le_refl _, Nat.zero_le _⟩
theorem oo_le : 1 ≤ 1 ∧ 1 ≤ maxLen := ⟨Nat.le_refl _, one_le⟩
theorem tt_le : 2 ≤ 2 ∧ 2 ≤ maxLen := ⟨Nat.le_refl _, two_le⟩
theorem nexpr3_any (sb nx : Nat) (L : List Nat) (w : World) (p : Nat) (h : Rdr w sb L p nx) : Calls Tryd.prog 41 #[.pointer (some ⟨sb, 0, none⟩), .int .i64 3] w (ExQ w sb L nx (exN L 3 p)) :=
  nexpr_any sb nx L 3 (by omega) (by omega) w p h
theorem nexpr2_any (sb nx : Nat) (L : List Nat) (w : World) (p : Nat) (h : Rdr w sb L p nx) : Calls Tryd.prog 41 #[.pointer (some ⟨sb, 0, none⟩), .int .i64 2] w (ExQ w sb L nx (exN L 2 p)) :=
  nexpr_any sb nx L 2 (by omega) (by omega) w p h
theorem wp_noexit {P : Program} {s : Code} {K : Act → World → Prop} {Q : Exit → Act → World → Prop} {a : Act} {w : World} (h : s.wp P (Exit.then K (fun _ _ _ => False)) a w) : s.wp P (Exit.then K Q) a w := by
  refine wp_mono h ?_
  intro e a' w' hq
  cases e with
  | normal => exact hq
  | exit id => exact (hq : False).elim
  | goto l => exact (hq : False).elim
  | ret => exact (hq : False).elim
  | panic ch => exact (hq : False).elim
  | outgrown => exact (hq : False).elim
/-- The code from region n on, in the code of a function. -/
def isReg (n : Nat) : Code → Bool
  | .region i _ _ => i == n
  | _ => false
def codeAt (n : Nat) : Code → Option Code
  | .seq a b => if isReg n a then some (.seq a b) else match codeAt n a with
    | some c => some c
    | none => codeAt n b
  | .loop c => codeAt n c
  | .block _ c => codeAt n c
  | .scope c => codeAt n c
  | .cond _ a b => match codeAt n a with
    | some c => some c
    | none => codeAt n b
  | _ => none
set_option maxRecDepth 1000000 in
/-- Behind the switch of block: the reader's pointer, the variables, whatever in the slots of the switch. -/
def SwI (sb g deep b : Nat) (va : Option Addr) (ln vcap : Nat) (R : World → Prop) (a : Act) (w' : World) : Prop :=
  ∃ u0 u8 u9 u10 u11 u12 u13 u14 u15 u16 u17 u18 u19 u20 u21 u22 u23 u24 u25 u26 u27 u28 u29 u30 u31 u32 u33 u34 u35 u36 u37 u38 u39 u40 u41 u42 u43 u44 u45 u46 u47 u48 u49 u50 u51 u52 u53 u54 u55 u56 u57 u58 u59 u60 u61 u62 u63 u64 u65 u66 u67 u68 u69 u70 u71 u72 u73 u74 u75 u76 u77 u78 u79 u80 u81 u82 u83 u84 u85 u86 u87 u88 u89 u90 u91 u92 u93 u94 u95 u96 u97 u98 u99 u100 u101 u102 u103 u104 u105 u106 u107 u108 u109 u110 u111 u112 u113 u114 u115 u116 u117 u118 u119 u120 u121 u122 u123 u124 u125 u126 u127 u128 u129 u130 u131 u132 u133 u134 u135 u136 u137 u138 u139 u140 u141 u142 u143 u144 u145 u146 u147 u148 u149 u150 u151 u152 u153 u154 u155 u156 u157 u158 u159 u160 u161 u162 u163 u164 u165 u166 u167 u168 u169 u170 u171 u172 u173 u174 u175 u176 u177 u178 u179 u180 u181 u182 u183 : Value, (u0 = .pointer (some ⟨sb, 0, none⟩) ∧ R w') ∧ a = ⟨#[u0, .int .i64 (deep : Nat), undef, undef, .slice none 0 0, .slice va ln vcap, .int .u8 (b : Nat), .pointer (some ⟨g, 0, none⟩), u8, u9, u10, u11, u12, u13, u14, u15, u16, u17, u18, u19, u20, u21, u22, u23, u24, u25, u26, u27, u28, u29, u30, u31, u32, u33, u34, u35, u36, u37, u38, u39, u40, u41, u42, u43, u44, u45, u46, u47, u48, u49, u50, u51, u52, u53, u54, u55, u56, u57, u58, u59, u60, u61, u62, u63, u64, u65, u66, u67, u68, u69, u70, u71, u72, u73, u74, u75, u76, u77, u78, u79, u80, u81, u82, u83, u84, u85, u86, u87, u88, u89, u90, u91, u92, u93, u94, u95, u96, u97, u98, u99, u100, u101, u102, u103, u104, u105, u106, u107, u108, u109, u110, u111, u112, u113, u114, u115, u116, u117, u118, u119, u120, u121, u122, u123, u124, u125, u126, u127, u128, u129, u130, u131, u132, u133, u134, u135, u136, u137, u138, u139, u140, u141, u142, u143, u144, u145, u146, u147, u148, u149, u150, u151, u152, u153, u154, u155, u156, u157, u158, u159, u160, u161, u162, u163, u164, u165, u166, u167, u168, u169, u170, u171, u172, u173, u174, u175, u176, u177, u178, u179, u180, u181, u182, u183, undef], []⟩
end Go.Proofs.YtccgpmncpemmdaaDoor
