/- A range over a function: what an iterator promises to whatever round writes its own blocks alone, and the law of the statement. -/
import Derived.Test.YtccgpmncpemmdaaDoorOwn
import Derived.RangeFuncNested
import Derived.RangeFuncBound
import Derived.RangeFuncCalls
import Derived.RangeFuncLeaves
namespace Go.Proofs.YtccgpmncpemmdaaDoor
open Go Go.RowKit
set_option linter.unusedSimpArgs false
set_option linter.unusedVariables false
set_option linter.unnecessarySimpa false
/-- From the world W, in which the blocks L are a round's own, to W', in which L' are: nothing else has turned. -/
structure Mv (L : List Nat) (W : World) (L' : List Nat) (W' : World) : Prop where
  kept : Kept L W W'
  sub : ∀ g ∈ L', g ∈ L ∨ W.heap.size ≤ g
theorem Mv.refl (L : List Nat) (W : World) : Mv L W L W := ⟨Kept.refl _ _, fun _ h => .inl h⟩
theorem Mv.tr {L M N : List Nat} {A B C : World} (h : Mv L A M B) (k : Mv M B N C) : Mv L A N C :=
  ⟨h.kept.trNew k.kept h.sub, fun g hg => (k.sub g hg).elim (h.sub g) fun e => .inr (Nat.le_trans h.kept.size e)⟩
theorem Mv.st {L : List Nat} {A B : World} (h : Below A.heap.size A B) : Mv L A L B := ⟨kept_below h, fun _ h => .inl h⟩
theorem Mv.has {L L' : List Nat} {W W' : World} (h : Mv L W L' W') : Has (av L W) (av L' W') := fun b o v hv => by
  obtain ⟨h1, h2⟩ := av_cell.1 hv
  refine av_cell.2 ⟨fun hg => ?_, h.kept.cell h1 h2⟩
  rcases h.sub _ hg with e | e
  · exact h1 e
  · have := cell_lt h2
    simp only at this
    omega
theorem Mv.heap {L L' : List Nat} {W W' : World} (h : Mv L W L' W') {b : Nat} {o : Obj} (hb : b ∉ L) (hc : W.heap[b]? = some o) : W'.heap[b]? = some o ∧ b ∉ L' :=
  ⟨h.kept.heap hb hc, fun hg => (h.sub _ hg).elim hb fun e => by have := (Array.getElem?_eq_some_iff.1 hc).1; omega⟩
theorem Mv.below {L L' : List Nat} {w0 W W' : World} (h : Mv L W L' W') (hb : Below w0.heap.size w0 W) (hl : ∀ g ∈ L, w0.heap.size ≤ g) : Below w0.heap.size w0 W' := h.kept.below hb hl
theorem kept_put {L : List Nat} {A B : World} (h : Kept L A B) (r : Nat) (o : Obj) (hr : r ∈ L ∨ A.heap.size ≤ r) : Kept L A (B.putObj r o) :=
  ⟨h.os, h.tape, h.output, by simpa using h.size, fun k hk hn => (World.putObj_heap_other (by rintro rfl; rcases hr with hr | hr; exact hn hr; omega)).trans (h.block k hk hn)⟩
/-- What a round or an iterator may rely on: it abides new blocks, and the turn of a block that is no cells, that is not among the round's own and that is young. -/
structure Inv {β : Type} (B : Nat) (J : β → List Nat → World → Prop) : Prop where
  own : ∀ s L W W' row, J s L W → W.grownBy W' row → (∀ r, row = some r → B ≤ r ∧ r ∉ L ∧ ∃ o : Obj, W.heap[r]? = some o ∧ o.isCells = false) → J s L W'
  lt : ∀ s L W, J s L W → ∀ g ∈ L, g < W.heap.size
theorem Inv.st {β : Type} {B : Nat} {J : β → List Nat → World → Prop} (h : Inv B J) {s : β} {L : List Nat} {W W' : World} (hj : J s L W) (hb : Below W.heap.size W W') : J s L W' :=
  h.own s L W W' none hj ⟨hb.os, hb.tape, hb.output, hb.size, fun k hk _ => hb.block k hk⟩ (fun r e => by cases e)
theorem Inv.put {β : Type} {B : Nat} {J : β → List Nat → World → Prop} (h : Inv B J) {s : β} {L : List Nat} {W : World} {l : Nat} {o : Obj} (o' : Obj) (hj : J s L W) (hB : B ≤ l) (hn : l ∉ L) (hl : W.heap[l]? = some o) (ho : o.isCells = false) : J s L (W.putObj l o') :=
  h.own s L W _ (some l) hj (grownBy_putObj' W l o') (fun r e => by cases e; exact ⟨hB, hn, o, hl, ho⟩)
theorem Inv.mono {β : Type} {B C : Nat} {J : β → List Nat → World → Prop} (h : Inv B J) (hBC : B ≤ C) : Inv C J :=
  ⟨fun s L W W' row hj hg hr => h.own s L W W' row hj hg fun r e => ⟨Nat.le_trans hBC (hr r e).1, (hr r e).2⟩, h.lt⟩
/-- What a round of the loop l answers to its iterator. -/
def RndPost {α : Type} (J Jx : List α → List Nat → World → Prop) (xs : List α) (L : List Nat) (W : World) (e : Ending) (W' : World) : Prop :=
  ∃ L', Mv L W L' W' ∧ ((e = .returned (.bool true) ∧ J xs L' W') ∨ (e = .returned (.bool false) ∧ Jx xs L' W'))
/-- The function value g with what it has captured yields the things xs, one after the other, where the blocks L0 are the round's own. -/
def SeqO {α : Type} (g : Nat) (lb : Array Value) (Of : α → Array Value → World → Prop) (xs : List α) (L0 : List Nat) (w : World) : Prop :=
  ∀ (l : Nat) (J Jx : List α → List Nat → World → Prop) (L1 : List Nat) (W : World), Mv L0 w L1 W → Inv W.heap.size J → Inv W.heap.size Jx →
    (∀ pre x args L V, J pre L V → Of x args (av L V) → pre ++ [x] <+: xs → ∀ m, YieldAt Fence.wide m Tryd.prog l args V (RndPost J Jx (pre ++ [x]) L V)) →
    J [] L1 W →
    Calls Tryd.prog g (#[.func (.yield l) #[] #[]] ++ lb) W fun e W' => (∃ v, e = .returned v) ∧ ∃ L', Mv L1 W L' W' ∧ (J xs L' W' ∨ ∃ pre, pre <+: xs ∧ Jx pre L' W')
/-- How the body of a round may be left. -/
def rndBody {α : Type} (I : List α → List Nat → World → Prop) (Ix : Code → List α → List Nat → World → Prop) (xs : List α) (L : List Nat) (W : World) : Exit → Act → World → Prop
  | .normal, _, W' => ∃ L', Mv L W L' W' ∧ I xs L' W'
  | .ret, _, W' => ∃ L', Mv L W L' W' ∧ Ix .ret xs L' W'
  | .exit id, _, W' => ∃ L', Mv L W L' W' ∧ Ix (.exit id) xs L' W'
  | .goto t, _, W' => ∃ L', Mv L W L' W' ∧ Ix (.goto t) xs L' W'
  | .panic _, _, _ => False
  | .outgrown, _, _ => False
set_option maxHeartbeats 1000000 in
/-- The statement 'for .. := range g { .. }'. -/
theorem rangeO {α : Type} {n : Nat} {g : Operand} {ps : Array Tmp} {assign body : Code} {Q' : Exit → Act → World → Prop} {a : Act} {w : World} {gf : Nat} {lb : Array Value}
    (hg : a.eval g = .func (.func gf) #[] lb) (eg : ∀ args w, (callFunc gf args).run Tryd.prog w = .ok (.enter gf args) w)
    {Of : α → Array Value → World → Prop} {xs : List α} {L0 : List Nat} (hseq : SeqO gf lb Of xs L0 w) (hOf : ∀ x args W W', Has W W' → Of x args W → Of x args W') (hps : ∀ x args W, Of x args W → args.size = ps.size)
    (I : List α → List Nat → World → Prop) (Ix : Code → List α → List Nat → World → Prop) (hI : Inv w.heap.size I) (hIx : ∀ c, Inv w.heap.size (Ix c)) (h0 : I [] L0 w)
    (Ax : α → Array Value → Act → List Nat → World → Prop) (hAx : ∀ x args a' L W l o o', Ax x args a' L W → W.heap[l]? = some o → o.isCells = false → Ax x args a' L (W.putObj l o'))
    (hassign : ∀ (l : Nat) (pre : List α) (x : α) (args : Array Value) (L : List Nat) (W : World) (K : Act → World → Prop), I pre L W → Of x args (av L W) → pre ++ [x] <+: xs → (∀ a' W', Below W.heap.size W W' → Ax x args a' L W' → K a' W') →
      assign.wpIn (Fence.wide.inRound l) (n - 1 - 1) Tryd.prog (Exit.then K (fun _ _ _ => False)) { tmps := (ps.zip args).foldl (fun t (p, v) => t.setIfInBounds p v) a.tmps, defers := [] } W)
    (hbody : ∀ (l : Nat) (pre : List α) (x : α) (args : Array Value) (a' : Act) (L : List Nat) (W : World), w.heap.size ≤ l → l ∉ L → (∃ r, W.heap[l]? = some (.loop r)) → I pre L W → Of x args (av L W) → Ax x args a' L W → pre ++ [x] <+: xs →
      body.wpIn (Fence.wide.inRound l) (n - 1 - 1) Tryd.prog (rndBody I Ix (pre ++ [x]) L W) a' W)
    (hdone : ∀ (D : Nat) (L : List Nat) (W : World), w.heap.size ≤ D → D ∉ L → Mv L0 w L W → I xs L W → W.heap[D]? = some (.deferred (some [])) → Q' .normal { a with defers := { target := .collected D, args := #[] } :: a.defers } W)
    (hstop : ∀ (D : Nat) (c : Code) (pre : List α) (L : List Nat) (W : World), w.heap.size ≤ D → D ∉ L → Mv L0 w L W → pre <+: xs → Ix c pre L W → W.heap[D]? = some (.deferred (some [])) → c.wpIn Fence.wide n Tryd.prog Q' { a with defers := { target := .collected D, args := #[] } :: a.defers } W) :
    (Code.rangeFunc g ps assign body).wpIn Fence.wide n Tryd.prog Q' a w := by
  refine wpIn_rangeFunc ?_
  intro fn hfn
  have hro : Fence.wide.round = none := rfl
  rw [hro]
  obtain ⟨rec, hrec⟩ : ∃ rec : LoopState → Option Code → Loop, rec = fun st pe => { state := st, pending := pe, fn, tmps := a.tmps, params := ps, assign, body, defers := w.heap.size } := ⟨_, rfl⟩
  have hsz : ((w.alloc (.deferred (some []))).alloc (.loop (rec .ready none))).heap.size = w.heap.size + 2 := by simp
  have hL1 : ((w.alloc (.deferred (some []))).alloc (.loop (rec .ready none))).heap[w.heap.size + 1]? = some (.loop (rec .ready none)) := by
    have := World.alloc_heap_new (w.alloc (.deferred (some []))) (.loop (rec .ready none))
    rwa [World.size_alloc] at this
  have hK1 : ((w.alloc (.deferred (some []))).alloc (.loop (rec .ready none))).heap[w.heap.size]? = some (.deferred (some [])) :=
    (Below.heap_alloc _ _ _ (by simp)).trans (World.alloc_heap_new w _)
  have hB1 : Below w.heap.size w ((w.alloc (.deferred (some []))).alloc (.loop (rec .ready none))) := ((bl w).al _).al _
  have hbeg := run_enterLoop_outer (P := Tryd.prog) (w := w) fn a.tmps ps assign body
  rw [show (w.alloc (.deferred (some []))).alloc (.loop { state := .ready, pending := none, fn, tmps := a.tmps, params := ps, assign, body, defers := w.heap.size }) = (w.alloc (.deferred (some []))).alloc (.loop (rec .ready none)) by rw [hrec]] at hbeg
  generalize (w.alloc (.deferred (some []))).alloc (.loop (rec .ready none)) = W1 at *
  have hl0 := hI.lt _ _ _ h0
  refine ⟨w.heap.size + 1, [{ target := .collected w.heap.size, args := #[] }], W1, { target := .fn (.func gf) lb, args := #[.func (.yield (w.heap.size + 1)) #[] #[]] }, W1, gf,
    #[.func (.yield (w.heap.size + 1)) #[] #[]] ++ lb, W1, hbeg, ?_, fun _ _ => trivial, ?_, fun h => (by cases h), ?_⟩
  · simp only [resolve, hg]
    simp [go_sem]
  · simp [invoke, go_sem, eg]
  refine (callsIn_wide.2 (hseq (w.heap.size + 1)
    (fun pre L W => ∃ M, L = (w.heap.size + 1) :: M ∧ I pre M W ∧ W.heap[w.heap.size + 1]? = some (.loop (rec .ready none)) ∧ W.heap[w.heap.size]? = some (.deferred (some [])) ∧ w.heap.size + 1 ∉ M ∧ w.heap.size ∉ M)
    (fun pre L W => ∃ c M, L = (w.heap.size + 1) :: M ∧ Ix c pre M W ∧ W.heap[w.heap.size + 1]? = some (.loop (rec .done (some c))) ∧ W.heap[w.heap.size]? = some (.deferred (some [])) ∧ w.heap.size + 1 ∉ M ∧ w.heap.size ∉ M)
    ((w.heap.size + 1) :: L0) W1 ⟨kept_below hB1, fun g hg => ?_⟩ ⟨?_, ?_⟩ ⟨?_, ?_⟩ ?_ ?_)).mono ?_
  · rcases List.mem_cons.1 hg with rfl | hg
    · exact .inr (by omega)
    · exact .inl hg
  · rintro s L A B row ⟨M, rfl, hi, hl, hk, h1, h2⟩ hgr hr
    have hne : ∀ r, r < W1.heap.size → some r ≠ row := fun r hlt e => by have := (hr r e.symm).1; omega
    refine ⟨M, rfl, hI.own _ _ _ _ row hi hgr fun r e => ⟨by have := (hr r e).1; omega, fun hm => (hr r e).2.1 (by simp [hm]), (hr r e).2.2⟩, (hgr.block _ (Array.getElem?_eq_some_iff.1 hl).1 (hne _ (by omega))).trans hl, (hgr.block _ (Array.getElem?_eq_some_iff.1 hk).1 (hne _ (by omega))).trans hk, h1, h2⟩
  · rintro s L A ⟨M, rfl, hi, hl, _⟩ g hg
    rcases List.mem_cons.1 hg with rfl | hg
    · exact (Array.getElem?_eq_some_iff.1 hl).1
    · exact hI.lt _ _ _ hi g hg
  · rintro s L A B row ⟨c, M, rfl, hi, hl, hk, h1, h2⟩ hgr hr
    have hne : ∀ r, r < W1.heap.size → some r ≠ row := fun r hlt e => by have := (hr r e.symm).1; omega
    refine ⟨c, M, rfl, (hIx c).own _ _ _ _ row hi hgr fun r e => ⟨by have := (hr r e).1; omega, fun hm => (hr r e).2.1 (by simp [hm]), (hr r e).2.2⟩, (hgr.block _ (Array.getElem?_eq_some_iff.1 hl).1 (hne _ (by omega))).trans hl, (hgr.block _ (Array.getElem?_eq_some_iff.1 hk).1 (hne _ (by omega))).trans hk, h1, h2⟩
  · rintro s L A ⟨c, M, rfl, hi, hl, _⟩ g hg
    rcases List.mem_cons.1 hg with rfl | hg
    · exact (Array.getElem?_eq_some_iff.1 hl).1
    · exact (hIx c).lt _ _ _ hi g hg
  · -- one round
    rintro pre x args L W ⟨M, rfl, hi, hl, hk, h1, h2⟩ hof hpre m
    have hof1 : Of x args (av M W) := hOf _ _ _ _ (has_sub fun g hg => List.mem_cons_of_mem _ hg) hof
    have hy := run_yield (P := Tryd.prog) (args := args) hl (by rw [hrec]; exact hps x args _ hof)
    rw [hrec] at hy
    have hR : RoundIn Fence.wide (n - 1 - 1) Tryd.prog (w.heap.size + 1) fn ((ps.zip args).foldl (fun t (p, v) => t.setIfInBounds p v) a.tmps) assign body W
      (RndPost (fun pre L W => ∃ M, L = (w.heap.size + 1) :: M ∧ I pre M W ∧ W.heap[w.heap.size + 1]? = some (.loop (rec .ready none)) ∧ W.heap[w.heap.size]? = some (.deferred (some [])) ∧ w.heap.size + 1 ∉ M ∧ w.heap.size ∉ M)
        (fun pre L W => ∃ c M, L = (w.heap.size + 1) :: M ∧ Ix c pre M W ∧ W.heap[w.heap.size + 1]? = some (.loop (rec .done (some c))) ∧ W.heap[w.heap.size]? = some (.deferred (some [])) ∧ w.heap.size + 1 ∉ M ∧ w.heap.size ∉ M) (pre ++ [x]) ((w.heap.size + 1) :: M) W) := by
      refine roundIn_of_wpIn hfn (hassign _ pre x args M W _ hi hof1 hpre fun a' V hV hax => ?_)
      have hlV : V.heap[w.heap.size + 1]? = some (.loop (rec .ready none)) := (hV.block _ (Array.getElem?_eq_some_iff.1 hl).1).trans hl
      have hkV : V.heap[w.heap.size]? = some (.deferred (some [])) := (hV.block _ (Array.getElem?_eq_some_iff.1 hk).1).trans hk
      refine ⟨_, run_beginRound hlV (by rw [hrec]), ?_⟩
      have hltV := (Array.getElem?_eq_some_iff.1 hlV).1
      have hl2 : (V.putObj (w.heap.size + 1) (.loop { rec .ready none with state := .busy })).heap[w.heap.size + 1]? = some (.loop { rec .ready none with state := .busy }) := World.putObj_heap_same hltV
      have hk2 : (V.putObj (w.heap.size + 1) (.loop { rec .ready none with state := .busy })).heap[w.heap.size]? = some (.deferred (some [])) := (World.putObj_heap_other (by omega)).trans hkV
      have hi2 : I pre M (V.putObj (w.heap.size + 1) (.loop { rec .ready none with state := .busy })) := hI.put _ (hI.st hi hV) (by omega) h1 hlV rfl
      have hk12 : Kept ((w.heap.size + 1) :: M) W (V.putObj (w.heap.size + 1) (.loop { rec .ready none with state := .busy })) := kept_put (kept_below hV) _ _ (.inl (by simp))
      have hof2 : Of x args (av M (V.putObj (w.heap.size + 1) (.loop { rec .ready none with state := .busy }))) := by
        refine hOf _ _ _ _ (fun b o v hv => ?_) hof
        obtain ⟨q1, q2⟩ := av_cell.1 hv
        exact av_cell.2 ⟨fun h => q1 (List.mem_cons_of_mem _ h), hk12.cell q1 q2⟩
      have hs2 : W.heap.size ≤ (V.putObj (w.heap.size + 1) (.loop { rec .ready none with state := .busy })).heap.size := by simpa using hV.size
      have hax2 := hAx x args a' M V (w.heap.size + 1) _ (.loop { rec .ready none with state := .busy }) hax hlV rfl
      have hbd := hbody (w.heap.size + 1) pre x args a' M _ (by omega) h1 ⟨_, hl2⟩ hi2 hof2 hax2 hpre
      generalize V.putObj (w.heap.size + 1) (.loop { rec .ready none with state := .busy }) = V2 at *
      refine wpIn_mono hbd ?_
      have fin : ∀ (jump : Option Code) (M' : List Nat) (W3 : World), Mv M V2 M' W3 →
          (Instr.endRound (w.heap.size + 1) jump).run Tryd.prog W3 = .ok (.bool jump.isNone) (W3.putObj (w.heap.size + 1) (.loop (rec (if jump.isNone then .ready else .done) jump))) ∧
          W3.heap[w.heap.size + 1]? = some (.loop { rec .ready none with state := .busy }) ∧
          (W3.putObj (w.heap.size + 1) (.loop (rec (if jump.isNone then .ready else .done) jump))).heap[w.heap.size + 1]? = some (.loop (rec (if jump.isNone then .ready else .done) jump)) ∧
          (W3.putObj (w.heap.size + 1) (.loop (rec (if jump.isNone then .ready else .done) jump))).heap[w.heap.size]? = some (.deferred (some [])) ∧ w.heap.size + 1 ∉ M' ∧ w.heap.size ∉ M' ∧
          Mv ((w.heap.size + 1) :: M) W ((w.heap.size + 1) :: M') (W3.putObj (w.heap.size + 1) (.loop (rec (if jump.isNone then .ready else .done) jump))) := fun jump M' W3 hmv => by
        obtain ⟨hl3, n1⟩ := hmv.heap h1 hl2
        obtain ⟨hk3, n2⟩ := hmv.heap h2 hk2
        have := run_endRound (P := Tryd.prog) jump hl3
        refine ⟨?_, hl3, World.putObj_heap_same (Array.getElem?_eq_some_iff.1 hl3).1, (World.putObj_heap_other (by omega)).trans hk3, n1, n2, kept_put (hk12.tr (hmv.kept.sub fun g hg => .inl (List.mem_cons_of_mem _ hg))) _ _ (.inl (by simp)), fun g hg => ?_⟩
        · rw [this, hrec]
        · rcases List.mem_cons.1 hg with rfl | hg
          · exact .inl (by simp)
          · rcases hmv.sub g hg with e | e
            · exact .inl (List.mem_cons_of_mem _ e)
            · exact .inr (Nat.le_trans hs2 e)
      rintro e a3 W3 hp
      cases e with
      | normal =>
        obtain ⟨M', hmv, hi3⟩ := hp
        obtain ⟨hr, hl3, hl4, hk4, n1, n2, hm⟩ := fin none M' W3 hmv
        exact ⟨_, _, hr, _, hm, .inl ⟨rfl, M', rfl, hI.put _ hi3 (by omega) n1 hl3 rfl, hl4, hk4, n1, n2⟩⟩
      | ret =>
        obtain ⟨M', hmv, hi3⟩ := hp
        obtain ⟨hr, hl3, hl4, hk4, n1, n2, hm⟩ := fin (some .ret) M' W3 hmv
        exact ⟨_, _, hr, _, hm, .inr ⟨rfl, .ret, M', rfl, (hIx _).put _ hi3 (by omega) n1 hl3 rfl, hl4, hk4, n1, n2⟩⟩
      | exit id =>
        obtain ⟨M', hmv, hi3⟩ := hp
        obtain ⟨hr, hl3, hl4, hk4, n1, n2, hm⟩ := fin (some (.exit id)) M' W3 hmv
        exact ⟨_, _, hr, _, hm, .inr ⟨rfl, .exit id, M', rfl, (hIx _).put _ hi3 (by omega) n1 hl3 rfl, hl4, hk4, n1, n2⟩⟩
      | goto t =>
        obtain ⟨M', hmv, hi3⟩ := hp
        obtain ⟨hr, hl3, hl4, hk4, n1, n2, hm⟩ := fin (some (.goto t)) M' W3 hmv
        exact ⟨_, _, hr, _, hm, .inr ⟨rfl, .goto t, M', rfl, (hIx _).put _ hi3 (by omega) n1 hl3 rfl, hl4, hk4, n1, n2⟩⟩
      | panic ch => exact hp.elim
      | outgrown => exact hp.elim
    refine ⟨fn, _, assign, body, hy, hR.1, fun c cs _ => hR.2 c cs (room_wide _)⟩
  · exact ⟨L0, rfl, hI.st h0 hB1, hL1, hK1, fun h => by have := hl0 _ h; omega, fun h => by have := hl0 _ h; omega⟩
  · -- behind the iterator
    rintro e W2 ⟨⟨v, rfl⟩, L', hmv, (⟨M, rfl, hi, hl, hk, h1, h2⟩ | ⟨pre, hpre, c, M, rfl, hi, hl, hk, h1, h2⟩)⟩
    all_goals
      have hk0 : ∀ o, Kept L0 w (W2.putObj (w.heap.size + 1) o) := by
        intro o
        have h3 : Kept L0 w W2 := (kept_below hB1).trNew hmv.kept fun g hg => by
          rcases List.mem_cons.1 hg with rfl | hg
          · exact .inr (by omega)
          · exact .inl hg
        exact kept_put h3 _ _ (.inr (by omega))
      have hs0 : ∀ g ∈ M, g ∈ L0 ∨ w.heap.size ≤ g := fun g hg => by
        rcases hmv.sub g (List.mem_cons_of_mem _ hg) with e | e
        · rcases List.mem_cons.1 e with rfl | e
          · exact .inr (by omega)
          · exact .inl e
        · exact .inr (Nat.le_trans hB1.size e)
    · have hend := run_endLoop (P := Tryd.prog) hl (by rw [hrec]; simp)
      refine ⟨none, _, by rw [hend, hrec], ?_⟩
      refine hdone _ M _ (Nat.le_refl _) h2 ⟨?_, hs0⟩ (hI.put _ hi (by omega) h1 hl rfl) ((World.putObj_heap_other (by omega)).trans hk)
      exact hk0 _
    · have hend := run_endLoop (P := Tryd.prog) hl (by rw [hrec]; simp)
      refine ⟨some c, _, by rw [hend, hrec], ?_⟩
      refine hstop _ c pre M _ (Nat.le_refl _) h2 ⟨?_, hs0⟩ hpre ((hIx c).put _ hi (by omega) h1 hl rfl) ((World.putObj_heap_other (by omega)).trans hk)
      exact hk0 _
end Go.Proofs.YtccgpmncpemmdaaDoor
