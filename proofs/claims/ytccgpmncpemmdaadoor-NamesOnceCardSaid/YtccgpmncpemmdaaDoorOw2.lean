/- More on slices that a call appends to: what comes in is appended; rows that come in, as lists of cells. -/
import Derived.Test.YtccgpmncpemmdaaDoorOwn
namespace Go.Proofs.YtccgpmncpemmdaaDoor
open Go Go.RowKit
set_option linter.unusedSimpArgs false
set_option linter.unusedVariables false
set_option linter.unnecessarySimpa false
theorem run_append_none0 {P : Program} {w : World} (base : Nat) (t ty e : TypeId) (i : TypeInfo) (size cp : Nat) (ht : P.underlying t = some (.slice e)) (hi : P.info? e = some i)
    (v : Value) (n : Nat) (xs : List Value) (hown : w.ownsRow base e size v n xs) :
    (Builtin.append_ #[t, t] ty #[v, .slice none 0 cp]).run P w = .ok v w := by
  rcases hown.2 with ⟨rfl, rfl⟩ | ⟨g, cap, cur, rfl, _, _, hnc, _⟩
  · simp [Builtin.append_, run_underlying ht, sizeOf, typeInfo, hi, Builtin.lenOf, Builtin.firstCells]
  · simp [Builtin.append_, run_underlying ht, sizeOf, typeInfo, hi, Builtin.lenOf, Builtin.firstCells, hnc, storeCells]
/-- append of all elements of a slice that came in. -/
theorem wpList_pushin {α : Type} {P : Program} (w : World) {ops : Array Oper} {rest : List Oper} {o : Oper} {a : Act} {Q : Exit → Act → World → Prop} (hgd : o.guard = none) (s x : Operand) (t : TypeId)
    (ho : o.op = .call { callee := .builtin .append, args := #[s, x], argTypes := #[t, t] })
    (base : Nat) (e : TypeId) (i : TypeInfo) (z : Value) (size bytes : Nat) (ht : P.underlying t = some (.slice e)) (hi : P.info? e = some i) (hz : i.zero = some z)
    (hsize : i.size = size) (hby : i.bytes = bytes) (hzs : z.cells.size = size) (hsz : 0 < size)
    (V : World → α → List Value → Prop) (hm : Mono V) (ban : List Nat) (v : Value) (l : List α) (hs : a.eval s = v) (hown : OwnL w base e size V ban v l)
    (pa : Option Addr) (cp : Nat) (ms : List α) (hx : a.eval x = .slice pa ms.length cp)
    (hin : (pa = none ∧ ms = []) ∨ ∃ ad news, pa = some ad ∧ (∀ j u, news[j]? = some u → w.cell? (ad.add j) = some u) ∧ (∀ u ∈ news, u.oneCell' = true) ∧ Cut size (V (av (v.ownBlock.toList ++ ban) w)) ms news)
    (h63 : l.length + ms.length ≤ maxLen) (hbytes : (l.length + ms.length) * bytes ≤ 140737488355328) (hbase : base ≤ w.heap.size)
    (h : ∀ v' w', OwnL w' base e size V ban v' (l ++ ms) → w.grownBy w' v.ownBlock → wpList P ops Q rest (a.put o.dst v') w') :
    wpList P ops Q (o :: rest) a w := by
  have hown0 := hown
  obtain ⟨xs, hown, hcut⟩ := hown
  rcases hin with ⟨rfl, rfl⟩ | ⟨ad, news, rfl, hnews, h1, hv⟩
  · refine wpList_plain hgd fun K hK => ?_
    have hrun := run_append_none0 (P := P) (w := w) base t o.type e i size cp ht hi v l.length xs hown
    unfold Oper.wp
    simp [execOp, ho, resolve, invoke, builtin, hs, hx, hrun, Result.andThen]
    refine hK _ _ (h v w ?_ ⟨rfl, rfl, rfl, Nat.le_refl _, fun _ _ _ => rfl⟩)
    rw [List.append_nil]
    exact hown0
  · exact wpList_append_own_at w hgd s x t ho base e i z size bytes ht hi hz hsize hby hzs hsz v l.length xs hs hown ad ms.length cp news hx hv.len hnews h1 h63 hbytes hbase fun v' w' hown' hgrow _ hat =>
      h v' w' (own_push hm hown hcut hown' hgrow hat hv) hgrow
/-- A slice that was made without elements. -/
theorem OwnL.made0 {α : Type} (w : World) (base : Nat) (t : TypeId) (sz : Nat) (V : World → α → List Value → Prop) (ban : List Nat) (n : Nat) (hn : n = w.heap.size) (hb : base ≤ w.heap.size) : OwnL (w.alloc (.cells #[] t)) base t sz V ban (.slice (some ⟨n, 0, none⟩) 0 0) [] := by
  subst hn
  exact ⟨[], World.ownsRow_made w #[] 0 hb (Nat.zero_le _) (by simp), rfl⟩
theorem Cut.cells {α : Type} {sz : Nat} {V : α → List Value → Prop} {P : Value → Prop} (hP : ∀ a c, V a c → ∀ u ∈ c, P u) : ∀ {l : List α} {xs : List Value}, Cut sz V l xs → ∀ u ∈ xs, P u
  | [], _, h => by
    simp only [Cut] at h
    subst h
    simp
  | a :: l, xs, h => by
    obtain ⟨c, r, rfl, hc, hv, hr⟩ := h
    intro u hu
    rcases List.mem_append.1 hu with hu | hu
    · exact hP _ _ hv u hu
    · exact Cut.cells hP hr u hu
/-- A slice of the call's own, as what is handed to append. -/
theorem OwnL.news {α : Type} {w : World} {base sz : Nat} {t : TypeId} {V : World → α → List Value → Prop} {ban : List Nat} {v : Value} {l : List α} (h : OwnL w base t sz V ban v l) (h1 : ∀ W a c, V W a c → ∀ u ∈ c, u.oneCell' = true) :
    ∃ pa cap, v = .slice pa l.length cap ∧ ((pa = none ∧ l = []) ∨ ∃ ad news, pa = some ad ∧ (∀ j u, news[j]? = some u → w.cell? (ad.add j) = some u) ∧ (∀ u ∈ news, u.oneCell' = true) ∧ Cut sz (V (av (v.ownBlock.toList ++ ban) w)) l news) := by
  rcases h.form with ⟨rfl, rfl⟩ | ⟨g, cap, hv, _⟩
  · exact ⟨none, 0, rfl, .inl ⟨rfl, rfl⟩⟩
  · obtain ⟨xs, hown, hcut⟩ := h
    refine ⟨_, cap, hv, .inr ⟨_, xs, rfl, hown.cells (g := g) (by rw [hv]; rfl), ?_, hcut⟩⟩
    exact hcut.cells fun a c hv => h1 _ a c hv
theorem ExC.one {W : World} {a : Ex} {c : List Value} (h : ExC W a c) : ∀ u ∈ c, u.oneCell' = true := by
  obtain ⟨_, _, rfl, _⟩ := h
  simp [Value.oneCell']
theorem StC.one {W : World} {a : St} {c : List Value} (h : StC W a c) : ∀ u ∈ c, u.oneCell' = true := by
  obtain ⟨_, _, _, _, _, _, rfl, _⟩ := h
  simp [Value.oneCell']
theorem PmC.one {W : World} {a : Pm} {c : List Value} (h : PmC W a c) : ∀ u ∈ c, u.oneCell' = true := by
  obtain ⟨rfl, _⟩ := h
  simp [Value.oneCell']
/-- A row of expressions as a list of cells. -/
theorem Ex.Row.cut {w : World} : ∀ {l : List Ex} {b o : Nat}, Ex.Row w l (some ⟨b, o, none⟩) → ∃ xs, Cut 5 (ExC w) l xs ∧ ∀ (j : Nat) (u : Value), xs[j]? = some u → w.cell? ⟨b, o + j, none⟩ = some u
  | [], _, _, _ => ⟨[], rfl, by simp⟩
  | e :: es, b, o, h => by
    simp only [Ex.Row] at h
    obtain ⟨b', o', ha, he, hr⟩ := h
    simp only [Option.some.injEq, Addr.mk.injEq, and_true] at ha
    obtain ⟨rfl, rfl⟩ := ha
    obtain ⟨a, cap, c0, c1, c2, c3, c4, hw, hrow⟩ := he.val
    obtain ⟨xs, hcut, hx⟩ := Ex.Row.cut hr
    refine ⟨[.int .i64 e.kind, .int .i64 e.op, .int .i64 e.num, .string ⟨e.name.toArray⟩, .slice a e.args.length cap] ++ xs, ⟨_, xs, rfl, rfl, ⟨a, cap, rfl, hw, hrow⟩, hcut⟩, fun j u hu => ?_⟩
    rcases j with _ | _ | _ | _ | _ | j
    · simp at hu; subst hu; exact c0
    · simp at hu; subst hu; exact c1
    · simp at hu; subst hu; exact c2
    · simp at hu; subst hu; exact c3
    · simp at hu; subst hu; exact c4
    · have := hx j u (by simpa using hu)
      rwa [show o + 5 + j = o + (j + 1 + 1 + 1 + 1 + 1) by omega] at this
theorem Ex.Row.pushin {w : World} {X : List Nat} {l : List Ex} {pa : Option Addr} (h : Ex.Row (av X w) l pa) :
    (pa = none ∧ l = []) ∨ ∃ ad news, pa = some ad ∧ (∀ j u, news[j]? = some u → w.cell? (ad.add j) = some u) ∧ (∀ u ∈ news, u.oneCell' = true) ∧ Cut 5 (ExC (av X w)) l news := by
  cases l with
  | nil =>
    cases pa with
    | none => exact .inl ⟨rfl, rfl⟩
    | some ad => exact .inr ⟨ad, [], rfl, by simp, by simp, rfl⟩
  | cons e es =>
    obtain ⟨b, o, rfl⟩ := h.addr (by simp)
    obtain ⟨xs, hcut, hx⟩ := h.cut
    exact .inr ⟨_, xs, rfl, fun j u hu => by rw [Addr.add_lit]; exact has_av _ _ _ (hx j u hu), hcut.cells fun a c hv => hv.one, hcut⟩
theorem Pms.pushin {w : World} {l : List Pm} {pa : Option Addr} {cap : Nat} (h : Pms w l pa cap) (X : List Nat) :
    (pa = none ∧ l = []) ∨ ∃ ad news, pa = some ad ∧ (∀ j u, news[j]? = some u → w.cell? (ad.add j) = some u) ∧ (∀ u ∈ news, u.oneCell' = true) ∧ Cut 2 (PmC (av X w)) l news := by
  cases l with
  | nil =>
    cases pa with
    | none => exact .inl ⟨rfl, rfl⟩
    | some ad => exact .inr ⟨ad, [], rfl, by simp, by simp, rfl⟩
  | cons p ps =>
    obtain ⟨b, o, rfl⟩ := h.addr (by simp)
    have key : ∀ (l : List Pm) (o : Nat), (∀ p ∈ l, p.name.length ≤ maxLen ∧ I64 p.typ) → (∀ (i : Nat) (h : i < l.length), w.cell? ⟨b, o + i * 2, none⟩ = some (.string ⟨l[i].name.toArray⟩) ∧ w.cell? ⟨b, o + i * 2 + 1, none⟩ = some (.int .i64 l[i].typ)) →
        ∃ xs, Cut 2 (PmC (av X w)) l xs ∧ ∀ (j : Nat) (u : Value), xs[j]? = some u → w.cell? ⟨b, o + j, none⟩ = some u := by
      intro l
      induction l with
      | nil => exact fun _ _ _ => ⟨[], rfl, by simp⟩
      | cons p l ih =>
        intro o hw hc
        obtain ⟨xs, hcut, hx⟩ := ih (o + 2) (fun q hq => hw q (by simp [hq])) (fun i hi => by
          have := hc (i + 1) (by simpa using hi)
          rw [show o + (i + 1) * 2 = o + 2 + i * 2 by omega] at this
          simpa using this)
        refine ⟨[.string ⟨p.name.toArray⟩, .int .i64 p.typ] ++ xs, ⟨_, xs, rfl, rfl, ⟨rfl, hw p (by simp)⟩, hcut⟩, fun j u hu => ?_⟩
        have h0 := hc 0 (by simp)
        rcases j with _ | _ | j
        · simp at hu; subst hu; simpa using h0.1
        · simp at hu; subst hu; simpa using h0.2
        · have := hx j u (by simpa using hu)
          rwa [show o + 2 + j = o + (j + 1 + 1) by omega] at this
    obtain ⟨xs, hcut, hx⟩ := key (p :: ps) o h.wf (h.at_ b o rfl)
    exact .inr ⟨_, xs, rfl, fun j u hu => by rw [Addr.add_lit]; exact hx j u hu, hcut.cells fun a c hv => hv.one, hcut⟩
end Go.Proofs.YtccgpmncpemmdaaDoor
