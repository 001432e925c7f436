/-
  Part 3 of the proof: the rules by which a call is walked.
-/
import Derived.Below
import Derived.ChangeKeysEq
import Derived.Deep.Draws
import Derived.KernelRfl
import Derived.Laws.CopyRow
import Derived.Laws.Cover3
import Derived.Laws.IdiomCopy
import Derived.Laws.IdiomStrings
import Derived.Laws.OwnMore
import Derived.Laws.Rows
import Derived.Laws.Small
import Derived.Laws.StructEq
import Derived.Lib.AppendZeros
import Derived.Maps.AppendAt
import Derived.Orders
import Derived.StillTail
import Derived.Tactics
import Derived.Test.YtggclegkceimjaaDoorProg
import Derived.Test.YtggclegkceimjaaDoorPart2
set_option linter.all false
set_option linter.unusedVariables false
set_option linter.unusedSimpArgs false
namespace Go.AL
open Go.RowKit
/-- The elements lie frozen; nothing is the call's own. -/
def Fz (sz : Nat) (l : List (List PV)) : XO where
  ok w F lc := match lc with
    | .row A cap => l.length ≤ cap ∧ (∀ e ∈ l, e.length = sz) ∧ (l ≠ [] → ∃ (b : Nat) (us : Nat → Value), A = some b ∧ (∀ j : Nat, j < l.length * sz → F b j) ∧ (∀ j : Nat, j < l.length * sz → w.cell? ⟨b, j, none⟩ = some (us j)) ∧ ∀ i e, l[i]? = some e → ∀ (j : Nat) x, e[j]? = some x → RP w F x (us (i * sz + j)))
    | _ => False
  fp _ _ _ := False
  cover := fun _ h => h.elim
  mono := fun {w w' F F' lc} h hF hw hb => by
    cases lc with
    | «at» => exact h
    | row A cap =>
      obtain ⟨h1, h2, h3⟩ := h
      refine ⟨h1, h2, fun hne => ?_⟩
      obtain ⟨b, us, rfl, g1, g2, g3⟩ := h3 hne
      exact ⟨b, us, rfl, fun j hj => hF _ _ (g1 j hj), fun j hj => (hw _ _ (g1 j hj)).trans (g2 j hj), fun i e he j x hx => RP.mono hF hw (g3 i e he j x hx)⟩
/-- The elements lie frozen; the room behind them is the call's own. -/
def Tl (e : TypeId) (sz : Nat) (l : List (List PV)) : XO where
  ok w F lc := match lc with
    | .row A cap => ∃ xs : List Value, w.ownsRow 0 e sz (rowV A l.length cap) l.length xs ∧ (∀ e ∈ l, e.length = sz) ∧ (∀ i e, l[i]? = some e → ∀ (j : Nat) x, e[j]? = some x → RP w F x (xs.getD (i * sz + j) undef)) ∧ ∀ b, A = some b → ∀ k : Nat, k < l.length * sz → F b k
    | _ => False
  fp lc b k := match lc with
    | .row A _ => A = some b ∧ l.length * sz ≤ k
    | _ => False
  cover := fun {w F lc b k} h hf k' => by
    cases lc with
    | «at» => exact hf.elim
    | row A cap =>
      obtain ⟨xs, h1, h2, h3, h4⟩ := h
      by_cases hk : k' < l.length * sz
      · exact .inr (h4 b hf.1 k' hk)
      · exact .inl ⟨hf.1, by omega⟩
  mono := fun {w w' F F' lc} h hF hw hb => by
    cases lc with
    | «at» => exact h
    | row A cap =>
      obtain ⟨xs, h1, h2, h3, h4⟩ := h
      exact ⟨xs, ownsRow_of_heap h1 (fun b hA => hb b (l.length * sz) ⟨hA, Nat.le_refl _⟩), h2, fun i e he j x hx => RP.mono hF hw (h3 i e he j x hx), fun b hA k hk => hF _ _ (h4 b hA k hk)⟩
theorem Tl.fz {e : TypeId} {sz : Nat} {l : List (List PV)} {w : World} {F : Nat → Nat → Prop} {lc : Loc} (hpos : 0 < sz) (h : (Tl e sz l).ok w F lc) : (Fz sz l).ok w F lc := by
  cases lc with
  | «at» => exact False.elim h
  | row A cap =>
    obtain ⟨xs, h1, h2, h3, h4⟩ := h
    have hcap : l.length ≤ cap := by
      rcases h1.2 with ⟨g1, g2⟩ | ⟨g, c, cur, g1, _, _, g2, _⟩
      · omega
      · cases A with
        | none => simp [rowV] at g1
        | some b => simp only [rowV, Option.map_some, Value.slice.injEq] at g1; omega
    refine ⟨hcap, h2, fun hne => ?_⟩
    have hlp : 0 < l.length := List.length_pos_iff.2 hne
    cases A with
    | none =>
      exfalso
      rcases h1.2 with ⟨_, g2⟩ | ⟨g, c, cur, g1, _⟩
      · omega
      · simp [rowV] at g1
    | some b =>
      have hlen : xs.length = l.length * sz := h1.1
      refine ⟨b, fun j => xs.getD j undef, rfl, fun j hj => h4 b rfl j hj, fun j hj => ?_, h3⟩
      have hcell : w.cell? ⟨b, j, none⟩ = xs[j]? := h1.cellAt j hj
      show _ = some (xs.getD j undef)
      rw [hcell, List.getD_eq_getElem?_getD, List.getElem?_eq_getElem (by omega)]
      rfl
theorem Fz.rp {sz : Nat} {l : List (List PV)} {w : World} {F : Nat → Nat → Prop} {A : Option Nat} {cap n : Nat} (h : (Fz sz l).ok w F (.row A cap)) (hn : n ≤ l.length) : RP w F (.sl sz (l.take n)) (rowV A n cap) := by
  obtain ⟨h1, h2, h3⟩ := h
  by_cases h0 : n = 0
  · subst h0; rw [List.take_zero]; exact .sl0 ..
  · obtain ⟨b, us, rfl, g1, g2, g3⟩ := h3 (by intro e; rw [e] at hn; simp at hn; omega)
    have hle : n * sz ≤ l.length * sz := Nat.mul_le_mul_right _ hn
    have hlen : (l.take n).length = n := by simp; omega
    have key := RP.sl (w := w) (F := F) (b := b) (o := 0) (cap := cap) (sz := sz) (l := l.take n) us (by omega) (fun e he => h2 e (List.mem_of_mem_take he)) (fun j hj => by rw [Nat.zero_add]; rw [hlen] at hj; exact g1 j (by omega))
      (fun j hj => by rw [hlen] at hj; rw [Nat.zero_add]; exact g2 j (by omega)) (fun q el he j x hx => by
        rw [List.getElem?_take] at he
        split at he
        · exact g3 q el he j x hx
        · cases he)
    rw [hlen] at key
    exact key
section
variable {P : Program} {N : Nat} {Q : AE → St → Prop} {ops : Array Oper} {rest : List Oper} {σ σ' : List AObj} {fr : Fr}
variable {d : Nat} {ty : TypeId} {pos : String} {aft : Array Edge} {v : AV}
/-! ### 1. Read -/
theorem rel_msF {t id n sz : Nat} {l : List (List PV)} (h : fr.get t = .c (.ms id n)) (hok : ∀ w F lc, (∃ X, σ[id]? = some (.ext X) ∧ X.ok w F lc) → (Fz sz l).ok w F lc) (hx : ∃ X, σ[id]? = some (.ext X)) (hn : n ≤ l.length) (m : List Loc) (F : Nat → Nat → Prop) (a : Act) (w : World) (hr : Rel N m F ⟨fr, σ⟩ a w) :
    ∃ m' F', Rel N m' F' ⟨(t, .c (.p (.sl sz (l.take n)))) :: fr, σ⟩ a w ∧ Step m F σ w m' F' σ w := by
  refine ⟨m, F, rel_over hr ?_, Step.refl ..⟩
  have hv := hr.fr t
  rw [h] at hv
  obtain ⟨A, cap, hm, hcap, hv⟩ := rv_ms hv
  obtain ⟨X, hX⟩ := hx
  have := hok w F (.row A cap) ⟨X, hX, hr.inv.obj id _ _ hX hm⟩
  rw [hv]
  exact Fz.rp this hn
theorem k_msT {lst : List Oper} {id n sz : Nat} {e : TypeId} {l : List (List PV)} (t : Nat) (hpos : 0 < sz) (ho : σ[id]? = some (.ext (Tl e sz l))) (k : AList P N ops Q lst ⟨(t, .c (.p (.sl sz (l.take n)))) :: fr, σ⟩) (h : fr.get t = .c (.ms id n) := by exact rfl) (hn : n ≤ l.length := by first | exact Nat.le_refl _ | omega | (simp; done)) : AList P N ops Q lst ⟨fr, σ⟩ :=
  alist_of (rel_msF h (fun w F lc ⟨X, hX, hk⟩ => by rw [ho] at hX; injection hX with hX; injection hX with hX; subst hX; exact Tl.fz hpos hk) ⟨_, ho⟩ hn) k
/-! ### 2. An array of the call's own is frozen, but for the room behind it -/
theorem rel_toT {id : Nat} {e : TypeId} {sz : Nat} {l : List (List PV)} (ho : σ[id]? = some (.arr e sz l)) (m : List Loc) (F : Nat → Nat → Prop) (a : Act) (w : World) (hr : Rel N m F ⟨fr, σ⟩ a w) :
    ∃ m' F', Rel N m' F' ⟨fr, σ.set id (.ext (Tl e sz l))⟩ a w ∧ Step m F σ w m' F' (σ.set id (.ext (Tl e sz l))) w := by
  have i := hr.inv
  have hid : id < σ.length := (List.getElem?_eq_some_iff.1 ho).1
  have hidm : id < m.length := by have := i.len; simp only at this; omega
  obtain ⟨lc, hm⟩ : ∃ lc, m[id]? = some lc := ⟨_, List.getElem?_eq_getElem hidm⟩
  have hob := i.obj id _ _ ho hm
  cases lc with
  | «at» b o => exact hob.elim
  | row A cap =>
  obtain ⟨xs, e1, e2, e3⟩ := hob
  let F' : Nat → Nat → Prop := fun b k => F b k ∨ (A = some b ∧ k < l.length * sz)
  have hmono : ∀ b k, F b k → F' b k := fun b k h => .inl h
  have hsame : ∀ b k, F b k → w.cell? ⟨b, k, none⟩ = w.cell? ⟨b, k, none⟩ := fun _ _ _ => rfl
  have hget : ∀ (j : Nat) oj, (σ.set id (.ext (Tl e sz l)))[j]? = some oj → (j = id ∧ oj = .ext (Tl e sz l)) ∨ (j ≠ id ∧ σ[j]? = some oj) := by
    intro j oj h
    by_cases hj : j = id
    · subst hj
      rw [List.getElem?_set_self hid] at h
      exact .inl ⟨rfl, by simpa using h.symm⟩
    · rw [List.getElem?_set_ne (fun e => hj e.symm)] at h
      exact .inr ⟨hj, h⟩
  have hold : ∀ (j : Nat) oj lj b k, (σ.set id (.ext (Tl e sz l)))[j]? = some oj → m[j]? = some lj → fp oj lj b k → ∃ o', σ[j]? = some o' ∧ fp o' lj b k ∧ (j = id → l.length * sz ≤ k) := by
    intro j oj lj b k h1 h2 h3
    rcases hget j oj h1 with ⟨rfl, rfl⟩ | ⟨hj, h1⟩
    · rw [hm] at h2; injection h2 with h2; subst h2
      exact ⟨_, ho, h3.1, fun _ => h3.2⟩
    · exact ⟨oj, h1, h3, fun hj' => absurd hj' hj⟩
  have hF : ∀ b k, FP (σ.set id (.ext (Tl e sz l))) m b k → FP σ m b k := fun b k ⟨j, oj, lj, h1, h2, h3⟩ => by
    obtain ⟨o', g1, g2, _⟩ := hold j oj lj b k h1 h2 h3
    exact ⟨j, o', lj, g1, h2, g2⟩
  have i' : Inv m F' (σ.set id (.ext (Tl e sz l))) w := by
    refine ⟨by simp [i.len], fun b k hF => ?_, fun b k hf => i.lt b k (hF b k hf), fun j oj lj h1 h2 => ?_, fun j k oj lj ok lk hne h1 h2 h3 h4 b q hf1 hf2 => ?_, fun b k hf hF => ?_⟩
    · rcases hF with hF | ⟨hF, _⟩
      · exact i.frz b k hF
      · exact i.lt b 0 ⟨id, _, _, ho, hm, hF⟩
    · rcases hget j oj h1 with ⟨rfl, rfl⟩ | ⟨hj, h1⟩
      · rw [hm] at h2; injection h2 with h2; subst h2
        exact ⟨xs, e1, e2, fun q el he z x hx => RP.mono hmono hsame (e3 q el he z x hx), fun b hA k hk => .inr ⟨hA, hk⟩⟩
      · have := ObjAt.mono (k := []) (i.obj j oj lj h1 h2) hmono hsame (fun _ _ _ => ⟨rfl, rfl⟩) (fun _ _ _ _ => rfl)
        simpa using this
    · obtain ⟨o1, g1, g2, _⟩ := hold j oj lj b q h1 h2 hf1
      obtain ⟨o2, g3, g4, _⟩ := hold k ok lk b q h3 h4 hf2
      exact i.sep j k o1 lj o2 lk hne g1 h2 g3 h4 b q g2 g4
    · rcases hF with hF' | ⟨hA, hk⟩
      · exact i.dis b k (hF b k hf) hF'
      · obtain ⟨j, oj, lj, h1, h2, h3⟩ := hf
        obtain ⟨o', g1, g2, g3⟩ := hold j oj lj b k h1 h2 h3
        by_cases hj : j = id
        · have := g3 hj; omega
        · exact i.sep j id o' lj _ _ hj g1 h2 ho hm b k g2 hA
  have st : Step m F σ w m F' (σ.set id (.ext (Tl e sz l))) w := by
    refine ⟨⟨[], by simp⟩, hmono, rfl, rfl, rfl, Nat.le_refl _, fun _ _ _ => rfl, fun _ _ _ _ => ⟨rfl, rfl⟩, fun b k hf => ?_⟩
    rcases hf with hf | hf | ⟨hA, _⟩
    · exact .inl (hF b k hf)
    · exact .inr (.inl hf)
    · exact .inl ⟨id, _, _, ho, hm, hA⟩
  exact ⟨m, F', ⟨i', fun t => (hr.fr t).step i st, hr.size, hr.defers⟩, st⟩
theorem kw_toT {c : Code} (id : Nat) {e : TypeId} {sz : Nat} {l : List (List PV)} (ho : σ[id]? = some (.arr e sz l)) (hσ : σ.set id (.ext (Tl e sz l)) = σ') (k : AWp P N c Q ⟨fr, σ'⟩) : AWp P N c Q ⟨fr, σ⟩ := by
  subst hσ
  exact awp_of (rel_toT ho) k
/-! ### 3. An append -/
theorem run_append_keep (w : World) (t ty e : TypeId) (inf : TypeInfo) (z : Value) (sz by' : Nat) (hund : P.underlying t = some (.slice e)) (hinf : P.info? e = some inf) (hz : inf.zero = some z) (hsize : inf.size = sz) (hbytes : inf.bytes = by') (hzs : z.cells.size = sz) (hpos : 0 < sz)
    (A : Option Nat) (cap n : Nat) (xs : List Value) (hown : w.ownsRow 0 e sz (rowV A n cap) n xs) (a : Addr) (k c : Nat) (news : List Value) (hl : news.length = k * sz) (hnews : ∀ j u, news[j]? = some u → w.cell? (a.add j) = some u) (h1 : ∀ u ∈ news, u.oneCell' = true)
    (h63 : n + k ≤ maxLen) (hb : (n + k) * by' ≤ 140737488355328) :
    ∃ A' cap' w', (Builtin.append_ #[t, t] ty #[rowV A n cap, .slice (some a) k c]).run P w = .ok (rowV A' (n + k) cap') w' ∧ n + k ≤ cap' ∧ w'.ownsRow 0 e sz (rowV A' (n + k) cap') (n + k) (xs ++ news) ∧ w.grownBy w' A ∧ (A' = A ∨ (A' = some w.heap.size ∧ ∀ q, q < w.heap.size → w'.heap[q]? = w.heap[q]?)) := by
  obtain ⟨v', w', r1, r2, r3, _, r5⟩ := run_append_own_at (P := P) w 0 t ty e inf z sz by' hund hinf hz hsize hbytes hzs hpos (rowV A n cap) n xs hown a k c news hl hnews h1 h63 hb (Nat.zero_le _)
  have hob : (rowV A n cap).ownBlock = A := by cases A <;> rfl
  rw [hob] at r3 r5
  obtain ⟨A', cap', hv', hcap', hob'⟩ := ownsRow_form r2
  subst hv'
  rw [hob'] at r5
  refine ⟨A', cap', w', r1, hcap', r2, r3, ?_⟩
  rcases r5 with r5 | r5
  · exact .inl r5
  · refine .inr ⟨r5, ?_⟩
    cases A with
    | none => exact fun q hq => r3.block q hq (by simp)
    | some g =>
      rcases hown.2 with ⟨g1, _⟩ | ⟨g', c', cur, g1, _, g2, g3, g4, g5, g6⟩
      · simp [rowV] at g1
      · simp only [rowV, Option.map_some, Value.slice.injEq, Option.some.injEq, Addr.mk.injEq] at g1
        obtain ⟨⟨rfl, _⟩, _, rfl⟩ := g1
        have hg : g < w.heap.size := (Array.getElem?_eq_some_iff.1 g2).1
        by_cases hroom : n + k ≤ cap
        · exfalso
          have hfit : n * inf.size + news.length ≤ cur.size := by rw [hsize, hl, g5, ← Nat.add_mul]; exact Nat.mul_le_mul_right _ hroom
          have hr := run_append_room (P := P) w t ty e inf hund hinf g n cap cur g2 a k c news (by rw [hsize]; exact hl) hnews h1 hroom hfit
          have r1' : (Builtin.append_ #[t, t] ty #[.slice (some ⟨g, 0, none⟩) n cap, .slice (some a) k c]).run P w = .ok (rowV A' (n + k) cap') w' := r1
          rw [hr] at r1'
          injection r1' with q1 q2
          subst r5
          simp only [rowV, Option.map_some, Value.slice.injEq, Option.some.injEq, Addr.mk.injEq] at q1
          omega
        · have holds : ∀ j u, xs[j]? = some u → w.cell? ((⟨g, 0, none⟩ : Addr).add j) = some u := hown.cells (g := g) rfl
          have hr := run_append_grow (P := P) w t ty e inf z hund hinf hz ⟨g, 0, none⟩ n cap xs (by rw [hsize]; exact hown.1) holds a k c news (by rw [hsize]; exact hl) hnews (by omega) (by simp only [maxLen] at h63; omega) (growslice_fits (by omega) (by rw [hbytes]; exact hb))
          have r1' : (Builtin.append_ #[t, t] ty #[.slice (some ⟨g, 0, none⟩) n cap, .slice (some a) k c]).run P w = .ok (rowV A' (n + k) cap') w' := r1
          rw [hr] at r1'
          injection r1' with q1 q2
          intro q hq
          rw [← q2]
          exact heap_alloc_old w.drew _ q hq
theorem w_appT {t e : TypeId} {sz by' : Nat} {z : Value} {x y : Operand} {id n : Nat} {l ys : List (List PV)} [TSl P t e sz by'] [TZ P e z] (hx : ev fr x = .c (.ms id n)) (ho : σ[id]? = some (.ext (Tl e sz l))) (hn : n = l.length) (hy : ev fr y = .c (.p (.sl sz ys))) (hne : ys ≠ [])
    (hb : (n + ys.length) * by' ≤ 140737488355328) (hzs : z.cells.size = sz) (k : AList P N ops Q rest ⟨(d, .c (.ms σ.length (n + ys.length))) :: fr, σ.set id (.ext (Fz sz l)) ++ [.ext (Tl e sz (l ++ ys))]⟩) (hd : Nat.blt d N = true) :
    AList P N ops Q (⟨some d, .call { callee := .builtin .append, args := #[x, y], argTypes := #[t, t] }, ty, pos, aft, none⟩ :: rest) ⟨fr, σ⟩ := by
  subst hn
  refine al_w (v := .c (.ms σ.length (l.length + ys.length))) (σ' := σ.set id (AObj.ext (Fz sz l)) ++ [AObj.ext (Tl e sz (l ++ ys))]) rfl hd (fun m F w a i hs => ?_) k
  have h1 := hs x (good_of_nl hx (by simp))
  have h2 := hs y (good_of_nl hy (by simp))
  rw [hx] at h1; rw [hy] at h2
  obtain ⟨A, cap, hm, hcap, hv⟩ := rv_ms h1
  obtain ⟨B, bc, hu, hbc, hys, hmem⟩ := rv_sl h2
  have hok := i.obj id _ _ ho hm
  have hokF : (Fz sz l).ok w F (.row A cap) := Tl.fz (TSl.pos (P := P) (t := t) (e := e) (sz := sz) (bytes := by')).1 hok
  obtain ⟨xs, e1, e2, e3, e4⟩ := hok
  obtain ⟨inf, hinf, hsize, hbytes⟩ := TSl.inf (P := P) (t := t) (e := e) (sz := sz) (bytes := by')
  have hpos := TSl.pos (P := P) (t := t) (e := e) (sz := sz) (bytes := by')
  have hund := TSl.und (P := P) (t := t) (e := e) (sz := sz) (bytes := by')
  obtain ⟨inf', hinf', hz⟩ := TZ.inf (P := P) (t := e) (z := z)
  rw [hinf] at hinf'; injection hinf' with hinf'; subst hinf'
  have hlen : l.length + ys.length ≤ 140737488355328 := Nat.le_trans (Nat.le_mul_of_pos_right _ hpos.2) hb
  obtain ⟨b0, o0, us, rfl, hF, hw, hr⟩ := hmem hne
  let news : List Value := (List.range (ys.length * sz)).map us
  have hnl : news.length = ys.length * sz := by simp [news]
  have hng : ∀ j, j < ys.length * sz → news[j]? = some (us j) := fun j hj => by simp only [news, List.getElem?_map]; rw [List.getElem?_range hj]; rfl
  obtain ⟨A', cap', w', r1, r4, r5, r2, r3⟩ := run_append_keep (P := P) w t ty e inf z sz by' hund hinf hz hsize hbytes hzs hpos.1 A cap l.length xs e1 ⟨b0, o0, none⟩ ys.length bc news hnl
    (fun j u hj => by
      have hlt : j < ys.length * sz := by rw [← hnl]; exact (List.getElem?_eq_some_iff.1 hj).1
      rw [hng j hlt] at hj
      injection hj with hj
      rw [add_plain', hw j hlt, hj])
    (fun u hu => by
      obtain ⟨j, hj, rfl⟩ := List.mem_map.1 hu
      have hj := List.mem_range.1 hj
      obtain ⟨x, hx⟩ : ∃ x, ys.flatten[j]? = some x := ⟨_, List.getElem?_eq_getElem (by rw [flatten_len _ hys]; exact hj)⟩
      obtain ⟨i', e', j', a1, a2, a3, _⟩ := flatten_from _ hys j x hx
      subst a3
      exact RP.one (hr i' e' a1 j' x a2)) (by simp only [maxLen]; omega) hb
  have hid : id < σ.length := (List.getElem?_eq_some_iff.1 ho).1
  have hml : m.length = σ.length := i.len
  have hxl : xs.length = l.length * sz := e1.1
  have hA'lt : ∀ b, A' = some b → b < w'.heap.size := fun b hb' => (r5.lt b (by rw [hb']; rfl)).2
  have hblk : ∀ b, b < w.heap.size → A ≠ some b → w'.heap[b]? = w.heap[b]? := fun b hb' hne' => r2.block b hb' (fun e => hne' e.symm)
  have hpre : ∀ b j, A = some b → j < l.length * sz → b < w.heap.size → w'.cell? ⟨b, j, none⟩ = w.cell? ⟨b, j, none⟩ ∧ w'.frozen? ⟨b, j, none⟩ = w.frozen? ⟨b, j, none⟩ := by
    intro b j hA hj hbs
    rcases r3 with r3 | ⟨r3, hall⟩
    · subst hA
      have c1 : w.cell? ⟨b, j, none⟩ = xs[j]? := e1.cellAt j (by omega)
      subst r3
      have c2 : w'.cell? ⟨b, j, none⟩ = (xs ++ news)[j]? := r5.cellAt j (by rw [Nat.add_mul]; omega)
      have f1 : w.frozen? ⟨b, j, none⟩ = false := e1.frozenAt j
      have f2 : w'.frozen? ⟨b, j, none⟩ = false := r5.frozenAt j
      rw [c1, c2, f1, f2, List.getElem?_append_left (by omega)]
      exact ⟨rfl, rfl⟩
    · exact ⟨cell_of_heap (hall b hbs), frozen_of_heap (hall b hbs)⟩
  have hfpT : ∀ b k, A = some b → l.length * sz ≤ k → FP σ m b k := fun b k hA hk => ⟨id, _, _, ho, hm, hA, hk⟩
  have hAlt : ∀ b, A = some b → b < w.heap.size := fun b hA => i.lt b (l.length * sz) (hfpT b _ hA (Nat.le_refl _))
  have hFcell : ∀ b k, F b k → w'.cell? ⟨b, k, none⟩ = w.cell? ⟨b, k, none⟩ := by
    intro b k hFb
    by_cases hA : A = some b
    · by_cases hk : k < l.length * sz
      · exact (hpre b k hA hk (hAlt b hA)).1
      · exact absurd hFb (i.dis b k (hfpT b k hA (by omega)))
    · exact cell_of_heap (hblk b (i.frz b k hFb) hA)
  have hother : ∀ (j : Nat) o lc b k, j ≠ id → σ[j]? = some o → m[j]? = some lc → fp o lc b k → A ≠ some b := by
    intro j o lc b k hj g1 g2 g3 hA
    by_cases hk : k < l.length * sz
    · exact i.dis b k ⟨j, o, lc, g1, g2, g3⟩ (e4 b hA k hk)
    · exact i.sep j id o lc _ _ hj g1 g2 ho hm b k g3 ⟨hA, by omega⟩
  let F' : Nat → Nat → Prop := fun b k => F b k ∨ (A' = some b ∧ k < (l.length + ys.length) * sz)
  have hmono : ∀ b k, F b k → F' b k := fun b k h => .inl h
  have hmul : (l.length + ys.length) * sz = l.length * sz + ys.length * sz := Nat.add_mul ..
  have hget : ∀ (j : Nat) o, (σ.set id (AObj.ext (Fz sz l)) ++ [AObj.ext (Tl e sz (l ++ ys))])[j]? = some o → (j = id ∧ o = .ext (Fz sz l)) ∨ (j ≠ id ∧ j < σ.length ∧ σ[j]? = some o) ∨ (j = σ.length ∧ o = .ext (Tl e sz (l ++ ys))) := by
    intro j o h
    by_cases hj : j < σ.length
    · rw [List.getElem?_append_left (by simpa using hj)] at h
      by_cases hji : j = id
      · subst hji
        rw [List.getElem?_set_self hid] at h
        exact .inl ⟨rfl, by simpa using h.symm⟩
      · rw [List.getElem?_set_ne (fun e => hji e.symm)] at h
        exact .inr (.inl ⟨hji, hj, h⟩)
    · rw [List.getElem?_append_right (by simpa using Nat.le_of_not_lt hj)] at h
      simp only [List.length_set] at h
      cases hq : j - σ.length with
      | zero => rw [hq] at h; simp at h; exact .inr (.inr ⟨by omega, h.symm⟩)
      | succ q => rw [hq] at h; simp at h
  have hmold : ∀ (j : Nat) lc, j < σ.length → (m ++ [Loc.row A' cap'])[j]? = some lc → m[j]? = some lc := fun j lc hj h => by
    rw [List.getElem?_append_left (by omega)] at h; exact h
  have hmnew : ∀ lc, (m ++ [Loc.row A' cap'])[σ.length]? = some lc → lc = .row A' cap' := fun lc h => by
    rw [List.getElem?_append_right (by omega), hml, Nat.sub_self] at h
    simpa using h.symm
  have hnewFP : ∀ b k, A' = some b → (l.length + ys.length) * sz ≤ k → (A = some b ∧ l.length * sz ≤ k) ∨ w.heap.size ≤ b := by
    intro b k hA' hk
    rcases r3 with r3 | ⟨r3, _⟩
    · exact .inl ⟨by rw [← r3]; exact hA', by omega⟩
    · rw [hA'] at r3; injection r3 with r3; exact .inr (by omega)
  have hlys : (l ++ ys).length = l.length + ys.length := by simp
  have hfp : ∀ (j : Nat) o lc b k, (σ.set id (AObj.ext (Fz sz l)) ++ [AObj.ext (Tl e sz (l ++ ys))])[j]? = some o → (m ++ [Loc.row A' cap'])[j]? = some lc → fp o lc b k → (j ≠ id ∧ σ[j]? = some o ∧ m[j]? = some lc ∧ fp o lc b k) ∨ (j = σ.length ∧ A' = some b ∧ (l.length + ys.length) * sz ≤ k) := by
    intro j o lc b k g1 g2 g3
    rcases hget j o g1 with ⟨rfl, rfl⟩ | ⟨hj, hjl, g1⟩ | ⟨rfl, rfl⟩
    · exact (show False from g3).elim
    · exact .inl ⟨hj, g1, hmold j lc hjl g2, g3⟩
    · have := hmnew lc g2
      subst this
      refine .inr ⟨rfl, g3.1, ?_⟩
      have := g3.2
      rw [hlys] at this; exact this
  have i' : Inv (m ++ [Loc.row A' cap']) F' (σ.set id (AObj.ext (Fz sz l)) ++ [AObj.ext (Tl e sz (l ++ ys))]) w' := by
    refine ⟨by simp [hml], fun b k hFb => ?_, fun b k ⟨j, o, lc, g1, g2, g3⟩ => ?_, fun j o lc g1 g2 => ?_, fun j q o lc o' lc' hne' g1 g2 g3 g4 b k g5 g6 => ?_, fun b k ⟨j, o, lc, g1, g2, g3⟩ hFb => ?_⟩
    · rcases hFb with hFb | ⟨hA', _⟩
      · exact Nat.lt_of_lt_of_le (i.frz b k hFb) r2.size
      · exact hA'lt b hA'
    · rcases hfp j o lc b k g1 g2 g3 with ⟨_, g4, g5, g6⟩ | ⟨_, hA', _⟩
      · exact Nat.lt_of_lt_of_le (i.lt b k ⟨j, o, lc, g4, g5, g6⟩) r2.size
      · exact hA'lt b hA'
    · rcases hget j o g1 with ⟨rfl, rfl⟩ | ⟨hj, hjl, g1⟩ | ⟨rfl, rfl⟩
      · have := hmold j lc hid g2
        rw [hm] at this; injection this with this; subst this
        exact (Fz sz l).mono hokF hmono hFcell (fun _ _ h => h.elim)
      · have g2 := hmold j lc hjl g2
        refine ObjAt.mono (i.obj j o lc g1 g2) hmono hFcell (fun b k hf => ?_) (fun b k hf _ => ?_)
        · have := hblk b (i.lt b k ⟨j, o, lc, g1, g2, hf⟩) (hother j o lc b k hj g1 g2 hf)
          exact ⟨cell_of_heap this, frozen_of_heap this⟩
        · exact hblk b (i.lt b k ⟨j, o, lc, g1, g2, hf⟩) (hother j o lc b k hj g1 g2 hf)
      · have := hmnew lc g2
        subst this
        refine ⟨xs ++ news, by rw [hlys]; exact r5, fun el he => ?_, fun q el hq j x hx => ?_, fun b hA' k hk => .inr ⟨hA', by rw [← hlys]; exact hk⟩⟩
        · rcases List.mem_append.1 he with he | he
          · exact e2 el he
          · exact hys el he
        · by_cases hql : q < l.length
          · rw [List.getElem?_append_left hql] at hq
            have hlt := elt_lt e2 hq (j := j) (List.getElem?_eq_some_iff.1 hx).1
            have := RP.mono hmono hFcell (e3 q el hq j x hx)
            rw [List.getD_eq_getElem?_getD] at this ⊢
            rw [List.getElem?_append_left (by omega)]; exact this
          · rw [List.getElem?_append_right (by omega)] at hq
            have hlt := elt_lt hys hq (j := j) (List.getElem?_eq_some_iff.1 hx).1
            have hqs : q * sz = (q - l.length) * sz + l.length * sz := by rw [← Nat.add_mul]; congr 1; omega
            rw [List.getD_eq_getElem?_getD, List.getElem?_append_right (by omega), hxl, show q * sz + j - l.length * sz = (q - l.length) * sz + j by omega, hng _ hlt]
            exact RP.mono hmono hFcell (hr _ el hq j x hx)
    · rcases hfp j o lc b k g1 g2 g5 with ⟨hj, a1, a2, a3⟩ | ⟨hj, hA', hk⟩
      · rcases hfp q o' lc' b k g3 g4 g6 with ⟨hq, b1, b2, b3⟩ | ⟨hq, hA', hk⟩
        · exact i.sep j q o lc o' lc' hne' a1 a2 b1 b2 b k a3 b3
        · rcases hnewFP b k hA' hk with ⟨hA, hk'⟩ | hge
          · exact hother j o lc b k hj a1 a2 a3 hA
          · have := i.lt b k ⟨j, o, lc, a1, a2, a3⟩; omega
      · rcases hfp q o' lc' b k g3 g4 g6 with ⟨hq, b1, b2, b3⟩ | ⟨hq, _, _⟩
        · rcases hnewFP b k hA' hk with ⟨hA, hk'⟩ | hge
          · exact hother q o' lc' b k hq b1 b2 b3 hA
          · have := i.lt b k ⟨q, o', lc', b1, b2, b3⟩; omega
        · omega
    · rcases hfp j o lc b k g1 g2 g3 with ⟨hj, a1, a2, a3⟩ | ⟨hj, hA', hk⟩
      · rcases hFb with hFb | ⟨hA', hk⟩
        · exact i.dis b k ⟨j, o, lc, a1, a2, a3⟩ hFb
        · rcases r3 with r3 | ⟨r3, _⟩
          · exact hother j o lc b k hj a1 a2 a3 (by rw [← r3]; exact hA')
          · rw [hA'] at r3; injection r3 with r3
            have := i.lt b k ⟨j, o, lc, a1, a2, a3⟩; omega
      · rcases hFb with hFb | ⟨_, hk2⟩
        · rcases hnewFP b k hA' hk with ⟨hA, hk'⟩ | hge
          · exact i.dis b k (hfpT b k hA hk') hFb
          · have := i.frz b k hFb; omega
        · omega
  have st : Step m F σ w (m ++ [Loc.row A' cap']) F' (σ.set id (AObj.ext (Fz sz l)) ++ [AObj.ext (Tl e sz (l ++ ys))]) w' := by
    refine ⟨⟨_, rfl⟩, hmono, r2.os, r2.tape, r2.output, r2.size, fun b hbs hn => ?_, fun b k hbs hn => ?_, fun b k hf => ?_⟩
    · exact hblk b hbs (fun hA => hn _ (hfpT b _ hA (Nat.le_refl _)))
    · by_cases hA : A = some b
      · by_cases hk : k < l.length * sz
        · exact hpre b k hA hk hbs
        · exact absurd (hfpT b k hA (by omega)) hn
      · have := hblk b hbs hA
        exact ⟨cell_of_heap this, frozen_of_heap this⟩
    · rcases hf with ⟨j, o, lc, g1, g2, g3⟩ | hf | ⟨hA', hk⟩
      · rcases hfp j o lc b k g1 g2 g3 with ⟨_, a1, a2, a3⟩ | ⟨_, hA', hk⟩
        · exact .inl ⟨j, o, lc, a1, a2, a3⟩
        · rcases hnewFP b k hA' hk with ⟨hA, hk'⟩ | hge
          · exact .inl (hfpT b k hA hk')
          · exact .inr (.inr hge)
      · exact .inr (.inl hf)
      · rcases r3 with r3 | ⟨r3, _⟩
        · have hA : A = some b := by rw [← r3]; exact hA'
          by_cases hk' : k < l.length * sz
          · exact .inr (.inl (e4 b hA k hk'))
          · exact .inl (hfpT b k hA (by omega))
        · rw [hA'] at r3; injection r3 with r3; exact .inr (.inr (by omega))
  refine ⟨rowV A' (l.length + ys.length) cap', m ++ [Loc.row A' cap'], F', w', .inl ?_, i', st, A', cap', by rw [← hml]; simp, r4, rfl⟩
  simp only [execOp, resolve, invoke, builtin, Sem.run_bind, Sem.run_pure, Result.andThen_ok, List.map_toArray, List.map_cons, List.map_nil, hv, hu, r1]
end
end Go.AL
set_option linter.unusedVariables false
set_option linter.unusedSimpArgs false
namespace Go.AL
open Go.RowKit
section
variable {P : Program} {N : Nat} {Q : AE → St → Prop} {ops : Array Oper} {rest : List Oper} {σ σ' : List AObj} {fr : Fr}
variable {d : Nat} {ty : TypeId} {pos : String} {aft : Array Edge} {v : AV}
theorem k_callLast {f : FuncId} [TFn P f] {y : Operand} {xs : Array Operand} {ts : Array TypeId} {cargs : List AV} {σc : List AObj} {rv : AV} (ρl : List (Nat × Nat))
    (h : ACalls P f cargs σc (fun r _ => r = .ret rv)) (hx : xs.toList.map (ev fr) = cargs.map (renV (ren1 ρl)))
    (hok : cargs.all (okV ρl.length) = true) (hl : ρl.length = σc.length) (hnd : (ρl.map (·.1)).Nodup) (hp : ∀ (k : Nat) id off oc, ρl[k]? = some (id, off) → σc[k]? = some oc → ∃ o, σ[id]? = some o ∧ passO (ren1 ρl) ρl.length o off oc)
    (k : AList P N ops Q rest ⟨(d, rv) :: fr, σ.map fun _ => .dead⟩) (hv : litV rv = true := by rfl) (hy : ev fr y = .c (.p (.lit (.func (.func f) #[] #[]))) := by exact rfl) (hd : Nat.blt d N = true := by rfl) (hg : xs.toList.all goodConst = true := by rfl) :
    AList P N ops Q (⟨some d, .call { callee := .value y, args := xs, argTypes := ts }, ty, pos, aft, none⟩ :: rest) ⟨fr, σ⟩ := by
  intro m F a w hr
  refine wpList_plain rfl fun K hK => ?_
  have i : Inv m F σ w := hr.inv
  have hf : a.eval y = .func (.func f) #[] #[] := by
    have := ev_rv (fr := fr) (m := m) (w := w) (F := F) (a := a) (good_of_lit hy) (fun t e => hr.fr t)
    rw [hy] at this
    exact RP.eq_lit this
  obtain ⟨h1, h2⟩ := callArgs hx (fun x _ hc => ev_rv hc fun t _ => hr.fr t) hg
  obtain ⟨mc, c1, c2, c3, c4⟩ := inv_in i hl hnd hp
  refine wp_callFn hf ((h mc F w _ c3 (by rw [h1]; simp) (fun j z hj => ?_)).mono fun e w' he => ?_)
  · exact rv_unren c2 (List.all_eq_true.1 hok z (List.mem_of_getElem? hj)) (h2 j (renV (ren1 ρl) z) (by rw [List.getElem?_map, hj]; rfl))
  · obtain ⟨m', F', σ', r, rfl, hre, hi, hst⟩ := he
    have hFP : ∀ b q, FP σc mc b q → FP σ m b q := fun b q ⟨k, oc, lc, g1, g2, g3⟩ => by
      obtain ⟨id, off, o, l, _, g5, g6, _, g8⟩ := c4 k oc lc g1 g2
      exact ⟨id, o, l, g5, g6, g8 b q g3⟩
    have hdead : ∀ b q, ¬ FP (σ.map fun _ => AObj.dead) m b q := by
      rintro b q ⟨j, o, l, g1, g2, g3⟩
      rw [List.getElem?_map, Option.map_eq_some_iff] at g1
      obtain ⟨o', _, rfl⟩ := g1
      exact g3.elim
    have i2 : Inv m F' (σ.map fun _ => AObj.dead) w' := by
      refine ⟨by simp [i.len], hi.frz, fun b q hf => (hdead b q hf).elim, fun j o l g1 g2 => ?_, fun j q o l o' l' _ g1 g2 _ _ b z hf => ?_, fun b q hf => (hdead b q hf).elim⟩
      · rw [List.getElem?_map, Option.map_eq_some_iff] at g1
        obtain ⟨o', _, rfl⟩ := g1
        cases l <;> trivial
      · exact (hdead b z ⟨j, o, l, g1, g2, hf⟩).elim
    have st2 : Step m F σ w m F' (σ.map fun _ => AObj.dead) w' := by
      refine ⟨⟨[], by simp⟩, hst.fm, hst.os, hst.tape, hst.output, hst.size, fun b hb hn => hst.blk b hb (fun q hq => hn q (hFP b q hq)), fun b q hb hn => hst.cel b q hb (fun hq => hn (hFP b q hq)), fun b q hf => ?_⟩
      rcases hf with hf | hf
      · exact (hdead b q hf).elim
      · rcases hst.new b q (.inr hf) with h4 | h4 | h4
        · exact .inl (hFP b q h4)
        · exact .inr (.inl h4)
        · exact .inr (.inr h4)
    cases e with
    | panicked ch => exact hre.elim
    | outgrown => exact hre.elim
    | returned u =>
      have hr1 : Rel N m F' ⟨fr, σ.map fun _ => AObj.dead⟩ a w' := ⟨i2, fun t => (hr.fr t).step i st2, hr.size, hr.defers⟩
      have hr2 := hr1.put (d := some d) (fun t ht => by injection ht with ht; subst ht; exact blt_lt hd) (rv_litV (m' := m) hv hre)
      exact hK _ _ (wpList_post_mono (fun e a1 w1 hp => hp.trans hr.inv i2 st2) _ _ _ (k m F' _ w' hr2))
/-- Less is told of an array's elements. -/
theorem rel_anyC {id : Nat} {e : TypeId} {sz : Nat} {l : List (List C)} (ho : σ[id]? = some (.arrC e sz l)) (m : List Loc) (F : Nat → Nat → Prop) (a : Act) (w : World) (hr : Rel N m F ⟨fr, σ⟩ a w) :
    ∃ m' F', Rel N m' F' ⟨fr, σ.set id (.arrC e sz (l.map fun e => e.map fun _ => .any))⟩ a w ∧ Step m F σ w m' F' (σ.set id (.arrC e sz (l.map fun e => e.map fun _ => .any))) w := by
  have i := hr.inv
  have hid : id < m.length := by rw [i.len]; exact (List.getElem?_eq_some_iff.1 ho).1
  have hm := List.getElem?_eq_getElem hid
  have hob := i.obj id _ _ ho hm
  generalize m[id] = lc at hm hob
  cases lc with
  | «at» b o => exact hob.elim
  | row A cap =>
    obtain ⟨xs, h1, h2, h3⟩ := hob
    obtain ⟨g1, g2⟩ := inv_set (w' := w) (o' := .arrC e sz (l.map fun e => e.map fun _ => .any)) i ho hm (fun b k => Iff.rfl) rfl ⟨rfl, rfl, rfl⟩ (fun _ _ => rfl) (fun _ _ _ => ⟨rfl, rfl⟩) (fun hRC hRP => by
      refine ⟨xs, by simpa using h1, fun el he => ?_, fun q el hq j x hx => ?_⟩
      · obtain ⟨e0, he0, rfl⟩ := List.mem_map.1 he
        rw [List.length_map]; exact h2 e0 he0
      · rw [List.getElem?_map, Option.map_eq_some_iff] at hq
        obtain ⟨e0, he0, rfl⟩ := hq
        rw [List.getElem?_map, Option.map_eq_some_iff] at hx
        obtain ⟨x0, hx0, rfl⟩ := hx
        trivial)
    exact ⟨m, F, ⟨g1, fun t => (hr.fr t).step i g2, hr.size, hr.defers⟩, g2⟩
theorem kw_anyC {c : Code} (id : Nat) {e : TypeId} {sz : Nat} {l : List (List C)} (ho : σ[id]? = some (.arrC e sz l)) (hσ : σ.set id (.arrC e sz (l.map fun e => e.map fun _ => .any)) = σ') (k : AWp P N c Q ⟨fr, σ'⟩) : AWp P N c Q ⟨fr, σ⟩ := by
  subst hσ
  exact awp_of (rel_anyC ho) k
end
end Go.AL
set_option linter.unusedVariables false
set_option linter.unusedSimpArgs false
namespace Go.AL
open Go.RowKit
theorem ne_get {σ : List AObj} {a b : Nat} {x y : AObj} (h1 : σ[a]? = some x) (h2 : σ[b]? = some y) (h : x ≠ y) : a ≠ b := fun e => by
  subst e; rw [h1] at h2; injection h2 with h2; exact h h2
theorem get_app {σ z : List AObj} {a : Nat} {o : AObj} (h : σ[a]? = some o) : (σ ++ z)[a]? = some o := getL h
theorem get_set {σ : List AObj} {i a : Nat} {x o : AObj} (h : σ[a]? = some o) (hne : i ≠ a) : (σ.set i x)[a]? = some o := by
  rw [List.getElem?_set_ne hne]; exact h
theorem get_set_self {σ : List AObj} {i : Nat} {x o : AObj} (h : σ[i]? = some o) : (σ.set i x)[i]? = some x := List.getElem?_set_self (List.getElem?_eq_some_iff.1 h).1
theorem get_last {σ : List AObj} {n : Nat} {y : AObj} (h : σ.length = n) : (σ ++ [y])[n]? = some y := by
  subst h; simp
theorem get_lt {σ : List AObj} {a : Nat} {o : AObj} (h : σ[a]? = some o) : a < σ.length := (List.getElem?_eq_some_iff.1 h).1
section
variable {P : Program} {N : Nat} {Q : AE → St → Prop} {ops : Array Oper} {rest : List Oper} {σ σ' : List AObj} {fr : Fr}
variable {d : Option Nat} {ty : TypeId} {pos : String} {aft : Array Edge} {v : AV} {g : Option (Nat × Bool)}
/-- More may be told of a temporary ahead of an operation. -/
theorem rstep_over {o : Oper} {t : Nat} {y : AV} (hy : ∀ m F w u, Inv m F σ w → RV m w F (fr.get t) u → RV m w F y u) (h : RStep P σ ((t, y) :: fr) o v) : RStep P σ fr o v := by
  intro m F w a i hs K Q hK
  refine h m F w a i (fun t' ht' => ?_) K Q hK
  simp only [Fr.get]
  by_cases e : t = t'
  · subst e; rw [if_pos rfl]; exact hy m F w _ i (hs t ht')
  · rw [if_neg e]; exact hs t' ht'
theorem over_F {id n sz : Nat} {l : List (List PV)} {t : Nat} (ho : σ[id]? = some (.ext (Fz sz l))) (hn : n ≤ l.length) (h : fr.get t = .c (.ms id n)) : ∀ m F w u, Inv m F σ w → RV m w F (fr.get t) u → RV m w F (.c (.p (.sl sz (l.take n)))) u := by
  intro m F w u i hu
  rw [h] at hu
  obtain ⟨A, cap, hm, hcap, hv⟩ := rv_ms hu
  rw [hv]
  exact Fz.rp (i.obj id _ _ ho hm) hn
theorem b_indexF {α : Type} [Inhabited α] {t e : TypeId} {sz by' : Nat} {q : Nat} {y : Operand} {id n : Nat} {l : List α} {f : α → List PV} {k : IntKind} {j : Int} [TSl P t e sz by'] (ho : σ[id]? = some (.ext (Fz sz (l.map f)))) (hn : n = l.length) (hx : fr.get q = .c (.ms id n) := by exact rfl) (hy : ev fr y = .c (.p (.lit (.int k j))) := by exact rfl) (hq : ∀ z, y = .tmp z → q ≠ z := by intro z h; injection h with h; subst h; decide) (h0 : 0 ≤ j := by omega) (h1 : j < l.length := by omega) :
    RStep P σ fr ⟨d, .indexAddr t (.tmp q) y, ty, pos, aft, g⟩ (.c (.p (.rp (f (at' l j))))) := by
  subst hn
  have hov := over_F ho (by simp) hx
  rw [List.take_of_length_le (by simp)] at hov
  refine rstep_over (t := q) hov ?_
  refine m_indexSl (k := k) (l := l) (f := f) (by show Fr.get _ _ = _; simp [Fr.get]) ?_ h0 h1
  cases y with
  | tmp z => show Fr.get _ _ = _; simp only [Fr.get]; rw [if_neg (hq z rfl)]; exact hy
  | const _ => exact hy
  | func _ => exact hy
  | global _ => exact hy
end
section
variable {P : Program} {N : Nat} {Q : AE → St → Prop} {ops : Array Oper} {rest : List Oper} {σ σ' : List AObj} {fr : Fr}
variable {d : Nat} {ty : TypeId} {pos : String} {aft : Array Edge}
theorem k_appT {α : Type} {t e : TypeId} {sz by' : Nat} {z : Value} {x y : Operand} {id n : Nat} {l : List α} {f : α → List PV} (el : α) [TSl P t e sz by'] [TZ P e z] (ho : σ[id]? = some (.ext (Tl e sz (l.map f)))) (hn : n = l.length)
    (k : AList P N ops Q rest ⟨(d, .c (.ms σ.length (n + 1))) :: fr, σ.set id (.ext (Fz sz (l.map f))) ++ [.ext (Tl e sz ((l ++ [el]).map f))]⟩) (hx : ev fr x = .c (.ms id n) := by exact rfl) (hy : ev fr y = .c (.p (.sl sz [f el])) := by exact rfl) (hb : (n + 1) * by' ≤ 140737488355328 := by omega) (hzs : z.cells.size = sz := by rfl) (hd : Nat.blt d N = true := by rfl) :
    AList P N ops Q (⟨some d, .call { callee := .builtin .append, args := #[x, y], argTypes := #[t, t] }, ty, pos, aft, none⟩ :: rest) ⟨fr, σ⟩ := by
  refine w_appT (ys := [f el]) hx ho (by simpa using hn) hy (by simp) hb hzs ?_ hd
  simpa using k
theorem k_msTA {α : Type} {lst : List Oper} {id n sz : Nat} {e : TypeId} {l : List α} {f : α → List PV} (t : Nat) (hpos : 0 < sz) (ho : σ[id]? = some (.ext (Tl e sz (l.map f)))) (hn : n = l.length) (k : AList P N ops Q lst ⟨(t, .c (.p (.sl sz (l.map f)))) :: fr, σ⟩) (h : fr.get t = .c (.ms id n) := by exact rfl) : AList P N ops Q lst ⟨fr, σ⟩ := by
  subst hn
  refine k_msT t hpos ho ?_ h (by simp)
  rw [List.take_of_length_le (by simp)]; exact k
theorem b_eqlBool {dd : Option Nat} {g : Option (Nat × Bool)} {t t' : TypeId} {x y : Operand} {a b : Bool} (hu : P.underlying t = some .bool) (hx : ev fr x = bl a := by exact rfl) (hy : ev fr y = bl b := by exact rfl) : RStep P σ fr ⟨dd, .binOp .eql t x y t', ty, pos, aft, g⟩ (bl (a == b)) :=
  r_bin hx hy (fun w => by simp [eqGuard, binOp, run_equal_bool w t a b hu]) rfl
end
end Go.AL
set_option linter.unusedVariables false
set_option linter.unusedSimpArgs false
namespace Go.AL
open Go.RowKit
/-- All that a call leaves is frozen. -/
theorem acalls_told {P : Program} {f : FuncId} {args : List AV} {R : AV → Prop}
    (h : ACalls P f args [] (fun r σ' => ∃ y z, r = .ret y ∧ (∀ m F w v, Inv m F σ' w → RV m w F y v → RV [] w (fun b k => F b k ∨ ownFP σ' m b k) z v) ∧ R z)) : ACalls P f args [] (fun r _ => ∃ z, r = .ret z ∧ R z) := by
  intro m F w vs i hs hv
  refine (h m F w vs i hs hv).mono fun en w' he => ?_
  obtain ⟨m', F', σ', r, ⟨y, z, rfl, hyz, hR⟩, hr, hi, hst⟩ := he
  have hm : m = [] := List.eq_nil_of_length_eq_zero i.len
  subst hm
  cases en with
  | panicked ch => exact hr.elim
  | outgrown => exact hr.elim
  | returned u =>
    have hz := hyz m' F' w' u hi hr
    have hdead : ∀ b q, ¬ FP (σ'.map fun _ => AObj.dead) m' b q := by
      rintro b q ⟨j, o, l, g1, g2, g3⟩
      rw [List.getElem?_map, Option.map_eq_some_iff] at g1
      obtain ⟨o', _, rfl⟩ := g1
      exact g3.elim
    refine ⟨m', fun b k => F' b k ∨ ownFP σ' m' b k, σ'.map fun _ => AObj.dead, .ret z, ⟨z, rfl, hR⟩, ?_, ?_, ?_⟩
    · have := RV.mono (k := m') (fun _ _ h => h) (fun _ _ _ => rfl) hz
      have : RV m' w' (fun b k => F' b k ∨ ownFP σ' m' b k) z u := by simpa using this
      exact this
    · refine ⟨by simp [hi.len], fun b q hf => ?_, fun b q hf => (hdead b q hf).elim, fun j o l g1 g2 => ?_, fun j q o l o' l' _ g1 g2 _ _ b z hf => ?_, fun b q hf => (hdead b q hf).elim⟩
      · rcases hf with hf | hf
        · exact hi.frz b q hf
        · exact hi.lt b q (ownFP_fp hf)
      · rw [List.getElem?_map, Option.map_eq_some_iff] at g1
        obtain ⟨o', _, rfl⟩ := g1
        cases l <;> trivial
      · exact (hdead b z ⟨j, o, l, g1, g2, hf⟩).elim
    · refine ⟨hst.ext, fun b k h => .inl (hst.fm b k h), hst.os, hst.tape, hst.output, hst.size, hst.blk, hst.cel, fun b q hf => ?_⟩
      rcases hf with hf | hf | hf
      · exact (hdead b q hf).elim
      · exact hst.new b q (.inr hf)
      · exact hst.new b q (.inl (ownFP_fp hf))
theorem acalls_told1 {P : Program} {f : FuncId} {args : List AV} {z : AV}
    (h : ACalls P f args [] (fun r σ' => ∃ y, r = .ret y ∧ (∀ m F w v, Inv m F σ' w → RV m w F y v → RV [] w (fun b k => F b k ∨ ownFP σ' m b k) z v))) : ACalls P f args [] (fun r _ => r = .ret z) :=
  (acalls_told (R := fun x => x = z) (h.mono fun r σ' ⟨y, h1, h2⟩ => ⟨y, z, h1, h2, rfl⟩)).mono fun r _ ⟨x, h1, h2⟩ => by rw [h1, h2]
theorem told_tup2 {σ : List AObj} {x y x' y' : AV} (h1 : ∀ m F w v, Inv m F σ w → RV0 m w F x v → RV0 [] w (fun b k => F b k ∨ ownFP σ m b k) y v) (h2 : ∀ m F w v, Inv m F σ w → RV0 m w F x' v → RV0 [] w (fun b k => F b k ∨ ownFP σ m b k) y' v) :
    ∀ m F w v, Inv m F σ w → RV m w F (.tup [x, x']) v → RV [] w (fun b k => F b k ∨ ownFP σ m b k) (.tup [y, y']) v := by
  intro m F w v i ⟨vs, e1, e2, e3⟩
  refine ⟨vs, e1, e2, fun j z hz => ?_⟩
  match j, hz with
  | 0, hz => simp at hz; subst hz; exact h1 m F w _ i (e3 0 x rfl)
  | 1, hz => simp at hz; subst hz; exact h2 m F w _ i (e3 1 x' rfl)
  | n + 2, hz => simp at hz
theorem told_lit {σ : List AObj} {x : Value} : ∀ m F w v, Inv m F σ w → RV0 m w F (.c (.p (.lit x))) v → RV0 [] w (fun b k => F b k ∨ ownFP σ m b k) (.c (.p (.lit x))) v := fun m F w v i h => by
  have h : RP w F (.lit x) v := h
  exact RP.mono (fun _ _ h => .inl h) (fun _ _ _ => rfl) h
theorem told_agg2 {σ : List AObj} {c c' : C} {x x' : PV} (h1 : ∀ m F w v, Inv m F σ w → RC m w F c v → RP w (fun b k => F b k ∨ ownFP σ m b k) x v) (h2 : ∀ m F w v, Inv m F σ w → RC m w F c' v → RP w (fun b k => F b k ∨ ownFP σ m b k) x' v) :
    ∀ m F w v, Inv m F σ w → RV0 m w F (.agg [c, c']) v → RV0 [] w (fun b k => F b k ∨ ownFP σ m b k) (.agg [.p x, .p x']) v := by
  intro m F w v i ⟨cs, e1, e2, e3⟩
  refine ⟨cs, e1, e2, fun j z hz => ?_⟩
  match j, hz with
  | 0, hz => simp at hz; subst hz; exact h1 m F w _ i (e3 0 c rfl)
  | 1, hz => simp at hz; subst hz; exact h2 m F w _ i (e3 1 c' rfl)
  | n + 2, hz => simp at hz
theorem told_c {σ : List AObj} {c : C} {x : PV} (h : LC σ c x) : ∀ m F w v, Inv m F σ w → RC m w F c v → RP w (fun b k => F b k ∨ ownFP σ m b k) x v := fun m F w v i hv => rc_lend i h v hv
theorem told_nil {σ : List AObj} {sz : Nat} : ∀ m F w v, Inv m F σ w → RC m w F (.p (.lit (.slice none 0 0))) v → RP w (fun b k => F b k ∨ ownFP σ m b k) (.sl sz []) v := fun m F w v i hv => by
  have hv : RP w F (.lit (.slice none 0 0)) v := hv
  rw [RP.eq_lit hv]
  exact .sl0 ..
/-- A nil slice among what is told, as an empty array that the call left. -/
theorem acalls_ownNil {P : Program} {f : FuncId} {args : List AV} {σ : List AObj} {x : AV} (e : TypeId) (sz : Nat)
    (h : ACalls P f args σ (fun r σ' => r = .ret (.tup [.agg [.p (.lit (.slice none 0 0)), .p (.lit (.slice none 0 0))], x]) ∧ ∃ g, σ' = σ ++ g)) (hx : pureV0 x = true) :
    ACalls P f args σ (fun r σ' => ∃ g, r = .ret (.tup [.agg [.p (.lit (.slice none 0 0)), .ms (σ.length + g.length) 0], x]) ∧ σ' = σ ++ (g ++ [.arrC e sz []])) := by
  intro m F w vs i hs hv
  refine (h m F w vs i hs hv).mono fun en w' he => ?_
  obtain ⟨m', F', σ', r, ⟨rfl, g, rfl⟩, hr, hi, hst⟩ := he
  cases en with
  | panicked ch => exact hr.elim
  | outgrown => exact hr.elim
  | returned u =>
    obtain ⟨h1, h2⟩ := inv_new (o := AObj.arrC e sz []) (l := .row none 0) hi (Grow.refl F' w') ⟨[], ⟨by simp, .inl ⟨rfl, rfl⟩⟩, by simp, fun i e h => by simp at h⟩ (fun b k hf => by simp [fp] at hf)
    refine ⟨_, F', _, _, ⟨g, rfl, rfl⟩, ?_, by rw [← List.append_assoc]; exact h1, by rw [← List.append_assoc]; exact hst.trans i hi h2⟩
    have hlen : m'.length = σ.length + g.length := by have := hi.len; simpa using this
    obtain ⟨ws, e1, e2, e3⟩ := hr
    refine ⟨ws, e1, e2, fun j z hz => ?_⟩
    match j, hz with
    | 0, hz =>
      simp at hz; subst hz
      obtain ⟨cs, q1, q2, q3⟩ := e3 0 _ rfl
      refine ⟨cs, q1, q2, fun j z hz => ?_⟩
      match j, hz with
      | 0, hz => simp at hz; subst hz; exact q3 0 _ rfl
      | 1, hz =>
        simp at hz; subst hz
        have : RP w' F' (.lit (.slice none 0 0)) (cs.getD 1 undef) := q3 1 _ rfl
        exact ⟨none, 0, by rw [← hlen]; simp, Nat.le_refl _, RP.eq_lit this⟩
      | n + 2, hz => simp at hz
    | 1, hz =>
      simp at hz; subst hz
      have := e3 1 x rfl
      cases x with
      | c y => exact rc_pure hx this
      | agg l =>
        obtain ⟨cs, q1, q2, q3⟩ := this
        exact ⟨cs, q1, q2, fun j y hy => rc_pure (List.all_eq_true.1 hx y (List.mem_of_getElem? hy)) (q3 j y hy)⟩
      | tup l => cases hx
    | n + 2, hz => simp at hz
section
variable {P : Program} {N : Nat} {Q : AE → St → Prop} {ops : Array Oper} {rest : List Oper} {σ σ' : List AObj} {fr : Fr}
variable {d : Nat} {ty : TypeId} {pos : String} {aft : Array Edge} {v : AV}
/-- A call that is handed an array. -/
theorem k_callA {f : FuncId} [TFn P f] {y : Operand} {xs : Array Operand} {ts : Array TypeId} {cargs : List AV} {rv : AV} {e : TypeId} {sz : Nat} {l : List (List PV)} {ι : Type} {Φ : ι → Prop} {lo : ι → List (List PV)} (id : Nat)
    (h : ACalls P f cargs [.arr e sz l] (fun r σ' => ∃ x, Φ x ∧ r = .ret rv ∧ σ' = [.arr e sz (lo x)])) (ho : σ[id]? = some (.arr e sz l))
    (k : ∀ x, Φ x → AList P N ops Q rest ⟨(d, rv) :: fr, σ.set id (.arr e sz (lo x))⟩) (hv : pureV rv = true := by rfl)
    (hy : ev fr y = .c (.p (.lit (.func (.func f) #[] #[]))) := by exact rfl) (hx : xs.toList.map (ev fr) = cargs.map (renV (ren1 [(id, 0)])) := by (try simp only [↓ev, litAV, ↓Fr.get, ↓reduceIte, Nat.reduceEqDiff, List.map]) <;> rfl) (hok : cargs.all (okV 1) = true := by rfl)
    (hd : Nat.blt d N = true := by rfl) (hg : xs.toList.all goodConst = true := by rfl) :
    AList P N ops Q (⟨some d, .call { callee := .value y, args := xs, argTypes := ts }, ty, pos, aft, none⟩ :: rest) ⟨fr, σ⟩ := by
  refine w_call (ι := ι) (Φ := Φ) (rr := fun _ => .ret rv) (σo := fun x => [.arr e sz (lo x)]) (σc := [.arr e sz l]) (cargs := cargs) [(id, 0)] hy (h.mono fun r σ' ⟨x, h1, h2, h3⟩ => ⟨x, h1, h2, [], by simp [h3]⟩) hx hok rfl (by simp) (fun k id' off oc h1 h2 => ?_) (fun x _ => ⟨rfl, okV_pure _ hv⟩) hd (fun x hx' => ?_) hg
  · cases k with
    | zero =>
      simp at h1 h2
      obtain ⟨rfl, rfl⟩ := h1; subst h2
      exact ⟨_, ho, rfl⟩
    | succ k => simp at h1
  · have := k x hx'
    simp only [renV_pure _ hv, back, backO_arr, List.map_nil, List.append_nil]
    exact this
theorem set_last {σ : List AObj} {x y : AObj} : (σ ++ [x]).set σ.length y = σ ++ [y] := by
  rw [List.set_append_right _ _ (Nat.le_refl _)]; simp
end
end Go.AL
set_option linter.unusedVariables false
set_option linter.unusedSimpArgs false
namespace Go.AL
open Go.RowKit
section
variable {P : Program} {N : Nat} {Q : AE → St → Prop} {ops : Array Oper} {rest : List Oper} {σ σ' : List AObj} {fr : Fr}
variable {d : Nat} {ty : TypeId} {pos : String} {aft : Array Edge} {v : AV}
theorem k_callLast0 {f : FuncId} [TFn P f] {y : Operand} {xs : Array Operand} {ts : Array TypeId} {cargs : List AV} {σc : List AObj} {rv : AV} {X : XO} (ρl : List (Nat × Nat)) (hX0 : σ[0]? = some (.ext X)) (hρ0 : ∀ p ∈ ρl, p.1 ≠ 0)
    (h : ACalls P f cargs σc (fun r _ => r = .ret rv)) (hx : xs.toList.map (ev fr) = cargs.map (renV (ren1 ρl)))
    (hok : cargs.all (okV ρl.length) = true) (hl : ρl.length = σc.length) (hnd : (ρl.map (·.1)).Nodup) (hp : ∀ (k : Nat) id off oc, ρl[k]? = some (id, off) → σc[k]? = some oc → ∃ o, σ[id]? = some o ∧ passO (ren1 ρl) ρl.length o off oc)
    (k : AList P N ops Q rest ⟨(d, rv) :: fr, (σ.map fun _ => AObj.dead).set 0 (.ext X)⟩) (hv : litV rv = true := by rfl) (hy : ev fr y = .c (.p (.lit (.func (.func f) #[] #[]))) := by exact rfl) (hd : Nat.blt d N = true := by rfl) (hg : xs.toList.all goodConst = true := by rfl) :
    AList P N ops Q (⟨some d, .call { callee := .value y, args := xs, argTypes := ts }, ty, pos, aft, none⟩ :: rest) ⟨fr, σ⟩ := by
  intro m F a w hr
  refine wpList_plain rfl fun K hK => ?_
  have i : Inv m F σ w := hr.inv
  have hf : a.eval y = .func (.func f) #[] #[] := by
    have := ev_rv (fr := fr) (m := m) (w := w) (F := F) (a := a) (good_of_lit hy) (fun t e => hr.fr t)
    rw [hy] at this
    exact RP.eq_lit this
  obtain ⟨h1, h2⟩ := callArgs hx (fun x _ hc => ev_rv hc fun t _ => hr.fr t) hg
  obtain ⟨mc, c1, c2, c3, c4⟩ := inv_in i hl hnd hp
  have hid : 0 < m.length := by rw [i.len]; exact (List.getElem?_eq_some_iff.1 hX0).1
  obtain ⟨l0, hl0⟩ : ∃ l, m[0]? = some l := ⟨_, List.getElem?_eq_getElem hid⟩
  refine wp_callFn hf ((h mc F w _ c3 (by rw [h1]; simp) (fun j z hj => ?_)).mono fun e w' he => ?_)
  · exact rv_unren c2 (List.all_eq_true.1 hok z (List.mem_of_getElem? hj)) (h2 j (renV (ren1 ρl) z) (by rw [List.getElem?_map, hj]; rfl))
  · obtain ⟨m', F', σ', r, rfl, hre, hi, hst⟩ := he
    have hFPc : ∀ b q, FP σc mc b q → FP σ m b q ∧ ¬ X.fp l0 b q := fun b q ⟨k, oc, lc, g1, g2, g3⟩ => by
      obtain ⟨id, off, o, l, g4, g5, g6, _, g8⟩ := c4 k oc lc g1 g2
      have g9 := g8 b q g3
      refine ⟨⟨id, o, l, g5, g6, g9⟩, fun hx0 => ?_⟩
      exact i.sep id 0 o l (.ext X) l0 (hρ0 _ (List.mem_of_getElem? g4)) g5 g6 hX0 hl0 b q g9 hx0
    have hXlt : ∀ b q, X.fp l0 b q → b < w.heap.size := fun b q hq => i.lt b q ⟨0, _, _, hX0, hl0, hq⟩
    have hXblk : ∀ b q, X.fp l0 b q → w'.heap[b]? = w.heap[b]? := fun b q hq => by
      refine hst.blk b (hXlt b q hq) (fun z hz => ?_)
      obtain ⟨g1, g2⟩ := hFPc b z hz
      rcases X.cover (i.obj 0 _ _ hX0 hl0) hq z with g3 | g3
      · exact g2 g3
      · exact c3.dis b z hz g3
    have hXdis : ∀ b q, X.fp l0 b q → ¬ F' b q := fun b q hq hF => by
      rcases hst.new b q (.inr hF) with h4 | h4 | h4
      · exact (hFPc b q h4).2 hq
      · exact i.dis b q ⟨0, _, _, hX0, hl0, hq⟩ h4
      · have := hXlt b q hq; omega
    have hget : ∀ (j : Nat) o, ((σ.map fun _ => AObj.dead).set 0 (.ext X))[j]? = some o → (j = 0 ∧ o = .ext X) ∨ o = .dead := fun j o hj => by
      by_cases hj0 : j = 0
      · subst hj0
        rw [List.getElem?_set_self (by rw [List.length_map, ← i.len]; exact hid)] at hj
        injection hj with hj; exact .inl ⟨rfl, hj.symm⟩
      · rw [List.getElem?_set_ne (fun e => hj0 e.symm), List.getElem?_map, Option.map_eq_some_iff] at hj
        obtain ⟨o', _, rfl⟩ := hj; exact .inr rfl
    have hFP2 : ∀ b q, FP ((σ.map fun _ => AObj.dead).set 0 (.ext X)) m b q → X.fp l0 b q := by
      rintro b q ⟨j, o, l, g1, g2, g3⟩
      rcases hget j o g1 with ⟨rfl, rfl⟩ | rfl
      · rw [hl0] at g2; injection g2 with g2; subst g2; exact g3
      · exact g3.elim
    have hFP3 : ∀ b q, X.fp l0 b q → FP σ m b q := fun b q hq => ⟨0, _, _, hX0, hl0, hq⟩
    have i2 : Inv m F' ((σ.map fun _ => AObj.dead).set 0 (.ext X)) w' := by
      refine ⟨by simp [i.len], hi.frz, fun b q hf => Nat.lt_of_lt_of_le (hXlt b q (hFP2 b q hf)) hst.size, fun j o l g1 g2 => ?_, fun j q o l o' l' hne g1 g2 g3 g4 b z hf hf' => ?_, fun b q hf => hXdis b q (hFP2 b q hf)⟩
      · rcases hget j o g1 with ⟨rfl, rfl⟩ | rfl
        · rw [hl0] at g2; injection g2 with g2; subst g2
          exact X.mono (i.obj 0 _ _ hX0 hl0) hst.fm (fun b q hF => (hst.cel b q (i.frz b q hF) (fun hq => c3.dis b q hq hF)).1) hXblk
        · cases l <;> trivial
      · rcases hget j o g1 with ⟨rfl, rfl⟩ | rfl
        · rcases hget q o' g3 with ⟨rfl, rfl⟩ | rfl
          · exact hne rfl
          · exact hf'.elim
        · exact hf.elim
    have st2 : Step m F σ w m F' ((σ.map fun _ => AObj.dead).set 0 (.ext X)) w' := by
      refine ⟨⟨[], by simp⟩, hst.fm, hst.os, hst.tape, hst.output, hst.size, fun b hb hn => hst.blk b hb (fun q hq => hn q (hFPc b q hq).1), fun b q hb hn => hst.cel b q hb (fun hq => hn (hFPc b q hq).1), fun b q hf => ?_⟩
      rcases hf with hf | hf
      · exact .inl (hFP3 b q (hFP2 b q hf))
      · rcases hst.new b q (.inr hf) with h4 | h4 | h4
        · exact .inl (hFPc b q h4).1
        · exact .inr (.inl h4)
        · exact .inr (.inr h4)
    cases e with
    | panicked ch => exact hre.elim
    | outgrown => exact hre.elim
    | returned u =>
      have hr1 : Rel N m F' ⟨fr, (σ.map fun _ => AObj.dead).set 0 (.ext X)⟩ a w' := ⟨i2, fun t => (hr.fr t).step i st2, hr.size, hr.defers⟩
      have hr2 := hr1.put (d := some d) (fun t ht => by injection ht with ht; subst ht; exact blt_lt hd) (rv_litV (m' := m) hv hre)
      exact hK _ _ (wpList_post_mono (fun e a1 w1 hp => hp.trans hr.inv i2 st2) _ _ _ (k m F' _ w' hr2))
end
end Go.AL
set_option linter.unusedVariables false
namespace Go.AL
section
variable {P : Program} {N i j : Nat} {l : Array Oper} {Q : AE → St → Prop} {s : St} {c1 c2 : Code} {o1 o2 : Operand} {d : Nat} {dd : Option Nat} {op : Op} {ty t : TypeId} {pos : String} {aft : Array Edge} {g : Nat × Bool} {gg : Option (Nat × Bool)} {r r2 : List Oper} {parts : Array (Nat × Operand)} {cl : Call} {A : St → Prop} {x : AE} {fn : Func} {R : CE → List AObj → Prop} {σ σ2 : List AObj} {fr : Fr} {v : AV}
abbrev cReg : Prop := AWp P N (.region i l false) Q s
abbrev cRegD : Prop := AWp P N (.region i l true) Q s
abbrev cSeq : Prop := AWp P N (.seq c1 c2) Q s
abbrev cBlk : Prop := AWp P N (.block i c1) Q s
abbrev cSkip : Prop := AWp P N .skip Q s
abbrev cExit : Prop := AWp P N (.exit i) Q s
abbrev cRet : Prop := AWp P N .ret Q s
abbrev cLoop : Prop := AWp P N (.loop c1) Q s
abbrev cIf : Prop := AWp P N (.cond o1 c1 c2) Q s
abbrev lOp : Prop := AList P N l Q (Oper.mk (some d) op ty pos aft none :: r) s
abbrev lGu : Prop := AList P N l Q (Oper.mk dd op ty pos aft (some g) :: r) s
abbrev lNil : Prop := AList P N l Q [] s
abbrev lAlloc : Prop := AList P N l Q (Oper.mk dd (.alloc t) ty pos aft none :: r) s
abbrev lBox : Prop := AList P N l Q (Oper.mk dd (.box t o1) ty pos aft none :: r) s
abbrev lStore : Prop := AList P N l Q (Oper.mk dd (.store t o1 o2) ty pos aft none :: r) s
abbrev lMakeSlice : Prop := AList P N l Q (Oper.mk dd (.makeSlice t o1 o2) ty pos aft none :: r) s
abbrev lBuildSlice : Prop := AList P N l Q (Oper.mk dd (.buildSlice t i parts) ty pos aft none :: r) s
abbrev lCall : Prop := AList P N l Q (Oper.mk dd (.call cl) ty pos aft none :: r) s
abbrev qSeq : Prop := seqQ A Q x s
abbrev qBlk : Prop := blockQ i Q x s
abbrev rRnd : Prop := awR P N c1 Q i s
abbrev rRq : Prop := rQ P N c1 Q i x s
abbrev eRet : Prop := retQ P fn R .ret s
abbrev eEnd : Prop := retQ P fn R .normal s
abbrev dOp : Prop := DSteps P N l Q σ r (Oper.mk (some d) op ty pos aft none :: r2) fr
abbrev dGu : Prop := DSteps P N l Q σ r (Oper.mk dd op ty pos aft (some g) :: r2) fr
abbrev dNil : Prop := DSteps P N l Q σ r [] fr
abbrev tNil : Prop := DT P N l Q σ σ2 i r j [] fr
abbrev tNone : Prop := DT P N l Q σ σ2 i r j (Oper.mk none op ty pos aft none :: r2) fr
abbrev tSome : Prop := DT P N l Q σ σ2 i r j (Oper.mk (some d) op ty pos aft none :: r2) fr
abbrev lAt (n : Nat) : Prop := AList P N l Q (Oper.mk (some n) op ty pos aft gg :: r) s
abbrev cAt (n : Nat) : Prop := AWp P N (.region n l false) Q s
abbrev cAtD (n : Nat) : Prop := AWp P N (.region n l true) Q s
end
abbrev kAssign {P : Program} {σ : List AObj} {fr : Fr} {dq : Option Nat} {ty : TypeId} {pos : String} {aft : Array Edge} {gg : Option (Nat × Bool)} {v : AV} {a : Operand} : Prop := RStep P σ fr (Oper.mk dq (.assign a) ty pos aft gg) v
abbrev kMove {P : Program} {σ : List AObj} {fr : Fr} {dq : Option Nat} {ty : TypeId} {pos : String} {aft : Array Edge} {gg : Option (Nat × Bool)} {v : AV} {a : Operand} : Prop := RStep P σ fr (Oper.mk dq (.move a) ty pos aft gg) v
abbrev kCall {P : Program} {σ : List AObj} {fr : Fr} {dq : Option Nat} {ty : TypeId} {pos : String} {aft : Array Edge} {gg : Option (Nat × Bool)} {v : AV} {a : Call} : Prop := RStep P σ fr (Oper.mk dq (.call a) ty pos aft gg) v
abbrev kLoad {P : Program} {σ : List AObj} {fr : Fr} {dq : Option Nat} {ty : TypeId} {pos : String} {aft : Array Edge} {gg : Option (Nat × Bool)} {v : AV} {a : TypeId} {b : Operand} : Prop := RStep P σ fr (Oper.mk dq (.load a b) ty pos aft gg) v
abbrev kFieldaddr {P : Program} {σ : List AObj} {fr : Fr} {dq : Option Nat} {ty : TypeId} {pos : String} {aft : Array Edge} {gg : Option (Nat × Bool)} {v : AV} {a : TypeId} {b : Operand} {c : Nat} : Prop := RStep P σ fr (Oper.mk dq (.fieldAddr a b c) ty pos aft gg) v
abbrev kIndexaddr {P : Program} {σ : List AObj} {fr : Fr} {dq : Option Nat} {ty : TypeId} {pos : String} {aft : Array Edge} {gg : Option (Nat × Bool)} {v : AV} {a : TypeId} {b : Operand} {c : Operand} : Prop := RStep P σ fr (Oper.mk dq (.indexAddr a b c) ty pos aft gg) v
abbrev kBinopAdd {P : Program} {σ : List AObj} {fr : Fr} {dq : Option Nat} {ty : TypeId} {pos : String} {aft : Array Edge} {gg : Option (Nat × Bool)} {v : AV} {a : TypeId} {b : Operand} {c : Operand} {d : TypeId} : Prop := RStep P σ fr (Oper.mk dq (.binOp .add a b c d) ty pos aft gg) v
abbrev kBinopSub {P : Program} {σ : List AObj} {fr : Fr} {dq : Option Nat} {ty : TypeId} {pos : String} {aft : Array Edge} {gg : Option (Nat × Bool)} {v : AV} {a : TypeId} {b : Operand} {c : Operand} {d : TypeId} : Prop := RStep P σ fr (Oper.mk dq (.binOp .sub a b c d) ty pos aft gg) v
abbrev kBinopEql {P : Program} {σ : List AObj} {fr : Fr} {dq : Option Nat} {ty : TypeId} {pos : String} {aft : Array Edge} {gg : Option (Nat × Bool)} {v : AV} {a : TypeId} {b : Operand} {c : Operand} {d : TypeId} : Prop := RStep P σ fr (Oper.mk dq (.binOp .eql a b c d) ty pos aft gg) v
abbrev kBinopNeq {P : Program} {σ : List AObj} {fr : Fr} {dq : Option Nat} {ty : TypeId} {pos : String} {aft : Array Edge} {gg : Option (Nat × Bool)} {v : AV} {a : TypeId} {b : Operand} {c : Operand} {d : TypeId} : Prop := RStep P σ fr (Oper.mk dq (.binOp .neq a b c d) ty pos aft gg) v
abbrev kBinopLss {P : Program} {σ : List AObj} {fr : Fr} {dq : Option Nat} {ty : TypeId} {pos : String} {aft : Array Edge} {gg : Option (Nat × Bool)} {v : AV} {a : TypeId} {b : Operand} {c : Operand} {d : TypeId} : Prop := RStep P σ fr (Oper.mk dq (.binOp .lss a b c d) ty pos aft gg) v
abbrev kBinopLeq {P : Program} {σ : List AObj} {fr : Fr} {dq : Option Nat} {ty : TypeId} {pos : String} {aft : Array Edge} {gg : Option (Nat × Bool)} {v : AV} {a : TypeId} {b : Operand} {c : Operand} {d : TypeId} : Prop := RStep P σ fr (Oper.mk dq (.binOp .leq a b c d) ty pos aft gg) v
abbrev kBinopGtr {P : Program} {σ : List AObj} {fr : Fr} {dq : Option Nat} {ty : TypeId} {pos : String} {aft : Array Edge} {gg : Option (Nat × Bool)} {v : AV} {a : TypeId} {b : Operand} {c : Operand} {d : TypeId} : Prop := RStep P σ fr (Oper.mk dq (.binOp .gtr a b c d) ty pos aft gg) v
abbrev kBinopGeq {P : Program} {σ : List AObj} {fr : Fr} {dq : Option Nat} {ty : TypeId} {pos : String} {aft : Array Edge} {gg : Option (Nat × Bool)} {v : AV} {a : TypeId} {b : Operand} {c : Operand} {d : TypeId} : Prop := RStep P σ fr (Oper.mk dq (.binOp .geq a b c d) ty pos aft gg) v
abbrev kBinopMul {P : Program} {σ : List AObj} {fr : Fr} {dq : Option Nat} {ty : TypeId} {pos : String} {aft : Array Edge} {gg : Option (Nat × Bool)} {v : AV} {a : TypeId} {b : Operand} {c : Operand} {d : TypeId} : Prop := RStep P σ fr (Oper.mk dq (.binOp .mul a b c d) ty pos aft gg) v
abbrev kPick {P : Program} {σ : List AObj} {fr : Fr} {dq : Option Nat} {ty : TypeId} {pos : String} {aft : Array Edge} {gg : Option (Nat × Bool)} {v : AV} {a : Operand} {b : Operand} {c : Operand} : Prop := RStep P σ fr (Oper.mk dq (.pick a b c) ty pos aft gg) v
abbrev kUnopNot {P : Program} {σ : List AObj} {fr : Fr} {dq : Option Nat} {ty : TypeId} {pos : String} {aft : Array Edge} {gg : Option (Nat × Bool)} {v : AV} {a : TypeId} {b : Operand} : Prop := RStep P σ fr (Oper.mk dq (.unOp .not a b) ty pos aft gg) v
abbrev kUnopNeg {P : Program} {σ : List AObj} {fr : Fr} {dq : Option Nat} {ty : TypeId} {pos : String} {aft : Array Edge} {gg : Option (Nat × Bool)} {v : AV} {a : TypeId} {b : Operand} : Prop := RStep P σ fr (Oper.mk dq (.unOp .neg a b) ty pos aft gg) v
abbrev kNilcheck {P : Program} {σ : List AObj} {fr : Fr} {dq : Option Nat} {ty : TypeId} {pos : String} {aft : Array Edge} {gg : Option (Nat × Bool)} {v : AV} {a : Operand} : Prop := RStep P σ fr (Oper.mk dq (.nilCheck a) ty pos aft gg) v
abbrev kSlice {P : Program} {σ : List AObj} {fr : Fr} {dq : Option Nat} {ty : TypeId} {pos : String} {aft : Array Edge} {gg : Option (Nat × Bool)} {v : AV} {a : TypeId} {b : Operand} {c : Option Operand} {d : Option Operand} {e : Option Operand} : Prop := RStep P σ fr (Oper.mk dq (.slice a b c d e) ty pos aft gg) v
abbrev kField {P : Program} {σ : List AObj} {fr : Fr} {dq : Option Nat} {ty : TypeId} {pos : String} {aft : Array Edge} {gg : Option (Nat × Bool)} {v : AV} {a : TypeId} {b : Operand} {c : Nat} : Prop := RStep P σ fr (Oper.mk dq (.field a b c) ty pos aft gg) v
abbrev kIndex {P : Program} {σ : List AObj} {fr : Fr} {dq : Option Nat} {ty : TypeId} {pos : String} {aft : Array Edge} {gg : Option (Nat × Bool)} {v : AV} {a : TypeId} {b : Operand} {c : Operand} : Prop := RStep P σ fr (Oper.mk dq (.index a b c) ty pos aft gg) v
abbrev kExtract {P : Program} {σ : List AObj} {fr : Fr} {dq : Option Nat} {ty : TypeId} {pos : String} {aft : Array Edge} {gg : Option (Nat × Bool)} {v : AV} {a : Operand} {b : Nat} : Prop := RStep P σ fr (Oper.mk dq (.extract a b) ty pos aft gg) v
abbrev kConvert {P : Program} {σ : List AObj} {fr : Fr} {dq : Option Nat} {ty : TypeId} {pos : String} {aft : Array Edge} {gg : Option (Nat × Bool)} {v : AV} {a : TypeId} {b : TypeId} {c : Operand} : Prop := RStep P σ fr (Oper.mk dq (.convert a b c) ty pos aft gg) v
abbrev kBinopAnd {P : Program} {σ : List AObj} {fr : Fr} {dq : Option Nat} {ty : TypeId} {pos : String} {aft : Array Edge} {gg : Option (Nat × Bool)} {v : AV} {a : TypeId} {b : Operand} {c : Operand} {d : TypeId} : Prop := RStep P σ fr (Oper.mk dq (.binOp .and a b c d) ty pos aft gg) v
abbrev kBinopShr {P : Program} {σ : List AObj} {fr : Fr} {dq : Option Nat} {ty : TypeId} {pos : String} {aft : Array Edge} {gg : Option (Nat × Bool)} {v : AV} {a : TypeId} {b : Operand} {c : Operand} {d : TypeId} : Prop := RStep P σ fr (Oper.mk dq (.binOp .shr a b c d) ty pos aft gg) v
abbrev kBinopQuo {P : Program} {σ : List AObj} {fr : Fr} {dq : Option Nat} {ty : TypeId} {pos : String} {aft : Array Edge} {gg : Option (Nat × Bool)} {v : AV} {a : TypeId} {b : Operand} {c : Operand} {d : TypeId} : Prop := RStep P σ fr (Oper.mk dq (.binOp .quo a b c d) ty pos aft gg) v
abbrev kBinopRem {P : Program} {σ : List AObj} {fr : Fr} {dq : Option Nat} {ty : TypeId} {pos : String} {aft : Array Edge} {gg : Option (Nat × Bool)} {v : AV} {a : TypeId} {b : Operand} {c : Operand} {d : TypeId} : Prop := RStep P σ fr (Oper.mk dq (.binOp .rem a b c d) ty pos aft gg) v
abbrev kMakeinterface {P : Program} {σ : List AObj} {fr : Fr} {dq : Option Nat} {ty : TypeId} {pos : String} {aft : Array Edge} {gg : Option (Nat × Bool)} {v : AV} {a : TypeId} {b : Operand} : Prop := RStep P σ fr (Oper.mk dq (.makeInterface a b) ty pos aft gg) v
abbrev kMakefunc {P : Program} {σ : List AObj} {fr : Fr} {dq : Option Nat} {ty : TypeId} {pos : String} {aft : Array Edge} {gg : Option (Nat × Bool)} {v : AV} {a : Fn} {b : Array Operand} {c : Array Operand} : Prop := RStep P σ fr (Oper.mk dq (.makeFunc a b c) ty pos aft gg) v
abbrev kBuild {P : Program} {σ : List AObj} {fr : Fr} {dq : Option Nat} {ty : TypeId} {pos : String} {aft : Array Edge} {gg : Option (Nat × Bool)} {v : AV} {a : TypeId} {b : Array (Nat × Operand)} : Prop := RStep P σ fr (Oper.mk dq (.build a b) ty pos aft gg) v
abbrev kBuildslice {P : Program} {σ : List AObj} {fr : Fr} {dq : Option Nat} {ty : TypeId} {pos : String} {aft : Array Edge} {gg : Option (Nat × Bool)} {v : AV} {a : TypeId} {b : Nat} {c : Array (Nat × Operand)} : Prop := RStep P σ fr (Oper.mk dq (.buildSlice a b c) ty pos aft gg) v
end Go.AL
