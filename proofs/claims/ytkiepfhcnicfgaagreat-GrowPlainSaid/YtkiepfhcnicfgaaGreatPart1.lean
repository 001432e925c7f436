/-
  Part 1 of the proof: the rules by which a call is walked.
-/
import Derived.Below
import Derived.ChangeKeysEq
import Derived.Deep.Draws
import Derived.KernelRfl
import Derived.Laws.IdiomCopy
import Derived.Laws.OwnMore
import Derived.Laws.Rows
import Derived.Laws.StructEq
import Derived.Maps.AppendAt
import Derived.Orders
import Derived.StillTail
import Derived.Tactics
set_option linter.all false
set_option maxRecDepth 100000
set_option maxHeartbeats 8000000
namespace Go.AL
open Go.RowKit
inductive PV where
 | lit (v : Value)
 | sl (sz : Nat) (l : List (List PV))
 | rp (l : List PV)
 | ifc (t : TypeId) (x : PV)
 | ifa (t : TypeId) (l : List PV)
 | fn (f : FuncId) (l : List PV)
 | e0
 deriving Inhabited
inductive C where
 | p (x : PV)
 | ms (id len : Nat)
 | ptr (id off : Nat)
 | ept (id sz i off : Nat)
 | mpr (id : Nat)
 | fnp (f : FuncId) (l : List (Nat × Nat))
 | any
 deriving Inhabited
inductive AV where
 | c (x : C)
 | agg (l : List C)
 | tup (l : List AV)
 deriving Inhabited
inductive Loc where
 | at (b o : Nat)
 | row (A : Option Nat) (cap : Nat)
structure XO where
 ok : World -> (Nat -> Nat -> Prop) -> Loc -> Prop
 fp : Loc -> Nat -> Nat -> Prop
 cover : ∀ {w : World} {F : Nat -> Nat -> Prop} {l : Loc} {b k : Nat}, ok w F l -> fp l b k -> ∀ k', fp l b k' \/ F b k'
 mono : ∀ {w w' : World} {F F' : Nat -> Nat -> Prop} {l : Loc}, ok w F l -> (∀ b k, F b k -> F' b k) -> (∀ b k, F b k -> w'.cell? ⟨b, k, none⟩ = w.cell? ⟨b, k, none⟩) -> (∀ b k, fp l b k -> w'.heap[b]? = w.heap[b]?) -> ok w' F' l
inductive AObj where
 | cells (l : List C)
 | arr (e : TypeId) (sz : Nat) (l : List (List PV))
 | arrC (e : TypeId) (sz : Nat) (l : List (List C))
 | ext (X : XO)
 | dead
 deriving Inhabited
def rowV (A : Option Nat) (n cap : Nat) : Value := .slice (A.map fun b => (⟨b, 0, none⟩ : Addr)) n cap
inductive RP (w : World) (F : Nat -> Nat -> Prop) : PV -> Value -> Prop
 | lit {v : Value} (h : v.oneCell' = true) : RP w F (.lit v) v
 | sl0 (sz : Nat) (A : Option Addr) (cap : Nat) : RP w F (.sl sz []) (.slice A 0 cap)
 | sl {b o cap sz : Nat} {l : List (List PV)} (us : Nat -> Value) (hc : l.length <= cap) (hs : ∀ e ∈ l, e.length = sz) (hF : ∀ j, j < l.length * sz -> F b (o + j)) (hw : ∀ j, j < l.length * sz -> w.cell? ⟨b, o + j, none⟩ = some (us j))
   (hr : ∀ i e, l[i]? = some e -> ∀ j x, e[j]? = some x -> RP w F x (us (i * sz + j))) : RP w F (.sl sz l) (.slice (some ⟨b, o, none⟩) l.length cap)
 | rp {b o : Nat} {l : List PV} (us : Nat -> Value) (hF : ∀ j, j < l.length -> F b (o + j)) (hw : ∀ j, j < l.length -> w.cell? ⟨b, o + j, none⟩ = some (us j))
   (hr : ∀ j x, l[j]? = some x -> RP w F x (us j)) : RP w F (.rp l) (.pointer (some ⟨b, o, none⟩))
 | ifc {t : TypeId} {x : PV} {v : Value} (h : RP w F x v) : RP w F (.ifc t x) (.iface t v)
 | ifa {t : TypeId} {l : List PV} (vs : Array Value) (hs : vs.size = l.length) (hr : ∀ j x, l[j]? = some x -> RP w F x (vs.getD j undef)) : RP w F (.ifa t l) (.iface t (.agg vs))
 | fn {f : FuncId} {l : List PV} (vs : Array Value) (hs : vs.size = l.length) (hr : ∀ j x, l[j]? = some x -> RP w F x (vs.getD j undef)) : RP w F (.fn f l) (.func (.func f) #[] vs)
 | e0 (a : Addr) : RP w F .e0 (.slice (some a) 0 0)
theorem RP.one {w : World} {F : Nat -> Nat -> Prop} {x : PV} {v : Value} (h : RP w F x v) : v.oneCell' = true := by
 cases h <;> first | assumption | rfl
theorem RP.eq_lit {w : World} {F : Nat -> Nat -> Prop} {u v : Value} (h : RP w F (.lit v) u) : u = v := by
 generalize hx : PV.lit v = x at h
 cases h <;> first | (injection hx with hx; exact hx.symm) | cases hx
theorem RP.mono {w w' : World} {F F' : Nat -> Nat -> Prop} (hF : ∀ b k, F b k -> F' b k) (hw : ∀ b k, F b k -> w'.cell? ⟨b, k, none⟩ = w.cell? ⟨b, k, none⟩) {x : PV} {v : Value} (h : RP w F x v) : RP w' F' x v := by
 induction h with
 | lit h => exact .lit h
 | sl0 sz A cap => exact .sl0 sz A cap
 | sl us hc hs h1 h2 _ ih => exact .sl us hc hs (fun j hj => hF _ _ (h1 j hj)) (fun j hj => (hw _ _ (h1 j hj)).trans (h2 j hj)) ih
 | rp us h1 h2 _ ih => exact .rp us (fun j hj => hF _ _ (h1 j hj)) (fun j hj => (hw _ _ (h1 j hj)).trans (h2 j hj)) ih
 | ifc _ ih => exact .ifc ih
 | ifa vs hs _ ih => exact .ifa vs hs ih
 | fn vs hs _ ih => exact .fn vs hs ih
 | e0 a => exact .e0 a
def RC (m : List Loc) (w : World) (F : Nat -> Nat -> Prop) : C -> Value -> Prop
 | .p x, v => RP w F x v
 | .ms id len, v => ∃ A cap, m[id]? = some (.row A cap) /\ len <= cap /\ v = rowV A len cap
 | .ptr id off, v => ∃ b o, m[id]? = some (.at b o) /\ v = .pointer (some ⟨b, o + off, none⟩)
 | .ept id sz i off, v => ∃ b cap, m[id]? = some (.row (some b) cap) /\ v = .pointer (some ⟨b, i * sz + off, none⟩)
 | .mpr id, v => ∃ b cap, m[id]? = some (.row (some b) cap) /\ v = .map (some b)
 | .fnp f l, v => ∃ vs : Array Value, v = .func (.func f) #[] vs /\ vs.size = l.length /\ ∀ j p, l[j]? = some p -> ∃ b o, m[p.1]? = some (.at b o) /\ vs.getD j undef = .pointer (some ⟨b, o + p.2, none⟩)
 | .any, _ => True
def RV0 (m : List Loc) (w : World) (F : Nat -> Nat -> Prop) : AV -> Value -> Prop
 | .c x, v => RC m w F x v
 | .agg l, v => ∃ cs : Array Value, v = .agg cs /\ cs.size = l.length /\ ∀ j x, l[j]? = some x -> RC m w F x (cs.getD j undef)
 | .tup _, _ => False
def RV (m : List Loc) (w : World) (F : Nat -> Nat -> Prop) : AV -> Value -> Prop
 | .tup l, v => ∃ vs : Array Value, v = .tuple vs /\ vs.size = l.length /\ ∀ j x, l[j]? = some x -> RV0 m w F x (vs.getD j undef)
 | x, v => RV0 m w F x v
theorem getElem?_ext {m k : List Loc} {i : Nat} {l : Loc} (h : m[i]? = some l) : (m ++ k)[i]? = some l := by
 rw [List.getElem?_append_left (List.getElem?_eq_some_iff.1 h).1]; exact h
theorem RC.mono {m k : List Loc} {w w' : World} {F F' : Nat -> Nat -> Prop} (hF : ∀ b k, F b k -> F' b k) (hw : ∀ b k, F b k -> w'.cell? ⟨b, k, none⟩ = w.cell? ⟨b, k, none⟩) {x : C} {v : Value} (h : RC m w F x v) : RC (m ++ k) w' F' x v := by
 cases x with
 | p x => exact RP.mono hF hw h
 | ms id len => obtain ⟨A, cap, h1, h2⟩ := h; exact ⟨A, cap, getElem?_ext h1, h2⟩
 | ptr id off => obtain ⟨b, o, h1, h2⟩ := h; exact ⟨b, o, getElem?_ext h1, h2⟩
 | ept id sz i off => obtain ⟨b, o, h1, h2⟩ := h; exact ⟨b, o, getElem?_ext h1, h2⟩
 | mpr id => obtain ⟨b, o, h1, h2⟩ := h; exact ⟨b, o, getElem?_ext h1, h2⟩
 | fnp f l => obtain ⟨vs, h1, h2, h3⟩ := h; exact ⟨vs, h1, h2, fun j p hp => by obtain ⟨b, o, h4, h5⟩ := h3 j p hp; exact ⟨b, o, getElem?_ext h4, h5⟩⟩
 | any => trivial
theorem RV0.mono {m k : List Loc} {w w' : World} {F F' : Nat -> Nat -> Prop} (hF : ∀ b k, F b k -> F' b k) (hw : ∀ b k, F b k -> w'.cell? ⟨b, k, none⟩ = w.cell? ⟨b, k, none⟩) {x : AV} {v : Value} (h : RV0 m w F x v) : RV0 (m ++ k) w' F' x v := by
 cases x with
 | c x => exact RC.mono hF hw h
 | agg l => obtain ⟨cs, h1, h2, h3⟩ := h; exact ⟨cs, h1, h2, fun j x hx => RC.mono hF hw (h3 j x hx)⟩
 | tup l => exact h.elim
theorem RV.mono {m k : List Loc} {w w' : World} {F F' : Nat -> Nat -> Prop} (hF : ∀ b k, F b k -> F' b k) (hw : ∀ b k, F b k -> w'.cell? ⟨b, k, none⟩ = w.cell? ⟨b, k, none⟩) {x : AV} {v : Value} (h : RV m w F x v) : RV (m ++ k) w' F' x v := by
 cases x with
 | c x => exact RC.mono hF hw h
 | agg l => exact RV0.mono (x := .agg l) hF hw h
 | tup l => obtain ⟨cs, h1, h2, h3⟩ := h; exact ⟨cs, h1, h2, fun j x hx => RV0.mono hF hw (h3 j x hx)⟩
def ObjAt (m : List Loc) (w : World) (F : Nat -> Nat -> Prop) : AObj -> Loc -> Prop
 | .cells l, .at b o => ∀ j c, l[j]? = some c -> (∃ u, w.cell? ⟨b, o + j, none⟩ = some u /\ RC m w F c u) /\ w.frozen? ⟨b, o + j, none⟩ = false
 | .arr e sz l, .row A cap => ∃ xs : List Value, w.ownsRow 0 e sz (rowV A l.length cap) l.length xs /\ (∀ e ∈ l, e.length = sz) /\ ∀ i e, l[i]? = some e -> ∀ j x, e[j]? = some x -> RP w F x (xs.getD (i * sz + j) undef)
 | .arrC e sz l, .row A cap => ∃ xs : List Value, w.ownsRow 0 e sz (rowV A l.length cap) l.length xs /\ (∀ e ∈ l, e.length = sz) /\ ∀ i e, l[i]? = some e -> ∀ j x, e[j]? = some x -> RC m w F x (xs.getD (i * sz + j) undef)
 | .ext X, l => X.ok w F l
 | .dead, _ => True
 | _, _ => False
def fp : AObj -> Loc -> Nat -> Nat -> Prop
 | .cells l, .at b o, b', k => b' = b /\ o <= k /\ k < o + l.length
 | .arr .., .row A _, b', _ => A = some b'
 | .arrC .., .row A _, b', _ => A = some b'
 | .ext X, l, b', k => X.fp l b' k
 | _, _, _, _ => False
def FP (σ : List AObj) (m : List Loc) (b k : Nat) : Prop := ∃ (i : Nat) (o : AObj) (l : Loc), σ[i]? = some o /\ m[i]? = some l /\ fp o l b k
structure Inv (m : List Loc) (F : Nat -> Nat -> Prop) (σ : List AObj) (w : World) : Prop where
 len : m.length = σ.length
 frz : ∀ b k, F b k -> b < w.heap.size
 lt : ∀ b k, FP σ m b k -> b < w.heap.size
 obj : ∀ (i : Nat) o l, σ[i]? = some o -> m[i]? = some l -> ObjAt m w F o l
 sep : ∀ (i j : Nat) o l o' l', i ≠ j -> σ[i]? = some o -> m[i]? = some l -> σ[j]? = some o' -> m[j]? = some l' -> ∀ b k, fp o l b k -> ¬ fp o' l' b k
 dis : ∀ b k, FP σ m b k -> ¬ F b k
structure Step (m : List Loc) (F : Nat -> Nat -> Prop) (σ : List AObj) (w : World) (m' : List Loc) (F' : Nat -> Nat -> Prop) (σ' : List AObj) (w' : World) : Prop where
 ext : ∃ k, m' = m ++ k
 fm : ∀ b k, F b k -> F' b k
 os : w'.os = w.os
 tape : w'.tape = w.tape
 output : w'.output = w.output
 size : w.heap.size <= w'.heap.size
 blk : ∀ b, b < w.heap.size -> (∀ k, ¬ FP σ m b k) -> w'.heap[b]? = w.heap[b]?
 cel : ∀ b k, b < w.heap.size -> ¬ FP σ m b k -> w'.cell? ⟨b, k, none⟩ = w.cell? ⟨b, k, none⟩ /\ w'.frozen? ⟨b, k, none⟩ = w.frozen? ⟨b, k, none⟩
 new : ∀ b k, (FP σ' m' b k \/ F' b k) -> FP σ m b k \/ F b k \/ w.heap.size <= b
theorem Step.refl (m : List Loc) (F : Nat -> Nat -> Prop) (σ : List AObj) (w : World) : Step m F σ w m F σ w :=
 ⟨⟨[], by simp⟩, fun _ _ h => h, rfl, rfl, rfl, Nat.le_refl _, fun _ _ _ => rfl, fun _ _ _ _ => ⟨rfl, rfl⟩, fun _ _ h => h.elim .inl (fun h => .inr (.inl h))⟩
theorem Step.trans {m m1 m2 : List Loc} {F F1 F2 : Nat -> Nat -> Prop} {σ σ1 σ2 : List AObj} {w w1 w2 : World} (i0 : Inv m F σ w) (i1 : Inv m1 F1 σ1 w1) (h : Step m F σ w m1 F1 σ1 w1) (g : Step m1 F1 σ1 w1 m2 F2 σ2 w2) : Step m F σ w m2 F2 σ2 w2 := by
 obtain ⟨k, hk⟩ := h.ext
 obtain ⟨k2, hk2⟩ := g.ext
 refine ⟨⟨k ++ k2, by rw [hk2, hk, List.append_assoc]⟩, fun b k hb => g.fm _ _ (h.fm _ _ hb), g.os.trans h.os, g.tape.trans h.tape, g.output.trans h.output, Nat.le_trans h.size g.size, ?_, ?_, ?_⟩
 ·intro b hb hn
  by_cases hall : ∀ k, ¬ FP σ1 m1 b k
  ·exact (g.blk b (Nat.lt_of_lt_of_le hb h.size) hall).trans (h.blk b hb hn)
  ·exfalso
   refine hall fun k hf => ?_
   rcases h.new b k (.inl hf) with h1 | h1 | h1
   ·exact hn k h1
   ·exact i1.dis b k hf (h.fm _ _ h1)
   ·omega
 ·intro b k hb hn
  have hn1 : ¬ FP σ1 m1 b k := fun hf => by
   rcases h.new b k (.inl hf) with h1 | h1 | h1
   ·exact hn h1
   ·exact i1.dis b k hf (h.fm _ _ h1)
   ·omega
  have a1 := h.cel b k hb hn
  have a2 := g.cel b k (Nat.lt_of_lt_of_le hb h.size) hn1
  exact ⟨a2.1.trans a1.1, a2.2.trans a1.2⟩
 ·intro b k hf
  rcases g.new b k hf with h1 | h1 | h1
  ·exact h.new b k (.inl h1)
  ·exact h.new b k (.inr h1)
  ·have := h.size; exact .inr (.inr (by omega))
structure Grow (F : Nat -> Nat -> Prop) (w : World) (F' : Nat -> Nat -> Prop) (w' : World) : Prop where
 fm : ∀ b k, F b k -> F' b k
 os : w'.os = w.os
 tape : w'.tape = w.tape
 output : w'.output = w.output
 size : w.heap.size <= w'.heap.size
 blk : ∀ b, b < w.heap.size -> w'.heap[b]? = w.heap[b]?
 new : ∀ b k, F' b k -> F b k \/ w.heap.size <= b
 lt : ∀ b k, F' b k -> b < w'.heap.size \/ F b k
theorem Grow.refl (F : Nat -> Nat -> Prop) (w : World) : Grow F w F w := ⟨fun _ _ h => h, rfl, rfl, rfl, Nat.le_refl _, fun _ _ => rfl, fun _ _ h => .inl h, fun _ _ h => .inr h⟩
theorem Grow.drew (F : Nat -> Nat -> Prop) (w : World) : Grow F w F { w with drawn := w.drawn + 1 } := ⟨fun _ _ h => h, rfl, rfl, rfl, Nat.le_refl _, fun _ _ => rfl, fun _ _ h => .inl h, fun _ _ h => .inr h⟩
theorem cell_of_heap {w w' : World} {b k : Nat} (h : w'.heap[b]? = w.heap[b]?) : w'.cell? ⟨b, k, none⟩ = w.cell? ⟨b, k, none⟩ := World.cell?_of_block (a := ⟨b, k, none⟩) h
theorem frozen_of_heap {w w' : World} {b k : Nat} (h : w'.heap[b]? = w.heap[b]?) : w'.frozen? ⟨b, k, none⟩ = w.frozen? ⟨b, k, none⟩ := World.frozen?_of_block (a := ⟨b, k, none⟩) h
theorem ownsRow_of_heap {w w' : World} {e : TypeId} {sz n : Nat} {A : Option Nat} {cap : Nat} {xs : List Value} (h : w.ownsRow 0 e sz (rowV A n cap) n xs) (hb : ∀ b, A = some b -> w'.heap[b]? = w.heap[b]?) : w'.ownsRow 0 e sz (rowV A n cap) n xs := by
 refine ⟨h.1, ?_⟩
 rcases h.2 with h1 | ⟨g, c, cur, hv, h0, hg, r⟩
 ·exact .inl h1
 ·refine .inr ⟨g, c, cur, hv, h0, ?_, r⟩
  cases A with
  | none => simp [rowV] at hv
  | some b =>
   simp only [rowV, Option.map_some, Value.slice.injEq, Option.some.injEq, Addr.mk.injEq] at hv
   obtain ⟨⟨rfl, _⟩, _⟩ := hv
   rw [hb _ rfl]; exact hg
theorem ObjAt.mono {m k : List Loc} {w w' : World} {F F' : Nat -> Nat -> Prop} {o : AObj} {l : Loc} (h : ObjAt m w F o l) (hF : ∀ b k, F b k -> F' b k) (hw : ∀ b k, F b k -> w'.cell? ⟨b, k, none⟩ = w.cell? ⟨b, k, none⟩)
  (hc : ∀ b k, fp o l b k -> w'.cell? ⟨b, k, none⟩ = w.cell? ⟨b, k, none⟩ /\ w'.frozen? ⟨b, k, none⟩ = w.frozen? ⟨b, k, none⟩) (hb : ∀ b k, fp o l b k -> (∀ k', fp o l b k' \/ F b k') -> w'.heap[b]? = w.heap[b]?) : ObjAt (m ++ k) w' F' o l := by
 cases o with
 | dead => cases l <;> trivial
 | cells cs =>
  cases l with
  | row => exact h.elim
  | «at» b o =>
   intro j c hj
   have hin : fp (.cells cs) (.at b o) b (o + j) := ⟨rfl, by omega, by have := (List.getElem?_eq_some_iff.1 hj).1; omega⟩
   obtain ⟨⟨u, h1, h2⟩, h3⟩ := h j c hj
   exact ⟨⟨u, (hc _ _ hin).1.trans h1, RC.mono hF hw h2⟩, (hc _ _ hin).2.trans h3⟩
 | arr e sz l' =>
  cases l with
  | «at» => exact h.elim
  | row A cap =>
   obtain ⟨xs, h1, h2, h3⟩ := h
   exact ⟨xs, ownsRow_of_heap h1 (fun b hA => hb b 0 hA fun k' => .inl hA), h2, fun i e he j x hx => RP.mono hF hw (h3 i e he j x hx)⟩
 | arrC e sz l' =>
  cases l with
  | «at» => exact h.elim
  | row A cap =>
   obtain ⟨xs, h1, h2, h3⟩ := h
   exact ⟨xs, ownsRow_of_heap h1 (fun b hA => hb b 0 hA fun k' => .inl hA), h2, fun i e he j x hx => RC.mono hF hw (h3 i e he j x hx)⟩
 | ext X => exact X.mono h hF hw fun b k hf => hb b k hf fun k' => X.cover h hf k'
theorem Inv.grow {m : List Loc} {F F' : Nat -> Nat -> Prop} {σ : List AObj} {w w' : World} (h : Inv m F σ w) (g : Grow F w F' w') : Inv m F' σ w' := by
 have hc : ∀ b k, F b k -> w'.cell? ⟨b, k, none⟩ = w.cell? ⟨b, k, none⟩ := fun b k hb => cell_of_heap (g.blk b (h.frz b k hb))
 refine ⟨h.len, fun b k hb => ?_, fun b k hf => Nat.lt_of_lt_of_le (h.lt b k hf) g.size, ?_, h.sep, ?_⟩
 ·rcases g.lt b k hb with h1 | h1
  ·exact h1
  ·exact Nat.lt_of_lt_of_le (h.frz b k h1) g.size
 ·intro i o l ho hl
  have hh : ∀ b k, fp o l b k -> w'.heap[b]? = w.heap[b]? := fun b k hf => g.blk b (h.lt b k ⟨i, _, _, ho, hl, hf⟩)
  have := ObjAt.mono (k := []) (h.obj i o l ho hl) g.fm hc (fun b k hf => ⟨cell_of_heap (hh b k hf), frozen_of_heap (hh b k hf)⟩) (fun b k hf _ => hh b k hf)
  simpa using this
 ·intro b k hf hF
  rcases g.new b k hF with h1 | h1
  ·exact h.dis b k hf h1
  ·have := h.lt b k hf; omega
theorem Grow.step {m : List Loc} {F F' : Nat -> Nat -> Prop} {σ : List AObj} {w w' : World} (g : Grow F w F' w') : Step m F σ w m F' σ w' :=
 ⟨⟨[], by simp⟩, g.fm, g.os, g.tape, g.output, g.size, fun b hb _ => g.blk b hb, fun b k hb _ => ⟨cell_of_heap (g.blk b hb), frozen_of_heap (g.blk b hb)⟩, fun b k h => h.elim .inl (fun h => .inr (g.new b k h))⟩
theorem RV.grow {m : List Loc} {F F' : Nat -> Nat -> Prop} {σ : List AObj} {w w' : World} (i : Inv m F σ w) (g : Grow F w F' w') {x : AV} {v : Value} (h : RV m w F x v) : RV m w' F' x v := by
 have := RV.mono (k := []) g.fm (fun b k hb => cell_of_heap (w := w) (k := k) (g.blk b (i.frz b k hb))) h
 simpa using this
theorem RV.step {m m' : List Loc} {F F' : Nat -> Nat -> Prop} {σ σ' : List AObj} {w w' : World} (i : Inv m F σ w) (g : Step m F σ w m' F' σ' w') {x : AV} {v : Value} (h : RV m w F x v) : RV m' w' F' x v := by
 obtain ⟨k, rfl⟩ := g.ext
 exact RV.mono g.fm (fun b k hb => (g.cel b k (i.frz b k hb) (fun hf => i.dis b k hf hb)).1) h
abbrev Fr := List (Nat × AV)
def Fr.get : Fr -> Nat -> AV
 | [], _ => .c .any
 | (d, v) :: r, t => if d = t then v else Fr.get r t
def Fr.put (fr : Fr) (d : Option Nat) (v : AV) : Fr := match d with | some d => (d, v) :: fr | none => fr
structure St where
 fr : Fr
 σ : List AObj
structure NN where
 n : Nat
 d : List Deferred
instance : Coe NN Nat := ⟨NN.n⟩
structure Rel (N : NN) (m : List Loc) (F : Nat -> Nat -> Prop) (s : St) (a : Act) (w : World) : Prop where
 inv : Inv m F s.σ w
 fr : ∀ t, RV m w F (s.fr.get t) (a.tmps.getD t undef)
 size : a.tmps.size = N.n
 defers : a.defers = N.d
inductive AE where
 | normal
 | exit (id : Nat)
 | goto (l : Nat)
 | ret
 | panic (x : PV)
def RE (w : World) (F : Nat -> Nat -> Prop) : AE -> Exit -> Prop
 | .normal, .normal => True
 | .exit i, .exit j => i = j
 | .goto i, .goto j => i = j
 | .ret, .ret => True
 | .panic x, .panic ch => ∃ v, ch = [{ v, recovered := false }] /\ RP w F x v
 | _, _ => False
def Post (N : NN) (Q : AE -> St -> Prop) (m : List Loc) (F : Nat -> Nat -> Prop) (σ : List AObj) (w : World) : Exit -> Act -> World -> Prop :=
 fun e a' w' => ∃ m' F' s' x, Q x s' /\ RE w' F' x e /\ Rel N m' F' s' a' w' /\ Step m F σ w m' F' s'.σ w'
def AWp (P : Program) (N : NN) (c : Code) (Q : AE -> St -> Prop) (s : St) : Prop :=
 ∀ m F a w, Rel N m F s a w -> c.wp P (Post N Q m F s.σ w) a w
def AList (P : Program) (N : NN) (ops : Array Oper) (Q : AE -> St -> Prop) (l : List Oper) (s : St) : Prop :=
 ∀ m F a w, Rel N m F s a w -> wpList P ops (Post N Q m F s.σ w) l a w
section rules
variable {P : Program} {N : NN} {Q : AE -> St -> Prop} {s : St}
theorem Post.trans {m m1 : List Loc} {F F1 : Nat -> Nat -> Prop} {σ σ1 : List AObj} {w w1 : World} (i0 : Inv m F σ w) (i1 : Inv m1 F1 σ1 w1) (h : Step m F σ w m1 F1 σ1 w1) {e : Exit} {a : Act} {w' : World} (hp : Post N Q m1 F1 σ1 w1 e a w') : Post N Q m F σ w e a w' := by
 obtain ⟨m', F', s', x, hq, he, hr, hs⟩ := hp
 exact ⟨m', F', s', x, hq, he, hr, h.trans i0 i1 hs⟩
theorem Post.mono {Q' : AE -> St -> Prop} (hQ : ∀ x s, Q x s -> Q' x s) {m : List Loc} {F : Nat -> Nat -> Prop} {σ : List AObj} {w : World} {e : Exit} {a : Act} {w' : World} (hp : Post N Q m F σ w e a w') : Post N Q' m F σ w e a w' := by
 obtain ⟨m', F', s', x, hq, r⟩ := hp
 exact ⟨m', F', s', x, hQ _ _ hq, r⟩
theorem AWp.mono {Q' : AE -> St -> Prop} {c : Code} (h : AWp P N c Q s) (hQ : ∀ x s, Q x s -> Q' x s) : AWp P N c Q' s :=
 fun m F a w hr => wp_mono (h m F a w hr) fun _ _ _ hp => hp.mono hQ
def seqQ (Q1 : St -> Prop) (Q : AE -> St -> Prop) : AE -> St -> Prop
 | .normal, s => Q1 s
 | x, s => Q x s
theorem aw_seq {x y : Code} (h : AWp P N x (seqQ (AWp P N y Q) Q) s) : AWp P N (.seq x y) Q s := by
 intro m F a w hr
 refine wp_seq (wp_mono (h m F a w hr) fun e a1 w1 hp => ?_)
 obtain ⟨m1, F1, s1, x1, hq, he, hr1, hs1⟩ := hp
 cases e with
 | normal =>
  cases x1 <;> first | exact he.elim | skip
  exact wp_mono (hq m1 F1 a1 w1 hr1) fun _ _ _ hp => hp.trans hr.inv hr1.inv hs1
 | exit i => cases x1 <;> first | exact he.elim | exact ⟨m1, F1, s1, _, hq, he, hr1, hs1⟩
 | goto i => cases x1 <;> first | exact he.elim | exact ⟨m1, F1, s1, _, hq, he, hr1, hs1⟩
 | ret => cases x1 <;> first | exact he.elim | exact ⟨m1, F1, s1, _, hq, he, hr1, hs1⟩
 | panic ch => cases x1 <;> first | exact he.elim | exact ⟨m1, F1, s1, _, hq, he, hr1, hs1⟩
 | outgrown => cases x1 <;> exact he.elim
theorem aw_skip (h : Q .normal s) : AWp P N .skip Q s := fun m F a w hr => wp_skip ⟨m, F, s, .normal, h, trivial, hr, Step.refl ..⟩
theorem aw_exit {id : Nat} (h : Q (.exit id) s) : AWp P N (.exit id) Q s := fun m F a w hr => wp_exit ⟨m, F, s, .exit id, h, rfl, hr, Step.refl ..⟩
theorem aw_ret (h : Q .ret s) : AWp P N .ret Q s := fun m F a w hr => wp_ret ⟨m, F, s, .ret, h, trivial, hr, Step.refl ..⟩
def blockQ (id : Nat) (Q : AE -> St -> Prop) : AE -> St -> Prop
 | .exit i, s => if i = id then Q .normal s else Q (.exit i) s
 | x, s => Q x s
theorem aw_block {id : Nat} {c : Code} (h : AWp P N c (blockQ id Q) s) : AWp P N (.block id c) Q s := by
 intro m F a w hr
 refine wp_block (wp_mono (h m F a w hr) fun e a1 w1 hp => ?_)
 obtain ⟨m1, F1, s1, x1, hq, he, hr1, hs1⟩ := hp
 cases e with
 | exit i =>
  cases x1 <;> first | exact he.elim | skip
  rename_i j
  have he : j = i := he
  subst he
  simp only [Exit.inBlock]
  simp only [blockQ] at hq
  split
  ·rename_i hi; rw [if_pos hi] at hq; exact ⟨m1, F1, s1, .normal, hq, trivial, hr1, hs1⟩
  ·rename_i hi; rw [if_neg hi] at hq; exact ⟨m1, F1, s1, .exit j, hq, rfl, hr1, hs1⟩
 | normal => cases x1 <;> first | exact he.elim | exact ⟨m1, F1, s1, _, hq, he, hr1, hs1⟩
 | goto i => cases x1 <;> first | exact he.elim | exact ⟨m1, F1, s1, _, hq, he, hr1, hs1⟩
 | ret => cases x1 <;> first | exact he.elim | exact ⟨m1, F1, s1, _, hq, he, hr1, hs1⟩
 | panic ch => cases x1 <;> first | exact he.elim | exact ⟨m1, F1, s1, _, hq, he, hr1, hs1⟩
 | outgrown => cases x1 <;> exact he.elim
structure Weak (s s' : St) : Prop where
 σ : s'.σ = s.σ
 fr : ∀ t, s'.fr.get t = s.fr.get t \/ s'.fr.get t = .c .any
theorem Rel.weak {m : List Loc} {F : Nat -> Nat -> Prop} {s s' : St} {a : Act} {w : World} (h : Rel N m F s a w) (hw : Weak s s') : Rel N m F s' a w :=
 ⟨by rw [hw.σ]; exact h.inv, fun t => by
  rcases hw.fr t with e | e
  ·rw [e]; exact h.fr t
  ·rw [e]; trivial, h.size, h.defers⟩
theorem AWp.weak {c : Code} {s' : St} (hw : Weak s s') (h : AWp P N c Q s') : AWp P N c Q s := fun m F a w hr => by
 have := h m F a w (hr.weak hw); rw [hw.σ] at this; exact this
theorem get_or (fr' fr : Fr) (h : ∀ p ∈ fr', fr.get p.1 = p.2) : ∀ t, fr'.get t = fr.get t \/ fr'.get t = .c .any := by
 induction fr' with
 | nil => intro t; exact .inr rfl
 | cons p r ih =>
  intro t
  obtain ⟨d, v⟩ := p
  simp only [Fr.get]
  by_cases hb : d = t
  ·subst hb
   rw [if_pos rfl]
   exact .inl (h _ (List.mem_cons_self ..)).symm
  ·rw [if_neg hb]
   exact ih (fun p hp => h p (List.mem_cons_of_mem _ hp)) t
theorem Weak.of {fr' fr : Fr} {σ : List AObj} (h : ∀ p ∈ fr', fr.get p.1 = p.2) : Weak ⟨fr, σ⟩ ⟨fr', σ⟩ := ⟨rfl, get_or fr' fr h⟩
theorem aw_loop {ι : Type} {c : Code} (S : ι -> St) (μ : ι -> Nat) (i0 : ι) (h0 : Weak s (S i0))
  (round : ∀ i, AWp P N c (fun x s' => match x with | .normal => ∃ j, Weak s' (S j) /\ μ j < μ i | x => Q x s') (S i)) : AWp P N (.loop c) Q s := by
 intro m F a w hr
 have key : ∀ n i, μ i = n -> ∀ m1 F1 a1 w1, Rel N m1 F1 (S i) a1 w1 -> Step m F s.σ w m1 F1 (S i).σ w1 ->
   ∀ (b : Frame) (k : List Item) (cs : List Frame), ∃ e a' w', Post N Q m F s.σ w e a' w' /\ Arrives P (lone (b.at a1 (.code c :: .inLoop c :: k)) cs w1) b k cs e a' w' := by
  intro n
  induction n using Nat.strongRecOn with
  | _ n ih =>
   intro i hi m1 F1 a1 w1 hr1 hs1 b k cs
   obtain ⟨e, a2, w2, hq, harr⟩ := round i m1 F1 a1 w1 hr1 b (.inLoop c :: k) cs
   obtain ⟨m2, F2, s2, x, hq, he, hr2, hs2⟩ := hq
   have hs02 := hs1.trans hr.inv hr1.inv hs2
   cases e with
   | normal =>
    cases x <;> first | exact he.elim | skip
    obtain ⟨j, hw, hlt⟩ := hq
    obtain ⟨e3, a3, w3, hq3, harr3⟩ := ih (μ j) (by omega) j rfl m2 F2 a2 w2 (hr2.weak hw) (by rw [hw.σ]; exact hs02) b k cs
    exact ⟨e3, a3, w3, hq3, .of_steps (Steps.trans harr (.one step_inLoop)) harr3⟩
   | exit id => cases x <;> first | exact he.elim | exact ⟨_, a2, w2, ⟨m2, F2, s2, _, hq, he, hr2, hs02⟩, .pass (x := .inLoop c) rfl (fun _ _ => .inl (by simp)) harr⟩
   | goto id => cases x <;> first | exact he.elim | exact ⟨_, a2, w2, ⟨m2, F2, s2, _, hq, he, hr2, hs02⟩, .pass (x := .inLoop c) rfl (fun _ _ => .inl (by simp)) harr⟩
   | ret => cases x <;> first | exact he.elim | exact ⟨_, a2, w2, ⟨m2, F2, s2, _, hq, he, hr2, hs02⟩, .pass (x := .inLoop c) rfl (fun _ _ => .inl (by simp)) harr⟩
   | panic ch => cases x <;> first | exact he.elim | exact ⟨_, a2, w2, ⟨m2, F2, s2, _, hq, he, hr2, hs02⟩, .pass (x := .inLoop c) rfl (fun _ _ => .inl (by simp)) harr⟩
   | outgrown => cases x <;> exact he.elim
 intro b k cs
 obtain ⟨e, a', w', hq, harr⟩ := key _ i0 rfl m F a w (hr.weak h0) (by rw [h0.σ]; exact Step.refl ..) b k cs
 exact ⟨e, a', w', hq, .of_steps (.one step_loop) harr⟩
theorem aw_region {id : Nat} {ops : Array Oper} (h : AList P N ops Q ops.toList s) : AWp P N (.region id ops false) Q s :=
 fun m F a w hr => wp_region_list (h m F a w hr)
theorem al_nil {ops : Array Oper} (h : Q .normal s) : AList P N ops Q [] s := fun m F a w hr => wpList_nil ⟨m, F, s, .normal, h, trivial, hr, Step.refl ..⟩
def litAV : Value -> AV
 | .agg cs => .agg (cs.toList.map fun v => .p (.lit v))
 | .tuple _ => .c .any
 | v => .c (.p (.lit v))
def ev (fr : Fr) : Operand -> AV
 | .tmp t => fr.get t
 | .const v => litAV v
 | .func f => .c (.p (.lit (.func (.func f) #[] #[])))
 | .global _ => .c .any
def goodConst : Operand -> Bool
 | .const (.agg cs) => cs.all (·.oneCell')
 | _ => true
theorem ev_rv {m : List Loc} {F : Nat -> Nat -> Prop} {w : World} {fr : Fr} {a : Act} {x : Operand} (hg : goodConst x = true) (h : ∀ t, x = .tmp t -> RV m w F (fr.get t) (a.tmps.getD t undef)) : RV m w F (ev fr x) (a.eval x) := by
 cases x with
 | tmp t => exact h t rfl
 | func f => exact RP.lit rfl
 | global g => trivial
 | const v =>
  cases v <;> first | exact RP.lit rfl | trivial | skip
  rename_i cs
  refine ⟨cs, rfl, by simp, fun j x hx => ?_⟩
  simp only [List.getElem?_map, Option.map_eq_some_iff] at hx
  obtain ⟨v, hv, rfl⟩ := hx
  simp only [goodConst, Array.all_eq_true_iff_forall_mem] at hg
  have hv' : cs[j]? = some v := by simpa using hv
  have : cs.getD j undef = v := by simp [Array.getD_eq_getD_getElem?, hv']
  rw [this]
  exact RP.lit (hg v (Array.mem_of_getElem? hv'))
def RStep (P : Program) (σ : List AObj) (fr : Fr) (o : Oper) (v : AV) : Prop :=
 ∀ m F w (a : Act), Inv m F σ w -> (∀ t, (.tmp t : Operand) ∈ o.op.operands -> RV m w F (fr.get t) (a.tmps.getD t undef)) ->
  ∀ K Q, (∀ x F' w', Grow F w F' w' -> RV m w' F' v x -> K (a.put o.dst x) w') -> o.wp P a w K Q
theorem Fr.get_put_same (fr : Fr) (d : Nat) (v : AV) : (fr.put (some d) v).get d = v := by simp [Fr.put, Fr.get]
theorem Fr.get_put_ne (fr : Fr) (d t : Nat) (v : AV) (h : d ≠ t) : (fr.put (some d) v).get t = fr.get t := by
 simp [Fr.put, Fr.get, h]
def dstOk (N : NN) (o : Oper) : Bool := match o.dst with | some d => Nat.blt d N | none => true
theorem Rel.put {m : List Loc} {F : Nat -> Nat -> Prop} {a : Act} {w : World} (h : Rel N m F s a w) {d : Option Nat} (hd : ∀ t, d = some t -> t < N) {v : AV} {x : Value} (hx : RV m w F v x) : Rel N m F ⟨s.fr.put d v, s.σ⟩ (a.put d x) w := by
 cases d with
 | none => exact ⟨h.inv, h.fr, h.size, h.defers⟩
 | some d =>
  refine ⟨h.inv, fun t => ?_, by simp [Act.put, h.size], h.defers⟩
  by_cases hdt : d = t
  ·subst hdt
   rw [Fr.get_put_same]
   have : d < a.tmps.size := by rw [h.size]; exact hd d rfl
   simp [Act.put, this]
   exact hx
  ·rw [Fr.get_put_ne _ _ _ _ hdt]
   have := h.fr t
   simp only [Act.put, Array.getD_eq_getD_getElem?, Array.getElem?_setIfInBounds_ne hdt] at this ⊢
   exact this
theorem Rel.grow {m : List Loc} {F F' : Nat -> Nat -> Prop} {a : Act} {w w' : World} (h : Rel N m F s a w) (g : Grow F w F' w') : Rel N m F' s a w' :=
 ⟨h.inv.grow g, fun t => (h.fr t).grow h.inv g, h.size, h.defers⟩
theorem dst_lt {o : Oper} (h : dstOk N o = true) : ∀ t, o.dst = some t -> t < N := by
 intro t ht
 simp only [dstOk, ht] at h
 exact Nat.blt_eq ▸ h
theorem wpList_post_mono {ops : Array Oper} {Q1 Q2 : Exit -> Act -> World -> Prop} (hQ : ∀ e a w, Q1 e a w -> Q2 e a w) : ∀ (l : List Oper) (a : Act) (w : World), wpList P ops Q1 l a w -> wpList P ops Q2 l a w := by
 intro l
 induction l with
 | nil => intro a w h; exact hQ _ _ _ h
 | cons o l ih =>
  intro a w h
  simp only [wpList] at h ⊢
  split
  ·rename_i hw
   rw [if_pos hw] at h
   rcases h with h | ⟨h, a', w', hl⟩
   ·refine .inl ?_
    unfold Oper.wp at h ⊢
    generalize (execOp a.eval o).run P w = r at *
    cases r with
    | ok n w' =>
     cases n <;> simp only [Oper.upon] at h ⊢ <;> first
      | exact ih _ _ h
      | exact Calls.mono h (fun e w'' he => by
        cases e with
        | returned v => exact ih _ _ he
        | panicked c => exact hQ _ _ _ he
        | outgrown => obtain ⟨a', w', h'⟩ := he; exact ⟨a', w', hQ _ _ _ h'⟩)
      | exact Rows.mono h (fun _ _ he => ih _ _ he)
    | halt x w' => cases x <;> simp only [Oper.upon] at h ⊢ <;> first | exact h | exact hQ _ _ _ h
   ·exact .inr ⟨h, a', w', hQ _ _ _ hl⟩
  ·rename_i hw
   rw [if_neg hw] at h
   exact ih _ _ h
theorem al_r {ops : Array Oper} {rest : List Oper} {o : Oper} {v : AV} (hg : o.guard = none) (hd : dstOk N o = true) (h : RStep P s.σ s.fr o v) (k : AList P N ops Q rest ⟨s.fr.put o.dst v, s.σ⟩) : AList P N ops Q (o :: rest) s := by
 intro m F a w hr
 refine wpList_plain hg fun K hK => h m F w a hr.inv (fun t _ => hr.fr t) K _ fun x F' w' g hx => hK _ _ ?_
 have hr' := (hr.grow g).put (dst_lt hd) hx
 have := k m F' _ w' hr'
 exact wpList_post_mono (fun e a1 w1 hp => hp.trans hr.inv hr'.inv g.step) _ _ _ this
theorem aw_cond {c : Operand} {x y : Code} {b : Bool} (hc : ev s.fr c = .c (.p (.lit (.bool b)))) (h : AWp P N (if b then x else y) Q s) : AWp P N (.cond c x y) Q s := by
 intro m F a w hr
 refine wp_cond (t := b) ?_ (h m F a w hr)
 have hg : goodConst c = true := by
  cases c with
  | const v => cases v <;> first | rfl | (simp [ev, litAV] at hc; done)
  | _ => rfl
 have := ev_rv (fr := s.fr) hg (fun t _ => hr.fr t)
 rw [hc] at this
 exact RP.eq_lit this
end rules
end Go.AL
namespace Go.AL
open Go.RowKit
class TSl (P : Program) (t : TypeId) (e : outParam TypeId) (sz bytes : outParam Nat) : Prop where
 und : P.underlying t = some (.slice e)
 inf : ∃ i, P.info? e = some i /\ i.size = sz /\ i.bytes = bytes
 pos : 0 < sz /\ 0 < bytes
def isAggD : TypeDesc -> Bool
 | .struct _ | .array .. => true
 | _ => false
class TV (P : Program) (t : TypeId) (agg : outParam Bool) (sz : outParam Nat) : Prop where
 und : ∃ d, P.underlying t = some d /\ isAggD d = agg
 inf : ∃ i, P.info? t = some i /\ i.size = sz
 one : agg = false -> sz = 1
 pos : 0 < sz
class TZ (P : Program) (t : TypeId) (z : outParam Value) : Prop where
 inf : ∃ i, P.info? t = some i /\ i.zero = some z
 one : ∀ u ∈ z.cells, u.oneCell' = true
class TF (P : Program) (t : TypeId) (f : Nat) (off : outParam Nat) (ft : outParam TypeId) : Prop where
 und : ∃ fs fd, P.underlying t = some (.struct fs) /\ fs[f]? = some fd /\ fd.offset = off /\ fd.type = ft
class TA (P : Program) (t : TypeId) (n : outParam Nat) (e : outParam TypeId) : Prop where
 und : P.underlying t = some (.array n e)
class TStr (P : Program) (t : TypeId) : Prop where
 und : P.underlying t = some .string
class TSt (P : Program) (t : TypeId) (ps : outParam (List (Nat × Nat))) : Prop where
 und : ∃ fs, P.underlying t = some (.struct fs) /\ fs.toList.map (fun f => (f.offset, P.cellsOf f.type)) = ps /\ ∀ f ∈ fs, (P.info? f.type).isSome = true
class TConc (P : Program) (t : TypeId) : Prop where
 und : ∃ d, P.underlying t = some d /\ (match d with | .interface _ => false | _ => true) = true
theorem info_of {P : Program} {t : TypeId} {α : Type} {f : TypeInfo -> α} {x : α} (h : (P.info? t).map f = some x) : ∃ i, P.info? t = some i /\ f i = x := by
 cases hi : P.info? t with
 | none => rw [hi] at h; cases h
 | some i => rw [hi] at h; exact ⟨i, rfl, by simpa using h⟩
theorem TSl.of {P : Program} {t e : TypeId} {sz by' : Nat} (h : P.underlying t = some (.slice e)) (h2 : (P.info? e).map (fun i => (i.size, i.bytes)) = some (sz, by')) (h3 : 0 < sz /\ 0 < by') : TSl P t e sz by' := by
 obtain ⟨i, hi, hx⟩ := info_of h2
 simp only [Prod.mk.injEq] at hx
 exact ⟨h, ⟨i, hi, hx.1, hx.2⟩, h3⟩
theorem TV.of {P : Program} {t : TypeId} {d : TypeDesc} {agg : Bool} {sz : Nat} (h : P.underlying t = some d) (ha : isAggD d = agg) (h2 : (P.info? t).map (·.size) = some sz) (h3 : agg = false -> sz = 1) (h4 : 0 < sz) : TV P t agg sz :=
 ⟨⟨d, h, ha⟩, info_of h2, h3, h4⟩
theorem TZ.of {P : Program} {t : TypeId} {z : Value} (h : (P.info? t).map (·.zero) = some (some z)) (h2 : z.cells.all (·.oneCell') = true) : TZ P t z :=
 ⟨info_of h, fun u hu => Array.all_eq_true_iff_forall_mem.1 h2 u hu⟩
theorem TSt.of {P : Program} {t : TypeId} {fs : Array Field} {ps : List (Nat × Nat)} (h : P.underlying t = some (.struct fs)) (h2 : fs.toList.map (fun f => (f.offset, P.cellsOf f.type)) = ps) (h3 : fs.all (fun f => (P.info? f.type).isSome) = true) : TSt P t ps :=
 ⟨⟨fs, h, h2, fun f hf => Array.all_eq_true_iff_forall_mem.1 h3 f hf⟩⟩
theorem run_und {P : Program} {t : TypeId} {d : TypeDesc} (h : P.underlying t = some d) (w : World) : (underlying t).run P w = .ok d w := run_underlying h w
theorem run_info {P : Program} {t : TypeId} {i : TypeInfo} (h : P.info? t = some i) (w : World) : (typeInfo t).run P w = .ok i w := by simp [typeInfo, h]
theorem run_size {P : Program} {t : TypeId} {i : TypeInfo} (h : P.info? t = some i) (w : World) : (sizeOf t).run P w = .ok i.size w := by simp [sizeOf, run_info h]
theorem TV.run {P : Program} {t : TypeId} {agg : Bool} {sz : Nat} (h : TV P t agg sz) (w : World) : (isAgg t).run P w = .ok agg w /\ (sizeOf t).run P w = .ok sz w := by
 obtain ⟨d, hd, ha⟩ := h.und
 obtain ⟨i, hi, hs⟩ := h.inf
 refine ⟨?_, by rw [run_size hi, hs]⟩
 subst ha
 cases d <;> simp [isAgg, run_und hd, isAggD]
section
variable {P : Program} {σ : List AObj} {fr : Fr}
theorem rs_of {o : Oper} {v : AV} (h : ∀ m F w (a : Act), Inv m F σ w -> (∀ x, x ∈ o.op.operands -> goodConst x = true -> RV m w F (ev fr x) (a.eval x)) ->
  ∃ x F' w', (execOp a.eval o).run P w = .ok (.value x) w' /\ Grow F w F' w' /\ RV m w' F' v x) : RStep P σ fr o v := by
 intro m F w a i hs K Q hK
 obtain ⟨x, F', w', hr, hg, hv⟩ := h m F w a i (fun x hx hc => ev_rv hc fun t e => by subst e; exact hs t hx)
 unfold Oper.wp
 rw [hr]
 exact hK x F' w' hg hv
theorem rs_pure {o : Oper} {v : AV} (h : ∀ m F w (a : Act), Inv m F σ w -> (∀ x, x ∈ o.op.operands -> goodConst x = true -> RV m w F (ev fr x) (a.eval x)) ->
  ∃ x, (execOp a.eval o).run P w = .ok (.value x) w /\ RV m w F v x) : RStep P σ fr o v :=
 rs_of fun m F w a i hs => by
  obtain ⟨x, h1, h2⟩ := h m F w a i hs
  exact ⟨x, F, w, h1, Grow.refl _ _, h2⟩
theorem rv_lit {m : List Loc} {w : World} {F : Nat -> Nat -> Prop} {u v : Value} (h : RV m w F (.c (.p (.lit v))) u) : u = v := RP.eq_lit h
variable {d : Option Nat} {ty : TypeId} {pos : String} {aft : Array Edge} {g : Option (Nat × Bool)}
theorem r_move {x : Operand} {v : AV} (hx : ev fr x = v) (hg : goodConst x = true := by rfl) : RStep P σ fr ⟨d, .move x, ty, pos, aft, g⟩ v :=
 rs_pure fun m F w a i hs => ⟨_, rfl, hx ▸ hs x (by simp [Op.operands]) hg⟩
theorem r_assign {x : Operand} {v : AV} (hx : ev fr x = v) (hg : goodConst x = true := by rfl) : RStep P σ fr ⟨d, .assign x, ty, pos, aft, g⟩ v :=
 rs_pure fun m F w a i hs => ⟨_, rfl, hx ▸ hs x (by simp [Op.operands]) hg⟩
theorem good_of_lit {x : Operand} {v : Value} (h : ev fr x = .c (.p (.lit v))) : goodConst x = true := by
 cases x with
 | const u => cases u <;> first | rfl | (simp [ev, litAV] at h; done)
 | _ => rfl
theorem r_pick {c x y : Operand} {b : Bool} {v u : AV} (hc : ev fr c = .c (.p (.lit (.bool b)))) (hx : ev fr x = v) (hy : ev fr y = u) (hgx : goodConst x = true := by rfl) (hgy : goodConst y = true := by rfl) :
  RStep P σ fr ⟨d, .pick c x y, ty, pos, aft, g⟩ (if b then v else u) :=
 rs_pure fun m F w a i hs => by
  have h1 := hs c (by simp [Op.operands]) (good_of_lit hc)
  rw [hc] at h1
  have h2 := hs x (by simp [Op.operands]) hgx
  have h3 := hs y (by simp [Op.operands]) hgy
  rw [hx] at h2; rw [hy] at h3
  refine ⟨if b then a.eval x else a.eval y, ?_, ?_⟩
  ·simp only [execOp, rv_lit h1, asBool]
   cases b <;> rfl
  ·cases b <;> assumption
theorem r_pickB {c x y : Operand} {b p q : Bool} (hc : ev fr c = .c (.p (.lit (.bool b)))) (hx : ev fr x = .c (.p (.lit (.bool p)))) (hy : ev fr y = .c (.p (.lit (.bool q)))) :
  RStep P σ fr ⟨d, .pick c x y, ty, pos, aft, g⟩ (.c (.p (.lit (.bool (if b then p else q))))) := by
 have := r_pick (P := P) (σ := σ) (d := d) (ty := ty) (pos := pos) (aft := aft) (g := g) hc hx hy (good_of_lit hx) (good_of_lit hy)
 cases b <;> exact this
theorem r_bin {op : BinOp} {t t' : TypeId} {x y : Operand} {u v z : Value} (hx : ev fr x = .c (.p (.lit u))) (hy : ev fr y = .c (.p (.lit v)))
  (hr : ∀ w, (do eqGuard op t x y u v; binOp op t u v : Sem Value).run P w = .ok z w) (hz : z.oneCell' = true) : RStep P σ fr ⟨d, .binOp op t x y t', ty, pos, aft, g⟩ (.c (.p (.lit z))) :=
 rs_pure fun m F w a i hs => by
  have h1 := hs x (by simp [Op.operands]) (good_of_lit hx)
  have h2 := hs y (by simp [Op.operands]) (good_of_lit hy)
  rw [hx] at h1; rw [hy] at h2
  refine ⟨z, ?_, RP.lit hz⟩
  simp only [execOp, rv_lit h1, rv_lit h2]
  have := hr w
  simp only [Sem.run_bind] at this
  simp only [Sem.run_bind, this, Result.andThen_ok, Sem.run_pure]
theorem r_un {op : UnOp} {t : TypeId} {x : Operand} {u z : Value} (hx : ev fr x = .c (.p (.lit u))) (hr : ∀ w, (Op.unary op u).run P w = .ok z w) (hz : z.oneCell' = true) : RStep P σ fr ⟨d, .unOp op t x, ty, pos, aft, g⟩ (.c (.p (.lit z))) :=
 rs_pure fun m F w a i hs => by
  have h1 := hs x (by simp [Op.operands]) (good_of_lit hx)
  rw [hx] at h1
  exact ⟨z, by simp [execOp, rv_lit h1, hr w], RP.lit hz⟩
theorem add_plain' (b o n : Nat) : (⟨b, o, none⟩ : Addr).add n = ⟨b, o + n, none⟩ := by unfold Addr.add; split <;> simp_all
theorem rv_ptr {m : List Loc} {w : World} {F : Nat -> Nat -> Prop} {u : Value} {id off : Nat} (h : RV m w F (.c (.ptr id off)) u) : ∃ b o, m[id]? = some (.at b o) /\ u = .pointer (some ⟨b, o + off, none⟩) := h
theorem rv_ept {m : List Loc} {w : World} {F : Nat -> Nat -> Prop} {u : Value} {id sz i off : Nat} (h : RV m w F (.c (.ept id sz i off)) u) : ∃ b cap, m[id]? = some (.row (some b) cap) /\ u = .pointer (some ⟨b, i * sz + off, none⟩) := h
theorem rv_rp {m : List Loc} {w : World} {F : Nat -> Nat -> Prop} {u : Value} {l : List PV} (h : RV m w F (.c (.p (.rp l))) u) : ∃ (b o : Nat) (us : Nat -> Value), u = .pointer (some ⟨b, o, none⟩) /\ (∀ j, j < l.length -> F b (o + j)) /\ (∀ j, j < l.length -> w.cell? ⟨b, o + j, none⟩ = some (us j)) /\ ∀ j x, l[j]? = some x -> RP w F x (us j) := by
 have h : RP w F (.rp l) u := h
 generalize hx : PV.rp l = x at h
 cases h <;> first | cases hx | skip
 rename_i b o us h1 h2 h3
 exact ⟨b, o, us, rfl, h1, h2, h3⟩
theorem good_of_nl {x : Operand} {c : C} (hx : ev fr x = .c c) (hc : ∀ v, c ≠ .p (.lit v)) : goodConst x = true := by
 cases x with
 | const u => cases u <;> first | rfl | (simp [ev, litAV] at hx; done)
 | _ => rfl
theorem r_fieldPtr {t ft : TypeId} {f off sz : Nat} {agg : Bool} {x : Operand} {id o : Nat} [TF P t f off ft] [TV P ft agg sz] (hx : ev fr x = .c (.ptr id o)) : RStep P σ fr ⟨d, .fieldAddr t x f, ty, pos, aft, g⟩ (.c (.ptr id (o + off))) :=
 rs_pure fun m F w a i hs => by
  have h1 := hs x (by simp [Op.operands]) (good_of_nl hx (by simp))
  rw [hx] at h1
  obtain ⟨b, o', hl, hv⟩ := rv_ptr h1
  obtain ⟨fs, fd, hu, hf, hoff, hft⟩ := TF.und (P := P) (t := t) (f := f) (off := off) (ft := ft)
  have ht := TV.run (P := P) (t := ft) (agg := agg) (sz := sz) inferInstance w
  have hp := TV.pos (P := P) (t := ft) (agg := agg) (sz := sz)
  refine ⟨.pointer (some ⟨b, o' + (o + off), none⟩), ?_, ⟨b, o', hl, rfl⟩⟩
  have hne : ¬ sz = 0 := by omega
  simp only [execOp, hv, Instr.fieldAt, Sem.run_bind, run_und hu, Result.andThen_ok, hf, Instr.sureAddr, Sem.run_pure, fieldPlace, hft, ht.2, hne, if_false, hoff, add_plain', Nat.add_assoc]
theorem r_fieldEpt {t ft : TypeId} {f off sz esz i : Nat} {agg : Bool} {x : Operand} {id o : Nat} [TF P t f off ft] [TV P ft agg sz] (hx : ev fr x = .c (.ept id esz i o)) : RStep P σ fr ⟨d, .fieldAddr t x f, ty, pos, aft, g⟩ (.c (.ept id esz i (o + off))) :=
 rs_pure fun m F w a iv hs => by
  have h1 := hs x (by simp [Op.operands]) (good_of_nl hx (by simp))
  rw [hx] at h1
  obtain ⟨b, cap, hl, hv⟩ := rv_ept h1
  obtain ⟨fs, fd, hu, hf, hoff, hft⟩ := TF.und (P := P) (t := t) (f := f) (off := off) (ft := ft)
  have ht := TV.run (P := P) (t := ft) (agg := agg) (sz := sz) inferInstance w
  have hp := TV.pos (P := P) (t := ft) (agg := agg) (sz := sz)
  refine ⟨.pointer (some ⟨b, i * esz + (o + off), none⟩), ?_, ⟨b, cap, hl, rfl⟩⟩
  have hne : ¬ sz = 0 := by omega
  simp only [execOp, hv, Instr.fieldAt, Sem.run_bind, run_und hu, Result.andThen_ok, hf, Instr.sureAddr, Sem.run_pure, fieldPlace, hft, ht.2, hne, if_false, hoff, add_plain', Nat.add_assoc]
theorem r_fieldRp {t ft : TypeId} {f off sz : Nat} {agg : Bool} {x : Operand} {l l' : List PV} [TF P t f off ft] [TV P ft agg sz] (hx : ev fr x = .c (.p (.rp l))) (hl : l.drop off = l') : RStep P σ fr ⟨d, .fieldAddr t x f, ty, pos, aft, g⟩ (.c (.p (.rp l'))) :=
 rs_pure fun m F w a i hs => by
  have h1 := hs x (by simp [Op.operands]) (good_of_nl hx (by simp))
  rw [hx] at h1
  obtain ⟨b, o', us, hv, h1, h2, h3⟩ := rv_rp h1
  obtain ⟨fs, fd, hu, hf, hoff, hft⟩ := TF.und (P := P) (t := t) (f := f) (off := off) (ft := ft)
  have ht := TV.run (P := P) (t := ft) (agg := agg) (sz := sz) inferInstance w
  have hp := TV.pos (P := P) (t := ft) (agg := agg) (sz := sz)
  have hne : ¬ sz = 0 := by omega
  subst hl
  refine ⟨.pointer (some ⟨b, o' + off, none⟩), ?_, RP.rp (fun j => us (off + j)) (fun j hj => ?_) (fun j hj => ?_) (fun j x hx => ?_)⟩
  ·simp only [execOp, hv, Instr.fieldAt, Sem.run_bind, run_und hu, Result.andThen_ok, hf, Instr.sureAddr, Sem.run_pure, fieldPlace, hft, ht.2, hne, if_false, hoff, add_plain', Nat.add_assoc]
  ·rw [Nat.add_assoc]; exact h1 _ (by simp at hj; omega)
  ·rw [Nat.add_assoc]; exact h2 _ (by simp at hj; omega)
  ·exact h3 _ _ (by rw [List.getElem?_drop] at hx; exact hx)
theorem run_cells {P : Program} (w : World) (b o n : Nat) (us : Nat -> Value) (h : ∀ j, j < n -> w.cell? ⟨b, o + j, none⟩ = some (us j)) : (loadCells ⟨b, o, none⟩ n).run P w = .ok ((List.range n).map us).toArray w := by
 have := run_loadCells_list (P := P) (w := w) ⟨b, o, none⟩ ((List.range n).map us) (fun j v hj => by
  rw [add_plain']
  simp only [List.getElem?_map, Option.map_eq_some_iff] at hj
  obtain ⟨k, hk, rfl⟩ := hj
  have hk' := List.getElem?_eq_some_iff.1 hk
  obtain ⟨hlt, rfl⟩ := hk'
  simp only [List.getElem_range]
  simp at hlt
  exact h j hlt)
 simpa using this
def loaded (agg : Bool) (n : Nat) (l : List C) : Option AV :=
 if agg then (if n <= l.length then some (.agg (l.take n)) else none) else (match l with | c :: _ => some (.c c) | [] => none)
theorem loaded_run {m : List Loc} {w : World} {F : Nat -> Nat -> Prop} {t : TypeId} {agg : Bool} {sz : Nat} [TV P t agg sz] {l : List C} {v : AV} {b o : Nat} (us : Nat -> Value)
  (hw : ∀ j, j < l.length -> w.cell? ⟨b, o + j, none⟩ = some (us j)) (hr : ∀ j c, l[j]? = some c -> RC m w F c (us j)) (hl : loaded agg sz l = some v) :
  ∃ x, (loadVar t ⟨b, o, none⟩).run P w = .ok x w /\ RV m w F v x := by
 have ht := TV.run (P := P) (t := t) (agg := agg) (sz := sz) inferInstance w
 have h1 := TV.one (P := P) (t := t) (agg := agg) (sz := sz)
 unfold loaded at hl
 cases agg with
 | true =>
  simp only [if_true] at hl
  split at hl
  ·rename_i hle
   injection hl with hl
   subst hl
   refine ⟨.agg ((List.range sz).map us).toArray, ?_, ⟨_, rfl, by simp; omega, fun j x hx => ?_⟩⟩
   ·simp only [loadVar, Sem.run_bind, ht.1, Result.andThen_ok, if_true, ht.2, run_cells w b o sz us (fun j hj => hw j (by omega)), Sem.run_pure]
   ·rw [List.getElem?_take] at hx
    split at hx
    ·rename_i hj
     have : (((List.range sz).map us).toArray).getD j undef = us j := by simp [hj]
     rw [this]; exact hr j x hx
    ·cases hx
  ·cases hl
 | false =>
  simp only [Bool.false_eq_true, if_false] at hl
  cases l with
  | nil => cases hl
  | cons c l =>
   injection hl with hl
   subst hl
   have hc := hw 0 (by simp)
   simp only [Nat.add_zero] at hc
   refine ⟨us 0, ?_, hr 0 c rfl⟩
   simp only [loadVar, Sem.run_bind, ht.1, Result.andThen_ok, Bool.false_eq_true, if_false, run_load, hc]
theorem flatten_at {α : Type} {sz : Nat} (l : List (List α)) (h : ∀ e ∈ l, e.length = sz) : ∀ (i : Nat) e, l[i]? = some e -> ∀ j x, e[j]? = some x -> l.flatten[i * sz + j]? = some x := by
 induction l with
 | nil => intro i e he; simp at he
 | cons a l ih =>
  intro i e he j x hx
  have ha : a.length = sz := h a (List.mem_cons_self ..)
  simp only [List.flatten_cons]
  cases i with
  | zero =>
   simp at he; subst he
   rw [List.getElem?_append_left (by have := (List.getElem?_eq_some_iff.1 hx).1; omega)]
   simpa using hx
  | succ i =>
   simp only [List.getElem?_cons_succ] at he
   rw [List.getElem?_append_right (by rw [ha, Nat.succ_mul]; omega)]
   have : (i + 1) * sz + j - a.length = i * sz + j := by rw [ha, Nat.succ_mul]; omega
   rw [this]
   exact ih (fun e he => h e (List.mem_cons_of_mem _ he)) i e he j x hx
theorem flatten_len {α : Type} {sz : Nat} (l : List (List α)) (h : ∀ e ∈ l, e.length = sz) : l.flatten.length = l.length * sz := by
 induction l with
 | nil => simp
 | cons a l ih => simp [h a (List.mem_cons_self ..), ih (fun e he => h e (List.mem_cons_of_mem _ he)), Nat.succ_mul, Nat.add_comm]
theorem flatten_from {α : Type} {sz : Nat} (l : List (List α)) (h : ∀ e ∈ l, e.length = sz) : ∀ k x, l.flatten[k]? = some x -> ∃ i e j, l[i]? = some e /\ e[j]? = some x /\ k = i * sz + j /\ j < sz := by
 induction l with
 | nil => intro k x hx; simp at hx
 | cons a l ih =>
  intro k x hx
  have ha : a.length = sz := h a (List.mem_cons_self ..)
  simp only [List.flatten_cons] at hx
  rcases Nat.lt_or_ge k a.length with hk | hk
  ·rw [List.getElem?_append_left hk] at hx
   exact ⟨0, a, k, rfl, hx, by omega, by omega⟩
  ·rw [List.getElem?_append_right hk] at hx
   obtain ⟨i, e, j, h1, h2, h3, h4⟩ := ih (fun e he => h e (List.mem_cons_of_mem _ he)) _ _ hx
   exact ⟨i + 1, e, j, by simpa using h1, h2, by rw [Nat.succ_mul]; omega, h4⟩
theorem obj_cells {m : List Loc} {F : Nat -> Nat -> Prop} {w : World} (i : Inv m F σ w) {id : Nat} {cs : List C} {b o : Nat} (ho : σ[id]? = some (.cells cs)) (hm : m[id]? = some (.at b o)) :
  ∃ us : Nat -> Value, (∀ j, j < cs.length -> w.cell? ⟨b, o + j, none⟩ = some (us j) /\ w.frozen? ⟨b, o + j, none⟩ = false) /\ ∀ j c, cs[j]? = some c -> RC m w F c (us j) := by
 have h := i.obj id _ _ ho hm
 have hx : ∀ j, j < cs.length -> ∃ u, w.cell? ⟨b, o + j, none⟩ = some u := fun j hj => by
  obtain ⟨⟨u, h1, _⟩, _⟩ := h j cs[j] (List.getElem?_eq_getElem hj)
  exact ⟨u, h1⟩
 refine ⟨fun j => (w.cell? ⟨b, o + j, none⟩).getD undef, fun j hj => ?_, fun j c hj => ?_⟩
 ·obtain ⟨u, hu⟩ := hx j hj
  exact ⟨by simp [hu], (h j cs[j] (List.getElem?_eq_getElem hj)).2⟩
 ·obtain ⟨⟨u, h1, h2⟩, _⟩ := h j c hj
  simp only [h1, Option.getD_some]; exact h2
theorem arr_cells {m : List Loc} {F : Nat -> Nat -> Prop} {w : World} (i : Inv m F σ w) {id : Nat} {e : TypeId} {sz : Nat} {l : List (List PV)} {b cap : Nat} (ho : σ[id]? = some (.arr e sz l)) (hm : m[id]? = some (.row (some b) cap)) :
  ∃ us : Nat -> Value, (∀ j, j < l.length * sz -> w.cell? ⟨b, j, none⟩ = some (us j) /\ w.frozen? ⟨b, j, none⟩ = false) /\ (∀ e ∈ l, e.length = sz) /\ ∀ i e, l[i]? = some e -> ∀ j x, e[j]? = some x -> RP w F x (us (i * sz + j)) := by
 obtain ⟨xs, h1, h2, h3⟩ := i.obj id _ _ ho hm
 have hlen : xs.length = l.length * sz := h1.1
 refine ⟨fun j => xs.getD j undef, fun j hj => ⟨?_, h1.frozenAt j⟩, h2, h3⟩
 have hcell : w.cell? ⟨b, j, none⟩ = xs[j]? := h1.cellAt j hj
 rw [hcell, List.getElem?_eq_getElem (by omega)]
 simp [List.getD_eq_getElem?_getD, List.getElem?_eq_getElem (show j < xs.length by omega)]
theorem r_loadPtr {t : TypeId} {agg : Bool} {sz : Nat} {x : Operand} {id off : Nat} {cs : List C} {v : AV} [TV P t agg sz] (hx : ev fr x = .c (.ptr id off)) (ho : σ[id]? = some (.cells cs)) (hl : loaded agg sz (cs.drop off) = some v) :
  RStep P σ fr ⟨d, .load t x, ty, pos, aft, g⟩ v :=
 rs_pure fun m F w a i hs => by
  have h1 := hs x (by simp [Op.operands]) (good_of_nl hx (by simp))
  rw [hx] at h1
  obtain ⟨b, o', hm, hv⟩ := rv_ptr h1
  obtain ⟨us, hw, hr⟩ := obj_cells i ho hm
  obtain ⟨y, h2, h3⟩ := loaded_run (P := P) (t := t) (m := m) (w := w) (F := F) (b := b) (o := o' + off) (fun j => us (off + j))
   (fun j hj => by rw [Nat.add_assoc]; exact (hw _ (by simp at hj; omega)).1) (fun j c hj => hr _ _ (by rw [List.getElem?_drop] at hj; exact hj)) hl
  exact ⟨y, by simp [execOp, hv, Instr.loadAt, Instr.sureAddr, h2], h3⟩
theorem elt_lt {sz : Nat} {l : List (List PV)} {i : Nat} {el : List PV} (h2 : ∀ e ∈ l, e.length = sz) (hel : l[i]? = some el) {j : Nat} (hj : j < el.length) : i * sz + j < l.length * sz := by
 have hlt : i < l.length := (List.getElem?_eq_some_iff.1 hel).1
 have hs := h2 el (List.mem_of_getElem? hel)
 have : i * sz + sz <= l.length * sz := by rw [<- Nat.succ_mul]; exact Nat.mul_le_mul_right _ hlt
 omega
theorem r_loadEpt {t e' : TypeId} {agg : Bool} {sz esz : Nat} {x : Operand} {id i off : Nat} {l : List (List PV)} {el : List PV} {v : AV} [TV P t agg sz] (hx : ev fr x = .c (.ept id esz i off)) (ho : σ[id]? = some (.arr e' esz l)) (hel : l[i]? = some el) (hl : loaded agg sz ((el.map .p).drop off) = some v) :
  RStep P σ fr ⟨d, .load t x, ty, pos, aft, g⟩ v :=
 rs_pure fun m F w a iv hs => by
  have h1 := hs x (by simp [Op.operands]) (good_of_nl hx (by simp))
  rw [hx] at h1
  obtain ⟨b, cap, hm, hv⟩ := rv_ept h1
  obtain ⟨us, hw, hsz, hr⟩ := arr_cells iv ho hm
  obtain ⟨y, h2, h3⟩ := loaded_run (P := P) (t := t) (m := m) (w := w) (F := F) (b := b) (o := i * esz + off) (fun j => us (i * esz + off + j))
   (fun j hj => (hw _ (by
    have := elt_lt hsz hel (j := off + j) (by simp at hj; omega)
    omega)).1) (fun j c hj => by
    rw [List.getElem?_drop, List.getElem?_map, Option.map_eq_some_iff] at hj
    obtain ⟨x, hx, rfl⟩ := hj
    have := hr i el hel (off + j) x hx
    rwa [<- Nat.add_assoc] at this) hl
  exact ⟨y, by simp [execOp, hv, Instr.loadAt, Instr.sureAddr, h2], h3⟩
theorem r_loadRp {t : TypeId} {agg : Bool} {sz : Nat} {x : Operand} {l : List PV} {v : AV} [TV P t agg sz] (hx : ev fr x = .c (.p (.rp l))) (hl : loaded agg sz (l.map .p) = some v) :
  RStep P σ fr ⟨d, .load t x, ty, pos, aft, g⟩ v :=
 rs_pure fun m F w a i hs => by
  have h1 := hs x (by simp [Op.operands]) (good_of_nl hx (by simp))
  rw [hx] at h1
  obtain ⟨b, o, us, hv, h1, h2, h3⟩ := rv_rp h1
  obtain ⟨y, h4, h5⟩ := loaded_run (P := P) (t := t) (m := m) (w := w) (F := F) (b := b) (o := o) us (fun j hj => h2 j (by simpa using hj)) (fun j c hj => by
   simp only [List.getElem?_map, Option.map_eq_some_iff] at hj
   obtain ⟨x, hx, rfl⟩ := hj
   exact h3 j x hx) hl
  exact ⟨y, by simp [execOp, hv, Instr.loadAt, Instr.sureAddr, h4], h5⟩
theorem r_nilCheckPtr {x : Operand} {id off : Nat} (hx : ev fr x = .c (.ptr id off)) : RStep P σ fr ⟨d, .nilCheck x, ty, pos, aft, g⟩ (.c (.ptr id off)) :=
 rs_pure fun m F w a i hs => by
  have h1 := hs x (by simp [Op.operands]) (good_of_nl hx (by simp))
  rw [hx] at h1
  obtain ⟨b, o', hm, hv⟩ := rv_ptr h1
  exact ⟨a.eval x, by simp [execOp, hv], h1⟩
theorem r_nilCheckRp {x : Operand} {l : List PV} (hx : ev fr x = .c (.p (.rp l))) : RStep P σ fr ⟨d, .nilCheck x, ty, pos, aft, g⟩ (.c (.p (.rp l))) :=
 rs_pure fun m F w a i hs => by
  have h1 := hs x (by simp [Op.operands]) (good_of_nl hx (by simp))
  rw [hx] at h1
  obtain ⟨b, o, us, hv, _⟩ := rv_rp h1
  exact ⟨a.eval x, by simp [execOp, hv], h1⟩
theorem rv_sl {m : List Loc} {w : World} {F : Nat -> Nat -> Prop} {u : Value} {sz : Nat} {l : List (List PV)} (h : RV m w F (.c (.p (.sl sz l))) u) : ∃ A cap, u = .slice A l.length cap /\ l.length <= cap /\ (∀ e ∈ l, e.length = sz) /\ (l ≠ [] -> ∃ (b o : Nat) (us : Nat -> Value), A = some ⟨b, o, none⟩ /\ (∀ j, j < l.length * sz -> F b (o + j)) /\ (∀ j, j < l.length * sz -> w.cell? ⟨b, o + j, none⟩ = some (us j)) /\ ∀ i e, l[i]? = some e -> ∀ j x, e[j]? = some x -> RP w F x (us (i * sz + j))) := by
 have h : RP w F (.sl sz l) u := h
 generalize hx : PV.sl sz l = x at h
 cases h <;> first | cases hx | skip
 ·rename_i A cap
  exact ⟨A, cap, rfl, Nat.zero_le _, by simp, fun h => absurd rfl h⟩
 ·rename_i b o cap us hc h1 h2 h3 h4
  exact ⟨_, cap, rfl, hc, h1, fun _ => ⟨b, o, us, rfl, h2, h3, h4⟩⟩
theorem rv_ms {m : List Loc} {w : World} {F : Nat -> Nat -> Prop} {u : Value} {id n : Nat} (h : RV m w F (.c (.ms id n)) u) : ∃ A cap, m[id]? = some (.row A cap) /\ n <= cap /\ u = rowV A n cap := h
theorem r_lenSl {t e : TypeId} {sz by' : Nat} {x : Operand} {sz' : Nat} {l : List (List PV)} [TSl P t e sz by'] (hx : ev fr x = .c (.p (.sl sz' l))) : RStep P σ fr ⟨d, .call { callee := .builtin .len, args := #[x], argTypes := #[t] }, ty, pos, aft, g⟩ (.c (.p (.lit (.int .i64 l.length)))) :=
 rs_pure fun m F w a i hs => by
  have h1 := hs x (by simp [Op.operands, Call.operands]) (good_of_nl hx (by simp))
  rw [hx] at h1
  obtain ⟨A, cap, hv, _⟩ := rv_sl h1
  refine ⟨_, ?_, RP.lit rfl⟩
  simp [execOp, resolve, invoke, builtin, Builtin.len_, hv, run_und (TSl.und (P := P) (t := t) (e := e) (sz := sz) (bytes := by')), goInt]
theorem r_lenMs {t e : TypeId} {sz by' : Nat} {x : Operand} {id n : Nat} [TSl P t e sz by'] (hx : ev fr x = .c (.ms id n)) : RStep P σ fr ⟨d, .call { callee := .builtin .len, args := #[x], argTypes := #[t] }, ty, pos, aft, g⟩ (.c (.p (.lit (.int .i64 n)))) :=
 rs_pure fun m F w a i hs => by
  have h1 := hs x (by simp [Op.operands, Call.operands]) (good_of_nl hx (by simp))
  rw [hx] at h1
  obtain ⟨A, cap, _, _, hv⟩ := rv_ms h1
  refine ⟨_, ?_, RP.lit rfl⟩
  simp [execOp, resolve, invoke, builtin, Builtin.len_, hv, rowV, run_und (TSl.und (P := P) (t := t) (e := e) (sz := sz) (bytes := by')), goInt]
theorem r_lenNil {t e : TypeId} {sz by' : Nat} {x : Operand} [TSl P t e sz by'] (hx : ev fr x = .c (.p (.lit (.slice none 0 0)))) : RStep P σ fr ⟨d, .call { callee := .builtin .len, args := #[x], argTypes := #[t] }, ty, pos, aft, g⟩ (.c (.p (.lit (.int .i64 0)))) :=
 rs_pure fun m F w a i hs => by
  have h1 := hs x (by simp [Op.operands, Call.operands]) (good_of_lit hx)
  rw [hx] at h1
  refine ⟨_, ?_, RP.lit rfl⟩
  simp [execOp, resolve, invoke, builtin, Builtin.len_, rv_lit h1, run_und (TSl.und (P := P) (t := t) (e := e) (sz := sz) (bytes := by')), goInt]
theorem r_lenStr {t : TypeId} {x : Operand} {s : ByteArray} [TStr P t] (hx : ev fr x = .c (.p (.lit (.string s)))) : RStep P σ fr ⟨d, .call { callee := .builtin .len, args := #[x], argTypes := #[t] }, ty, pos, aft, g⟩ (.c (.p (.lit (.int .i64 s.size)))) :=
 rs_pure fun m F w a i hs => by
  have h1 := hs x (by simp [Op.operands, Call.operands]) (good_of_lit hx)
  rw [hx] at h1
  refine ⟨_, ?_, RP.lit rfl⟩
  simp [execOp, resolve, invoke, builtin, Builtin.len_, rv_lit h1, run_und (TStr.und (P := P) (t := t)), goInt]
theorem r_indexSl {t e : TypeId} {sz by' : Nat} {x y : Operand} {l : List (List PV)} {k : IntKind} {n : Int} {el : List PV} [TSl P t e sz by'] (hx : ev fr x = .c (.p (.sl sz l))) (hy : ev fr y = .c (.p (.lit (.int k n)))) (h0 : 0 <= n) (hel : l[n.toNat]? = some el) :
  RStep P σ fr ⟨d, .indexAddr t x y, ty, pos, aft, g⟩ (.c (.p (.rp el))) :=
 rs_pure fun m F w a i hs => by
  have h1 := hs x (by simp [Op.operands]) (good_of_nl hx (by simp))
  have h2 := hs y (by simp [Op.operands]) (good_of_lit hy)
  rw [hx] at h1; rw [hy] at h2
  obtain ⟨A, cap, hv, hcap, hsz, hmem⟩ := rv_sl h1
  have hlt : n.toNat < l.length := (List.getElem?_eq_some_iff.1 hel).1
  obtain ⟨b, o, us, rfl, hF, hw, hr⟩ := hmem (by intro hn; subst hn; simp at hlt)
  obtain ⟨i', hi, hsz', _⟩ := TSl.inf (P := P) (t := t) (e := e) (sz := sz) (bytes := by')
  have hels : el.length = sz := hsz el (List.mem_of_getElem? hel)
  have hin : 0 <= n /\ n < (l.length : Int) := ⟨h0, by omega⟩
  have hle : n.toNat * sz + sz <= l.length * sz := by rw [<- Nat.succ_mul]; exact Nat.mul_le_mul_right _ hlt
  refine ⟨.pointer (some ⟨b, o + n.toNat * sz, none⟩), ?_, RP.rp (fun j => us (n.toNat * sz + j)) (fun j hj => ?_) (fun j hj => ?_) (fun j x hx => hr _ _ hel j x hx)⟩
  ·simp [execOp, Instr.indexAt, hv, rv_lit h2, asIntOf, run_und (TSl.und (P := P) (t := t) (e := e) (sz := sz) (bytes := by')), hin, run_size hi, hsz', add_plain']
  ·rw [Nat.add_assoc]; exact hF _ (by omega)
  ·rw [Nat.add_assoc]; exact hw _ (by omega)
theorem r_indexMs {t e : TypeId} {sz by' : Nat} {x y : Operand} {id n : Nat} {k : IntKind} {j : Int} {e' : TypeId} {l : List (List PV)} [TSl P t e sz by'] (hx : ev fr x = .c (.ms id n)) (hy : ev fr y = .c (.p (.lit (.int k j)))) (h0 : 0 <= j) (hj : j < n)
  (ho : σ[id]? = some (.arr e' sz l)) (hn : n <= l.length) : RStep P σ fr ⟨d, .indexAddr t x y, ty, pos, aft, g⟩ (.c (.ept id sz j.toNat 0)) :=
 rs_pure fun m F w a i hs => by
  have h1 := hs x (by simp [Op.operands]) (good_of_nl hx (by simp))
  have h2 := hs y (by simp [Op.operands]) (good_of_lit hy)
  rw [hx] at h1; rw [hy] at h2
  obtain ⟨A, cap, hm, hcap, hv⟩ := rv_ms h1
  obtain ⟨i', hi, hsz', _⟩ := TSl.inf (P := P) (t := t) (e := e) (sz := sz) (bytes := by')
  have hob := i.obj id _ _ ho hm
  cases A with
  | none =>
   obtain ⟨xs, h3, _⟩ := hob
   rcases h3.2 with ⟨h4, h5⟩ | ⟨_, _, _, h4, _⟩
   ·omega
   ·simp [rowV] at h4
  | some b =>
   refine ⟨.pointer (some ⟨b, j.toNat * sz + 0, none⟩), ?_, ⟨b, _, hm, rfl⟩⟩
   have hin : 0 <= j /\ j < (n : Int) := ⟨h0, hj⟩
   simp [execOp, Instr.indexAt, hv, rowV, rv_lit h2, asIntOf, run_und (TSl.und (P := P) (t := t) (e := e) (sz := sz) (bytes := by')), hin, run_size hi, hsz', add_plain']
theorem r_indexArr {t e : TypeId} {n sz : Nat} {agg : Bool} {x y : Operand} {id off : Nat} {k : IntKind} {j : Int} [TA P t n e] [TV P e agg sz] (hx : ev fr x = .c (.ptr id off)) (hy : ev fr y = .c (.p (.lit (.int k j)))) (h0 : 0 <= j) (hj : j < n) :
  RStep P σ fr ⟨d, .indexAddr t x y, ty, pos, aft, g⟩ (.c (.ptr id (off + j.toNat * sz))) :=
 rs_pure fun m F w a i hs => by
  have h1 := hs x (by simp [Op.operands]) (good_of_nl hx (by simp))
  have h2 := hs y (by simp [Op.operands]) (good_of_lit hy)
  rw [hx] at h1; rw [hy] at h2
  obtain ⟨b, o', hm, hv⟩ := rv_ptr h1
  have ht := TV.run (P := P) (t := e) (agg := agg) (sz := sz) inferInstance w
  have hin : 0 <= j /\ j < (n : Int) := ⟨h0, hj⟩
  refine ⟨.pointer (some ⟨b, o' + (off + j.toNat * sz), none⟩), ?_, ⟨b, o', hm, rfl⟩⟩
  simp [execOp, Instr.indexAt, hv, Instr.sureAddr, rv_lit h2, asIntOf, run_und (TA.und (P := P) (t := t) (n := n) (e := e)), hin, ht.2, add_plain', Nat.add_assoc]
theorem r_indexArrEpt {t e : TypeId} {n sz esz : Nat} {agg : Bool} {x y : Operand} {id i off : Nat} {k : IntKind} {j : Int} [TA P t n e] [TV P e agg sz] (hx : ev fr x = .c (.ept id esz i off)) (hy : ev fr y = .c (.p (.lit (.int k j)))) (h0 : 0 <= j) (hj : j < n) :
  RStep P σ fr ⟨d, .indexAddr t x y, ty, pos, aft, g⟩ (.c (.ept id esz i (off + j.toNat * sz))) :=
 rs_pure fun m F w a iv hs => by
  have h1 := hs x (by simp [Op.operands]) (good_of_nl hx (by simp))
  have h2 := hs y (by simp [Op.operands]) (good_of_lit hy)
  rw [hx] at h1; rw [hy] at h2
  obtain ⟨b, o', hm, hv⟩ := rv_ept h1
  have ht := TV.run (P := P) (t := e) (agg := agg) (sz := sz) inferInstance w
  have hin : 0 <= j /\ j < (n : Int) := ⟨h0, hj⟩
  refine ⟨.pointer (some ⟨b, i * esz + (off + j.toNat * sz), none⟩), ?_, ⟨b, o', hm, rfl⟩⟩
  simp [execOp, Instr.indexAt, hv, Instr.sureAddr, rv_lit h2, asIntOf, run_und (TA.und (P := P) (t := t) (n := n) (e := e)), hin, ht.2, add_plain', Nat.add_assoc]
theorem r_indexArrRp {t e : TypeId} {n sz : Nat} {agg : Bool} {x y : Operand} {l l' : List PV} {k : IntKind} {j : Int} [TA P t n e] [TV P e agg sz] (hx : ev fr x = .c (.p (.rp l))) (hy : ev fr y = .c (.p (.lit (.int k j)))) (h0 : 0 <= j) (hj : j < n) (hl : l.drop (j.toNat * sz) = l') :
  RStep P σ fr ⟨d, .indexAddr t x y, ty, pos, aft, g⟩ (.c (.p (.rp l'))) :=
 rs_pure fun m F w a i hs => by
  have h1 := hs x (by simp [Op.operands]) (good_of_nl hx (by simp))
  have h2 := hs y (by simp [Op.operands]) (good_of_lit hy)
  rw [hx] at h1; rw [hy] at h2
  obtain ⟨b, o, us, hv, h3, h4, h5⟩ := rv_rp h1
  have ht := TV.run (P := P) (t := e) (agg := agg) (sz := sz) inferInstance w
  have hin : 0 <= j /\ j < (n : Int) := ⟨h0, hj⟩
  subst hl
  refine ⟨.pointer (some ⟨b, o + j.toNat * sz, none⟩), ?_, RP.rp (fun i => us (j.toNat * sz + i)) (fun i hi => ?_) (fun i hi => ?_) (fun i x hx => ?_)⟩
  ·simp [execOp, Instr.indexAt, hv, Instr.sureAddr, rv_lit h2, asIntOf, run_und (TA.und (P := P) (t := t) (n := n) (e := e)), hin, ht.2, add_plain']
  ·rw [Nat.add_assoc]; exact h3 _ (by simp at hi; omega)
  ·rw [Nat.add_assoc]; exact h4 _ (by simp at hi; omega)
  ·exact h5 _ _ (by rw [List.getElem?_drop] at hx; exact hx)
end
end Go.AL
namespace Go.AL
open Go.RowKit
section
variable {P : Program} {σ : List AObj} {fr : Fr}
variable {d : Option Nat} {ty : TypeId} {pos : String} {aft : Array Edge} {g : Option (Nat × Bool)}
theorem slice_run {t e : TypeId} {sz by' : Nat} [TSl P t e sz by'] (w : World) (A : Option Addr) (n cap lo hi : Nat) (L H : Option Value) (hL : (L = none /\ lo = 0) \/ ∃ k, L = some (.int k lo)) (hH : (H = none /\ hi = n) \/ ∃ k, H = some (.int k hi)) (h1 : lo <= hi) (h2 : hi <= cap) :
  (Instr.sliceAt t (.slice A n cap) L H none).run P w = .ok (.slice (if cap = lo then A else A.map (·.add (lo * sz))) (hi - lo) (cap - lo)) w := by
 obtain ⟨i', hi', hsz', _⟩ := TSl.inf (P := P) (t := t) (e := e) (sz := sz) (bytes := by')
 have hu := TSl.und (P := P) (t := t) (e := e) (sz := sz) (bytes := by')
 have b1 : (lo : Int) <= hi := by omega
 have b2 : (hi : Int) <= cap := by omega
 have b3 : (0 : Int) <= lo := by omega
 have b4 : (0 : Int) <= hi := by omega
 rcases hL with ⟨rfl, rfl⟩ | ⟨k, rfl⟩ <;> rcases hH with ⟨rfl, rfl⟩ | ⟨k', rfl⟩ <;>
  simp [Instr.sliceAt, run_und hu, Instr.slice, Instr.sliceBounds, Instr.sliceBound, asIntOf, run_size hi', hsz', b1, b2, b3, b4, h1, h2] <;> (intro hlt; omega)
theorem r_sliceMs {t e e' : TypeId} {sz by' : Nat} {x z : Operand} {id n : Nat} {l : List (List PV)} {k' : IntKind} {hi : Int} [TSl P t e sz by'] (hx : ev fr x = .c (.ms id n)) (hz : ev fr z = .c (.p (.lit (.int k' hi)))) (ho : σ[id]? = some (.arr e' sz l))
  (h1 : 0 <= hi) (h2 : hi <= l.length) : RStep P σ fr ⟨d, .slice t x none (some z) none, ty, pos, aft, g⟩ (.c (.ms id hi.toNat)) :=
 rs_pure fun m F w a i hs => by
  have g1 := hs x (by simp [Op.operands]) (good_of_nl hx (by simp))
  have g3 := hs z (by simp [Op.operands]) (good_of_lit hz)
  rw [hx] at g1; rw [hz] at g3
  obtain ⟨A, cap, hm, hcap, hv⟩ := rv_ms g1
  obtain ⟨p, rfl⟩ := Int.eq_ofNat_of_zero_le h1
  obtain ⟨xs, h3, _⟩ := i.obj id _ _ ho hm
  have hle : l.length <= cap := by
   rcases h3.2 with ⟨h4, h5⟩ | ⟨_, _, _, h4, _, _, h5, _⟩
   ·omega
   ·simp only [rowV, Value.slice.injEq] at h4; omega
  refine ⟨rowV A p cap, ?_, A, cap, hm, by simp; omega, by simp⟩
  simp only [execOp, Option.map_some, Option.map_none, hv, rv_lit g3, rowV]
  rw [Sem.run_bind, slice_run w _ n cap 0 p _ _ (.inl ⟨rfl, rfl⟩) (.inr ⟨_, rfl⟩) (by omega) (by omega)]
  cases A <;> simp [Addr.add]
theorem rv_agg {m : List Loc} {w : World} {F : Nat -> Nat -> Prop} {u : Value} {l : List C} (h : RV m w F (.agg l) u) : ∃ cs : Array Value, u = .agg cs /\ cs.size = l.length /\ ∀ j x, l[j]? = some x -> RC m w F x (cs.getD j undef) := h
theorem part_run {t : TypeId} {agg : Bool} {sz : Nat} [TV P t agg sz] {m : List Loc} {w : World} {F : Nat -> Nat -> Prop} {l : List C} {cs : Array Value} {v : AV} {off : Nat} (hs : cs.size = l.length) (hr : ∀ j x, l[j]? = some x -> RC m w F x (cs.getD j undef)) (hl : loaded agg sz (l.drop off) = some v) :
  ∃ x, (part t cs off).run P w = .ok x w /\ RV m w F v x := by
 have ht := TV.run (P := P) (t := t) (agg := agg) (sz := sz) inferInstance w
 unfold loaded at hl
 cases agg with
 | true =>
  simp only [if_true] at hl
  split at hl
  ·rename_i hle
   injection hl with hl
   subst hl
   have hle' : off + sz <= l.length \/ sz = 0 := by simp at hle; omega
   have hp := TV.pos (P := P) (t := t) (agg := true) (sz := sz)
   refine ⟨.agg (cs.extract off (off + sz)), by simp [part, ht.1, ht.2], ⟨_, rfl, by simp; omega, fun j x hx => ?_⟩⟩
   rw [List.getElem?_take] at hx
   split at hx
   ·rename_i hj
    rw [List.getElem?_drop] at hx
    have := hr _ _ hx
    have e : (cs.extract off (off + sz)).getD j undef = cs.getD (off + j) undef := by
     simp only [Array.getD_eq_getD_getElem?]
     rw [Array.getElem?_extract, if_pos (by omega)]
    rw [e]; exact this
   ·cases hx
  ·cases hl
 | false =>
  simp only [Bool.false_eq_true, if_false] at hl
  cases hd : l.drop off with
  | nil => rw [hd] at hl; cases hl
  | cons c r =>
   rw [hd] at hl
   injection hl with hl
   subst hl
   have hc : l[off]? = some c := by
    have : (l.drop off)[0]? = some c := by rw [hd]; rfl
    simpa using this
   have hlt : off < cs.size := by rw [hs]; exact (List.getElem?_eq_some_iff.1 hc).1
   refine ⟨cs[off], by simp [part, ht.1, Array.getElem?_eq_getElem hlt], ?_⟩
   have := hr _ _ hc
   show RC m w F c _
   simpa [Array.getD_eq_getD_getElem?, Array.getElem?_eq_getElem hlt] using this
theorem r_field {t ft : TypeId} {f off sz : Nat} {agg : Bool} {x : Operand} {l : List C} {v : AV} [TF P t f off ft] [TV P ft agg sz] (hx : ev fr x = .agg l) (hl : loaded agg sz (l.drop off) = some v) (hg : goodConst x = true := by rfl) : RStep P σ fr ⟨d, .field t x f, ty, pos, aft, g⟩ v :=
 rs_pure fun m F w a i hs => by
  have h1 := hs x (by simp [Op.operands]) hg
  rw [hx] at h1
  obtain ⟨cs, hv, hsz, hr⟩ := rv_agg h1
  obtain ⟨fs, fd, hu, hf, hoff, hft⟩ := TF.und (P := P) (t := t) (f := f) (off := off) (ft := ft)
  obtain ⟨y, h2, h3⟩ := part_run (P := P) (t := ft) hsz hr hl
  exact ⟨y, by simp [execOp, Instr.field, run_und hu, hf, hv, asAgg, hft, hoff, h2], h3⟩
theorem r_indexStr {t : TypeId} {x y : Operand} {s : ByteArray} {k : IntKind} {j : Int} {b : UInt8} [TStr P t] (hx : ev fr x = .c (.p (.lit (.string s)))) (hy : ev fr y = .c (.p (.lit (.int k j)))) (h0 : 0 <= j) (hb : s[j.toNat]? = some b) :
  RStep P σ fr ⟨d, .index t x y, ty, pos, aft, g⟩ (.c (.p (.lit (.int .u8 b.toNat)))) :=
 rs_pure fun m F w a i hs => by
  have h1 := hs x (by simp [Op.operands]) (good_of_lit hx)
  have h2 := hs y (by simp [Op.operands]) (good_of_lit hy)
  rw [hx] at h1; rw [hy] at h2
  exact ⟨_, by simp [execOp, Instr.index, rv_lit h1, rv_lit h2, asIntOf, run_und (TStr.und (P := P) (t := t)), h0, hb], RP.lit rfl⟩
theorem r_extract {x : Operand} {n : Nat} {l : List AV} {v : AV} (hx : ev fr x = .tup l) (hl : l[n]? = some v) (hg : goodConst x = true := by rfl) : RStep P σ fr ⟨d, .extract x n, ty, pos, aft, g⟩ v :=
 rs_pure fun m F w a i hs => by
  have h1 := hs x (by simp [Op.operands]) hg
  rw [hx] at h1
  obtain ⟨vs, hv, hs', hr⟩ := (show ∃ vs : Array Value, a.eval x = .tuple vs /\ vs.size = l.length /\ ∀ j x, l[j]? = some x -> RV0 m w F x (vs.getD j undef) from h1)
  have hlt : n < vs.size := by rw [hs']; exact (List.getElem?_eq_some_iff.1 hl).1
  have h2 := hr n v hl
  have e : vs.getD n undef = vs[n] := by simp [Array.getD_eq_getD_getElem?, Array.getElem?_eq_getElem hlt]
  rw [e] at h2
  refine ⟨vs[n], by simp [execOp, Instr.extract, hv, Array.getElem?_eq_getElem hlt], ?_⟩
  cases v <;> first | exact h2 | exact h2.elim
theorem r_ifaceAgg {t : TypeId} {x : Operand} {l : List PV} [TConc P t] (hx : ev fr x = .agg (l.map .p)) (hg : goodConst x = true := by rfl) : RStep P σ fr ⟨d, .makeInterface t x, ty, pos, aft, g⟩ (.c (.p (.ifa t l))) :=
 rs_pure fun m F w a i hs => by
  have h1 := hs x (by simp [Op.operands]) hg
  rw [hx] at h1
  obtain ⟨cs, hv, hsz, hr⟩ := rv_agg h1
  obtain ⟨dd, hu, hd⟩ := TConc.und (P := P) (t := t)
  refine ⟨.iface t (a.eval x), ?_, ?_⟩
  ·cases dd <;> first | (simp at hd; done) | simp [execOp, Instr.makeInterface, run_und hu]
  ·rw [hv]
   exact RP.ifa cs (by simpa using hsz) (fun j x hx => hr j (.p x) (by simp [hx]))
theorem r_max {ts : Array TypeId} {x y : Operand} {k k' : IntKind} {a b : Int} (hx : ev fr x = .c (.p (.lit (.int k a)))) (hy : ev fr y = .c (.p (.lit (.int k' b)))) :
  RStep P σ fr ⟨d, .call { callee := .builtin .max, args := #[x, y], argTypes := ts }, ty, pos, aft, g⟩ (.c (.p (.lit (.int k (if b > a then b else a))))) :=
 rs_pure fun m F w a' i hs => by
  have h1 := hs x (by simp [Op.operands, Call.operands]) (good_of_lit hx)
  have h2 := hs y (by simp [Op.operands, Call.operands]) (good_of_lit hy)
  rw [hx] at h1; rw [hy] at h2
  exact ⟨_, by simp [execOp, resolve, invoke, builtin, Builtin.max_, Builtin.max2, rv_lit h1, rv_lit h2], RP.lit rfl⟩
theorem r_min {ts : Array TypeId} {x y : Operand} {k k' : IntKind} {a b : Int} (hx : ev fr x = .c (.p (.lit (.int k a)))) (hy : ev fr y = .c (.p (.lit (.int k' b)))) :
  RStep P σ fr ⟨d, .call { callee := .builtin .min, args := #[x, y], argTypes := ts }, ty, pos, aft, g⟩ (.c (.p (.lit (.int k (if b < a then b else a))))) :=
 rs_pure fun m F w a' i hs => by
  have h1 := hs x (by simp [Op.operands, Call.operands]) (good_of_lit hx)
  have h2 := hs y (by simp [Op.operands, Call.operands]) (good_of_lit hy)
  rw [hx] at h1; rw [hy] at h2
  exact ⟨_, by simp [execOp, resolve, invoke, builtin, Builtin.min_, Builtin.min2, rv_lit h1, rv_lit h2], RP.lit rfl⟩
def AV.cells : AV -> List C
 | .c x => [x]
 | .agg l => l
 | .tup _ => []
def lay {α : Type} (l : List α) (off : Nat) (x : List α) : List α := l.take off ++ x ++ l.drop (off + x.length)
def fillA (place : Nat -> Option (Nat × Nat)) (cells : List C) : List (Nat × AV) -> Option (List C)
 | [] => some cells
 | (i, v) :: rest =>
  match place i with
  | none => none
  | some (off, size) => if v.cells.length = size /\ off + size <= cells.length /\ 0 < size then fillA place (lay cells off v.cells) rest else none
theorem rv_cells {m : List Loc} {w : World} {F : Nat -> Nat -> Prop} {v : AV} {u : Value} (h : RV m w F v u) (hn : 0 < v.cells.length) (ho : ∀ x, v ≠ .c x \/ u.oneCell' = true) : u.cells.size = v.cells.length /\ ∀ j x, v.cells[j]? = some x -> RC m w F x (u.cells.getD j undef) := by
 cases v with
 | tup l => simp [AV.cells] at hn
 | agg l =>
  obtain ⟨cs, hv, hs, hr⟩ := rv_agg h
  subst hv
  exact ⟨by simpa [Value.cells, AV.cells] using hs, by simpa [Value.cells, AV.cells] using hr⟩
 | c x =>
  have h1 : u.oneCell' = true := (ho x).resolve_left (by simp)
  have : u.cells = #[u] := by cases u <;> first | rfl | (simp [Value.oneCell'] at h1)
  refine ⟨by simp [this, AV.cells], fun j y hy => ?_⟩
  cases j with
  | zero => simp [AV.cells] at hy; subst hy; simp [this]; exact h
  | succ j => simp [AV.cells] at hy
def sureC : C -> Bool
 | .any => false
 | _ => true
def sureV : AV -> Bool
 | .c x => sureC x
 | .agg l => l.all sureC
 | .tup _ => false
theorem rc_one {m : List Loc} {w : World} {F : Nat -> Nat -> Prop} {x : C} {u : Value} (hs : sureC x = true) (h : RC m w F x u) : u.oneCell' = true := by
 cases x with
 | p x => exact RP.one h
 | ms id n => obtain ⟨A, cap, _, _, rfl⟩ := h; rfl
 | ptr id off => obtain ⟨b, o, _, rfl⟩ := h; rfl
 | ept id sz i off => obtain ⟨b, o, _, rfl⟩ := h; rfl
 | mpr id => obtain ⟨b, cap, _, h2⟩ := h; rw [h2]; rfl
 | fnp f l => obtain ⟨vs, h2, _⟩ := h; rw [h2]; rfl
 | any => cases hs
theorem rv_one {m : List Loc} {w : World} {F : Nat -> Nat -> Prop} {v : AV} {u : Value} (hs : sureV v = true) (h : RV m w F v u) : ∀ x, v ≠ .c x \/ u.oneCell' = true := by
 intro x
 cases v with
 | c y => exact .inr (rc_one hs h)
 | agg l => exact .inl (by simp)
 | tup l => exact .inl (by simp)
theorem lay_get {α : Type} (l x : List α) (off j : Nat) (h : off + x.length <= l.length) : (lay l off x)[j]? = if off <= j /\ j < off + x.length then x[j - off]? else l[j]? := by
 unfold lay
 rw [List.append_assoc]
 by_cases h1 : j < off
 ·rw [List.getElem?_append_left (by simp; omega), List.getElem?_take, if_pos h1, if_neg (by omega)]
 ·rw [List.getElem?_append_right (by simp; omega)]
  have e : (l.take off).length = off := by simp; omega
  rw [e]
  by_cases h2 : j < off + x.length
  ·rw [List.getElem?_append_left (by omega), if_pos (by omega)]
  ·rw [List.getElem?_append_right (by omega), if_neg (by omega), List.getElem?_drop]
   congr 1; omega
theorem lay_length {α : Type} (l x : List α) (off : Nat) (h : off + x.length <= l.length) : (lay l off x).length = l.length := by
 simp [lay]; omega
theorem setFold_get (vs : Array Value) (cs : Array Value) (off : Nat) (h : off + vs.size <= cs.size) :
  (vs.zipIdx.foldl (fun cs (c, j) => cs.setIfInBounds (off + j) c) cs).size = cs.size /\ ∀ j, (vs.zipIdx.foldl (fun cs (c, j) => cs.setIfInBounds (off + j) c) cs)[j]? = if off <= j /\ j < off + vs.size then vs[j - off]? else cs[j]? := by
 rw [<- Array.foldl_toList, Array.toList_zipIdx]
 have key : ∀ (l : List Value) (k : Nat) (cs : Array Value), off + k + l.length <= cs.size ->
   ((l.zipIdx k).foldl (fun (cs : Array Value) (x : Value × Nat) => cs.setIfInBounds (off + x.2) x.1) cs).size = cs.size /\ ∀ j, ((l.zipIdx k).foldl (fun (cs : Array Value) (x : Value × Nat) => cs.setIfInBounds (off + x.2) x.1) cs)[j]? = if off + k <= j /\ j < off + k + l.length then l[j - (off + k)]? else cs[j]? := by
  intro l
  induction l with
  | nil => intro k cs hle; exact ⟨rfl, fun j => by rw [if_neg (by simp)]; rfl⟩
  | cons v l ih =>
   intro k cs hle
   simp only [List.zipIdx_cons, List.foldl_cons]
   obtain ⟨h1, h2⟩ := ih (k + 1) (cs.setIfInBounds (off + k) v) (by simp at hle ⊢; omega)
   refine ⟨by simpa using h1, fun j => ?_⟩
   rw [h2 j]
   simp only [List.length_cons] at hle ⊢
   by_cases hj : j = off + k
   ·subst hj
    rw [if_neg (by omega), if_pos (by omega)]
    simp [Array.getElem?_setIfInBounds]
    omega
   ·by_cases hin : off + (k + 1) <= j /\ j < off + (k + 1) + l.length
    ·rw [if_pos hin, if_pos (by omega)]
     have e : j - (off + k) = j - (off + (k + 1)) + 1 := by omega
     rw [e, List.getElem?_cons_succ]
    ·rw [if_neg hin, if_neg (by omega), Array.getElem?_setIfInBounds_ne (by omega)]
 have := key vs.toList 0 cs (by simpa using h)
 simpa using this
theorem fill_run {m : List Loc} {w : World} {F : Nat -> Nat -> Prop} {place : Nat -> Option (Nat × Nat)} : ∀ (ps : List (Nat × AV)) (vs : List (Nat × Value)) (cells : List C) (cs : Array Value) (out : List C),
  vs.map (·.1) = ps.map (·.1) -> (∀ (j : Nat) (p : Nat × AV) (v : Nat × Value), ps[j]? = some p -> vs[j]? = some v -> RV m w F p.2 v.2 /\ sureV p.2 = true) -> cs.size = cells.length -> (∀ j x, cells[j]? = some x -> RC m w F x (cs.getD j undef)) -> fillA place cells ps = some out ->
  ∃ r, Instr.fill place cs vs = some r /\ r.size = out.length /\ ∀ j x, out[j]? = some x -> RC m w F x (r.getD j undef) := by
 intro ps
 induction ps with
 | nil =>
  intro vs cells cs out hk _ hsz hr hf
  cases vs with
  | nil => simp only [fillA, Option.some.injEq] at hf; subst hf; exact ⟨cs, rfl, hsz, hr⟩
  | cons => simp at hk
 | cons p ps ih =>
  intro vs cells cs out hk hv hsz hr hf
  cases vs with
  | nil => simp at hk
  | cons v vs =>
   obtain ⟨i, pv⟩ := p
   obtain ⟨i', u⟩ := v
   simp only [List.map_cons, List.cons.injEq] at hk
   obtain ⟨rfl, hk⟩ := hk
   obtain ⟨h1, h2⟩ := hv 0 (i', pv) (i', u) rfl rfl
   dsimp only at h1 h2
   simp only [fillA] at hf
   simp only [Instr.fill]
   cases hp : place i' with
   | none => rw [hp] at hf; cases hf
   | some q =>
    obtain ⟨off, size⟩ := q
    rw [hp] at hf
    simp only at hf ⊢
    split at hf
    ·rename_i hc
     obtain ⟨c1, c2, c3⟩ := hc
     obtain ⟨e1, e2⟩ := rv_cells h1 (by omega) (rv_one h2 h1)
     have hcond : ¬ (u.cells.size ≠ size || off + u.cells.size > cs.size) = true := by simp; omega
     rw [if_neg hcond]
     obtain ⟨s1, s2⟩ := setFold_get u.cells cs off (by omega)
     refine ih vs (lay cells off pv.cells) _ out hk (fun j p v hj hj' => hv (j + 1) p v (by simpa using hj) (by simpa using hj')) (by rw [s1, lay_length _ _ _ (by omega)]; exact hsz) (fun j x hx => ?_) hf
     rw [lay_get _ _ _ _ (by omega)] at hx
     rw [Array.getD_eq_getD_getElem?, s2 j]
     split at hx
     ·rename_i hin
      rw [if_pos (by omega)]
      have := e2 _ _ hx
      rwa [Array.getD_eq_getD_getElem?] at this
     ·rename_i hin
      rw [if_neg (by omega)]
      have := hr _ _ hx
      rwa [Array.getD_eq_getD_getElem?] at this
    ·cases hf
def zC (z : Value) : List C := z.cells.toList.map fun v => .p (.lit v)
theorem zC_rc {m : List Loc} {w : World} {F : Nat -> Nat -> Prop} {z : Value} (h1 : ∀ u ∈ z.cells, u.oneCell' = true) : z.cells.size = (zC z).length /\ ∀ j x, (zC z)[j]? = some x -> RC m w F x (z.cells.getD j undef) := by
 refine ⟨by simp [zC], fun j x hx => ?_⟩
 simp only [zC, List.getElem?_map, Option.map_eq_some_iff] at hx
 obtain ⟨v, hv, rfl⟩ := hx
 have hv' : z.cells[j]? = some v := by simpa using hv
 rw [Array.getD_eq_getD_getElem?, hv']
 exact RP.lit (h1 v (Array.mem_of_getElem? hv'))
theorem TZ.run {t : TypeId} {z : Value} (h : TZ P t z) (w : World) : (zeroValue t).run P w = .ok z w := by
 obtain ⟨i, hi, hz⟩ := h.inf
 simp [zeroValue, run_info hi, hz]
theorem parts_rel {m : List Loc} {w : World} {F : Nat -> Nat -> Prop} {a : Act} {parts : Array (Nat × Operand)} (hs : ∀ x, x ∈ parts.map (·.2) -> goodConst x = true -> RV m w F (ev fr x) (a.eval x)) (hg : parts.toList.all (fun p => goodConst p.2 && sureV (ev fr p.2)) = true) :
  (parts.toList.map fun p => (p.1, a.eval p.2)).map (·.1) = (parts.toList.map fun p => (p.1, ev fr p.2)).map (·.1) /\ ∀ (j : Nat) (p : Nat × AV) (v : Nat × Value), (parts.toList.map fun p => (p.1, ev fr p.2))[j]? = some p -> (parts.toList.map fun p => (p.1, a.eval p.2))[j]? = some v -> RV m w F p.2 v.2 /\ sureV p.2 = true := by
 refine ⟨by simp, fun j p v hp hv => ?_⟩
 simp only [List.getElem?_map, Option.map_eq_some_iff] at hp hv
 obtain ⟨q, hq, rfl⟩ := hp
 obtain ⟨q', hq', rfl⟩ := hv
 rw [hq] at hq'
 injection hq' with hq'
 subst hq'
 have hmem : q ∈ parts.toList := List.mem_of_getElem? hq
 have := List.all_eq_true.1 hg q hmem
 simp only [Bool.and_eq_true] at this
 exact ⟨hs q.2 (Array.mem_map.2 ⟨q, by simpa using hmem, rfl⟩) this.1, this.2⟩
theorem r_buildSt {t : TypeId} {ps : List (Nat × Nat)} {z : Value} {parts : Array (Nat × Operand)} {out : List C} [TSt P t ps] [TZ P t z] (hg : parts.toList.all (fun p => goodConst p.2 && sureV (ev fr p.2)) = true) (hf : fillA (ps[·]?) (zC z) (parts.toList.map fun p => (p.1, ev fr p.2)) = some out) :
  RStep P σ fr ⟨d, .build t parts, ty, pos, aft, g⟩ (.agg out) :=
 rs_pure fun m F w a i hs => by
  obtain ⟨fs, hu, hps, hinf⟩ := TSt.und (P := P) (t := t) (ps := ps)
  obtain ⟨k1, k2⟩ := parts_rel (fr := fr) (a := a) (parts := parts) (m := m) (w := w) (F := F) (fun x hx => hs x (by simpa [Op.operands] using hx)) hg
  obtain ⟨z1, z2⟩ := zC_rc (m := m) (w := w) (F := F) (TZ.one (P := P) (t := t) (z := z))
  obtain ⟨r, h1, h2, h3⟩ := fill_run _ _ _ _ _ k1 k2 z1 z2 hf
  refine ⟨.agg r, ?_, ⟨r, rfl, h2, h3⟩⟩
  have hmap : (fs.mapM fun f => do pure (f.offset, <- sizeOf f.type) : Sem (Array (Nat × Nat))).run P w = .ok ps.toArray w := by
   rw [<- hps]
   have key : ∀ (l : List Field), (∀ f ∈ l, (P.info? f.type).isSome = true) -> (l.mapM fun f => do pure (f.offset, <- sizeOf f.type) : Sem (List (Nat × Nat))).run P w = .ok (l.map fun f => (f.offset, P.cellsOf f.type)) w := by
    intro l
    induction l with
    | nil => intro _; rfl
    | cons f l ih =>
     intro hl
     obtain ⟨inf, hinf⟩ := Option.isSome_iff_exists.1 (hl f (List.mem_cons_self ..))
     have h0 := ih (fun f hf => hl f (List.mem_cons_of_mem _ hf))
     simp only [List.mapM_cons, Sem.run_bind, run_size hinf, Result.andThen_ok, Sem.run_pure, List.map_cons, Program.cellsOf, hinf, Option.map_some, Option.getD_some] at h0 ⊢
     rw [h0]; rfl
   have := key fs.toList (fun f hf => hinf f (by simpa using hf))
   rw [Array.mapM_eq_mapM_toList, Sem.run_map, this]; rfl
  have he : (parts.map fun (x : Nat × Operand) => (x.1, a.eval x.2)).toList = parts.toList.map fun p => (p.1, a.eval p.2) := by simp
  have hfun : (fun (i : Nat) => ps.toArray[i]?) = (fun (i : Nat) => ps[i]?) := by funext i; simp
  have hbuild : (Instr.build t (parts.map fun (x : Nat × Operand) => (x.1, a.eval x.2))).run P w = .ok (.agg r) w := by
   unfold Instr.build
   rw [Sem.run_bind, TZ.run (P := P) (t := t) (z := z) inferInstance]
   simp only [Result.andThen_ok]
   rw [Sem.run_bind, run_und hu]
   simp only [Result.andThen_ok]
   rw [Sem.run_bind, hmap]
   simp only [Result.andThen_ok, he, hfun, h1, Sem.run_pure]
  simp only [execOp, Sem.run_bind, hbuild, Result.andThen_ok, Sem.run_pure]
theorem r_buildArr {t e : TypeId} {n sz : Nat} {agg : Bool} {z : Value} {parts : Array (Nat × Operand)} {out : List C} [TA P t n e] [TV P e agg sz] [TZ P t z] (hg : parts.toList.all (fun p => goodConst p.2 && sureV (ev fr p.2)) = true) (hf : fillA (fun i => some (i * sz, sz)) (zC z) (parts.toList.map fun p => (p.1, ev fr p.2)) = some out) :
  RStep P σ fr ⟨d, .build t parts, ty, pos, aft, g⟩ (.agg out) :=
 rs_pure fun m F w a i hs => by
  have ht := TV.run (P := P) (t := e) (agg := agg) (sz := sz) inferInstance w
  obtain ⟨k1, k2⟩ := parts_rel (fr := fr) (a := a) (parts := parts) (m := m) (w := w) (F := F) (fun x hx => hs x (by simpa [Op.operands] using hx)) hg
  obtain ⟨z1, z2⟩ := zC_rc (m := m) (w := w) (F := F) (TZ.one (P := P) (t := t) (z := z))
  obtain ⟨r, h1, h2, h3⟩ := fill_run _ _ _ _ _ k1 k2 z1 z2 hf
  refine ⟨.agg r, ?_, ⟨r, rfl, h2, h3⟩⟩
  have he : (parts.map fun (x : Nat × Operand) => (x.1, a.eval x.2)).toList = parts.toList.map fun p => (p.1, a.eval p.2) := by simp
  simp [execOp, Instr.build, TZ.run (P := P) (t := t) (z := z) inferInstance, run_und (TA.und (P := P) (t := t) (n := n) (e := e)), ht.2, he, h1]
end
end Go.AL
namespace Go.AL
open Go.RowKit
class TFn (P : Program) (f : FuncId) : Prop where
 call : ∀ (args : Array Value) (w : World), (callFunc f args).run P w = .ok (.enter f args) w
inductive CE where
 | ret (v : AV)
 | panic (x : PV)
def RCE (m : List Loc) (w : World) (F : Nat -> Nat -> Prop) : CE -> Ending -> Prop
 | .ret v, .returned u => RV m w F v u
 | .panic x, .panicked ch => ∃ v, ch = [{ v, recovered := false }] /\ RP w F x v
 | _, _ => False
def ACalls (P : Program) (f : FuncId) (args : List AV) (σ : List AObj) (R : CE -> List AObj -> Prop) : Prop :=
 ∀ m F w (vs : Array Value), Inv m F σ w -> vs.size = args.length -> (∀ (j : Nat) x, args[j]? = some x -> RV m w F x (vs.getD j undef)) ->
  Calls P f vs w (fun e w' => ∃ m' F' σ' r, R r σ' /\ RCE m' w' F' r e /\ Inv m' F' σ' w' /\ Step m F σ w m' F' σ' w')
theorem ACalls.mono {P : Program} {f : FuncId} {args : List AV} {σ : List AObj} {R R' : CE -> List AObj -> Prop} (h : ACalls P f args σ R) (hR : ∀ r σ', R r σ' -> R' r σ') : ACalls P f args σ R' :=
 fun m F w vs i hs hv => (h m F w vs i hs hv).mono fun e w' ⟨m', F', σ', r, h1, h2⟩ => ⟨m', F', σ', r, hR _ _ h1, h2⟩
inductive Res1 (P : Program) (fr : Fr) (σ : List AObj) : ResultVar -> AV -> Prop
 | tmp (t : Tmp) (h : ∀ l, fr.get t ≠ .tup l) : Res1 P fr σ (.tmp t) (fr.get t)
 | cell {a : Tmp} {t : TypeId} {agg : Bool} {sz id off : Nat} {ob : List C} {v : AV} [TV P t agg sz] (hx : fr.get a = .c (.ptr id off)) (ho : σ[id]? = some (.cells ob)) (hl : loaded agg sz (ob.drop off) = some v) : Res1 P fr σ (.cell a t) v
inductive ResAll (P : Program) (fr : Fr) (σ : List AObj) : List ResultVar -> List AV -> Prop
 | nil : ResAll P fr σ [] []
 | cons {r : ResultVar} {v : AV} {rs : List ResultVar} {vs : List AV} (h : Res1 P fr σ r v) (t : ResAll P fr σ rs vs) : ResAll P fr σ (r :: rs) (v :: vs)
def pack : List AV -> AV
 | [v] => v
 | l => .tup l
theorem loaded_notup {agg : Bool} {n : Nat} {l : List C} {v : AV} (h : loaded agg n l = some v) : ∀ k, v ≠ .tup k := by
 intro k hk
 subst hk
 unfold loaded at h
 cases agg with
 | true => simp only [if_true] at h; split at h <;> simp at h
 | false => cases l <;> simp at h
theorem res1_run {P : Program} {N : NN} {m : List Loc} {F : Nat -> Nat -> Prop} {s : St} {a : Act} {w : World} (hr : Rel N m F s a w) {r : ResultVar} {v : AV} (h : Res1 P s.fr s.σ r v) :
  ∃ x, (match r with | .tmp t => pure (a.tmps.getD t undef) | .cell c t => do loadVar t (<- asAddr (a.tmps.getD c undef)) : Sem Value).run P w = .ok x w /\ RV0 m w F v x := by
 cases h with
 | tmp t ht =>
  refine ⟨_, rfl, ?_⟩
  have := hr.fr t
  cases hg : s.fr.get t with
  | tup l => exact absurd hg (ht l)
  | c x => rw [hg] at this; exact this
  | agg l => rw [hg] at this; exact this
 | cell hx ho hl =>
  rename_i c t agg sz id off ob inst
  have h1 := hr.fr c
  rw [hx] at h1
  obtain ⟨b, o', hm, hv⟩ := rv_ptr h1
  obtain ⟨us, hw, hr'⟩ := obj_cells hr.inv ho hm
  obtain ⟨y, h2, h3⟩ := loaded_run (P := P) (t := t) (m := m) (w := w) (F := F) (b := b) (o := o' + off) (fun j => us (off + j))
   (fun j hj => by rw [Nat.add_assoc]; exact (hw _ (by simp at hj; omega)).1) (fun j c hj => hr' _ _ (by rw [List.getElem?_drop] at hj; exact hj)) hl
  refine ⟨y, by simp [hv, asAddr, h2], ?_⟩
  cases v with
  | tup l => exact absurd rfl (loaded_notup hl l)
  | c x => exact h3
  | agg l => exact h3
theorem resAll_run {P : Program} {N : NN} {m : List Loc} {F : Nat -> Nat -> Prop} {s : St} {a : Act} {w : World} (hr : Rel N m F s a w) : ∀ {rs : List ResultVar} {vs : List AV}, ResAll P s.fr s.σ rs vs ->
  ∃ xs : List Value, (rs.mapM fun | .tmp t => pure (a.tmps.getD t undef) | .cell c t => do loadVar t (<- asAddr (a.tmps.getD c undef)) : Sem (List Value)).run P w = .ok xs w /\ xs.length = vs.length /\ ∀ (j : Nat) v, vs[j]? = some v -> RV0 m w F v (xs.getD j undef) := by
 intro rs vs h
 induction h with
 | nil => exact ⟨[], rfl, rfl, fun j v hj => by simp at hj⟩
 | cons h1 _ ih =>
  obtain ⟨x, e1, e2⟩ := res1_run hr h1
  obtain ⟨xs, e3, e4, e5⟩ := ih
  refine ⟨x :: xs, ?_, by simp [e4], fun j v hj => ?_⟩
  ·simp only [List.mapM_cons, Sem.run_bind]
   rw [e1]; simp only [Result.andThen_ok]; rw [e3]; rfl
  ·cases j with
   | zero => simp at hj; subst hj; exact e2
   | succ j => simp at hj; exact e5 j v hj
theorem rv_of0 {m : List Loc} {w : World} {F : Nat -> Nat -> Prop} {v : AV} {x : Value} (h : RV0 m w F v x) : RV m w F v x := by
 cases v with
 | tup l => exact h.elim
 | c y => exact h
 | agg l => exact h
theorem results_run {P : Program} {fn : Func} {N : NN} {m : List Loc} {F : Nat -> Nat -> Prop} {s : St} {a : Act} {w : World} (hr : Rel N m F s a w) {vs : List AV} (h : ResAll P s.fr s.σ fn.results.toList vs) :
  ∃ x, (results fn a.tmps).run P w = .ok x w /\ RV m w F (pack vs) x := by
 obtain ⟨xs, e1, e2, e3⟩ := resAll_run hr h
 have hx : (results fn a.tmps).run P w = .ok (if h : xs.toArray.size = 1 then xs.toArray[0] else .tuple xs.toArray) w := by
  unfold results
  rw [Sem.run_bind, Array.mapM_eq_mapM_toList, Sem.run_map]
  exact (congrArg (fun (r : Result (List Value)) => (r.andThen fun a w' => Result.ok a.toArray w').andThen (fun (a : Array Value) w' => Sem.run P (pure (if h : a.size = 1 then a[0] else Value.tuple a)) w')) e1).trans rfl
 refine ⟨_, hx, ?_⟩
 cases vs with
 | nil =>
  have : xs = [] := List.eq_nil_of_length_eq_zero e2
  subst this
  exact ⟨#[], rfl, rfl, fun j x hj => by simp at hj⟩
 | cons v vs =>
  cases vs with
  | nil =>
   obtain ⟨x, rfl⟩ : ∃ x, xs = [x] := by
    cases xs with
    | nil => simp at e2
    | cons x xs => cases xs with
     | nil => exact ⟨x, rfl⟩
     | cons => simp at e2
   have := e3 0 v rfl
   exact rv_of0 (v := v) (x := x) this
  | cons v2 vs =>
   have hne : ¬ xs.toArray.size = 1 := by simp [e2]
   rw [dif_neg hne]
   refine ⟨xs.toArray, rfl, by simpa using e2, fun j x hj => ?_⟩
   have := e3 j x hj
   have e : xs.toArray.getD j undef = xs.getD j undef := by simp [List.getD_eq_getElem?_getD]
   rw [e]; exact this
def argFr : Nat -> List AV -> Fr
 | _, [] => []
 | k, x :: r => (k, x) :: argFr (k + 1) r
theorem argFr_get (args : List AV) : ∀ k t, (argFr k args).get t = if k <= t then (args[t - k]?).getD (.c .any) else .c .any := by
 induction args with
 | nil => intro k t; simp [argFr, Fr.get]
 | cons x r ih =>
  intro k t
  simp only [argFr, Fr.get]
  by_cases hb : k = t
  ·subst hb
   simp
  ·rw [if_neg hb, ih]
   by_cases h1 : k + 1 <= t
   ·rw [if_pos h1, if_pos (by omega)]
    have : t - k = t - (k + 1) + 1 := by omega
    rw [this, List.getElem?_cons_succ]
   ·rw [if_neg h1]
    by_cases h2 : k <= t
    ·omega
    ·rw [if_neg h2]
def retQ (P : Program) (fn : Func) (R : CE -> List AObj -> Prop) : AE -> St -> Prop
 | .normal, s | .ret, s => ∃ vs, ResAll P s.fr s.σ fn.results.toList vs /\ R (.ret (pack vs)) s.σ
 | .panic x, s => R (.panic x) s.σ
 | _, _ => False
theorem acalls_of {P : Program} {f : FuncId} {fn : Func} {c : Code} {N : Nat} {args : List AV} {σ : List AObj} {R : CE -> List AObj -> Prop} (hf : P.funcs[f]? = some fn) (hb : fn.body = some c) (hn : fn.ntmps = N) (hN : args.length <= N)
  (h : AWp P ⟨N, []⟩ c (retQ P fn R) ⟨argFr 0 args, σ⟩) : ACalls P f args σ R := by
 intro m F w vs i hs hv
 refine calls_of_wp hf hb ?_
 have hr : Rel ⟨N, []⟩ m F ⟨argFr 0 args, σ⟩ { tmps := vs ++ Array.replicate (fn.ntmps - vs.size) undef, defers := [] } w := by
  refine ⟨i, fun t => ?_, by simp; omega, rfl⟩
  simp only [argFr_get, Nat.zero_le, if_true, Nat.sub_zero]
  cases hj : args[t]? with
  | none => trivial
  | some x =>
   have hlt : t < vs.size := by rw [hs]; exact (List.getElem?_eq_some_iff.1 hj).1
   have e : (vs ++ Array.replicate (fn.ntmps - vs.size) undef).getD t undef = vs.getD t undef := by
    simp only [Array.getD_eq_getD_getElem?, Array.getElem?_append_left hlt]
   rw [e]
   exact hv t x hj
 refine wp_mono (h m F _ w hr) fun e a' w' hp => ?_
 obtain ⟨m', F', s', x, hq, he, hr', hs'⟩ := hp
 cases e with
 | normal =>
  cases x <;> first | exact he.elim | skip
  obtain ⟨us, hu, hR⟩ := hq
  obtain ⟨y, h1, h2⟩ := results_run hr' hu
  exact ⟨hr'.defers, y, h1, m', F', s'.σ, _, hR, h2, hr'.inv, hs'⟩
 | ret =>
  cases x <;> first | exact he.elim | skip
  obtain ⟨us, hu, hR⟩ := hq
  obtain ⟨y, h1, h2⟩ := results_run hr' hu
  exact ⟨hr'.defers, y, h1, m', F', s'.σ, _, hR, h2, hr'.inv, hs'⟩
 | panic ch =>
  cases x <;> first | exact he.elim | skip
  exact ⟨hr'.defers, m', F', s'.σ, .panic _, hq, he, hr'.inv, hs'⟩
 | exit id => cases x <;> first | exact he.elim | exact hq.elim
 | goto id => cases x <;> first | exact he.elim | exact hq.elim
 | outgrown => cases x <;> exact he.elim
def pureC : C -> Bool
 | .p _ => true
 | _ => false
def pureV0 : AV -> Bool
 | .c x => pureC x
 | .agg l => l.all pureC
 | .tup _ => false
def pureV : AV -> Bool
 | .tup l => l.all pureV0
 | x => pureV0 x
theorem rc_pure {m m' : List Loc} {w : World} {F : Nat -> Nat -> Prop} {x : C} {u : Value} (hp : pureC x = true) (h : RC m w F x u) : RC m' w F x u := by
 cases x with
 | p x => exact h
 | ms => simp [pureC] at hp
 | ptr => simp [pureC] at hp
 | ept => simp [pureC] at hp
 | mpr => simp [pureC] at hp
 | fnp => simp [pureC] at hp
 | any => trivial
theorem rv0_pure {m m' : List Loc} {w : World} {F : Nat -> Nat -> Prop} {x : AV} {u : Value} (hp : pureV0 x = true) (h : RV0 m w F x u) : RV0 m' w F x u := by
 cases x with
 | c x => exact rc_pure hp h
 | agg l =>
  obtain ⟨cs, h1, h2, h3⟩ := h
  exact ⟨cs, h1, h2, fun j x hj => rc_pure (List.all_eq_true.1 hp x (List.mem_of_getElem? hj)) (h3 j x hj)⟩
 | tup l => exact h.elim
theorem rv_pure {m m' : List Loc} {w : World} {F : Nat -> Nat -> Prop} {x : AV} {u : Value} (hp : pureV x = true) (h : RV m w F x u) : RV m' w F x u := by
 cases x with
 | c x => exact rc_pure hp h
 | agg l => exact rv0_pure (x := .agg l) hp h
 | tup l =>
  obtain ⟨vs, h1, h2, h3⟩ := h
  exact ⟨vs, h1, h2, fun j x hj => rv0_pure (List.all_eq_true.1 hp x (List.mem_of_getElem? hj)) (h3 j x hj)⟩
section
variable {P : Program} {σ : List AObj} {fr : Fr}
variable {d : Option Nat} {ty : TypeId} {pos : String} {aft : Array Edge} {g : Option (Nat × Bool)}
theorem Inv.none {m : List Loc} {F : Nat -> Nat -> Prop} {σ : List AObj} {w : World} (i : Inv m F σ w) : Inv [] F [] w :=
 ⟨rfl, i.frz, fun b k ⟨j, o, l, h, _⟩ => by simp at h, fun j o l h => by simp at h, fun j k o l o' l' _ h => by simp at h, fun b k ⟨j, o, l, h, _⟩ => by simp at h⟩
theorem Step.grow {F F' : Nat -> Nat -> Prop} {m' : List Loc} {σ' : List AObj} {w w' : World} (i' : Inv m' F' σ' w') (h : Step [] F [] w m' F' σ' w') : Grow F w F' w' := by
 have hn : ∀ b k, ¬ FP [] [] b k := fun b k ⟨j, o, l, h, _⟩ => by simp at h
 exact ⟨h.fm, h.os, h.tape, h.output, h.size, fun b hb => h.blk b hb (hn b), fun b k hF => (h.new b k (.inr hF)).resolve_left (hn b k), fun b k hF => .inl (i'.frz b k hF)⟩
theorem callArgs {xs : Array Operand} {args : List AV} {m : List Loc} {w : World} {F : Nat -> Nat -> Prop} {a : Act} (hx : xs.toList.map (ev fr) = args) (hs : ∀ x, x ∈ xs -> goodConst x = true -> RV m w F (ev fr x) (a.eval x)) (hg : xs.toList.all goodConst = true) :
  (xs.map a.eval).size = args.length /\ ∀ (j : Nat) y, args[j]? = some y -> RV m w F y ((xs.map a.eval).getD j undef) := by
 subst hx
 refine ⟨by simp, fun j y hj => ?_⟩
 simp only [List.getElem?_map, Option.map_eq_some_iff] at hj
 obtain ⟨x, hx, rfl⟩ := hj
 have hx' : xs[j]? = some x := by simpa using hx
 have e : (xs.map a.eval).getD j undef = a.eval x := by simp [Array.getD_eq_getD_getElem?, hx']
 rw [e]
 exact hs x (Array.mem_of_getElem? hx') (List.all_eq_true.1 hg x (List.mem_of_getElem? hx))
theorem wp_callFn {f : FuncId} [TFn P f] {y : Operand} {xs : Array Operand} {ts : Array TypeId} {a : Act} {w : World} (hy : a.eval y = .func (.func f) #[] #[]) {K : Act -> World -> Prop} {Q : Exit -> Act -> World -> Prop}
  (h : Calls P f (xs.map a.eval) w fun | .returned v, w'' => K (a.put d v) w'' | .panicked ch, w'' => Q (.panic ch) a w'' | .outgrown, _ => LetsOut Q) :
  Oper.wp P ⟨d, .call { callee := .value y, args := xs, argTypes := ts }, ty, pos, aft, g⟩ a w K Q := by
 have hr : (execOp a.eval ⟨d, .call { callee := .value y, args := xs, argTypes := ts }, ty, pos, aft, g⟩).run P w = .ok (.enter f (xs.map a.eval)) w := by
  simp only [execOp, resolve, hy, Deferred.ofValue, Sem.run_bind, Sem.run_pure, Result.andThen_ok, invoke]
  have := TFn.call (P := P) (f := f) (xs.map a.eval) w
  simpa using this
 unfold Oper.wp
 rw [hr]
 exact h
theorem r_call {f : FuncId} [TFn P f] {y : Operand} {xs : Array Operand} {ts : Array TypeId} {args : List AV} {v : AV} (hy : ev fr y = .c (.p (.lit (.func (.func f) #[] #[])))) (hx : xs.toList.map (ev fr) = args) (h : ACalls P f args [] (fun r _ => r = .ret v)) (hp : args.all pureV = true) (hv : pureV v = true) (hg : xs.toList.all goodConst = true := by rfl) :
  RStep P σ fr ⟨d, .call { callee := .value y, args := xs, argTypes := ts }, ty, pos, aft, g⟩ v := by
 intro m F w a i hs K Q hK
 have hs' : ∀ x, x ∈ xs -> goodConst x = true -> RV m w F (ev fr x) (a.eval x) := fun x hx hc => ev_rv hc fun t e => by subst e; exact hs t (by simp [Op.operands, Call.operands, hx])
 have hf : a.eval y = .func (.func f) #[] #[] := by
  have := ev_rv (fr := fr) (m := m) (w := w) (F := F) (a := a) (good_of_lit hy) (fun t e => by subst e; exact hs t (by simp [Op.operands, Call.operands]))
  rw [hy] at this
  exact RP.eq_lit this
 obtain ⟨h1, h2⟩ := callArgs hx hs' hg
 refine wp_callFn hf ((h [] F w _ i.none h1 (fun j y hj => rv_pure (List.all_eq_true.1 hp y (List.mem_of_getElem? hj)) (h2 j y hj))).mono fun e w' he => ?_)
 obtain ⟨m', F', σ', r, rfl, hr, hi, hst⟩ := he
 cases e with
 | returned u => exact hK u F' w' (hst.grow hi) (rv_pure hv hr)
 | panicked ch => exact hr.elim
 | outgrown => exact hr.elim
end
end Go.AL
namespace Go.AL
open Go.RowKit
section
variable {P : Program} {N : NN} {Q : AE -> St -> Prop} {ops : Array Oper} {rest : List Oper} {σ σ' : List AObj} {fr : Fr}
variable {op : Op} {d : Nat} {ty : TypeId} {pos : String} {aft : Array Edge} {v : AV}
theorem al_w {o : Oper} (hg : o.guard = none) (hd : dstOk N o = true)
  (h : ∀ m F w (a : Act), Inv m F σ w -> (∀ x, goodConst x = true -> RV m w F (ev fr x) (a.eval x)) -> ∃ x m' F' w', ((execOp a.eval o).run P w = .ok (.value x) w' \/ ((execOp a.eval o).run P w = .ok .skip w' /\ x = undef)) /\ Inv m' F' σ' w' /\ Step m F σ w m' F' σ' w' /\ RV m' w' F' v x)
  (k : AList P N ops Q rest ⟨fr.put o.dst v, σ'⟩) : AList P N ops Q (o :: rest) ⟨fr, σ⟩ := by
 intro m F a w hr
 refine wpList_plain hg fun K hK => ?_
 obtain ⟨x, m', F', w', h1, h2, h3, h4⟩ := h m F w a hr.inv (fun x hx => ev_rv hx fun t _ => hr.fr t)
 have hr1 : Rel N m' F' ⟨fr, σ'⟩ a w' := ⟨h2, fun t => (hr.fr t).step hr.inv h3, hr.size, hr.defers⟩
 have hr' := hr1.put (dst_lt hd) h4
 have hk := hK _ _ (wpList_post_mono (fun e a1 w1 hp => hp.trans hr.inv h2 h3) _ _ _ (k m' F' _ w' hr'))
 unfold Oper.wp
 rcases h1 with h1 | ⟨h1, rfl⟩
 ·rw [h1]; exact hk
 ·rw [h1]; exact hk
theorem FP_append {m : List Loc} {o : AObj} {l : Loc} {b k : Nat} (hl : m.length = σ.length) : FP (σ ++ [o]) (m ++ [l]) b k ↔ FP σ m b k \/ fp o l b k := by
 constructor
 ·rintro ⟨i, o', l', h1, h2, h3⟩
  rcases Nat.lt_or_ge i σ.length with hi | hi
  ·rw [List.getElem?_append_left hi] at h1
   rw [List.getElem?_append_left (by omega)] at h2
   exact .inl ⟨i, o', l', h1, h2, h3⟩
  ·rw [List.getElem?_append_right hi] at h1
   rw [List.getElem?_append_right (by omega)] at h2
   have h0 : i - σ.length = 0 := by
    have := (List.getElem?_eq_some_iff.1 h1).1
    simp at this; omega
   rw [h0] at h1
   rw [show i - m.length = 0 by omega] at h2
   simp at h1 h2
   subst h1; subst h2
   exact .inr h3
 ·rintro (⟨i, o', l', h1, h2, h3⟩ | h)
  ·exact ⟨i, o', l', by rw [List.getElem?_append_left (List.getElem?_eq_some_iff.1 h1).1]; exact h1, getElem?_ext h2, h3⟩
  ·exact ⟨σ.length, o, l, by simp, by rw [<- hl]; simp, h⟩
theorem inv_new {m : List Loc} {F : Nat -> Nat -> Prop} {w w' : World} {o : AObj} {l : Loc} (i : Inv m F σ w) (g : Grow F w F w') (ho : ObjAt (m ++ [l]) w' F o l) (hf : ∀ b k, fp o l b k -> w.heap.size <= b /\ b < w'.heap.size) :
  Inv (m ++ [l]) F (σ ++ [o]) w' /\ Step m F σ w (m ++ [l]) F (σ ++ [o]) w' := by
 have i' := i.grow g
 have hc : ∀ b k, F b k -> w'.cell? ⟨b, k, none⟩ = w'.cell? ⟨b, k, none⟩ := fun _ _ _ => rfl
 refine ⟨⟨by simp [i.len], i'.frz, fun b k h => ?_, ?_, ?_, ?_⟩, ⟨⟨[l], rfl⟩, fun _ _ h => h, g.os, g.tape, g.output, g.size, fun b hb _ => g.blk b hb, fun b k hb _ => ⟨cell_of_heap (g.blk b hb), frozen_of_heap (g.blk b hb)⟩, fun b k h => ?_⟩⟩
 ·rcases (FP_append i.len).1 h with h | h
  ·exact i'.lt b k h
  ·exact (hf b k h).2
 ·intro j oj lj h1 h2
  rcases Nat.lt_or_ge j σ.length with hj | hj
  ·rw [List.getElem?_append_left hj] at h1
   rw [List.getElem?_append_left (by rw [i.len]; exact hj)] at h2
   exact ObjAt.mono (i'.obj j oj lj h1 h2) (fun _ _ h => h) hc (fun _ _ _ => ⟨rfl, rfl⟩) (fun _ _ _ _ => rfl)
  ·rw [List.getElem?_append_right hj] at h1
   rw [List.getElem?_append_right (by rw [i.len]; exact hj)] at h2
   have h0 : j - σ.length = 0 := by
    have := (List.getElem?_eq_some_iff.1 h1).1
    simp at this; omega
   rw [h0] at h1
   rw [show j - m.length = 0 by rw [i.len]; exact h0] at h2
   simp at h1 h2
   subst h1; subst h2
   exact ho
 ·intro j k oj lj ok lk hne h1 h2 h3 h4 b q hf1 hf2
  have key : ∀ (j : Nat) oj lj, (σ ++ [o])[j]? = some oj -> (m ++ [l])[j]? = some lj -> (σ[j]? = some oj /\ m[j]? = some lj) \/ (j = σ.length /\ oj = o /\ lj = l) := by
   intro j oj lj h1 h2
   rcases Nat.lt_or_ge j σ.length with hj | hj
   ·rw [List.getElem?_append_left hj] at h1
    rw [List.getElem?_append_left (by rw [i.len]; exact hj)] at h2
    exact .inl ⟨h1, h2⟩
   ·rw [List.getElem?_append_right hj] at h1
    rw [List.getElem?_append_right (by rw [i.len]; exact hj)] at h2
    have h0 : j - σ.length = 0 := by
     have := (List.getElem?_eq_some_iff.1 h1).1
     simp at this; omega
    rw [h0] at h1
    rw [show j - m.length = 0 by rw [i.len]; exact h0] at h2
    simp at h1 h2
    exact .inr ⟨by omega, h1.symm, h2.symm⟩
  rcases key j oj lj h1 h2 with ⟨a1, a2⟩ | ⟨a1, rfl, rfl⟩ <;> rcases key k ok lk h3 h4 with ⟨b1, b2⟩ | ⟨b1, rfl, rfl⟩
  ·exact i.sep j k oj lj ok lk hne a1 a2 b1 b2 b q hf1 hf2
  ·have := i.lt b q ⟨j, oj, lj, a1, a2, hf1⟩
   have := (hf b q hf2).1
   omega
  ·have := i.lt b q ⟨k, ok, lk, b1, b2, hf2⟩
   have := (hf b q hf1).1
   omega
  ·omega
 ·intro b k h hF
  rcases (FP_append i.len).1 h with h | h
  ·exact i'.dis b k h hF
  ·have := (hf b k h).1; have := i.frz b k hF; omega
 ·rcases h with h | h
  ·rcases (FP_append i.len).1 h with h | h
   ·exact .inl h
   ·exact .inr (.inr (hf b k h).1)
  ·exact .inr (.inl h)
theorem grow_alloc (F : Nat -> Nat -> Prop) (w : World) (o : Obj) : Grow F w F (w.alloc o) :=
 ⟨fun _ _ h => h, rfl, rfl, rfl, by simp, fun b hb => Below.heap_alloc w o b hb, fun _ _ h => .inl h, fun _ _ h => .inr h⟩
theorem cells_new {m : List Loc} {F : Nat -> Nat -> Prop} {w : World} (i : Inv m F σ w) {cs : Array Value} {t : TypeId} {l : List C} (hs : cs.size = l.length) (hr : ∀ j c, l[j]? = some c -> RC m w F c (cs.getD j undef)) :
  Inv (m ++ [.at w.heap.size 0]) F (σ ++ [.cells l]) (w.alloc (.cells cs t)) /\ Step m F σ w (m ++ [.at w.heap.size 0]) F (σ ++ [.cells l]) (w.alloc (.cells cs t)) := by
 refine inv_new i (grow_alloc F w _) ?_ ?_
 ·intro j c hj
  have hlt : j < cs.size := by rw [hs]; exact (List.getElem?_eq_some_iff.1 hj).1
  have e : cs.getD j undef = cs[j] := by simp [Array.getD_eq_getD_getElem?, Array.getElem?_eq_getElem hlt]
  refine ⟨⟨cs[j], by simp [Array.getElem?_eq_getElem hlt], ?_⟩, by simp⟩
  have := hr j c hj
  rw [e] at this
  exact RC.mono (fun _ _ h => h) (fun b k hb => World.cell?_alloc_lt w _ _ (i.frz b k hb)) this
 ·rintro b k ⟨rfl, _, _⟩
  simp
theorem w_alloc {t : TypeId} {agg : Bool} {sz : Nat} {z : Value} [TV P t agg sz] [TZ P t z] (hd : Nat.blt d N = true) (k : AList P N ops Q rest ⟨(d, .c (.ptr σ.length 0)) :: fr, σ ++ [.cells (zC z)]⟩) :
  AList P N ops Q (⟨some d, .alloc t, ty, pos, aft, none⟩ :: rest) ⟨fr, σ⟩ := by
 refine al_w (v := AV.c (.ptr σ.length 0)) (σ' := σ ++ [AObj.cells (zC z)]) rfl hd (fun m F w a i hs => ?_) k
 obtain ⟨z1, z2⟩ := zC_rc (m := m) (w := w) (F := F) (TZ.one (P := P) (t := t) (z := z))
 obtain ⟨h1, h2⟩ := cells_new i (cs := z.cells) (t := t) z1 z2
 refine ⟨.pointer (some ⟨w.heap.size, 0, none⟩), _, _, _, .inl ?_, h1, h2, ⟨w.heap.size, 0, by rw [<- i.len]; simp, rfl⟩⟩
 simp [execOp, Instr.alloc, TZ.run (P := P) (t := t) (z := z) inferInstance, newVar, newRow]
theorem w_box {t : TypeId} {x : Operand} {y : AV} {l : List C} (hx : ev fr x = y) (hl : y.cells = l) (hn : l ≠ []) (hsure : sureV y = true) (hd : Nat.blt d N = true) (k : AList P N ops Q rest ⟨(d, .c (.ptr σ.length 0)) :: fr, σ ++ [.cells l]⟩) (hgc : goodConst x = true := by rfl) :
  AList P N ops Q (⟨some d, .box t x, ty, pos, aft, none⟩ :: rest) ⟨fr, σ⟩ := by
 subst hl
 refine al_w (v := AV.c (.ptr σ.length 0)) (σ' := σ ++ [AObj.cells y.cells]) rfl hd (fun m F w a i hs => ?_) k
 have h := hs x hgc
 rw [hx] at h
 obtain ⟨e1, e2⟩ := rv_cells h (List.length_pos_iff.2 hn) (rv_one hsure h)
 obtain ⟨h1, h2⟩ := cells_new i (cs := (a.eval x).cells) (t := t) e1 e2
 refine ⟨.pointer (some ⟨w.heap.size, 0, none⟩), _, _, _, .inl ?_, h1, h2, ⟨w.heap.size, 0, by rw [<- i.len]; simp, rfl⟩⟩
 simp [execOp, Instr.box, newVar, newRow]
theorem heap_setCells (b : Nat) : ∀ (vs : List Value) (o : Nat) (w : World), (w.setCells b o vs).heap.size = w.heap.size /\ (∀ k, k ≠ b -> (w.setCells b o vs).heap[k]? = w.heap[k]?) /\ (w.setCells b o vs).os = w.os /\ (w.setCells b o vs).tape = w.tape /\ (w.setCells b o vs).output = w.output
 | [], _, w => ⟨rfl, fun _ _ => rfl, rfl, rfl, rfl⟩
 | v :: r, o, w => by
  obtain ⟨h1, h2, h3, h4, h5⟩ := heap_setCells b r (o + 1) (w.setCell ⟨b, o, none⟩ v)
  exact ⟨by rw [World.setCells, h1]; simp, fun k hk => by rw [World.setCells, h2 k hk, Below.heap_setCell _ _ _ _ hk], h3, h4, h5⟩
theorem inv_set {m : List Loc} {F : Nat -> Nat -> Prop} {w w' : World} (i : Inv m F σ w) {id : Nat} {o o' : AObj} {l : Loc} (ho : σ[id]? = some o) (hm : m[id]? = some l) (hfp : ∀ b k, fp o' l b k ↔ fp o l b k)
  (hsz : w'.heap.size = w.heap.size) (hst : w'.os = w.os /\ w'.tape = w.tape /\ w'.output = w.output) (hblk : ∀ b, (∀ k, ¬ fp o l b k) -> w'.heap[b]? = w.heap[b]?) (hcel : ∀ b k, ¬ fp o l b k -> w'.cell? ⟨b, k, none⟩ = w.cell? ⟨b, k, none⟩ /\ w'.frozen? ⟨b, k, none⟩ = w.frozen? ⟨b, k, none⟩)
  (hob : (∀ c u, RC m w F c u -> RC m w' F c u) -> (∀ x u, RP w F x u -> RP w' F x u) -> ObjAt m w' F o' l) : Inv m F (σ.set id o') w' /\ Step m F σ w m F (σ.set id o') w' := by
 have hF : ∀ b k, F b k -> w'.cell? ⟨b, k, none⟩ = w.cell? ⟨b, k, none⟩ := fun b k hb => (hcel b k fun hf => i.dis b k ⟨id, o, l, ho, hm, hf⟩ hb).1
 have hRC : ∀ c u, RC m w F c u -> RC m w' F c u := fun c u h => by
  have := RC.mono (k := []) (fun _ _ h => h) hF h
  simpa using this
 have hRP : ∀ x u, RP w F x u -> RP w' F x u := fun x u h => RP.mono (fun _ _ h => h) hF h
 have hid : id < σ.length := (List.getElem?_eq_some_iff.1 ho).1
 have hget : ∀ (j : Nat) oj, (σ.set id o')[j]? = some oj -> (j = id /\ oj = o') \/ (j ≠ id /\ σ[j]? = some oj) := by
  intro j oj h
  by_cases hj : j = id
  ·subst hj
   rw [List.getElem?_set_self hid] at h
   exact .inl ⟨rfl, by simpa using h.symm⟩
  ·rw [List.getElem?_set_ne (fun e => hj e.symm)] at h
   exact .inr ⟨hj, h⟩
 have hFP : ∀ b k, FP (σ.set id o') m b k ↔ FP σ m b k := by
  intro b k
  constructor
  ·rintro ⟨j, oj, lj, h1, h2, h3⟩
   rcases hget j oj h1 with ⟨rfl, rfl⟩ | ⟨hj, h1⟩
   ·rw [hm] at h2; injection h2 with h2; subst h2
    exact ⟨_, o, _, ho, hm, (hfp b k).1 h3⟩
   ·exact ⟨j, oj, lj, h1, h2, h3⟩
  ·rintro ⟨j, oj, lj, h1, h2, h3⟩
   by_cases hj : j = id
   ·subst hj
    rw [ho] at h1; injection h1 with h1; subst h1
    rw [hm] at h2; injection h2 with h2; subst h2
    exact ⟨j, o', l, by rw [List.getElem?_set_self hid], hm, (hfp b k).2 h3⟩
   ·exact ⟨j, oj, lj, by rw [List.getElem?_set_ne (fun e => hj e.symm)]; exact h1, h2, h3⟩
 refine ⟨⟨by simp [i.len], fun b k h => by rw [hsz]; exact i.frz b k h, fun b k h => by rw [hsz]; exact i.lt b k ((hFP b k).1 h), ?_, ?_, fun b k h => i.dis b k ((hFP b k).1 h)⟩,
  ⟨⟨[], by simp⟩, fun _ _ h => h, hst.1, hst.2.1, hst.2.2, by rw [hsz]; exact Nat.le_refl _, fun b hb hn => hblk b fun k hf => hn k ⟨id, o, l, ho, hm, hf⟩, fun b k hb hn => hcel b k fun hf => hn ⟨id, o, l, ho, hm, hf⟩, fun b k h => h.elim (fun h => .inl ((hFP b k).1 h)) (fun h => .inr (.inl h))⟩⟩
 ·intro j oj lj h1 h2
  rcases hget j oj h1 with ⟨rfl, rfl⟩ | ⟨hj, h1⟩
  ·rw [hm] at h2; injection h2 with h2; subst h2
   exact hob hRC hRP
  ·have hF : ∀ b k, F b k -> w'.cell? ⟨b, k, none⟩ = w.cell? ⟨b, k, none⟩ := fun b k hb => (hcel b k fun hf => i.dis b k ⟨id, o, l, ho, hm, hf⟩ hb).1
   have := ObjAt.mono (k := []) (i.obj j oj lj h1 h2) (fun _ _ h => h) hF (fun b k hf => hcel b k fun hg => i.sep j id _ _ _ _ hj h1 h2 ho hm b k hf hg)
    (fun b k hf hall => hblk b fun k' hg => (hall k').elim (fun h => i.sep j id _ _ _ _ hj h1 h2 ho hm b k' h hg) (fun h => i.dis b k' ⟨id, o, l, ho, hm, hg⟩ h))
   simpa using this
 ·intro j k oj lj ok lk hne h1 h2 h3 h4 b q hf1 hf2
  have key : ∀ (j : Nat) oj lj, (σ.set id o')[j]? = some oj -> m[j]? = some lj -> ∀ b q, fp oj lj b q -> ∃ oj', σ[j]? = some oj' /\ fp oj' lj b q := by
   intro j oj lj h1 h2 b q hf
   rcases hget j oj h1 with ⟨rfl, rfl⟩ | ⟨hj, h1⟩
   ·rw [hm] at h2; injection h2 with h2; subst h2
    exact ⟨o, ho, (hfp b q).1 hf⟩
   ·exact ⟨oj, h1, hf⟩
  obtain ⟨o1, a1, a2⟩ := key j oj lj h1 h2 b q hf1
  obtain ⟨o2, b1, b2⟩ := key k ok lk h3 h4 b q hf2
  exact i.sep j k o1 lj o2 lk hne a1 h2 b1 h4 b q a2 b2
theorem storeVar_run {t : TypeId} {agg : Bool} {sz : Nat} [TV P t agg sz] {w : World} {b o : Nat} {u : Value} (hs : u.cells.size = sz) (hc : ∀ j, j < sz -> (w.cell? ⟨b, o + j, none⟩).isSome = true) (hf : ∀ j, j < sz -> w.frozen? ⟨b, o + j, none⟩ = false) (h1 : ∀ c ∈ u.cells, c.oneCell' = true) :
  (storeVar t ⟨b, o, none⟩ u).run P w = .ok () (w.setCells b o u.cells.toList) := by
 have ht := TV.run (P := P) (t := t) (agg := agg) (sz := sz) inferInstance w
 have := run_storeCells_cells (P := P) b o u.cells.toList 0 w (fun j hj => hc j (by simp at hj; omega)) (fun j hj => hf j (by simp at hj; omega)) (by simpa using h1)
 simp only [storeVar, Sem.run_bind, ht.2, Result.andThen_ok]
 rw [if_neg (by omega)]
 simpa using this
theorem rv_cells_one {m : List Loc} {w : World} {F : Nat -> Nat -> Prop} {y : AV} {u : Value} (hs : sureV y = true) (h : RV m w F y u) : ∀ c ∈ u.cells, c.oneCell' = true := by
 cases y with
 | tup l => cases hs
 | c x =>
  have h1 := rc_one hs h
  have : u.cells = #[u] := by cases u <;> first | rfl | (simp [Value.oneCell'] at h1)
  rw [this]
  intro c hc
  simp at hc
  rw [hc]; exact h1
 | agg l =>
  obtain ⟨cs, rfl, hsz, hr⟩ := rv_agg h
  intro c hc
  obtain ⟨j, hj, rfl⟩ := Array.mem_iff_getElem.1 hc
  have hj' : j < l.length := by rw [<- hsz]; exact hj
  have h3 := hr j l[j] (List.getElem?_eq_getElem hj')
  have e : cs.getD j undef = (Value.agg cs).cells[j]'hj := by
   have hj2 : j < cs.size := hj
   have : cs.getD j undef = cs[j] := by simp [Array.getD_eq_getD_getElem?, Array.getElem?_eq_getElem hj2]
   exact this
  rw [e] at h3
  exact rc_one (List.all_eq_true.1 hs _ (List.getElem_mem hj')) h3
theorem w_store {t : TypeId} {agg : Bool} {sz : Nat} {x z : Operand} {y : AV} {id off : Nat} {l l' : List C} [TV P t agg sz] (hx : ev fr x = .c (.ptr id off)) (hy : ev fr z = y) (ho : σ[id]? = some (.cells l)) (hsure : sureV y = true) (hn : y.cells.length = sz) (hle : off + sz <= l.length) (hl : lay l off y.cells = l') (hσ : σ.set id (.cells l') = σ') (k : AList P N ops Q rest ⟨fr, σ'⟩) (hgc : goodConst z = true := by rfl) :
  AList P N ops Q (⟨none, .store t x z, ty, pos, aft, none⟩ :: rest) ⟨fr, σ⟩ := by
 subst hσ
 subst hl
 refine al_w (v := .c .any) (σ' := σ.set id (.cells (lay l off y.cells))) rfl rfl (fun m F w a i hs => ?_) k
 have h := hs z hgc
 rw [hy] at h
 have hp := hs x (good_of_nl hx (by simp))
 rw [hx] at hp
 obtain ⟨b, o', hm, hv⟩ := rv_ptr hp
 have hpos := TV.pos (P := P) (t := t) (agg := agg) (sz := sz)
 obtain ⟨e1, e2⟩ := rv_cells h (by omega) (rv_one hsure h)
 obtain ⟨us, hw, hr⟩ := obj_cells i ho hm
 have hrun := storeVar_run (P := P) (t := t) (agg := agg) (sz := sz) (w := w) (b := b) (o := o' + off) (u := a.eval z) (by omega)
  (fun j hj => by rw [Nat.add_assoc, (hw (off + j) (by omega)).1]; rfl) (fun j hj => by rw [Nat.add_assoc]; exact (hw (off + j) (by omega)).2) (rv_cells_one hsure h)
 obtain ⟨s1, s2, s3, s4, s5⟩ := heap_setCells b (a.eval z).cells.toList (o' + off) w
 have hout : ∀ b' k', ¬ (b' = b /\ o' + off <= k' /\ k' < o' + off + sz) -> (w.setCells b (o' + off) (a.eval z).cells.toList).cell? ⟨b', k', none⟩ = w.cell? ⟨b', k', none⟩ := by
  intro b' k' hn'
  refine World.cell?_setCells_out b _ _ _ _ (fun hb _ => ?_)
  have hb : b' = b := hb
  show k' < o' + off \/ o' + off + _ <= k'
  simp only [Array.length_toList]
  omega
 have hin : ∀ j (hj : j < sz), (w.setCells b (o' + off) (a.eval z).cells.toList).cell? ⟨b, o' + off + j, none⟩ = some ((a.eval z).cells.toList[j]'(by simp; omega)) := fun j hj =>
  World.cell?_setCells_in b _ _ _ (fun j hj => by simp only [Array.length_toList] at hj; rw [Nat.add_assoc, (hw (off + j) (by omega)).1]; rfl) j (by simp; omega)
 obtain ⟨h1, h2⟩ := inv_set (w' := w.setCells b (o' + off) (a.eval z).cells.toList) i ho hm (o' := .cells (lay l off y.cells)) (fun b' k' => by simp only [fp, lay_length l y.cells off (by omega)]) s1 ⟨s3, s4, s5⟩
  (fun b' hb => by
   by_cases he : b' = b
   ·subst he
    exact absurd ⟨rfl, Nat.le_refl _, by omega⟩ (hb o')
   ·exact s2 b' he)
  (fun b' k' hf => ⟨hout b' k' (fun ⟨h1, h2, h3⟩ => hf ⟨h1, by omega, by omega⟩), World.frozen?_setCells b _ _ _ _⟩)
  (fun hRC _ j c hj => by
   rw [lay_get _ _ _ _ (by omega)] at hj
   refine ⟨?_, ?_⟩
   ·split at hj
    ·rename_i hjn
     have hj' : j - off < sz := by omega
     have h5 := e2 _ _ hj
     have e : (a.eval z).cells.getD (j - off) undef = (a.eval z).cells.toList[j - off]'(by simp; omega) := by
      simp [Array.getD_eq_getD_getElem?, Array.getElem?_eq_getElem (show j - off < (a.eval z).cells.size by omega)]
     rw [e] at h5
     refine ⟨_, ?_, hRC _ _ h5⟩
     have := hin (j - off) hj'
     rwa [show o' + off + (j - off) = o' + j by omega] at this
    ·rename_i hjn
     have hlt := (List.getElem?_eq_some_iff.1 hj).1
     refine ⟨us j, ?_, hRC _ _ (hr j c hj)⟩
     rw [hout b (o' + j) (fun ⟨_, h2, h3⟩ => hjn (by omega))]
     exact (hw j hlt).1
   ·rw [World.frozen?_setCells]
    have hlt : j < l.length := by
     split at hj
     ·omega
     ·exact (List.getElem?_eq_some_iff.1 hj).1
    exact (hw j hlt).2)
 refine ⟨undef, m, F, _, .inr ⟨?_, rfl⟩, h1, h2, trivial⟩
 simp only [execOp, hv, Instr.storeAt, Instr.sureAddr, Sem.run_bind, Sem.run_pure, Result.andThen_ok, hrun]
end
end Go.AL
namespace Go.AL
open Go.RowKit
section
variable {P : Program} {N : NN} {Q : AE -> St -> Prop} {ops : Array Oper} {rest : List Oper} {σ σ' : List AObj} {fr : Fr}
variable {op : Op} {d : Nat} {ty : TypeId} {pos : String} {aft : Array Edge} {v : AV}
theorem alist_of {s s' : St} {l : List Oper} (h : ∀ m F a w, Rel N m F s a w -> ∃ m' F', Rel N m' F' s' a w /\ Step m F s.σ w m' F' s'.σ w) (k : AList P N ops Q l s') : AList P N ops Q l s := by
 intro m F a w hr
 obtain ⟨m', F', hr', hs⟩ := h m F a w hr
 exact wpList_post_mono (fun e a1 w1 hp => hp.trans hr.inv hr'.inv hs) _ _ _ (k m' F' a w hr')
theorem awp_of {s s' : St} {c : Code} (h : ∀ m F a w, Rel N m F s a w -> ∃ m' F', Rel N m' F' s' a w /\ Step m F s.σ w m' F' s'.σ w) (k : AWp P N c Q s') : AWp P N c Q s := by
 intro m F a w hr
 obtain ⟨m', F', hr', hs⟩ := h m F a w hr
 exact wp_mono (k m' F' a w hr') fun e a1 w1 hp => hp.trans hr.inv hr'.inv hs
theorem rel_over {m : List Loc} {F : Nat -> Nat -> Prop} {a : Act} {w : World} {t : Nat} {x : AV} (h : Rel N m F ⟨fr, σ⟩ a w) (hx : RV m w F x (a.tmps.getD t undef)) : Rel N m F ⟨(t, x) :: fr, σ⟩ a w := by
 refine ⟨h.inv, fun q => ?_, h.size, h.defers⟩
 simp only [Fr.get]
 by_cases hq : t = q
 ·subst hq; rw [if_pos rfl]; exact hx
 ·rw [if_neg hq]; exact h.fr q
theorem rel_nil {t : Nat} {e : TypeId} {sz : Nat} (h : fr.get t = .c (.p (.lit (.slice none 0 0)))) (m : List Loc) (F : Nat -> Nat -> Prop) (a : Act) (w : World) (hr : Rel N m F ⟨fr, σ⟩ a w) :
  ∃ m' F', Rel N m' F' ⟨(t, .c (.ms σ.length 0)) :: fr, σ ++ [.arr e sz []]⟩ a w /\ Step m F σ w m' F' (σ ++ [.arr e sz []]) w := by
 obtain ⟨h1, h2⟩ := inv_new (o := AObj.arr e sz []) (l := .row none 0) hr.inv (Grow.refl F w) ⟨[], ⟨by simp, .inl ⟨rfl, rfl⟩⟩, by simp, fun i e h => by simp at h⟩ (fun b k hf => by simp [fp] at hf)
 refine ⟨_, _, rel_over ⟨h1, fun t => (hr.fr t).step hr.inv h2, hr.size, hr.defers⟩ ?_, h2⟩
 have := hr.fr t
 rw [h] at this
 exact ⟨none, 0, by rw [<- hr.inv.len]; simp, Nat.le_refl _, rv_lit this⟩
theorem gw_nil {c : Code} (t : Nat) (e : TypeId) (sz : Nat) (h : fr.get t = .c (.p (.lit (.slice none 0 0)))) (k : AWp P N c Q ⟨(t, .c (.ms σ.length 0)) :: fr, σ ++ [.arr e sz []]⟩) : AWp P N c Q ⟨fr, σ⟩ := awp_of (rel_nil h) k
theorem rel_freeze {t id n : Nat} {e : TypeId} {sz : Nat} {l : List (List PV)} (h : fr.get t = .c (.ms id n)) (ho : σ[id]? = some (.arr e sz l)) (hn : n <= l.length) (m : List Loc) (F : Nat -> Nat -> Prop) (a : Act) (w : World) (hr : Rel N m F ⟨fr, σ⟩ a w) :
  ∃ m' F', Rel N m' F' ⟨(t, .c (.p (.sl sz (l.take n)))) :: fr, σ.set id .dead⟩ a w /\ Step m F σ w m' F' (σ.set id .dead) w := by
 have hx := hr.fr t
 rw [h] at hx
 obtain ⟨A, cap, hm, hcap, hv⟩ := rv_ms hx
 have i := hr.inv
 have hid : id < σ.length := (List.getElem?_eq_some_iff.1 ho).1
 let F' : Nat -> Nat -> Prop := fun b k => F b k \/ A = some b
 have hget : ∀ (j : Nat) oj, (σ.set id .dead)[j]? = some oj -> (j = id /\ oj = .dead) \/ (j ≠ id /\ σ[j]? = some oj) := by
  intro j oj h
  by_cases hj : j = id
  ·subst hj
   rw [List.getElem?_set_self hid] at h
   exact .inl ⟨rfl, by simpa using h.symm⟩
  ·rw [List.getElem?_set_ne (fun e => hj e.symm)] at h
   exact .inr ⟨hj, h⟩
 have hFP : ∀ b k, FP (σ.set id .dead) m b k -> ∃ (j : Nat) (oj : AObj) (lj : Loc), j ≠ id /\ σ[j]? = some oj /\ m[j]? = some lj /\ fp oj lj b k := by
  rintro b k ⟨j, oj, lj, h1, h2, h3⟩
  rcases hget j oj h1 with ⟨rfl, rfl⟩ | ⟨hj, h1⟩
  ·exact h3.elim
  ·exact ⟨j, oj, lj, hj, h1, h2, h3⟩
 have hmono : ∀ b k, F b k -> F' b k := fun b k h => .inl h
 have hsame : ∀ b k, F b k -> w.cell? ⟨b, k, none⟩ = w.cell? ⟨b, k, none⟩ := fun _ _ _ => rfl
 have i' : Inv m F' (σ.set id .dead) w := by
  refine ⟨by simp [i.len], fun b k hF => ?_, fun b k hf => ?_, fun j oj lj h1 h2 => ?_, fun j k oj lj ok lk hne h1 h2 h3 h4 b q hf1 hf2 => ?_, fun b k hf hF => ?_⟩
  ·rcases hF with hF | hF
   ·exact i.frz b k hF
   ·exact i.lt b 0 ⟨id, _, _, ho, hm, hF⟩
  ·obtain ⟨j, oj, lj, _, h1, h2, h3⟩ := hFP b k hf
   exact i.lt b k ⟨j, oj, lj, h1, h2, h3⟩
  ·rcases hget j oj h1 with ⟨rfl, rfl⟩ | ⟨hj, h1⟩
   ·cases lj <;> trivial
   ·have := ObjAt.mono (k := []) (i.obj j oj lj h1 h2) hmono hsame (fun _ _ _ => ⟨rfl, rfl⟩) (fun _ _ _ _ => rfl)
    simpa using this
  ·rcases hget j oj h1 with ⟨rfl, rfl⟩ | ⟨hj, h1⟩
   ·exact hf1.elim
   ·rcases hget k ok h3 with ⟨rfl, rfl⟩ | ⟨hk, h3⟩
    ·exact hf2.elim
    ·exact i.sep j k oj lj ok lk hne h1 h2 h3 h4 b q hf1 hf2
  ·obtain ⟨j, oj, lj, hj, h1, h2, h3⟩ := hFP b k hf
   rcases hF with hF | hF
   ·exact i.dis b k ⟨j, oj, lj, h1, h2, h3⟩ hF
   ·exact i.sep j id _ _ _ _ hj h1 h2 ho hm b k h3 hF
 have st : Step m F σ w m F' (σ.set id .dead) w := by
  refine ⟨⟨[], by simp⟩, hmono, rfl, rfl, rfl, Nat.le_refl _, fun _ _ _ => rfl, fun _ _ _ _ => ⟨rfl, rfl⟩, fun b k hf => ?_⟩
  rcases hf with hf | hf | hf
  ·obtain ⟨j, oj, lj, _, h1, h2, h3⟩ := hFP b k hf
   exact .inl ⟨j, oj, lj, h1, h2, h3⟩
  ·exact .inr (.inl hf)
  ·exact .inl ⟨id, _, _, ho, hm, hf⟩
 refine ⟨m, F', rel_over ⟨i', fun t => (hr.fr t).step i st, hr.size, hr.defers⟩ ?_, st⟩
 rw [hv]
 show RP w F' (.sl sz (l.take n)) _
 cases A with
 | none =>
  obtain ⟨xs, e1, _⟩ := i.obj id _ _ ho hm
  have h0 : l.length = 0 := by
   rcases e1.2 with ⟨_, h5⟩ | ⟨_, _, _, h4, _⟩
   ·exact h5
   ·simp [rowV] at h4
  have : l.take n = [] := by
   have : l = [] := List.eq_nil_of_length_eq_zero h0
   subst this; simp
  rw [this, show n = 0 by omega]
  exact .sl0 ..
 | some b =>
  obtain ⟨us, hw, hs, hu⟩ := arr_cells i ho hm
  have hle : n * sz <= l.length * sz := Nat.mul_le_mul_right _ hn
  have hlen : (l.take n).length = n := by simp; omega
  have key := RP.sl (w := w) (F := F') (b := b) (o := 0) (cap := cap) (sz := sz) (l := l.take n) us (by omega) (fun e he => hs e (List.mem_of_mem_take he)) (fun j _ => .inr rfl)
   (fun j hj => by rw [hlen] at hj; rw [Nat.zero_add]; exact (hw j (by omega)).1) (fun i' e he j x hx => by
    rw [List.getElem?_take] at he
    split at he
    ·exact RP.mono hmono hsame (hu i' e he j x hx)
    ·cases he)
  rw [hlen] at key
  exact key
theorem gl_freeze {l : List Oper} {e : TypeId} {sz n : Nat} {xs ys : List (List PV)} (t id : Nat) (h : fr.get t = .c (.ms id n)) (ho : σ[id]? = some (.arr e sz xs)) (hn : n <= xs.length) (hy : xs.take n = ys) (hσ : σ.set id .dead = σ') (k : AList P N ops Q l ⟨(t, .c (.p (.sl sz ys))) :: fr, σ'⟩) : AList P N ops Q l ⟨fr, σ⟩ := by
 subst hy; subst hσ
 exact alist_of (rel_freeze h ho hn) k
theorem gw_freeze {c : Code} {e : TypeId} {sz n : Nat} {xs ys : List (List PV)} (t id : Nat) (h : fr.get t = .c (.ms id n)) (ho : σ[id]? = some (.arr e sz xs)) (hn : n <= xs.length) (hy : xs.take n = ys) (hσ : σ.set id .dead = σ') (k : AWp P N c Q ⟨(t, .c (.p (.sl sz ys))) :: fr, σ'⟩) : AWp P N c Q ⟨fr, σ⟩ := by
 subst hy; subst hσ
 exact awp_of (rel_freeze h ho hn) k
theorem inv_move {m : List Loc} {F : Nat -> Nat -> Prop} {w w' : World} (i : Inv m F σ w) {id : Nat} {o o2 : AObj} {l l2 : Loc} (ho : σ[id]? = some o) (hm : m[id]? = some l)
  (hsz : w.heap.size <= w'.heap.size) (hst : w'.os = w.os /\ w'.tape = w.tape /\ w'.output = w.output) (hall : ∀ b k k', fp o l b k -> fp o l b k')
  (hblk : ∀ b, b < w.heap.size -> (∀ k, ¬ fp o l b k) -> w'.heap[b]? = w.heap[b]?) (hf2 : ∀ b k, fp o2 l2 b k -> fp o l b k \/ (w.heap.size <= b /\ b < w'.heap.size))
  (hob : (∀ x u, RP w F x u -> RP w' F x u) -> ObjAt (m ++ [l2]) w' F o2 l2) : Inv (m ++ [l2]) F (σ.set id .dead ++ [o2]) w' /\ Step m F σ w (m ++ [l2]) F (σ.set id .dead ++ [o2]) w' := by
 have hno : ∀ b k, ¬ fp o l b k -> ∀ k', ¬ fp o l b k' := fun b k h k' h' => h (hall b k' k h')
 have hF : ∀ b k, F b k -> w'.cell? ⟨b, k, none⟩ = w.cell? ⟨b, k, none⟩ := fun b k hb => cell_of_heap (hblk b (i.frz b k hb) (hno b k fun hf => i.dis b k ⟨id, o, l, ho, hm, hf⟩ hb))
 have hid : id < σ.length := (List.getElem?_eq_some_iff.1 ho).1
 have hget : ∀ (j : Nat) oj lj, (σ.set id .dead ++ [o2])[j]? = some oj -> (m ++ [l2])[j]? = some lj -> (j = id /\ oj = .dead) \/ (j ≠ id /\ j < σ.length /\ σ[j]? = some oj /\ m[j]? = some lj) \/ (j = σ.length /\ oj = o2 /\ lj = l2) := by
  intro j oj lj h1 h2
  rcases Nat.lt_or_ge j σ.length with hj | hj
  ·rw [List.getElem?_append_left (by simpa using hj)] at h1
   rw [List.getElem?_append_left (by rw [i.len]; exact hj)] at h2
   by_cases he : j = id
   ·subst he
    rw [List.getElem?_set_self hid] at h1
    exact .inl ⟨rfl, by simpa using h1.symm⟩
   ·rw [List.getElem?_set_ne (fun e => he e.symm)] at h1
    exact .inr (.inl ⟨he, hj, h1, h2⟩)
  ·rw [List.getElem?_append_right (by simpa using hj)] at h1
   rw [List.getElem?_append_right (by rw [i.len]; exact hj)] at h2
   simp only [List.length_set] at h1
   have h0 : j - σ.length = 0 := by
    have := (List.getElem?_eq_some_iff.1 h1).1
    simp at this; omega
   rw [h0] at h1
   rw [show j - m.length = 0 by rw [i.len]; exact h0] at h2
   simp at h1 h2
   exact .inr (.inr ⟨by omega, h1.symm, h2.symm⟩)
 have hFP : ∀ b k, FP (σ.set id .dead ++ [o2]) (m ++ [l2]) b k -> FP σ m b k \/ (w.heap.size <= b /\ b < w'.heap.size) := by
  rintro b k ⟨j, oj, lj, h1, h2, h3⟩
  rcases hget j oj lj h1 h2 with ⟨rfl, rfl⟩ | ⟨_, _, a1, a2⟩ | ⟨_, rfl, rfl⟩
  ·exact h3.elim
  ·exact .inl ⟨j, oj, lj, a1, a2, h3⟩
  ·rcases hf2 b k h3 with h | h
   ·exact .inl ⟨id, o, l, ho, hm, h⟩
   ·exact .inr h
 refine ⟨⟨by simp [i.len], fun b k h => Nat.lt_of_lt_of_le (i.frz b k h) hsz, fun b k h => ?_, ?_, ?_, fun b k h hb => ?_⟩,
  ⟨⟨[l2], rfl⟩, fun _ _ h => h, hst.1, hst.2.1, hst.2.2, hsz, fun b hb hn => hblk b hb fun k hf => hn k ⟨id, o, l, ho, hm, hf⟩, fun b k hb hn => ?_, fun b k h => ?_⟩⟩
 ·rcases hFP b k h with h | h
  ·exact Nat.lt_of_lt_of_le (i.lt b k h) hsz
  ·exact h.2
 ·intro j oj lj h1 h2
  rcases hget j oj lj h1 h2 with ⟨rfl, rfl⟩ | ⟨hj, _, a1, a2⟩ | ⟨_, rfl, rfl⟩
  ·cases lj <;> trivial
  ·have hh : ∀ b k, fp oj lj b k -> w'.heap[b]? = w.heap[b]? := fun b k hf => hblk b (i.lt b k ⟨j, _, _, a1, a2, hf⟩) (hno b k fun hg => i.sep j id _ _ _ _ hj a1 a2 ho hm b k hf hg)
   exact ObjAt.mono (i.obj j oj lj a1 a2) (fun _ _ h => h) hF (fun b k hf => ⟨cell_of_heap (hh b k hf), frozen_of_heap (hh b k hf)⟩) (fun b k hf _ => hh b k hf)
  ·exact hob fun x u h => RP.mono (fun _ _ h => h) hF h
 ·intro j k oj lj ok lk hne h1 h2 h3 h4 b q hf1 hg2
  have old : ∀ (j : Nat) oj lj, j ≠ id -> σ[j]? = some oj -> m[j]? = some lj -> fp oj lj b q -> ¬ fp o2 l2 b q := by
   intro j oj lj hj a1 a2 hfj h
   rcases hf2 b q h with h | h
   ·exact i.sep j id _ _ _ _ hj a1 a2 ho hm b q hfj h
   ·have := i.lt b q ⟨j, oj, lj, a1, a2, hfj⟩; omega
  rcases hget j oj lj h1 h2 with ⟨_, rfl⟩ | ⟨hj, _, a1, a2⟩ | ⟨hj, rfl, rfl⟩
  ·exact hf1.elim
  ·rcases hget k ok lk h3 h4 with ⟨_, rfl⟩ | ⟨hk, _, b1, b2⟩ | ⟨hk, rfl, rfl⟩
   ·exact hg2.elim
   ·exact i.sep j k oj lj ok lk hne a1 a2 b1 b2 b q hf1 hg2
   ·exact old j oj lj hj a1 a2 hf1 hg2
  ·rcases hget k ok lk h3 h4 with ⟨_, rfl⟩ | ⟨hk, _, b1, b2⟩ | ⟨hk, rfl, rfl⟩
   ·exact hg2.elim
   ·exact old k ok lk hk b1 b2 hg2 hf1
   ·omega
 ·rcases hFP b k h with h | h
  ·exact i.dis b k h hb
  ·have := i.frz b k hb; omega
 ·have hh := hblk b hb (hno b k fun hf => hn ⟨id, o, l, ho, hm, hf⟩)
  exact ⟨cell_of_heap hh, frozen_of_heap hh⟩
 ·rcases h with h | h
  ·rcases hFP b k h with h | h
   ·exact .inl h
   ·exact .inr (.inr h.1)
  ·exact .inr (.inl h)
theorem ownsRow_take {w : World} {e : TypeId} {sz n n' cap : Nat} {A : Option Nat} {xs : List Value} (h : w.ownsRow 0 e sz (rowV A n' cap) n' xs) (hn : n <= n') : w.ownsRow 0 e sz (rowV A n cap) n (xs.take (n * sz)) := by
 have hle : n * sz <= n' * sz := Nat.mul_le_mul_right _ hn
 refine ⟨by rw [List.length_take, h.1]; omega, ?_⟩
 rcases h.2 with ⟨h1, h2⟩ | ⟨g, c, cur, hv, h0, hg, h3, h4, h5, h6⟩
 ·left
  have : n = 0 := by omega
  subst this
  cases A with
  | none => simp [rowV] at h1 ⊢; exact h1.2
  | some b => simp [rowV] at h1
 ·right
  cases A with
  | none => simp [rowV] at hv
  | some b =>
   simp only [rowV, Option.map_some, Value.slice.injEq, Option.some.injEq, Addr.mk.injEq] at hv
   obtain ⟨⟨rfl, _⟩, _, rfl⟩ := hv
   refine ⟨b, cap, cur, rfl, h0, hg, by omega, h4, h5, ?_⟩
   rw [<- h6, List.take_take]
   congr 1; omega
theorem ownsRow_form {w : World} {e : TypeId} {sz n : Nat} {v : Value} {xs : List Value} (h : w.ownsRow 0 e sz v n xs) : ∃ A cap, v = rowV A n cap /\ n <= cap /\ v.ownBlock = A := by
 rcases h.2 with ⟨rfl, rfl⟩ | ⟨g, cap, cur, rfl, _, _, h1, _⟩
 ·exact ⟨none, 0, rfl, Nat.le_refl _, rfl⟩
 ·exact ⟨some g, cap, rfl, h1, rfl⟩
theorem run_append_nilsrc (w : World) (t ty e : TypeId) (i : TypeInfo) (size : Nat) (ht : P.underlying t = some (.slice e)) (hi : P.info? e = some i)
  (v : Value) (n : Nat) (xs : List Value) (hown : w.ownsRow 0 e size v n xs) (A : Option Addr) (c : Nat) : (Builtin.append_ #[t, t] ty #[v, .slice A 0 c]).run P w = .ok v w := by
 have hf : ∀ a : Addr, (Builtin.firstCells i.size 0 (.slice (some a) 0 c)).run P w = .ok #[] w := fun a => by
  simp only [Builtin.firstCells, Nat.zero_mul]
  have := run_loadCells_list (P := P) (w := w) a [] (by simp)
  simpa using this
 rcases hown.2 with ⟨rfl, rfl⟩ | ⟨g, cap, cur, rfl, _, _, hnc, _⟩
 ·cases A with
  | none => simp [Builtin.append_, run_underlying ht, sizeOf, typeInfo, hi, Builtin.lenOf, Builtin.firstCells]
  | some a => simp [Builtin.append_, run_underlying ht, sizeOf, typeInfo, hi, Builtin.lenOf, hf a]
 ·cases A with
  | none => simp [Builtin.append_, run_underlying ht, sizeOf, typeInfo, hi, Builtin.lenOf, Builtin.firstCells, hnc, storeCells]
  | some a => simp [Builtin.append_, run_underlying ht, sizeOf, typeInfo, hi, Builtin.lenOf, hf a, hnc, storeCells]
theorem w_append {t e : TypeId} {sz by' : Nat} {z : Value} {x y : Operand} {id n : Nat} {l ys new : List (List PV)} [TSl P t e sz by'] [TZ P e z] (hx : ev fr x = .c (.ms id n)) (ho : σ[id]? = some (.arr e sz l)) (hn : n <= l.length) (hy : ev fr y = .c (.p (.sl sz ys)))
  (hb : (n + ys.length) * by' <= 140737488355328) (hd : Nat.blt d N = true) (hzs : z.cells.size = sz) (hnew : l.take n ++ ys = new) (hσ : σ.set id .dead ++ [.arr e sz new] = σ') (k : AList P N ops Q rest ⟨(d, .c (.ms σ.length new.length)) :: fr, σ'⟩) :
  AList P N ops Q (⟨some d, .call { callee := .builtin .append, args := #[x, y], argTypes := #[t, t] }, ty, pos, aft, none⟩ :: rest) ⟨fr, σ⟩ := by
 subst hσ
 refine al_w (v := AV.c (C.ms σ.length new.length)) (σ' := σ.set id AObj.dead ++ [AObj.arr e sz new]) rfl hd (fun m F w a i hs => ?_) k
 have h1 := hs x (good_of_nl hx (by simp))
 have h2 := hs y (good_of_nl hy (by simp))
 rw [hx] at h1; rw [hy] at h2
 obtain ⟨A, cap, hm, hcap, hv⟩ := rv_ms h1
 obtain ⟨B, bc, hu, hbc, hys, hmem⟩ := rv_sl h2
 obtain ⟨xs, e1, e2, e3⟩ := i.obj id _ _ ho hm
 have e1' := ownsRow_take e1 hn
 obtain ⟨inf, hinf, hsize, hbytes⟩ := TSl.inf (P := P) (t := t) (e := e) (sz := sz) (bytes := by')
 have hpos := TSl.pos (P := P) (t := t) (e := e) (sz := sz) (bytes := by')
 have hund := TSl.und (P := P) (t := t) (e := e) (sz := sz) (bytes := by')
 obtain ⟨inf', hinf', hz⟩ := TZ.inf (P := P) (t := e) (z := z)
 rw [hinf] at hinf'; injection hinf' with hinf'; subst hinf'
 have hlen : n + ys.length <= 140737488355328 := Nat.le_trans (Nat.le_mul_of_pos_right _ hpos.2) hb
 have hmax : n + ys.length <= maxLen := by simp only [maxLen]; omega
 have hrun : ∃ v' w', (Builtin.append_ #[t, t] ty #[rowV A n cap, .slice B ys.length bc]).run P w = .ok v' w' /\ w.grownBy w' A /\ (v'.ownBlock = A \/ v'.ownBlock = some w.heap.size) /\ ∃ news : List Value, news.length = ys.length * sz /\ w'.ownsRow 0 e sz v' (n + ys.length) (xs.take (n * sz) ++ news) /\ ∀ i e, ys[i]? = some e -> ∀ j x, e[j]? = some x -> RP w F x (news.getD (i * sz + j) undef) := by
  have hob : (rowV A n cap).ownBlock = A := by cases A <;> rfl
  cases ys with
  | nil =>
   refine ⟨_, w, run_append_nilsrc w t ty e inf sz hund hinf _ n _ e1' B bc, ⟨rfl, rfl, rfl, Nat.le_refl _, fun _ _ _ => rfl⟩, .inl hob, [], by simp, by simpa using e1', fun i e h => by simp at h⟩
  | cons y0 ys0 =>
   obtain ⟨b, o, us, hB, hF, hw, hr⟩ := hmem (by simp)
   subst hB
   let news : List Value := (List.range ((y0 :: ys0).length * sz)).map us
   have hnl : news.length = (y0 :: ys0).length * sz := by simp [news]
   have hng : ∀ j, j < (y0 :: ys0).length * sz -> news[j]? = some (us j) := fun j hj => by simp only [news, List.getElem?_map]; rw [List.getElem?_range hj]; rfl
   obtain ⟨v', w', r1, r2, r3, _, r5⟩ := run_append_own_at (P := P) w 0 t ty e inf z sz by' hund hinf hz hsize hbytes hzs hpos.1 (rowV A n cap) n _ e1' ⟨b, o, none⟩ (y0 :: ys0).length bc news hnl
    (fun j u hj => by
     have hlt : j < (y0 :: ys0).length * sz := by rw [<- hnl]; exact (List.getElem?_eq_some_iff.1 hj).1
     rw [hng j hlt] at hj
     injection hj with hj
     rw [add_plain', hw j hlt, hj])
    (fun u hu => by
     obtain ⟨j, hj, rfl⟩ := List.mem_map.1 hu
     have hj := List.mem_range.1 hj
     obtain ⟨x, hx⟩ : ∃ x, (y0 :: ys0).flatten[j]? = some x := ⟨_, List.getElem?_eq_getElem (by rw [flatten_len _ hys]; exact hj)⟩
     obtain ⟨i', e', j', a1, a2, a3, _⟩ := flatten_from _ hys j x hx
     subst a3
     exact RP.one (hr i' e' a1 j' x a2)) hmax hb (Nat.zero_le _)
   rw [hob] at r3 r5
   refine ⟨v', w', r1, r3, r5, news, hnl, r2, fun i e he j x hx => ?_⟩
   have hlt := elt_lt hys he (j := j) (List.getElem?_eq_some_iff.1 hx).1
   rw [List.getD_eq_getElem?_getD, hng _ hlt]
   exact hr i e he j x hx
 obtain ⟨v', w', r1, r2, r3, news, r4, r5, r6⟩ := hrun
 obtain ⟨A', cap', hv', hcap', hob'⟩ := ownsRow_form r5
 subst hv'
 rw [hob'] at r3
 have hnl : new.length = n + ys.length := by rw [<- hnew]; simp; omega
 have hnsz : ∀ e ∈ new, e.length = sz := fun e he => by
  rw [<- hnew] at he
  rcases List.mem_append.1 he with he | he
  ·exact e2 e (List.mem_of_mem_take he)
  ·exact hys e he
 obtain ⟨g1, g2⟩ := inv_move (o2 := .arr e sz new) (l2 := .row A' cap') i ho hm r2.size ⟨r2.os, r2.tape, r2.output⟩ (fun b k k' h => h)
  (fun b hb hn => r2.block b hb (fun he => hn 0 he.symm))
  (fun b k hf => by
   have hf : A' = some b := hf
   rcases r3 with h | h
   ·exact .inl (show A = some b by rw [<- h]; exact hf)
   ·rw [hf] at h; injection h with h; subst h
    refine .inr ⟨Nat.le_refl _, ?_⟩
    exact (r5.lt w.heap.size (by rw [hob', hf])).2)
  (fun hRP => by
   refine ⟨_, by rw [hnl]; exact r5, hnsz, fun q el hq j x hx => ?_⟩
   have hxl : (xs.take (n * sz)).length = n * sz := by
    rw [List.length_take, e1.1]
    have : n * sz <= l.length * sz := Nat.mul_le_mul_right _ hn
    omega
   have hels : el.length = sz := hnsz el (List.mem_of_getElem? hq)
   have hjl : j < sz := by rw [<- hels]; exact (List.getElem?_eq_some_iff.1 hx).1
   rw [<- hnew] at hq
   rw [List.getD_eq_getElem?_getD]
   rcases Nat.lt_or_ge q n with hqn | hqn
   ·rw [List.getElem?_append_left (by simp; omega), List.getElem?_take, if_pos hqn] at hq
    have hlt : q * sz + j < n * sz := by
     have : q * sz + sz <= n * sz := by rw [<- Nat.succ_mul]; exact Nat.mul_le_mul_right _ hqn
     omega
    rw [List.getElem?_append_left (by omega), List.getElem?_take, if_pos hlt]
    have := hRP _ _ (e3 q el hq j x hx)
    rwa [List.getD_eq_getElem?_getD] at this
   ·have htl : (l.take n).length = n := by simp; omega
    rw [List.getElem?_append_right (by omega), htl] at hq
    have e0 : q * sz + j - n * sz = (q - n) * sz + j := by
     have : q * sz = (q - n) * sz + n * sz := by rw [<- Nat.add_mul]; congr 1; omega
     omega
    have hge : n * sz <= q * sz + j := by
     have : n * sz <= q * sz := Nat.mul_le_mul_right _ hqn
     omega
    rw [List.getElem?_append_right (by omega), hxl, e0]
    have := hRP _ _ (r6 _ el hq j x hx)
    rwa [List.getD_eq_getElem?_getD] at this)
 refine ⟨rowV A' (n + ys.length) cap', _, F, w', .inl ?_, g1, g2, A', cap', by rw [<- i.len]; simp, by omega, by rw [hnl]⟩
 simp only [execOp, resolve, invoke, builtin, Sem.run_bind, Sem.run_pure, Result.andThen_ok, List.map_toArray, List.map_cons, List.map_nil, hv, hu, r1]
end
end Go.AL
namespace Go.AL
open Go.RowKit
section
variable {P : Program} {N : NN} {Q : AE -> St -> Prop} {ops : Array Oper} {rest : List Oper} {σ σ' : List AObj} {fr : Fr}
variable {op : Op} {d : Nat} {ty : TypeId} {pos : String} {aft : Array Edge} {v : AV}
def zP (z : Value) : List PV := z.cells.toList.map .lit
theorem madeCells_get (z : Array Value) (n sz : Nat) (hz : z.size = sz) (hs : 0 < sz) (i j : Nat) (hj : j < sz) (hi : i < n) : (madeCells z (n * sz))[i * sz + j]? = z[j]? := by
 have hlt : i * sz + j < n * sz := by
  have : i * sz + sz <= n * sz := by rw [<- Nat.succ_mul]; exact Nat.mul_le_mul_right _ hi
  omega
 have hm : (i * sz + j) % z.size = j := by rw [hz, Nat.mul_comm, Nat.mul_add_mod, Nat.mod_eq_of_lt hj]
 have hzs : j < z.size := by omega
 simp only [madeCells, Array.getElem?_map]
 rw [Array.getElem?_range, if_pos hlt]
 simp only [Option.map_some, hm]
 rw [getElem!_pos z j hzs, Array.getElem?_eq_getElem hzs]
theorem w_make {t e : TypeId} {sz by' : Nat} {z : Value} {x y : Operand} {k1 k2 : IntKind} {n : Int} {l : List (List PV)} [TSl P t e sz by'] [TZ P e z] (hx : ev fr x = .c (.p (.lit (.int k1 n)))) (hy : ev fr y = .c (.p (.lit (.int k2 n)))) (h0 : 0 <= n) (hb : by' * n.toNat <= 281474976710656) (hd : Nat.blt d N = true) (hzs : z.cells.size = sz)
  (hl : List.replicate n.toNat (zP z) = l) (hσ : σ ++ [.arr e sz l] = σ') (k : AList P N ops Q rest ⟨(d, .c (.ms σ.length n.toNat)) :: fr, σ'⟩) :
  AList P N ops Q (⟨some d, .makeSlice t x y, ty, pos, aft, none⟩ :: rest) ⟨fr, σ⟩ := by
 subst hσ; subst hl
 obtain ⟨n, rfl⟩ := Int.eq_ofNat_of_zero_le h0
 simp only [Int.toNat_natCast] at *
 refine al_w (v := AV.c (C.ms σ.length n)) (σ' := σ ++ [AObj.arr e sz (List.replicate n (zP z))]) rfl hd (fun m F w a i hs => ?_) k
 have h1 := hs x (good_of_lit hx)
 have h2 := hs y (good_of_lit hy)
 rw [hx] at h1; rw [hy] at h2
 obtain ⟨inf, hinf, hsize, hbytes⟩ := TSl.inf (P := P) (t := t) (e := e) (sz := sz) (bytes := by')
 have hpos := TSl.pos (P := P) (t := t) (e := e) (sz := sz) (bytes := by')
 have hund := TSl.und (P := P) (t := t) (e := e) (sz := sz) (bytes := by')
 obtain ⟨inf', hinf', hz⟩ := TZ.inf (P := P) (t := e) (z := z)
 rw [hinf] at hinf'; injection hinf' with hinf'; subst hinf'
 have hn : n <= 281474976710656 := Nat.le_trans (Nat.le_mul_of_pos_left _ hpos.2) hb
 obtain ⟨w', r1, r2, r3⟩ := run_make_full (P := P) w 0 t e inf z sz hund hinf hz hsize k1 k2 n (by rw [hbytes]; exact hb) (by simp only [maxLen]; omega) (Nat.zero_le _)
 have hg : Grow F w F w' := ⟨fun _ _ h => h, r3.os, r3.tape, r3.output, r3.size, fun b hb => r3.block b hb (by simp), fun _ _ h => .inl h, fun _ _ h => .inr h⟩
 obtain ⟨g1, g2⟩ := inv_new (o := AObj.arr e sz (List.replicate n (zP z))) (l := .row (some w.heap.size) n) i hg
  ⟨_, by simpa [rowV] using r2, fun el he => by rw [List.eq_of_mem_replicate he]; simp [zP, hzs], fun q el hq j u hj => by
   have hqn : q < n := by
    have := (List.getElem?_eq_some_iff.1 hq).1
    simpa using this
   rw [List.getElem?_replicate, if_pos hqn] at hq
   injection hq with hq; subst hq
   simp only [zP, List.getElem?_map, Option.map_eq_some_iff] at hj
   obtain ⟨c, hc, rfl⟩ := hj
   have hjs : j < sz := by
    have := (List.getElem?_eq_some_iff.1 hc).1
    simpa [hzs] using this
   rw [List.getD_eq_getElem?_getD, Array.getElem?_toList, madeCells_get _ _ _ hzs hpos.1 _ _ hjs hqn]
   have hc' : z.cells[j]? = some c := by simpa using hc
   rw [hc']
   exact RP.lit (TZ.one (P := P) (t := e) (z := z) c (Array.mem_of_getElem? hc'))⟩
  (fun b q hf => by
   have hf : some w.heap.size = some b := hf
   injection hf with hf
   subst hf
   exact ⟨Nat.le_refl _, (r2.lt w.heap.size rfl).2⟩)
 refine ⟨.slice (some ⟨w.heap.size, 0, none⟩) n n, _, F, w', .inl ?_, g1, g2, some w.heap.size, n, by rw [<- i.len]; simp, Nat.le_refl _, rfl⟩
 simp only [execOp, rv_lit h1, rv_lit h2, Sem.run_bind, r1, Result.andThen_ok, Sem.run_pure]
theorem w_make0 {t e : TypeId} {sz by' : Nat} {z : Value} {x y : Operand} {k1 k2 : IntKind} {n : Int} [TSl P t e sz by'] [TZ P e z] (hx : ev fr x = .c (.p (.lit (.int k1 0)))) (hy : ev fr y = .c (.p (.lit (.int k2 n)))) (h0 : 0 <= n) (hb : by' * n.toNat <= 281474976710656) (hd : Nat.blt d N = true)
  (hσ : σ ++ [.arr e sz []] = σ') (k : AList P N ops Q rest ⟨(d, .c (.ms σ.length 0)) :: fr, σ'⟩) :
  AList P N ops Q (⟨some d, .makeSlice t x y, ty, pos, aft, none⟩ :: rest) ⟨fr, σ⟩ := by
 subst hσ
 obtain ⟨n, rfl⟩ := Int.eq_ofNat_of_zero_le h0
 simp only [Int.toNat_natCast] at *
 refine al_w (v := AV.c (C.ms σ.length 0)) (σ' := σ ++ [AObj.arr e sz []]) rfl hd (fun m F w a i hs => ?_) k
 have h1 := hs x (good_of_lit hx)
 have h2 := hs y (good_of_lit hy)
 rw [hx] at h1; rw [hy] at h2
 obtain ⟨inf, hinf, hsize, hbytes⟩ := TSl.inf (P := P) (t := t) (e := e) (sz := sz) (bytes := by')
 have hpos := TSl.pos (P := P) (t := t) (e := e) (sz := sz) (bytes := by')
 have hund := TSl.und (P := P) (t := t) (e := e) (sz := sz) (bytes := by')
 obtain ⟨inf', hinf', hz⟩ := TZ.inf (P := P) (t := e) (z := z)
 rw [hinf] at hinf'; injection hinf' with hinf'; subst hinf'
 have hn : n <= 281474976710656 := Nat.le_trans (Nat.le_mul_of_pos_left _ hpos.2) hb
 obtain ⟨w', r1, r2, r3⟩ := run_make_own (P := P) w 0 t e inf z sz hund hinf hz hsize k1 k2 n (by rw [hbytes]; exact hb) (by simp only [maxLen]; omega) (Nat.zero_le _)
 have hg : Grow F w F w' := ⟨fun _ _ h => h, r3.os, r3.tape, r3.output, r3.size, fun b hb => r3.block b hb (by simp), fun _ _ h => .inl h, fun _ _ h => .inr h⟩
 obtain ⟨g1, g2⟩ := inv_new (o := AObj.arr e sz []) (l := .row (some w.heap.size) n) i hg
  ⟨_, by simpa [rowV] using r2, by simp, fun q el hq j u hj => by simp at hq⟩
  (fun b q hf => by
   have hf : some w.heap.size = some b := hf
   injection hf with hf
   subst hf
   exact ⟨Nat.le_refl _, (r2.lt w.heap.size rfl).2⟩)
 refine ⟨.slice (some ⟨w.heap.size, 0, none⟩) 0 n, _, F, w', .inl ?_, g1, g2, some w.heap.size, n, by rw [<- i.len]; simp, by omega, rfl⟩
 simp only [execOp, rv_lit h1, rv_lit h2, Sem.run_bind, r1, Result.andThen_ok, Sem.run_pure]
theorem buildSlice_run {t e : TypeId} {sz by' n : Nat} {z : Value} {parts : Array (Nat × Operand)} {out : List C} [TSl P t e sz by'] [TZ P e z] (hzs : z.cells.size = sz) (hsmall : n * sz <= 16777216)
  (hg : parts.toList.all (fun p => goodConst p.2 && sureV (ev fr p.2)) = true) (hf : fillA (fun i => some (i * sz, sz)) (List.replicate n (zC z)).flatten (parts.toList.map fun p => (p.1, ev fr p.2)) = some out)
  {m : List Loc} {F : Nat -> Nat -> Prop} {w : World} {a : Act} (hs : ∀ x, x ∈ parts.map (·.2) -> goodConst x = true -> RV m w F (ev fr x) (a.eval x)) :
  ∃ r : Array Value, (Instr.buildSlice t n (parts.map fun (x : Nat × Operand) => (x.1, a.eval x.2))).run P w = .ok (.slice (some ⟨w.heap.size, 0, none⟩) n n) (w.alloc (.cells r e)) /\ r.size = out.length /\ (∀ j x, out[j]? = some x -> RC m w F x (r.getD j undef)) /\ out.length = n * sz := by
 obtain ⟨inf, hinf, hsize, hbytes⟩ := TSl.inf (P := P) (t := t) (e := e) (sz := sz) (bytes := by')
 have hpos := TSl.pos (P := P) (t := t) (e := e) (sz := sz) (bytes := by')
 have hund := TSl.und (P := P) (t := t) (e := e) (sz := sz) (bytes := by')
 obtain ⟨k1, k2⟩ := parts_rel (fr := fr) (a := a) (parts := parts) (m := m) (w := w) (F := F) hs hg
 obtain ⟨z1, z2⟩ := zC_rc (m := m) (w := w) (F := F) (TZ.one (P := P) (t := e) (z := z))
 have hzl : (zC z).length = sz := by rw [<- z1, hzs]
 have hfl : (List.replicate n (zC z)).flatten.length = n * sz := by rw [flatten_len (sz := sz) _ (fun e he => by rw [List.eq_of_mem_replicate he, hzl])]; simp
 have hc2 : ∀ j x, (List.replicate n (zC z)).flatten[j]? = some x -> RC m w F x ((madeCells z.cells (n * sz)).getD j undef) := by
  intro j x hx
  obtain ⟨i', e', j', a1, a2, rfl, a4⟩ := flatten_from (sz := sz) _ (fun e he => by rw [List.eq_of_mem_replicate he, hzl]) j x hx
  have hin : i' < n := by have := (List.getElem?_eq_some_iff.1 a1).1; simpa using this
  rw [List.getElem?_replicate, if_pos hin] at a1
  injection a1 with a1; subst a1
  rw [Array.getD_eq_getD_getElem?, madeCells_get _ _ _ hzs hpos.1 _ _ a4 hin]
  have := z2 j' x a2
  rwa [Array.getD_eq_getD_getElem?] at this
 obtain ⟨r, h1, h2, h3⟩ := fill_run (place := fun i => some (i * sz, sz)) _ _ _ (madeCells z.cells (n * sz)) _ k1 k2 (by rw [size_madeCells, hfl]) hc2 hf
 have he : (parts.map fun (x : Nat × Operand) => (x.1, a.eval x.2)).toList = parts.toList.map fun p => (p.1, a.eval p.2) := by simp
 have hlen : out.length = n * sz := by
  have key : ∀ (ps : List (Nat × AV)) (cells out : List C), fillA (fun i => some (i * sz, sz)) cells ps = some out -> out.length = cells.length := by
   intro ps
   induction ps with
   | nil => intro cells out h; simp only [fillA, Option.some.injEq] at h; rw [h]
   | cons p ps ih =>
    intro cells out h
    simp only [fillA] at h
    split at h
    ·rename_i hc
     rw [ih _ _ h, lay_length _ _ _ (by omega)]
    ·cases h
  rw [key _ _ _ hf, hfl]
 refine ⟨r, ?_, h2, h3, hlen⟩
 unfold Instr.buildSlice
 rw [Sem.run_bind, run_und hund]
 simp only [Result.andThen_ok]
 rw [Sem.run_bind, run_size hinf, hsize]
 simp only [Result.andThen_ok]
 rw [if_neg (by omega)]
 by_cases h0 : n * sz = 0
 ·have hm : madeCells z.cells (n * sz) = #[] := by rw [h0]; simp [madeCells]
  rw [hm] at h1
  simp only [h0, if_true, Sem.run_bind, Sem.run_pure, Result.andThen_ok]
  rw [he]
  have hr0 : (Array.range 0).map (fun x => (#[] : Array Value)[x % (#[] : Array Value).size]!) = #[] := by simp
  simp only [hr0, h1, Sem.run_bind, newRow, run_newObj, Result.andThen_ok, Sem.run_pure]
  rfl
 ·rw [if_neg h0]
  simp only [Sem.run_bind, TZ.run (P := P) (t := e) (z := z) inferInstance, Sem.run_pure, Result.andThen_ok]
  rw [he]
  have hm : (Array.range (n * sz)).map (fun x => z.cells[x % z.cells.size]!) = madeCells z.cells (n * sz) := rfl
  simp only [hm, h1, Sem.run_bind, newRow, run_newObj, Result.andThen_ok, Sem.run_pure]
  rfl
theorem r_buildSlice {d : Option Nat} {g : Option (Nat × Bool)} {t e : TypeId} {sz by' n : Nat} {z : Value} {parts : Array (Nat × Operand)} {l : List (List PV)} [TSl P t e sz by'] [TZ P e z] (hzs : z.cells.size = sz) (hsmall : n * sz <= 16777216)
  (hg : parts.toList.all (fun p => goodConst p.2 && sureV (ev fr p.2)) = true) (hf : fillA (fun i => some (i * sz, sz)) (List.replicate n (zC z)).flatten (parts.toList.map fun p => (p.1, ev fr p.2)) = some (l.flatten.map .p)) (hl : l.length = n) (hls : ∀ e ∈ l, e.length = sz) :
  RStep P σ fr ⟨d, .buildSlice t n parts, ty, pos, aft, g⟩ (.c (.p (.sl sz l))) :=
 rs_of fun m F w a i hs => by
  obtain ⟨r, h1, h2, h3, h4⟩ := buildSlice_run (P := P) (t := t) (n := n) hzs hsmall hg hf (m := m) (F := F) (w := w) (a := a) (fun x hx => hs x (by simpa [Op.operands] using hx))
  have hfl := flatten_len l hls
  let F' : Nat -> Nat -> Prop := fun b k => F b k \/ (b = w.heap.size)
  have hmono : ∀ b k, F b k -> F' b k := fun b k h => .inl h
  refine ⟨.slice (some ⟨w.heap.size, 0, none⟩) n n, F', w.alloc (.cells r e), by simp only [execOp, Sem.run_bind, h1, Result.andThen_ok, Sem.run_pure], ⟨hmono, rfl, rfl, rfl, by simp, fun b hb => Below.heap_alloc w _ b hb, fun b k h => ?_, fun b k h => ?_⟩, ?_⟩
  ·rcases h with h | h
   ·exact .inl h
   ·exact .inr (by omega)
  ·rcases h with h | h
   ·exact .inr h
   ·exact .inl (by simp; omega)
  ·have key := RP.sl (w := w.alloc (.cells r e)) (F := F') (b := w.heap.size) (o := 0) (cap := n) (sz := sz) (l := l) (fun j => r.getD j undef) (by omega) hls (fun j hj => .inr rfl)
    (fun j hj => by
     have hlt : j < r.size := by rw [h2, List.length_map, hfl]; exact hj
     rw [Nat.zero_add]
     simp [Array.getElem?_eq_getElem hlt, Array.getD_eq_getD_getElem?])
    (fun i' el he j x hx => by
     have hfx := flatten_at l hls i' el he j x hx
     have := h3 (i' * sz + j) (.p x) (by rw [List.getElem?_map, hfx]; rfl)
     exact RP.mono hmono (fun b k hb => World.cell?_alloc_lt w _ _ (i.frz b k hb)) this)
   rw [hl] at key
   exact key
theorem w_buildSlice {t e : TypeId} {sz by' n : Nat} {z : Value} {parts : Array (Nat × Operand)} {l : List (List PV)} [TSl P t e sz by'] [TZ P e z] (hzs : z.cells.size = sz) (hsmall : n * sz <= 16777216)
  (hg : parts.toList.all (fun p => goodConst p.2 && sureV (ev fr p.2)) = true) (hf : fillA (fun i => some (i * sz, sz)) (List.replicate n (zC z)).flatten (parts.toList.map fun p => (p.1, ev fr p.2)) = some (l.flatten.map .p)) (hl : l.length = n) (hls : ∀ e ∈ l, e.length = sz)
  (hd : Nat.blt d N = true) (hσ : σ ++ [.arr e sz l] = σ') (k : AList P N ops Q rest ⟨(d, .c (.ms σ.length n)) :: fr, σ'⟩) :
  AList P N ops Q (⟨some d, .buildSlice t n parts, ty, pos, aft, none⟩ :: rest) ⟨fr, σ⟩ := by
 subst hσ
 refine al_w (v := AV.c (C.ms σ.length n)) (σ' := σ ++ [AObj.arr e sz l]) rfl hd (fun m F w a i hs => ?_) k
 obtain ⟨r, h1, h2, h3, h4⟩ := buildSlice_run (P := P) (t := t) (n := n) hzs hsmall hg hf (m := m) (F := F) (w := w) (a := a) (fun x hx hc => hs x hc)
 have hpos := TSl.pos (P := P) (t := t) (e := e) (sz := sz) (bytes := by')
 have hfl := flatten_len l hls
 have hn : n <= 16777216 := Nat.le_trans (Nat.le_mul_of_pos_right _ hpos.1) hsmall
 have hown := World.ownsRow_lit (base := 0) (e := e) (size := sz) w r n (Nat.zero_le _) (by simp only [maxLen]; omega) (by rw [h2, h4])
 obtain ⟨g1, g2⟩ := inv_new (o := AObj.arr e sz l) (l := .row (some w.heap.size) n) i (grow_alloc F w (.cells r e))
  ⟨r.toList, by rw [hl]; exact hown, hls, fun q el hq j u hj => by
   have hfx := flatten_at l hls q el hq j u hj
   have := h3 (q * sz + j) (.p u) (by rw [List.getElem?_map, hfx]; rfl)
   have e1 : r.toList.getD (q * sz + j) undef = r.getD (q * sz + j) undef := by simp [List.getD_eq_getElem?_getD, Array.getD_eq_getD_getElem?]
   rw [e1]
   exact RP.mono (fun _ _ h => h) (fun b k hb => World.cell?_alloc_lt w _ _ (i.frz b k hb)) this⟩
  (fun b q hf => by
   have hf : some w.heap.size = some b := hf
   injection hf with hf
   subst hf
   exact ⟨Nat.le_refl _, by simp⟩)
 refine ⟨.slice (some ⟨w.heap.size, 0, none⟩) n n, _, F, _, .inl ?_, g1, g2, some w.heap.size, n, by rw [<- i.len]; simp, Nat.le_refl _, rfl⟩
 simp only [execOp, Sem.run_bind, h1, Result.andThen_ok, Sem.run_pure]
def setAll : List Value -> Nat -> List Value -> List Value
 | xs, _, [] => xs
 | xs, o, v :: r => setAll (xs.set o v) (o + 1) r
theorem setAll_get : ∀ (vs xs : List Value) (o : Nat), o + vs.length <= xs.length -> (setAll xs o vs).length = xs.length /\ ∀ j, (setAll xs o vs)[j]? = if o <= j /\ j < o + vs.length then vs[j - o]? else xs[j]? := by
 intro vs
 induction vs with
 | nil => intro xs o h; exact ⟨rfl, fun j => by rw [if_neg (by simp)]; rfl⟩
 | cons v vs ih =>
  intro xs o h
  simp only [List.length_cons] at h
  obtain ⟨h1, h2⟩ := ih (xs.set o v) (o + 1) (by simp; omega)
  refine ⟨by simp [setAll, h1], fun j => ?_⟩
  simp only [setAll, h2 j, List.length_cons]
  by_cases hj : j = o
  ·subst hj
   rw [if_neg (by omega), if_pos (by omega), List.getElem?_set_self (by omega)]
   simp
  ·by_cases hin : o + 1 <= j /\ j < o + 1 + vs.length
   ·rw [if_pos hin, if_pos (by omega), show j - o = j - (o + 1) + 1 by omega, List.getElem?_cons_succ]
   ·rw [if_neg hin, if_neg (by omega), List.getElem?_set_ne (fun e => hj e.symm)]
theorem ownsRow_setCells {e : TypeId} {sz n cap b : Nat} : ∀ (vs : List Value) (o : Nat) (w : World) (xs : List Value), w.ownsRow 0 e sz (rowV (some b) n cap) n xs -> (w.setCells b o vs).ownsRow 0 e sz (rowV (some b) n cap) n (setAll xs o vs) := by
 intro vs
 induction vs with
 | nil => intro o w xs h; exact h
 | cons v vs ih => intro o w xs h; exact ih (o + 1) _ _ (h.stored o v).1
theorem w_storeEpt {t e' : TypeId} {agg : Bool} {sz esz : Nat} {x z : Operand} {y : AV} {ys : List PV} {id i off : Nat} {l : List (List PV)} {el el' : List PV} [TV P t agg sz] (hx : ev fr x = .c (.ept id esz i off)) (hy : ev fr z = y) (ho : σ[id]? = some (.arr e' esz l)) (hel : l[i]? = some el) (hyc : y.cells = ys.map .p) (hsure : sureV y = true) (hn : ys.length = sz) (hle : off + sz <= el.length) (hl : lay el off ys = el')
  (hσ : σ.set id (.arr e' esz (l.set i el')) = σ') (k : AList P N ops Q rest ⟨fr, σ'⟩) (hgc : goodConst z = true := by rfl) :
  AList P N ops Q (⟨none, .store t x z, ty, pos, aft, none⟩ :: rest) ⟨fr, σ⟩ := by
 subst hσ
 subst hl
 refine al_w (v := .c .any) (σ' := σ.set id (AObj.arr e' esz (l.set i (lay el off ys)))) rfl rfl (fun m F w a iv hs => ?_) k
 have h := hs z hgc
 rw [hy] at h
 have hp := hs x (good_of_nl hx (by simp))
 rw [hx] at hp
 obtain ⟨b, cap, hm, hv⟩ := rv_ept hp
 have hpos := TV.pos (P := P) (t := t) (agg := agg) (sz := sz)
 have hycl : y.cells.length = sz := by rw [hyc]; simpa using hn
 obtain ⟨e1, e2⟩ := rv_cells h (by omega) (rv_one hsure h)
 obtain ⟨us, hw, hsz, hr⟩ := arr_cells iv ho hm
 obtain ⟨xs, x1, x2, x3⟩ := iv.obj id _ _ ho hm
 have hin : ∀ j, j < sz -> i * esz + off + j < l.length * esz := fun j hj => by
  have := elt_lt hsz hel (j := off + j) (by omega)
  omega
 have hrun := storeVar_run (P := P) (t := t) (agg := agg) (sz := sz) (w := w) (b := b) (o := i * esz + off) (u := a.eval z) (by omega)
  (fun j hj => by rw [(hw _ (hin j hj)).1]; rfl) (fun j hj => (hw _ (hin j hj)).2) (rv_cells_one hsure h)
 obtain ⟨s1, s2, s3, s4, s5⟩ := heap_setCells b (a.eval z).cells.toList (i * esz + off) w
 have hxl : xs.length = l.length * esz := x1.1
 have helz : el.length = esz := hsz el (List.mem_of_getElem? hel)
 have hil : i < l.length := (List.getElem?_eq_some_iff.1 hel).1
 obtain ⟨q1, q2⟩ := setAll_get (a.eval z).cells.toList xs (i * esz + off) (by
  have := elt_lt hsz hel (j := off + sz - 1) (by omega)
  simp only [Array.length_toList]; omega)
 obtain ⟨h1, h2⟩ := inv_set (w' := w.setCells b (i * esz + off) (a.eval z).cells.toList) iv ho hm (o' := .arr e' esz (l.set i (lay el off ys))) (fun b' k' => Iff.rfl) s1 ⟨s3, s4, s5⟩
  (fun b' hb => by
   by_cases he : b' = b
   ·subst he; exact absurd rfl (hb 0)
   ·exact s2 b' he)
  (fun b' k' hf => by
   have hne : b' ≠ b := fun he => hf (by subst he; rfl)
   have := s2 b' hne
   exact ⟨cell_of_heap this, frozen_of_heap this⟩)
  (fun hRC hRP => by
   have hown := ownsRow_setCells (a.eval z).cells.toList (i * esz + off) w xs x1
   refine ⟨_, by simpa using hown, fun e he => ?_, fun i' e he j x hx => ?_⟩
   ·rcases List.mem_or_eq_of_mem_set he with he | he
    ·exact x2 e he
    ·rw [he, lay_length _ _ _ (by omega)]; exact helz
   ·rw [List.getD_eq_getElem?_getD, q2]
    simp only [Array.length_toList]
    by_cases hi' : i' = i
    ·subst hi'
     rw [List.getElem?_set_self hil] at he
     injection he with he; subst he
     rw [lay_get _ _ _ _ (by omega)] at hx
     split at hx
     ·rename_i hjn
      rw [if_pos (by omega)]
      have := e2 (j - off) (.p x) (by rw [hyc, List.getElem?_map, hx]; rfl)
      rw [Array.getD_eq_getD_getElem?] at this
      rw [Array.getElem?_toList, show i' * esz + j - (i' * esz + off) = j - off by omega]
      exact hRP _ _ this
     ·rename_i hjn
      rw [if_neg (by omega)]
      have := hRP _ _ (x3 i' el hel j x hx)
      rwa [List.getD_eq_getElem?_getD] at this
    ·rw [List.getElem?_set_ne (fun e => hi' e.symm)] at he
     have hjl : j < esz := by
      have := (List.getElem?_eq_some_iff.1 hx).1
      rw [x2 e (List.mem_of_getElem? he)] at this; exact this
     rw [if_neg (by
      intro hc
      rcases Nat.lt_or_ge i' i with hlt | hge
      ·have : i' * esz + esz <= i * esz := by rw [<- Nat.succ_mul]; exact Nat.mul_le_mul_right _ hlt
       omega
      ·have hlt : i < i' := by omega
       have : i * esz + esz <= i' * esz := by rw [<- Nat.succ_mul]; exact Nat.mul_le_mul_right _ hlt
       omega)]
     have := hRP _ _ (x3 i' e he j x hx)
     rwa [List.getD_eq_getElem?_getD] at this)
 refine ⟨undef, m, F, _, .inr ⟨?_, rfl⟩, h1, h2, trivial⟩
 simp only [execOp, hv, Instr.storeAt, Instr.sureAddr, Sem.run_bind, Sem.run_pure, Result.andThen_ok, hrun]
end
end Go.AL
namespace Go.AL
open Go.RowKit
abbrev FrF := Nat -> AV
def FrF.put (g : FrF) (d : Option Nat) (v : AV) : FrF := match d with | some d => fun t => if d = t then v else g t | none => g
theorem FrF.put_comm (g : FrF) {x y : Option Nat} (v u : AV) (h : ∀ d, x = some d -> y ≠ some d) : (g.put x v).put y u = (g.put y u).put x v := by
 cases x with
 | none => rfl
 | some d =>
  cases y with
  | none => rfl
  | some e =>
   have hne : d ≠ e := fun he => h d rfl (he ▸ rfl)
   funext t
   simp only [FrF.put]
   by_cases h1 : d = t
   ·subst h1
    rw [if_neg (fun e => hne e.symm), if_pos rfl, if_pos rfl]
   ·by_cases h2 : e = t
    ·subst h2; rw [if_pos rfl, if_neg h1, if_pos rfl]
    ·rw [if_neg h2, if_neg h1, if_neg h1, if_neg h2]
theorem FrF.put_get (fr : Fr) (d : Option Nat) (v : AV) : (fr.put d v).get = FrF.put fr.get d v := by
 cases d with
 | none => rfl
 | some d => funext t; simp [Fr.put, Fr.get, FrF.put]
theorem FrF.put_off (g : FrF) {d : Option Nat} (v : AV) {t : Nat} (h : ∀ e, d = some e -> e ≠ t) : (g.put d v) t = g t := by
 cases d with
 | none => rfl
 | some e => simp [FrF.put, h e rfl]
section
variable {P : Program} {N : NN} {Q : AE -> St -> Prop} {ops : Array Oper} {σ : List AObj}
def GStep (P : Program) (σ : List AObj) (ops : Array Oper) (g : FrF) (o : Oper) (v : AV) : Prop :=
 ∀ m F w (a : Act), Inv m F σ w -> (∀ t, t ∈ o.looksAt ops -> RV m w F (g t) (a.tmps.getD t undef)) ->
  ∀ K Q, (∀ x F' w', Grow F w F' w' -> RV m w' F' v x -> K (a.put o.dst x) w') -> if Region.wanted o (yielded ops a.tmps) then o.wp P a w K Q else K (a.put o.dst undef) w
theorem GStep.congr {g g' : FrF} {o : Oper} {v : AV} (h : GStep P σ ops g o v) (he : ∀ t ∈ o.looksAt ops, g' t = g t) : GStep P σ ops g' o v :=
 fun m F w a i hs K Q hK => h m F w a i (fun t ht => by rw [<- he t ht]; exact hs t ht) K Q hK
theorem GStep.of {fr : Fr} {o : Oper} {v : AV} (hg : o.guard = none) (h : RStep P σ fr o v) : GStep P σ ops fr.get o v := by
 intro m F w a i hs K Q hK
 rw [if_pos (by simp [Region.wanted, hg])]
 exact h m F w a i (fun t ht => hs t (List.mem_append_left _ (List.mem_filterMap.2 ⟨.tmp t, by simpa using ht, rfl⟩))) K Q hK
theorem wanted_of {fr : FrF} {o : Oper} {j : Nat} {want b : Bool} {t : Nat} {m : List Loc} {F : Nat -> Nat -> Prop} {w : World} {a : Act} (hg : o.guard = some (j, want)) (ht : (ops[j]?).bind (·.dst) = some t) (hv : fr t = .c (.p (.lit (.bool b)))) (h1 : RV m w F (fr t) (a.tmps.getD t undef)) : Region.wanted o (yielded ops a.tmps) = (b == want) := by
 rw [hv] at h1
 have h2 : a.tmps.getD t undef = .bool b := RP.eq_lit h1
 have h3 : a.tmps[t]? = some (.bool b) := by
  cases h : a.tmps[t]? with
  | none => simp [Array.getD_eq_getD_getElem?, h, undef] at h2
  | some u => simp [Array.getD_eq_getD_getElem?, h] at h2; rw [h2]
 simp only [Region.wanted, hg, yielded, ht, Option.bind_some, h3]
 cases b <;> cases want <;> rfl
theorem GStep.yes {fr : Fr} {o : Oper} {v : AV} {j : Nat} {want b : Bool} {t : Nat} (hg : o.guard = some (j, want)) (ht : (ops[j]?).bind (·.dst) = some t) (hv : fr.get t = .c (.p (.lit (.bool b)))) (hb : (b == want) = true) (h : RStep P σ fr o v) : GStep P σ ops fr.get o v := by
 intro m F w a i hs K Q hK
 have hl : t ∈ o.looksAt ops := List.mem_append_right _ (by simp [hg, ht])
 rw [wanted_of hg ht hv (hs t hl), if_pos hb]
 exact h m F w a i (fun t ht => hs t (List.mem_append_left _ (List.mem_filterMap.2 ⟨.tmp t, by simpa using ht, rfl⟩))) K Q hK
theorem GStep.no {fr : Fr} {o : Oper} {j : Nat} {want b : Bool} {t : Nat} (hg : o.guard = some (j, want)) (ht : (ops[j]?).bind (·.dst) = some t) (hv : fr.get t = .c (.p (.lit (.bool b)))) (hb : (b == want) = false) : GStep P σ ops fr.get o (.c .any) := by
 intro m F w a i hs K Q hK
 have hl : t ∈ o.looksAt ops := List.mem_append_right _ (by simp [hg, ht])
 rw [wanted_of hg ht hv (hs t hl), if_neg (by rw [hb]; exact Bool.false_ne_true)]
 exact hK _ _ _ (Grow.refl F w) trivial
inductive RSteps (P : Program) (σ : List AObj) (ops : Array Oper) : List Oper -> Fr -> Fr -> Prop
 | nil {fr : Fr} : RSteps P σ ops [] fr fr
 | cons {o : Oper} {l : List Oper} {fr fr' : Fr} {v : AV} (h : GStep P σ ops fr.get o v) (t : RSteps P σ ops l (fr.put o.dst v) fr') : RSteps P σ ops (o :: l) fr fr'
def absL (P : Program) (σ : List AObj) (ops : Array Oper) (n : Nat) (L : Array Bool -> FrF -> Prop) : Nat -> Array Bool -> FrF -> Prop
 | 0, listed, g => L listed g
 | f + 1, listed, g => Region.ready .any ops listed ≠ [] /\ ∀ i ∈ Region.ready .any ops listed, i < n /\ ∃ o v, ops[i]? = some o /\ GStep P σ ops g o v /\ absL P σ ops n L f (listed.setIfInBounds i true) (g.put o.dst v)
theorem absL_first {n i : Nat} {oi : Oper} {v : AV} {L : Array Bool -> FrF -> Prop} (hi : ops[i]? = some oi)
  (hs : Region.sinkB .any ops n = true) (hc : Region.chainB .any ops n = true) (hn : n < ops.size) (hin : i < n)
  (hdone : ∀ listed a, L listed a -> ∀ j ∈ Region.ready .any ops listed, n <= j) :
  ∀ (f : Nat) (listed : Array Bool) (g : FrF), HeadInv .any ops n listed ->
   (∀ j oj, ops[j]? = some oj -> j ≠ i -> listed.getD j true = false -> (∀ e ∈ oj.after, Region.binds .any e = true -> e.on ≠ i) -> oi.apart ops oj = true) ->
   i ∈ Region.ready .any ops listed -> GStep P σ ops g oi v ->
   absL P σ ops n L f (listed.setIfInBounds i true) (g.put oi.dst v) -> absL P σ ops n L (f + 1) listed g := by
 intro f
 induction f with
 | zero =>
  intro listed g inv _ hr hy H
  have hun := (mem_ready.1 hr).1
  refine ⟨fun h => (by rw [h] at hr; cases hr), fun j hj => ?_⟩
  have hjn : j < n := by
   rcases Nat.lt_or_ge j n with h | h
   ·exact h
   ·exact absurd hj (tail_waits hs hc hn inv _ i rfl hin hun j h)
  refine ⟨hjn, ?_⟩
  by_cases hji : j = i
  ·subst hji; exact ⟨oi, v, hi, hy, H⟩
  ·have := hdone _ _ H j (ready_mono hj hji)
   omega
 | succ f ih =>
  intro listed g inv hfree hr hy H
  have hun := (mem_ready.1 hr).1
  refine ⟨fun h => (by rw [h] at hr; cases hr), fun j hj => ?_⟩
  have hjn : j < n := by
   rcases Nat.lt_or_ge j n with h | h
   ·exact h
   ·exact absurd hj (tail_waits hs hc hn inv _ i rfl hin hun j h)
  refine ⟨hjn, ?_⟩
  by_cases hji : j = i
  ·subst hji; exact ⟨oi, v, hi, hy, H⟩
  ·obtain ⟨_, oj, u, hoj, hu, h1⟩ := H.2 j (ready_mono hj hji)
   obtain ⟨hjun, oj', hoj', hall⟩ := mem_ready.1 hj
   have hoo : oj' = oj := Option.some.inj (hoj'.symm.trans hoj)
   subst hoo
   have hnot : ∀ e ∈ oj'.after, Region.binds .any e = true -> e.on ≠ i := fun e he hb heq => by
    have h1 := hall e he hb
    rw [heq, getD_both hun] at h1
    cases h1
   obtain ⟨a1, a2, a3⟩ := Oper.apart_spec (hfree j oj' hoj hji hjun hnot)
   have hu' : GStep P σ ops g oj' u := hu.congr fun t ht => (FrF.put_off g v fun e he hte => a1 e he (hte ▸ ht)).symm
   have hy' : GStep P σ ops (g.put oj'.dst u) oi v := hy.congr fun t ht => FrF.put_off g u fun e he hte => a3 e he (hte ▸ ht)
   have hfree' : ∀ k ok, ops[k]? = some ok -> k ≠ i -> (listed.setIfInBounds j true).getD k true = false ->
     (∀ e ∈ ok.after, Region.binds .any e = true -> e.on ≠ i) -> oi.apart ops ok = true := fun k ok hk hki hun hno => by
    refine hfree k ok hk hki ?_ hno
    by_cases hjk : j = k
    ·subst hjk; exact hjun
    ·rw [getD_set_ne true hjk] at hun; exact hun
   refine ⟨oj', u, hoj, hu', ih (listed.setIfInBounds j true) _ (inv.set hj hjn) hfree' (ready_mono hr (Ne.symm hji)) hy' ?_⟩
   rw [Array.setIfInBounds_comm _ _ hji, <- FrF.put_comm g v u a2]
   exact h1
theorem absL_lex {n k2 : Nat} {L : FrF -> Prop} (hs : Region.sinkB .any ops n = true) (hc : Region.chainB .any ops n = true) (hn : n < ops.size) :
  ∀ (l : List Oper) (k : Nat) (listed : Array Bool) (fr fr' : Fr), (∀ j, j < l.length -> l[j]? = ops[k + j]?) -> k + l.length = n -> HeadInv .any ops n listed ->
  Region.lexHead .any ops k2 l.length k listed = true -> RSteps P σ ops l fr fr' -> L fr'.get ->
  absL P σ ops n (fun listed' g => Region.seqB .any ops k2 n listed' = true /\ L g) l.length listed fr.get
 | [], k, listed, fr, fr', _, hk, _, hB, h, hL => by
  have : k = n := by simpa using hk
  subst this
  cases h
  exact ⟨by simpa [Region.lexHead] using hB, hL⟩
 | o :: l, k, listed, fr, fr', hl, hk, inv, hB, h, hL => by
  have h0 : ops[k]? = some o := by simpa using (hl 0 (by simp)).symm
  simp only [List.length_cons, Region.lexHead, Bool.and_eq_true] at hB
  obtain ⟨⟨hr, hf⟩, hB'⟩ := hB
  have hkn : k < n := by simp only [List.length_cons] at hk; omega
  have hr' : k ∈ Region.ready .any ops listed := by simpa using hr
  cases h with
  | cons hy ht =>
   refine absL_first h0 hs hc hn hkn (fun listed' a' hL => seqB_ready hL.1) l.length listed _ inv (Region.free_spec h0 hf) hr' hy ?_
   rw [<- FrF.put_get]
   exact absL_lex hs hc hn l (k + 1) _ _ _ (fun j hj => by have := hl (j + 1) (by simp; omega); simpa [Nat.add_assoc, Nat.add_comm 1 j] using this) (by simp only [List.length_cons] at hk; omega) (inv.set hr' hkn) hB' ht hL
structure RelF (N : NN) (m : List Loc) (F : Nat -> Nat -> Prop) (g : FrF) (σ : List AObj) (a : Act) (w : World) : Prop where
 inv : Inv m F σ w
 fr : ∀ t, RV m w F (g t) (a.tmps.getD t undef)
 size : a.tmps.size = N.n
 defers : a.defers = N.d
theorem RelF.put {m : List Loc} {F : Nat -> Nat -> Prop} {g : FrF} {a : Act} {w : World} (h : RelF N m F g σ a w) {d : Option Nat} (hd : ∀ t, d = some t -> t < N) {v : AV} {x : Value} (hx : RV m w F v x) : RelF N m F (g.put d v) σ (a.put d x) w := by
 cases d with
 | none => exact ⟨h.inv, h.fr, h.size, h.defers⟩
 | some d =>
  refine ⟨h.inv, fun t => ?_, by simp [Act.put, h.size], h.defers⟩
  by_cases hdt : d = t
  ·subst hdt
   have : d < a.tmps.size := by rw [h.size]; exact hd d rfl
   simp [Act.put, this, FrF.put]
   exact hx
  ·have := h.fr t
   simp only [FrF.put, if_neg hdt]
   simp only [Act.put, Array.getD_eq_getD_getElem?, Array.getElem?_setIfInBounds_ne hdt] at this ⊢
   exact this
theorem RelF.grow {m : List Loc} {F F' : Nat -> Nat -> Prop} {g : FrF} {a : Act} {w w' : World} (h : RelF N m F g σ a w) (gr : Grow F w F' w') : RelF N m F' g σ a w' :=
 ⟨h.inv.grow gr, fun t => (h.fr t).grow h.inv gr, h.size, h.defers⟩
theorem wpAny_post_mono {Q1 Q2 : Exit -> Act -> World -> Prop} (hQ : ∀ e a w, Q1 e a w -> Q2 e a w) : ∀ (f : Nat) (listed : Array Bool) (a : Act) (w : World), wpAny P .any ops Q1 f listed a w -> wpAny P .any ops Q2 f listed a w
 | 0, _, _, _, h => ⟨h.1, hQ _ _ _ h.2⟩
 | f + 1, listed, a, w, h => ⟨fun h0 => hQ _ _ _ (h.1 h0), fun i hi => by
   have h2 := wpOp_mono (fun a w h => wpAny_post_mono hQ f _ a w h) (h.2 i hi)
   unfold wpOp at h2 ⊢
   split at h2
   ·exact h2
   ·rename_i o ho
    split at h2
    ·rename_i hw
     rw [if_pos hw]
     rcases h2 with h2 | ⟨h2, a', w', hl⟩
     ·refine .inl ?_
      unfold Oper.wp at h2 ⊢
      generalize (execOp a.eval o).run P w = r at *
      cases r with
      | ok n w' =>
       cases n <;> simp only [Oper.upon] at h2 ⊢ <;> first
        | exact h2
        | exact Calls.mono h2 (fun e w'' he => by
          cases e with
          | returned v => exact he
          | panicked c => exact hQ _ _ _ he
          | outgrown => obtain ⟨a', w', h'⟩ := he; exact ⟨a', w', hQ _ _ _ h'⟩)
      | halt x w' => cases x <;> simp only [Oper.upon] at h2 ⊢ <;> first | exact h2 | exact hQ _ _ _ h2
     ·exact .inr ⟨h2, a', w', hQ _ _ _ hl⟩
    ·rename_i hw
     rw [if_neg hw]
     exact h2⟩
theorem wpAny_of_abs {n k2 : Nat} {L : Array Bool -> FrF -> Prop} (hd : ops.all (dstOk N) = true)
  (hL : ∀ listed g, L listed g -> ∀ m F a w, RelF N m F g σ a w -> wpAny P .any ops (Post N Q m F σ w) k2 listed a w) :
  ∀ (f : Nat) (listed : Array Bool) (g : FrF), absL P σ ops n L f listed g -> ∀ m F a w, RelF N m F g σ a w -> wpAny P .any ops (Post N Q m F σ w) (f + k2) listed a w
 | 0, listed, g, h, m, F, a, w, hr => by rw [Nat.zero_add]; exact hL _ _ h m F a w hr
 | f + 1, listed, g, h, m, F, a, w, hr => by
  rw [show f + 1 + k2 = (f + k2) + 1 by omega]
  refine ⟨fun h0 => absurd h0 h.1, fun i hi => ?_⟩
  obtain ⟨_, o, v, ho, hy, hrest⟩ := h.2 i hi
  unfold wpOp
  simp only [ho]
  have hdo : dstOk N o = true := Array.all_eq_true_iff_forall_mem.1 hd o (Array.mem_of_getElem? ho)
  have key := hy m F w a hr.inv (fun t _ => hr.fr t) (wpAny P .any ops (Post N Q m F σ w) (f + k2) (listed.setIfInBounds i true)) (Post N Q m F σ w) (fun x F' w' gr hx => by
   have hr1 := (hr.grow gr).put (dst_lt hdo) hx
   have := wpAny_of_abs hd hL f _ _ hrest m F' _ w' hr1
   exact wpAny_post_mono (fun e a1 w1 hp => hp.trans hr.inv hr1.inv gr.step) _ _ _ _ this)
  split
  ·rename_i hw; rw [if_pos hw] at key; exact .inl key
  ·rename_i hw; rw [if_neg hw] at key; exact key
theorem aw_draw {id : Nat} {l : List Oper} {fr fr' : Fr} (n : Nat) (hm : P.follows .mixedOrders = true) (hB : Region.lexTailB .any l.toArray n = true) (hd : l.toArray.all (dstOk N) = true) (h : RSteps P σ l.toArray (l.take n) fr fr') (k : AList P N l.toArray Q (l.drop n) ⟨fr', σ⟩) : AWp P N (.region id l.toArray true) Q ⟨fr, σ⟩ := by
 intro m F a w hr
 simp only [Region.lexTailB, Bool.and_eq_true, decide_eq_true_eq] at hB
 obtain ⟨⟨⟨⟨hsel, hn⟩, hs⟩, hc⟩, hlex⟩ := hB
 have hn' : n < l.length := by simpa using hn
 have htl : (l.take n).length = n := by simp; omega
 have hdl : (l.drop n).length = l.toArray.size - n := by simp
 have inv0 : HeadInv .any l.toArray n (Array.replicate l.toArray.size false) :=
  ⟨by simp, fun j oj _ hl => (by rw [getD_replicate_false] at hl; cases hl), fun t _ ht => getD_in (by simpa using ht) (getD_replicate_false _ _)⟩
 have H := absL_lex (P := P) (σ := σ) (ops := l.toArray) (k2 := l.toArray.size - n) (L := fun g => g = fr'.get) hs hc hn (l.take n) 0 _ fr fr' (fun j hj => by
  have hj' : j < n := by rw [htl] at hj; exact hj
  simp [hj']) (by simpa using htl) inv0 (by rw [htl]; exact hlex) h rfl
 refine wp_region_any hm ?_
 have hg : Grow F w F { w with drawn := w.drawn + 1 } := Grow.drew F w
 have hr1 : RelF N m F fr.get σ a { w with drawn := w.drawn + 1 } := ⟨hr.inv.grow hg, fun t => (hr.fr t).grow hr.inv hg, hr.size, hr.defers⟩
 have := wpAny_of_abs (Q := Q) (k2 := l.toArray.size - n) hd (fun listed g hL m F a w hr => by
  obtain ⟨hL1, rfl⟩ := hL
  have hk := k m F a w ⟨hr.inv, hr.fr, hr.size, hr.defers⟩
  have := wpAny_of_seq (md := .any) (l.drop n) n listed a w (fun j => by simp [List.getElem?_drop]) (by rw [hdl]; exact hL1) hk
  rwa [hdl] at this) _ _ _ H m F a _ hr1
 rw [htl, show n + (l.toArray.size - n) = l.toArray.size by omega] at this
 exact wpAny_post_mono (fun e a1 w1 hp => hp.trans hr.inv hr1.inv hg.step) _ _ _ _ this
end
end Go.AL
namespace Go.AL
open Go.RowKit
abbrev Ren := Nat -> Nat × Nat
def renC (ρ : Ren) : C -> C
 | .p x => .p x
 | .ms id n => .ms (ρ id).1 n
 | .ptr id off => .ptr (ρ id).1 ((ρ id).2 + off)
 | .ept id sz i off => .ept (ρ id).1 sz i off
 | .mpr id => .mpr (ρ id).1
 | .fnp f l => .fnp f (l.map fun p => ((ρ p.1).1, (ρ p.1).2 + p.2))
 | .any => .any
def renV0 (ρ : Ren) : AV -> AV
 | .c x => .c (renC ρ x)
 | .agg l => .agg (l.map (renC ρ))
 | .tup l => .tup l
def renV (ρ : Ren) : AV -> AV
 | .c x => .c (renC ρ x)
 | .agg l => .agg (l.map (renC ρ))
 | .tup l => .tup (l.map (renV0 ρ))
def renO (ρ : Ren) : AObj -> AObj
 | .cells l => .cells (l.map (renC ρ))
 | .arr e sz l => .arr e sz l
 | .arrC e sz l => .arrC e sz (l.map (·.map (renC ρ)))
 | .ext X => .ext X
 | .dead => .dead
def shift : Loc -> Nat -> Loc
 | .at b o, d => .at b (o + d)
 | .row A c, _ => .row A c
theorem shift_zero (l : Loc) : shift l 0 = l := by cases l <;> rfl
def MapsTo (mc m : List Loc) (ρ : Ren) : Prop := ∀ k l, mc[k]? = some l -> ∃ l0, m[(ρ k).1]? = some l0 /\ l = shift l0 (ρ k).2
theorem rc_ren {mc m : List Loc} {ρ : Ren} (h : MapsTo mc m ρ) {w : World} {F : Nat -> Nat -> Prop} {c : C} {v : Value} (hc : RC mc w F c v) : RC m w F (renC ρ c) v := by
 cases c with
 | p x => exact hc
 | any => trivial
 | ms id n =>
  obtain ⟨A, cap, h1, h2⟩ := hc
  obtain ⟨l0, h3, h4⟩ := h id _ h1
  cases l0 with
  | «at» b o => simp [shift] at h4
  | row A' c' => simp [shift] at h4; obtain ⟨rfl, rfl⟩ := h4; exact ⟨A, cap, h3, h2⟩
 | ptr id off =>
  obtain ⟨b, o, h1, h2⟩ := hc
  obtain ⟨l0, h3, h4⟩ := h id _ h1
  cases l0 with
  | «at» b' o' => simp [shift] at h4; obtain ⟨rfl, rfl⟩ := h4; exact ⟨b, o', h3, by rw [h2, Nat.add_assoc]⟩
  | row A' c' => simp [shift] at h4
 | ept id sz i off =>
  obtain ⟨b, cap, h1, h2⟩ := hc
  obtain ⟨l0, h3, h4⟩ := h id _ h1
  cases l0 with
  | «at» b o => simp [shift] at h4
  | row A' c' => simp [shift] at h4; obtain ⟨rfl, rfl⟩ := h4; exact ⟨b, cap, h3, h2⟩
 | mpr id =>
  obtain ⟨b, cap, h1, h2⟩ := hc
  obtain ⟨l0, h3, h4⟩ := h id _ h1
  cases l0 with
  | «at» b o => simp [shift] at h4
  | row A' c' => simp [shift] at h4; obtain ⟨rfl, rfl⟩ := h4; exact ⟨b, cap, h3, h2⟩
 | fnp f l =>
  obtain ⟨vs, h1, h2, h3⟩ := hc
  refine ⟨vs, h1, by simpa using h2, fun j p hp => ?_⟩
  rw [List.getElem?_map, Option.map_eq_some_iff] at hp
  obtain ⟨q, hq, rfl⟩ := hp
  obtain ⟨b, o, g1, g2⟩ := h3 j q hq
  obtain ⟨l0, g3, g4⟩ := h q.1 _ g1
  cases l0 with
  | «at» b' o' => simp [shift] at g4; obtain ⟨rfl, rfl⟩ := g4; exact ⟨b, o', g3, by rw [g2, Nat.add_assoc]⟩
  | row A' c' => simp [shift] at g4
theorem rv0_ren {mc m : List Loc} {ρ : Ren} (h : MapsTo mc m ρ) {w : World} {F : Nat -> Nat -> Prop} {c : AV} {v : Value} (hc : RV0 mc w F c v) : RV0 m w F (renV0 ρ c) v := by
 cases c with
 | c x => exact rc_ren h hc
 | agg l =>
  obtain ⟨cs, h1, h2, h3⟩ := hc
  refine ⟨cs, h1, by simpa using h2, fun j x hx => ?_⟩
  simp only [List.getElem?_map, Option.map_eq_some_iff] at hx
  obtain ⟨y, hy, rfl⟩ := hx
  exact rc_ren h (h3 j y hy)
 | tup l => exact hc.elim
theorem rv_ren {mc m : List Loc} {ρ : Ren} (h : MapsTo mc m ρ) {w : World} {F : Nat -> Nat -> Prop} {c : AV} {v : Value} (hc : RV mc w F c v) : RV m w F (renV ρ c) v := by
 cases c with
 | c x => exact rc_ren h hc
 | agg l => exact rv0_ren (c := .agg l) h hc
 | tup l =>
  obtain ⟨cs, h1, h2, h3⟩ := hc
  refine ⟨cs, h1, by simpa using h2, fun j x hx => ?_⟩
  simp only [List.getElem?_map, Option.map_eq_some_iff] at hx
  obtain ⟨y, hy, rfl⟩ := hx
  exact rv0_ren h (h3 j y hy)
def okC (n : Nat) : C -> Bool
 | .ms id _ => Nat.blt id n
 | .ptr id _ => Nat.blt id n
 | .ept id _ _ _ => Nat.blt id n
 | .mpr id => Nat.blt id n
 | .fnp _ l => l.all fun p => Nat.blt p.1 n
 | _ => true
def okV0 (n : Nat) : AV -> Bool
 | .c x => okC n x
 | .agg l => l.all (okC n)
 | .tup _ => true
def okV (n : Nat) : AV -> Bool
 | .tup l => l.all (okV0 n)
 | x => okV0 n x
def okO (n : Nat) : AObj -> Bool
 | .cells l => l.all (okC n)
 | .arrC _ _ l => l.all fun e => e.all (okC n)
 | _ => true
theorem blt_lt {a b : Nat} (h : Nat.blt a b = true) : a < b := Nat.blt_eq ▸ h
theorem rc_unren {mc m : List Loc} {ρ : Ren} {n : Nat} (h : ∀ k, k < n -> ∃ l0, m[(ρ k).1]? = some l0 /\ mc[k]? = some (shift l0 (ρ k).2)) {w : World} {F : Nat -> Nat -> Prop} {c : C} {v : Value} (hok : okC n c = true) (hc : RC m w F (renC ρ c) v) : RC mc w F c v := by
 cases c with
 | p x => exact hc
 | any => trivial
 | ms id q =>
  obtain ⟨A, cap, h1, h2⟩ := hc
  obtain ⟨l0, h3, h4⟩ := h id (blt_lt hok)
  rw [h1] at h3; injection h3 with h3; subst h3
  exact ⟨A, cap, h4, h2⟩
 | ptr id off =>
  obtain ⟨b, o, h1, h2⟩ := hc
  obtain ⟨l0, h3, h4⟩ := h id (blt_lt hok)
  rw [h1] at h3; injection h3 with h3; subst h3
  exact ⟨b, _, h4, by rw [h2, Nat.add_assoc]⟩
 | ept id sz i off =>
  obtain ⟨b, cap, h1, h2⟩ := hc
  obtain ⟨l0, h3, h4⟩ := h id (blt_lt hok)
  rw [h1] at h3; injection h3 with h3; subst h3
  exact ⟨b, cap, h4, h2⟩
 | mpr id =>
  obtain ⟨b, cap, h1, h2⟩ := hc
  obtain ⟨l0, h3, h4⟩ := h id (blt_lt hok)
  rw [h1] at h3; injection h3 with h3; subst h3
  exact ⟨b, cap, h4, h2⟩
 | fnp f l =>
  obtain ⟨vs, h1, h2, h3⟩ := hc
  refine ⟨vs, h1, by simpa using h2, fun j p hp => ?_⟩
  obtain ⟨b, o, g1, g2⟩ := h3 j ((ρ p.1).1, (ρ p.1).2 + p.2) (by rw [List.getElem?_map, hp]; rfl)
  obtain ⟨l0, g3, g4⟩ := h p.1 (blt_lt (List.all_eq_true.1 hok p (List.mem_of_getElem? hp)))
  rw [g1] at g3; injection g3 with g3; subst g3
  exact ⟨b, _, g4, by rw [g2, Nat.add_assoc]⟩
theorem rv_unren {mc m : List Loc} {ρ : Ren} {n : Nat} (h : ∀ k, k < n -> ∃ l0, m[(ρ k).1]? = some l0 /\ mc[k]? = some (shift l0 (ρ k).2)) {w : World} {F : Nat -> Nat -> Prop} {c : AV} {v : Value} (hok : okV n c = true) (hc : RV m w F (renV ρ c) v) : RV mc w F c v := by
 cases c with
 | c x => exact rc_unren h hok hc
 | agg l =>
  obtain ⟨cs, h1, h2, h3⟩ := hc
  refine ⟨cs, h1, by simpa using h2, fun j x hx => rc_unren h (List.all_eq_true.1 hok x (List.mem_of_getElem? hx)) (h3 j (renC ρ x) (by rw [List.getElem?_map, hx]; rfl))⟩
 | tup l =>
  obtain ⟨cs, h1, h2, h3⟩ := hc
  refine ⟨cs, h1, by simpa using h2, fun j x hx => ?_⟩
  have h4 := h3 j (renV0 ρ x) (by rw [List.getElem?_map, hx]; rfl)
  have hok' := List.all_eq_true.1 hok x (List.mem_of_getElem? hx)
  cases x with
  | c y => exact rc_unren h hok' h4
  | agg l =>
   obtain ⟨cs', g1, g2, g3⟩ := h4
   exact ⟨cs', g1, by simpa using g2, fun j x hx => rc_unren h (List.all_eq_true.1 hok' x (List.mem_of_getElem? hx)) (g3 j (renC ρ x) (by rw [List.getElem?_map, hx]; rfl))⟩
  | tup l => exact h4.elim
def ren1 (ρl : List (Nat × Nat)) : Ren := fun k => ρl.getD k (0, 0)
def ren2 (ρl : List (Nat × Nat)) (s : Nat) : Ren := fun k => if k < ρl.length then ρl.getD k (0, 0) else (s + (k - ρl.length), 0)
def passO (ρ : Ren) (n : Nat) (o : AObj) (off : Nat) : AObj -> Prop
 | .cells lc => ∃ l, o = .cells l /\ off + lc.length <= l.length /\ (l.drop off).take lc.length = lc.map (renC ρ) /\ lc.all (okC n) = true
 | .arr e sz l => o = .arr e sz l
 | .arrC e sz lc => o = .arrC e sz (lc.map (·.map (renC ρ))) /\ (lc.all fun e => e.all (okC n)) = true
 | .ext X => o = .ext X /\ off = 0
 | .dead => True
def backO (ρ : Ren) (o : AObj) (off : Nat) (oc : AObj) : AObj :=
 match o, oc with
 | .cells l, .cells lc => .cells (lay l off (lc.map (renC ρ)))
 | _, .arr e sz l => .arr e sz l
 | _, .arrC e sz l => .arrC e sz (l.map (·.map (renC ρ)))
 | _, .ext X => .ext X
 | _, _ => .dead
def back (ρ : Ren) : List AObj -> List (Nat × Nat) -> List AObj -> List AObj
 | σ, [], rest => σ ++ rest.map (renO ρ)
 | σ, (id, off) :: r, oc :: rest => back ρ (σ.set id (backO ρ (σ.getD id .dead) off oc)) r rest
 | σ, _ :: _, [] => σ
theorem back_get (ρ : Ren) : ∀ (ρl : List (Nat × Nat)) (σ σo : List AObj), (ρl.map (·.1)).Nodup -> (∀ p ∈ ρl, p.1 < σ.length) -> ρl.length <= σo.length ->
  (back ρ σ ρl σo).length = σ.length + (σo.length - ρl.length) /\ ∀ (j : Nat) o'', (back ρ σ ρl σo)[j]? = some o'' ->
   (j < σ.length /\ (∀ p ∈ ρl, p.1 ≠ j) /\ σ[j]? = some o'') \/ (∃ (k : Nat) (off : Nat) (o oc : AObj), ρl[k]? = some (j, off) /\ σ[j]? = some o /\ σo[k]? = some oc /\ o'' = backO ρ o off oc) \/ (∃ (k : Nat) (oc : AObj), ρl.length <= k /\ j = σ.length + (k - ρl.length) /\ σo[k]? = some oc /\ o'' = renO ρ oc) := by
 intro ρl
 induction ρl with
 | nil =>
  intro σ σo _ _ _
  refine ⟨by simp [back], fun j o'' h => ?_⟩
  simp only [back] at h
  rcases Nat.lt_or_ge j σ.length with hj | hj
  ·rw [List.getElem?_append_left hj] at h
   exact .inl ⟨hj, by simp, h⟩
  ·rw [List.getElem?_append_right hj, List.getElem?_map, Option.map_eq_some_iff] at h
   obtain ⟨oc, h1, h2⟩ := h
   exact .inr (.inr ⟨j - σ.length, oc, by simp, by simp; omega, h1, h2.symm⟩)
 | cons p r ih =>
  intro σ σo hnd hlt hle
  obtain ⟨id, off⟩ := p
  cases σo with
  | nil => simp at hle
  | cons oc0 rest =>
   simp only [List.map_cons, List.nodup_cons] at hnd
   have hid : id < σ.length := hlt _ (List.mem_cons_self ..)
   obtain ⟨h1, h2⟩ := ih (σ.set id (backO ρ (σ.getD id .dead) off oc0)) rest hnd.2 (fun p hp => by simpa using hlt p (List.mem_cons_of_mem _ hp)) (by simpa using hle)
   have hnid : ∀ p ∈ r, p.1 ≠ id := fun p hp he => hnd.1 (List.mem_map.2 ⟨p, hp, he⟩)
   simp only [back]
   refine ⟨by rw [h1]; simp, fun j o'' h => ?_⟩
   rcases h2 j o'' h with ⟨a1, a2, a3⟩ | ⟨k, off', o, oc, a1, a2, a3, a4⟩ | ⟨k, oc, a1, a2, a3, a4⟩
   ·by_cases hj : j = id
    ·subst hj
     rw [List.getElem?_set_self hid] at a3
     injection a3 with a3
     refine .inr (.inl ⟨0, off, σ.getD j .dead, oc0, rfl, ?_, rfl, a3.symm⟩)
     rw [List.getD_eq_getElem?_getD, List.getElem?_eq_getElem hid]; rfl
    ·rw [List.getElem?_set_ne (fun e => hj e.symm)] at a3
     refine .inl ⟨by simpa using a1, fun p hp => ?_, a3⟩
     rcases List.mem_cons.1 hp with rfl | hp
     ·exact fun e => hj e.symm
     ·exact a2 p hp
   ·have hj : j ≠ id := hnid _ (List.mem_of_getElem? a1)
    rw [List.getElem?_set_ne (fun e => hj e.symm)] at a2
    exact .inr (.inl ⟨k + 1, off', o, oc, by simpa using a1, a2, by simpa using a3, a4⟩)
   ·exact .inr (.inr ⟨k + 1, oc, by simp only [List.length_cons]; omega, by simp only [List.length_cons, List.length_set] at a2 ⊢; omega, by simpa using a3, a4⟩)
def okBack (n : Nat) : List AObj -> List AObj -> Bool
 | [], rest => rest.all (okO n)
 | .cells lc :: r, .cells lc' :: rest => Nat.beq lc'.length lc.length && lc'.all (okC n) && okBack n r rest
 | .arr _ _ _ :: r, .arr _ _ _ :: rest => okBack n r rest
 | .arr _ _ _ :: r, .arrC _ _ l :: rest => (l.all fun e => e.all (okC n)) && okBack n r rest
 | .arr _ _ _ :: r, .dead :: rest => okBack n r rest
 | .arrC _ _ _ :: r, .arr _ _ _ :: rest => okBack n r rest
 | .arrC _ _ _ :: r, .arrC _ _ l :: rest => (l.all fun e => e.all (okC n)) && okBack n r rest
 | .arrC _ _ _ :: r, .dead :: rest => okBack n r rest
 | .ext _ :: r, .ext _ :: rest => okBack n r rest
 | .ext _ :: r, .dead :: rest => okBack n r rest
 | .dead :: r, .dead :: rest => okBack n r rest
 | _, _ => false
def rowO : AObj -> Bool
 | .arr .. => true
 | .arrC .. => true
 | _ => false
theorem okBack_get (n : Nat) : ∀ (σc σo : List AObj), okBack n σc σo = true -> σc.length <= σo.length /\ (∀ (k : Nat) oc oo, σc[k]? = some oc -> σo[k]? = some oo -> (∃ lc lc', oc = .cells lc /\ oo = .cells lc' /\ lc'.length = lc.length) \/ rowO oo = true \/ (∃ X Y, oc = .ext X /\ oo = .ext Y) \/ oo = .dead) /\ ∀ (k : Nat) oo, σo[k]? = some oo -> okO n oo = true := by
 intro σc
 induction σc with
 | nil =>
  intro σo h
  refine ⟨by simp, fun k oc oo h => by simp at h, fun k oo hk => ?_⟩
  simp only [okBack] at h
  exact List.all_eq_true.1 h oo (List.mem_of_getElem? hk)
 | cons oc0 r ih =>
  intro σo h
  cases σo with
  | nil => cases oc0 <;> simp [okBack] at h
  | cons oo0 rest =>
   have key : okBack n r rest = true /\ okO n oo0 = true /\ ((∃ lc lc', oc0 = .cells lc /\ oo0 = .cells lc' /\ lc'.length = lc.length) \/ rowO oo0 = true \/ (∃ X Y, oc0 = .ext X /\ oo0 = .ext Y) \/ oo0 = .dead) := by
    cases oc0 <;> cases oo0 <;> simp only [okBack, Bool.and_eq_true, Bool.false_eq_true] at h <;> first
     | exact ⟨h.2, h.1.2, .inl ⟨_, _, rfl, rfl, Nat.eq_of_beq_eq_true h.1.1⟩⟩
     | exact ⟨h, rfl, .inr (.inl rfl)⟩
     | exact ⟨h.2, h.1, .inr (.inl rfl)⟩
     | exact ⟨h, rfl, .inr (.inr (.inl ⟨_, _, rfl, rfl⟩))⟩
     | exact ⟨h, rfl, .inr (.inr (.inr rfl))⟩
   obtain ⟨g1, g2, g3⟩ := ih rest key.1
   refine ⟨by simpa using g1, fun k oc oo h1 h2 => ?_, fun k oo hk => ?_⟩
   ·cases k with
    | zero => simp at h1 h2; subst h1; subst h2; exact key.2.2
    | succ k => exact g2 k oc oo (by simpa using h1) (by simpa using h2)
   ·cases k with
    | zero => simp at hk; subst hk; exact key.2.1
    | succ k => exact g3 k oo (by simpa using hk)
section
variable {P : Program} {N : NN} {Q : AE -> St -> Prop} {ops : Array Oper} {rest : List Oper} {σ σ' : List AObj} {fr : Fr}
theorem inv_in {m : List Loc} {F : Nat -> Nat -> Prop} {w : World} (i : Inv m F σ w) {ρl : List (Nat × Nat)} {σc : List AObj} (hl : ρl.length = σc.length) (hnd : (ρl.map (·.1)).Nodup) (hp : ∀ (k : Nat) id off oc, ρl[k]? = some (id, off) -> σc[k]? = some oc -> ∃ o, σ[id]? = some o /\ passO (ren1 ρl) ρl.length o off oc) :
  ∃ mc, mc.length = σc.length /\ (∀ k, k < ρl.length -> ∃ l0, m[((ren1 ρl) k).1]? = some l0 /\ mc[k]? = some (shift l0 ((ren1 ρl) k).2)) /\ Inv mc F σc w /\ (∀ (k : Nat) oc lc, σc[k]? = some oc -> mc[k]? = some lc -> ∃ id off o l, ρl[k]? = some (id, off) /\ σ[id]? = some o /\ m[id]? = some l /\ lc = shift l off /\ ∀ b q, fp oc lc b q -> fp o l b q) := by
 have hat : ∀ k, k < ρl.length -> ∃ (id off : Nat) (oc o : AObj) (l : Loc), ρl[k]? = some (id, off) /\ σc[k]? = some oc /\ σ[id]? = some o /\ m[id]? = some l /\ passO (ren1 ρl) ρl.length o off oc /\ (ren1 ρl) k = (id, off) := by
  intro k hk
  obtain ⟨⟨id, off⟩, h1⟩ : ∃ p, ρl[k]? = some p := ⟨_, List.getElem?_eq_getElem hk⟩
  have h2 : σc[k]? = some (σc[k]'(by omega)) := List.getElem?_eq_getElem (by omega)
  obtain ⟨o, h3, h4⟩ := hp k id off _ h1 h2
  have hid : id < m.length := by rw [i.len]; exact (List.getElem?_eq_some_iff.1 h3).1
  exact ⟨id, off, _, o, m[id], h1, h2, h3, List.getElem?_eq_getElem hid, h4, by simp [ren1, List.getD_eq_getElem?_getD, h1]⟩
 let mc : List Loc := ρl.map fun p => shift (m.getD p.1 (.row none 0)) p.2
 have hmc : ∀ k, k < ρl.length -> ∀ id off l, ρl[k]? = some (id, off) -> m[id]? = some l -> mc[k]? = some (shift l off) := by
  intro k hk id off l h1 h2
  simp only [mc, List.getElem?_map, h1, Option.map_some, List.getD_eq_getElem?_getD, h2, Option.getD_some]
 have hmlen : mc.length = σc.length := by simp [mc, hl]
 have hunr : ∀ k, k < ρl.length -> ∃ l0, m[((ren1 ρl) k).1]? = some l0 /\ mc[k]? = some (shift l0 ((ren1 ρl) k).2) := by
  intro k hk
  obtain ⟨id, off, oc, o, l, h1, h2, h3, h4, h5, h6⟩ := hat k hk
  rw [h6]
  exact ⟨l, h4, hmc k hk id off l h1 h4⟩
 have hall : ∀ (k : Nat) oc lc, σc[k]? = some oc -> mc[k]? = some lc -> ∃ id off o l, ρl[k]? = some (id, off) /\ σ[id]? = some o /\ m[id]? = some l /\ lc = shift l off /\ passO (ren1 ρl) ρl.length o off oc := by
  intro k oc lc h1 h2
  have hk : k < ρl.length := by rw [hl]; exact (List.getElem?_eq_some_iff.1 h1).1
  obtain ⟨id, off, oc', o, l, a1, a2, a3, a4, a5, a6⟩ := hat k hk
  rw [h1] at a2; injection a2 with a2; subst a2
  rw [hmc k hk id off l a1 a4] at h2
  injection h2 with h2
  exact ⟨id, off, o, l, a1, a3, a4, h2.symm, a5⟩
 have hfp : ∀ (k : Nat) oc lc, σc[k]? = some oc -> mc[k]? = some lc -> ∃ id off o l, ρl[k]? = some (id, off) /\ σ[id]? = some o /\ m[id]? = some l /\ lc = shift l off /\ ∀ b q, fp oc lc b q -> fp o l b q := by
  intro k oc lc h1 h2
  obtain ⟨id, off, o, l, a1, a2, a3, a4, a5⟩ := hall k oc lc h1 h2
  refine ⟨id, off, o, l, a1, a2, a3, a4, fun b q hf => ?_⟩
  subst a4
  cases oc with
  | dead => exact hf.elim
  | cells lc =>
   obtain ⟨l', rfl, h3, h4, h5⟩ := a5
   cases l with
   | row => exact hf.elim
   | «at» b0 o0 => obtain ⟨rfl, g1, g2⟩ := hf; exact ⟨rfl, by omega, by omega⟩
  | arr e sz l' =>
   have a5 : o = .arr e sz l' := a5
   subst a5
   cases l with
   | «at» => exact hf.elim
   | row A c => exact hf
  | arrC e sz l' =>
   obtain ⟨rfl, _⟩ := a5
   cases l with
   | «at» => exact hf.elim
   | row A c => exact hf
  | ext X =>
   obtain ⟨rfl, rfl⟩ := a5
   rw [shift_zero] at hf; exact hf
 have hFP : ∀ b q, FP σc mc b q -> FP σ m b q := by
  rintro b q ⟨k, oc, lc, h1, h2, h3⟩
  obtain ⟨id, off, o, l, a1, a2, a3, a4, a5⟩ := hfp k oc lc h1 h2
  exact ⟨id, o, l, a2, a3, a5 b q h3⟩
 refine ⟨mc, hmlen, hunr, ⟨hmlen, i.frz, fun b q h => i.lt b q (hFP b q h), ?_, ?_, fun b q h => i.dis b q (hFP b q h)⟩, hfp⟩
 ·intro k oc lc h1 h2
  obtain ⟨id, off, o, l, a1, a2, a3, a4, a5⟩ := hall k oc lc h1 h2
  have hob := i.obj id o l a2 a3
  subst a4
  cases oc with
  | dead => cases l <;> trivial
  | cells cl =>
   obtain ⟨l', rfl, h3, h4, h5⟩ := a5
   cases l with
   | row => exact hob.elim
   | «at» b0 o0 =>
    intro j c hj
    have hjl : j < cl.length := (List.getElem?_eq_some_iff.1 hj).1
    have hc : l'[off + j]? = some (renC (ren1 ρl) c) := by
     have : ((l'.drop off).take cl.length)[j]? = (cl.map (renC (ren1 ρl)))[j]? := by rw [h4]
     rw [List.getElem?_take, if_pos hjl, List.getElem?_drop, List.getElem?_map, hj] at this
     exact this
    obtain ⟨⟨u, e1, e2⟩, e3⟩ := hob (off + j) _ hc
    rw [<- Nat.add_assoc] at e1 e3
    exact ⟨⟨u, e1, rc_unren hunr (List.all_eq_true.1 h5 c (List.mem_of_getElem? hj)) e2⟩, e3⟩
  | arr e sz l' =>
   have a5 : o = .arr e sz l' := a5
   subst a5
   cases l with
   | «at» => exact hob.elim
   | row A c => exact hob
  | arrC e sz l' =>
   obtain ⟨rfl, hok⟩ := a5
   cases l with
   | «at» => exact hob.elim
   | row A c =>
    obtain ⟨xs, e1, e2, e3⟩ := hob
    rw [List.length_map] at e1
    refine ⟨xs, e1, fun e he => by have := e2 _ (List.mem_map_of_mem he); simpa using this, fun i e he j x hx => ?_⟩
    exact rc_unren hunr (List.all_eq_true.1 (List.all_eq_true.1 hok e (List.mem_of_getElem? he)) x (List.mem_of_getElem? hx)) (e3 i (e.map (renC (ren1 ρl))) (by rw [List.getElem?_map, he]; rfl) j (renC (ren1 ρl) x) (by rw [List.getElem?_map, hx]; rfl))
  | ext X =>
   obtain ⟨rfl, rfl⟩ := a5
   rw [shift_zero]; exact hob
 ·intro j k oj lj ok lk hne h1 h2 h3 h4 b q hf1 hf2
  obtain ⟨id1, off1, o1, l1, a1, a2, a3, _, a5⟩ := hfp j oj lj h1 h2
  obtain ⟨id2, off2, o2, l2, b1, b2, b3, _, b5⟩ := hfp k ok lk h3 h4
  have hid : id1 ≠ id2 := by
   intro he
   subst he
   have e1 : (ρl.map (·.1))[j]? = some id1 := by rw [List.getElem?_map, a1]; rfl
   have e2 : (ρl.map (·.1))[k]? = some id1 := by rw [List.getElem?_map, b1]; rfl
   exact hne ((List.getElem?_inj (List.getElem?_eq_some_iff.1 e1).1 hnd).1 (e1.trans e2.symm))
  exact i.sep id1 id2 o1 l1 o2 l2 hid a2 a3 b2 b3 b q (a5 b q hf1) (b5 b q hf2)
theorem getElem?_take_lt {α : Type} {l : List α} {n k : Nat} {x : α} (h : (l.take n)[k]? = some x) : k < n /\ l[k]? = some x := by
 rw [List.getElem?_take] at h
 split at h
 ·rename_i hk; exact ⟨hk, h⟩
 ·cases h
theorem inv_out {m mc k2 : List Loc} {F F' : Nat -> Nat -> Prop} {w w' : World} (i : Inv m F σ w) {ρl : List (Nat × Nat)} {σc σo gb : List AObj} (hl : ρl.length = σc.length) (hnd : (ρl.map (·.1)).Nodup)
  (hmc : mc.length = σc.length) (hunr : ∀ k, k < ρl.length -> ∃ l0, m[((ren1 ρl) k).1]? = some l0 /\ mc[k]? = some (shift l0 ((ren1 ρl) k).2)) (ic : Inv mc F σc w)
  (hfp : ∀ (k : Nat) oc lc, σc[k]? = some oc -> mc[k]? = some lc -> ∃ id off o l, ρl[k]? = some (id, off) /\ σ[id]? = some o /\ m[id]? = some l /\ lc = shift l off /\ ∀ b q, fp oc lc b q -> fp o l b q)
  (hpass : ∀ (k : Nat) id off oc, ρl[k]? = some (id, off) -> σc[k]? = some oc -> ∃ o, σ[id]? = some o /\ passO (ren1 ρl) ρl.length o off oc)
  (hb : okBack σo.length σc σo = true) (i' : Inv (mc ++ k2) F' (σo ++ gb) w') (st : Step mc F σc w (mc ++ k2) F' (σo ++ gb) w') :
  let kk := k2.take (σo.length - ρl.length)
  MapsTo ((mc ++ k2).take σo.length) (m ++ kk) (ren2 ρl σ.length) /\ Inv (m ++ kk) F' (back (ren2 ρl σ.length) σ ρl σo) w' /\ Step m F σ w (m ++ kk) F' (back (ren2 ρl σ.length) σ ρl σo) w' := by
 intro kk
 obtain ⟨hbl, hbk, hbo⟩ := okBack_get _ σc σo hb
 have hlen' : mc.length + k2.length = σo.length + gb.length := by have := i'.len; simpa using this
 have hkk : kk.length = σo.length - ρl.length := by simp only [kk, List.length_take]; omega
 have hρlt : ∀ p ∈ ρl, p.1 < σ.length := by
  intro p hp
  obtain ⟨k, hk, rfl⟩ := List.mem_iff_getElem.1 hp
  obtain ⟨o, ho, _⟩ := hpass k (ρl[k].1) (ρl[k].2) _ (List.getElem?_eq_getElem hk) (List.getElem?_eq_getElem (show k < σc.length by omega))
  exact (List.getElem?_eq_some_iff.1 ho).1
 have hmaps : MapsTo ((mc ++ k2).take σo.length) (m ++ kk) (ren2 ρl σ.length) := by
  intro k l hk
  obtain ⟨hkn, hk⟩ := getElem?_take_lt hk
  by_cases h1 : k < ρl.length
  ·obtain ⟨l0, e1, e2⟩ := hunr k h1
   rw [List.getElem?_append_left (by omega), e2] at hk
   injection hk with hk
   refine ⟨l0, ?_, ?_⟩
   ·simp only [ren2, h1, if_true]; exact getElem?_ext e1
   ·simp only [ren2, h1, if_true]; exact hk.symm
  ·rw [List.getElem?_append_right (by omega)] at hk
   refine ⟨l, ?_, ?_⟩
   ·simp only [ren2, h1, if_false]
    rw [List.getElem?_append_right (by rw [i.len]; omega), i.len]
    have : σ.length + (k - ρl.length) - σ.length = k - mc.length := by omega
    rw [this]
    simp only [kk, List.getElem?_take]
    rw [if_pos (by omega)]; exact hk
   ·simp only [ren2, h1, if_false]; cases l <;> simp [shift]
 obtain ⟨hbacklen, hback⟩ := back_get (ren2 ρl σ.length) ρl σ σo hnd hρlt (by omega)
 have hcel : ∀ b q, FP σ m b q -> ¬ FP σc mc b q -> w'.cell? ⟨b, q, none⟩ = w.cell? ⟨b, q, none⟩ /\ w'.frozen? ⟨b, q, none⟩ = w.frozen? ⟨b, q, none⟩ := fun b q h hn => st.cel b q (i.lt b q h) hn
 have hF : ∀ b q, F b q -> w'.cell? ⟨b, q, none⟩ = w.cell? ⟨b, q, none⟩ := fun b q h => (st.cel b q (i.frz b q h) fun hf => ic.dis b q hf h).1
 have hcFP : ∀ b q, FP σc mc b q -> FP σ m b q := by
  rintro b q ⟨k, oc, lc, h1, h2, h3⟩
  obtain ⟨id, off, o, l, a1, a2, a3, a4, a5⟩ := hfp k oc lc h1 h2
  exact ⟨id, o, l, a2, a3, a5 b q h3⟩
 have hapart : ∀ (j : Nat) oj lj, (∀ p ∈ ρl, p.1 ≠ j) -> σ[j]? = some oj -> m[j]? = some lj -> ∀ b q, fp oj lj b q -> ¬ FP σc mc b q := by
  rintro j oj lj hj h1 h2 b q hf ⟨k, oc, lc, g1, g2, g3⟩
  obtain ⟨id, off, o, l, a1, a2, a3, a4, a5⟩ := hfp k oc lc g1 g2
  have hne : j ≠ id := fun e => hj _ (List.mem_of_getElem? a1) e.symm
  exact i.sep j id _ _ _ _ hne h1 h2 a2 a3 b q hf (a5 b q g3)
 have hget : ∀ (k : Nat) oo lo, σo[k]? = some oo -> (mc ++ k2)[k]? = some lo -> ((σo ++ gb)[k]? = some oo) := fun k oo lo h _ => by rw [List.getElem?_append_left (List.getElem?_eq_some_iff.1 h).1]; exact h
 have hclass : ∀ (j : Nat) oj lj, (back (ren2 ρl σ.length) σ ρl σo)[j]? = some oj -> (m ++ kk)[j]? = some lj -> ∀ b q, fp oj lj b q ->
   (∃ o, j < σ.length /\ σ[j]? = some o /\ m[j]? = some lj /\ fp o lj b q /\ ¬ FP σc mc b q) \/ (∃ (k : Nat) (oo : AObj) (lo : Loc), σo[k]? = some oo /\ (mc ++ k2)[k]? = some lo /\ fp oo lo b q /\ ((ren2 ρl σ.length) k).1 = j) := by
  intro j oj lj h1 h2 b q hf
  rcases hback j oj h1 with ⟨a1, a2, a3⟩ | ⟨k, off, o, oc, a1, a2, a3, a4⟩ | ⟨k, oc, a1, a2, a3, a4⟩
  ·rw [List.getElem?_append_left (by rw [i.len]; exact a1)] at h2
   exact .inl ⟨oj, a1, a3, h2, hf, hapart j oj lj a2 a3 h2 b q hf⟩
  ·have hkl : k < ρl.length := (List.getElem?_eq_some_iff.1 a1).1
   have hj : j < σ.length := (List.getElem?_eq_some_iff.1 a2).1
   rw [List.getElem?_append_left (by rw [i.len]; exact hj)] at h2
   obtain ⟨l0, e1, e2⟩ := hunr k hkl
   have hren : (ren1 ρl) k = (j, off) := by simp [ren1, List.getD_eq_getElem?_getD, a1]
   have hren2 : ((ren2 ρl σ.length) k).1 = j := by simp only [ren2, hkl, if_true, List.getD_eq_getElem?_getD, a1, Option.getD_some]
   rw [hren] at e1 e2
   simp only at e1 e2
   rw [h2] at e1; injection e1 with e1; subst e1
   have e2' : (mc ++ k2)[k]? = some (shift lj off) := getElem?_ext e2
   have hck : σc[k]? = some (σc[k]'(by omega)) := List.getElem?_eq_getElem (by omega)
   obtain ⟨o', p1, p2⟩ := hpass k j off _ a1 hck
   rw [a2] at p1; injection p1 with p1; subst p1
   rcases hbk k _ oc hck a3 with ⟨lc, lc', c1, c2, c3⟩ | c2 | ⟨X, Y, c1, c2⟩ | c2
   ·rw [c1] at p2
    obtain ⟨l', rfl, p3, p4, p5⟩ := p2
    subst c2
    subst a4
    simp only [backO] at hf
    cases lj with
    | row => exact hf.elim
    | «at» b0 o0 =>
     simp only [fp] at hf
     rw [lay_length _ _ _ (by simp; omega)] at hf
     obtain ⟨rfl, g1, g2⟩ := hf
     by_cases hin : o0 + off <= q /\ q < o0 + off + lc.length
     ·exact .inr ⟨k, _, _, a3, e2', ⟨rfl, hin.1, by rw [c3]; exact hin.2⟩, hren2⟩
     ·refine .inl ⟨_, hj, a2, h2, ⟨rfl, g1, g2⟩, ?_⟩
      rintro ⟨k', oc', lc'', g3, g4, g5⟩
      by_cases hkk' : k' = k
      ·subst hkk'
       rw [hck, c1] at g3; injection g3 with g3; subst g3
       rw [e2] at g4; injection g4 with g4; subst g4
       obtain ⟨_, g6, g7⟩ := g5
       exact hin ⟨g6, g7⟩
      ·obtain ⟨id, off', o2, l2, b1, b2, b3, b4, b5⟩ := hfp k' oc' lc'' g3 g4
       have hne : j ≠ id := by
        intro he
        subst he
        have f1 : (ρl.map (·.1))[k]? = some j := by rw [List.getElem?_map, a1]; rfl
        have f2 : (ρl.map (·.1))[k']? = some j := by rw [List.getElem?_map, b1]; rfl
        exact hkk' ((List.getElem?_inj (List.getElem?_eq_some_iff.1 f2).1 hnd).1 (f2.trans f1.symm))
       exact i.sep j id _ _ _ _ hne a2 h2 b2 b3 _ q ⟨rfl, g1, g2⟩ (b5 _ q g5)
   ·refine .inr ⟨k, _, _, a3, e2', ?_, hren2⟩
    cases oc with
    | arr e' sz' l' =>
     have : oj = .arr e' sz' l' := by rw [a4]; cases o <;> rfl
     subst this
     cases lj with
     | «at» => exact hf.elim
     | row A c => exact hf
    | arrC e' sz' l' =>
     have : oj = .arrC e' sz' (l'.map (·.map (renC (ren2 ρl σ.length)))) := by rw [a4]; cases o <;> rfl
     subst this
     cases lj with
     | «at» => exact hf.elim
     | row A c => exact hf
    | _ => simp [rowO] at c2
   ·subst c2
    rw [c1] at p2
    obtain ⟨_, rfl⟩ := p2
    have : oj = .ext Y := by rw [a4]; cases o <;> rfl
    subst this
    exact .inr ⟨k, _, _, a3, e2', by rw [shift_zero]; exact hf, hren2⟩
   ·subst c2
    have : oj = .dead := by rw [a4]; cases o <;> rfl
    subst this
    exact hf.elim
  ·subst a4
   have hkn : k < σo.length := (List.getElem?_eq_some_iff.1 a3).1
   rw [List.getElem?_append_right (by rw [i.len]; omega), i.len, show j - σ.length = k - ρl.length by omega] at h2
   have h2' : (mc ++ k2)[k]? = some lj := by
    rw [List.getElem?_append_right (by omega), show k - mc.length = k - ρl.length by omega]
    exact (getElem?_take_lt h2).2
   refine .inr ⟨k, oc, lj, a3, h2', ?_, ?_⟩
   ·cases oc with
    | cells lc => cases lj with
     | row => exact hf.elim
     | «at» b0 o0 => simpa [renO, fp] using hf
    | arr e sz l => exact hf
    | arrC e sz l => cases lj with
     | «at» => exact hf.elim
     | row A c => exact hf
    | ext X => exact hf
    | dead => exact hf.elim
   ·simp only [ren2]; rw [if_neg (by omega)]; exact a2.symm
 have hFP'' : ∀ b q, FP (back (ren2 ρl σ.length) σ ρl σo) (m ++ kk) b q -> (FP σ m b q /\ ¬ FP σc mc b q) \/ FP (σo ++ gb) (mc ++ k2) b q := by
  rintro b q ⟨j, oj, lj, h1, h2, h3⟩
  rcases hclass j oj lj h1 h2 b q h3 with ⟨o, _, a1, a2, a3, a4⟩ | ⟨k, oo, lo, a1, a2, a3, _⟩
  ·exact .inl ⟨⟨j, o, lj, a1, a2, a3⟩, a4⟩
  ·exact .inr ⟨k, oo, lo, hget k oo lo a1 a2, a2, a3⟩
 have hnew : ∀ b q, (FP (σo ++ gb) (mc ++ k2) b q \/ F' b q) -> FP σc mc b q \/ F b q \/ w.heap.size <= b := st.new
 have hconv : ∀ c u, RC ((mc ++ k2).take σo.length) w' F' c u -> RC (m ++ kk) w' F' (renC (ren2 ρl σ.length) c) u := fun c u h => rc_ren hmaps h
 have hcut : ∀ c u, okC σo.length c = true -> RC (mc ++ k2) w' F' c u -> RC ((mc ++ k2).take σo.length) w' F' c u := by
  intro c u hok h
  cases c with
  | p x => exact h
  | any => trivial
  | ms id n => obtain ⟨A, cap, h1, h2⟩ := h; exact ⟨A, cap, by rw [List.getElem?_take, if_pos (blt_lt hok)]; exact h1, h2⟩
  | ptr id off => obtain ⟨b, o, h1, h2⟩ := h; exact ⟨b, o, by rw [List.getElem?_take, if_pos (blt_lt hok)]; exact h1, h2⟩
  | ept id sz i off => obtain ⟨b, o, h1, h2⟩ := h; exact ⟨b, o, by rw [List.getElem?_take, if_pos (blt_lt hok)]; exact h1, h2⟩
  | mpr id => obtain ⟨b, o, h1, h2⟩ := h; exact ⟨b, o, by rw [List.getElem?_take, if_pos (blt_lt hok)]; exact h1, h2⟩
  | fnp f l =>
   obtain ⟨vs, h1, h2, h3⟩ := h
   refine ⟨vs, h1, h2, fun j p hp => ?_⟩
   obtain ⟨b, o, g1, g2⟩ := h3 j p hp
   exact ⟨b, o, by rw [List.getElem?_take, if_pos (blt_lt (List.all_eq_true.1 hok p (List.mem_of_getElem? hp)))]; exact g1, g2⟩
 have hrowC : ∀ {A : Option Nat} {c : Nat} {e : TypeId} {sz : Nat} {l : List (List C)} {lo : Loc}, okO σo.length (.arrC e sz l) = true -> lo = .row A c -> ObjAt (mc ++ k2) w' F' (.arrC e sz l) lo -> ObjAt (m ++ kk) w' F' (.arrC e sz (l.map (·.map (renC (ren2 ρl σ.length))))) lo := by
  intro A c e sz l lo hok hlo h
  subst hlo
  obtain ⟨xs, e1, e2, e3⟩ := h
  refine ⟨xs, by rw [List.length_map]; exact e1, fun e he => ?_, fun i e he j x hx => ?_⟩
  ·obtain ⟨e0, h0, rfl⟩ := List.mem_map.1 he
   rw [List.length_map]; exact e2 _ h0
  ·rw [List.getElem?_map, Option.map_eq_some_iff] at he
   obtain ⟨e0, h0, rfl⟩ := he
   rw [List.getElem?_map, Option.map_eq_some_iff] at hx
   obtain ⟨x0, h1, rfl⟩ := hx
   exact hconv _ _ (hcut _ _ (List.all_eq_true.1 (List.all_eq_true.1 hok e0 (List.mem_of_getElem? h0)) x0 (List.mem_of_getElem? h1)) (e3 i e0 h0 j x0 h1))
 have hmapsNew : Inv (m ++ kk) F' (back (ren2 ρl σ.length) σ ρl σo) w' := by
  refine ⟨by rw [hbacklen, List.length_append, hkk, i.len], i'.frz, fun b q h => ?_, ?_, ?_, fun b q h hf => ?_⟩
  ·rcases hFP'' b q h with ⟨h, _⟩ | h
   ·exact Nat.lt_of_lt_of_le (i.lt b q h) st.size
   ·exact i'.lt b q h
  ·intro j oj lj h1 h2
   rcases hback j oj h1 with ⟨a1, a2, a3⟩ | ⟨k, off, o, oc, a1, a2, a3, a4⟩ | ⟨k, oc, a1, a2, a3, a4⟩
   ·rw [List.getElem?_append_left (by rw [i.len]; exact a1)] at h2
    exact ObjAt.mono (i.obj j oj lj a3 h2) st.fm hF (fun b q hf => hcel b q ⟨j, _, _, a3, h2, hf⟩ (hapart j _ _ a2 a3 h2 b q hf))
     (fun b q hf hall => st.blk b (i.lt b q ⟨j, _, _, a3, h2, hf⟩) fun q' hg => (hall q').elim (fun h => hapart j _ _ a2 a3 h2 b q' h hg) (fun h => ic.dis b q' hg h))
   ·have hkl : k < ρl.length := (List.getElem?_eq_some_iff.1 a1).1
    have hj : j < σ.length := (List.getElem?_eq_some_iff.1 a2).1
    rw [List.getElem?_append_left (by rw [i.len]; exact hj)] at h2
    obtain ⟨l0, e1, e2⟩ := hunr k hkl
    have hren : (ren1 ρl) k = (j, off) := by simp [ren1, List.getD_eq_getElem?_getD, a1]
    rw [hren] at e1 e2
    simp only at e1 e2
    rw [h2] at e1; injection e1 with e1; subst e1
    have e2' : (mc ++ k2)[k]? = some (shift lj off) := getElem?_ext e2
    have hck : σc[k]? = some (σc[k]'(by omega)) := List.getElem?_eq_getElem (by omega)
    obtain ⟨o', p1, p2⟩ := hpass k j off _ a1 hck
    rw [a2] at p1; injection p1 with p1; subst p1
    have hobc := i'.obj k oc _ (hget k oc _ a3 e2') e2'
    have hoko := hbo k oc a3
    rcases hbk k _ oc hck a3 with ⟨lc, lc', c1, c2, c3⟩ | c2 | ⟨X, Y, c1, c2⟩ | c2
    ·rw [c1] at p2
     obtain ⟨l', rfl, p3, p4, p5⟩ := p2
     subst c2
     subst a4
     have hob := i.obj j _ lj a2 h2
     cases lj with
     | row => exact hob.elim
     | «at» b0 o0 =>
      intro q c hq
      rw [lay_get _ _ _ _ (by simp; omega)] at hq
      simp only [List.length_map] at hq
      split at hq
      ·rename_i hin
       rw [List.getElem?_map, Option.map_eq_some_iff] at hq
       obtain ⟨c', hc', rfl⟩ := hq
       obtain ⟨⟨u, f1, f2⟩, f3⟩ := hobc (q - off) c' hc'
       rw [show o0 + off + (q - off) = o0 + q by omega] at f1 f3
       exact ⟨⟨u, f1, hconv _ _ (hcut _ _ (List.all_eq_true.1 hoko c' (List.mem_of_getElem? hc')) f2)⟩, f3⟩
      ·rename_i hin
       obtain ⟨⟨u, f1, f2⟩, f3⟩ := hob q c hq
       have hql : q < l'.length := (List.getElem?_eq_some_iff.1 hq).1
       have hinf : fp (.cells l') (.at b0 o0) b0 (o0 + q) := ⟨rfl, by omega, by omega⟩
       have hn : ¬ FP σc mc b0 (o0 + q) := by
        rintro ⟨k', oc', lc'', g3, g4, g5⟩
        by_cases hkk' : k' = k
        ·subst hkk'
         rw [hck, c1] at g3; injection g3 with g3; subst g3
         rw [e2] at g4; injection g4 with g4; subst g4
         obtain ⟨_, g6, g7⟩ := g5
         exact hin ⟨by omega, by omega⟩
        ·obtain ⟨id, off', o2, l2, b1, b2, b3, b4, b5⟩ := hfp k' oc' lc'' g3 g4
         have hne : j ≠ id := by
          intro he
          subst he
          have f1 : (ρl.map (·.1))[k]? = some j := by rw [List.getElem?_map, a1]; rfl
          have f2 : (ρl.map (·.1))[k']? = some j := by rw [List.getElem?_map, b1]; rfl
          exact hkk' ((List.getElem?_inj (List.getElem?_eq_some_iff.1 f2).1 hnd).1 (f2.trans f1.symm))
         exact i.sep j id _ _ _ _ hne a2 h2 b2 b3 _ _ hinf (b5 _ _ g5)
       have hc := hcel b0 (o0 + q) ⟨j, _, _, a2, h2, hinf⟩ hn
       exact ⟨⟨u, hc.1.trans f1, RC.mono st.fm hF f2⟩, hc.2.trans f3⟩
    ·cases oc with
     | arr e' sz' l' =>
      have : oj = .arr e' sz' l' := by rw [a4]; cases o <;> rfl
      subst this
      cases lj with
      | «at» => exact hobc.elim
      | row A c => exact hobc
     | arrC e' sz' l' =>
      have : oj = .arrC e' sz' (l'.map (·.map (renC (ren2 ρl σ.length)))) := by rw [a4]; cases o <;> rfl
      subst this
      cases lj with
      | «at» => exact hobc.elim
      | row A c => exact hrowC hoko rfl hobc
     | _ => simp [rowO] at c2
    ·subst c2
     rw [c1] at p2
     obtain ⟨_, rfl⟩ := p2
     have : oj = .ext Y := by rw [a4]; cases o <;> rfl
     subst this
     rw [shift_zero] at hobc; exact hobc
    ·subst c2
     have : oj = .dead := by rw [a4]; cases o <;> rfl
     subst this
     cases lj <;> trivial
   ·subst a4
    have hkn : k < σo.length := (List.getElem?_eq_some_iff.1 a3).1
    rw [List.getElem?_append_right (by rw [i.len]; omega), i.len, show j - σ.length = k - ρl.length by omega] at h2
    have h2' : (mc ++ k2)[k]? = some lj := by
     rw [List.getElem?_append_right (by omega), show k - mc.length = k - ρl.length by omega]
     exact (getElem?_take_lt h2).2
    have hobc := i'.obj k oc lj (hget k oc lj a3 h2') h2'
    have hoko := hbo k oc a3
    cases oc with
    | dead => cases lj <;> trivial
    | arr e sz l =>
     cases lj with
     | «at» => exact hobc.elim
     | row A c => exact hobc
    | arrC e sz l =>
     cases lj with
     | «at» => exact hobc.elim
     | row A c => exact hrowC hoko rfl hobc
    | ext X => exact hobc
    | cells lc =>
     cases lj with
     | row => exact hobc.elim
     | «at» b0 o0 =>
      intro q c hq
      rw [List.getElem?_map, Option.map_eq_some_iff] at hq
      obtain ⟨c', hc', rfl⟩ := hq
      obtain ⟨⟨u, f1, f2⟩, f3⟩ := hobc q c' hc'
      exact ⟨⟨u, f1, hconv _ _ (hcut _ _ (List.all_eq_true.1 hoko c' (List.mem_of_getElem? hc')) f2)⟩, f3⟩
  ·intro j1 j2 o1 l1 o2 l2 hne h1 h2 h3 h4 b q hf1 hf2
   have mix : ∀ (o : AObj) (l : Loc) (j : Nat), σ[j]? = some o -> m[j]? = some l -> fp o l b q -> ¬ FP σc mc b q -> FP (σo ++ gb) (mc ++ k2) b q -> False := by
    intro o l j e1 e2 e3 e4 e5
    rcases hnew b q (.inl e5) with h | h | h
    ·exact e4 h
    ·exact i.dis b q ⟨j, o, l, e1, e2, e3⟩ h
    ·have := i.lt b q ⟨j, o, l, e1, e2, e3⟩; omega
   rcases hclass j1 o1 l1 h1 h2 b q hf1 with ⟨oa, _, a1, a2, a3, a4⟩ | ⟨k, oo, lo, a1, a2, a3, a4⟩
   ·rcases hclass j2 o2 l2 h3 h4 b q hf2 with ⟨ob, _, b1, b2, b3, b4⟩ | ⟨k', oo', lo', b1, b2, b3, b4⟩
    ·exact i.sep j1 j2 oa l1 ob l2 hne a1 a2 b1 b2 b q a3 b3
    ·exact mix oa l1 j1 a1 a2 a3 a4 ⟨k', oo', lo', hget k' oo' lo' b1 b2, b2, b3⟩
   ·rcases hclass j2 o2 l2 h3 h4 b q hf2 with ⟨ob, _, b1, b2, b3, b4⟩ | ⟨k', oo', lo', b1, b2, b3, b4⟩
    ·exact mix ob l2 j2 b1 b2 b3 b4 ⟨k, oo, lo, hget k oo lo a1 a2, a2, a3⟩
    ·have hkne : k ≠ k' := fun e => by subst e; exact hne (a4.symm.trans b4)
     exact i'.sep k k' oo lo oo' lo' hkne (hget k oo lo a1 a2) a2 (hget k' oo' lo' b1 b2) b2 b q a3 b3
  ·rcases hFP'' b q h with ⟨h, hn⟩ | h
   ·rcases hnew b q (.inr hf) with g | g | g
    ·exact hn g
    ·exact i.dis b q h g
    ·have := i.lt b q h; omega
   ·exact i'.dis b q h hf
 refine ⟨hmaps, hmapsNew, ⟨⟨kk, rfl⟩, st.fm, st.os, st.tape, st.output, st.size, fun b hb hn => st.blk b hb fun q hf => hn q (hcFP b q hf), fun b q hb hn => st.cel b q hb fun hf => hn (hcFP b q hf), fun b q h => ?_⟩⟩
 rcases h with h | h
 ·rcases hFP'' b q h with ⟨h, _⟩ | h
  ·exact .inl h
  ·rcases hnew b q (.inl h) with g | g | g
   ·exact .inl (hcFP b q g)
   ·exact .inr (.inl g)
   ·exact .inr (.inr g)
 ·rcases hnew b q (.inr h) with g | g | g
  ·exact .inl (hcFP b q g)
  ·exact .inr (.inl g)
  ·exact .inr (.inr g)
theorem w_call {d : Nat} {ty : TypeId} {pos : String} {aft : Array Edge} {f : FuncId} [TFn P f] {y : Operand} {xs : Array Operand} {ts : Array TypeId} {cargs : List AV} {σc : List AObj} {ι : Type} {Φ : ι -> Prop} {rr : ι -> CE} {σo : ι -> List AObj} (ρl : List (Nat × Nat))
  (hy : ev fr y = .c (.p (.lit (.func (.func f) #[] #[])))) (h : ACalls P f cargs σc (fun r σ' => ∃ x, Φ x /\ r = rr x /\ ∃ gb, σ' = σo x ++ gb)) (hx : xs.toList.map (ev fr) = cargs.map (renV (ren1 ρl)))
  (hok : cargs.all (okV ρl.length) = true) (hl : ρl.length = σc.length) (hnd : (ρl.map (·.1)).Nodup) (hp : ∀ (k : Nat) id off oc, ρl[k]? = some (id, off) -> σc[k]? = some oc -> ∃ o, σ[id]? = some o /\ passO (ren1 ρl) ρl.length o off oc)
  (hb : ∀ x, Φ x -> okBack (σo x).length σc (σo x) = true /\ (match rr x with | .ret v => okV (σo x).length v | .panic _ => true) = true) (hd : Nat.blt d N = true)
  (k : ∀ x, Φ x -> match rr x with | .ret v => AList P N ops Q rest ⟨(d, renV (ren2 ρl σ.length) v) :: fr, back (ren2 ρl σ.length) σ ρl (σo x)⟩ | .panic p => Q (.panic p) ⟨fr, back (ren2 ρl σ.length) σ ρl (σo x)⟩)
  (hg : xs.toList.all goodConst = true := by rfl) :
  AList P N ops Q (⟨some d, .call { callee := .value y, args := xs, argTypes := ts }, ty, pos, aft, none⟩ :: rest) ⟨fr, σ⟩ := by
 intro m F a w hr
 refine wpList_plain rfl fun K hK => ?_
 have hf : a.eval y = .func (.func f) #[] #[] := by
  have := ev_rv (fr := fr) (m := m) (w := w) (F := F) (a := a) (good_of_lit hy) (fun t e => hr.fr t)
  rw [hy] at this
  exact RP.eq_lit this
 obtain ⟨h1, h2⟩ := callArgs hx (fun x _ hc => ev_rv hc fun t _ => hr.fr t) hg
 obtain ⟨mc, c1, c2, c3, c4⟩ := inv_in hr.inv hl hnd hp
 refine wp_callFn hf ((h mc F w _ c3 (by rw [h1]; simp) (fun j z hj => ?_)).mono fun e w' he => ?_)
 ·exact rv_unren c2 (List.all_eq_true.1 hok z (List.mem_of_getElem? hj)) (h2 j (renV (ren1 ρl) z) (by rw [List.getElem?_map, hj]; rfl))
 ·obtain ⟨m', F', σ', r, ⟨x, hΦ, rfl, gb, rfl⟩, hre, hi, hst⟩ := he
  obtain ⟨k2, rfl⟩ := hst.ext
  obtain ⟨b1, b2⟩ := hb x hΦ
  obtain ⟨g1, g2, g3⟩ := inv_out hr.inv hl hnd c1 c2 c3 c4 hp b1 hi hst
  have hr1 : Rel N (m ++ k2.take ((σo x).length - ρl.length)) F' ⟨fr, back (ren2 ρl σ.length) σ ρl (σo x)⟩ a w' := ⟨g2, fun t => (hr.fr t).step hr.inv g3, hr.size, hr.defers⟩
  have hk := k x hΦ
  cases hrr : rr x with
  | ret v =>
   rw [hrr] at hk hre b2
   cases e with
   | panicked ch => exact hre.elim
   | outgrown => exact hre.elim
   | returned u =>
    have hv : RV ((mc ++ k2).take (σo x).length) w' F' v u := by
     refine rv_unren (ρ := fun k => (k, 0)) (n := (σo x).length) (m := mc ++ k2) (fun k hk => ?_) b2 ?_
     ·have hlt : k < (mc ++ k2).length := by have := hi.len; rw [this]; simp; omega
      refine ⟨(mc ++ k2)[k], List.getElem?_eq_getElem hlt, ?_⟩
      rw [List.getElem?_take, if_pos hk, List.getElem?_eq_getElem hlt]
      cases (mc ++ k2)[k] <;> simp [shift]
     ·have : renV (fun k => (k, 0)) v = v := by
       have hc : ∀ c, renC (fun k => (k, 0)) c = c := fun c => by cases c <;> simp [renC]
       have hc' : renC (fun k => (k, 0)) = id := funext hc
       have h0 : ∀ z, renV0 (fun k => (k, 0)) z = z := fun z => by cases z <;> simp [renV0, hc, hc']
       have h0' : renV0 (fun k => (k, 0)) = id := funext h0
       cases v <;> simp [renV, hc, hc', h0']
      rw [this]; exact hre
    have hr2 := hr1.put (d := some d) (fun t ht => by injection ht with ht; subst ht; exact blt_lt hd) (rv_ren g1 hv)
    exact hK _ _ (wpList_post_mono (fun e a1 w1 hp => hp.trans hr.inv g2 g3) _ _ _ (hk _ F' _ w' hr2))
  | panic p =>
   rw [hrr] at hk hre
   cases e with
   | returned u => exact hre.elim
   | outgrown => exact hre.elim
   | panicked ch => exact ⟨_, F', _, .panic p, hk, hre, hr1, g3⟩
end
end Go.AL
namespace Go.AL
open Go.RowKit
theorem getG0 {g l : List AObj} {n j : Nat} {o : AObj} (h : g.length = n) (e : l[j]? = some o) : (g ++ l)[n + j]? = some o := by
 subst h; rw [List.getElem?_append_right (by omega)]; simpa using e
theorem getG {pre g l : List AObj} {n j : Nat} {o : AObj} (h : (pre ++ g).length = n) (e : l[j]? = some o) : (pre ++ (g ++ l))[n + j]? = some o := by
 rw [<- List.append_assoc]; exact getG0 h e
theorem getL {a b : List AObj} {j : Nat} {o : AObj} (e : a[j]? = some o) : (a ++ b)[j]? = some o := by
 rw [List.getElem?_append_left (List.getElem?_eq_some_iff.1 e).1]; exact e
theorem setG0 {g l l' : List AObj} {n j : Nat} {o : AObj} (h : g.length = n) (e : l.set j o = l') : (g ++ l).set (n + j) o = g ++ l' := by
 subst h; subst e; rw [List.set_append_right _ _ (by omega)]; simp
theorem setG {pre g l l' : List AObj} {n j : Nat} {o : AObj} (h : (pre ++ g).length = n) (e : l.set j o = l') : (pre ++ (g ++ l)).set (n + j) o = pre ++ (g ++ l') := by
 rw [<- List.append_assoc, <- List.append_assoc]; exact setG0 h e
theorem setP {pre r pre' : List AObj} {j : Nat} {o : AObj} (hj : Nat.blt j pre.length = true) (e : pre.set j o = pre') : (pre ++ r).set j o = pre' ++ r := by
 subst e; rw [List.set_append_left _ _ (by simpa using hj)]
theorem lenG0 {g l : List AObj} {n j : Nat} (h : g.length = n) (e : l.length = j) : (g ++ l).length = n + j := by simp [h, e]
theorem lenG {pre g l : List AObj} {n j : Nat} (h : (pre ++ g).length = n) (e : l.length = j) : (pre ++ (g ++ l)).length = n + j := by rw [<- List.append_assoc]; exact lenG0 h e
theorem addG0 {g l l' x : List AObj} (e : l ++ x = l') : (g ++ l) ++ x = g ++ l' := by subst e; simp
theorem addG {pre g l l' x : List AObj} (e : l ++ x = l') : (pre ++ (g ++ l)) ++ x = pre ++ (g ++ l') := by subst e; simp
theorem snocG0 {g l l' l'' x : List AObj} {n j : Nat} {o : AObj} (h : g.length = n) (e : l.set j o = l') (e2 : l' ++ x = l'') : (g ++ l).set (n + j) o ++ x = g ++ l'' := by rw [setG0 h e]; exact addG0 e2
theorem snocG {pre g l l' l'' x : List AObj} {n j : Nat} {o : AObj} (h : (pre ++ g).length = n) (e : l.set j o = l') (e2 : l' ++ x = l'') : (pre ++ (g ++ l)).set (n + j) o ++ x = pre ++ (g ++ l'') := by rw [setG h e]; exact addG e2
theorem getGP {pre g l : List AObj} {n j p : Nat} {o : AObj} (h : p + g.length = n) (e : l[j]? = some o) (hp : pre.length = p) : (pre ++ (g ++ l))[n + j]? = some o :=
 getG (by rw [List.length_append, hp]; exact h) e
theorem setGP {pre g l l' : List AObj} {n j p : Nat} {o : AObj} (h : p + g.length = n) (e : l.set j o = l') (hp : pre.length = p) : (pre ++ (g ++ l)).set (n + j) o = pre ++ (g ++ l') :=
 setG (by rw [List.length_append, hp]; exact h) e
theorem lenGP {pre g l : List AObj} {n j p : Nat} (h : p + g.length = n) (e : l.length = j) (hp : pre.length = p) : (pre ++ (g ++ l)).length = n + j :=
 lenG (by rw [List.length_append, hp]; exact h) e
theorem snocGP {pre g l l' l'' x : List AObj} {n j p : Nat} {o : AObj} (h : p + g.length = n) (e : l.set j o = l') (e2 : l' ++ x = l'') (hp : pre.length = p) : (pre ++ (g ++ l)).set (n + j) o ++ x = pre ++ (g ++ l'') :=
 snocG (by rw [List.length_append, hp]; exact h) e e2
theorem tGet {l : List AObj} {i : Nat} {o : AObj} (h : l[i]? = some o := by first | exact rfl | exact getG0 (by assumption) rfl | exact getG (by assumption) rfl | exact getGP (by assumption) rfl rfl | exact getL (getG0 (by assumption) rfl) | exact getL (getG (by assumption) rfl)) : l[i]? = some o := h
theorem tSet {l l' : List AObj} (h : l = l' := by first | exact setG0 (by assumption) (by conv => lhs; simp only [List.set, List.cons_append, List.nil_append]) | exact setG (by assumption) (by conv => lhs; simp only [List.set, List.cons_append, List.nil_append]) | exact setGP (by assumption) (by conv => lhs; simp only [List.set, List.cons_append, List.nil_append]) rfl | exact setP rfl (by conv => lhs; simp only [List.set, List.cons_append, List.nil_append]) | (conv => lhs; simp only [List.set, List.cons_append, List.nil_append])) : l = l' := h
theorem tLen {a b : Nat} (h : a = b := by first | exact lenG0 (by assumption) (by conv => lhs; simp only [List.length_cons, List.length_nil, Nat.zero_add, Nat.reduceAdd]) | exact lenG (by assumption) (by conv => lhs; simp only [List.length_cons, List.length_nil, Nat.zero_add, Nat.reduceAdd]) | exact lenGP (by assumption) (by conv => lhs; simp only [List.length_cons, List.length_nil, Nat.zero_add, Nat.reduceAdd]) rfl | (conv => lhs; simp only [List.length_append, List.length_cons, List.length_nil, Nat.zero_add, Nat.reduceAdd])) : a = b := h
theorem tAdd {l l' : List AObj} (h : l = l' := by first | exact addG (by conv => lhs; simp only [List.set, List.cons_append, List.nil_append]) | exact addG0 (by conv => lhs; simp only [List.set, List.cons_append, List.nil_append]) | (conv => lhs; simp only [List.set, List.cons_append, List.nil_append])) : l = l' := h
theorem dropG0 {g l l' : List AObj} {n j : Nat} (h : g.length = n) (e : l.drop j = l') : (g ++ l).drop (n + j) = l' := by
 subst h; subst e; rw [List.drop_append]; simp
theorem dropG {pre g l l' : List AObj} {n j : Nat} (h : (pre ++ g).length = n) (e : l.drop j = l') : (pre ++ (g ++ l)).drop (n + j) = l' := by
 rw [<- List.append_assoc]; exact dropG0 h e
abbrev i64 (n : Int) : AV := .c (.p (.lit (.int .i64 n)))
abbrev bl (b : Bool) : AV := .c (.p (.lit (.bool b)))
def InR (x : Int) : Prop := -9223372036854775808 <= x /\ x <= 9223372036854775807
theorem wrap_in {x : Int} (h : InR x) : IntKind.i64.wrap x = x := by
 unfold InR at h
 simp only [IntKind.wrap, IntKind.bits, IntKind.signed]
 have e : (2 : Int) ^ 64 = 18446744073709551616 := by decide
 have e2 : (2 : Int) ^ 63 = 9223372036854775808 := by decide
 simp only [e, show (64 - 1) = 63 from rfl, e2, Bool.true_and]
 split
 ·rename_i h1; have := of_decide_eq_true h1; omega
 ·rename_i h1; have : ¬ (x % 18446744073709551616 >= 9223372036854775808) := fun hh => h1 (decide_eq_true hh); omega
section
variable {P : Program} {N : NN} {Q : AE -> St -> Prop} {ops : Array Oper} {rest : List Oper} {σ σ' : List AObj} {fr : Fr}
variable {d : Option Nat} {ty : TypeId} {pos : String} {aft : Array Edge} {g : Option (Nat × Bool)} {v : AV}
theorem b_add {t t' : TypeId} {x y : Operand} {a b : Int} (hx : ev fr x = i64 a := by exact rfl) (hy : ev fr y = i64 b := by exact rfl) (h : InR (a + b) := by unfold InR; omega) : RStep P σ fr ⟨d, .binOp .add t x y t', ty, pos, aft, g⟩ (i64 (a + b)) :=
 r_bin hx hy (fun w => by simp [eqGuard, binOp, Op.intArith, wrap_in h]) rfl
theorem b_sub {t t' : TypeId} {x y : Operand} {a b : Int} (hx : ev fr x = i64 a := by exact rfl) (hy : ev fr y = i64 b := by exact rfl) (h : InR (a - b) := by unfold InR; omega) : RStep P σ fr ⟨d, .binOp .sub t x y t', ty, pos, aft, g⟩ (i64 (a - b)) :=
 r_bin hx hy (fun w => by simp [eqGuard, binOp, Op.intArith, wrap_in h]) rfl
theorem b_eql {t t' : TypeId} {x y : Operand} {k : IntKind} {a b : Int} (hx : ev fr x = .c (.p (.lit (.int k a))) := by exact rfl) (hy : ev fr y = .c (.p (.lit (.int k b))) := by exact rfl) : RStep P σ fr ⟨d, .binOp .eql t x y t', ty, pos, aft, g⟩ (bl (decide (a = b))) := by
 have : RStep P σ fr ⟨d, .binOp .eql t x y t', ty, pos, aft, g⟩ (bl (a == b)) := r_bin hx hy (fun w => by simp [eqGuard, binOp, Op.intCmp]) rfl
 exact this
theorem b_neq {t t' : TypeId} {x y : Operand} {k : IntKind} {a b : Int} (hx : ev fr x = .c (.p (.lit (.int k a))) := by exact rfl) (hy : ev fr y = .c (.p (.lit (.int k b))) := by exact rfl) : RStep P σ fr ⟨d, .binOp .neq t x y t', ty, pos, aft, g⟩ (bl (decide (a ≠ b))) := by
 have : RStep P σ fr ⟨d, .binOp .neq t x y t', ty, pos, aft, g⟩ (bl (a != b)) := r_bin hx hy (fun w => by simp [eqGuard, binOp, Op.intCmp]) rfl
 rwa [show (a != b) = decide (a ≠ b) from by by_cases h : a = b <;> simp [h]] at this
theorem b_lss {t t' : TypeId} {x y : Operand} {k : IntKind} {a b : Int} (hx : ev fr x = .c (.p (.lit (.int k a))) := by exact rfl) (hy : ev fr y = .c (.p (.lit (.int k b))) := by exact rfl) : RStep P σ fr ⟨d, .binOp .lss t x y t', ty, pos, aft, g⟩ (bl (decide (a < b))) :=
 r_bin hx hy (fun w => by simp [eqGuard, binOp, Op.intCmp]) rfl
theorem b_leq {t t' : TypeId} {x y : Operand} {k : IntKind} {a b : Int} (hx : ev fr x = .c (.p (.lit (.int k a))) := by exact rfl) (hy : ev fr y = .c (.p (.lit (.int k b))) := by exact rfl) : RStep P σ fr ⟨d, .binOp .leq t x y t', ty, pos, aft, g⟩ (bl (decide (a <= b))) :=
 r_bin hx hy (fun w => by simp [eqGuard, binOp, Op.intCmp]) rfl
theorem b_gtr {t t' : TypeId} {x y : Operand} {k : IntKind} {a b : Int} (hx : ev fr x = .c (.p (.lit (.int k a))) := by exact rfl) (hy : ev fr y = .c (.p (.lit (.int k b))) := by exact rfl) : RStep P σ fr ⟨d, .binOp .gtr t x y t', ty, pos, aft, g⟩ (bl (decide (a > b))) :=
 r_bin hx hy (fun w => by simp [eqGuard, binOp, Op.intCmp]) rfl
theorem b_geq {t t' : TypeId} {x y : Operand} {k : IntKind} {a b : Int} (hx : ev fr x = .c (.p (.lit (.int k a))) := by exact rfl) (hy : ev fr y = .c (.p (.lit (.int k b))) := by exact rfl) : RStep P σ fr ⟨d, .binOp .geq t x y t', ty, pos, aft, g⟩ (bl (decide (a >= b))) :=
 r_bin hx hy (fun w => by simp [eqGuard, binOp, Op.intCmp]) rfl
theorem beq_bytes (a b : ByteArray) : (a == b) = decide (a = b) := by
 rw [beq_toListBytes]
 by_cases h : a = b
 ·subst h; simp
 ·have : a.toList ≠ b.toList := fun e => h (by
   rw [ByteArray.toList_eq, ByteArray.toList_eq] at e
   obtain ⟨⟨x⟩⟩ := a
   obtain ⟨⟨y⟩⟩ := b
   simpa using e)
  simp [h, this]
theorem b_strEql {t t' : TypeId} {x y : Operand} {a b : ByteArray} (hx : ev fr x = .c (.p (.lit (.string a))) := by exact rfl) (hy : ev fr y = .c (.p (.lit (.string b))) := by exact rfl) : RStep P σ fr ⟨d, .binOp .eql t x y t', ty, pos, aft, g⟩ (bl (decide (a = b))) := by
 have : RStep P σ fr ⟨d, .binOp .eql t x y t', ty, pos, aft, g⟩ (bl (a == b)) := r_bin hx hy (fun w => by simp [eqGuard, binOp, Op.stringOp, beq_toListBytes]) rfl
 rwa [beq_bytes] at this
theorem b_strNeq {t t' : TypeId} {x y : Operand} {a b : ByteArray} (hx : ev fr x = .c (.p (.lit (.string a))) := by exact rfl) (hy : ev fr y = .c (.p (.lit (.string b))) := by exact rfl) : RStep P σ fr ⟨d, .binOp .neq t x y t', ty, pos, aft, g⟩ (bl (decide (a ≠ b))) := by
 have : RStep P σ fr ⟨d, .binOp .neq t x y t', ty, pos, aft, g⟩ (bl (a != b)) := r_bin hx hy (fun w => by simp [eqGuard, binOp, Op.stringOp, bne, beq_toListBytes]) rfl
 rwa [show (a != b) = decide (a ≠ b) from by rw [bne, beq_bytes]; by_cases h : a = b <;> simp [h]] at this
theorem b_not {t : TypeId} {x : Operand} {b : Bool} (hx : ev fr x = bl b := by exact rfl) : RStep P σ fr ⟨d, .unOp .not t x, ty, pos, aft, g⟩ (bl (!b)) :=
 r_un hx (fun w => by simp [Op.unary]) rfl
theorem b_notD {t : TypeId} {x : Operand} {p : Prop} [Decidable p] (hx : ev fr x = bl (decide p) := by exact rfl) : RStep P σ fr ⟨d, .unOp .not t x, ty, pos, aft, g⟩ (bl (decide (¬p))) := by
 have : RStep P σ fr ⟨d, .unOp .not t x, ty, pos, aft, g⟩ (bl (!decide p)) := r_un hx (fun w => by simp [Op.unary]) rfl
 rwa [show (!decide p) = decide (¬p) from by by_cases h : p <;> simp [h]] at this
theorem b_move {x : Operand} {v : AV} (hx : ev fr x = v := by conv => lhs; whnf) (hg : goodConst x = true := by rfl) : RStep P σ fr ⟨d, .move x, ty, pos, aft, g⟩ v := r_move hx hg
theorem b_assign {x : Operand} {v : AV} (hx : ev fr x = v := by conv => lhs; whnf) (hg : goodConst x = true := by rfl) : RStep P σ fr ⟨d, .assign x, ty, pos, aft, g⟩ v := r_assign hx hg
theorem b_pickT {c x y : Operand} {b : Bool} {v : AV} (hc : ev fr c = bl b := by exact rfl) (hb : b = true := by first | rfl | assumption | exact decide_eq_true (by assumption)) (hx : ev fr x = v := by conv => lhs; whnf) (hg : goodConst x = true := by rfl) (hy : goodConst y = true := by rfl) : RStep P σ fr ⟨d, .pick c x y, ty, pos, aft, g⟩ v := by
 subst hb
 exact r_pick (P := P) hc hx (rfl : ev fr y = ev fr y) hg hy
theorem b_pickF {c x y : Operand} {b : Bool} {v : AV} (hc : ev fr c = bl b := by exact rfl) (hb : b = false := by first | rfl | assumption | exact decide_eq_false (by assumption)) (hy : ev fr y = v := by conv => lhs; whnf) (hx : goodConst x = true := by rfl) (hg : goodConst y = true := by rfl) : RStep P σ fr ⟨d, .pick c x y, ty, pos, aft, g⟩ v := by
 subst hb
 exact r_pick (P := P) hc (rfl : ev fr x = ev fr x) hy hx hg
theorem b_pickB {c x y : Operand} {b p q : Bool} (hc : ev fr c = bl b := by exact rfl) (hx : ev fr x = bl p := by exact rfl) (hy : ev fr y = bl q := by exact rfl) : RStep P σ fr ⟨d, .pick c x y, ty, pos, aft, g⟩ (bl (if b then p else q)) := r_pickB hc hx hy
theorem b_fieldPtr {t ft : TypeId} {f off sz : Nat} {agg : Bool} {x : Operand} {id o : Nat} [TF P t f off ft] [TV P ft agg sz] (hx : ev fr x = .c (.ptr id o) := by exact rfl) : RStep P σ fr ⟨d, .fieldAddr t x f, ty, pos, aft, g⟩ (.c (.ptr id (o + off))) := r_fieldPtr hx
theorem b_fieldEpt {t ft : TypeId} {f off sz esz i : Nat} {agg : Bool} {x : Operand} {id o : Nat} [TF P t f off ft] [TV P ft agg sz] (hx : ev fr x = .c (.ept id esz i o) := by exact rfl) : RStep P σ fr ⟨d, .fieldAddr t x f, ty, pos, aft, g⟩ (.c (.ept id esz i (o + off))) := r_fieldEpt hx
theorem b_fieldRp {t ft : TypeId} {f off sz : Nat} {agg : Bool} {x : Operand} {l l' : List PV} [TF P t f off ft] [TV P ft agg sz] (hx : ev fr x = .c (.p (.rp l)) := by exact rfl) (hl : l.drop off = l' := by rfl) : RStep P σ fr ⟨d, .fieldAddr t x f, ty, pos, aft, g⟩ (.c (.p (.rp l'))) := r_fieldRp hx hl
theorem b_loadPtr {t : TypeId} {agg : Bool} {sz : Nat} {x : Operand} {id off : Nat} {cs : List C} {v : AV} [TV P t agg sz] (hx : ev fr x = .c (.ptr id off) := by exact rfl) (ho : σ[id]? = some (.cells cs) := by exact tGet) (hl : loaded agg sz (cs.drop off) = some v := by first | rfl | (simp only [loaded, List.drop, List.take, List.map, List.length, if_true, if_false, Bool.false_eq_true]; rfl) | (simp [loaded]; done)) : RStep P σ fr ⟨d, .load t x, ty, pos, aft, g⟩ v := r_loadPtr hx ho hl
theorem b_loadRp {t : TypeId} {agg : Bool} {sz : Nat} {x : Operand} {l : List PV} {v : AV} [TV P t agg sz] (hx : ev fr x = .c (.p (.rp l)) := by exact rfl) (hl : loaded agg sz (l.map .p) = some v := by first | rfl | (simp only [loaded, List.drop, List.take, List.map, List.length, if_true, if_false, Bool.false_eq_true]; rfl) | (simp [loaded]; done)) : RStep P σ fr ⟨d, .load t x, ty, pos, aft, g⟩ v := r_loadRp hx hl
theorem b_nilPtr {x : Operand} {id off : Nat} (hx : ev fr x = .c (.ptr id off) := by exact rfl) : RStep P σ fr ⟨d, .nilCheck x, ty, pos, aft, g⟩ (.c (.ptr id off)) := r_nilCheckPtr hx
theorem b_nilRp {x : Operand} {l : List PV} (hx : ev fr x = .c (.p (.rp l)) := by exact rfl) : RStep P σ fr ⟨d, .nilCheck x, ty, pos, aft, g⟩ (.c (.p (.rp l))) := r_nilCheckRp hx
theorem b_lenSl {t e : TypeId} {sz by' : Nat} {x : Operand} {sz' : Nat} {l : List (List PV)} [TSl P t e sz by'] (hx : ev fr x = .c (.p (.sl sz' l)) := by exact rfl) : RStep P σ fr ⟨d, .call { callee := .builtin .len, args := #[x], argTypes := #[t] }, ty, pos, aft, g⟩ (i64 l.length) := r_lenSl hx
theorem b_lenMs {t e : TypeId} {sz by' : Nat} {x : Operand} {id n : Nat} [TSl P t e sz by'] (hx : ev fr x = .c (.ms id n) := by exact rfl) : RStep P σ fr ⟨d, .call { callee := .builtin .len, args := #[x], argTypes := #[t] }, ty, pos, aft, g⟩ (i64 n) := r_lenMs hx
theorem b_lenNil {t e : TypeId} {sz by' : Nat} {x : Operand} [TSl P t e sz by'] (hx : ev fr x = .c (.p (.lit (.slice none 0 0))) := by exact rfl) : RStep P σ fr ⟨d, .call { callee := .builtin .len, args := #[x], argTypes := #[t] }, ty, pos, aft, g⟩ (i64 0) := r_lenNil hx
theorem b_lenStr {t : TypeId} {x : Operand} {s : ByteArray} [TStr P t] (hx : ev fr x = .c (.p (.lit (.string s))) := by exact rfl) : RStep P σ fr ⟨d, .call { callee := .builtin .len, args := #[x], argTypes := #[t] }, ty, pos, aft, g⟩ (i64 s.size) := r_lenStr hx
theorem b_max {ts : Array TypeId} {x y : Operand} {a b : Int} (hx : ev fr x = i64 a := by exact rfl) (hy : ev fr y = i64 b := by exact rfl) : RStep P σ fr ⟨d, .call { callee := .builtin .max, args := #[x, y], argTypes := ts }, ty, pos, aft, g⟩ (i64 (max a b)) := by
 have := r_max (P := P) (σ := σ) (d := d) (ty := ty) (pos := pos) (aft := aft) (g := g) (ts := ts) hx hy
 rwa [show (if b > a then b else a) = max a b from by by_cases h : b > a <;> simp [h, Int.max_def] <;> omega] at this
theorem b_min {ts : Array TypeId} {x y : Operand} {a b : Int} (hx : ev fr x = i64 a := by exact rfl) (hy : ev fr y = i64 b := by exact rfl) : RStep P σ fr ⟨d, .call { callee := .builtin .min, args := #[x, y], argTypes := ts }, ty, pos, aft, g⟩ (i64 (min a b)) := by
 have := r_min (P := P) (σ := σ) (d := d) (ty := ty) (pos := pos) (aft := aft) (g := g) (ts := ts) hx hy
 rwa [show (if b < a then b else a) = min a b from by by_cases h : b < a <;> simp [h, Int.min_def] <;> omega] at this
theorem b_indexArr {t e : TypeId} {n sz : Nat} {agg : Bool} {x y : Operand} {id off : Nat} {k : IntKind} {j : Int} [TA P t n e] [TV P e agg sz] (hx : ev fr x = .c (.ptr id off) := by exact rfl) (hy : ev fr y = .c (.p (.lit (.int k j))) := by exact rfl) (h0 : 0 <= j := by omega) (hj : j < n := by omega) : RStep P σ fr ⟨d, .indexAddr t x y, ty, pos, aft, g⟩ (.c (.ptr id (off + j.toNat * sz))) := r_indexArr hx hy h0 hj
theorem b_indexArrEpt {t e : TypeId} {n sz esz : Nat} {agg : Bool} {x y : Operand} {id i off : Nat} {k : IntKind} {j : Int} [TA P t n e] [TV P e agg sz] (hx : ev fr x = .c (.ept id esz i off) := by exact rfl) (hy : ev fr y = .c (.p (.lit (.int k j))) := by exact rfl) (h0 : 0 <= j := by omega) (hj : j < n := by omega) : RStep P σ fr ⟨d, .indexAddr t x y, ty, pos, aft, g⟩ (.c (.ept id esz i (off + j.toNat * sz))) := r_indexArrEpt hx hy h0 hj
theorem b_indexArrRp {t e : TypeId} {n sz : Nat} {agg : Bool} {x y : Operand} {l l' : List PV} {k : IntKind} {j : Int} [TA P t n e] [TV P e agg sz] (hx : ev fr x = .c (.p (.rp l)) := by exact rfl) (hy : ev fr y = .c (.p (.lit (.int k j))) := by exact rfl) (h0 : 0 <= j := by omega) (hj : j < n := by omega) (hl : l.drop (j.toNat * sz) = l' := by rfl) : RStep P σ fr ⟨d, .indexAddr t x y, ty, pos, aft, g⟩ (.c (.p (.rp l'))) := r_indexArrRp hx hy h0 hj hl
theorem b_field {t ft : TypeId} {f off sz : Nat} {agg : Bool} {x : Operand} {l : List C} {v : AV} [TF P t f off ft] [TV P ft agg sz] (hx : ev fr x = .agg l := by exact rfl) (hl : loaded agg sz (l.drop off) = some v := by first | rfl | (simp only [loaded, List.drop, List.take, List.map, List.length, if_true, if_false, Bool.false_eq_true]; rfl) | (simp [loaded]; done)) (hg : goodConst x = true := by rfl) : RStep P σ fr ⟨d, .field t x f, ty, pos, aft, g⟩ v := r_field hx hl hg
theorem b_extract {x : Operand} {n : Nat} {l : List AV} {v : AV} (hx : ev fr x = .tup l := by exact rfl) (hl : l[n]? = some v := by rfl) (hg : goodConst x = true := by rfl) : RStep P σ fr ⟨d, .extract x n, ty, pos, aft, g⟩ v := r_extract hx hl hg
theorem b_buildSt {t : TypeId} {ps : List (Nat × Nat)} {z : Value} {parts : Array (Nat × Operand)} {out : List C} [TSt P t ps] [TZ P t z] (hg : parts.toList.all (fun p => goodConst p.2 && sureV (ev fr p.2)) = true := by (try simp only [↓ev, litAV, ↓Fr.get, ↓reduceIte, Nat.reduceEqDiff]) <;> rfl) (hf : fillA (ps[·]?) (zC z) (parts.toList.map fun p => (p.1, ev fr p.2)) = some out := by (try simp only [↓ev, litAV, ↓Fr.get, ↓reduceIte, Nat.reduceEqDiff, List.map]) <;> rfl) : RStep P σ fr ⟨d, .build t parts, ty, pos, aft, g⟩ (.agg out) := r_buildSt hg hf
theorem b_buildArr {t e : TypeId} {n sz : Nat} {agg : Bool} {z : Value} {parts : Array (Nat × Operand)} {out : List C} [TA P t n e] [TV P e agg sz] [TZ P t z] (hg : parts.toList.all (fun p => goodConst p.2 && sureV (ev fr p.2)) = true := by (try simp only [↓ev, litAV, ↓Fr.get, ↓reduceIte, Nat.reduceEqDiff]) <;> rfl) (hf : fillA (fun i => some (i * sz, sz)) (zC z) (parts.toList.map fun p => (p.1, ev fr p.2)) = some out := by (try simp only [↓ev, litAV, ↓Fr.get, ↓reduceIte, Nat.reduceEqDiff, List.map]) <;> rfl) : RStep P σ fr ⟨d, .build t parts, ty, pos, aft, g⟩ (.agg out) := r_buildArr hg hf
theorem b_call {f : FuncId} [TFn P f] {y : Operand} {xs : Array Operand} {ts : Array TypeId} {args : List AV} {v : AV} (h : ACalls P f args [] (fun r _ => r = .ret v)) (hy : ev fr y = .c (.p (.lit (.func (.func f) #[] #[]))) := by exact rfl) (hx : xs.toList.map (ev fr) = args := by (try simp only [↓ev, litAV, ↓Fr.get, ↓reduceIte, Nat.reduceEqDiff, List.map]) <;> rfl) (hp : args.all pureV = true := by rfl) (hv : pureV v = true := by rfl) (hg : xs.toList.all goodConst = true := by rfl) :
  RStep P σ fr ⟨d, .call { callee := .value y, args := xs, argTypes := ts }, ty, pos, aft, g⟩ v := r_call hy hx h hp hv hg
theorem op0 {op : Op} {d : Nat} {v : AV} (h : RStep P σ fr ⟨some d, op, ty, pos, aft, none⟩ v) (k : AList P N ops Q rest ⟨(d, v) :: fr, σ⟩) (hd : Nat.blt d N = true := by rfl) : AList P N ops Q (⟨some d, op, ty, pos, aft, none⟩ :: rest) ⟨fr, σ⟩ := al_r rfl hd h k
theorem al_yes {op : Op} {d : Option Nat} {j : Nat} {want b : Bool} {t : Nat} (k : AList P N ops Q (⟨d, op, ty, pos, aft, none⟩ :: rest) ⟨fr, σ⟩) (ht : (ops[j]?).bind (·.dst) = some t := by rfl) (hv : fr.get t = bl b := by exact rfl) (hb : b = want := by first | rfl | assumption | exact decide_eq_true (by assumption) | exact decide_eq_false (by assumption)) : AList P N ops Q (⟨d, op, ty, pos, aft, some (j, want)⟩ :: rest) ⟨fr, σ⟩ := by
 intro m F a w hr
 have hk := k m F a w hr
 have hw : Region.wanted ⟨d, op, ty, pos, aft, some (j, want)⟩ (yielded ops a.tmps) = true := by
  have := wanted_of (ops := ops) (fr := fr.get) (o := ⟨d, op, ty, pos, aft, some (j, want)⟩) (m := m) (F := F) (w := w) (a := a) rfl ht hv (hr.fr t)
  rw [this, hb]; simp
 simp only [wpList] at hk ⊢
 rw [if_pos (by simp [Region.wanted])] at hk
 rw [if_pos hw]
 exact hk
theorem aw_T {c : Operand} {x y : Code} {b : Bool} (h : AWp P N x Q ⟨fr, σ⟩) (hc : ev fr c = bl b := by exact rfl) (hb : b = true := by first | rfl | assumption | exact decide_eq_true (by assumption)) : AWp P N (.cond c x y) Q ⟨fr, σ⟩ := aw_cond hc (by rw [hb]; exact h)
theorem aw_F {c : Operand} {x y : Code} {b : Bool} (h : AWp P N y Q ⟨fr, σ⟩) (hc : ev fr c = bl b := by exact rfl) (hb : b = false := by first | rfl | assumption | exact decide_eq_false (by assumption)) : AWp P N (.cond c x y) Q ⟨fr, σ⟩ := aw_cond hc (by rw [hb]; exact h)
theorem aw_if {c : Operand} {x y : Code} {b : Bool} (h1 : b = true -> AWp P N x Q ⟨fr, σ⟩) (h2 : b = false -> AWp P N y Q ⟨fr, σ⟩) (hc : ev fr c = bl b := by exact rfl) : AWp P N (.cond c x y) Q ⟨fr, σ⟩ := by
 cases hb : b with
 | true => exact aw_T (h1 hb) hc hb
 | false => exact aw_F (h2 hb) hc hb
theorem aw_reg {id : Nat} {l : List Oper} (h : AList P N l.toArray Q l ⟨fr, σ⟩) : AWp P N (.region id l.toArray false) Q ⟨fr, σ⟩ := aw_region (by simpa using h)
theorem aw_rounds {ι : Type} {c : Code} (S : ι -> Fr) (σs : ι -> List AObj) (Φ : ι -> Prop) (μ : ι -> Nat) (i0 : ι) (hΦ : Φ i0) (hσ : σs i0 = σ) (hS : ∀ p ∈ S i0, fr.get p.1 = p.2)
  (round : ∀ i, Φ i -> AWp P N c (fun x s' => match x with | .normal => ∃ j, Φ j /\ s'.σ = σs j /\ (∀ p ∈ S j, s'.fr.get p.1 = p.2) /\ μ j < μ i | x => Q x s') ⟨S i, σs i⟩) : AWp P N (.loop c) Q ⟨fr, σ⟩ := by
 refine aw_loop (ι := { i : ι // Φ i }) (fun i => ⟨S i.1, σs i.1⟩) (fun i => μ i.1) ⟨i0, hΦ⟩ ?_ (fun i => ?_)
 ·subst hσ; exact Weak.of hS
 ·refine (round i.1 i.2).mono fun x s' h => ?_
  cases x with
  | normal =>
   obtain ⟨j, h1, h2, h3, h4⟩ := h
   obtain ⟨f', σ'⟩ := s'
   simp only at h2 h3
   subst h2
   exact ⟨⟨j, h1⟩, Weak.of h3, h4⟩
  | _ => exact h
end
def at' {α : Type} [Inhabited α] (xs : List α) (n : Int) : α := xs.getD n.toNat default
theorem at_get {α : Type} [Inhabited α] (xs : List α) (n : Int) (h0 : 0 <= n) (h1 : n < xs.length) : xs[n.toNat]? = some (at' xs n) := by
 have h : n.toNat < xs.length := by omega
 rw [List.getElem?_eq_getElem h]
 simp [at', List.getD_eq_getElem?_getD, List.getElem?_eq_getElem h]
section
variable {P : Program} {N : NN} {Q : AE -> St -> Prop} {ops : Array Oper} {rest : List Oper} {σ σ' : List AObj} {fr : Fr}
variable {d : Option Nat} {ty : TypeId} {pos : String} {aft : Array Edge} {g : Option (Nat × Bool)} {v : AV} {α : Type}
theorem m_lenSl {t e : TypeId} {sz by' : Nat} {x : Operand} {sz' : Nat} {l : List α} {f : α -> List PV} [TSl P t e sz by'] (hx : ev fr x = .c (.p (.sl sz' (l.map f))) := by exact rfl) : RStep P σ fr ⟨d, .call { callee := .builtin .len, args := #[x], argTypes := #[t] }, ty, pos, aft, g⟩ (i64 l.length) := by
 have := r_lenSl (P := P) (σ := σ) (d := d) (ty := ty) (pos := pos) (aft := aft) (g := g) (t := t) hx
 rwa [List.length_map] at this
theorem m_indexSl [Inhabited α] {t e : TypeId} {sz by' : Nat} {x y : Operand} {l : List α} {f : α -> List PV} {k : IntKind} {n : Int} [TSl P t e sz by'] (hx : ev fr x = .c (.p (.sl sz (l.map f))) := by exact rfl) (hy : ev fr y = .c (.p (.lit (.int k n))) := by exact rfl) (h0 : 0 <= n := by omega) (h1 : n < l.length := by omega) : RStep P σ fr ⟨d, .indexAddr t x y, ty, pos, aft, g⟩ (.c (.p (.rp (f (at' l n))))) :=
 r_indexSl hx hy h0 (by rw [List.getElem?_map, at_get l n h0 h1]; rfl)
theorem m_sliceMs {t e e' : TypeId} {sz by' : Nat} {x z : Operand} {id n : Nat} {l : List α} {f : α -> List PV} {k' : IntKind} {hi : Int} [TSl P t e sz by'] (hx : ev fr x = .c (.ms id n) := by exact rfl) (hz : ev fr z = .c (.p (.lit (.int k' hi))) := by exact rfl) (ho : σ[id]? = some (.arr e' sz (l.map f)) := by exact tGet) (h1 : 0 <= hi := by omega) (h2 : hi <= l.length := by omega) : RStep P σ fr ⟨d, .slice t x none (some z) none, ty, pos, aft, g⟩ (.c (.ms id hi.toNat)) := r_sliceMs hx hz ho h1 (by simpa using h2)
theorem m_indexMs [Inhabited α] {t e : TypeId} {sz by' : Nat} {x y : Operand} {id n : Nat} {k : IntKind} {j : Int} {e' : TypeId} {l : List α} {f : α -> List PV} [TSl P t e sz by'] (hx : ev fr x = .c (.ms id n) := by exact rfl) (hy : ev fr y = .c (.p (.lit (.int k j))) := by exact rfl) (h0 : 0 <= j := by omega) (hj : j < n := by omega) (ho : σ[id]? = some (.arr e' sz (l.map f)) := by exact tGet) (hn : n <= l.length := by first | exact Nat.le_refl _ | omega | (simp; done) | (simp only [List.length_set, List.length_append, List.length_replicate]; omega)) : RStep P σ fr ⟨d, .indexAddr t x y, ty, pos, aft, g⟩ (.c (.ept id sz j.toNat 0)) := r_indexMs hx hy h0 hj ho (by simpa using hn)
theorem m_loadEpt [Inhabited α] {t e' : TypeId} {agg : Bool} {sz esz : Nat} {x : Operand} {id off : Nat} {j : Int} {l : List α} {f : α -> List PV} {v : AV} [TV P t agg sz] (hx : ev fr x = .c (.ept id esz j.toNat off) := by exact rfl) (ho : σ[id]? = some (.arr e' esz (l.map f)) := by exact tGet) (h0 : 0 <= j := by omega) (h1 : j < l.length := by first | omega | (simp only [List.length_set, List.length_append, List.length_replicate]; omega)) (hl : loaded agg sz (((f (at' l j)).map .p).drop off) = some v := by rfl) : RStep P σ fr ⟨d, .load t x, ty, pos, aft, g⟩ v :=
 r_loadEpt hx ho (by rw [List.getElem?_map, at_get l j h0 h1]; rfl) hl
theorem k_alloc {d : Nat} {t : TypeId} {agg : Bool} {sz : Nat} {z : Value} [TV P t agg sz] [TZ P t z] {n : Nat} {zc : List C} (k : AList P N ops Q rest ⟨(d, .c (.ptr n 0)) :: fr, σ'⟩) (hn : σ.length = n := by exact tLen) (hz : zC z = zc := by rfl) (hσ : σ ++ [.cells zc] = σ' := by exact tAdd) (hd : Nat.blt d N = true := by rfl) :
  AList P N ops Q (⟨some d, .alloc t, ty, pos, aft, none⟩ :: rest) ⟨fr, σ⟩ := by
 subst hn; subst hz; subst hσ
 exact w_alloc hd k
theorem k_box {d : Nat} {t : TypeId} {x : Operand} {y : AV} {l : List C} {n : Nat} (k : AList P N ops Q rest ⟨(d, .c (.ptr n 0)) :: fr, σ'⟩) (hx : ev fr x = y := by conv => lhs; whnf) (hl : y.cells = l := by rfl) (hne : l.isEmpty = false := by rfl) (hsure : sureV y = true := by rfl) (hn : σ.length = n := by exact tLen) (hσ : σ ++ [.cells l] = σ' := by exact tAdd) (hd : Nat.blt d N = true := by rfl) (hgc : goodConst x = true := by rfl) :
  AList P N ops Q (⟨some d, .box t x, ty, pos, aft, none⟩ :: rest) ⟨fr, σ⟩ := by
 subst hn; subst hσ
 exact w_box hx hl (by intro e; subst e; cases hne) hsure hd k hgc
theorem k_store {t : TypeId} {agg : Bool} {sz : Nat} {x z : Operand} {y : AV} {id off : Nat} {l l' : List C} [TV P t agg sz] (k : AList P N ops Q rest ⟨fr, σ'⟩) (hx : ev fr x = .c (.ptr id off) := by exact rfl) (hy : ev fr z = y := by conv => lhs; whnf) (ho : σ[id]? = some (.cells l) := by exact tGet) (hsure : sureV y = true := by rfl) (hn : y.cells.length = sz := by rfl) (hle : Nat.ble (off + sz) l.length = true := by rfl) (hl : lay l off y.cells = l' := by rfl) (hσ : σ.set id (.cells l') = σ' := by exact tSet) (hgc : goodConst z = true := by rfl) :
  AList P N ops Q (⟨none, .store t x z, ty, pos, aft, none⟩ :: rest) ⟨fr, σ⟩ := w_store hx hy ho hsure hn (Nat.le_of_ble_eq_true hle) hl hσ k hgc
theorem k_append {d : Nat} {t e : TypeId} {sz by' : Nat} {z : Value} {x y : Operand} {id n m : Nat} {l ys new : List (List PV)} [TSl P t e sz by'] [TZ P e z] (hb : (n + ys.length) * by' <= 140737488355328) (hnew : l.take n ++ ys = new) (k : AList P N ops Q rest ⟨(d, .c (.ms m new.length)) :: fr, σ'⟩) (hx : ev fr x = .c (.ms id n) := by exact rfl) (ho : σ[id]? = some (.arr e sz l) := by exact tGet) (hn : n <= l.length := by first | exact Nat.le_refl _ | (simp; done) | omega) (hy : ev fr y = .c (.p (.sl sz ys)) := by exact rfl)
  (hm : σ.length = m := by exact tLen) (hd : Nat.blt d N = true := by rfl) (hzs : z.cells.size = sz := by rfl) (hσ : σ.set id .dead ++ [.arr e sz new] = σ' := by first | exact snocG0 (by assumption) (by conv => lhs; simp only [List.set, List.cons_append, List.nil_append]) (by conv => lhs; simp only [List.set, List.cons_append, List.nil_append]) | exact snocG (by assumption) (by conv => lhs; simp only [List.set, List.cons_append, List.nil_append]) (by conv => lhs; simp only [List.set, List.cons_append, List.nil_append]) | exact snocGP (by assumption) (by conv => lhs; simp only [List.set, List.cons_append, List.nil_append]) (by conv => lhs; simp only [List.set, List.cons_append, List.nil_append]) rfl | (conv => lhs; simp only [List.set, List.cons_append, List.nil_append])) :
  AList P N ops Q (⟨some d, .call { callee := .builtin .append, args := #[x, y], argTypes := #[t, t] }, ty, pos, aft, none⟩ :: rest) ⟨fr, σ⟩ := by
 subst hm
 exact w_append hx ho hn hy hb hd hzs hnew hσ k
end
section
variable {A : St -> Prop} {Q : AE -> St -> Prop} {s : St} {i j : Nat} {x : PV}
theorem n_seq (h : A s) : seqQ A Q .normal s := h
theorem n_block (h : Q .normal s) : blockQ i Q .normal s := h
theorem p_seq (h : Q .ret s) : seqQ A Q .ret s := h
theorem p_block (h : Q .ret s) : blockQ i Q .ret s := h
theorem x_seq (h : Q (.exit i) s) : seqQ A Q (.exit i) s := h
theorem x_eq (h : Q .normal s) : blockQ i Q (.exit i) s := by simp only [blockQ, if_true]; exact h
theorem x_ne (h : Q (.exit i) s) (hij : Nat.beq i j = false := by rfl) : blockQ j Q (.exit i) s := by
 have : ¬ i = j := fun e => by subst e; simp [Nat.beq_refl] at hij
 simp only [blockQ, if_neg this]; exact h
theorem q_seq (h : Q (.panic x) s) : seqQ A Q (.panic x) s := h
theorem q_block (h : Q (.panic x) s) : blockQ i Q (.panic x) s := h
end
theorem acalls_by {P : Program} {f : FuncId} {fn : Func} {c : Code} {N : Nat} {args : List AV} {σ : List AObj} {R : CE -> List AObj -> Prop} (hf : P.funcs[f]? = some fn) (hn : fn.ntmps = N) (h : AWp P ⟨N, []⟩ c (retQ P fn R) ⟨argFr 0 args, σ⟩) (hb : fn.body = some c := by rfl) (hN : args.length <= N := by simp) : ACalls P f args σ R := acalls_of hf hb hn hN h
theorem ret1 {P : Program} {fn : Func} {R : CE -> List AObj -> Prop} {fr : Fr} {σ : List AObj} {t : Tmp} {v : AV} (hr : fn.results = #[.tmp t]) (h : R (.ret v) σ) (hv : fr.get t = v := by conv => lhs; whnf) (ht : ∀ l, v ≠ .tup l := by intro l h; cases h) : retQ P fn R .ret ⟨fr, σ⟩ := by
 subst hv
 exact ⟨[fr.get t], by rw [hr]; exact .cons (.tmp t ht) .nil, h⟩
theorem ret2 {P : Program} {fn : Func} {R : CE -> List AObj -> Prop} {fr : Fr} {σ : List AObj} {t u : Tmp} {v x : AV} (hr : fn.results = #[.tmp t, .tmp u]) (h : R (.ret (.tup [v, x])) σ) (hv : fr.get t = v := by conv => lhs; whnf) (hx : fr.get u = x := by conv => lhs; whnf) (ht : ∀ l, v ≠ .tup l := by intro l h; cases h) (hu : ∀ l, x ≠ .tup l := by intro l h; cases h) : retQ P fn R .ret ⟨fr, σ⟩ := by
 subst hv; subst hx
 exact ⟨[fr.get t, fr.get u], by rw [hr]; exact .cons (.tmp t ht) (.cons (.tmp u hu) .nil), h⟩
theorem end0 {P : Program} {fn : Func} {R : CE -> List AObj -> Prop} {fr : Fr} {σ : List AObj} (hr : fn.results = #[]) (h : R (.ret (.tup [])) σ) : retQ P fn R .normal ⟨fr, σ⟩ := ⟨[], by rw [hr]; exact .nil, h⟩
end Go.AL
namespace Go.AL
open Go.RowKit
section
variable {P : Program} {N : NN} {Q : AE -> St -> Prop} {ops : Array Oper} {rest tail : List Oper} {σ σ' : List AObj} {fr : Fr}
variable {d : Option Nat} {ty : TypeId} {pos : String} {aft : Array Edge} {g : Option (Nat × Bool)} {v : AV} {α : Type}
def DSteps (P : Program) (N : NN) (ops : Array Oper) (Q : AE -> St -> Prop) (σ : List AObj) (tail : List Oper) (head : List Oper) (fr : Fr) : Prop := ∃ fr', RSteps P σ ops head fr fr' /\ AList P N ops Q tail ⟨fr', σ⟩
def turns : Op -> Bool
 | .store .. => true
 | .alloc .. => true
 | .box .. => true
 | .makeSlice .. => true
 | .call { callee := .builtin .append, .. } => true
 | .call { callee := .builtin .copy, .. } => true
 | _ => false
def headN : List Oper -> Nat
 | [] => 0
 | [_] => 0
 | o :: l => if turns o.op then 0 else headN l + 1
theorem aw_dr {id : Nat} {l : List Oper} (n : Nat) (hm : P.follows .mixedOrders = true) (h : DSteps P N l.toArray Q σ (l.drop n) (l.take n) fr) (hB : Region.lexTailB .any l.toArray n = true := by kernel_rfl) (hd : l.toArray.all (dstOk N) = true := by kernel_rfl) : AWp P N (.region id l.toArray true) Q ⟨fr, σ⟩ := by
 obtain ⟨fr', h1, h2⟩ := h
 exact aw_draw n hm hB hd h1 h2
theorem aw_drN {id : Nat} {l : List Oper} {n : Nat} (hm : P.follows .mixedOrders = true) (h : DSteps P N l.toArray Q σ (l.drop n) (l.take n) fr) (hn : headN l = n := by rfl) (hB : Region.lexTailB .any l.toArray n = true := by kernel_rfl) (hd : l.toArray.all (dstOk N) = true := by kernel_rfl) : AWp P N (.region id l.toArray true) Q ⟨fr, σ⟩ := aw_dr n hm h hB hd
theorem ds_nil (h : AList P N ops Q tail ⟨fr, σ⟩) : DSteps P N ops Q σ tail [] fr := ⟨fr, .nil, h⟩
theorem ds_op {op : Op} {d : Nat} {v : AV} (h : RStep P σ fr ⟨some d, op, ty, pos, aft, none⟩ v) (k : DSteps P N ops Q σ tail rest ((d, v) :: fr)) : DSteps P N ops Q σ tail (⟨some d, op, ty, pos, aft, none⟩ :: rest) fr := by
 obtain ⟨fr', h1, h2⟩ := k
 exact ⟨fr', .cons (.of rfl h) h1, h2⟩
theorem wanted_self {b want : Bool} (h : b = want) : (b == want) = true := by rw [h]; cases want <;> rfl
theorem ds_yes {op : Op} {d : Nat} {v : AV} {j : Nat} {want b : Bool} {t : Nat} (h : RStep P σ fr ⟨some d, op, ty, pos, aft, some (j, want)⟩ v) (k : DSteps P N ops Q σ tail rest ((d, v) :: fr)) (ht : (ops[j]?).bind (·.dst) = some t := by rfl) (hv : fr.get t = bl b := by exact rfl) (hb : b = want := by first | rfl | assumption | exact decide_eq_true (by assumption) | exact decide_eq_false (by assumption)) : DSteps P N ops Q σ tail (⟨some d, op, ty, pos, aft, some (j, want)⟩ :: rest) fr := by
 obtain ⟨fr', h1, h2⟩ := k
 exact ⟨fr', .cons (.yes rfl ht hv (wanted_self hb) h) h1, h2⟩
theorem al_split {op : Op} {d : Option Nat} {j : Nat} {want b : Bool} {t : Nat} (k1 : b = true -> AList P N ops Q (⟨d, op, ty, pos, aft, some (j, want)⟩ :: rest) ⟨fr, σ⟩) (k2 : b = false -> AList P N ops Q (⟨d, op, ty, pos, aft, some (j, want)⟩ :: rest) ⟨fr, σ⟩) (ht : (ops[j]?).bind (·.dst) = some t := by rfl) (hv : fr.get t = bl b := by exact rfl) : AList P N ops Q (⟨d, op, ty, pos, aft, some (j, want)⟩ :: rest) ⟨fr, σ⟩ := by
 cases h : b with
 | true => exact k1 h
 | false => exact k2 h
theorem aw_ifD {c : Operand} {x y : Code} {p : Prop} [Decidable p] (h1 : p -> AWp P N x Q ⟨fr, σ⟩) (h2 : ¬p -> AWp P N y Q ⟨fr, σ⟩) (hc : ev fr c = bl (decide p) := by exact rfl) : AWp P N (.cond c x y) Q ⟨fr, σ⟩ :=
 aw_if (fun h => h1 (of_decide_eq_true h)) (fun h => h2 (of_decide_eq_false h)) hc
theorem al_splitD {op : Op} {d : Option Nat} {j : Nat} {want : Bool} {t : Nat} {p : Prop} [Decidable p] (k1 : p -> AList P N ops Q (⟨d, op, ty, pos, aft, some (j, want)⟩ :: rest) ⟨fr, σ⟩) (k2 : ¬p -> AList P N ops Q (⟨d, op, ty, pos, aft, some (j, want)⟩ :: rest) ⟨fr, σ⟩) (ht : (ops[j]?).bind (·.dst) = some t := by rfl) (hv : fr.get t = bl (decide p) := by exact rfl) : AList P N ops Q (⟨d, op, ty, pos, aft, some (j, want)⟩ :: rest) ⟨fr, σ⟩ :=
 al_split (fun h => k1 (of_decide_eq_true h)) (fun h => k2 (of_decide_eq_false h)) ht hv
theorem rv_undef (m : List Loc) (w : World) (F : Nat -> Nat -> Prop) : RV m w F (.tup []) undef := ⟨#[], rfl, rfl, fun j x hx => by simp at hx⟩
theorem get_of_tup {m : List Loc} {w : World} {F : Nat -> Nat -> Prop} {u : Value} (h : RV m w F (.tup []) u) : u = .tuple #[] := by
 obtain ⟨vs, h1, h2, _⟩ := h
 have : vs = #[] := Array.size_eq_zero_iff.1 (by simpa using h2)
 rw [h1, this]
theorem unwanted_undef {o : Oper} {j : Nat} {want : Bool} {t : Nat} {a : Act} (hg : o.guard = some (j, want)) (ht : (ops[j]?).bind (·.dst) = some t) (hu : a.tmps.getD t undef = .tuple #[]) : Region.wanted o (yielded ops a.tmps) = false := by
 have h3 : a.tmps[t]? = none \/ a.tmps[t]? = some (.tuple #[]) := by
  cases h : a.tmps[t]? with
  | none => exact .inl rfl
  | some u => simp [Array.getD_eq_getD_getElem?, h] at hu; exact .inr (by rw [hu])
 simp only [Region.wanted, hg, yielded, ht, Option.bind_some]
 rcases h3 with h3 | h3 <;> rw [h3] <;> rfl
theorem al_skip' {o : Oper} (hw : ∀ (m : List Loc) F a w, Rel N m F ⟨fr, σ⟩ a w -> Region.wanted o (yielded ops a.tmps) = false) (hd : dstOk N o = true) (k : AList P N ops Q rest ⟨fr.put o.dst (.tup []), σ⟩) : AList P N ops Q (o :: rest) ⟨fr, σ⟩ := by
 intro m F a w hr
 refine wpList_step fun K hK => ?_
 rw [if_neg (by rw [hw m F a w hr]; exact Bool.false_ne_true)]
 exact hK _ _ (k m F _ w (hr.put (dst_lt hd) (rv_undef m w F)))
theorem al_none {op : Op} {d : Nat} {j : Nat} {want b : Bool} {t : Nat} (k : AList P N ops Q rest ⟨(d, .tup []) :: fr, σ⟩) (ht : (ops[j]?).bind (·.dst) = some t := by rfl) (hv : fr.get t = bl b := by exact rfl) (hb : b = !want := by first | rfl | assumption | exact decide_eq_true (by assumption) | exact decide_eq_false (by assumption)) (hd : Nat.blt d N = true := by rfl) : AList P N ops Q (⟨some d, op, ty, pos, aft, some (j, want)⟩ :: rest) ⟨fr, σ⟩ :=
 al_skip' (fun m F a w hr => by rw [wanted_of rfl ht hv (hr.fr t), hb]; cases want <;> rfl) hd k
theorem al_noneU {op : Op} {d : Nat} {j : Nat} {want : Bool} {t : Nat} (k : AList P N ops Q rest ⟨(d, .tup []) :: fr, σ⟩) (ht : (ops[j]?).bind (·.dst) = some t := by rfl) (hv : fr.get t = .tup [] := by exact rfl) (hd : Nat.blt d N = true := by rfl) : AList P N ops Q (⟨some d, op, ty, pos, aft, some (j, want)⟩ :: rest) ⟨fr, σ⟩ :=
 al_skip' (fun m F a w hr => unwanted_undef rfl ht (get_of_tup (by have := hr.fr t; simp only at this; rw [hv] at this; exact this))) hd k
theorem gstep_skip {o : Oper} {g : FrF} (hw : ∀ (m : List Loc) F (w : World) (a : Act), (∀ t, t ∈ o.looksAt ops -> RV m w F (g t) (a.tmps.getD t undef)) -> Region.wanted o (yielded ops a.tmps) = false) : GStep P σ ops g o (.tup []) := by
 intro m F w a i hs K Q hK
 rw [hw m F w a hs, if_neg Bool.false_ne_true]
 exact hK _ _ _ (Grow.refl F w) (rv_undef m w F)
theorem ds_none {op : Op} {d : Nat} {j : Nat} {want b : Bool} {t : Nat} (k : DSteps P N ops Q σ tail rest ((d, .tup []) :: fr)) (ht : (ops[j]?).bind (·.dst) = some t := by rfl) (hv : fr.get t = bl b := by exact rfl) (hb : b = !want := by first | rfl | assumption | exact decide_eq_true (by assumption) | exact decide_eq_false (by assumption)) : DSteps P N ops Q σ tail (⟨some d, op, ty, pos, aft, some (j, want)⟩ :: rest) fr := by
 obtain ⟨fr', h1, h2⟩ := k
 refine ⟨fr', .cons (gstep_skip fun m F w a hs => ?_) h1, h2⟩
 rw [wanted_of rfl ht hv (hs t (List.mem_append_right _ (by simp [ht]))), hb]; cases want <;> rfl
theorem ds_noneU {op : Op} {d : Nat} {j : Nat} {want : Bool} {t : Nat} (k : DSteps P N ops Q σ tail rest ((d, .tup []) :: fr)) (ht : (ops[j]?).bind (·.dst) = some t := by rfl) (hv : fr.get t = .tup [] := by exact rfl) : DSteps P N ops Q σ tail (⟨some d, op, ty, pos, aft, some (j, want)⟩ :: rest) fr := by
 obtain ⟨fr', h1, h2⟩ := k
 refine ⟨fr', .cons (gstep_skip fun m F w a hs => ?_) h1, h2⟩
 have := hs t (List.mem_append_right _ (by simp [ht]))
 rw [hv] at this
 exact unwanted_undef rfl ht (get_of_tup this)
theorem k_make {d : Nat} {t e : TypeId} {sz by' : Nat} {z : Value} {x y : Operand} {k1 k2 : IntKind} {n : Int} {id : Nat} [TSl P t e sz by'] [TZ P e z] (k : AList P N ops Q rest ⟨(d, .c (.ms id n.toNat)) :: fr, σ'⟩) (hx : ev fr x = .c (.p (.lit (.int k1 n))) := by exact rfl) (hy : ev fr y = .c (.p (.lit (.int k2 n))) := by exact rfl) (h0 : 0 <= n := by omega) (hb : by' * n.toNat <= 281474976710656 := by omega) (hd : Nat.blt d N = true := by rfl) (hzs : z.cells.size = sz := by rfl)
  (hm : σ.length = id := by exact tLen) (hσ : σ ++ [.arr e sz (List.replicate n.toNat (zP z))] = σ' := by exact tAdd) :
  AList P N ops Q (⟨some d, .makeSlice t x y, ty, pos, aft, none⟩ :: rest) ⟨fr, σ⟩ := by
 subst hm
 exact w_make hx hy h0 hb hd hzs rfl hσ k
theorem k_make0 {d : Nat} {t e : TypeId} {sz by' : Nat} {z : Value} {x y : Operand} {k1 k2 : IntKind} {n : Int} {id : Nat} [TSl P t e sz by'] [TZ P e z] (k : AList P N ops Q rest ⟨(d, .c (.ms id 0)) :: fr, σ'⟩) (hx : ev fr x = .c (.p (.lit (.int k1 0))) := by exact rfl) (hy : ev fr y = .c (.p (.lit (.int k2 n))) := by exact rfl) (h0 : 0 <= n := by omega) (hb : by' * n.toNat <= 281474976710656 := by omega) (hd : Nat.blt d N = true := by rfl)
  (hm : σ.length = id := by exact tLen) (hσ : σ ++ [.arr e sz []] = σ' := by exact tAdd) :
  AList P N ops Q (⟨some d, .makeSlice t x y, ty, pos, aft, none⟩ :: rest) ⟨fr, σ⟩ := by
 subst hm
 exact w_make0 hx hy h0 hb hd hσ k
def unP : List C -> Option (List PV)
 | [] => some []
 | c :: r => match c, unP r with
  | .p v, some vs => some (v :: vs)
  | _, _ => none
theorem unP_map : ∀ {l : List C} {v : List PV}, unP l = some v -> l = v.map .p
 | [], v, h => by simp [unP] at h; subst h; rfl
 | c :: r, v, h => by
  simp only [unP] at h
  split at h
  ·rename_i v' vs h1
   injection h with h; subst h
   rw [unP_map h1]; rfl
  ·cases h
theorem b_buildSl1 {t e : TypeId} {sz by' : Nat} {z : Value} {x : Operand} {y : AV} {el : List PV} [TSl P t e sz by'] [TZ P e z] (hx : ev fr x = y := by conv => lhs; whnf) (hy' : unP y.cells = some el := by exact rfl) (hel : el.length = sz := by rfl) (hzs : z.cells.size = sz := by rfl) (hpos : 0 < sz /\ sz <= 16777216 := by decide) (hg : goodConst x = true := by rfl) (hsure : sureV y = true := by rfl) :
  RStep P σ fr ⟨d, .buildSlice t 1 #[(0, x)], ty, pos, aft, g⟩ (.c (.p (.sl sz [el]))) := by
 have hy := unP_map hy'
 refine r_buildSlice (n := 1) (l := [el]) hzs (by omega) (by simp [hg, hx, hsure]) ?_ rfl (by simpa using hel)
 have hlen : y.cells.length = sz := by rw [hy]; simpa using hel
 have hz : (zC z).length = sz := by simp [zC, hzs]
 simp only [List.map_cons, List.map_nil, fillA, hx, Nat.zero_mul, hlen, true_and]
 rw [if_pos ⟨by simp [hz], hpos.1⟩]
 simp [lay, hy, hel, hz]
theorem k_buildSl1 {d : Nat} {t e : TypeId} {sz by' : Nat} {z : Value} {x : Operand} {y : AV} {el : List PV} {id : Nat} [TSl P t e sz by'] [TZ P e z] (k : AList P N ops Q rest ⟨(d, .c (.ms id 1)) :: fr, σ'⟩) (hx : ev fr x = y := by conv => lhs; whnf) (hy' : unP y.cells = some el := by exact rfl) (hel : el.length = sz := by rfl) (hzs : z.cells.size = sz := by rfl) (hpos : 0 < sz /\ sz <= 16777216 := by decide) (hg : goodConst x = true := by rfl) (hsure : sureV y = true := by rfl) (hd : Nat.blt d N = true := by rfl) (hm : σ.length = id := by exact tLen) (hσ : σ ++ [.arr e sz [el]] = σ' := by exact tAdd) :
  AList P N ops Q (⟨some d, .buildSlice t 1 #[(0, x)], ty, pos, aft, none⟩ :: rest) ⟨fr, σ⟩ := by
 subst hm
 have hy := unP_map hy'
 refine w_buildSlice (n := 1) (l := [el]) hzs (by omega) (by simp [hg, hx, hsure]) ?_ rfl (by simpa using hel) hd hσ k
 have hlen : y.cells.length = sz := by rw [hy]; simpa using hel
 have hz : (zC z).length = sz := by simp [zC, hzs]
 simp only [List.map_cons, List.map_nil, fillA, hx, Nat.zero_mul, hlen, true_and]
 rw [if_pos ⟨by simp [hz], hpos.1⟩]
 simp [lay, hy, hel, hz]
theorem fill2 {sz : Nat} {z : List C} {a b : List PV} {x y : AV} (hz : z.length = sz) (hp : 0 < sz) (ha : a.length = sz) (hb : b.length = sz) (hx : x.cells = a.map .p) (hy : y.cells = b.map .p) :
  fillA (fun i => some (i * sz, sz)) (z ++ z) [(0, x), (1, y)] = some ((a ++ b).map .p) := by
 have e1 : x.cells.length = sz := by rw [hx]; simpa using ha
 have e2 : y.cells.length = sz := by rw [hy]; simpa using hb
 have l1 : lay (z ++ z) (0 * sz) x.cells = x.cells ++ z := by
  simp only [lay, Nat.zero_mul, List.take_zero, List.nil_append, Nat.zero_add, e1]
  rw [<- hz, List.drop_left]
 have l2 : lay (x.cells ++ z) (1 * sz) y.cells = x.cells ++ y.cells := by
  simp only [lay, Nat.one_mul, e2]
  rw [List.take_left' e1, List.drop_of_length_le (by simp [e1, hz]), List.append_nil]
 simp only [fillA, e1, e2, true_and]
 rw [if_pos ⟨by simp [hz], hp⟩, l1, if_pos ⟨by simp [hz, e1] <;> omega, hp⟩, l2, hx, hy]; simp
theorem b_buildSl2 {t e : TypeId} {sz by' : Nat} {z : Value} {x0 x1 : Operand} {y0 y1 : AV} {a b : List PV} [TSl P t e sz by'] [TZ P e z] (hx0 : ev fr x0 = y0 := by conv => lhs; whnf) (hx1 : ev fr x1 = y1 := by conv => lhs; whnf) (h0 : unP y0.cells = some a := by exact rfl) (h1 : unP y1.cells = some b := by exact rfl) (ha : a.length = sz := by rfl) (hb : b.length = sz := by rfl) (hzs : z.cells.size = sz := by rfl) (hpos : 0 < sz /\ sz <= 1000 := by decide) (hg0 : goodConst x0 = true := by rfl) (hg1 : goodConst x1 = true := by rfl) (hs0 : sureV y0 = true := by rfl) (hs1 : sureV y1 = true := by rfl) :
  RStep P σ fr ⟨d, .buildSlice t 2 #[(0, x0), (1, x1)], ty, pos, aft, g⟩ (.c (.p (.sl sz [a, b]))) := by
 refine r_buildSlice (n := 2) (l := [a, b]) hzs (by omega) (by simp [hg0, hg1, hx0, hx1, hs0, hs1]) ?_ rfl (by simp [ha, hb])
 simp only [List.map_cons, List.map_nil, hx0, hx1]
 have := fill2 (z := zC z) (by simp [zC, hzs]) hpos.1 ha hb (unP_map h0) (unP_map h1)
 simpa [List.replicate] using this
theorem k_app1 {d : Nat} {t e : TypeId} {sz by' : Nat} {z : Value} {x y : Operand} {id n m : Nat} {f : α -> List PV} {xs : List α} (el : α) [TSl P t e sz by'] [TZ P e z] (k : AList P N ops Q rest ⟨(d, .c (.ms m (n + 1))) :: fr, σ'⟩) (hx : ev fr x = .c (.ms id n) := by exact rfl) (ho : σ[id]? = some (.arr e sz (xs.map f)) := by exact tGet) (hn : n <= xs.length := by first | exact Nat.le_refl _ | omega | (simp; done)) (hy : ev fr y = .c (.p (.sl sz [f el])) := by exact rfl) (hb : (n + 1) * by' <= 140737488355328 := by omega)
  (hm : σ.length = m := by exact tLen) (hd : Nat.blt d N = true := by rfl) (hzs : z.cells.size = sz := by rfl) (hσ : σ.set id .dead ++ [.arr e sz ((xs.take n ++ [el]).map f)] = σ' := by first | exact snocG0 (by assumption) (by conv => lhs; simp only [List.set, List.cons_append, List.nil_append]) (by conv => lhs; simp only [List.set, List.cons_append, List.nil_append]) | exact snocG (by assumption) (by conv => lhs; simp only [List.set, List.cons_append, List.nil_append]) (by conv => lhs; simp only [List.set, List.cons_append, List.nil_append]) | exact snocGP (by assumption) (by conv => lhs; simp only [List.set, List.cons_append, List.nil_append]) (by conv => lhs; simp only [List.set, List.cons_append, List.nil_append]) rfl | (conv => lhs; simp only [List.set, List.cons_append, List.nil_append])) :
  AList P N ops Q (⟨some d, .call { callee := .builtin .append, args := #[x, y], argTypes := #[t, t] }, ty, pos, aft, none⟩ :: rest) ⟨fr, σ⟩ := by
 have hnew : (xs.map f).take n ++ [f el] = (xs.take n ++ [el]).map f := by simp
 have hlen : ((xs.take n ++ [el]).map f).length = n + 1 := by simp; omega
 exact k_append (n := n) (new := (xs.take n ++ [el]).map f) (m := m) hb hnew (by rw [hlen]; exact k) hx ho (by simpa using hn) hy hm hd hzs hσ
theorem k_appSl {d : Nat} {t e : TypeId} {sz by' : Nat} {z : Value} {x y : Operand} {id n m : Nat} {f : α -> List PV} {xs ys : List α} [TSl P t e sz by'] [TZ P e z] (k : AList P N ops Q rest ⟨(d, .c (.ms m (n + ys.length))) :: fr, σ'⟩) (hx : ev fr x = .c (.ms id n) := by exact rfl) (ho : σ[id]? = some (.arr e sz (xs.map f)) := by exact tGet) (hn : n <= xs.length := by first | exact Nat.le_refl _ | omega | (simp; done)) (hy : ev fr y = .c (.p (.sl sz (ys.map f))) := by exact rfl) (hb : (n + ys.length) * by' <= 140737488355328 := by omega)
  (hm : σ.length = m := by exact tLen) (hd : Nat.blt d N = true := by rfl) (hzs : z.cells.size = sz := by rfl) (hσ : σ.set id .dead ++ [.arr e sz ((xs.take n ++ ys).map f)] = σ' := by first | exact snocG0 (by assumption) (by conv => lhs; simp only [List.set, List.cons_append, List.nil_append]) (by conv => lhs; simp only [List.set, List.cons_append, List.nil_append]) | exact snocG (by assumption) (by conv => lhs; simp only [List.set, List.cons_append, List.nil_append]) (by conv => lhs; simp only [List.set, List.cons_append, List.nil_append]) | exact snocGP (by assumption) (by conv => lhs; simp only [List.set, List.cons_append, List.nil_append]) (by conv => lhs; simp only [List.set, List.cons_append, List.nil_append]) rfl | (conv => lhs; simp only [List.set, List.cons_append, List.nil_append])) :
  AList P N ops Q (⟨some d, .call { callee := .builtin .append, args := #[x, y], argTypes := #[t, t] }, ty, pos, aft, none⟩ :: rest) ⟨fr, σ⟩ := by
 have hnew : (xs.map f).take n ++ ys.map f = (xs.take n ++ ys).map f := by simp
 have hlen : ((xs.take n ++ ys).map f).length = n + ys.length := by simp; omega
 exact k_append (n := n) (new := (xs.take n ++ ys).map f) (m := m) (by simpa using hb) hnew (by rw [hlen]; exact k) hx ho (by simpa using hn) hy hm hd hzs hσ
theorem k_storeElM {t e' : TypeId} {agg : Bool} {sz esz : Nat} {x z : Operand} {y : AV} {id i : Nat} {f : α -> List PV} {xs : List α} (v : α) [TV P t agg sz] (k : AList P N ops Q rest ⟨fr, σ'⟩) (hx : ev fr x = .c (.ept id esz i 0) := by exact rfl) (hy : ev fr z = y := by conv => lhs; whnf) (ho : σ[id]? = some (.arr e' esz (xs.map f)) := by exact tGet) (hi : i < xs.length := by first | omega | (simp only [List.length_set, List.length_append, List.length_replicate]; omega)) (hes : ∀ a, (f a).length = esz := by intro a; rfl) (hyc : unP y.cells = some (f v) := by exact rfl) (hsure : sureV y = true := by rfl) (he : sz = esz := by rfl)
  (hσ : σ.set id (.arr e' esz ((xs.set i v).map f)) = σ' := by exact tSet) (hgc : goodConst z = true := by rfl) :
  AList P N ops Q (⟨none, .store t x z, ty, pos, aft, none⟩ :: rest) ⟨fr, σ⟩ := by
 have hcells : y.cells = (f v).map .p := unP_map hyc
 have hlen : (f v).length = sz := by rw [hes]; exact he.symm
 subst he
 have hi' : i < (xs.map f).length := by simpa using hi
 refine w_storeEpt hx hy ho (List.getElem?_eq_getElem hi') hcells hsure hlen (by simp [hes]) (el' := f v) (by simp only [lay, List.take_zero, List.nil_append, Nat.zero_add]; rw [List.drop_of_length_le (by simp [hes]), List.append_nil]) ?_ k hgc
 rw [<- hσ]; congr 2; simp [List.map_set]
theorem k_storePart {t e' : TypeId} {agg : Bool} {sz esz : Nat} {x z : Operand} {y : AV} {ys : List PV} {id i off : Nat} {f : α -> List PV} {xs : List α} (v : α) [TV P t agg sz] [Inhabited α] (k : AList P N ops Q rest ⟨fr, σ'⟩) (hx : ev fr x = .c (.ept id esz i off) := by exact rfl) (hy : ev fr z = y := by conv => lhs; whnf) (ho : σ[id]? = some (.arr e' esz (xs.map f)) := by exact tGet) (hi : i < xs.length := by first | omega | (simp only [List.length_set, List.length_append, List.length_replicate]; omega)) (hyc : unP y.cells = some ys := by exact rfl) (hsure : sureV y = true := by rfl) (hn : ys.length = sz := by rfl) (hle : off + sz <= (f (at' xs i)).length := by first | exact Nat.le_of_ble_eq_true rfl | (simp; done)) (hl : lay (f (at' xs i)) off ys = f v := by first | exact rfl | ((conv => lhs; simp only [lay, Int.reduceSub, Int.reduceToNat, Nat.reduceMul, Nat.reduceAdd, List.take_succ_cons, List.take_zero, List.drop_succ_cons, List.drop_zero, List.drop_nil, List.length_cons, List.length_nil, List.cons_append, List.nil_append]) <;> exact rfl))
  (hσ : σ.set id (.arr e' esz ((xs.set i v).map f)) = σ' := by exact tSet) (hgc : goodConst z = true := by rfl) :
  AList P N ops Q (⟨none, .store t x z, ty, pos, aft, none⟩ :: rest) ⟨fr, σ⟩ := by
 have hel : (xs.map f)[i]? = some (f (at' xs i)) := by
  have := at_get xs (i : Int) (by omega) (by omega)
  rw [Int.toNat_natCast] at this
  rw [List.getElem?_map, this]; rfl
 refine w_storeEpt hx hy ho hel (unP_map hyc) hsure hn hle hl ?_ k hgc
 rw [<- hσ]; congr 2; simp [List.map_set]
theorem kw_own {c : Code} (t : Nat) (e : TypeId) (sz : Nat) {id : Nat} (k : AWp P N c Q ⟨(t, .c (.ms id 0)) :: fr, σ'⟩) (h : fr.get t = .c (.p (.lit (.slice none 0 0))) := by exact rfl) (hm : σ.length = id := by exact tLen) (hσ : σ ++ [.arr e sz []] = σ' := by exact tAdd) : AWp P N c Q ⟨fr, σ⟩ := by
 subst hm; subst hσ
 exact gw_nil t e sz h k
theorem k_freezeM {l : List Oper} {e : TypeId} {sz n id : Nat} {f : α -> List PV} {xs : List α} (t : Nat) (k : AList P N ops Q l ⟨(t, .c (.p (.sl sz ((xs.take n).map f)))) :: fr, σ'⟩) (h : fr.get t = .c (.ms id n) := by exact rfl) (ho : σ[id]? = some (.arr e sz (xs.map f)) := by exact tGet) (hn : n <= xs.length := by first | exact Nat.le_refl _ | omega | (simp; done)) (hσ : σ.set id .dead = σ' := by exact tSet) : AList P N ops Q l ⟨fr, σ⟩ := gl_freeze t id h ho (by simpa using hn) (by simp) hσ k
theorem k_freezeA {l : List Oper} {e : TypeId} {sz id : Nat} {f : α -> List PV} {xs : List α} (t : Nat) (k : AList P N ops Q l ⟨(t, .c (.p (.sl sz (xs.map f)))) :: fr, σ'⟩) (h : fr.get t = .c (.ms id xs.length) := by exact rfl) (ho : σ[id]? = some (.arr e sz (xs.map f)) := by exact tGet) (hσ : σ.set id .dead = σ' := by exact tSet) : AList P N ops Q l ⟨fr, σ⟩ := gl_freeze t id h ho (by simp) (List.take_of_length_le (by simp)) hσ k
theorem kw_freezeM {c : Code} {e : TypeId} {sz n id : Nat} {f : α -> List PV} {xs : List α} (t : Nat) (k : AWp P N c Q ⟨(t, .c (.p (.sl sz ((xs.take n).map f)))) :: fr, σ'⟩) (h : fr.get t = .c (.ms id n) := by exact rfl) (ho : σ[id]? = some (.arr e sz (xs.map f)) := by exact tGet) (hn : n <= xs.length := by first | exact Nat.le_refl _ | omega | (simp; done)) (hσ : σ.set id .dead = σ' := by exact tSet) : AWp P N c Q ⟨fr, σ⟩ := gw_freeze t id h ho (by simpa using hn) (by simp) hσ k
theorem kw_freezeA {c : Code} {e : TypeId} {sz id : Nat} {f : α -> List PV} {xs : List α} (t : Nat) (k : AWp P N c Q ⟨(t, .c (.p (.sl sz (xs.map f)))) :: fr, σ'⟩) (h : fr.get t = .c (.ms id xs.length) := by exact rfl) (ho : σ[id]? = some (.arr e sz (xs.map f)) := by exact tGet) (hσ : σ.set id .dead = σ' := by exact tSet) : AWp P N c Q ⟨fr, σ⟩ := gw_freeze t id h ho (by simp) (List.take_of_length_le (by simp)) hσ k
theorem aw_roundsG {ι : Type} {c : Code} (S : ι -> Nat -> Fr) (L : ι -> Nat -> List AObj) (Φ : ι -> Prop) (μ : ι -> Nat) (i0 : ι) (n0 : Nat) (hΦ : Φ i0) (hn : n0 <= σ.length) (hσ : σ.drop n0 = L i0 n0) (hS : ∀ p ∈ S i0 n0, fr.get p.1 = p.2)
  (round : ∀ i n (g : List AObj), Φ i -> g.length = n -> AWp P N c (fun x s' => match x with | .normal => ∃ j n', Φ j /\ n' <= s'.σ.length /\ s'.σ.drop n' = L j n' /\ (∀ p ∈ S j n', s'.fr.get p.1 = p.2) /\ μ j < μ i | x => Q x s') ⟨S i n, g ++ L i n⟩) : AWp P N (.loop c) Q ⟨fr, σ⟩ := by
 refine aw_rounds (ι := ι × List AObj) (fun p => S p.1 p.2.length) (fun p => p.2 ++ L p.1 p.2.length) (fun p => Φ p.1) (fun p => μ p.1) (i0, σ.take n0) hΦ ?_ ?_ (fun i hi => ?_)
 ·have : (σ.take n0).length = n0 := by simp [hn]
  simp only [this]
  rw [<- hσ, List.take_append_drop]
 ·have : (σ.take n0).length = n0 := by simp [hn]
  simp only [this]
  exact hS
 ·obtain ⟨i, gg⟩ := i
  refine (round i gg.length gg hi rfl).mono fun x s' h => ?_
  cases x with
  | normal =>
   obtain ⟨j, n', h1, h2, h3, h4, h5⟩ := h
   have : (s'.σ.take n').length = n' := by simp [h2]
   exact ⟨(j, s'.σ.take n'), h1, by simp only [this]; rw [<- h3, List.take_append_drop], by simp only [this]; exact h4, h5⟩
  | _ => exact h
end
end Go.AL
