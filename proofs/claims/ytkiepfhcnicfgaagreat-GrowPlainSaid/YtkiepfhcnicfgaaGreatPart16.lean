/-
  Part 16 of the proof: what the functions that the law reaches come to.
-/
import Derived.Test.YtkiepfhcnicfgaaGreatPart15
set_option linter.all false
set_option maxRecDepth 100000
set_option maxHeartbeats 8000000
namespace Go.AL
open Go.Proofs
structure HistP (b : List Node) (k : Nat) (S : List Int) : Prop where
 len : (S.length : Int) = dep b k
 mem : ∀ x ∈ S, 0 <= x /\ x < k
 eq : ∀ i : Nat, i < S.length -> dep b ((at' S (i : Int)).toNat + 1) = i + 1
 up : ∀ i : Nat, i < S.length -> ∀ y : Nat, at' S (i : Int) + 1 < y -> y <= k -> (i : Int) + 2 <= dep b y
 last : k = 0 \/ (0 < S.length /\ at' S ((S.length - 1 : Nat) : Int) = (k : Int) - 1)
theorem HistP.push {b : List Node} {k m : Nat} {S : List Int} (h : HistP b k S) (hm : m <= S.length) (hd : dep b (k + 1) = m + 1) : HistP b (k + 1) (S.take m ++ [(k : Int)]) := by
 have hl : (S.take m ++ [(k : Int)]).length = m + 1 := by simp; omega
 have hat : ∀ i : Nat, i < S.length -> 0 <= at' S (i : Int) /\ at' S (i : Int) < k := fun i hi => h.mem _ (at'_memI (by omega) (by omega))
 refine ⟨by rw [hl, hd]; push_cast; rfl, fun x hx => ?_, fun i hi => ?_, fun i hi y hy hyk => ?_, .inr ⟨by omega, ?_⟩⟩
 ·rcases List.mem_append.1 hx with hx | hx
  ·have := h.mem x (List.mem_of_mem_take hx); omega
  ·simp at hx; omega
 ·rw [hl] at hi
  by_cases him : i = m
  ·subst him
   rw [at'_snoc_eq hm, Int.toNat_natCast, hd]
  ·rw [at'_snoc_lt hm (by omega)]
   exact h.eq i (by omega)
 ·rw [hl] at hi
  by_cases him : i = m
  ·subst him
   rw [at'_snoc_eq hm] at hy
   omega
  ·rw [at'_snoc_lt hm (by omega)] at hy
   by_cases e : y = k + 1
   ·subst e; rw [hd]; omega
   ·exact h.up i (by omega) y hy (by omega)
 ·rw [hl, show m + 1 - 1 = m by omega, at'_snoc_eq hm]
  omega
theorem partsL_find (b : List Node) (node : Nat) (x : Nat) (hx : dep b (x + 1) = dep b node - 1) (hup : ∀ y : Nat, x + 1 < y -> y <= node -> dep b node <= dep b y) : ∀ (k : Nat) (opn : Int), x + 1 < k -> k <= node -> opn = 1 - dep b node + dep b k -> partsL b node k opn = ((x : Int), (node : Int) - 1)
 | 0, opn, h, _, e => by omega
 | k + 1, opn, h, hk, e => by
  simp only [partsL]
  have e2 : opn + (arityI (at' b (k : Int)).op - 1) = 1 - dep b node + dep b k := by
   simp only [dep] at e; omega
  rw [e2]
  by_cases hkx : k = x + 1
  ·subst hkx
   rw [if_pos (by omega)]
   congr 1
   omega
  ·have := hup k (by omega) (by omega)
   rw [if_neg (by omega)]
   exact partsL_find b node x hx hup k _ (by omega) (by omega) rfl
def SameP (b : List Node) (pt : List (Int × Int)) (j : Nat) : Prop :=
 ((at' b (j : Int)).op = 4 \/ (at' b (j : Int)).op = 5 -> partsI b j = at' pt (j : Int)) /\ ((at' b (j : Int)).op = 6 \/ (at' b (j : Int)).op = 7 \/ (at' b (j : Int)).op = 8 -> (partsI b j).1 = (at' pt (j : Int)).1)
theorem prt_same (b : List Node) : ∀ (f k : Nat) (ps : List (Int × Int)) (S : List Int) (pt : List (Int × Int)), k + f = b.length -> ps.length = b.length -> HistP b k S -> (∀ j : Nat, j < k -> SameP b ps j) -> prtF b f k ps S = some pt -> ∀ j : Nat, j < b.length -> SameP b pt j
 | 0, k, ps, S, pt, hk, hl, hs, hp, h => by
  simp only [prtF, Option.some.injEq] at h
  subst h
  have : k = b.length := by omega
  subst this
  exact hp
 | f + 1, k, ps, S, pt, hk, hl, hs, hp, h => by
  have hkl : k < ps.length := by omega
  have hd : ∀ a : Int, arityI (at' b (k : Int)).op = a -> dep b (k + 1) = dep b k + (1 - a) := fun a ha => by simp only [dep]; rw [ha]
  have hlen := hs.len
  have step : ∀ (p : Int × Int) (j : Nat), (SameP b (ps.set k p) k) -> j < k + 1 -> SameP b (ps.set k p) j := fun p j h1 h2 => by
   by_cases e : j = k
   ·subst e; exact h1
   ·have := hp j (by omega)
    unfold SameP at this ⊢
    rw [at'_set_ne (by omega)]
    exact this
  unfold prtF at h
  by_cases p4 : (at' b (k : Int)).op = 4 \/ (at' b (k : Int)).op = 5
  ·have ha : arityI (at' b (k : Int)).op = 2 := by rcases p4 with h | h <;> rw [h] <;> rfl
   have hdk := hd 2 ha
   rw [if_pos p4] at h
   by_cases h2 : 2 <= S.length
   ·rw [if_pos h2, List.set_set, show ((S.length : Int) - 2).toNat = S.length - 2 by omega, show (S.length : Int) - 2 = ((S.length - 2 : Nat) : Int) by omega, show (S.length : Int) - 1 = ((S.length - 1 : Nat) : Int) by omega] at h
    refine prt_same b f (k + 1) _ _ pt (by omega) (by simp [hl]) (hs.push (by omega) (by omega)) (fun j hj => step _ j ⟨fun _ => ?_, fun hh => absurd hh (by omega)⟩ hj) h
    rw [at'_set_self hkl]
    have hx := hs.mem _ (at'_memI (l := S) (x := ((S.length - 2 : Nat) : Int)) (by omega) (by omega))
    obtain ⟨x, hxx⟩ : ∃ x : Nat, at' S ((S.length - 2 : Nat) : Int) = (x : Int) := ⟨(at' S ((S.length - 2 : Nat) : Int)).toNat, by omega⟩
    have he := hs.eq (S.length - 2) (by omega)
    have hu := hs.up (S.length - 2) (by omega)
    have he1 := hs.eq (S.length - 1) (by omega)
    rw [hxx] at he hu hx
    rw [Int.toNat_natCast] at he
    have hla : at' S ((S.length - 1 : Nat) : Int) = (k : Int) - 1 := by
     rcases hs.last with h0 | h0
     ·omega
     ·exact h0.2
    have hxk : x + 1 < k := by
     rcases Nat.lt_or_ge (x + 1) k with h | h
     ·exact h
     ·exfalso
      have : x + 1 = k := by omega
      rw [this] at he
      omega
    rw [hxx, hla]
    unfold partsI
    rw [if_neg (by omega), if_neg (by omega), if_neg (by omega), Int.toNat_natCast]
    exact partsL_find b k x (by omega) (fun y h1 h2 => by have := hu y (by omega) h2; omega) k 1 hxk (Nat.le_refl _) (by omega)
   ·rw [if_neg h2] at h; cases h
  rw [if_neg p4] at h
  by_cases p6 : (at' b (k : Int)).op = 6 \/ (at' b (k : Int)).op = 7 \/ (at' b (k : Int)).op = 8
  ·have ha : arityI (at' b (k : Int)).op = 1 := by rcases p6 with h | h | h <;> rw [h] <;> rfl
   have hdk := hd 1 ha
   rw [if_pos p6] at h
   by_cases h1 : 1 <= S.length
   ·rw [if_pos h1, List.set_set, show ((S.length : Int) - 1).toNat = S.length - 1 by omega] at h
    refine prt_same b f (k + 1) _ _ pt (by omega) (by simp [hl]) (hs.push (by omega) (by omega)) (fun j hj => step _ j ⟨fun hh => absurd hh p4, fun _ => ?_⟩ hj) h
    rw [at'_set_self hkl]
    have hk0 : k ≠ 0 := fun e => by
     have := hs.mem _ (at'_memI (l := S) (x := 0) (by omega) (by omega))
     omega
    unfold partsI
    rw [if_neg (by omega), if_neg (by omega), if_pos ha]
   ·rw [if_neg h1] at h; cases h
  rw [if_neg p6] at h
  have ha : arityI (at' b (k : Int)).op = 0 := by
   unfold arityI
   rw [if_neg p4, if_neg p6]
  have hdk := hd 0 ha
  refine prt_same b f (k + 1) _ _ pt (by omega) (by simp [hl]) ?_ (fun j hj => step _ j ⟨fun hh => absurd hh p4, fun hh => absurd hh p6⟩ hj) h
  have := hs.push (m := S.length) (Nat.le_refl _) (by omega)
  rwa [List.take_length] at this
theorem prtM_same {b : List Node} {pt : List (Int × Int)} (h : prtM b = some pt) : ∀ j : Nat, j < b.length -> SameP b pt j :=
 prt_same b b.length 0 _ [] pt (by omega) (by simp) ⟨rfl, fun x hx => by (cases hx), fun i hi => by (cases hi), fun i hi => by (cases hi), .inl rfl⟩ (fun j hj => absurd hj (by omega)) h
end Go.AL
namespace Go.AL
open Go.Proofs
abbrev noHeads (c : Core) : List Bool := List.replicate c.rules.length false
/-- What the document evaluates in. -/
abbrev envR (c : Core) (input : ByteArray) (D S : Int) : Env := ⟨c, psM c, noHeads c, input, clampI D 32768, clampI S 1048576⟩
theorem wfR {c : Core} (hR : Right c) (input : ByteArray) (D S : Int) (hin : input.size <= 65536) : WF (envR c input D S) where
 nr := hR.nr
 body := fun r r0 r1 => by
  have hm := at'_memI r0 r1
  exact ⟨rightL_pos (hR.right _ hm), hR.size _ hm⟩
 heads := by simp
 parts := by simp [psM]
 part := fun r r0 r1 => by
  obtain ⟨k, rfl⟩ : ∃ k : Nat, r = (k : Int) := ⟨r.toNat, by omega⟩
  have hk : k < c.rules.length := by have : (k : Int) < c.rules.length := r1; omega
  obtain ⟨pt, p1, p2, p3, p4, p5⟩ := rule_at hR hk
  show (at' (psM c) (k : Int)).length = _
  rw [p3]; exact p4
 rule := fun r k r0 r1 k0 k1 h2 => rightL_rule _ _ (hR.right _ (at'_memI r0 r1)) _ (at'_memI k0 k1) h2
 two := fun r k r0 r1 k0 k1 h => by
  obtain ⟨q, rfl⟩ : ∃ q : Nat, r = (q : Int) := ⟨r.toNat, by omega⟩
  obtain ⟨j, rfl⟩ : ∃ j : Nat, k = (j : Int) := ⟨k.toNat, by omega⟩
  have hq : q < c.rules.length := by have : (q : Int) < c.rules.length := r1; omega
  have hj : j < (at' c.rules (q : Int)).body.length := by have : (j : Int) < (at' c.rules (q : Int)).body.length := k1; omega
  obtain ⟨pt, p1, p2, p3, p4, p5⟩ := rule_at hR hq
  show (0 <= (at' (at' (psM c) (q : Int)) (j : Int)).1 /\ (at' (at' (psM c) (q : Int)) (j : Int)).1 < (at' c.rules (q : Int)).body.length) /\ (0 <= (at' (at' (psM c) (q : Int)) (j : Int)).2 /\ (at' (at' (psM c) (q : Int)) (j : Int)).2 < (at' c.rules (q : Int)).body.length)
  rw [p3]
  have := p5 j hj
  have := this.2.2.1 h
  have := p5 j hj
  unfold GoodP at this
  omega
 one := fun r k r0 r1 k0 k1 h => by
  obtain ⟨q, rfl⟩ : ∃ q : Nat, r = (q : Int) := ⟨r.toNat, by omega⟩
  obtain ⟨j, rfl⟩ : ∃ j : Nat, k = (j : Int) := ⟨k.toNat, by omega⟩
  have hq : q < c.rules.length := by have : (q : Int) < c.rules.length := r1; omega
  have hj : j < (at' c.rules (q : Int)).body.length := by have : (j : Int) < (at' c.rules (q : Int)).body.length := k1; omega
  obtain ⟨pt, p1, p2, p3, p4, p5⟩ := rule_at hR hq
  show 0 <= (at' (at' (psM c) (q : Int)) (j : Int)).1 /\ (at' (at' (psM c) (q : Int)) (j : Int)).1 < (at' c.rules (q : Int)).body.length
  rw [p3]
  have h4 := (p5 j hj).2.2.2 h
  have := p5 j hj
  unfold GoodP at this
  omega
 limD := by show 0 <= clampI D 32768 /\ clampI D 32768 <= 32768; unfold clampI; omega
 limS := by show 0 <= clampI S 1048576 /\ clampI S 1048576 <= 1048576; unfold clampI; omega
 input := hin
theorem rightL_ops {n : Int} : ∀ (b : List Node) (d : Int), rightL n b d = true -> ∀ nd ∈ b, 0 <= nd.op /\ nd.op <= 8
 | [], _, _, nd, h => by cases h
 | x :: b, d, h, nd, hn => by
  simp only [rightL, Bool.and_eq_true] at h
  rcases List.mem_cons.1 hn with rfl | hn
  ·have := of_decide_eq_true h.1
   exact ⟨this.2.1, this.2.2.1⟩
  ·exact rightL_ops b _ h.2 nd hn
theorem opsR {c : Core} (hR : Right c) (input : ByteArray) (D S : Int) : OpsOK (envR c input D S) := fun r n r0 r1 n0 n1 => rightL_ops _ _ (hR.right _ (at'_memI r0 r1)) _ (at'_memI n0 n1)
theorem headsR (c : Core) (r : Int) : at' (noHeads c) r = false := by
 simp only [at', List.getD_eq_getElem?_getD, List.getElem?_replicate]
 split <;> rfl
/-- The same nodes gone through, whichever parts are told of the others. -/
theorem evalD_parts {c : Core} (hR : Right c) {input : ByteArray} {D S : Int} (hin : input.size <= 65536) : ∀ (d : Nat) (rule node : Int), 0 <= rule -> rule < c.rules.length -> 0 <= node -> node < (at' c.rules rule).body.length -> evalD (envM c (noHeads c) input D S) d rule node = evalD (envR c input D S) d rule node
 | 0, rule, node, _, _, _, _ => rfl
 | d + 1, rule, node, r0, r1, n0, n1 => by
  have ih : ∀ r k : Int, 0 <= r -> r < c.rules.length -> 0 <= k -> k < (at' c.rules r).body.length -> evalD (envM c (noHeads c) input D S) d r k = evalD (envR c input D S) d r k := fun r k q0 q1 q2 q3 => evalD_parts hR hin d r k q0 q1 q2 q3
  funext a s
  simp only [evalD]
  split
  ·rfl
  have hw := wfR hR input D S hin
  have hru := hw.rule rule node r0 r1 n0 n1
  have htw := hw.two rule node r0 r1 n0 n1
  have hon := hw.one rule node r0 r1 n0 n1
  have hsame : SameP (at' c.rules rule).body (at' (psM c) rule) node.toNat := by
   obtain ⟨q, rfl⟩ : ∃ q : Nat, rule = (q : Int) := ⟨rule.toNat, by omega⟩
   obtain ⟨j, rfl⟩ : ∃ j : Nat, node = (j : Int) := ⟨node.toNat, by omega⟩
   obtain ⟨pt, p1, p2, p3, p4, p5⟩ := rule_at hR (show q < c.rules.length by omega)
   rw [p3, Int.toNat_natCast]
   exact prtM_same p1 j (by omega)
  have hpm : at' (at' (partsM c) rule) node = partsI (at' c.rules rule).body node := by
   obtain ⟨q, rfl⟩ : ∃ q : Nat, rule = (q : Int) := ⟨rule.toNat, by omega⟩
   obtain ⟨j, rfl⟩ : ∃ j : Nat, node = (j : Int) := ⟨node.toNat, by omega⟩
   exact partsM_at2 c (by omega) (by omega)
  have e0 : ((node.toNat : Nat) : Int) = node := by omega
  unfold SameP at hsame
  rw [e0] at hsame
  show stepG (envM c (noHeads c) input D S) (evalD (envM c (noHeads c) input D S) d) rule (at' (at' c.rules rule).body node) (at' (at' (partsM c) rule) node) a _ = stepG (envR c input D S) (evalD (envR c input D S) d) rule (at' (at' c.rules rule).body node) (at' (at' (psM c) rule) node) a _
  have hru : (at' (at' c.rules rule).body node).op = 2 -> 0 <= (at' (at' c.rules rule).body node).rule /\ (at' (at' c.rules rule).body node).rule < c.rules.length := hru
  have htw : (at' (at' c.rules rule).body node).op = 4 \/ (at' (at' c.rules rule).body node).op = 5 -> (0 <= (at' (at' (psM c) rule) node).1 /\ (at' (at' (psM c) rule) node).1 < (at' c.rules rule).body.length) /\ (0 <= (at' (at' (psM c) rule) node).2 /\ (at' (at' (psM c) rule) node).2 < (at' c.rules rule).body.length) := htw
  have hon : (at' (at' c.rules rule).body node).op = 6 \/ (at' (at' c.rules rule).body node).op = 7 \/ (at' (at' c.rules rule).body node).op = 8 -> 0 <= (at' (at' (psM c) rule) node).1 /\ (at' (at' (psM c) rule) node).1 < (at' c.rules rule).body.length := hon
  rw [hpm]
  have hb2 : ∀ t : MS, begun (envM c (noHeads c) input D S) d t = begun (envR c input D S) d t := fun t => rfl
  generalize at' (at' c.rules rule).body node = nd at hsame hru htw hon ⊢
  generalize at' (at' (psM c) rule) node = p at hsame htw hon ⊢
  generalize partsI (at' c.rules rule).body node = p' at hsame ⊢
  rw [hb2]
  generalize begun (envR c input D S) d s = t
  unfold stepG
  by_cases o1 : nd.op = 1
  ·rw [if_pos o1, if_pos o1]
  rw [if_neg o1, if_neg o1]
  by_cases o3 : nd.op = 3
  ·rw [if_pos o3, if_pos o3]
  rw [if_neg o3, if_neg o3]
  by_cases o2 : nd.op = 2
  ·rw [if_pos o2, if_pos o2]
   obtain ⟨u0, u1⟩ := hru o2
   have hb := hw.body nd.rule u0 u1
   have hev := ih nd.rule (lastOf (envR c input D S) nd.rule) u0 u1 (by show 0 <= ((at' c.rules nd.rule).body.length : Int) - 1; have : 0 < (at' c.rules nd.rule).body.length := hb.1; omega) (by show ((at' c.rules nd.rule).body.length : Int) - 1 < _; omega)
   show (if at' (noHeads c) nd.rule = true then _ else evalD (envM c (noHeads c) input D S) d nd.rule (lastOf (envR c input D S) nd.rule) a t) = (if at' (noHeads c) nd.rule = true then _ else evalD (envR c input D S) d nd.rule (lastOf (envR c input D S) nd.rule) a t)
   rw [headsR, if_neg (by simp), if_neg (by simp), hev]
  rw [if_neg o2, if_neg o2]
  by_cases o4 : nd.op = 4
  ·rw [if_pos o4, if_pos o4]
   obtain ⟨⟨p0, p1⟩, p2, p3⟩ := htw (.inl o4)
   rw [hsame.1 (.inl o4), ih rule p.1 r0 r1 p0 p1, ih rule p.2 r0 r1 p2 p3]
  rw [if_neg o4, if_neg o4]
  by_cases o5 : nd.op = 5
  ·rw [if_pos o5, if_pos o5]
   obtain ⟨⟨p0, p1⟩, p2, p3⟩ := htw (.inr o5)
   rw [hsame.1 (.inr o5), ih rule p.1 r0 r1 p0 p1, ih rule p.2 r0 r1 p2 p3]
  rw [if_neg o5, if_neg o5]
  by_cases o6 : nd.op = 6
  ·rw [if_pos o6, if_pos o6]
   obtain ⟨p0, p1⟩ := hon (.inl o6)
   rw [hsame.2 (.inl o6), ih rule p.1 r0 r1 p0 p1]
  rw [if_neg o6, if_neg o6]
  by_cases o7 : nd.op = 7
  ·rw [if_pos o7, if_pos o7]
   obtain ⟨p0, p1⟩ := hon (.inr (.inl o7))
   rw [hsame.2 (.inr (.inl o7)), ih rule p.1 r0 r1 p0 p1]
  rw [if_neg o7, if_neg o7]
  by_cases o8 : nd.op = 8
  ·rw [if_pos o8, if_pos o8]
   obtain ⟨p0, p1⟩ := hon (.inr (.inr o8))
   rw [hsame.2 (.inr (.inr o8)), ih rule p.1 r0 r1 p0 p1]
  ·rw [if_neg o8, if_neg o8]
end Go.AL
namespace Go.AL
open Go.Proofs
attribute [local irreducible] AWp AList RStep seqQ blockQ retQ DSteps DT DU DM DZ awR rQ SStep trees
theorem clamp43_c (D S : Int) : ACalls Tryz.prog 43 [.agg [.p (lI D), .p (lI S)]] [] (fun q _ => q = .ret (.agg [.p (lI (clampI D 32768)), .p (lI (clampI S 1048576))])) := by
 refine acalls_by Tryz.func43 Tryz.ntmps43 ?_
 simp only [argFr]
 repeat' (first| (show eRet; refine retC1 Tryz.results43 ?_)| (refine wS ?_)| fail)
 rfl
theorem roots71_c (f : List Cap) (h : CapsOK f) : ACalls Tryz.prog 71 [.c (.p (forestP f))] [] (fun r _ => r = .ret (i64 (trees f 0 0))) := by
 have hl : f.length <= 1048576 := h.1
 refine acalls_by Tryz.func71 Tryz.ntmps71 ?_
 simp only [argFr]
 repeat' (first| (refine wS ?_)| fail)
 refine aw_roundsG (ι := Nat × Int × Int) (fun i n => [(0, .c (.p (forestP f))), (5, i64 i.1), (3, i64 i.2.1), (4, i64 i.2.2)]) (fun _ _ => []) (fun i => i.1 <= f.length /\ 0 <= i.2.1 /\ i.2.1 <= i.1 /\ 0 <= i.2.2 /\ i.2.2 <= 1048577 * (i.1 : Int) /\ trees (f.drop i.1) i.2.1 i.2.2 = trees f 0 0) (fun i => f.length - i.1) (0, 0, 0) 0 ⟨by simp, by simp, by simp, by simp, by simp, by simp⟩ (by simp) rfl (by simp [Fr.get]) ?_
 rintro ⟨i, n, m⟩ q g ⟨h1, h2, h3, h4, h5, h6⟩ hg
 dsimp only at h1 h2 h3 h4 h5 h6 ⊢
 by_cases hi : i < f.length
 ·have hk := h.2 _ (at'_mem (show 0 <= (i : Int) by omega) (show (i : Int) < f.length by omega))
  have hd := drop_at f i hi
  rw [hd] at h6
  simp only [trees] at h6
  by_cases hm : m = 0
  ·rw [if_pos hm, show 1 + ((at' f (i : Int)).kids - 1) = m + (at' f (i : Int)).kids by omega] at h6
   repeat' (first| (refine aw_T ?_ (hb := dT (show (i : Int) < f.length by omega)))| (refine aw_T ?_ (hb := decide_eq_true hm))| (refine wS ?_)| fail)
   exact ⟨(i + 1, n + 1, m + (at' f (i : Int)).kids), _, ⟨by dsimp only; omega, by dsimp only; omega, by dsimp only; omega, by dsimp only; omega, by dsimp only; omega, h6⟩, Nat.le_refl _, List.drop_length, by simp [Fr.get], by dsimp only; omega⟩
  ·rw [if_neg hm, show m + ((at' f (i : Int)).kids - 1) = m - 1 + (at' f (i : Int)).kids by omega] at h6
   repeat' (first| (refine aw_T ?_ (hb := dT (show (i : Int) < f.length by omega)))| (refine aw_F ?_ (hb := decide_eq_false hm))| (refine wS ?_)| fail)
   exact ⟨(i + 1, n, m - 1 + (at' f (i : Int)).kids), _, ⟨by dsimp only; omega, by dsimp only; omega, by dsimp only; omega, by dsimp only; omega, by dsimp only; omega, h6⟩, Nat.le_refl _, List.drop_length, by simp [Fr.get], by dsimp only; omega⟩
 ·have : i = f.length := by omega
  subst this
  rw [List.drop_length] at h6
  simp only [trees] at h6
  repeat' (first| (refine aw_F ?_ (hb := dF (show ¬(f.length : Int) < f.length by omega)))| (show eRet; refine ret1 Tryz.results71 ?_)| (refine wS ?_)| fail)
  rw [h6]
theorem wrapped46_c (name : ByteArray) (a z : Int) (f : List Cap) (h : CapsOK f) : ACalls Tryz.prog 46 [strA name, i64 a, i64 z, .c (.p (forestP f))] [] (fun q σ' => q = .ret (.c (.ms 0 (f.length + 1))) /\ ∃ g, σ' = .arr 50 4 ((⟨name, a, z, trees f 0 0⟩ :: f : List Cap).map encCap) :: g) := by
 have hl : f.length <= 1048576 := h.1
 have hrt := roots71_c f h
 refine (acalls_new (n := f.length + 1) (e := 50) (sz := 4) (l := (⟨name, a, z, trees f 0 0⟩ :: f : List Cap).map encCap) ?_).mono fun q σ' ⟨h1, h2⟩ => ⟨h1, [], h2⟩
 refine acalls_by Tryz.func46 Tryz.ntmps46 ?_
 simp only [argFr]
 repeat' (first| (show lBuildSlice; refine k_buildSl1 ?_)| (show lCall; refine k_appSl (f := encCap) (xs := [⟨name, a, z, trees f 0 0⟩]) (ys := f) ?_)| (show lOp; refine op0 (by first | (show kAssign; exact b_assign) | (show kMove; exact b_move) | (show kCall; exact b_call (hrt)) | (show kBuild; exact b_buildSt)) ?_)| (show lNil; refine al_nil ?_)| (show qSeq; refine n_seq ?_)| (show cReg; refine aw_reg ?_)| (show cSeq; refine aw_seq ?_)| (show cRet; refine aw_ret ?_)| (show eRet; refine ret1 Tryz.results46 ?_))
 exact ⟨1, by rw [Nat.add_comm], rfl⟩
end Go.AL
namespace Go.AL
open Go.Proofs
def KidsOK (f : List Cap) : Prop := ∀ c ∈ f, 0 <= c.kids /\ c.kids <= 1048576
theorem kids_nil : KidsOK [] := fun c h => by cases h
theorem kids_app {f g : List Cap} (hf : KidsOK f) (hg : KidsOK g) : KidsOK (f ++ g) := fun c h => (List.mem_append.1 h).elim (hf c) (hg c)
theorem starR_kids {e : Env} {ev : Int -> RS -> Out × RS} (hg : REv e ev) (hev : ∀ (a : Int) (s : RS), 0 <= a -> a <= e.input.size -> RSOK e s -> KidsOK (ev a s).1.forest) : ∀ (n : Nat) (a : Int) (f : List Cap) (s : RS), 0 <= a -> a <= e.input.size -> RSOK e s -> KidsOK f -> KidsOK (starR ev n a f s).1.forest
 | 0, a, f, s, a0, a1, hs, hf => kids_nil
 | n + 1, a, f, s, a0, a1, hs, hf => by
  simp only [starR]
  have h1 := hg a s a0 a1 hs
  have h2 := hev a s a0 a1 hs
  generalize ev a s = q at h1 h2 ⊢
  split
  ·exact kids_nil
  split
  ·exact hf
  split
  ·exact h2
  ·exact starR_kids hg hev n _ _ _ h1.fin.1 h1.fin.2 h1.ok (kids_app hf h2)
theorem stepR_kids {e : Env} (hw : WF e) {ev : Int -> Int -> Int -> RS -> Out × RS} {rule node : Int} (r0 : 0 <= rule) (r1 : rule < e.core.rules.length) (n0 : 0 <= node) (n1 : node < (bodyOf e rule).length)
  (hg : ∀ r k : Int, 0 <= r -> r < e.core.rules.length -> 0 <= k -> k < (bodyOf e r).length -> REv e (ev r k))
  (hev : ∀ r k : Int, 0 <= r -> r < e.core.rules.length -> 0 <= k -> k < (bodyOf e r).length -> ∀ (a : Int) (s : RS), 0 <= a -> a <= e.input.size -> RSOK e s -> KidsOK (ev r k a s).1.forest) {a : Int} {s : RS} (a0 : 0 <= a) (a1 : a <= e.input.size) (hs : RSOK e s)
  (hop : 0 <= (at' (bodyOf e rule) node).op /\ (at' (bodyOf e rule) node).op <= 8) : KidsOK (stepR e ev rule (at' (bodyOf e rule) node) (at' (at' e.parts rule) node) a s).1.forest := by
 have hru := hw.rule rule node r0 r1 n0 n1
 have htw := hw.two rule node r0 r1 n0 n1
 have hon := hw.one rule node r0 r1 n0 n1
 have hS := hw.limS
 unfold stepR
 generalize at' (bodyOf e rule) node = nd at hop hru htw hon ⊢
 generalize at' (at' e.parts rule) node = p at htw hon ⊢
 by_cases o0 : nd.op = 0
 ·rw [if_pos o0]; exact kids_nil
 rw [if_neg o0]
 by_cases o1 : nd.op = 1
 ·rw [if_pos o1]
  split
  ·split
   ·split <;> exact kids_nil
   ·exact kids_nil
  ·exact kids_nil
 rw [if_neg o1]
 by_cases o3 : nd.op = 3
 ·rw [if_pos o3]; exact kids_nil
 rw [if_neg o3]
 by_cases o2 : nd.op = 2
 ·rw [if_pos o2]
  obtain ⟨u0, u1⟩ := hru o2
  have hb := hw.body nd.rule u0 u1
  exact hev nd.rule (lastOf e nd.rule) u0 u1 (by show 0 <= ((bodyOf e nd.rule).length : Int) - 1; omega) (by show ((bodyOf e nd.rule).length : Int) - 1 < _; omega) a s a0 a1 hs
 rw [if_neg o2]
 by_cases o4 : nd.op = 4
 ·rw [if_pos o4]
  obtain ⟨⟨p0, p1⟩, p2, p3⟩ := htw (.inl o4)
  have h1 := hg rule p.1 r0 r1 p0 p1 a s a0 a1 hs
  have k1 := hev rule p.1 r0 r1 p0 p1 a s a0 a1 hs
  generalize ev rule p.1 a s = q at h1 k1 ⊢
  have k2 := hev rule p.2 r0 r1 p2 p3 q.1.fin q.2 h1.fin.1 h1.fin.2 h1.ok
  split
  ·exact k1
  split
  ·exact kids_app k1 k2
  ·exact k2
 rw [if_neg o4]
 by_cases o5 : nd.op = 5
 ·rw [if_pos o5]
  obtain ⟨⟨p0, p1⟩, p2, p3⟩ := htw (.inr o5)
  have h1 := hg rule p.1 r0 r1 p0 p1 a s a0 a1 hs
  have k1 := hev rule p.1 r0 r1 p0 p1 a s a0 a1 hs
  generalize ev rule p.1 a s = q at h1 k1 ⊢
  split
  ·exact k1
  ·exact hev rule p.2 r0 r1 p2 p3 a q.2 a0 a1 h1.ok
 rw [if_neg o5]
 obtain ⟨p0, p1⟩ := hon (by omega)
 by_cases o6 : nd.op = 6
 ·rw [if_pos o6]
  exact starR_kids (hg rule p.1 r0 r1 p0 p1) (hev rule p.1 r0 r1 p0 p1) _ a [] s a0 a1 hs kids_nil
 rw [if_neg o6]
 have h1 := hg rule p.1 r0 r1 p0 p1 a s a0 a1 hs
 have k1 := hev rule p.1 r0 r1 p0 p1 a s a0 a1 hs
 generalize ev rule p.1 a s = q at h1 k1 ⊢
 by_cases o7 : nd.op = 7
 ·rw [if_pos o7]
  split <;> exact kids_nil
 rw [if_neg o7]
 split
 ·intro c hc
  rcases List.mem_cons.1 hc with rfl | hc
  ·have ht := trees_le q.1.forest 0 0
   have hl := h1.len
   have hu := h1.ok.us
   have hsu := hs.us
   dsimp only
   omega
  ·exact k1 c hc
 ·exact k1
theorem refD_kids {e : Env} (hw : WF e) (ho : OpsOK e) : ∀ d : Nat, (d : Int) <= e.limD + 1 -> ∀ rule node : Int, 0 <= rule -> rule < e.core.rules.length -> 0 <= node -> node < (bodyOf e rule).length -> ∀ (a : Int) (s : RS), 0 <= a -> a <= e.input.size -> RSOK e s -> KidsOK (refD e d rule node a s).1.forest
 | 0, hd, rule, node, r0, r1, n0, n1, a, s, a0, a1, hs => by
  simp only [refD]
  split <;> exact kids_nil
 | d + 1, hd, rule, node, r0, r1, n0, n1, a, s, a0, a1, hs => by
  simp only [refD]
  split
  ·exact kids_nil
  split
  ·exact kids_nil
  rename_i h0 hus
  have h1 := hs.us
  have h2 := hs.ud
  have h3 := hw.limD
  exact stepR_kids hw r0 r1 n0 n1 (fun r k q0 q1 q2 q3 => refD_good hw ho d (by omega) r k q0 q1 q2 q3) (fun r k q0 q1 q2 q3 => refD_kids hw ho d (by omega) r k q0 q1 q2 q3) a0 a1 ⟨by unfold begunR; dsimp only; omega, by unfold begunR; dsimp only; omega⟩ (ho rule node r0 r1 n0 n1)
theorem good_caps {e : Env} (hw : WF e) {s : RS} {q : Out × RS} (hs : RSOK e s) (h : RGood e s q) (hk : KidsOK q.1.forest) : CapsOK q.1.forest := by
 have hl := h.len
 have hu := h.ok.us
 have hsu := hs.us
 have hS := hw.limS
 exact ⟨by show _ <= (1048576 : Nat); omega, hk⟩
end Go.AL
namespace Go.AL
open Go.Proofs
attribute [local irreducible] AWp AList RStep seqQ blockQ retQ DSteps DT DU DM DZ awR rQ SStep trees
abbrev evalC (e : Env) (s : RS) : List PV := [rulesP e.core.rules, lI e.core.start, .sl 1 (e.parts.map encPs), lS e.input, lI e.limD, lI e.limS, lI s.ud, lI s.us, lI s.err]
abbrev outM1 (o : Out) (i : Nat) : AV := .agg [.p (lI o.kind), .p (lI o.fin), .p (lS o.label), .ms i o.forest.length]
/-- What node is told to come to. -/
abbrev Node1 (e : Env) (rule node a dep : Int) (s : RS) (r : Out × RS) : Prop :=
 ACalls Tryz.prog 25 [.c (.ptr 0 0), i64 rule, i64 node, i64 a, i64 dep] [.cells ((evalC e s).map .p)] (fun q σ' => q = .ret (outM1 r.1 1) /\ σ' = [.cells ((evalC e r.2).map .p), .arr 50 4 (r.1.forest.map encCap)])
/-- node, told of the document's evaluation to the depth that d leaves. -/
def NodeC (e : Env) (d : Nat) : Prop := ∀ (rule node a dep : Int) (s : RS), 0 <= rule -> rule < e.core.rules.length -> 0 <= node -> node < (bodyOf e rule).length -> 0 <= a -> a <= e.input.size -> RSOK e s -> dep = e.limD + 1 - d -> Node1 e rule node a dep s (refD e d rule node a s)
theorem node_err {e : Env} (rule node a dep : Int) (s : RS) (h0 : s.err ≠ 0) : Node1 e rule node a dep s (zeroO, s) := by
 refine acalls_out ?_
 refine acalls_by Tryz.func25 Tryz.ntmps25 ?_
 simp only [argFr]
 repeat' (first| (refine aw_T ?_ (hb := decide_eq_true h0))| (show cRet; refine kw_ownC 1 3 50 4 rfl rfl rfl rfl ?_)| (show eRet; refine retC1 Tryz.results25 ?_)| (refine wS ?_)| fail)
 exact ⟨2, by decide, rfl, rfl, rfl⟩
theorem node_deep {e : Env} (hw : WF e) (rule node a dep : Int) (s : RS) (h0 : s.err = 0) (hd : dep = e.limD + 1) : Node1 e rule node a dep s (zeroO, { s with err := 3 }) := by
 have hD := hw.limD
 refine acalls_out ?_
 refine acalls_by Tryz.func25 Tryz.ntmps25 ?_
 simp only [argFr]
 repeat' (first| (refine aw_F ?_ (hb := dF (show ¬s.err ≠ 0 by omega)))| (refine aw_T ?_ (hb := dT (show dep > e.limD by omega)))| (show cRet; refine kw_ownC 1 3 50 4 rfl rfl rfl rfl ?_)| (show eRet; refine retC1 Tryz.results25 ?_)| (refine wS ?_)| fail)
 exact ⟨2, by decide, rfl, rfl, rfl⟩
theorem node_full {e : Env} (hw : WF e) (rule node a dep : Int) (s : RS) (h0 : s.err = 0) (hd : dep <= e.limD) (hs : s.us >= e.limS) : Node1 e rule node a dep s (zeroO, { s with err := 4 }) := by
 have hD := hw.limD
 refine acalls_out ?_
 refine acalls_by Tryz.func25 Tryz.ntmps25 ?_
 simp only [argFr]
 repeat' (first| (refine aw_F ?_ (hb := dF (show ¬s.err ≠ 0 by omega)))| (refine aw_F ?_ (hb := dF (show ¬dep > e.limD by omega)))| (refine aw_T ?_ (hb := decide_eq_true hs))| (show cRet; refine kw_ownC 1 3 50 4 rfl rfl rfl rfl ?_)| (show eRet; refine retC1 Tryz.results25 ?_)| (refine wS ?_)| fail)
 exact ⟨2, by decide, rfl, rfl, rfl⟩
end Go.AL
