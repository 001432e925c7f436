/-
  Part 15 of the proof: what the functions that the law reaches come to.
-/
import Derived.Test.YtkiepfhcnicfgaaGreatPart14
set_option linter.all false
set_option maxRecDepth 100000
set_option maxHeartbeats 8000000
namespace Go.AL
open Go.Proofs
attribute [local irreducible] AWp AList RStep seqQ blockQ retQ DSteps DT DU DM DZ awR rQ SStep saidM checkI nodesM frontM frontF leadsM farM wayM toM
theorem ranks7_c (c : Core) (hc : CoreIn c) (ps : List (List (Int × Int))) (R : List Info) (h : RulesIn c ps R) (h2 : TwoIn c ps) (hw : ∀ k : Nat, k < c.rules.length -> at' (farM (toM c ps R) (k : Int)) (k : Int) = 0) :
  ACalls Tryz.prog 7 [coreV c] [] (fun q _ => q = .ret (.tup [.c (.p (.sl 1 ((rankM (toM c ps R)).map encI1))), i64 0])) := by
 have hk := check14_c c hc
 rw [h.check] at hk
 have hal := all16_c c hc ps R h h2
 have hnr := h.nr
 have hlen := toM_len c ps R
 have hrow : ∀ k : Nat, k < (toM c ps R).length -> (at' (toM c ps R) (k : Int)).length = (toM c ps R).length := fun k hk => by
  rw [toM_at c ps R k (by omega), leadsM_len, hlen]
 generalize toM c ps R = T at hal hlen hrow hw ⊢
 refine acalls_by Tryz.func7 Tryz.ntmps7 ?_
 simp only [argFr]
 repeat' (first| (show lOp; refine op0 (by (show kCall; first | exact b_call (hk) | exact b_call (hal))) ?_)| (refine wS ?_)| fail)
 refine aw_roundsP (ι := Nat) 1 (fun _ => [.cells [.p (rulesP c.rules), .p (lI c.start)]]) (fun i n => [(4, .c (.p (.sl 1 (T.map encLB)))), (5, i64 (i : Int))]) (fun _ _ => []) (fun i => i <= c.rules.length) (fun i => c.rules.length - i) 0 1 (fun _ => rfl) (by simp) (by omega) (by simp) rfl rfl (by simp [Fr.get]) ?_
 intro i n g h1 hg
 have hg1 : 1 + g.length = n := by simp at hg; omega
 clear hg
 by_cases hi : i < c.rules.length
 ·have hwn := way_none T i (by omega) hrow (by omega) (by omega) (hw i hi)
  repeat' (first| (refine aw_T ?_ (hb := dT (show (i : Int) < T.length by omega)))| (refine aw_F ?_ (hb := dF (show ¬(0 : Int) > 0 by omega)))| (show lOp; refine op0 (by (show kCall; exact b_call (hwn))) ?_)| (refine wS ?_)| fail)
  exact ⟨i + 1, n, by omega, by omega, by simp; omega, rfl, dropGP (p := 1) (j := 0) hg1 rfl rfl, by simp [Fr.get], by omega⟩
 ·repeat' (first| (refine aw_F ?_ (hb := dF (show ¬(i : Int) < T.length by omega)))| (show lMakeSlice; refine k_makeM (f := encI1) 0 ?_)| (refine wS ?_)| fail)
  clear hw hal hk hi
  have e0 : ∀ k : Nat, k < c.rules.length -> at' (List.replicate c.rules.length (0 : Int)) (k : Int) = 0 := fun k hk => by simp [at', List.getD_eq_getElem?_getD, hk]
  refine aw_roundsP (ι := Nat × Nat × List Int) 1 (fun _ => [.cells [.p (rulesP c.rules), .p (lI c.start)]]) (fun i n => [(4, .c (.p (.sl 1 (T.map encLB)))), (6, .c (.ms (n + 0) c.rules.length)), (7, i64 (i.2.1 : Int))]) (fun i _ => [.arr 3 1 (i.2.2.map encI1)]) (fun i => i.1 + i.2.1 = c.rules.length /\ i.2.2.length = c.rules.length /\ (∀ k : Nat, k < c.rules.length -> 0 <= at' i.2.2 (k : Int) /\ at' i.2.2 (k : Int) <= 65536 * (i.2.1 : Int)) /\ rankN T i.1 i.2.2 = rankM T) (fun i => i.1) (c.rules.length, 0, List.replicate c.rules.length 0) n (fun _ => rfl) ⟨by simp, by simp, fun k hk => by dsimp only; rw [e0 k hk]; omega, by unfold rankM; rw [hlen]⟩ (by omega) (by simp; omega) rfl (dropGP (p := 1) (j := 0) hg1 (by rw [hlen]; rfl) rfl) (by simp [Fr.get, hlen]) ?_
  clear hg1
  rintro ⟨m, i, l⟩ n g ⟨a1, a2, a3, a4⟩ hg
  dsimp only at a1 a2 a3 a4 hg ⊢
  have hg1 : 1 + g.length = n := by simp at hg; omega
  clear hg
  cases m with
  | zero =>
   simp only [rankN] at a4
   subst a4
   repeat' (first| (refine aw_F ?_ (hb := dF (show ¬(i : Int) < T.length by omega)))| (show cAt 21; refine kw_freezeM (f := encI1) 6 ?_; refine aw_reg ?_)| (show eRet; refine ret2 Tryz.results7 ?_)| (refine wS ?_)| fail)
   rw [List.take_of_length_le (by omega)]
  | succ m =>
   simp only [rankN] at a4
   repeat' (first| (refine aw_T ?_ (hb := dT (show (i : Int) < T.length by omega)))| (refine wS ?_)| fail)
   refine aw_roundsP (ι := Nat × Nat × List Int) 1 (fun _ => [.cells [.p (rulesP c.rules), .p (lI c.start)]]) (fun i' n => [(4, .c (.p (.sl 1 (T.map encLB)))), (6, .c (.ms (n + 0) c.rules.length)), (7, i64 (i : Int)), (8, i64 (i'.2.1 : Int))]) (fun i _ => [.arr 3 1 (i.2.2.map encI1)]) (fun i' => i'.1 + i'.2.1 = c.rules.length /\ i'.2.2.length = c.rules.length /\ (∀ k : Nat, k < c.rules.length -> 0 <= at' i'.2.2 (k : Int) /\ at' i'.2.2 (k : Int) <= 65536 * (i : Int) + 256 * (i'.2.1 : Int)) /\ rankR T i'.1 i'.2.1 i'.2.2 = rankR T T.length 0 l) (fun i' => i'.1) (c.rules.length, 0, l) n (fun _ => rfl) ⟨by simp, a2, fun k hk => by have := a3 k hk; dsimp only; omega, by rw [hlen]⟩ (by omega) (by simp; omega) rfl (dropGP (p := 1) (j := 0) hg1 rfl rfl) (by simp [Fr.get]) ?_
   clear hg1 a3
   rintro ⟨mr, r, u⟩ n g ⟨b1, b2, b3, b4⟩ hg
   dsimp only at b1 b2 b3 b4 hg ⊢
   have hg1 : 1 + g.length = n := by simp at hg; omega
   clear hg
   cases mr with
   | zero =>
    simp only [rankR] at b4
    rw [<- b4] at a4
    repeat' (first| (refine aw_F ?_ (hb := dF (show ¬(r : Int) < T.length by omega)))| (refine wS ?_)| fail)
    exact ⟨(m, i + 1, u), n, ⟨by dsimp only; omega, b2, fun k hk => by have := b3 k hk; dsimp only; omega, a4⟩, by omega, by simp; omega, rfl, dropGP (p := 1) (j := 0) hg1 rfl rfl, by simp [Fr.get], by dsimp only; omega⟩
   | succ mr =>
    simp only [rankR] at b4
    repeat' (first| (refine aw_T ?_ (hb := dT (show (r : Int) < T.length by omega)))| (refine wS ?_)| fail)
    refine aw_roundsP (ι := Nat × Nat × List Int) 1 (fun _ => [.cells [.p (rulesP c.rules), .p (lI c.start)]]) (fun i' n => [(4, .c (.p (.sl 1 (T.map encLB)))), (6, .c (.ms (n + 0) c.rules.length)), (7, i64 (i : Int)), (8, i64 (r : Int)), (9, i64 (i'.2.1 : Int))]) (fun i _ => [.arr 3 1 (i.2.2.map encI1)]) (fun i' => i'.1 + i'.2.1 = c.rules.length /\ i'.2.2.length = c.rules.length /\ (∀ k : Nat, k < c.rules.length -> 0 <= at' i'.2.2 (k : Int) /\ at' i'.2.2 (k : Int) <= 65536 * (i : Int) + 256 * (r : Int) + (i'.2.1 : Int)) /\ rankS (at' T (r : Int)) r i'.1 i'.2.1 i'.2.2 = rankS (at' T (r : Int)) r T.length 0 u) (fun i' => i'.1) (c.rules.length, 0, u) n (fun _ => rfl) ⟨by simp, b2, fun k hk => by have := b3 k hk; dsimp only; omega, by rw [hlen]⟩ (by omega) (by simp; omega) rfl (dropGP (p := 1) (j := 0) hg1 rfl rfl) (by simp [Fr.get]) ?_
    clear hg1 b3
    rintro ⟨ms, s, v⟩ n g ⟨c1, c2, c3, c4⟩ hg
    dsimp only at c1 c2 c3 c4 hg ⊢
    have hg1 : 1 + g.length = n := by simp at hg; omega
    clear hg
    cases ms with
    | zero =>
     simp only [rankS] at c4
     rw [<- c4] at b4
     repeat' (first| (refine aw_F ?_ (hb := dF (show ¬(s : Int) < T.length by omega)))| (refine wS ?_)| fail)
     exact ⟨(mr, r + 1, v), n, ⟨by dsimp only; omega, c2, fun k hk => by have := c3 k hk; dsimp only; omega, b4⟩, by omega, by simp; omega, rfl, dropGP (p := 1) (j := 0) hg1 rfl rfl, by simp [Fr.get], by dsimp only; omega⟩
    | succ ms =>
     simp only [rankS] at c4
     have hrl := hrow r (by omega)
     have q1 := c3 r (by omega)
     have q2 := c3 s (by omega)
     by_cases e1 : at' (at' T (r : Int)) (s : Int) = true
     ·rw [if_pos e1] at c4
      repeat' (first| (refine aw_T ?_ (hb := dT (show (s : Int) < T.length by omega)))| (refine aw_T ?_ (hb := e1))| (show lStore; refine k_storeElM (i := r) (f := encI1) (max (at' v (r : Int)) (at' v (s : Int) + 1)) ?_)| (refine wS ?_)| fail)
      exact ⟨(ms, s + 1, v.set r (max (at' v (r : Int)) (at' v (s : Int) + 1))), n, ⟨by dsimp only; omega, by simp [c2], fun k hk => by
       dsimp only
       by_cases e : r = k
       ·subst e; rw [at'_set_self (by omega)]; omega
       ·rw [at'_set_ne e]; have := c3 k hk; omega, c4⟩, by omega, by simp; omega, rfl, dropGP (p := 1) (j := 0) hg1 rfl rfl, by simp [Fr.get], by dsimp only; omega⟩
     ·rw [if_neg e1] at c4
      have e1f : at' (at' T (r : Int)) (s : Int) = false := by simpa using e1
      repeat' (first| (refine aw_T ?_ (hb := dT (show (s : Int) < T.length by omega)))| (refine aw_F ?_ (hb := e1f))| (refine wS ?_)| fail)
      exact ⟨(ms, s + 1, v), n, ⟨by dsimp only; omega, c2, fun k hk => by have := c3 k hk; dsimp only; omega, c4⟩, by omega, by simp; omega, rfl, dropGP (p := 1) (j := 0) hg1 rfl rfl, by simp [Fr.get], by dsimp only; omega⟩
end Go.AL
namespace Go.AL
open Go.Proofs
attribute [local irreducible] AWp AList RStep seqQ blockQ retQ DSteps DT DU DM DZ awR rQ SStep saidM checkI nodesM frontM frontF leadsM farM wayM toM factsI
/-- The stars of a body whose part may match nothing, as the document says it. -/
def starsF (b : List Node) (N : List Info) (r : Int) : Nat -> Nat -> List (Int × Int) -> List (Int × Int)
 | 0, _, l => l
 | m + 1, k, l => starsF b N r m (k + 1) (if (at' b (k : Int)).op = 6 /\ (at' N ((k : Int) - 1)).may.f1 = true then l ++ [(r, (k : Int))] else l)
def starsAll (c : Core) (ps : List (List (Int × Int))) (R : List Info) : Nat -> Nat -> List (Int × Int) -> List (Int × Int)
 | 0, _, l => l
 | m + 1, i, l => starsAll c ps R m (i + 1) (starsF (at' c.rules (i : Int)).body (factsI c ps R (i : Int)) (i : Int) (at' c.rules (i : Int)).body.length 0 l)
def starsM (c : Core) (ps : List (List (Int × Int))) (R : List Info) : List (Int × Int) := starsAll c ps R c.rules.length 0 []
theorem starsF_le (b : List Node) (N : List Info) (r : Int) : ∀ (m k : Nat) (l : List (Int × Int)), l.length <= (starsF b N r m k l).length
 | 0, _, _ => Nat.le_refl _
 | m + 1, k, l => by
  simp only [starsF]
  refine Nat.le_trans ?_ (starsF_le b N r m _ _)
  split <;> simp
theorem starsAll_le (c : Core) (ps : List (List (Int × Int))) (R : List Info) : ∀ (m i : Nat) (l : List (Int × Int)), l.length <= (starsAll c ps R m i l).length
 | 0, _, _ => Nat.le_refl _
 | m + 1, i, l => by
  simp only [starsAll]
  exact Nat.le_trans (starsF_le ..) (starsAll_le c ps R m _ _)
theorem starsF_some (b : List Node) (N : List Info) (r : Int) : ∀ (m k : Nat) (l : List (Int × Int)) (j : Nat), k <= j -> j < k + m -> (at' b (j : Int)).op = 6 -> (at' N ((j : Int) - 1)).may.f1 = true -> l.length < (starsF b N r m k l).length
 | 0, k, l, j, h1, h2, _, _ => by omega
 | m + 1, k, l, j, h1, h2, h3, h4 => by
  simp only [starsF]
  by_cases e : k = j
  ·subst e
   rw [if_pos ⟨h3, h4⟩]
   exact Nat.lt_of_lt_of_le (by simp) (starsF_le b N r m _ _)
  ·exact Nat.lt_of_le_of_lt (by split <;> simp) (starsF_some b N r m (k + 1) _ j (by omega) (by omega) h3 h4)
theorem starsAll_some (c : Core) (ps : List (List (Int × Int))) (R : List Info) : ∀ (m i : Nat) (l : List (Int × Int)) (r j : Nat), i <= r -> r < i + m -> j < (at' c.rules (r : Int)).body.length -> (at' (at' c.rules (r : Int)).body (j : Int)).op = 6 -> (at' (factsI c ps R (r : Int)) ((j : Int) - 1)).may.f1 = true -> l.length < (starsAll c ps R m i l).length
 | 0, i, l, r, j, h1, h2, _, _, _ => by omega
 | m + 1, i, l, r, j, h1, h2, h3, h4, h5 => by
  simp only [starsAll]
  by_cases e : i = r
  ·subst e
   exact Nat.lt_of_lt_of_le (starsF_some (at' c.rules (i : Int)).body (factsI c ps R (i : Int)) i (at' c.rules (i : Int)).body.length 0 l j (by omega) (by omega) h4 h5) (starsAll_le c ps R m _ _)
  ·exact Nat.lt_of_le_of_lt (starsF_le ..) (starsAll_some c ps R m (i + 1) _ r j (by omega) (by omega) h3 h4 h5)
/-- Where the document names no star, none has a part that may match nothing. -/
theorem stars_none {c : Core} {ps : List (List (Int × Int))} {R : List Info} (h : starsM c ps R = []) {r j : Nat} (hr : r < c.rules.length) (hj : j < (at' c.rules (r : Int)).body.length) (h6 : (at' (at' c.rules (r : Int)).body (j : Int)).op = 6) : (at' (factsI c ps R (r : Int)) ((j : Int) - 1)).may.f1 = false := by
 by_cases e : (at' (factsI c ps R (r : Int)) ((j : Int) - 1)).may.f1 = true
 ·have := starsAll_some c ps R c.rules.length 0 [] r j (by omega) (by omega) hj h6 e
  unfold starsM at h
  rw [h] at this
  cases this
 ·simpa using e
theorem stars_bad (c : Core) (hc : CoreIn c) (h : checkI c ≠ 0) : ACalls Tryz.prog 6 [coreV c] [] (fun q _ => q = .ret (.tup [.c (.p (.lit (.slice none 0 0))), i64 6])) := by
 have hk := check14_c c hc
 refine acalls_by Tryz.func6 Tryz.ntmps6 ?_
 simp only [argFr]
 repeat' (first| (refine aw_T ?_ (hb := decide_eq_true h))| (show lOp; refine op0 (by (show kCall; exact b_call (hk))) ?_)| (show eRet; refine ret2 Tryz.results6 ?_)| (refine wS ?_)| fail)
 rfl
theorem stars6_c (c : Core) (hc : CoreIn c) (ps : List (List (Int × Int))) (R : List Info) (h : RulesIn c ps R) (hst : ∀ r k : Nat, r < c.rules.length -> k < (at' c.rules (r : Int)).body.length -> (at' (at' c.rules (r : Int)).body (k : Int)).op = 6 -> 1 <= k) :
  ACalls Tryz.prog 6 [coreV c] [] (fun q _ => q = .ret (.tup [.c (.p (.sl 2 ((starsM c ps R).map encP2))), i64 0])) := by
 have hk := check14_c c hc
 rw [h.check] at hk
 have hnr := h.nr
 refine acalls_by Tryz.func6 Tryz.ntmps6 ?_
 simp only [argFr]
 repeat' (first| (refine aw_F ?_ (hb := rfl))| (show lOp; refine op0 (by (show kCall; exact b_call (hk))) ?_)| (refine wS ?_)| fail)
 refine kw_own 4 65 2 ?_
 refine aw_roundsP (ι := Nat × Nat × List (Int × Int)) 1 (fun _ => [.cells [.p (rulesP c.rules), .p (lI c.start)]]) (fun i n => [(1, .c (.ptr 0 0)), (4, .c (.ms (n + 0) i.2.2.length)), (5, i64 (i.2.1 : Int))]) (fun i _ => [.arr 65 2 (i.2.2.map encP2)]) (fun i => i.1 + i.2.1 = c.rules.length /\ i.2.2.length <= 16384 * i.2.1 /\ starsAll c ps R i.1 i.2.1 i.2.2 = starsM c ps R) (fun i => i.1) (c.rules.length, 0, []) 1 (fun _ => rfl) ⟨by simp, by simp, rfl⟩ (by omega) (by simp) rfl rfl (by simp [Fr.get]) ?_
 rintro ⟨m, i, l⟩ n g ⟨a1, a2, a3⟩ hg
 dsimp only at a1 a2 a3 hg ⊢
 have hg1 : 1 + g.length = n := by simp at hg; omega
 clear hg
 cases m with
 | zero =>
  simp only [starsAll] at a3
  subst a3
  repeat' (first| (refine aw_F ?_ (hb := dF (show ¬(i : Int) < c.rules.length by omega)))| (show cAt 13; refine kw_freezeM (f := encP2) 4 ?_; refine aw_reg ?_)| (show eRet; refine ret2 Tryz.results6 ?_)| (refine wS ?_)| fail)
  rw [List.take_length]
 | succ m =>
  simp only [starsAll] at a3
  have hi : i < c.rules.length := by omega
  have hbd := body15_c c hc ps R h i (by omega) (by omega)
  have hfl := factsI_len c ps R i
  obtain ⟨b0, b1⟩ := h.body i hi
  generalize hN : factsI c ps R i = N at a3 hbd hfl
  repeat' (first| (refine aw_T ?_ (hb := dT (show (i : Int) < c.rules.length by omega)))| (show lOp; refine op0 (by (show kCall; exact b_call (hbd))) ?_)| (refine wS ?_)| fail)
  refine aw_roundsP (ι := Nat × Nat × List (Int × Int)) 1 (fun _ => [.cells [.p (rulesP c.rules), .p (lI c.start)]]) (fun j n => [(1, .c (.ptr 0 0)), (4, .c (.ms (n + 0) j.2.2.length)), (5, i64 (i : Int)), (6, .c (.p (infosP N))), (8, i64 (j.2.1 : Int))]) (fun j _ => [.arr 65 2 (j.2.2.map encP2)]) (fun j => j.1 + j.2.1 = (at' c.rules (i : Int)).body.length /\ j.2.2.length <= 16384 * i + j.2.1 /\ starsF (at' c.rules (i : Int)).body N i j.1 j.2.1 j.2.2 = starsF (at' c.rules (i : Int)).body N i (at' c.rules (i : Int)).body.length 0 l) (fun j => j.1) ((at' c.rules (i : Int)).body.length, 0, l) n (fun _ => rfl) ⟨by simp, by dsimp only; omega, rfl⟩ (by omega) (by simp; omega) rfl (dropGP (p := 1) (j := 0) hg1 rfl rfl) (by simp [Fr.get]) ?_
  clear hg1
  rintro ⟨mk, k, u⟩ n g ⟨c1, c2, c3⟩ hg
  dsimp only at c1 c2 c3 hg ⊢
  have hg1 : 1 + g.length = n := by simp at hg; omega
  clear hg
  cases mk with
  | zero =>
   simp only [starsF] at c3
   rw [<- c3] at a3
   repeat' (first| (refine aw_F ?_ (hb := dF (show ¬(k : Int) < (at' c.rules (i : Int)).body.length by omega)))| (refine wS ?_)| fail)
   exact ⟨(m, i + 1, u), n, ⟨by dsimp only; omega, by dsimp only; omega, a3⟩, by omega, by simp; omega, rfl, dropGP (p := 1) (j := 0) hg1 rfl rfl, by simp [Fr.get], by dsimp only; omega⟩
  | succ mk =>
   simp only [starsF] at c3
   have hk1 := hst i k hi (by omega)
   by_cases o6 : (at' (at' c.rules (i : Int)).body (k : Int)).op = 6
   ·have hk1 := hk1 o6
    by_cases f1 : (at' N ((k : Int) - 1)).may.f1 = true
    ·rw [if_pos ⟨o6, f1⟩] at c3
     repeat' (first| (refine aw_T ?_ (hb := dT (show (k : Int) < (at' c.rules (i : Int)).body.length by omega)))| (refine aw_T ?_ (hb := f1))| (show lCall; refine k_app1 (f := encP2) ((i : Int), (k : Int)) ?_)| (refine wS ?_)| fail)
     exact ⟨(mk, k + 1, u ++ [((i : Int), (k : Int))]), n + 1, ⟨by dsimp only; omega, by simp; omega, c3⟩, by omega, by simp; omega, rfl, dropGP (p := 1) (j := 1) hg1 (by rw [List.take_length]; rfl) rfl, by simp [Fr.get], by dsimp only; omega⟩
    ·rw [if_neg (fun h => f1 h.2)] at c3
     have f1f : (at' N ((k : Int) - 1)).may.f1 = false := by simpa using f1
     clear f1
     repeat' (first| (refine aw_T ?_ (hb := dT (show (k : Int) < (at' c.rules (i : Int)).body.length by omega)))| (refine aw_F ?_ (hb := f1f))| (refine wS ?_)| fail)
     exact ⟨(mk, k + 1, u), n, ⟨by dsimp only; omega, by dsimp only; omega, c3⟩, by omega, by simp; omega, rfl, dropGP (p := 1) (j := 0) hg1 rfl rfl, by simp [Fr.get], by dsimp only; omega⟩
   ·rw [if_neg (fun h => o6 h.1)] at c3
    repeat' (first| (refine aw_T ?_ (hb := dT (show (k : Int) < (at' c.rules (i : Int)).body.length by omega)))| (refine wS ?_)| fail)
    all_goals exact ⟨(mk, k + 1, u), n, ⟨by dsimp only; omega, by dsimp only; omega, c3⟩, by omega, by simp; omega, rfl, dropGP (p := 1) (j := 0) hg1 rfl rfl, by simp [Fr.get], by dsimp only; omega⟩
end Go.AL
namespace Go.AL
open Go.Proofs
/-- A node is a part of another. -/
def PartOf (pt : List (Int × Int)) (j : Nat) (x : Int) : Prop := (at' pt (j : Int)).1 = x \/ (at' pt (j : Int)).2 = x
structure TreeP (b : List Node) (pt : List (Int × Int)) (k : Nat) : Prop where
 lt : ∀ j : Nat, j < k -> (at' pt (j : Int)).1 < j /\ (at' pt (j : Int)).2 < j
 two : ∀ j : Nat, j < k -> (at' b (j : Int)).op = 4 \/ (at' b (j : Int)).op = 5 -> 0 <= (at' pt (j : Int)).1 /\ (at' pt (j : Int)).1 < (at' pt (j : Int)).2
 one : ∀ j : Nat, j < k -> ¬((at' b (j : Int)).op = 4 \/ (at' b (j : Int)).op = 5) -> (at' pt (j : Int)).2 = -1
 no : ∀ j : Nat, j < k -> ¬((at' b (j : Int)).op = 4 \/ (at' b (j : Int)).op = 5) -> ¬((at' b (j : Int)).op = 6 \/ (at' b (j : Int)).op = 7 \/ (at' b (j : Int)).op = 8) -> (at' pt (j : Int)).1 = -1
 uni : ∀ (i j : Nat) (x : Int), i < k -> j < k -> 0 <= x -> PartOf pt i x -> PartOf pt j x -> i = j
theorem at'_end2 (S : List Int) (a d : Int) : at' (S ++ [a, d]) (((S ++ [a, d]).length : Int) - 2) = a /\ at' (S ++ [a, d]) (((S ++ [a, d]).length : Int) - 1) = d := by
 have h1 : (((S ++ [a, d]).length : Int) - 2).toNat = S.length := by simp
 have h2 : (((S ++ [a, d]).length : Int) - 1).toNat = S.length + 1 := by simp; omega
 unfold at'
 rw [h1, h2]
 constructor
 ·simp [List.getD_eq_getElem?_getD]
 ·simp [List.getD_eq_getElem?_getD, List.getElem?_append_right]
theorem end1 {st : List Int} (h : 1 <= st.length) : ∃ S a, st = S ++ [a] := by
 rcases List.eq_nil_or_concat st with h0 | ⟨S, a, h0⟩
 ·subst h0; simp at h
 ·exact ⟨S, a, by simpa using h0⟩
theorem end2 {st : List Int} (h : 2 <= st.length) : ∃ S a d, st = S ++ [a, d] := by
 obtain ⟨S, d, rfl⟩ := end1 (show 1 <= st.length by omega)
 obtain ⟨T, a, rfl⟩ := end1 (show 1 <= S.length by simp at h; omega)
 exact ⟨T, a, d, by simp⟩
/-- What a stack of nodes keeps to while a body is gone through. -/
structure StackP (pt : List (Int × Int)) (k : Nat) (st : List Int) : Prop where
 rng : ∀ x ∈ st, 0 <= x /\ x < k
 inc : st.Pairwise (· < ·)
 off : ∀ x ∈ st, ∀ j : Nat, j < k -> ¬PartOf pt j x
 last : k = 0 \/ ∃ S, st = S ++ [(k : Int) - 1]
theorem part_set {pt : List (Int × Int)} {k j : Nat} {v : Int × Int} {x : Int} (h : j ≠ k) : PartOf (pt.set k v) j x ↔ PartOf pt j x := by
 unfold PartOf; rw [at'_set_ne (by omega)]
/-- One more node. -/
theorem tree_step {b : List Node} {pt : List (Int × Int)} {k : Nat} {st : List Int} {p : Int × Int} (hk : k < pt.length) (h : TreeP b pt k) (hs : StackP pt k st) {S U : List Int} (he : st = S ++ U)
  (hp : ∀ x : Int, 0 <= x -> (p.1 = x \/ p.2 = x) -> x ∈ U) (h0 : p.1 < k /\ p.2 < k)
  (h1 : (at' b (k : Int)).op = 4 \/ (at' b (k : Int)).op = 5 -> 0 <= p.1 /\ p.1 < p.2) (h2 : ¬((at' b (k : Int)).op = 4 \/ (at' b (k : Int)).op = 5) -> p.2 = -1)
  (h3 : ¬((at' b (k : Int)).op = 4 \/ (at' b (k : Int)).op = 5) -> ¬((at' b (k : Int)).op = 6 \/ (at' b (k : Int)).op = 7 \/ (at' b (k : Int)).op = 8) -> p.1 = -1) :
  TreeP b (pt.set k p) (k + 1) /\ StackP (pt.set k p) (k + 1) (S ++ [(k : Int)]) := by
 have es : at' (pt.set k p) (k : Int) = p := at'_set_self hk
 have en : ∀ j : Nat, j < k -> at' (pt.set k p) (j : Int) = at' pt (j : Int) := fun j hj => at'_set_ne (by omega)
 have pk : ∀ x, PartOf (pt.set k p) k x ↔ (p.1 = x \/ p.2 = x) := fun x => by unfold PartOf; rw [es]
 have all : ∀ {j : Nat}, j < k + 1 -> j < k \/ j = k := fun h => by omega
 have dis : ∀ x ∈ S, x ∉ U := fun x hx hu => by
  have := hs.inc
  rw [he, List.pairwise_append] at this
  exact absurd (this.2.2 x hx x hu) (by omega)
 refine ⟨⟨fun j hj => ?_, fun j hj => ?_, fun j hj => ?_, fun j hj => ?_, fun i j x hi hj hx hpi hpj => ?_⟩, ⟨fun x hx => ?_, ?_, fun x hx j hj => ?_, .inr ⟨S, by simp⟩⟩⟩
 ·rcases all hj with hj | rfl
  ·rw [en j hj]; exact h.lt j hj
  ·rw [es]; exact h0
 ·rcases all hj with hj | rfl
  ·rw [en j hj]; exact h.two j hj
  ·rw [es]; exact h1
 ·rcases all hj with hj | rfl
  ·rw [en j hj]; exact h.one j hj
  ·rw [es]; exact h2
 ·rcases all hj with hj | rfl
  ·rw [en j hj]; exact h.no j hj
  ·rw [es]; exact h3
 ·rcases all hi with hi | rfl <;> rcases all hj with hj | rfl
  ·rw [part_set (by omega)] at hpi hpj; exact h.uni i j x hi hj hx hpi hpj
  ·rw [part_set (by omega)] at hpi
   rw [pk] at hpj
   exact absurd hpi (hs.off x (by rw [he]; exact List.mem_append_right _ (hp x hx hpj)) i hi)
  ·rw [part_set (by omega)] at hpj
   rw [pk] at hpi
   exact absurd hpj (hs.off x (by rw [he]; exact List.mem_append_right _ (hp x hx hpi)) j hj)
  ·rfl
 ·rcases List.mem_append.1 hx with hx | hx
  ·have := hs.rng x (by rw [he]; exact List.mem_append_left _ hx); omega
  ·simp at hx; omega
 ·rw [List.pairwise_append]
  have hi := hs.inc
  rw [he, List.pairwise_append] at hi
  refine ⟨hi.1, by simp, fun x hx y hy => ?_⟩
  simp at hy
  have := hs.rng x (by rw [he]; exact List.mem_append_left _ hx)
  omega
 ·rcases List.mem_append.1 hx with hy | hx
  ·have hxr := hs.rng x (by rw [he]; exact List.mem_append_left _ hy)
   rcases all hj with hj | rfl
   ·rw [part_set (by omega)]; exact hs.off x (by rw [he]; exact List.mem_append_left _ hy) j hj
   ·rw [pk]; exact fun hh => dis x hy (hp x hxr.1 hh)
  ·simp at hx
   subst hx
   rcases all hj with hj | rfl
   ·rw [part_set (by omega)]
    have := h.lt j hj
    unfold PartOf; omega
   ·rw [pk]; omega
theorem prt_tree (b : List Node) : ∀ (f k : Nat) (ps : List (Int × Int)) (st : List Int) (pt : List (Int × Int)), k + f = b.length -> ps.length = b.length -> TreeP b ps k -> StackP ps k st -> prtF b f k ps st = some pt -> TreeP b pt b.length /\ pt.length = b.length
 | 0, k, ps, st, pt, hk, hl, ht, hs, h => by
  simp only [prtF, Option.some.injEq] at h
  subst h
  have : k = b.length := by omega
  subst this
  exact ⟨ht, hl⟩
 | f + 1, k, ps, st, pt, hk, hl, ht, hs, h => by
  have hkl : k < ps.length := by omega
  unfold prtF at h
  by_cases p4 : (at' b (k : Int)).op = 4 \/ (at' b (k : Int)).op = 5
  ·rw [if_pos p4] at h
   by_cases h2 : 2 <= st.length
   ·rw [if_pos h2] at h
    obtain ⟨S, a, d, rfl⟩ := end2 h2
    obtain ⟨e1, e2⟩ := at'_end2 S a d
    rw [e1, e2, show (((S ++ [a, d]).length : Int) - 2).toNat = S.length by simp, List.take_left', List.set_set] at h
    ·have ra := hs.rng a (by simp)
     have rd := hs.rng d (by simp)
     have had : a < d := by
      have := hs.inc
      rw [List.pairwise_append] at this
      have := this.2.1
      simp at this
      exact this
     obtain ⟨t1, t2⟩ := tree_step (p := (a, d)) hkl ht hs (S := S) (U := [a, d]) rfl (fun x hx hh => by rcases hh with hh | hh <;> simp [<- hh]) ⟨ra.2, rd.2⟩ (fun _ => ⟨ra.1, had⟩) (fun hn => absurd p4 hn) (fun hn => absurd p4 hn)
     exact prt_tree b f (k + 1) _ _ pt (by omega) (by simp [hl]) t1 t2 h
    ·rfl
   ·rw [if_neg h2] at h; cases h
  rw [if_neg p4] at h
  by_cases p6 : (at' b (k : Int)).op = 6 \/ (at' b (k : Int)).op = 7 \/ (at' b (k : Int)).op = 8
  ·rw [if_pos p6] at h
   by_cases h1 : 1 <= st.length
   ·rw [if_pos h1] at h
    obtain ⟨S, a, rfl⟩ := end1 h1
    have hk0 : k ≠ 0 := fun e => by
     have := hs.rng a (by simp)
     omega
    have ha : a = (k : Int) - 1 := by
     rcases hs.last with h0 | ⟨T, hT⟩
     ·exact absurd h0 hk0
     ·have := (List.append_inj' hT rfl).2
      simpa using this
    rw [at'_set_self hkl, show (((S ++ [a]).length : Int) - 1).toNat = S.length by simp, List.take_left', List.set_set] at h
    ·have ra := hs.rng a (by simp)
     obtain ⟨t1, t2⟩ := tree_step (p := ((k : Int) - 1, -1)) hkl ht hs (S := S) (U := [a]) rfl (fun x hx hh => by rcases hh with hh | hh; (· rw [ha, <- hh]; simp); (· exfalso; dsimp only at hh; omega)) ⟨by dsimp only; omega, by dsimp only; omega⟩ (fun hn => absurd hn p4) (fun _ => rfl) (fun _ hn => absurd p6 hn)
     exact prt_tree b f (k + 1) _ _ pt (by omega) (by simp [hl]) t1 t2 h
    ·rfl
   ·rw [if_neg h1] at h; cases h
  rw [if_neg p6] at h
  obtain ⟨t1, t2⟩ := tree_step (p := (-1, -1)) hkl ht hs (S := st) (U := []) (by simp) (fun x hx hh => by exfalso; rcases hh with hh | hh <;> (dsimp only at hh; omega)) ⟨by dsimp only; omega, by dsimp only; omega⟩ (fun hn => absurd hn p4) (fun _ => rfl) (fun _ _ => rfl)
  exact prt_tree b f (k + 1) _ _ pt (by omega) (by simp [hl]) t1 t2 h
theorem prtM_tree {b : List Node} {pt : List (Int × Int)} (h : prtM b = some pt) : TreeP b pt b.length /\ pt.length = b.length :=
 prt_tree b b.length 0 _ [] pt (by omega) (by simp) ⟨fun j hj => absurd hj (by omega), fun j hj => absurd hj (by omega), fun j hj => absurd hj (by omega), fun j hj => absurd hj (by omega), fun i j x hi => absurd hi (by omega)⟩ ⟨fun x hx => by (cases hx), .nil, fun x hx => by (cases hx), .inl rfl⟩ h
end Go.AL
namespace Go.AL
open Go.Proofs
theorem at'_setB {l : List Bool} {x : Int} {i : Nat} {v : Bool} (h : ¬(0 <= x /\ x.toNat = i)) (h0 : 0 <= x) : at' (l.set x.toNat v) (i : Int) = at' l (i : Int) := at'_set_ne (by omega)
theorem frontS_off {b : List Node} {pt : List (Int × Int)} {N : List Info} {i : Nat} {l : List Bool} {x : Nat} (h : ¬PartOf pt i (x : Int)) : at' (frontS b pt N i l) (x : Int) = at' l (x : Int) := by
 unfold PartOf at h
 unfold frontS
 by_cases h1 : at' l (i : Int) = true
 ·rw [if_pos h1]
  by_cases p2 : 0 <= (at' pt (i : Int)).2
  ·rw [if_pos p2, at'_setB (by omega) p2]
   by_cases p1 : 0 <= (at' pt (i : Int)).1
   ·rw [if_pos p1, at'_setB (by omega) p1]
   ·rw [if_neg p1]
  ·rw [if_neg p2]
   by_cases p1 : 0 <= (at' pt (i : Int)).1
   ·rw [if_pos p1, at'_setB (by omega) p1]
   ·rw [if_neg p1]
 ·rw [if_neg h1]
theorem frontF_off {b : List Node} {pt : List (Int × Int)} {N : List Info} : ∀ (i : Nat) (l : List Bool) (x : Nat), (∀ j : Nat, j < i -> ¬PartOf pt j (x : Int)) -> at' (frontF b pt N i l) (x : Int) = at' l (x : Int)
 | 0, _, _, _ => rfl
 | i + 1, l, x, h => by
  simp only [frontF]
  rw [frontF_off i _ x (fun j hj => h j (by omega)), frontS_off (h i (by omega))]
theorem frontF_mark {b : List Node} {pt : List (Int × Int)} {N : List Info} (ht : TreeP b pt b.length) : ∀ (i : Nat) (l : List Bool), i <= b.length -> l.length = b.length -> ∀ j : Nat, j < i -> at' (frontF b pt N i l) (j : Int) = true ->
  (0 <= (at' pt (j : Int)).1 -> at' (frontF b pt N i l) (at' pt (j : Int)).1 = true) /\ (0 <= (at' pt (j : Int)).2 -> at' (frontF b pt N i l) (at' pt (j : Int)).2 = (decide ((at' b (j : Int)).op = 5) || (at' N (at' pt (j : Int)).1).may.f1))
 | 0, _, _, _, j, hj, _ => by omega
 | i + 1, l, hi, hl, j, hj, h => by
  simp only [frontF] at h ⊢
  by_cases e : j = i
  ·subst e
   have hlt := ht.lt j (by omega)
   have hj2 : at' l (j : Int) = true := by
    rw [frontF_off j _ j (fun q hq => by
     have := ht.lt q (by omega)
     unfold PartOf; omega), frontS_off (by unfold PartOf; omega)] at h
    exact h
   have only : ∀ x : Nat, PartOf pt j (x : Int) -> at' (frontF b pt N j (frontS b pt N j l)) (x : Int) = at' (frontS b pt N j l) (x : Int) := fun x hx => frontF_off j _ x (fun q hq hh => by
    have := ht.uni q j x (by omega) (by omega) (by omega) hh hx
    omega)
   refine ⟨fun p1 => ?_, fun p2 => ?_⟩
   ·obtain ⟨a, ha⟩ : ∃ a : Nat, (at' pt (j : Int)).1 = (a : Int) := ⟨(at' pt (j : Int)).1.toNat, by omega⟩
    rw [ha, only a (.inl ha)]
    unfold frontS
    rw [if_pos hj2, ha]
    by_cases p2 : 0 <= (at' pt (j : Int)).2
    ·have hne : (a : Int) ≠ (at' pt (j : Int)).2 := by
      by_cases h45 : (at' b (j : Int)).op = 4 \/ (at' b (j : Int)).op = 5
      ·have := ht.two j (by omega) h45; omega
      ·have := ht.one j (by omega) h45; omega
     rw [if_pos p2, at'_setB (by omega) p2, if_pos (by omega), Int.toNat_natCast, at'_set_self (by omega)]
    ·rw [if_neg p2, if_pos (by omega), Int.toNat_natCast, at'_set_self (by omega)]
   ·obtain ⟨z, hz⟩ : ∃ z : Nat, (at' pt (j : Int)).2 = (z : Int) := ⟨(at' pt (j : Int)).2.toNat, by omega⟩
    have h45 : (at' b (j : Int)).op = 4 \/ (at' b (j : Int)).op = 5 := by
     by_cases h45 : (at' b (j : Int)).op = 4 \/ (at' b (j : Int)).op = 5
     ·exact h45
     ·have := ht.one j (by omega) h45; omega
    have h2 := ht.two j (by omega) h45
    rw [hz, only z (.inr hz)]
    unfold frontS
    rw [if_pos hj2, if_pos p2, hz, Int.toNat_natCast, at'_set_self (by split <;> (try simp only [List.length_set]) <;> omega)]
  ·exact frontF_mark ht i _ (by omega) (by rw [frontS_len]; exact hl) j (by omega) h
/-- The nodes that the document marks: the last; of a marked one its first part, and the second one where the first may match nothing or either may stand. -/
theorem frontM_last {b : List Node} {pt : List (Int × Int)} {N : List Info} (ht : TreeP b pt b.length) (h0 : 0 < b.length) : at' (frontM b pt N) ((b.length : Int) - 1) = true := by
 unfold frontM
 rw [show (b.length : Int) - 1 = ((b.length - 1 : Nat) : Int) by omega, frontF_off _ _ _ (fun j hj => by
  have := ht.lt j hj
  unfold PartOf; omega), at'_set_self (by simp; omega)]
theorem frontM_mark {b : List Node} {pt : List (Int × Int)} {N : List Info} (ht : TreeP b pt b.length) {j : Nat} (hj : j < b.length) (h : at' (frontM b pt N) (j : Int) = true) :
  (0 <= (at' pt (j : Int)).1 -> at' (frontM b pt N) (at' pt (j : Int)).1 = true) /\ (0 <= (at' pt (j : Int)).2 -> at' (frontM b pt N) (at' pt (j : Int)).2 = (decide ((at' b (j : Int)).op = 5) || (at' N (at' pt (j : Int)).1).may.f1)) :=
 frontF_mark ht b.length _ (Nat.le_refl _) (by simp) j hj h
theorem frn_marks {b : List Node} {pt : List (Int × Int)} {is N : List Info} (ht : TreeP b pt b.length) (h6 : ∀ k : Nat, k < b.length -> (at' b (k : Int)).op = 6 \/ (at' b (k : Int)).op = 7 \/ (at' b (k : Int)).op = 8 -> 0 <= (at' pt (k : Int)).1) (hle : ∀ i : Int, (at' is i).may.f1 = true -> (at' N i).may.f1 = true) (P : Int -> Prop)
  (hP : ∀ k : Nat, k < b.length -> at' (frontM b pt N) (k : Int) = true -> (at' b (k : Int)).op = 2 -> P (at' b (k : Int)).rule) : ∀ (f : Nat) (todo l out : List Int), (∀ x ∈ todo, at' (frontM b pt N) x = true) -> (∀ x ∈ l, P x) -> frnF b pt is f todo l = some out -> ∀ x ∈ out, P x
 | 0, _, _, _, _, _, h => by cases h
 | f + 1, todo, l, out, ht0, hl, h => by
  simp only [frnF] at h
  by_cases he : todo = []
  ·rw [if_pos he] at h
   cases h
   exact hl
  rw [if_neg he] at h
  have hpos : 0 < todo.length := List.length_pos_iff.2 he
  have hmem := at'_memI (l := todo) (x := (todo.length : Int) - 1) (by omega) (by omega)
  generalize at' todo ((todo.length : Int) - 1) = v at h hmem
  have hv := ht0 v hmem
  by_cases hr : 0 <= v /\ v < b.length
  ·rw [if_pos hr] at h
   obtain ⟨k, rfl⟩ : ∃ k : Nat, v = (k : Int) := ⟨v.toNat, by omega⟩
   have hk : k < b.length := by omega
   have htk : ∀ x ∈ todo.take (todo.length - 1), at' (frontM b pt N) x = true := fun x hx => ht0 x (List.mem_of_mem_take hx)
   by_cases h2 : (at' b (k : Int)).op = 2
   ·rw [if_pos h2] at h
    exact frn_marks ht h6 hle P hP f _ _ _ htk (fun x hx => by
     rcases List.mem_append.1 hx with hx | hx
     ·exact hl x hx
     ·rw [List.mem_singleton.1 hx]; exact hP k hk hv h2) h
   ·rw [if_neg h2] at h
    split at h
    ·refine frn_marks ht h6 hle P hP f _ _ _ (fun x hx => ?_) hl h
     rcases List.mem_append.1 hx with hx | hx
     ·exact htk x hx
     ·obtain ⟨m1, m2⟩ := frontM_mark ht hk hv
      have t2 := ht.two k hk
      unfold nextsI at hx
      by_cases o4 : (at' b (k : Int)).op = 4
      ·rw [if_pos o4] at hx
       have t2 := t2 (.inl o4)
       split at hx
       ·rename_i hf
        simp at hx
        rcases hx with rfl | rfl
        ·exact m1 t2.1
        ·rw [m2 (by omega), hle _ hf, Bool.or_true]
       ·simp at hx
        subst hx
        exact m1 t2.1
      rw [if_neg o4] at hx
      by_cases o5 : (at' b (k : Int)).op = 5
      ·rw [if_pos o5] at hx
       have t2 := t2 (.inr o5)
       simp at hx
       rcases hx with rfl | rfl
       ·exact m1 t2.1
       ·rw [m2 (by omega), decide_eq_true o5, Bool.true_or]
      rw [if_neg o5] at hx
      split at hx
      ·rename_i o6
       simp at hx
       subst hx
       exact m1 (h6 k hk o6)
      ·cases hx
    ·cases h
  ·rw [if_neg hr] at h; cases h
end Go.AL
namespace Go.AL
open Go.Proofs
theorem leadsF_keep (b : List Node) (fr : List Bool) : ∀ (m k : Nat) (l : List Bool) (x : Nat), at' l (x : Int) = true -> at' (leadsF b fr m k l) (x : Int) = true
 | 0, _, _, _, h => h
 | m + 1, k, l, x, h => by
  simp only [leadsF]
  refine leadsF_keep b fr m _ _ x ?_
  split
  ·by_cases e : (at' b (k : Int)).rule.toNat = x
   ·rw [e]
    have hx : x < l.length := by
     by_cases hx : x < l.length
     ·exact hx
     ·have : at' l (x : Int) = false := by
       have := List.getElem?_eq_none (l := l) (i := x) (by omega)
       simp [at', List.getD_eq_getElem?_getD, this]
      rw [this] at h; cases h
    exact at'_set_self hx
   ·rw [at'_set_ne e]; exact h
  ·exact h
theorem leadsF_mark (b : List Node) (fr : List Bool) : ∀ (m k : Nat) (l : List Bool) (j x : Nat), k <= j -> j < k + m -> at' fr (j : Int) = true -> (at' b (j : Int)).op = 2 -> (at' b (j : Int)).rule = (x : Int) -> x < l.length -> at' (leadsF b fr m k l) (x : Int) = true
 | 0, k, l, j, x, h1, h2, _, _, _, _ => by omega
 | m + 1, k, l, j, x, h1, h2, h3, h4, h5, h6 => by
  simp only [leadsF]
  by_cases e : k = j
  ·subst e
   rw [if_pos ⟨h3, h4⟩, h5, Int.toNat_natCast]
   exact leadsF_keep b fr m _ _ x (at'_set_self h6)
  ·exact leadsF_mark b fr m (k + 1) _ j x (by omega) (by omega) h3 h4 h5 (by split <;> (try simp only [List.length_set]) <;> exact h6)
theorem infoL_may : ∀ (l : List May) (r : List Cls), l.length = r.length -> (infoL l r).map (·.may) = l
 | [], [], _ => rfl
 | [], _ :: _, h => by simp at h
 | _ :: _, [], h => by simp at h
 | m :: l, c :: r, h => by simp only [infoL, List.map_cons]; rw [infoL_may l r (by simpa using h)]
theorem infoM_may (c : Core) (ps : List (List (Int × Int))) (rs : List May) (fs : List Cls) (r i : Int) : (at' (infoM c ps rs fs r) i).may = at' (bodyM (at' c.rules r).body (at' ps r) rs) i := by
 rw [<- may_at]
 unfold infoM
 rw [infoL_may _ _ (by rw [bodyM_len, bytesM_len])]
structure DocIn (c : Core) (R : List Info) : Prop where
 rules : RulesIn c (psM c) R
 two : TwoIn c (psM c)
 star : ∀ r k : Nat, r < c.rules.length -> k < (at' c.rules (r : Int)).body.length -> (at' (at' c.rules (r : Int)).body (k : Int)).op = 6 -> 1 <= k
 rest : ∀ k : Nat, k < R.length -> nextI c (psM c) R (k : Int) = at' R (k : Int)
theorem doc_of {c : Core} (h0 : checkI c = 0) (hcl : ∀ r k : Nat, okC' (at' (at' c.rules (r : Int)).body (k : Int)).cl) : ∃ R, DocIn c R := by
 have hR := right_of h0
 obtain ⟨F, R, h1, h2, h3⟩ := rules_rest c (psM c) hcl
 refine ⟨R, ⟨⟨h0, by simp [psM], fun r hr => ?_, fun r j hr hj => ?_, fun r hr => ?_, fun r j hr hj h2 => ?_, fun r hr => ?_, hR.nr, ⟨F, h1⟩, h2⟩, ⟨fun r j hr hj h => ?_⟩, fun r k hr hk h6 => ?_, h3⟩⟩
 ·obtain ⟨pt, p1, p2, p3, p4, p5⟩ := rule_at hR hr
  rw [p3]; exact p2
 ·obtain ⟨pt, p1, p2, p3, p4, p5⟩ := rule_at hR hr
  rw [p3]; exact ⟨(p5 j hj).1, (p5 j hj).2.1⟩
 ·obtain ⟨pt, p1, p2, p3, p4, p5⟩ := rule_at hR hr
  rw [p3]; exact p4
 ·exact rightL_rule _ _ (hR.right _ (at'_memI (by omega) (by omega))) _ (at'_memI (by omega) (by omega)) h2
 ·have hm := at'_memI (l := c.rules) (x := (r : Int)) (by omega) (by omega)
  exact ⟨rightL_pos (hR.right _ hm), hR.size _ hm⟩
 ·obtain ⟨pt, p1, p2, p3, p4, p5⟩ := rule_at hR hr
  obtain ⟨t1, _⟩ := prtM_tree p1
  rw [p3] at h ⊢
  by_cases h45 : (at' (at' c.rules (r : Int)).body (j : Int)).op = 4 \/ (at' (at' c.rules (r : Int)).body (j : Int)).op = 5
  ·exact (t1.two j hj h45).1
  ·have := t1.one j hj h45; omega
 ·obtain ⟨pt, p1, p2, p3, p4, p5⟩ := rule_at hR hr
  have := (p5 k hk).2.2.2 (.inl h6)
  have := (p5 k hk).1
  omega
theorem plain_of {c : Core} (hc : CoreIn c) (h0 : checkI c = 0) (hcl : ∀ r k : Nat, okC' (at' (at' c.rules (r : Int)).body (k : Int)).cl) {R : List Info} (hD : DocIn c R) (hw : ∀ k : Nat, k < c.rules.length -> at' (farM (toM c (psM c) R) (k : Int)) (k : Int) = 0) (hst : starsM c (psM c) R = []) :
  ∃ I : Int -> List Info, RunF c I (List.replicate c.rules.length false) /\ ∀ r k, r < c.rules.length -> ¬BadStar c I r k := by
 have hR := right_of h0
 obtain ⟨rs, fs, hso⟩ := solve_right hR hcl
 have hf := find_right hR hso
 have hlen : ∀ r : Nat, r < c.rules.length -> (outM c rs fs r).length <= (at' c.rules (r : Int)).body.length + 1 := fun r hr => by
  have := frn_len _ _ _ _ _ _ _ (out_right hR rs fs hr).1
  simpa using this
 have hin : ∀ r : Nat, r < c.rules.length -> InB c.rules.length (outM c rs fs r) := fun r hr => (out_right hR rs fs hr).2
 have hat : ∀ r : Nat, r < c.rules.length -> at' (((List.range c.rules.length).map (outM c rs fs)).map sortedI) (r : Int) = sortedI (outM c rs fs r) := fun r hr => by simp [at', hr]
 have hbody : ∀ r : Nat, r < c.rules.length -> (at' c.rules (r : Int)).body.length <= 16384 := fun r hr => hR.size _ (at'_memI (by omega) (by omega))
 have hmem : ∀ l ∈ ((List.range c.rules.length).map (outM c rs fs)).map sortedI, ∃ r : Nat, r < c.rules.length /\ l = sortedI (outM c rs fs r) := fun l hl => by
  simp only [List.mem_map, List.mem_range] at hl
  obtain ⟨o, ⟨r, hr, rfl⟩, rfl⟩ := hl
  exact ⟨r, hr, rfl⟩
 have hLn : (((List.range c.rules.length).map (outM c rs fs)).map sortedI).length = c.rules.length := by simp
 have h23 := left23_c c hc h0 (psM c) rs fs _ hf (fun o ho => by
  simp only [List.mem_map, List.mem_range] at ho
  obtain ⟨r, hr, rfl⟩ := ho
  have := hlen r hr
  have := hbody r hr
  omega)
 have hnr := hR.nr
 have hsz : sizeL c.rules 0 <= 16384 := size_of h0
 have hHe := heads_sum (((List.range c.rules.length).map (outM c rs fs)).map sortedI) (by rw [hLn]; omega) (fun l hl => by
  rw [hLn]
  obtain ⟨r, hr, rfl⟩ := hmem l hl
  exact fun x hx => hin r hr x (sorted_mem hx)) (fun l hl => by
  obtain ⟨r, hr, rfl⟩ := hmem l hl
  have := sorted_len (outM c rs fs r)
  have := hlen r hr
  have := hbody r hr
  omega) (by
  have := sum_size (((List.range c.rules.length).map (outM c rs fs)).map sortedI) c.rules 0 hLn (fun k hk => by
   rw [hLn] at hk
   rw [hat k hk]
   exact Nat.le_trans (sorted_len _) (hlen k hk))
  omega)
 obtain ⟨FF, hcomes⟩ := hso.comes
 have hle : ∀ (r : Nat) (i : Int), (at' (infoM c (psM c) rs fs (r : Int)) i).may.f1 = true -> (at' (factsI c (psM c) R (r : Int)) i).may.f1 = true := fun r i h => by
  rw [infoM_may] at h
  exact (facts_le hcomes hD.rules.rlen hD.rest (r : Int) i).2.1 h
 have hTl := toM_len c (psM c) R
 have hedge : ∀ r : Nat, r < c.rules.length -> ∀ x ∈ outM c rs fs r, at' (at' (toM c (psM c) R) (r : Int)) x = true := fun r hr => by
  obtain ⟨pt, p1, p2, p3, p4, p5⟩ := rule_at hR hr
  obtain ⟨t1, _⟩ := prtM_tree p1
  have hout := (out_right hR rs fs hr).1
  have hb0 := hD.rules.body r hr
  rw [p3] at hout
  rw [toM_at c (psM c) R r hr]
  refine frn_marks (N := factsI c (psM c) R (r : Int)) t1 (fun k hk h6 => (p5 k hk).2.2.2 h6) (hle r) (fun x => at' (leadsM c (psM c) R (r : Int)) x = true) (fun k hk hm h2 => ?_) _ _ _ _ (fun x hx => ?_) (fun x hx => by cases hx) hout
  ·have hru := hD.rules.rule r k hr hk h2
   obtain ⟨x, hx⟩ : ∃ x : Nat, (at' (at' c.rules (r : Int)).body (k : Int)).rule = (x : Int) := ⟨(at' (at' c.rules (r : Int)).body (k : Int)).rule.toNat, by omega⟩
   rw [hx]
   unfold leadsM
   rw [p3]
   exact leadsF_mark _ _ _ 0 _ k x (by omega) (by omega) hm h2 hx (by simp; omega)
  ·rw [List.mem_singleton.1 hx]
   exact frontM_last t1 hb0.1
 have hhs := heads_none hHe (E := fun a b => 0 <= a /\ a < (toM c (psM c) R).length /\ 0 <= b /\ b < (toM c (psM c) R).length /\ at' (at' (toM c (psM c) R) a) b = true) (fun r r0 r1 x hx => by
  rw [hLn] at r1
  obtain ⟨k, rfl⟩ : ∃ k : Nat, r = (k : Int) := ⟨r.toNat, by omega⟩
  have hk : k < c.rules.length := by omega
  rw [hat k hk] at hx
  have hx := sorted_mem hx
  have hb := hin k hk x hx
  exact ⟨r0, by rw [hTl]; omega, hb.1, by rw [hTl]; omega, hedge k hk x hx⟩) (fun r hr hway => by
  rw [hLn] at hr
  have h0 := hw r hr
  have := far_none (by rw [hTl]; exact hr) h0 hway rfl
  omega)
 rw [hhs, hLn] at hHe
 refine ⟨infoM c (psM c) rs fs, ⟨heads_c c _ _ h23 hHe, fun r hr => body14_c c hc h0 (psM c) rs fs hso r (by omega) (by omega), fun r k hr hk h6 => ?_, hnr, fun r r0 r1 => ?_⟩, fun r k hr hbs => ?_⟩
 ·rw [infoM_len]
  exact ⟨hf.star r k hr hk h6, by omega⟩
 ·have hm := at'_memI r0 r1
  exact ⟨rightL_pos (hR.right _ hm), hR.size _ hm⟩
 ·obtain ⟨b1, b2, b3⟩ := hbs
  have := stars_none hst hr b1 b2
  rw [hle r _ b3] at this
  cases this
end Go.AL
namespace Go.AL
open Go.Proofs
structure RS where
 ud : Int
 us : Int
 err : Int
abbrev foundO (a : Int) (f : List Cap) : Out := ⟨1, a, ⟨#[]⟩, f⟩
def starR (ev : Int -> RS -> Out × RS) : Nat -> Int -> List Cap -> RS -> Out × RS
 | 0, _, _, s => (zeroO, s)
 | n + 1, a, f, s =>
  if s.err ≠ 0 then (zeroO, s)
  else if (ev a s).1.kind = 0 then (foundO a f, (ev a s).2)
  else if (ev a s).1.kind = 2 then ev a s
  else starR ev n (ev a s).1.fin (f ++ (ev a s).1.forest) (ev a s).2
def stepR (e : Env) (ev : Int -> Int -> Int -> RS -> Out × RS) (rule : Int) (n : Node) (p : Int × Int) (a : Int) (s : RS) : Out × RS :=
 if n.op = 0 then (foundO a [], s)
 else if n.op = 1 then
  (if a < e.input.size then
   match e.input[a.toNat]? with
   | some b => if hasB n.cl b then (foundO (a + 1) [], s) else (zeroO, s)
   | none => (zeroO, s)
  else (zeroO, s))
 else if n.op = 3 then (⟨2, a, n.name, []⟩, s)
 else if n.op = 2 then ev n.rule (lastOf e n.rule) a s
 else if n.op = 4 then
  (if (ev rule p.1 a s).1.kind ≠ 1 then ev rule p.1 a s
  else if (ev rule p.2 (ev rule p.1 a s).1.fin (ev rule p.1 a s).2).1.kind = 1 then
   ({ (ev rule p.2 (ev rule p.1 a s).1.fin (ev rule p.1 a s).2).1 with forest := (ev rule p.1 a s).1.forest ++ (ev rule p.2 (ev rule p.1 a s).1.fin (ev rule p.1 a s).2).1.forest }, (ev rule p.2 (ev rule p.1 a s).1.fin (ev rule p.1 a s).2).2)
  else ev rule p.2 (ev rule p.1 a s).1.fin (ev rule p.1 a s).2)
 else if n.op = 5 then (if (ev rule p.1 a s).1.kind ≠ 0 then ev rule p.1 a s else ev rule p.2 a (ev rule p.1 a s).2)
 else if n.op = 6 then starR (fun a s => ev rule p.1 a s) ((e.limS - s.us).toNat + 1) a [] s
 else if n.op = 7 then (if (ev rule p.1 a s).1.kind = 1 then (zeroO, (ev rule p.1 a s).2) else (foundO a [], (ev rule p.1 a s).2))
 else if (ev rule p.1 a s).1.kind = 1 then
  ({ (ev rule p.1 a s).1 with forest := ⟨n.name, a, (ev rule p.1 a s).1.fin, trees (ev rule p.1 a s).1.forest 0 0⟩ :: (ev rule p.1 a s).1.forest }, (ev rule p.1 a s).2)
 else ev rule p.1 a s
def begunR (e : Env) (d : Nat) (s : RS) : RS := { s with us := s.us + 1, ud := max s.ud (e.limD - d) }
def refD (e : Env) : Nat -> Int -> Int -> Int -> RS -> Out × RS
 | 0, _, _, _, s => if s.err ≠ 0 then (zeroO, s) else (zeroO, { s with err := 3 })
 | d + 1, rule, node, a, s => if s.err ≠ 0 then (zeroO, s) else if s.us >= e.limS then (zeroO, { s with err := 4 }) else stepR e (refD e d) rule (at' (bodyOf e rule) node) (at' (at' e.parts rule) node) a (begunR e d s)
structure RSOK (e : Env) (s : RS) : Prop where
 us : 0 <= s.us /\ s.us <= e.limS
 ud : 0 <= s.ud /\ s.ud <= 32768
/-- Of an evaluation from s. -/
structure RGood (e : Env) (s : RS) (q : Out × RS) : Prop where
 ok : RSOK e q.2
 fin : 0 <= q.1.fin /\ q.1.fin <= e.input.size
 len : (q.1.forest.length : Int) <= q.2.us - s.us
 kind : q.1.kind = 0 \/ q.1.kind = 1 \/ q.1.kind = 2
 lab : q.1.kind = 1 -> q.1.label = ⟨#[]⟩
 kept : s.err ≠ 0 -> q = (zeroO, s)
theorem RGood.us {e : Env} {s : RS} {q : Out × RS} (h : RGood e s q) : s.us <= q.2.us := by have := h.len; omega
def REv (e : Env) (ev : Int -> RS -> Out × RS) : Prop := ∀ (a : Int) (s : RS), 0 <= a -> a <= e.input.size -> RSOK e s -> RGood e s (ev a s)
theorem zero_good {e : Env} {s t : RS} (h : RSOK e t) (hle : s.us <= t.us) (hk : s.err ≠ 0 -> t = s) : RGood e s (zeroO, t) := ⟨h, ⟨by simp, by simp⟩, by simp; omega, .inl rfl, fun h => by simp at h, fun h => by rw [hk h]⟩
theorem starR_good {e : Env} {ev : Int -> RS -> Out × RS} (hev : REv e ev) : ∀ (n : Nat) (a : Int) (f : List Cap) (s s0 : RS), 0 <= a -> a <= e.input.size -> RSOK e s -> (f.length : Int) <= s.us - s0.us -> (s0.err ≠ 0 -> s = s0) -> RGood e s0 (starR ev n a f s)
 | 0, a, f, s, s0, a0, a1, hs, hl, hk => zero_good hs (by omega) hk
 | n + 1, a, f, s, s0, a0, a1, hs, hl, hk => by
  simp only [starR]
  by_cases h0 : s.err ≠ 0
  ·rw [if_pos h0]; exact zero_good hs (by omega) hk
  rw [if_neg h0]
  have hk0 : ¬s0.err ≠ 0 := fun h => h0 (by rw [hk h]; exact h)
  have hg := hev a s a0 a1 hs
  have hu := hg.us
  have hl2 := hg.len
  generalize ev a s = q at hg hu hl2 ⊢
  by_cases k0 : q.1.kind = 0
  ·rw [if_pos k0]
   exact ⟨hg.ok, ⟨a0, a1⟩, by dsimp only; omega, .inr (.inl rfl), fun _ => rfl, fun h => absurd h hk0⟩
  rw [if_neg k0]
  by_cases k2 : q.1.kind = 2
  ·rw [if_pos k2]
   exact ⟨hg.ok, hg.fin, by omega, hg.kind, hg.lab, fun h => absurd h hk0⟩
  rw [if_neg k2]
  exact starR_good hev n _ _ _ s0 hg.fin.1 hg.fin.2 hg.ok (by rw [List.length_append]; push_cast; omega) (fun h => absurd h hk0)
theorem stepR_good {e : Env} (hw : WF e) {ev : Int -> Int -> Int -> RS -> Out × RS} {rule node : Int} (r0 : 0 <= rule) (r1 : rule < e.core.rules.length) (n0 : 0 <= node) (n1 : node < (bodyOf e rule).length)
  (hev : ∀ r k : Int, 0 <= r -> r < e.core.rules.length -> 0 <= k -> k < (bodyOf e r).length -> REv e (ev r k)) {a : Int} {s s0 : RS} (a0 : 0 <= a) (a1 : a <= e.input.size) (hs : RSOK e s) (h0 : s.err = 0) (hs0 : s0.err = 0) (hu : s0.us + 1 <= s.us)
  (hop : 0 <= (at' (bodyOf e rule) node).op /\ (at' (bodyOf e rule) node).op <= 8) : RGood e s0 (stepR e ev rule (at' (bodyOf e rule) node) (at' (at' e.parts rule) node) a s) := by
 have hno : ¬s0.err ≠ 0 := fun h => h hs0
 have fnd : ∀ b : Int, 0 <= b -> b <= e.input.size -> RGood e s0 (foundO b [], s) := fun b b0 b1 => ⟨hs, ⟨b0, b1⟩, by simp; omega, .inr (.inl rfl), fun _ => rfl, fun h => absurd h hno⟩
 have nil : RGood e s0 (zeroO, s) := zero_good hs (by omega) (fun h => absurd h hno)
 have wk : ∀ {q : Out × RS} {t : RS}, RGood e t q -> s0.us <= t.us -> RGood e s0 q := fun hq ht => ⟨hq.ok, hq.fin, by have := hq.len; omega, hq.kind, hq.lab, fun h => absurd h hno⟩
 have hru := hw.rule rule node r0 r1 n0 n1
 have htw := hw.two rule node r0 r1 n0 n1
 have hon := hw.one rule node r0 r1 n0 n1
 unfold stepR
 generalize at' (bodyOf e rule) node = nd at hop hru htw hon ⊢
 generalize at' (at' e.parts rule) node = p at htw hon ⊢
 by_cases o0 : nd.op = 0
 ·rw [if_pos o0]; exact fnd a a0 a1
 rw [if_neg o0]
 by_cases o1 : nd.op = 1
 ·rw [if_pos o1]
  by_cases ha : a < e.input.size
  ·rw [if_pos ha]
   split
   ·split
    ·exact fnd (a + 1) (by omega) (by omega)
    ·exact nil
   ·exact nil
  ·rw [if_neg ha]; exact nil
 rw [if_neg o1]
 by_cases o3 : nd.op = 3
 ·rw [if_pos o3]
  exact ⟨hs, ⟨a0, a1⟩, by simp; omega, .inr (.inr rfl), fun h => by simp at h, fun h => absurd h hno⟩
 rw [if_neg o3]
 by_cases o2 : nd.op = 2
 ·rw [if_pos o2]
  obtain ⟨u0, u1⟩ := hru o2
  have hb := hw.body nd.rule u0 u1
  exact wk (hev nd.rule (lastOf e nd.rule) u0 u1 (by show 0 <= ((bodyOf e nd.rule).length : Int) - 1; omega) (by show ((bodyOf e nd.rule).length : Int) - 1 < _; omega) a s a0 a1 hs) (by omega)
 rw [if_neg o2]
 by_cases o4 : nd.op = 4
 ·rw [if_pos o4]
  obtain ⟨⟨p0, p1⟩, p2, p3⟩ := htw (.inl o4)
  have h1 := hev rule p.1 r0 r1 p0 p1 a s a0 a1 hs
  have h1u := h1.us
  have h1l := h1.len
  generalize ev rule p.1 a s = q at h1 h1u h1l ⊢
  by_cases k1 : q.1.kind ≠ 1
  ·rw [if_pos k1]; exact wk h1 (by omega)
  rw [if_neg k1]
  have h2 := hev rule p.2 r0 r1 p2 p3 q.1.fin q.2 h1.fin.1 h1.fin.2 h1.ok
  have h2l := h2.len
  generalize ev rule p.2 q.1.fin q.2 = q2 at h2 h2l ⊢
  by_cases k2 : q2.1.kind = 1
  ·rw [if_pos k2]
   exact ⟨h2.ok, h2.fin, by dsimp only; rw [List.length_append]; push_cast; omega, h2.kind, h2.lab, fun h => absurd h hno⟩
  ·rw [if_neg k2]; exact wk h2 (by omega)
 rw [if_neg o4]
 by_cases o5 : nd.op = 5
 ·rw [if_pos o5]
  obtain ⟨⟨p0, p1⟩, p2, p3⟩ := htw (.inr o5)
  have h1 := hev rule p.1 r0 r1 p0 p1 a s a0 a1 hs
  have h1u := h1.us
  generalize ev rule p.1 a s = q at h1 h1u ⊢
  by_cases k1 : q.1.kind ≠ 0
  ·rw [if_pos k1]; exact wk h1 (by omega)
  ·rw [if_neg k1]
   exact wk (hev rule p.2 r0 r1 p2 p3 a q.2 a0 a1 h1.ok) (by omega)
 rw [if_neg o5]
 obtain ⟨p0, p1⟩ := hon (by omega)
 by_cases o6 : nd.op = 6
 ·rw [if_pos o6]
  exact starR_good (hev rule p.1 r0 r1 p0 p1) _ a [] s s0 a0 a1 hs (by simp; omega) (fun h => absurd h hno)
 rw [if_neg o6]
 have h1 := hev rule p.1 r0 r1 p0 p1 a s a0 a1 hs
 have h1u := h1.us
 have h1l := h1.len
 generalize ev rule p.1 a s = q at h1 h1u h1l ⊢
 by_cases o7 : nd.op = 7
 ·rw [if_pos o7]
  by_cases k1 : q.1.kind = 1
  ·rw [if_pos k1]; exact zero_good h1.ok (by omega) (fun h => absurd h hno)
  ·rw [if_neg k1]; exact ⟨h1.ok, ⟨a0, a1⟩, by simp; omega, .inr (.inl rfl), fun _ => rfl, fun h => absurd h hno⟩
 rw [if_neg o7]
 by_cases k1 : q.1.kind = 1
 ·rw [if_pos k1]
  exact ⟨h1.ok, h1.fin, by dsimp only; rw [List.length_cons]; push_cast; omega, h1.kind, h1.lab, fun h => absurd h hno⟩
 ·rw [if_neg k1]; exact wk h1 (by omega)
/-- A node's code is one of nine. -/
def OpsOK (e : Env) : Prop := ∀ r n : Int, 0 <= r -> r < e.core.rules.length -> 0 <= n -> n < (bodyOf e r).length -> 0 <= (at' (bodyOf e r) n).op /\ (at' (bodyOf e r) n).op <= 8
theorem refD_good {e : Env} (hw : WF e) (ho : OpsOK e) : ∀ d : Nat, (d : Int) <= e.limD + 1 -> ∀ rule node : Int, 0 <= rule -> rule < e.core.rules.length -> 0 <= node -> node < (bodyOf e rule).length -> REv e (refD e d rule node)
 | 0, hd, rule, node, r0, r1, n0, n1, a, s, a0, a1, hs => by
  simp only [refD]
  by_cases h0 : s.err ≠ 0
  ·rw [if_pos h0]; exact zero_good hs (Int.le_refl _) (fun _ => rfl)
  ·rw [if_neg h0]; exact zero_good ⟨hs.us, hs.ud⟩ (Int.le_refl _) (fun h => absurd h h0)
 | d + 1, hd, rule, node, r0, r1, n0, n1, a, s, a0, a1, hs => by
  simp only [refD]
  by_cases h0 : s.err ≠ 0
  ·rw [if_pos h0]; exact zero_good hs (Int.le_refl _) (fun _ => rfl)
  rw [if_neg h0]
  by_cases hus : s.us >= e.limS
  ·rw [if_pos hus]; exact zero_good ⟨hs.us, hs.ud⟩ (Int.le_refl _) (fun h => absurd h h0)
  rw [if_neg hus]
  have h1 := hs.us
  have h2 := hs.ud
  have h3 := hw.limD
  exact stepR_good hw r0 r1 n0 n1 (fun r k q0 q1 q2 q3 => refD_good hw ho d (by omega) r k q0 q1 q2 q3) a0 a1 ⟨by unfold begunR; dsimp only; omega, by unfold begunR; dsimp only; omega⟩ (by unfold begunR; dsimp only; omega) (by omega) (by unfold begunR; dsimp only; omega) (ho rule node r0 r1 n0 n1)
end Go.AL
namespace Go.AL
open Go.Proofs
def RelR (sd : List ((Int × Int) × Out)) (r : Res) (q : Out × RS) : Prop :=
 match r with
 | .ok o t => q = (o, ⟨t.ud, t.us, 0⟩) /\ t.seeds = sd
 | .stop c _ => q.2.err = c /\ (c = 3 \/ c = 4)
def EvRel (e : Env) (sd : List ((Int × Int) × Out)) (ev : Int -> MS -> Res) (evR : Int -> RS -> Out × RS) : Prop := ∀ (a : Int) (s : RS), 0 <= a -> a <= e.input.size -> RSOK e s -> s.err = 0 -> RelR sd (ev a ⟨s.ud, s.us, sd⟩) (evR a s)
theorem starG_rel {e : Env} (hS : e.limS <= 1048576) {sd : List ((Int × Int) × Out)} {ev : Int -> MS -> Res} {evR : Int -> RS -> Out × RS} (hg : REv e evR) (h : EvRel e sd ev evR) (hup : ∀ (a : Int) (s : RS), 0 <= a -> a <= e.input.size -> RSOK e s -> s.err = 0 -> (evR a s).2.err = 0 -> s.us + 1 <= (evR a s).2.us) :
  ∀ (n : Nat) (a : Int) (f : List Cap) (s : RS), 0 <= a -> a <= e.input.size -> RSOK e s -> s.err = 0 -> (f.length : Int) <= s.us -> e.limS - s.us < n -> RelR sd (starG ev n a f ⟨s.ud, s.us, sd⟩) (starR evR n a f s)
 | 0, a, f, s, a0, a1, hs, h0, hl, hn => by have := hs.us; omega
 | n + 1, a, f, s, a0, a1, hs, h0, hl, hn => by
  have hM : maxS = 1048576 := rfl
  simp only [starR, starG]
  rw [if_neg (fun hh => hh h0)]
  have hr := h a s a0 a1 hs h0
  have hgd := hg a s a0 a1 hs
  have hu := hup a s a0 a1 hs h0
  generalize ev a ⟨s.ud, s.us, sd⟩ = r at hr ⊢
  generalize evR a s = q at hr hgd hu ⊢
  have hlen := hgd.len
  cases r with
  | stop c t =>
   obtain ⟨e1, e2⟩ := hr
   dsimp only
   by_cases k0 : q.1.kind = 0
   ·rw [if_pos k0]; exact ⟨e1, e2⟩
   rw [if_neg k0]
   by_cases k2 : q.1.kind = 2
   ·rw [if_pos k2]; exact ⟨e1, e2⟩
   rw [if_neg k2]
   have : starR evR n q.1.fin (f ++ q.1.forest) q.2 = (zeroO, q.2) := by
    cases n with
    | zero => rfl
    | succ n => simp only [starR]; rw [if_pos (by rw [e1]; omega)]
   rw [this]
   exact ⟨e1, e2⟩
  | ok o t =>
   obtain ⟨rfl, e2⟩ := hr
   dsimp only at hgd hu hlen ⊢
   have hus := hgd.ok.us
   dsimp only at hus
   by_cases k0 : o.kind = 0
   ·rw [if_pos k0, if_pos k0]
    unfold matchedR
    rw [if_neg (by omega)]
    exact ⟨rfl, e2⟩
   rw [if_neg k0, if_neg k0]
   by_cases k2 : o.kind = 2
   ·rw [if_pos k2, if_pos k2]; exact ⟨rfl, e2⟩
   rw [if_neg k2, if_neg k2, if_neg (by omega)]
   have := starG_rel hS hg h hup n o.fin (f ++ o.forest) ⟨t.ud, t.us, 0⟩ hgd.fin.1 hgd.fin.2 hgd.ok rfl (by show ((f ++ o.forest).length : Int) <= t.us; rw [List.length_append]; push_cast; omega) (by have := hu rfl; show e.limS - t.us < n; omega)
   obtain ⟨tu, ts, tsd⟩ := t
   dsimp only at e2 this
   subst e2
   exact this
theorem RelR.us {sd : List ((Int × Int) × Out)} {c : Int} {t : MS} {q : Out × RS} (h : RelR sd (.stop c t) q) : q.2.err = c /\ (c = 3 \/ c = 4) := h
theorem stepG_rel {e : Env} (hw : WF e) (hh : ∀ r : Int, at' e.heads r = false) {sd : List ((Int × Int) × Out)} {ev : Int -> Int -> Int -> MS -> Res} {evR : Int -> Int -> Int -> RS -> Out × RS} {rule node : Int} (r0 : 0 <= rule) (r1 : rule < e.core.rules.length) (n0 : 0 <= node) (n1 : node < (bodyOf e rule).length)
  (hg : ∀ r k : Int, 0 <= r -> r < e.core.rules.length -> 0 <= k -> k < (bodyOf e r).length -> REv e (evR r k))
  (h : ∀ r k : Int, 0 <= r -> r < e.core.rules.length -> 0 <= k -> k < (bodyOf e r).length -> EvRel e sd (ev r k) (evR r k))
  (hup : ∀ r k : Int, 0 <= r -> r < e.core.rules.length -> 0 <= k -> k < (bodyOf e r).length -> ∀ (a : Int) (s : RS), 0 <= a -> a <= e.input.size -> RSOK e s -> s.err = 0 -> (evR r k a s).2.err = 0 -> s.us + 1 <= (evR r k a s).2.us)
  {a : Int} {s : RS} (a0 : 0 <= a) (a1 : a <= e.input.size) (hs : RSOK e s) (h0 : s.err = 0) (hu : 1 <= s.us) (hop : 0 <= (at' (bodyOf e rule) node).op /\ (at' (bodyOf e rule) node).op <= 8) :
  RelR sd (stepG e ev rule (at' (bodyOf e rule) node) (at' (at' e.parts rule) node) a ⟨s.ud, s.us, sd⟩) (stepR e evR rule (at' (bodyOf e rule) node) (at' (at' e.parts rule) node) a s) := by
 have hru := hw.rule rule node r0 r1 n0 n1
 have htw := hw.two rule node r0 r1 n0 n1
 have hon := hw.one rule node r0 r1 n0 n1
 have hS := hw.limS
 have hM : maxS = 1048576 := rfl
 have hsu := hs.us
 obtain ⟨su, ss, se⟩ := s
 dsimp only at h0 hsu hu
 subst h0
 have ok0 : ∀ o : Out, RelR sd (.ok o ⟨su, ss, sd⟩) (o, ⟨su, ss, 0⟩) := fun o => ⟨rfl, rfl⟩
 have mt : ∀ b : Int, RelR sd (matchedR b [] ⟨su, ss, sd⟩) (foundO b [], ⟨su, ss, 0⟩) := fun b => by
  unfold matchedR; rw [if_neg (by simp [maxS])]; exact ok0 _
 unfold stepG stepR
 generalize at' (bodyOf e rule) node = nd at hop hru htw hon ⊢
 generalize at' (at' e.parts rule) node = p at htw hon ⊢
 by_cases o0 : nd.op = 0
 ·rw [if_pos o0, if_neg (by omega), if_neg (by omega), if_neg (by omega), if_neg (by omega), if_neg (by omega), if_neg (by omega), if_neg (by omega), if_neg (by omega)]
  exact mt a
 rw [if_neg o0]
 by_cases o1 : nd.op = 1
 ·rw [if_pos o1, if_pos o1]
  by_cases ha : a < e.input.size
  ·rw [if_pos ha, if_pos ha]
   cases e.input[a.toNat]? with
   | none => exact ok0 _
   | some b =>
    dsimp only
    cases hasB nd.cl b with
    | true => exact mt (a + 1)
    | false => exact ok0 _
  ·rw [if_neg ha, if_neg ha]; exact ok0 _
 rw [if_neg o1, if_neg o1]
 by_cases o3 : nd.op = 3
 ·rw [if_pos o3, if_pos o3]; exact ok0 _
 rw [if_neg o3, if_neg o3]
 by_cases o2 : nd.op = 2
 ·rw [if_pos o2, if_pos o2, hh, if_neg (by simp)]
  obtain ⟨u0, u1⟩ := hru o2
  have hb := hw.body nd.rule u0 u1
  exact h nd.rule (lastOf e nd.rule) u0 u1 (by show 0 <= ((bodyOf e nd.rule).length : Int) - 1; omega) (by show ((bodyOf e nd.rule).length : Int) - 1 < _; omega) a ⟨su, ss, 0⟩ a0 a1 hs rfl
 rw [if_neg o2, if_neg o2]
 by_cases o4 : nd.op = 4
 ·rw [if_pos o4, if_pos o4]
  obtain ⟨⟨p0, p1⟩, p2, p3⟩ := htw (.inl o4)
  have g1 := hg rule p.1 r0 r1 p0 p1 a ⟨su, ss, 0⟩ a0 a1 hs
  have h1 := h rule p.1 r0 r1 p0 p1 a ⟨su, ss, 0⟩ a0 a1 hs rfl
  dsimp only at h1
  generalize ev rule p.1 a ⟨su, ss, sd⟩ = r at h1 ⊢
  generalize evR rule p.1 a ⟨su, ss, 0⟩ = q at g1 h1 ⊢
  cases r with
  | stop c t =>
   obtain ⟨e1, e2⟩ := h1.us
   dsimp only
   by_cases k1 : q.1.kind ≠ 1
   ·rw [if_pos k1]; exact h1.us
   rw [if_neg k1]
   have g2 := (hg rule p.2 r0 r1 p2 p3 q.1.fin q.2 g1.fin.1 g1.fin.2 g1.ok).kept (by rw [e1]; omega)
   rw [g2]
   dsimp only
   rw [if_neg (by decide)]
   exact ⟨e1, e2⟩
  | ok o t =>
   obtain ⟨rfl, e2⟩ := h1
   dsimp only at g1 ⊢
   by_cases k1 : o.kind ≠ 1
   ·rw [if_pos k1, if_pos k1]; exact ⟨rfl, e2⟩
   rw [if_neg k1, if_neg k1]
   obtain ⟨tu, ts, tsd⟩ := t
   dsimp only at e2 g1 ⊢
   subst e2
   have h2 := h rule p.2 r0 r1 p2 p3 o.fin ⟨tu, ts, 0⟩ g1.fin.1 g1.fin.2 g1.ok rfl
   have g2 := hg rule p.2 r0 r1 p2 p3 o.fin ⟨tu, ts, 0⟩ g1.fin.1 g1.fin.2 g1.ok
   dsimp only at h2
   generalize ev rule p.2 o.fin ⟨tu, ts, tsd⟩ = r2 at h2 ⊢
   generalize evR rule p.2 o.fin ⟨tu, ts, 0⟩ = q2 at g2 h2 ⊢
   cases r2 with
   | stop c t2 =>
    obtain ⟨e1, e2⟩ := h2.us
    dsimp only
    split
    ·exact ⟨e1, e2⟩
    ·exact ⟨e1, e2⟩
   | ok q t2 =>
    obtain ⟨rfl, e3⟩ := h2
    have l1 := g1.len
    have l2 := g2.len
    have hu2 := g2.ok.us
    have hlab := g2.lab
    dsimp only at l1 l2 hu2 hlab ⊢
    by_cases k2 : q.kind = 1
    ·rw [if_neg (fun hn => hn k2), if_pos k2, if_neg (by omega)]
     unfold matchedR
     rw [if_neg (by rw [List.length_append]; omega)]
     refine ⟨?_, e3⟩
     obtain ⟨qk, qf, ql, qq⟩ := q
     dsimp only at k2 hlab
     rw [k2, hlab k2]
    ·rw [if_pos k2, if_neg k2]; exact ⟨rfl, e3⟩
 rw [if_neg o4, if_neg o4]
 by_cases o5 : nd.op = 5
 ·rw [if_pos o5, if_pos o5]
  obtain ⟨⟨p0, p1⟩, p2, p3⟩ := htw (.inr o5)
  have g1 := hg rule p.1 r0 r1 p0 p1 a ⟨su, ss, 0⟩ a0 a1 hs
  have h1 := h rule p.1 r0 r1 p0 p1 a ⟨su, ss, 0⟩ a0 a1 hs rfl
  dsimp only at h1
  generalize ev rule p.1 a ⟨su, ss, sd⟩ = r at h1 ⊢
  generalize evR rule p.1 a ⟨su, ss, 0⟩ = q at g1 h1 ⊢
  cases r with
  | stop c t =>
   obtain ⟨e1, e2⟩ := h1.us
   dsimp only
   by_cases k1 : q.1.kind ≠ 0
   ·rw [if_pos k1]; exact h1.us
   rw [if_neg k1]
   have g2 := (hg rule p.2 r0 r1 p2 p3 a q.2 a0 a1 g1.ok).kept (by rw [e1]; omega)
   rw [g2]
   exact ⟨e1, e2⟩
  | ok o t =>
   obtain ⟨rfl, e2⟩ := h1
   dsimp only at g1 ⊢
   by_cases k1 : o.kind ≠ 0
   ·rw [if_pos k1, if_pos k1]; exact ⟨rfl, e2⟩
   rw [if_neg k1, if_neg k1]
   obtain ⟨tu, ts, tsd⟩ := t
   dsimp only at e2 g1 ⊢
   subst e2
   exact h rule p.2 r0 r1 p2 p3 a ⟨tu, ts, 0⟩ a0 a1 g1.ok rfl
 rw [if_neg o5, if_neg o5]
 obtain ⟨p0, p1⟩ := hon (by omega)
 by_cases o6 : nd.op = 6
 ·rw [if_pos o6, if_pos o6]
  exact starG_rel hS.2 (hg rule p.1 r0 r1 p0 p1) (h rule p.1 r0 r1 p0 p1) (hup rule p.1 r0 r1 p0 p1) _ a [] ⟨su, ss, 0⟩ a0 a1 hs rfl (by simp; omega) (by show e.limS - ss < (((e.limS - ss).toNat + 1 : Nat) : Int); push_cast; omega)
 rw [if_neg o6, if_neg o6]
 have g1 := hg rule p.1 r0 r1 p0 p1 a ⟨su, ss, 0⟩ a0 a1 hs
 have h1 := h rule p.1 r0 r1 p0 p1 a ⟨su, ss, 0⟩ a0 a1 hs rfl
 dsimp only at h1
 generalize ev rule p.1 a ⟨su, ss, sd⟩ = r at h1 ⊢
 generalize evR rule p.1 a ⟨su, ss, 0⟩ = q at g1 h1 ⊢
 cases r with
 | stop c t =>
  obtain ⟨e1, e2⟩ := h1.us
  dsimp only
  by_cases o7 : nd.op = 7
  ·rw [if_pos o7, if_pos o7]
   split <;> exact ⟨e1, e2⟩
  rw [if_neg o7, if_neg o7, if_pos (by omega)]
  split <;> exact ⟨e1, e2⟩
 | ok o t =>
  obtain ⟨rfl, e2⟩ := h1
  obtain ⟨tu, ts, tsd⟩ := t
  dsimp only at e2 g1 ⊢
  subst e2
  have l1 := g1.len
  have hu2 := g1.ok.us
  have hlab := g1.lab
  dsimp only at l1 hu2 hlab
  by_cases o7 : nd.op = 7
  ·rw [if_pos o7, if_pos o7]
   by_cases k1 : o.kind = 1
   ·rw [if_pos k1, if_pos k1]; exact ⟨rfl, rfl⟩
   ·rw [if_neg k1, if_neg k1]
    unfold matchedR
    rw [if_neg (by simp [maxS])]
    exact ⟨rfl, rfl⟩
  rw [if_neg o7, if_neg o7, if_pos (by omega)]
  by_cases k1 : o.kind = 1
  ·rw [if_neg (fun hn => hn k1), if_pos k1, if_neg (by omega)]
   unfold matchedR
   rw [if_neg (by rw [List.length_cons]; omega)]
   refine ⟨?_, rfl⟩
   obtain ⟨qk, qf, ql, qq⟩ := o
   dsimp only at k1 hlab
   rw [k1, hlab k1]
  ·rw [if_pos k1, if_neg k1]; exact ⟨rfl, rfl⟩
end Go.AL
namespace Go.AL
open Go.Proofs
theorem starR_mono {e : Env} {ev : Int -> RS -> Out × RS} (hev : REv e ev) : ∀ (n : Nat) (a : Int) (f : List Cap) (s : RS), 0 <= a -> a <= e.input.size -> RSOK e s -> s.us <= (starR ev n a f s).2.us
 | 0, a, f, s, a0, a1, hs => Int.le_refl _
 | n + 1, a, f, s, a0, a1, hs => by
  simp only [starR]
  have hg := hev a s a0 a1 hs
  have hu := hg.us
  generalize ev a s = q at hg hu ⊢
  split
  ·exact Int.le_refl _
  split
  ·exact hu
  split
  ·exact hu
  ·exact Int.le_trans hu (starR_mono hev n _ _ _ hg.fin.1 hg.fin.2 hg.ok)
theorem stepR_mono {e : Env} (hw : WF e) {ev : Int -> Int -> Int -> RS -> Out × RS} {rule node : Int} (r0 : 0 <= rule) (r1 : rule < e.core.rules.length) (n0 : 0 <= node) (n1 : node < (bodyOf e rule).length)
  (hev : ∀ r k : Int, 0 <= r -> r < e.core.rules.length -> 0 <= k -> k < (bodyOf e r).length -> REv e (ev r k)) {a : Int} {s : RS} (a0 : 0 <= a) (a1 : a <= e.input.size) (hs : RSOK e s)
  (hop : 0 <= (at' (bodyOf e rule) node).op /\ (at' (bodyOf e rule) node).op <= 8) : s.us <= (stepR e ev rule (at' (bodyOf e rule) node) (at' (at' e.parts rule) node) a s).2.us := by
 have hru := hw.rule rule node r0 r1 n0 n1
 have htw := hw.two rule node r0 r1 n0 n1
 have hon := hw.one rule node r0 r1 n0 n1
 unfold stepR
 generalize at' (bodyOf e rule) node = nd at hop hru htw hon ⊢
 generalize at' (at' e.parts rule) node = p at htw hon ⊢
 by_cases o0 : nd.op = 0
 ·rw [if_pos o0]; exact Int.le_refl _
 rw [if_neg o0]
 by_cases o1 : nd.op = 1
 ·rw [if_pos o1]
  split
  ·split
   ·split <;> exact Int.le_refl _
   ·exact Int.le_refl _
  ·exact Int.le_refl _
 rw [if_neg o1]
 by_cases o3 : nd.op = 3
 ·rw [if_pos o3]; exact Int.le_refl _
 rw [if_neg o3]
 by_cases o2 : nd.op = 2
 ·rw [if_pos o2]
  obtain ⟨u0, u1⟩ := hru o2
  have hb := hw.body nd.rule u0 u1
  exact (hev nd.rule (lastOf e nd.rule) u0 u1 (by show 0 <= ((bodyOf e nd.rule).length : Int) - 1; omega) (by show ((bodyOf e nd.rule).length : Int) - 1 < _; omega) a s a0 a1 hs).us
 rw [if_neg o2]
 by_cases o4 : nd.op = 4
 ·rw [if_pos o4]
  obtain ⟨⟨p0, p1⟩, p2, p3⟩ := htw (.inl o4)
  have h1 := hev rule p.1 r0 r1 p0 p1 a s a0 a1 hs
  have h1u := h1.us
  generalize ev rule p.1 a s = q at h1 h1u ⊢
  have h2 := (hev rule p.2 r0 r1 p2 p3 q.1.fin q.2 h1.fin.1 h1.fin.2 h1.ok).us
  split
  ·exact h1u
  split
  ·exact Int.le_trans h1u h2
  ·exact Int.le_trans h1u h2
 rw [if_neg o4]
 by_cases o5 : nd.op = 5
 ·rw [if_pos o5]
  obtain ⟨⟨p0, p1⟩, p2, p3⟩ := htw (.inr o5)
  have h1 := hev rule p.1 r0 r1 p0 p1 a s a0 a1 hs
  have h1u := h1.us
  generalize ev rule p.1 a s = q at h1 h1u ⊢
  have h2 := (hev rule p.2 r0 r1 p2 p3 a q.2 a0 a1 h1.ok).us
  split
  ·exact h1u
  ·exact Int.le_trans h1u h2
 rw [if_neg o5]
 obtain ⟨p0, p1⟩ := hon (by omega)
 by_cases o6 : nd.op = 6
 ·rw [if_pos o6]
  exact starR_mono (hev rule p.1 r0 r1 p0 p1) _ a [] s a0 a1 hs
 rw [if_neg o6]
 have h1u := (hev rule p.1 r0 r1 p0 p1 a s a0 a1 hs).us
 generalize ev rule p.1 a s = q at h1u ⊢
 by_cases o7 : nd.op = 7
 ·rw [if_pos o7]
  split <;> exact h1u
 rw [if_neg o7]
 split <;> exact h1u
theorem refD_up {e : Env} (hw : WF e) (ho : OpsOK e) {d : Nat} (hd : (d : Int) <= e.limD + 1) {rule node : Int} (r0 : 0 <= rule) (r1 : rule < e.core.rules.length) (n0 : 0 <= node) (n1 : node < (bodyOf e rule).length) (a : Int) (s : RS) (a0 : 0 <= a) (a1 : a <= e.input.size) (hs : RSOK e s) (h0 : s.err = 0) (h : (refD e d rule node a s).2.err = 0) : s.us + 1 <= (refD e d rule node a s).2.us := by
 cases d with
 | zero =>
  simp only [refD] at h
  rw [if_neg (fun hh => hh h0)] at h
  cases h
 | succ d =>
  simp only [refD] at h ⊢
  rw [if_neg (fun hh => hh h0)] at h ⊢
  by_cases hus : s.us >= e.limS
  ·rw [if_pos hus] at h; cases h
  rw [if_neg hus] at h ⊢
  have h1 := hs.us
  have h2 := hs.ud
  have h3 := hw.limD
  have := stepR_mono hw r0 r1 n0 n1 (fun r k q0 q1 q2 q3 => refD_good hw ho d (by omega) r k q0 q1 q2 q3) a0 a1 (s := begunR e d s) ⟨by unfold begunR; dsimp only; omega, by unfold begunR; dsimp only; omega⟩ (ho rule node r0 r1 n0 n1)
  have e1 : (begunR e d s).us = s.us + 1 := rfl
  omega
/-- The document's evaluation is the program's, where no rule is a head. -/
theorem refD_rel {e : Env} (hw : WF e) (ho : OpsOK e) (hh : ∀ r : Int, at' e.heads r = false) (sd : List ((Int × Int) × Out)) : ∀ d : Nat, (d : Int) <= e.limD + 1 -> ∀ rule node : Int, 0 <= rule -> rule < e.core.rules.length -> 0 <= node -> node < (bodyOf e rule).length -> EvRel e sd (evalD e d rule node) (refD e d rule node)
 | 0, hd, rule, node, r0, r1, n0, n1, a, s, a0, a1, hs, h0 => by
  simp only [refD, evalD]
  rw [if_neg (fun h => h h0)]
  exact ⟨rfl, .inl rfl⟩
 | d + 1, hd, rule, node, r0, r1, n0, n1, a, s, a0, a1, hs, h0 => by
  simp only [refD, evalD]
  have hE : ¬s.err ≠ 0 := fun h => h h0
  have h1 := hs.us
  have h2 := hs.ud
  have h3 := hw.limD
  by_cases hus : s.us = e.limS
  ·rw [if_pos hus, if_neg hE, if_pos (by omega)]
   exact ⟨rfl, .inr rfl⟩
  rw [if_neg hus, if_neg hE, if_neg (by omega)]
  exact stepG_rel hw hh r0 r1 n0 n1 (fun r k q0 q1 q2 q3 => refD_good hw ho d (by omega) r k q0 q1 q2 q3) (fun r k q0 q1 q2 q3 => refD_rel hw ho hh sd d (by omega) r k q0 q1 q2 q3)
   (fun r k q0 q1 q2 q3 b t b0 b1 hb ht hz => refD_up hw ho (by omega) q0 q1 q2 q3 b t b0 b1 hb ht hz) a0 a1 (s := begunR e d s) ⟨by unfold begunR; dsimp only; omega, by unfold begunR; dsimp only; omega⟩ h0 (by unfold begunR; dsimp only; omega) (ho rule node r0 r1 n0 n1)
end Go.AL
