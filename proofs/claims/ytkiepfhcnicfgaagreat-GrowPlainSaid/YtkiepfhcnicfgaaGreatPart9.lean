/-
  Part 9 of the proof: what the functions that the law reaches come to.
-/
import Derived.Test.YtkiepfhcnicfgaaGreatPart8
set_option linter.all false
set_option maxRecDepth 100000
set_option maxHeartbeats 8000000
namespace Go.AL
open Go.Proofs
attribute [local irreducible] AWp AList RStep seqQ blockQ retQ DSteps DT DU DM DZ awR rQ SStep preB nameOk anyB rightL checkI letterB digitB
theorem pre_iff (s : ByteArray) (k : Nat) : preB (s.extract k s.size) ⟨#[58, 58]⟩ = true ↔ k + 1 < s.size /\ (atB s k).toNat = 58 /\ (atB s (k + 1)).toNat = 58 := by
 constructor
 ·intro h
  obtain ⟨h1, h2, h3⟩ := pre_asc h
  exact ⟨by omega, h1, h2⟩
 ·rintro ⟨h1, h2, h3⟩
  unfold preB
  have hsz : (s.extract k s.size).size = s.size - k := by rw [ByteArray.size_extract]; omega
  refine decide_eq_true ⟨by rw [hsz]; show 2 <= _; omega, ?_⟩
  have e2 : (⟨#[58, 58]⟩ : ByteArray).size = 2 := rfl
  rw [e2]
  have hz : ((s.extract k s.size).extract 0 2).size = 2 := by rw [ByteArray.size_extract, hsz]; omega
  have a0 : atB ((s.extract k s.size).extract 0 2) 0 = 58 := by
   rw [extract_at (by omega) (by omega), extract_at (by omega) (Nat.le_refl _)]
   exact UInt8.toNat_inj.1 h2
  have a1 : atB ((s.extract k s.size).extract 0 2) 1 = 58 := by
   rw [extract_at (by omega) (by omega), extract_at (by omega) (Nat.le_refl _)]
   exact UInt8.toNat_inj.1 h3
  generalize (s.extract k s.size).extract 0 2 = t at hz a0 a1
  have g0 : t.data.toList[0]? = some 58 := by rw [<- ba_at, byte_at (by omega), a0]
  have g1 : t.data.toList[1]? = some 58 := by rw [<- ba_at, byte_at (by omega), a1]
  have hl : t.data.toList.length = 2 := by simpa using hz
  have : t.data.toList = [58, 58] := by
   match hq : t.data.toList, hl, g0, g1 with
   | [a, b], _, g0, g1 =>
    injection g0 with g0
    injection g1 with g1
    rw [g0, g1]
  have hd : t.data = #[58, 58] := by rw [<- Array.toArray_toList (xs := t.data), this]
  cases t with
  | mk d => simp only at hd; rw [hd]
/-- The number behind a name. -/
def numA (s : ByteArray) (n : Nat) : Nat := if n < s.size /\ (atB s n).toNat = 126 /\ digE s (n + 1) > n + 1 /\ digE s (n + 1) <= n + 6 /\ (atB s (n + 1)).toNat ≠ 48 then digE s (n + 1) else n
theorem num_at (s : ByteArray) (n : Nat) (hn : n <= s.size) : n + numB (s.extract n s.size) = numA s n := by
 have hsz : (s.extract n s.size).size = s.size - n := by rw [ByteArray.size_extract]; omega
 have hD : n + digs (s.extract n s.size) (s.extract n s.size).size 1 = digE s (n + 1) := by
  rw [digs_shift s n hn, hsz]
  by_cases h : n < s.size
  ·exact digs_stable s _ _ (n + 1) (by omega) (by omega)
  ·exact digs_stable s _ _ (n + 1) (by omega) (by omega)
 unfold numB numA
 by_cases h0 : n < s.size
 ·have e0 : atB (s.extract n s.size) 0 = atB s n := by rw [extract_at (by omega) (Nat.le_refl _)]; rfl
  have hne : ¬ s.extract n s.size = ⟨#[]⟩ := by
   intro e
   rw [e] at hsz
   have : (⟨#[]⟩ : ByteArray).size = 0 := rfl
   omega
  rw [e0]
  by_cases h1 : (atB s n).toNat = 126
  ·rw [if_neg (by rintro (q | q) <;> contradiction)]
   have hge := (digs_le s (s.size - (n + 1) + 1) (n + 1) (by omega)).1
   have hge : n + 1 <= digE s (n + 1) := hge
   have hle : digE s (n + 1) <= s.size := (digs_le s (s.size - (n + 1) + 1) (n + 1) (by omega)).2
   by_cases h2 : digE s (n + 1) = n + 1
   ·rw [if_pos (.inl (by omega)), if_neg (by rintro ⟨_, _, q, _⟩; omega)]; rfl
   have e1 : atB (s.extract n s.size) 1 = atB s (n + 1) := extract_at (by omega) (Nat.le_refl _)
   rw [e1]
   by_cases h3 : digE s (n + 1) > n + 6
   ·rw [if_pos (.inr (.inl (by omega))), if_neg (by rintro ⟨_, _, _, q, _⟩; omega)]; rfl
   by_cases h4 : (atB s (n + 1)).toNat = 48
   ·rw [if_pos (.inr (.inr h4)), if_neg (by rintro ⟨_, _, _, _, q⟩; exact q h4)]; rfl
   ·rw [if_neg (by rintro (q | q | q) <;> first | omega | exact h4 q), if_pos ⟨h0, h1, by omega, by omega, h4⟩]
    exact hD
  ·rw [if_pos (.inr h1), if_neg (by rintro ⟨_, q, _⟩; exact h1 q)]; rfl
 ·have he : s.extract n s.size = ⟨#[]⟩ := ByteArray.size_eq_zero_iff.1 (by omega)
  rw [if_pos (.inl he), if_neg (by rintro ⟨q, _⟩; exact h0 q)]; rfl
/-- A name, as the document has it. -/
def namedN (s : ByteArray) : Nat := if preB (s.extract (ownB s 0) s.size) ⟨#[58, 58]⟩ = true /\ 0 < ownB s (ownB s 0 + 2) then ownB s 0 + (2 + ownB s (ownB s 0 + 2)) else ownB s 0
theorem named_eq (s : ByteArray) (h : ownB s 0 ≠ 0) : namedN s <= s.size /\ namedB s 0 = numA s (namedN s) := by
 have ho := ownB_le (s := s) (p := 0) (by omega)
 have hle : namedN s <= s.size := by
  unfold namedN
  split
  ·rename_i hq
   have := pre_asc hq.1
   have := ownB_le (s := s) (p := ownB s 0 + 2) (by omega)
   omega
  ·omega
 refine ⟨hle, ?_⟩
 rw [<- num_at s _ hle]
 unfold namedB
 rw [if_neg h]
 simp only [Nat.zero_add]
 rfl
theorem named47_c (s : ByteArray) (hs : s.size <= 64) : ACalls Tryz.prog 47 [strA s, i64 0] [] (fun r _ => r = .ret (i64 (namedB s 0))) := by
 have ho := ownB_le (s := s) (p := 0) (by omega)
 rw [Nat.zero_add] at ho
 have hc0 := own72_c s 0 (by omega) (by omega)
 rw [Nat.zero_add] at hc0
 have hc0 : ACalls Tryz.prog 72 [strA s, i64 0] [] (fun r _ => r = .ret (i64 (ownB s 0))) := hc0
 by_cases h0 : ownB s 0 = 0
 ·skip
  refine acalls_by Tryz.func47 Tryz.ntmps47 ?_
  simp only [argFr]
  repeat' (first| (refine aw_T ?_ (hb := eT))| (show lOp; refine op0 (by (show kCall; exact b_call (hc0))) ?_)| (show eRet; refine ret1 Tryz.results47 ?_)| (refine wS ?_)| fail)
  unfold namedB
  rw [if_pos h0]; rfl
 obtain ⟨hn, he⟩ := named_eq s h0
 rw [he]
 have hd : ∀ n : Nat, n <= s.size -> ACalls Tryz.prog 73 [strA s, i64 ((n : Int) + 1)] [] (fun r _ => r = .ret (i64 (digE s (n + 1)))) := fun n hn => digits73_c s (n + 1) (by omega) (by omega)
 have hdl : ∀ n : Nat, n < s.size -> digE s (n + 1) <= s.size := fun n hn => (digs_le s (s.size - (n + 1) + 1) (n + 1) (by omega)).2
 have hdj : ∀ n : Nat, digE s (n + 1) <= s.size \/ s.size <= n := fun n => by
  by_cases h : n < s.size
  ·exact .inl (hdl n h)
  ·exact .inr (by omega)
 have hj1 := hdj (namedN s)
 have hj2 := hdj (ownB s 0)
 have et : ∀ n : Nat, ((n : Int)).toNat = n := fun n => by omega
 have et1 : ∀ n : Nat, ((n : Int) + 1).toNat = n + 1 := fun n => by omega
 have fin : ∀ n : Nat, n = namedN s -> n < s.size -> (atB s n).toNat = 126 -> digE s (n + 1) > n + 1 -> digE s (n + 1) <= n + 6 -> (atB s (n + 1)).toNat ≠ 48 -> CE.ret (i64 (digE s (n + 1))) = CE.ret (i64 (numA s (namedN s))) := fun n e h1 h2 h3 h4 h5 => by
  subst e
  unfold numA
  rw [if_pos ⟨h1, h2, h3, h4, h5⟩]
 have fin0 : ∀ n : Nat, n = namedN s -> ¬(n < s.size /\ (atB s n).toNat = 126 /\ digE s (n + 1) > n + 1 /\ digE s (n + 1) <= n + 6 /\ (atB s (n + 1)).toNat ≠ 48) -> CE.ret (i64 (n : Int)) = CE.ret (i64 (numA s (namedN s))) := fun n e h => by
  subst e
  unfold numA
  rw [if_neg h]
 by_cases h1 : preB (s.extract (ownB s 0) s.size) ⟨#[58, 58]⟩ = true /\ 0 < ownB s (ownB s 0 + 2)
 ·obtain ⟨p1, p2, p3⟩ := (pre_iff s _).1 h1.1
  have hm := own72_c s (ownB s 0 + 2) (by omega) (by omega)
  have hm : ACalls Tryz.prog 72 [strA s, i64 ((ownB s 0 : Int) + 2)] [] (fun r _ => r = .ret (i64 ((ownB s 0 + 2 + ownB s (ownB s 0 + 2) : Nat) : Int))) := hm
  have hnn : ownB s 0 + 2 + ownB s (ownB s 0 + 2) = namedN s := by unfold namedN; rw [if_pos h1]; omega
  rw [hnn] at hm
  have h1' := h1.2
  refine acalls_by Tryz.func47 Tryz.ntmps47 ?_
  simp only [argFr]
  repeat' (first| (refine aw_F ?_ (hb := dF (show ¬(ownB s 0 : Int) = 0 by omega)))| (show lOp; refine op0 (by (show kCall; first | exact b_call (hc0) | exact b_call (hm) | exact b_call (hd (namedN s) hn))) ?_)| (show eRet; refine ret1 Tryz.results47 ?_)| (refine wS ?_)| (show lGu; refine al_splitD (fun h => ?_) (fun h => ?_))| (show cIf; refine aw_ifD (fun h => ?_) (fun h => ?_))| (exfalso; omega))
  all_goals simp only [et, et1] at *
  all_goals first
   | exact fin _ rfl (by omega) (by omega) (by omega) (by omega) (by omega)
   | exact fin0 _ rfl (by omega)
   | (exfalso; omega)
 ·have hnn : ownB s 0 = namedN s := by unfold namedN; rw [if_neg h1]
  have hcol : ownB s 0 + 1 < s.size -> (atB s (ownB s 0)).toNat = 58 -> (atB s (ownB s 0 + 1)).toNat = 58 -> ownB s (ownB s 0 + 2) = 0 := fun q1 q2 q3 => by
   have := (pre_iff s (ownB s 0)).2 ⟨q1, q2, q3⟩
   rcases Nat.eq_zero_or_pos (ownB s (ownB s 0 + 2)) with e | e
   ·exact e
   ·exact absurd ⟨this, e⟩ h1
  have hm := own72_c s (ownB s 0 + 2) (by omega) (by omega)
  have hm : ACalls Tryz.prog 72 [strA s, i64 ((ownB s 0 : Int) + 2)] [] (fun r _ => r = .ret (i64 ((ownB s 0 + 2 + ownB s (ownB s 0 + 2) : Nat) : Int))) := hm
  have hm2 := hd (ownB s 0) ho
  refine acalls_by Tryz.func47 Tryz.ntmps47 ?_
  simp only [argFr]
  repeat' (first| (refine aw_F ?_ (hb := dF (show ¬(ownB s 0 : Int) = 0 by omega)))| (show lOp; refine op0 (by (show kCall; first | exact b_call (hc0) | exact b_call (hm) | exact b_call (hm2))) ?_)| (show eRet; refine ret1 Tryz.results47 ?_)| (refine wS ?_)| (show lGu; refine al_splitD (fun h => ?_) (fun h => ?_))| (show cIf; refine aw_ifD (fun h => ?_) (fun h => ?_))| (exfalso; omega))
  all_goals simp only [et, et1] at *
  all_goals first
   | exact fin (ownB s 0) hnn (by omega) (by omega) (by omega) (by omega) (by omega)
   | exact fin0 (ownB s 0) hnn (by omega)
   | (exfalso; omega)
   | (exfalso; have := hcol (by omega) (by omega) (by omega); omega)
theorem name28_c (s : ByteArray) (hs : s.size <= 150000000000000) : ACalls Tryz.prog 28 [strA s] [] (fun r _ => r = .ret (bl (nameOk s))) := by
 by_cases h64 : s.size <= 64
 ·skip
  refine acalls_by Tryz.func28 Tryz.ntmps28 ?_
  simp only [argFr]
  repeat' (first| (show lOp; refine op0 (by (show kCall; exact b_call ((named47_c s h64)))) ?_)| (show eRet; refine ret1 Tryz.results28 ?_)| (refine wS ?_)| (show lGu; refine al_splitD (fun h => ?_) (fun h => ?_))| (exfalso; omega))
  all_goals (refine congrArg (fun q => CE.ret (bl q)) ?_; unfold nameOk; first | exact decide_eq_decide.2 ⟨fun q => ⟨by assumption, by omega, by omega⟩, fun q => by have := q.2.2; omega⟩ | exact (dF (fun q => by first | omega | (have := q.2.1; omega) | exact absurd q.1 (by assumption))).symm)
 ·have hno : nameOk s = false := by unfold nameOk; exact dF (fun q => h64 q.2.1)
  rw [hno]
  refine acalls_by Tryz.func28 Tryz.ntmps28 ?_
  simp only [argFr]
  repeat' (first| (show eRet; refine ret1 Tryz.results28 ?_)| (refine wS ?_)| (show lGu; refine al_splitD (fun h => ?_) (fun h => ?_))| (exfalso; omega))
  all_goals first | rfl | (exfalso; omega)
end Go.AL
namespace Go.AL
open Go.Proofs
attribute [local irreducible] AWp AList RStep seqQ blockQ retQ DSteps DT DU DM DZ awR rQ SStep preB nameOk anyB letterB digitB
def countI (op : Int) : Int := if op = 0 \/ op = 1 \/ op = 2 \/ op = 3 then 0 else if op = 6 \/ op = 7 \/ op = 8 then 1 else if op = 4 \/ op = 5 then 2 else -1
theorem count48_c (op : Int) : ACalls Tryz.prog 48 [i64 op] [] (fun r _ => r = .ret (i64 (countI op))) := by
 refine acalls_by Tryz.func48 Tryz.ntmps48 ?_
 simp only [argFr]
 repeat' (first| (show eRet; refine ret1 Tryz.results48 ?_)| (refine wS ?_)| (show cIf; refine aw_ifD (fun h => ?_) (fun h => ?_)))
 all_goals (unfold countI; first | rw [if_pos (show op = 0 \/ op = 1 \/ op = 2 \/ op = 3 by omega)] | rw [if_neg (show ¬(op = 0 \/ op = 1 \/ op = 2 \/ op = 3) by omega), if_pos (show op = 6 \/ op = 7 \/ op = 8 by omega)] | rw [if_neg (show ¬(op = 0 \/ op = 1 \/ op = 2 \/ op = 3) by omega), if_neg (show ¬(op = 6 \/ op = 7 \/ op = 8) by omega), if_pos (show op = 4 \/ op = 5 by omega)] | rw [if_neg (show ¬(op = 0 \/ op = 1 \/ op = 2 \/ op = 3) by omega), if_neg (show ¬(op = 6 \/ op = 7 \/ op = 8) by omega), if_neg (show ¬(op = 4 \/ op = 5) by omega)])
def zeroC' : Cls := ⟨0, 0, 0, 0⟩
def cleanB (rules : Int) (n : Node) : Bool := decide ((n.op ≠ 1 -> n.cl = zeroC') /\ (n.op = 2 -> 0 <= n.rule /\ n.rule < rules) /\ (n.op ≠ 2 -> n.rule = 0) /\ (n.op = 3 \/ n.op = 8 -> nameOk n.name = true /\ anyB n.name = false) /\ (¬(n.op = 3 \/ n.op = 8) -> n.name = ⟨#[]⟩))
theorem cls_eq (c : Cls) : eqCells [.int .u64 c.c0, .int .u64 c.c1, .int .u64 c.c2, .int .u64 c.c3] [.int .u64 0, .int .u64 0, .int .u64 0, .int .u64 0] = decide (c = zeroC') := by
 obtain ⟨a, b, c, d⟩ := c
 rw [Bool.eq_iff_iff]
 simp [eqCells, vbeq, zeroC']
theorem clean49_c (n : Node) (rules : Int) (hs : n.name.size <= 150000000000000) : ACalls Tryz.prog 49 [.agg ((encNode n).map .p), i64 rules] [] (fun r _ => r = .ret (bl (cleanB rules n))) := by
 have hno := name28_c n.name hs
 have how := own74_c n.name hs
 refine acalls_by Tryz.func49 Tryz.ntmps49 ?_
 simp only [argFr]
 repeat' (first| (show lOp; refine op0 (by first | (show kCall; first | exact b_call (hno) | exact b_call (how)) | (show kBinopNeq; exact b_neqAgg (hr := cls_eq n.cl))) ?_)| (show eRet; refine ret1 Tryz.results49 ?_)| (refine wS ?_)| (show lGu; first | refine al_splitD (fun h => ?_) (fun h => ?_) | refine al_split (fun h => ?_) (fun h => ?_))| (show cIf; first | refine aw_ifD (fun h => ?_) (fun h => ?_) | refine aw_if (fun h => ?_) (fun h => ?_))| (exfalso; omega))
 all_goals refine congrArg (fun q => CE.ret (bl q)) ?_
 all_goals try simp only [Bool.not_eq_true', Bool.not_eq_false', decide_eq_false_iff_not, decide_eq_true_eq, Classical.not_not, ne_eq] at *
 all_goals unfold cleanB
 all_goals first
  | (refine (decide_eq_false fun q => ?_).symm
     obtain ⟨c1, c2, c3, c4, c5⟩ := q
     first
      | omega
      | exact absurd (c1 (by assumption)) (by assumption)
      | (have := c2 (by assumption); omega)
      | (have := c3 (by assumption); omega)
      | (have c4 := c4 (by first | exact .inl (by assumption) | exact .inr (by assumption)); simp_all; done))
  | exact decide_eq_decide.2 ⟨fun q => ⟨fun _ => by first | assumption | omega, fun _ => by omega, fun _ => by omega, fun _ => by omega, fun _ => q⟩, fun q => q.2.2.2.2 (by omega)⟩
  | (cases hany : anyB n.name with
     | true =>
      refine (decide_eq_false fun q => ?_).symm
      have c4 := q.2.2.2.1 (by first | exact .inl (by assumption) | exact .inr (by assumption))
      exact Bool.noConfusion c4.2
     | false => exact (decide_eq_true ⟨fun _ => by first | assumption | omega, fun _ => by omega, fun _ => by omega, fun _ => ⟨by assumption, rfl⟩, fun _ => by omega⟩).symm)
theorem count_arity {op : Int} (h0 : 0 <= op) (h8 : op <= 8) : countI op = arityI op := by
 unfold countI arityI
 repeat' split
 all_goals first | rfl | omega
theorem count_neg {op : Int} (h : ¬(0 <= op /\ op <= 8)) : countI op = -1 := by
 unfold countI
 rw [if_neg (by omega), if_neg (by omega), if_neg (by omega)]
theorem ok_clean (rules d : Int) (n : Node) : okN rules d n = decide (0 <= countI n.op /\ countI n.op <= d /\ cleanB rules n = true) := by
 unfold okN
 refine decide_eq_decide.2 ⟨fun q => ?_, fun q => ?_⟩
 ·obtain ⟨c1, c2, c3, c4, c5, c6⟩ := q
  have ha := arity_le n.op
  rw [count_arity c2 c3]
  refine ⟨by omega, c1, decide_eq_true ⟨fun h => ?_, c4, fun h => ?_, c5, fun h => ?_⟩⟩
  ·rw [c6]; simp [canonN, h, zeroC']
  ·rw [c6]; simp [canonN, h]
  ·rw [c6]; simp only [canonN]; rw [if_neg h]
 ·obtain ⟨c1, c2, c3⟩ := q
  have hop : 0 <= n.op /\ n.op <= 8 := by
   by_cases h : 0 <= n.op /\ n.op <= 8
   ·exact h
   ·rw [count_neg h] at c1; omega
  obtain ⟨q1, q2, q3, q4, q5⟩ := of_decide_eq_true c3
  rw [count_arity hop.1 hop.2] at c2
  refine ⟨c2, hop.1, hop.2, q2, q4, ?_⟩
  obtain ⟨op, cl, ru, nm⟩ := n
  simp only [canonN]
  dsimp only at q1 q2 q3 q4 q5
  congr 1
  ·by_cases h : op = 1
   ·rw [if_pos h]
   ·rw [if_neg h]; exact q1 h
  ·by_cases h : op = 2
   ·rw [if_pos h]
   ·rw [if_neg h]; exact q3 h
  ·by_cases h : op = 3 \/ op = 8
   ·rw [if_pos h]
   ·rw [if_neg h]; exact q5 h
attribute [local irreducible] cleanB rightL
theorem body29_c (b : List Node) (rules : Int) (hb : b.length <= 1000000) (hN : ∀ n ∈ b, n.name.size <= 150000000000000) : ACalls Tryz.prog 29 [.c (.p (bodyP b)), i64 rules] [] (fun r _ => r = .ret (bl (rightL rules b 0))) := by
 have hr0 : ∀ d : Int, rightL rules [] d = decide (d = 1) := fun d => by unfold rightL; rfl
 have hr1 : ∀ (n : Node) (l : List Node) (d : Int), rightL rules (n :: l) d = (okN rules d n && rightL rules l (d + (1 - arityI n.op))) := fun n l d => by rw [rightL]
 refine acalls_by Tryz.func29 Tryz.ntmps29 ?_
 simp only [argFr]
 repeat' (first| (refine wS ?_)| fail)
 refine aw_roundsG (ι := Nat × Int) (fun i n => [(0, .c (.p (bodyP b))), (1, i64 rules), (5, i64 i.2), (6, i64 (i.1 : Int))]) (fun _ _ => []) (fun i => i.1 <= b.length /\ 0 <= i.2 /\ i.2 <= i.1 /\ rightL rules (b.drop i.1) i.2 = rightL rules b 0) (fun i => b.length - i.1) (0, 0) 0 ⟨by simp, by simp, by simp, by simp⟩ (by simp) rfl (by simp [Fr.get]) ?_
 rintro ⟨i, d⟩ q g ⟨h1, h2, h3, h4⟩ hg
 dsimp only at h1 h2 h3 h4 ⊢
 by_cases hi : i < b.length
 ·rw [drop_at b i hi, hr1, ok_clean] at h4
  have hn := hN _ (at'_mem (show 0 <= (i : Int) by omega) (show (i : Int) < b.length by omega))
  have hcl := clean49_c (at' b (i : Int)) rules hn
  have hco := count48_c (at' b (i : Int)).op
  by_cases c0 : 0 <= countI (at' b (i : Int)).op /\ countI (at' b (i : Int)).op <= d
  ·have hop : 0 <= (at' b (i : Int)).op /\ (at' b (i : Int)).op <= 8 := by
    by_cases h : 0 <= (at' b (i : Int)).op /\ (at' b (i : Int)).op <= 8
    ·exact h
    ·have := count_neg h; omega
   have hca := count_arity hop.1 hop.2
   have hle := arity_le (at' b (i : Int)).op
   cases c3 : cleanB rules (at' b (i : Int)) with
   | true =>
    rw [decide_eq_true ⟨c0.1, c0.2, c3⟩, Bool.true_and] at h4
    rw [c3] at hcl
    repeat' (first| (refine aw_T ?_ (hb := dT (show (i : Int) < b.length by omega)))| (show lOp; refine op0 (by (show kCall; first | exact b_call (hco) | exact b_call (hcl))) ?_)| (show eRet; refine ret1 Tryz.results29 ?_)| (refine wS ?_)| (show lGu; refine al_splitD (fun h => ?_) (fun h => ?_))| (exfalso; omega))
    all_goals first
     | exact ⟨(i + 1, d - countI (at' b (i : Int)).op + 1), _, ⟨by dsimp only; omega, by dsimp only; omega, by dsimp only; omega, by dsimp only; rw [<- h4, hca]; congr 1; omega⟩, Nat.le_refl _, List.drop_length, by simp [Fr.get], by dsimp only; omega⟩
     | (exfalso; omega)
   | false =>
    rw [dF (fun h => by rw [c3] at h; exact Bool.noConfusion h.2.2), Bool.false_and] at h4
    rw [c3] at hcl
    rw [<- h4]
    repeat' (first| (refine aw_T ?_ (hb := dT (show (i : Int) < b.length by omega)))| (show lOp; refine op0 (by (show kCall; first | exact b_call (hco) | exact b_call (hcl))) ?_)| (show eRet; refine ret1 Tryz.results29 ?_)| (refine wS ?_)| (show lGu; refine al_splitD (fun h => ?_) (fun h => ?_))| (exfalso; omega))
    all_goals first | rfl | (exfalso; omega)
  ·rw [dF (fun h => c0 ⟨h.1, h.2.1⟩), Bool.false_and] at h4
   rw [<- h4]
   repeat' (first| (refine aw_T ?_ (hb := dT (show (i : Int) < b.length by omega)))| (show lOp; refine op0 (by (show kCall; first | exact b_call (hco) | exact b_call (hcl))) ?_)| (show eRet; refine ret1 Tryz.results29 ?_)| (refine wS ?_)| (show lGu; refine al_splitD (fun h => ?_) (fun h => ?_))| (show cIf; refine aw_if (fun h => ?_) (fun h => ?_))| (exfalso; omega))
   all_goals first | rfl | (exfalso; omega)
 ·have : i = b.length := by omega
  subst this
  rw [List.drop_length, hr0] at h4
  repeat' (first| (refine aw_F ?_ (hb := dF (show ¬(b.length : Int) < b.length by omega)))| (show eRet; refine ret1 Tryz.results29 ?_)| (refine wS ?_)| fail)
  rw [h4]
end Go.AL
namespace Go.AL
open Go.Proofs
attribute [local irreducible] AWp AList RStep seqQ blockQ retQ DSteps DT DU DM DZ awR rQ SStep preB nameOk anyB letterB digitB cleanB rightL
theorem idx_none {α : Type} [DecidableEq α] {k : α} : ∀ {l : List α}, (∀ x ∈ l, x ≠ k) -> (idxK k l).isSome = false
 | [], _ => rfl
 | a :: l, h => by
  simp only [idxK]
  rw [if_neg (fun e => h a (List.mem_cons_self ..) e.symm), Option.isSome_map]
  exact idx_none fun x hx => h x (List.mem_cons_of_mem _ hx)
theorem idx_mem {α : Type} [DecidableEq α] {k : α} : ∀ {l : List α}, k ∈ l -> (idxK k l).isSome = true
 | a :: l, h => by
  simp only [idxK]
  by_cases e : k = a
  ·rw [if_pos e]; rfl
  ·rw [if_neg e, Option.isSome_map]
   exact idx_mem ((List.mem_cons.1 h).resolve_left e)
theorem names_take (c : Core) (i : Nat) (h : i < c.rules.length) : (c.rules.take i).map (·.name) ++ [(at' c.rules (i : Int)).name] = (c.rules.take (i + 1)).map (·.name) := by
 rw [List.take_add_one, at'_getElem? h, List.map_append]; rfl
theorem take_mem {c : Core} {i j : Nat} (hj : j < i) (h : i <= c.rules.length) : (at' c.rules (j : Int)).name ∈ (c.rules.take i).map (·.name) := by
 refine List.mem_map.2 ⟨at' c.rules (j : Int), ?_, rfl⟩
 refine List.mem_of_getElem? (i := j) ?_
 rw [List.getElem?_take, if_pos hj]
 exact at'_getElem? (by omega)
theorem take_at {c : Core} {i : Nat} {x : ByteArray} (h : i <= c.rules.length) (hx : x ∈ (c.rules.take i).map (·.name)) : ∃ j, j < i /\ x = (at' c.rules (j : Int)).name := by
 obtain ⟨r, hr, rfl⟩ := List.mem_map.1 hx
 obtain ⟨j, hj⟩ := List.mem_iff_getElem?.1 hr
 have hlt : j < i := by
  have := (List.getElem?_eq_some_iff.1 hj).1
  rw [List.length_take] at this; omega
 rw [List.getElem?_take, if_pos hlt, at'_getElem? (by omega)] at hj
 injection hj with hj
 exact ⟨j, hlt, by rw [hj]⟩
theorem check14_c (c : Core) (hc : CoreIn c) : ACalls Tryz.prog 14 [coreV c] [] (fun r _ => r = .ret (i64 (checkI c))) := by
 have hl := hc.len
 have hsz := hc.size
 by_cases h0 : c.rules.length < 1 \/ c.rules.length > 256 \/ c.start < 0 \/ c.start >= c.rules.length \/ sizeI c > 16384
 ·have e0 : checkI c = 6 := by unfold checkI; rw [if_pos h0]
  rw [e0]
  by_cases hq : c.rules.length <= 4096
  ·have h19 := size19_c c (by omega) hq
   refine acalls_by Tryz.func14 Tryz.ntmps14 ?_
   simp only [argFr]
   repeat' (first| (show lOp; refine op0 (by (show kCall; exact b_call (h19))) ?_)| (show eRet; refine ret1 Tryz.results14 ?_)| (refine wS ?_)| (show lGu; refine al_splitD (fun h => ?_) (fun h => ?_))| (show cIf; refine aw_ifD (fun h => ?_) (fun h => ?_))| (exfalso; omega))
   all_goals first | rfl | (exfalso; omega)
  ·skip
   refine acalls_by Tryz.func14 Tryz.ntmps14 ?_
   simp only [argFr]
   repeat' (first| (show eRet; refine ret1 Tryz.results14 ?_)| (refine wS ?_)| (show lGu; refine al_splitD (fun h => ?_) (fun h => ?_))| (exfalso; omega))
   all_goals first | rfl | (exfalso; omega)
 have e0 : checkI c = if checkL c.rules.length c.rules [] = true then 0 else 6 := by unfold checkI; rw [if_neg h0]
 rw [e0]
 have h19 := size19_c c (by omega) (by omega)
 have e1 : ∀ r ∈ c.rules, (r.body.length : Int) <= sizeI c := fun r h => by have := len_sizeL c.rules 0 r h; show _ <= sizeL c.rules 0; omega
 refine acalls_by Tryz.func14 Tryz.ntmps14 ?_
 simp only [argFr]
 repeat' (first| (show lOp; refine op0 (by (show kCall; exact b_call (h19))) ?_)| (show eRet; refine ret1 Tryz.results14 ?_)| (refine wS ?_)| (show lGu; refine al_splitD (fun h => ?_) (fun h => ?_))| (show cIf; refine aw_ifD (fun h => ?_) (fun h => ?_))| (exfalso; omega))
 all_goals try (exfalso; omega)
 refine aw_roundsP (ι := Nat) 1 (fun _ => [.cells [.p (rulesP c.rules), .p (lI c.start)]]) (fun i n => [(1, .c (.ptr 0 0)), (3, i64 (i : Int))]) (fun _ _ => []) (fun i => i <= c.rules.length /\ checkL c.rules.length (c.rules.drop i) ((c.rules.take i).map (·.name)) = checkL c.rules.length c.rules []) (fun i => c.rules.length - i) 0 1 (fun _ => rfl) ⟨Nat.zero_le _, by simp⟩ (by omega) (by simp) rfl rfl (by simp [Fr.get]) ?_
 rintro i n g ⟨h1, h2⟩ hg
 have hg1 : 1 + g.length = n := by simp at hg; omega
 clear hg
 by_cases hi : i < c.rules.length
 ·rw [drop_at c.rules i hi] at h2
  simp only [checkL] at h2
  have hm := at'_mem (show 0 <= (i : Int) by omega) (show (i : Int) < c.rules.length by omega)
  obtain ⟨n1, n2⟩ := hc.names _ hm
  have hbl := e1 _ hm
  have hnc := name28_c (at' c.rules (i : Int)).name (by omega)
  have hrc := body29_c (at' c.rules (i : Int)).body c.rules.length (by omega) (fun n hn => by have := (n2 n hn).1; omega)
  cases k2 : nameOk (at' c.rules (i : Int)).name with
  | false =>
   rw [k2] at h2 hnc
   rw [Bool.false_and, Bool.and_false] at h2
   rw [<- h2]
   repeat' (first| (refine aw_T ?_ (hb := dT (show (i : Int) < c.rules.length by omega)))| (show dOp; refine ds_op (by (show kCall; exact b_call (hnc))) ?_)| (show eRet; refine ret1 Tryz.results14 ?_)| (refine wS ?_)| fail)
   all_goals first | rfl | (exfalso; omega)
  | true =>
  cases k3 : rightL c.rules.length (at' c.rules (i : Int)).body 0 with
  | false =>
   rw [k2] at h2 hnc
   rw [k3] at h2 hrc
   rw [Bool.false_and, Bool.and_false, Bool.and_false] at h2
   rw [<- h2]
   repeat' (first| (refine aw_T ?_ (hb := dT (show (i : Int) < c.rules.length by omega)))| (show dOp; refine ds_op (by (show kCall; exact b_call (hnc))) ?_)| (show dGu; (refine ds_yes (by (show kCall; exact b_call (hrc))) ?_))| (show eRet; refine ret1 Tryz.results14 ?_)| (refine wS ?_)| fail)
   all_goals first | rfl | (exfalso; omega)
  | true =>
  rw [k2] at h2 hnc
  rw [k3] at h2 hrc
  rw [Bool.true_and, Bool.true_and] at h2
  repeat' (first| (refine aw_T ?_ (hb := dT (show (i : Int) < c.rules.length by omega)))| (show dOp; refine ds_op (by (show kCall; exact b_call (hnc))) ?_)| (show dGu; (refine ds_yes (by (show kCall; exact b_call (hrc))) ?_))| (refine wS ?_)| fail)
  refine aw_roundsP (ι := Nat) 1 (fun _ => [.cells [.p (rulesP c.rules), .p (lI c.start)]]) (fun k n => [(1, .c (.ptr 0 0)), (3, i64 (i : Int)), (4, i64 (k : Int))]) (fun _ _ => []) (fun k => k <= i /\ ∀ j, j < k -> (at' c.rules (j : Int)).name ≠ (at' c.rules (i : Int)).name) (fun k => i - k) 0 n (fun _ => rfl) ⟨Nat.zero_le _, fun j hj => absurd hj (by omega)⟩ (by omega) (by simp; omega) rfl (dropGP (p := 1) (j := 0) hg1 rfl rfl) (by simp [Fr.get]) ?_
  clear hg1
  rintro k n' g' ⟨j1, j2⟩ hg
  have hg1 : 1 + g'.length = n' := by simp at hg; omega
  clear hg
  by_cases hk : k < i
  ·by_cases he : (at' c.rules (k : Int)).name = (at' c.rules (i : Int)).name
   ·have hin : (idxK (at' c.rules (i : Int)).name ((c.rules.take i).map (·.name))).isSome = true := idx_mem (by rw [<- he]; exact take_mem hk (by omega))
    rw [hin] at h2
    rw [Bool.not_true, Bool.false_and] at h2
    rw [<- h2]
    repeat' (first| (refine aw_T ?_ (hb := dT (show (k : Int) < i by omega)))| (refine aw_T ?_ (hb := decide_eq_true he))| (show eRet; refine ret1 Tryz.results14 ?_)| (refine wS ?_)| fail)
    rfl
   ·repeat' (first| (refine aw_T ?_ (hb := dT (show (k : Int) < i by omega)))| (refine aw_F ?_ (hb := decide_eq_false he))| (refine wS ?_)| fail)
    exact ⟨k + 1, n', ⟨by omega, fun j hj => by
     by_cases hjk : j = k
     ·subst hjk; exact he
     ·exact j2 j (by omega)⟩, by omega, by simp; omega, rfl, dropGP (p := 1) (j := 0) hg1 rfl rfl, by simp [Fr.get], by omega⟩
  ·have hki : k = i := by omega
   have hin : (idxK (at' c.rules (i : Int)).name ((c.rules.take i).map (·.name))).isSome = false := idx_none fun x hx => by
    obtain ⟨j, hj, rfl⟩ := take_at (by omega) hx
    exact j2 j (by omega)
   rw [hin, names_take c i hi] at h2
   rw [Bool.not_false, Bool.true_and] at h2
   repeat' (first| (refine aw_F ?_ (hb := dF (show ¬(k : Int) < i by omega)))| (refine wS ?_)| fail)
   exact ⟨i + 1, n', ⟨by omega, h2⟩, by omega, by simp; omega, rfl, dropGP (p := 1) (j := 0) hg1 rfl rfl, by simp [Fr.get], by omega⟩
 ·have : i = c.rules.length := by omega
  subst this
  rw [List.drop_length] at h2
  simp only [checkL] at h2
  rw [<- h2]
  repeat' (first| (refine aw_F ?_ (hb := dF (show ¬(c.rules.length : Int) < c.rules.length by omega)))| (show eRet; refine ret1 Tryz.results14 ?_)| (refine wS ?_)| fail)
  rfl
end Go.AL
namespace Go.AL
open Go.Proofs
attribute [local irreducible] AWp AList RStep seqQ blockQ retQ DSteps DT DU DM DZ awR rQ SStep
theorem parts32_c (b : List Node) (hb : b.length <= 1000000) (ps : List (Int × Int)) (h : divM b = some ps) : ACalls Tryz.prog 32 [.c (.p (bodyP b))] [] (fun q _ => q = .ret (.c (.p (.sl 2 (ps.map encP2))))) := by
 refine acalls_by Tryz.func32 Tryz.ntmps32 ?_
 simp only [argFr]
 have h0 : ([] : List AObj) ++ [.arr 65 2 (List.replicate ((b.length : Int)).toNat [lI 0, lI 0])] = [.arr 65 2 ((List.replicate b.length ((0 : Int), (0 : Int))).map encP2)] := by simp [encP2]
 have h1 : [AObj.arr 65 2 ((List.replicate b.length ((0 : Int), (0 : Int))).map encP2)] ++ [AObj.arr 3 1 (List.replicate ((b.length : Int)).toNat [lI 0])] = [.arr 65 2 ((List.replicate b.length ((0 : Int), (0 : Int))).map encP2), .arr 3 1 ((List.replicate b.length (0 : Int)).map encI1)] := by simp [encI1]
 repeat' (first| (show lMakeSlice; first | refine k_make ?_ (hσ := h0) | refine k_make ?_ (hσ := h1))| (refine wS ?_)| fail)
 refine aw_roundsP (ι := Nat × List (Int × Int) × List Int) 2 (fun i => [.arr 65 2 (i.2.1.map encP2), .arr 3 1 (i.2.2.map encI1)]) (fun i n => [(0, .c (.p (bodyP b))), (3, .c (.ms 0 b.length)), (4, .c (.ms 1 b.length)), (5, i64 (i.1 : Int))]) (fun _ _ => []) (fun i => i.1 <= b.length /\ i.2.1.length = b.length /\ i.2.2.length = b.length /\ divF b (b.length - i.1) i.1 i.2.1 i.2.2 = some ps) (fun i => b.length - i.1) (0, List.replicate b.length (0, 0), List.replicate b.length 0) 2 (fun _ => rfl) ⟨by simp, by simp, by simp, h⟩ (by omega) (by simp) rfl rfl (by simp [Fr.get]) ?_
 rintro ⟨k, l, st⟩ n g ⟨h1, h2, h3, h4⟩ hg
 dsimp only at h1 h2 h3 h4 hg ⊢
 have hg1 : 2 + g.length = n := by simp at hg; omega
 clear hg h h0
 by_cases hk : k < b.length
 ·obtain ⟨m, hm⟩ : ∃ m, b.length - k = m + 1 := ⟨b.length - k - 1, by omega⟩
  rw [hm] at h4
  simp only [divF] at h4
  by_cases p6 : (at' b (k : Int)).op = 6 \/ (at' b (k : Int)).op = 7 \/ (at' b (k : Int)).op = 8
  ·rw [if_pos p6] at h4
   split at h4
   case isFalse => cases h4
   rename_i hk1
   rcases p6 with p6 | p6 | p6
   ·repeat' (first| (refine aw_T ?_ (hb := dT (show (k : Int) < b.length by omega)))| (show lStore; first | refine k_storeElM (i := k) (f := encP2) (-1, -1) ?_ | refine k_storeElM (i := k) (f := encI1) (k : Int) ?_ | refine k_storePart (i := k) (f := encP2) ((k : Int) - 1, (at' (l.set k (-1, -1)) (k : Int)).2) ?_ | refine k_storeElM (i := k) (f := encI1) (at' (st.set k (k : Int)) ((k : Int) - 1)) ?_)| (refine wS ?_)| fail)
    exact ⟨(k + 1, (l.set k (-1, -1)).set k ((k : Int) - 1, (at' (l.set k (-1, -1)) (k : Int)).2), (st.set k (k : Int)).set k (at' (st.set k (k : Int)) ((k : Int) - 1))), n, ⟨by dsimp only; omega, by simp [h2], by simp [h3], by dsimp only; rw [show b.length - (k + 1) = m by omega]; exact h4⟩, by omega, by simp; omega, rfl, dropGP (p := 2) (j := 0) hg1 rfl rfl, by simp [Fr.get], by dsimp only; omega⟩
   ·repeat' (first| (refine aw_T ?_ (hb := dT (show (k : Int) < b.length by omega)))| (show lStore; first | refine k_storeElM (i := k) (f := encP2) (-1, -1) ?_ | refine k_storeElM (i := k) (f := encI1) (k : Int) ?_ | refine k_storePart (i := k) (f := encP2) ((k : Int) - 1, (at' (l.set k (-1, -1)) (k : Int)).2) ?_ | refine k_storeElM (i := k) (f := encI1) (at' (st.set k (k : Int)) ((k : Int) - 1)) ?_)| (refine wS ?_)| (show cIf; refine aw_ifD (fun h => ?_) (fun h => ?_))| (exfalso; omega))
    exact ⟨(k + 1, (l.set k (-1, -1)).set k ((k : Int) - 1, (at' (l.set k (-1, -1)) (k : Int)).2), (st.set k (k : Int)).set k (at' (st.set k (k : Int)) ((k : Int) - 1))), n, ⟨by dsimp only; omega, by simp [h2], by simp [h3], by dsimp only; rw [show b.length - (k + 1) = m by omega]; exact h4⟩, by omega, by simp; omega, rfl, dropGP (p := 2) (j := 0) hg1 rfl rfl, by simp [Fr.get], by dsimp only; omega⟩
   ·repeat' (first| (refine aw_T ?_ (hb := dT (show (k : Int) < b.length by omega)))| (show lStore; first | refine k_storeElM (i := k) (f := encP2) (-1, -1) ?_ | refine k_storeElM (i := k) (f := encI1) (k : Int) ?_ | refine k_storePart (i := k) (f := encP2) ((k : Int) - 1, (at' (l.set k (-1, -1)) (k : Int)).2) ?_ | refine k_storeElM (i := k) (f := encI1) (at' (st.set k (k : Int)) ((k : Int) - 1)) ?_)| (refine wS ?_)| (show cIf; refine aw_ifD (fun h => ?_) (fun h => ?_))| (exfalso; omega))
    exact ⟨(k + 1, (l.set k (-1, -1)).set k ((k : Int) - 1, (at' (l.set k (-1, -1)) (k : Int)).2), (st.set k (k : Int)).set k (at' (st.set k (k : Int)) ((k : Int) - 1))), n, ⟨by dsimp only; omega, by simp [h2], by simp [h3], by dsimp only; rw [show b.length - (k + 1) = m by omega]; exact h4⟩, by omega, by simp; omega, rfl, dropGP (p := 2) (j := 0) hg1 rfl rfl, by simp [Fr.get], by dsimp only; omega⟩
  rw [if_neg p6] at h4
  by_cases p4 : (at' b (k : Int)).op = 4 \/ (at' b (k : Int)).op = 5
  ·rw [if_pos p4] at h4
   split at h4
   case isFalse => cases h4
   rename_i hc
   obtain ⟨c1, c2, c3⟩ := hc
   have e1 : at' (l.set k ((-1 : Int), (-1 : Int))) (k : Int) = (-1, -1) := at'_set_self (by omega)
   have e2 : at' ((l.set k ((-1 : Int), (-1 : Int))).set k ((at' (l.set k ((-1 : Int), (-1 : Int))) (k : Int)).1, (k : Int) - 1)) (k : Int) = (-1, (k : Int) - 1) := by rw [at'_set_self (by simp; omega), e1]
   have e3 : (((l.set k ((-1 : Int), (-1 : Int))).set k ((at' (l.set k ((-1 : Int), (-1 : Int))) (k : Int)).1, (k : Int) - 1)).set k ((at' (st.set k (k : Int)) ((k : Int) - 1) - 1), (at' ((l.set k ((-1 : Int), (-1 : Int))).set k ((at' (l.set k ((-1 : Int), (-1 : Int))) (k : Int)).1, (k : Int) - 1)) (k : Int)).2)) = (l.set k (-1, -1)).set k (at' (st.set k (k : Int)) ((k : Int) - 1) - 1, (k : Int) - 1) := by rw [e2, List.set_set]
   have hset : at' (((l.set k ((-1 : Int), (-1 : Int))).set k ((at' (l.set k ((-1 : Int), (-1 : Int))) (k : Int)).1, (k : Int) - 1)).set k ((at' (st.set k (k : Int)) ((k : Int) - 1) - 1), (at' ((l.set k ((-1 : Int), (-1 : Int))).set k ((at' (l.set k ((-1 : Int), (-1 : Int))) (k : Int)).1, (k : Int) - 1)) (k : Int)).2)) (k : Int) = (at' (st.set k (k : Int)) ((k : Int) - 1) - 1, (k : Int) - 1) := by rw [at'_set_self (by simp; omega), e2]
   have hs1 : (at' (((l.set k ((-1 : Int), (-1 : Int))).set k ((at' (l.set k ((-1 : Int), (-1 : Int))) (k : Int)).1, (k : Int) - 1)).set k ((at' (st.set k (k : Int)) ((k : Int) - 1) - 1), (at' ((l.set k ((-1 : Int), (-1 : Int))).set k ((at' (l.set k ((-1 : Int), (-1 : Int))) (k : Int)).1, (k : Int) - 1)) (k : Int)).2)) (k : Int)).1 = at' (st.set k (k : Int)) ((k : Int) - 1) - 1 := by rw [hset]
   rcases p4 with p4 | p4
   ·repeat' (first| (refine aw_T ?_ (hb := dT (show (k : Int) < b.length by omega)))| (show lStore; first | refine k_storeElM (i := k) (f := encP2) (-1, -1) ?_ | refine k_storeElM (i := k) (f := encI1) (k : Int) ?_ | refine k_storePart (i := k) (f := encP2) ((at' (l.set k ((-1 : Int), (-1 : Int))) (k : Int)).1, (k : Int) - 1) ?_ | refine k_storePart (i := k) (f := encP2) ((at' (st.set k (k : Int)) ((k : Int) - 1) - 1), (at' ((l.set k ((-1 : Int), (-1 : Int))).set k ((at' (l.set k ((-1 : Int), (-1 : Int))) (k : Int)).1, (k : Int) - 1)) (k : Int)).2) ?_ | refine k_storeElM (i := k) (f := encI1) (at' (st.set k (k : Int)) (at' (((l.set k ((-1 : Int), (-1 : Int))).set k ((at' (l.set k ((-1 : Int), (-1 : Int))) (k : Int)).1, (k : Int) - 1)).set k ((at' (st.set k (k : Int)) ((k : Int) - 1) - 1), (at' ((l.set k ((-1 : Int), (-1 : Int))).set k ((at' (l.set k ((-1 : Int), (-1 : Int))) (k : Int)).1, (k : Int) - 1)) (k : Int)).2)) (k : Int)).1) ?_)| (show cRegD; refine aw_dr 10 Tryz_mixed ?_)| (refine wS ?_)| (show cIf; refine aw_ifD (fun h => ?_) (fun h => ?_))| (exfalso; omega))
    exact ⟨(k + 1, (((l.set k ((-1 : Int), (-1 : Int))).set k ((at' (l.set k ((-1 : Int), (-1 : Int))) (k : Int)).1, (k : Int) - 1)).set k ((at' (st.set k (k : Int)) ((k : Int) - 1) - 1), (at' ((l.set k ((-1 : Int), (-1 : Int))).set k ((at' (l.set k ((-1 : Int), (-1 : Int))) (k : Int)).1, (k : Int) - 1)) (k : Int)).2)), (st.set k (k : Int)).set k (at' (st.set k (k : Int)) (at' (((l.set k ((-1 : Int), (-1 : Int))).set k ((at' (l.set k ((-1 : Int), (-1 : Int))) (k : Int)).1, (k : Int) - 1)).set k ((at' (st.set k (k : Int)) ((k : Int) - 1) - 1), (at' ((l.set k ((-1 : Int), (-1 : Int))).set k ((at' (l.set k ((-1 : Int), (-1 : Int))) (k : Int)).1, (k : Int) - 1)) (k : Int)).2)) (k : Int)).1)), n, ⟨by dsimp only; omega, by simp [h2], by simp [h3], by dsimp only; rw [show b.length - (k + 1) = m by omega, e3]; exact h4⟩, by omega, by simp; omega, rfl, dropGP (p := 2) (j := 0) hg1 rfl rfl, by simp [Fr.get], by dsimp only; omega⟩
   ·repeat' (first| (refine aw_T ?_ (hb := dT (show (k : Int) < b.length by omega)))| (show lStore; first | refine k_storeElM (i := k) (f := encP2) (-1, -1) ?_ | refine k_storeElM (i := k) (f := encI1) (k : Int) ?_ | refine k_storePart (i := k) (f := encP2) ((at' (l.set k ((-1 : Int), (-1 : Int))) (k : Int)).1, (k : Int) - 1) ?_ | refine k_storePart (i := k) (f := encP2) ((at' (st.set k (k : Int)) ((k : Int) - 1) - 1), (at' ((l.set k ((-1 : Int), (-1 : Int))).set k ((at' (l.set k ((-1 : Int), (-1 : Int))) (k : Int)).1, (k : Int) - 1)) (k : Int)).2) ?_ | refine k_storeElM (i := k) (f := encI1) (at' (st.set k (k : Int)) (at' (((l.set k ((-1 : Int), (-1 : Int))).set k ((at' (l.set k ((-1 : Int), (-1 : Int))) (k : Int)).1, (k : Int) - 1)).set k ((at' (st.set k (k : Int)) ((k : Int) - 1) - 1), (at' ((l.set k ((-1 : Int), (-1 : Int))).set k ((at' (l.set k ((-1 : Int), (-1 : Int))) (k : Int)).1, (k : Int) - 1)) (k : Int)).2)) (k : Int)).1) ?_)| (show cRegD; refine aw_dr 10 Tryz_mixed ?_)| (refine wS ?_)| (show cIf; refine aw_ifD (fun h => ?_) (fun h => ?_))| (exfalso; omega))
    exact ⟨(k + 1, (((l.set k ((-1 : Int), (-1 : Int))).set k ((at' (l.set k ((-1 : Int), (-1 : Int))) (k : Int)).1, (k : Int) - 1)).set k ((at' (st.set k (k : Int)) ((k : Int) - 1) - 1), (at' ((l.set k ((-1 : Int), (-1 : Int))).set k ((at' (l.set k ((-1 : Int), (-1 : Int))) (k : Int)).1, (k : Int) - 1)) (k : Int)).2)), (st.set k (k : Int)).set k (at' (st.set k (k : Int)) (at' (((l.set k ((-1 : Int), (-1 : Int))).set k ((at' (l.set k ((-1 : Int), (-1 : Int))) (k : Int)).1, (k : Int) - 1)).set k ((at' (st.set k (k : Int)) ((k : Int) - 1) - 1), (at' ((l.set k ((-1 : Int), (-1 : Int))).set k ((at' (l.set k ((-1 : Int), (-1 : Int))) (k : Int)).1, (k : Int) - 1)) (k : Int)).2)) (k : Int)).1)), n, ⟨by dsimp only; omega, by simp [h2], by simp [h3], by dsimp only; rw [show b.length - (k + 1) = m by omega, e3]; exact h4⟩, by omega, by simp; omega, rfl, dropGP (p := 2) (j := 0) hg1 rfl rfl, by simp [Fr.get], by dsimp only; omega⟩
  rw [if_neg p4] at h4
  repeat' (first| (refine aw_T ?_ (hb := dT (show (k : Int) < b.length by omega)))| (show lStore; first | refine k_storeElM (i := k) (f := encP2) (-1, -1) ?_ | refine k_storeElM (i := k) (f := encI1) (k : Int) ?_ | refine k_storePart (i := k) (f := encP2) ((k : Int) - 1, (at' (l.set k (-1, -1)) (k : Int)).2) ?_ | refine k_storeElM (i := k) (f := encI1) (at' (st.set k (k : Int)) ((k : Int) - 1)) ?_)| (refine wS ?_)| (show cIf; refine aw_ifD (fun h => ?_) (fun h => ?_))| (exfalso; omega))
  exact ⟨(k + 1, l.set k (-1, -1), st.set k (k : Int)), n, ⟨by dsimp only; omega, by simp [h2], by simp [h3], by dsimp only; rw [show b.length - (k + 1) = m by omega]; exact h4⟩, by omega, by simp; omega, rfl, dropGP (p := 2) (j := 0) hg1 rfl rfl, by simp [Fr.get], by dsimp only; omega⟩
 ·have : k = b.length := by omega
  subst this
  rw [Nat.sub_self] at h4
  simp only [divF] at h4
  injection h4 with h4
  subst h4
  repeat' (first| (refine aw_F ?_ (hb := dF (show ¬(b.length : Int) < b.length by omega)))| (show cAt 19; refine kw_freezeM (f := encP2) 3 ?_; refine aw_reg ?_)| (show eRet; refine ret1 Tryz.results32 ?_)| (refine wS ?_)| fail)
  rw [<- h2, List.take_length]
end Go.AL
namespace Go.AL
open Go.Proofs
section
variable {α : Type} [Inhabited α] [DecidableEq α]
theorem pass_keeps {P : List α -> Prop} {nx : List α -> Int -> α} (hP : ∀ l (k : Nat), P l -> P (l.set k (nx l (k : Int)))) : ∀ (m k : Nat) (l : List α) (ch : Bool), P l -> P (passF nx m k l ch).1
 | 0, _, _, _, h => h
 | m + 1, k, l, ch, h => by
  simp only [passF]
  split
  ·exact pass_keeps hP m _ _ _ (hP _ _ h)
  ·exact pass_keeps hP m _ _ _ h
theorem fix_keeps {P : List α -> Prop} {nx : List α -> Int -> α} (hP : ∀ l (k : Nat), P l -> P (l.set k (nx l (k : Int)))) : ∀ (f : Nat) (l out : List α), P l -> fixF nx f l = some out -> P out
 | 0, _, _, _, h => by cases h
 | f + 1, l, out, hl, h => by
  simp only [fixF] at h
  split at h
  ·exact fix_keeps hP f _ _ (pass_keeps hP _ _ _ _ hl) h
  ·injection h with h
   rw [<- h]
   exact pass_keeps hP _ _ _ _ hl
/-- A pass that changes nothing leaves the table, which is at rest. -/
theorem pass_still {nx : List α -> Int -> α} : ∀ (m k : Nat) (l : List α) (ch : Bool), (passF nx m k l ch).2 = false -> ch = false /\ (passF nx m k l ch).1 = l /\ ∀ j : Nat, k <= j -> j < k + m -> nx l (j : Int) = at' l (j : Int)
 | 0, k, l, ch, h => ⟨h, rfl, fun j h1 h2 => by omega⟩
 | m + 1, k, l, ch, h => by
  simp only [passF] at h ⊢
  split at h
  ·rename_i hc
   obtain ⟨q, _⟩ := pass_still m (k + 1) _ true h
   cases q
  ·rename_i hc
   rw [if_neg hc]
   obtain ⟨q1, q2, q3⟩ := pass_still m (k + 1) l ch h
   refine ⟨q1, q2, fun j h1 h2 => ?_⟩
   by_cases hj : j = k
   ·subst hj
    exact Classical.not_not.1 hc
   ·exact q3 j (by omega) (by omega)
theorem fix_rest {nx : List α -> Int -> α} : ∀ (f : Nat) (l out : List α), fixF nx f l = some out -> ∀ j : Nat, j < out.length -> nx out (j : Int) = at' out (j : Int)
 | 0, _, _, h => by cases h
 | f + 1, l, out, h => by
  simp only [fixF] at h
  split at h
  ·exact fix_rest f _ _ h
  ·rename_i hc
   injection h with h
   subst h
   have hc : (passF nx l.length 0 l false).2 = false := by
    cases hq : (passF nx l.length 0 l false).2 with
    | true => exact absurd hq hc
    | false => rfl
   obtain ⟨_, q2, q3⟩ := pass_still l.length 0 l false hc
   rw [q2]
   intro j hj
   exact q3 j (by omega) (by omega)
end
theorem at_mono {l l' : List May} (h : leLM l l') (r : Int) : leM (at' l r) (at' l' r) := by
 rw [at'_nat l r, at'_nat l' r]; exact h.2 _
theorem last_mono {c : Core} {ps : List (List (Int × Int))} {l l' : List May} (h : leLM l l') (k : Int) : leM (lastM c ps l k) (lastM c ps l' k) := by
 unfold lastM
 exact at_mono (bodyM_mono (fun r => at_mono h r)) _
/-- What the program finds is no more than any table at rest. -/
theorem comes_least {c : Core} {ps : List (List (Int × Int))} {rs R : List May} {F : Nat} (h : fixF (lastM c ps) F (List.replicate c.rules.length noMay) = some rs) (hl : R.length = c.rules.length) (hR : ∀ k : Nat, k < R.length -> lastM c ps R (k : Int) = at' R (k : Int)) : leLM rs R := by
 refine fix_keeps (P := fun l => leLM l R) (fun l k hl' => ?_) F _ rs ⟨by simp [hl], fun k => ?_⟩ h
 ·refine ⟨by rw [List.length_set]; exact hl'.1, fun j => ?_⟩
  by_cases hk : k < l.length
  ·by_cases hjk : k = j
   ·subst hjk
    rw [at'_set_self hk, <- hR k (by rw [<- hl'.1]; exact hk)]
    exact last_mono hl' _
   ·rw [at'_set_ne hjk]; exact hl'.2 j
  ·rw [List.set_eq_of_length_le (by omega)]; exact hl'.2 j
 ·by_cases hk : k < c.rules.length
  ·have : at' (List.replicate c.rules.length noMay) (k : Int) = noMay := by simp [at', hk]
   rw [this]; exact leM_no _
  ·rw [at'_out (by simpa using hk), at'_out (by rw [hl]; exact hk)]; exact leM_refl _
theorem body_le {c : Core} {ps : List (List (Int × Int))} {rs R : List May} (h : leLM rs R) (r : Int) : leLM (bodyM (at' c.rules r).body (at' ps r) rs) (bodyM (at' c.rules r).body (at' ps r) R) := bodyM_mono (fun q => at_mono h q)
end Go.AL
namespace Go.AL
open Go.Proofs
inductive Way (E : Int -> Int -> Prop) : Int -> Int -> Prop
 | one {a b : Int} (h : E a b) : Way E a b
 | more {a b c : Int} (h : Way E a b) (g : E b c) : Way E a c
theorem Way.head {E : Int -> Int -> Prop} {a b : Int} (h : Way E a b) : ∃ c, E a c /\ (c = b \/ Way E c b) := by
 induction h with
 | one h => exact ⟨_, h, .inl rfl⟩
 | more h g ih =>
  obtain ⟨c, h1, h2⟩ := ih
  rcases h2 with rfl | h2
  ·exact ⟨_, h1, .inr (.one g)⟩
  ·exact ⟨_, h1, .inr (.more h2 g)⟩
theorem Way.mono {E G : Int -> Int -> Prop} (hE : ∀ a b, E a b -> G a b) {a b : Int} (h : Way E a b) : Way G a b := by
 induction h with
 | one h => exact .one (hE _ _ h)
 | more h g ih => exact .more ih (hE _ _ g)
theorem reach_way {ls : List (List Int)} {E : Int -> Int -> Prop} (hE : ∀ r : Int, 0 <= r -> r < ls.length -> ∀ x ∈ at' ls r, E r x) (a : Int) : ∀ (f : Nat) (todo : List Int) (seen out : List Bool), (∀ x ∈ todo, Way E a x) -> seen.length = ls.length -> (∀ k : Nat, at' seen (k : Int) = true -> Way E a k) -> reachF ls f todo seen = some out -> ∀ k : Nat, at' out (k : Int) = true -> Way E a k
 | 0, _, _, _, _, _, _, h => by cases h
 | f + 1, todo, seen, out, ht, hl, hs, h => by
  unfold reachF at h
  by_cases h0 : todo = []
  ·rw [if_pos h0] at h; injection h with h; subst h; exact hs
  rw [if_neg h0] at h
  have hlen : 0 < todo.length := List.length_pos_iff.2 h0
  have hm : at' todo ((todo.length : Int) - 1) ∈ todo := at'_memI (by omega) (by omega)
  have hw := ht _ hm
  have htk : ∀ x ∈ todo.take (todo.length - 1), Way E a x := fun y hy => ht y (List.mem_of_mem_take hy)
  split at h
  ·rename_i hx
   obtain ⟨x0, x1⟩ := hx
   generalize at' todo ((todo.length : Int) - 1) = x at hw x0 x1 h
   split at h
   ·exact reach_way hE a f _ seen out htk hl hs h
   ·refine reach_way hE a f _ _ out (fun y hy => ?_) (by simp [hl]) (fun k hk => ?_) h
    ·rcases List.mem_append.1 hy with hy | hy
     ·exact htk y hy
     ·exact .more hw (hE x x0 x1 y hy)
    ·by_cases hxk : x.toNat = k
     ·subst hxk
      have : ((x.toNat : Nat) : Int) = x := by omega
      rw [this]; exact hw
     ·rw [at'_set_ne hxk] at hk
      exact hs k hk
  ·cases h
/-- Where no rule has a way round there is no head. -/
theorem heads_none {ls : List (List Int)} {hs : List Bool} (h : HeadsIn ls hs) {E : Int -> Int -> Prop} (hE : ∀ r : Int, 0 <= r -> r < ls.length -> ∀ x ∈ at' ls r, E r x) (hno : ∀ r : Nat, r < ls.length -> ¬Way E r r) : hs = List.replicate ls.length false := by
 refine ext_at' (by rw [h.len]; simp) fun k hk => ?_
 rw [h.len] at hk
 obtain ⟨F, seen, hF, hr, he⟩ := h.reach k hk
 have e0 : at' (List.replicate ls.length false) (k : Int) = false := by simp [at', List.getD_eq_getElem?_getD, List.getElem?_replicate, hk]
 rw [e0, he]
 cases hq : at' seen (k : Int) with
 | false => rfl
 | true =>
  exfalso
  refine hno k hk (reach_way hE k F _ _ seen (fun x hx => .one (hE k (by omega) (by omega) x hx)) (by simp) (fun j hj => ?_) hr k hq)
  rw [show at' (List.replicate ls.length false) (j : Int) = false by
   simp only [at', List.getD_eq_getElem?_getD, Int.toNat_natCast, List.getElem?_replicate]
   split <;> rfl] at hj
  cases hj
def farHit (to : List (List Bool)) (goal : Int) (d r s : Nat) (n : List Int) : Bool := at' (at' to (r : Int)) (s : Int) && (decide (d = 1 /\ (s : Int) = goal) || decide (1 < d /\ at' n (s : Int) = (d : Int) - 1))
/-- One rule's entry, by all rules that it leads to. -/
def farS (to : List (List Bool)) (goal : Int) (d r : Nat) : Nat -> Nat -> List Int -> List Int
 | 0, _, n => n
 | m + 1, s, n => farS to goal d r m (s + 1) (if farHit to goal d r s n = true then n.set r (d : Int) else n)
def farRow (to : List (List Bool)) (goal : Int) (d : Nat) : Nat -> Nat -> List Int -> List Int
 | 0, _, n => n
 | m + 1, r, n => farRow to goal d m (r + 1) (if at' n (r : Int) > 0 then n else farS to goal d r to.length 0 n)
def farD (to : List (List Bool)) (goal : Int) : Nat -> Nat -> List Int -> List Int
 | 0, _, n => n
 | m + 1, d, n => farD to goal m (d + 1) (farRow to goal d to.length 0 n)
def farM (to : List (List Bool)) (goal : Int) : List Int := farD to goal to.length 1 (List.replicate to.length 0)
/-- What a table of distances keeps to, below a distance d. -/
structure FarOK (to : List (List Bool)) (goal : Int) (d : Nat) (n : List Int) : Prop where
 len : n.length = to.length
 rng : ∀ k : Nat, k < to.length -> 0 <= at' n (k : Int) /\ at' n (k : Int) <= d
 snd : ∀ k : Nat, k < to.length -> 1 < at' n (k : Int) -> ∃ s : Nat, s < to.length /\ at' n (s : Int) = at' n (k : Int) - 1
/-- A rule's entry is there, if it leads to one below d. -/
def FarC (to : List (List Bool)) (goal : Int) (d : Nat) (n : List Int) (k : Nat) : Prop := ∀ s : Nat, s < to.length -> at' (at' to (k : Int)) (s : Int) = true -> (1 <= d /\ (s : Int) = goal \/ 0 < at' n (s : Int) /\ at' n (s : Int) < d) -> 0 < at' n (k : Int)
theorem far_set {to : List (List Bool)} {goal : Int} {d r s : Nat} {n : List Int} (h : FarOK to goal d n) (hd : 1 <= d) (hr : r < to.length) (hs : s < to.length) (h0 : at' n (r : Int) = 0 \/ at' n (r : Int) = d) (hh : farHit to goal d r s n = true) : FarOK to goal d (n.set r (d : Int)) /\ at' (n.set r (d : Int)) (r : Int) = d /\ ∀ k : Nat, k ≠ r -> at' (n.set r (d : Int)) (k : Int) = at' n (k : Int) := by
 have hl := h.len
 have e1 : at' (n.set r (d : Int)) (r : Int) = d := at'_set_self (by omega)
 have e2 : ∀ k : Nat, k ≠ r -> at' (n.set r (d : Int)) (k : Int) = at' n (k : Int) := fun k hk => at'_set_ne (Ne.symm hk)
 refine ⟨⟨by simp [hl], fun k hk => ?_, fun k hk h1 => ?_⟩, e1, e2⟩
 ·by_cases hkr : k = r
  ·subst hkr; rw [e1]; omega
  ·rw [e2 k hkr]; exact h.rng k hk
 ·by_cases hkr : k = r
  ·subst hkr
   rw [e1] at h1 ⊢
   unfold farHit at hh
   simp only [Bool.and_eq_true, Bool.or_eq_true, decide_eq_true_eq] at hh
   rcases hh.2 with q | q
   ·omega
   ·have hsk : s ≠ k := by
     intro e
     rw [e] at q
     rcases h0 with h0 | h0 <;> omega
    exact ⟨s, hs, by rw [e2 s hsk]; exact q.2⟩
  ·rw [e2 k hkr] at h1 ⊢
   obtain ⟨t, t1, t2⟩ := h.snd k hk h1
   have htr : t ≠ r \/ at' n (r : Int) = d := by
    rcases h0 with h0 | h0
    ·left; intro e; rw [e] at t2; omega
    ·exact .inr h0
   by_cases htr' : t = r
   ·rcases htr with q | q
    ·exact absurd htr' q
    ·subst htr'
     exact ⟨t, t1, by rw [e1, <- t2, q]⟩
   ·exact ⟨t, t1, by rw [e2 t htr']; exact t2⟩
theorem farS_ok {to : List (List Bool)} {goal : Int} {d r : Nat} (hd : 1 <= d) (hr : r < to.length) : ∀ (m s : Nat) (n : List Int), s + m = to.length -> FarOK to goal d n -> at' n (r : Int) = 0 \/ at' n (r : Int) = d -> (∀ t : Nat, t < s -> farHit to goal d r t n = true -> 0 < at' n (r : Int)) ->
  FarOK to goal d (farS to goal d r m s n) /\ (at' (farS to goal d r m s n) (r : Int) = 0 \/ at' (farS to goal d r m s n) (r : Int) = d) /\ (∀ k : Nat, k ≠ r -> at' (farS to goal d r m s n) (k : Int) = at' n (k : Int)) /\ ∀ t : Nat, t < to.length -> farHit to goal d r t (farS to goal d r m s n) = true -> 0 < at' (farS to goal d r m s n) (r : Int)
 | 0, s, n, hm, h, h0, ht => ⟨h, h0, fun _ _ => rfl, fun t h1 h2 => ht t (by omega) h2⟩
 | m + 1, s, n, hm, h, h0, ht => by
  simp only [farS]
  by_cases hh : farHit to goal d r s n = true
  ·rw [if_pos hh]
   obtain ⟨g1, g2, g3⟩ := far_set h hd hr (show s < to.length by omega) h0 hh
   obtain ⟨q1, q2, q3, q4⟩ := farS_ok hd hr m (s + 1) _ (by omega) g1 (.inr g2) (fun t h1 h2 => by rw [g2]; omega)
   exact ⟨q1, q2, fun k hk => (q3 k hk).trans (g3 k hk), q4⟩
  ·rw [if_neg hh]
   exact farS_ok hd hr m (s + 1) n (by omega) h h0 (fun t h1 h2 => by
    by_cases hts : t = s
    ·subst hts; exact absurd h2 hh
    ·exact ht t (by omega) h2)
/-- A round. -/
theorem farRow_ok {to : List (List Bool)} {goal : Int} {d : Nat} (hd : 1 <= d) : ∀ (m r : Nat) (n : List Int), r + m = to.length -> FarOK to goal d n -> (∀ k : Nat, k < to.length -> k < r -> FarC to goal d n k) -> (∀ k : Nat, k < to.length -> r <= k -> FarC to goal (d - 1) n k /\ at' n (k : Int) < d) ->
  FarOK to goal d (farRow to goal d m r n) /\ ∀ k : Nat, k < to.length -> FarC to goal d (farRow to goal d m r n) k
 | 0, r, n, hm, h, h1, h2 => ⟨h, fun k hk => h1 k hk (by omega)⟩
 | m + 1, r, n, hm, h, h1, h2 => by
  simp only [farRow]
  have hr : r < to.length := by omega
  obtain ⟨c1, c2⟩ := h2 r hr (Nat.le_refl _)
  have hrn := h.rng r hr
  by_cases hp : at' n (r : Int) > 0
  ·rw [if_pos hp]
   refine farRow_ok hd m (r + 1) n (by omega) h (fun k hk hkr => ?_) (fun k hk hkr => h2 k hk (by omega))
   by_cases hkr' : k = r
   ·subst hkr'; exact fun s _ _ _ => hp
   ·exact h1 k hk (by omega)
  ·rw [if_neg hp]
   obtain ⟨q1, q2, q3, q4⟩ := farS_ok (goal := goal) hd hr to.length 0 n (by omega) h (.inl (by omega)) (fun t h1 _ => absurd h1 (by omega))
   generalize farS to goal d r to.length 0 n = n' at q1 q2 q3 q4
   have hsame : ∀ s : Nat, s < to.length -> at' n' (s : Int) < d -> at' n' (s : Int) = at' n (s : Int) := fun s hs hlt => by
    by_cases hsr : s = r
    ·subst hsr
     rcases q2 with q2 | q2 <;> omega
    ·exact q3 s hsr
   refine farRow_ok hd m (r + 1) n' (by omega) q1 (fun k hk hkr => ?_) (fun k hk hkr => ?_)
   ·by_cases hkr' : k = r
    ·subst hkr'
     intro s hs he hc
     by_cases hhit : farHit to goal d k s n' = true
     ·exact q4 s hs hhit
     exfalso
     rcases hc with ⟨_, hc⟩ | ⟨hc1, hc2⟩
     ·by_cases hd1 : d = 1
      ·refine hhit ?_
       unfold farHit
       rw [he]
       simp [hd1, hc]
      ·have := c1 s hs he (.inl ⟨by omega, hc⟩)
       omega
     ·have hsn := hsame s hs hc2
      rw [hsn] at hc1 hc2
      by_cases hlt : at' n (s : Int) < (d - 1 : Nat)
      ·have := c1 s hs he (.inr ⟨hc1, hlt⟩)
       omega
      ·refine hhit ?_
       unfold farHit
       rw [he, hsn]
       have : 1 < d /\ at' n (s : Int) = (d : Int) - 1 := by omega
       simp [this]
    ·intro s hs he hc
     rw [q3 k hkr']
     refine h1 k hk (by omega) s hs he ?_
     rcases hc with hc | ⟨hc1, hc2⟩
     ·exact .inl hc
     ·rw [hsame s hs hc2] at hc1 hc2; exact .inr ⟨hc1, hc2⟩
   ·have hkr' : k ≠ r := by omega
    obtain ⟨g1, g2⟩ := h2 k hk (by omega)
    rw [q3 k hkr']
    refine ⟨fun s hs he hc => ?_, g2⟩
    rw [q3 k hkr']
    refine g1 s hs he ?_
    rcases hc with hc | ⟨hc1, hc2⟩
    ·exact .inl hc
    ·rw [hsame s hs (by omega)] at hc1 hc2; exact .inr ⟨hc1, hc2⟩
theorem farD_ok {to : List (List Bool)} {goal : Int} : ∀ (m d : Nat) (n : List Int), 1 <= d -> FarOK to goal (d - 1) n -> (∀ k : Nat, k < to.length -> FarC to goal (d - 1) n k) -> FarOK to goal (d + m - 1) (farD to goal m d n) /\ ∀ k : Nat, k < to.length -> FarC to goal (d + m - 1) (farD to goal m d n) k
 | 0, d, n, hd, h, hc => ⟨h, hc⟩
 | m + 1, d, n, hd, h, hc => by
  simp only [farD]
  obtain ⟨q1, q2⟩ := farRow_ok (goal := goal) (d := d) hd to.length 0 n (by omega) ⟨h.len, fun k hk => by have := h.rng k hk; omega, h.snd⟩ (fun k _ h1 => absurd h1 (by omega)) (fun k hk _ => ⟨hc k hk, by have := h.rng k hk; omega⟩)
  have := farD_ok (goal := goal) m (d + 1) _ (by omega) (by rw [Nat.add_sub_cancel]; exact q1) (by rw [Nat.add_sub_cancel]; exact q2)
  rw [show d + (m + 1) - 1 = d + 1 + m - 1 by omega]
  exact this
theorem far_ok (to : List (List Bool)) (goal : Int) : FarOK to goal to.length (farM to goal) /\ ∀ k : Nat, k < to.length -> FarC to goal to.length (farM to goal) k := by
 have e : ∀ k : Nat, at' (List.replicate to.length (0 : Int)) (k : Int) = 0 := fun k => by
  simp only [at', List.getD_eq_getElem?_getD, Int.toNat_natCast, List.getElem?_replicate]
  split <;> rfl
 have := farD_ok (to := to) (goal := goal) to.length 1 (List.replicate to.length 0) (by omega) ⟨by simp, fun k hk => by rw [e]; omega, fun k hk h => by rw [e] at h; omega⟩ (fun k hk s hs he hc => by
  rw [e] at hc
  omega)
 rw [show 1 + to.length - 1 = to.length by omega] at this
 exact this
def cntL (l : List Int) (d : Int) : Nat := (l.map fun x => if 0 < x /\ x <= d then 1 else 0).sum
theorem cnt_up : ∀ (l : List Int) (d : Int), 0 <= d -> (d + 1) ∈ l -> cntL l d + 1 <= cntL l (d + 1)
 | [], d, _, h => by cases h
 | x :: l, d, hd, h => by
  simp only [cntL, List.map_cons, List.sum_cons]
  have hmono : ∀ l : List Int, cntL l d <= cntL l (d + 1) := fun l => by
   induction l with
   | nil => exact Nat.le_refl _
   | cons a t ih =>
    simp only [cntL, List.map_cons, List.sum_cons] at ih ⊢
    split
    ·rw [if_pos (by omega)]; omega
    ·split <;> omega
  rcases List.mem_cons.1 h with e | h
  ·have := hmono l
   simp only [cntL] at this
   rw [if_neg (by omega), if_pos (by omega)]
   omega
  ·have := cnt_up l d hd h
   simp only [cntL] at this
   split
   ·rw [if_pos (by omega)]; omega
   ·split <;> omega
theorem cnt_le : ∀ (l : List Int) (d : Int), cntL l d <= l.length /\ (cntL l d = l.length -> ∀ x ∈ l, 0 < x)
 | [], d => ⟨Nat.le_refl _, fun _ x h => by cases h⟩
 | a :: l, d => by
  obtain ⟨h1, h2⟩ := cnt_le l d
  simp only [cntL, List.map_cons, List.sum_cons, List.length_cons] at h1 h2 ⊢
  split
  ·refine ⟨by omega, fun h x hx => ?_⟩
   rcases List.mem_cons.1 hx with rfl | hx
   ·omega
   ·exact h2 (by omega) x hx
  ·exact ⟨by omega, fun h => by omega⟩
/-- A rule without an entry of its own: no way leads from it round to it. -/
theorem far_none {to : List (List Bool)} {goal : Nat} (hg : goal < to.length) (h0 : at' (farM to goal) (goal : Int) = 0) : ∀ {a b : Int}, Way (fun a b => 0 <= a /\ a < to.length /\ 0 <= b /\ b < to.length /\ at' (at' to a) b = true) a b -> b = goal -> 0 < at' (farM to goal) a := by
 obtain ⟨h, hc⟩ := far_ok to goal
 generalize farM to goal = n at h hc h0
 have hlen := h.len
 have hlev : ∀ (d : Nat) (k : Nat), k < to.length -> at' n (k : Int) = d -> d <= cntL n d := by
  intro d
  induction d with
  | zero => intro k hk _; exact Nat.zero_le _
  | succ d ih =>
   intro k hk e
   have hm : ((d : Int) + 1) ∈ n := by
    have := at'_memI (l := n) (x := (k : Int)) (by omega) (by omega)
    rw [e] at this
    exact this
   have up := cnt_up n d (by omega) hm
   have hd : d <= cntL n d := by
    by_cases hd0 : d = 0
    ·omega
    ·obtain ⟨s, s1, s2⟩ := h.snd k hk (by omega)
     exact ih s s1 (by omega)
   have : cntL n ((d : Int) + 1) = cntL n ((d + 1 : Nat) : Int) := rfl
   omega
 have hmax : ∀ k : Nat, k < to.length -> at' n (k : Int) < to.length := by
  intro k hk
  have hr := h.rng k hk
  by_cases e : at' n (k : Int) = to.length
  ·exfalso
   have h1 := hlev to.length k hk e
   obtain ⟨c1, c2⟩ := cnt_le n (to.length : Int)
   have := c2 (by omega) _ (at'_memI (l := n) (x := (goal : Int)) (by omega) (by omega))
   omega
  ·omega
 have key : ∀ a s : Int, 0 <= a -> a < to.length -> 0 <= s -> s < to.length -> at' (at' to a) s = true -> (s = goal \/ 0 < at' n s) -> 0 < at' n a := by
  intro a s a0 a1 s0 s1 he hs
  obtain ⟨k, rfl⟩ : ∃ k : Nat, a = (k : Int) := ⟨a.toNat, by omega⟩
  obtain ⟨t, rfl⟩ : ∃ t : Nat, s = (t : Int) := ⟨s.toNat, by omega⟩
  refine hc k (by omega) t (by omega) he ?_
  rcases hs with hs | hs
  ·exact .inl ⟨by omega, hs⟩
  ·exact .inr ⟨hs, hmax t (by omega)⟩
 intro a b hw
 have : ∀ {x y : Int}, Way (fun a b => 0 <= a /\ a < to.length /\ 0 <= b /\ b < to.length /\ at' (at' to a) b = true) x y -> ∀ z : Int, (y = goal \/ 0 < at' n y) -> 0 < at' n x := by
  intro x y hxy
  induction hxy with
  | one h => intro z hz; exact key _ _ h.1 h.2.1 h.2.2.1 h.2.2.2.1 h.2.2.2.2 hz
  | more h g ih => intro z hz; exact ih z (.inr (key _ _ g.1 g.2.1 g.2.2.1 g.2.2.2.1 g.2.2.2.2 hz))
 exact fun hb => this hw 0 (.inl hb)
end Go.AL
namespace Go.AL
open Go.Proofs
/-- Is a bit of a word set. -/
def bitW (x : Int) (k : Nat) : Bool := decide (bits .and .u64 (x / 2 ^ k) 1 = 1)
theorem bv_nat (n : Nat) : bv (n : Int) = BitVec.ofNat 64 n := by unfold bv; rw [BitVec.ofInt_natCast]
theorem bits_and1 (n : Nat) : bits .and .u64 (n : Int) 1 = ((n % 2 : Nat) : Int) := by
 have h2 : (BitVec.ofInt 64 (1 : Int)).toNat = 1 := by decide
 have h3 : (BitVec.ofInt 64 (n : Int) &&& BitVec.ofInt 64 (1 : Int)).toNat = n % 2 := by
  rw [BitVec.toNat_and, h2, BitVec.ofInt_natCast, BitVec.toNat_ofNat, Nat.and_one_is_mod]
  omega
 show IntKind.u64.wrap ((BitVec.ofInt 64 (n : Int) &&& BitVec.ofInt 64 (1 : Int)).toNat : Int) = _
 rw [h3]
 exact wrap_u64t (by omega) (by omega)
theorem bit_bv {x : Int} (h : okW x) (k : Nat) (hk : k < 64) : bitW x k = (bv x).getLsbD k := by
 obtain ⟨n, rfl⟩ : ∃ n : Nat, x = (n : Int) := ⟨x.toNat, by have := h.1; omega⟩
 have hn : n < 18446744073709551616 := by have := h.2; omega
 have e1 : ((n : Int) / 2 ^ k) = ((n / 2 ^ k : Nat) : Int) := by
  have : ((2 : Int) ^ k) = ((2 ^ k : Nat) : Int) := by simp
  rw [this]; rfl
 unfold bitW
 rw [e1, bits_and1, bv_nat, BitVec.getLsbD_ofNat]
 simp only [hk, decide_true, Bool.true_and]
 rw [Nat.testBit_eq_decide_div_mod_eq]
 refine decide_eq_decide.2 ⟨fun q => by omega, fun q => by omega⟩
/-- A class opened. -/
def openB (c : Cls) (b : Nat) : Bool := bitW (wordOf c (b / 64)) (b % 64)
def openM (c : Cls) : List Bool := (List.range 256).map (openB c)
theorem open_at (c : Cls) {b : Nat} (h : b < 256) : at' (openM c) (b : Int) = openB c b := by simp [openM, at', h]
def setWord (c : Cls) (j : Nat) (v : Int) : Cls := if j = 0 then { c with c0 := v } else if j = 1 then { c with c1 := v } else if j = 2 then { c with c2 := v } else { c with c3 := v }
/-- A set closed. -/
def closeF (s : List Bool) : Nat -> Cls
 | 0 => ⟨0, 0, 0, 0⟩
 | b + 1 => if at' s (b : Int) = true then setWord (closeF s b) (b / 64) (bits .or .u64 (wordOf (closeF s b) (b / 64)) ((2 ^ (b % 64) : Nat) : Int)) else closeF s b
def closeM (s : List Bool) : Cls := closeF s 256
def twoS (a b : List Bool) : List Bool := (List.range 256).map fun (i : Nat) => at' a (i : Int) || at' b (i : Int)
def twoM (a b : Cls) : Cls := closeM (twoS (openM a) (openM b))
theorem word_set (c : Cls) (j i : Nat) (v : Int) (hj : j < 4) (hi : i < 4) : wordOf (setWord c j v) i = if i = j then v else wordOf c i := by
 unfold setWord wordOf
 have h1 : j = 0 \/ j = 1 \/ j = 2 \/ j = 3 := by omega
 have h2 : i = 0 \/ i = 1 \/ i = 2 \/ i = 3 := by omega
 rcases h1 with rfl | rfl | rfl | rfl <;> rcases h2 with rfl | rfl | rfl | rfl <;> rfl
theorem two_pow_bit (k i : Nat) (hk : k < 64) (hi : i < 64) : (bv ((2 ^ k : Nat) : Int)).getLsbD i = decide (i = k) := by
 rw [bv_nat, BitVec.getLsbD_ofNat, Nat.testBit_two_pow]
 simp only [hi, decide_true, Bool.true_and]
 exact decide_eq_decide.2 ⟨fun h => h.symm, fun h => h.symm⟩
theorem close_bit (s : List Bool) : ∀ (n : Nat), n <= 256 -> ∀ j i : Nat, j < 4 -> i < 64 -> okW (wordOf (closeF s n) j) /\ (bv (wordOf (closeF s n) j)).getLsbD i = (decide (64 * j + i < n) && at' s ((64 * j + i : Nat) : Int))
 | 0, _, j, i, hj, hi => by
  have h1 : j = 0 \/ j = 1 \/ j = 2 \/ j = 3 := by omega
  have e : wordOf (closeF s 0) j = 0 := by rcases h1 with rfl | rfl | rfl | rfl <;> rfl
  rw [e]
  refine ⟨okW0, ?_⟩
  rw [show bv 0 = 0 from rfl]
  simp
 | n + 1, hn, j, i, hj, hi => by
  obtain ⟨h1, h2⟩ := close_bit s n (by omega) j i hj hi
  have hmod : n % 64 < 64 := Nat.mod_lt _ (by omega)
  have hdiv : n / 64 < 4 := by omega
  simp only [closeF]
  by_cases hs : at' s (n : Int) = true
  ·rw [if_pos hs, word_set _ _ _ _ hdiv hj]
   by_cases hjn : j = n / 64
   ·rw [if_pos hjn]
    obtain ⟨q1, q2⟩ := bits_or (wordOf (closeF s n) (n / 64)) ((2 ^ (n % 64) : Nat) : Int)
    refine ⟨q1, ?_⟩
    rw [q2, BitVec.getLsbD_or, <- hjn, h2, two_pow_bit _ _ hmod hi]
    by_cases hin : i = n % 64
    ·have : 64 * j + i = n := by omega
     rw [this, hs, hin]
     simp
    ·have : (64 * j + i < n) = (64 * j + i < n + 1) := by
      apply propext
      constructor <;> intro <;> omega
     simp [hin, this]
   ·rw [if_neg hjn]
    refine ⟨h1, ?_⟩
    rw [h2]
    have : (64 * j + i < n) = (64 * j + i < n + 1) := by
     apply propext
     constructor <;> intro <;> omega
    simp [this]
  ·rw [if_neg hs]
   refine ⟨h1, ?_⟩
   rw [h2]
   by_cases hin : 64 * j + i = n
   ·have hf : at' s (n : Int) = false := by simpa using hs
    rw [hin, hf]; simp
   ·have : (64 * j + i < n) = (64 * j + i < n + 1) := by
     apply propext
     constructor <;> intro <;> omega
    simp [this]
theorem okW_inj {x y : Int} (hx : okW x) (hy : okW y) (h : ∀ i, i < 64 -> (bv x).getLsbD i = (bv y).getLsbD i) : x = y := by
 have : bv x = bv y := BitVec.eq_of_getLsbD_eq h
 rw [<- bv_toNat hx, <- bv_toNat hy, this]
theorem okC_word {c : Cls} (h : okC' c) (j : Nat) : okW (wordOf c j) := by
 unfold wordOf
 obtain ⟨h0, h1, h2, h3⟩ := h
 repeat' split
 all_goals assumption
theorem union_word (a b : Cls) (j : Nat) : wordOf (unionC a b) j = bits .or .u64 (wordOf a j) (wordOf b j) := by
 unfold wordOf
 by_cases h0 : j = 0
 ·simp only [if_pos h0]; rfl
 by_cases h1 : j = 1
 ·simp only [if_neg h0, if_pos h1]; rfl
 by_cases h2 : j = 2
 ·simp only [if_neg h0, if_neg h1, if_pos h2]; rfl
 ·simp only [if_neg h0, if_neg h1, if_neg h2]; rfl
theorem cls_words {a b : Cls} (h : ∀ j : Nat, j < 4 -> wordOf a j = wordOf b j) : a = b := by
 obtain ⟨a0, a1, a2, a3⟩ := a
 obtain ⟨b0, b1, b2, b3⟩ := b
 have h0 : a0 = b0 := h 0 (by omega)
 have h1 : a1 = b1 := h 1 (by omega)
 have h2 : a2 = b2 := h 2 (by omega)
 have h3 : a3 = b3 := h 3 (by omega)
 rw [h0, h1, h2, h3]
/-- The document's union is the program's. -/
theorem two_union {a b : Cls} (ha : okC' a) (hb : okC' b) : twoM a b = unionC a b := by
 refine cls_words fun j hj => ?_
 refine okW_inj (close_bit _ 256 (Nat.le_refl _) j 0 hj (by omega)).1 ?_ fun i hi => ?_
 ·rw [union_word]; exact (bits_or _ _).1
 ·have hlt : 64 * j + i < 256 := by omega
  have e1 : (64 * j + i) / 64 = j := by omega
  have e2 : (64 * j + i) % 64 = i := by omega
  have hS : at' (twoS (openM a) (openM b)) ((64 * j + i : Nat) : Int) = (openB a (64 * j + i) || openB b (64 * j + i)) := by
   have : at' (twoS (openM a) (openM b)) ((64 * j + i : Nat) : Int) = (at' (openM a) ((64 * j + i : Nat) : Int) || at' (openM b) ((64 * j + i : Nat) : Int)) := by
    unfold twoS
    generalize 64 * j + i = q at hlt
    simp [at', hlt]
   rw [this, open_at a hlt, open_at b hlt]
  have := (close_bit (twoS (openM a) (openM b)) 256 (Nat.le_refl _) j i hj hi).2
  show (bv (wordOf (closeF (twoS (openM a) (openM b)) 256) j)).getLsbD i = _
  rw [this, hS, union_word, (bits_or _ _).2, BitVec.getLsbD_or, <- bit_bv (okC_word ha j) i hi, <- bit_bv (okC_word hb j) i hi]
  unfold openB
  rw [e1, e2]
  simp [hlt]
end Go.AL
