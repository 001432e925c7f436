/-
  Part 5 of the proof: what the functions that the law reaches come to.
-/
import Derived.Test.YtkiepfhcnicfgaaGreatPart4
set_option linter.all false
set_option maxRecDepth 100000
set_option maxHeartbeats 8000000
namespace Go.AL
open Go.Proofs
attribute [local irreducible] AWp AList RStep seqQ blockQ retQ DSteps DT DU awR rQ SStep
structure May where
 f0 : Bool
 f1 : Bool
 f2 : Bool
 f3 : Bool
 deriving Inhabited, DecidableEq
def encMay (m : May) : List PV := [lB m.f0, lB m.f1, lB m.f2, lB m.f3]
abbrev mayV (m : May) : AV := .agg [.p (lB m.f0), .p (lB m.f1), .p (lB m.f2), .p (lB m.f3)]
abbrev noMay : May := ⟨false, false, false, false⟩
def goesM (m : May) : Bool := m.f1 || m.f2
theorem goes_c (m : May) : ACalls Tryz.prog 80 [mayV m] [] (fun r _ => r = .ret (bl (goesM m))) := by
 obtain ⟨a, b, c, d⟩ := m
 cases b
 ·skip
  refine acalls_by Tryz.func80 Tryz.ntmps80 ?_
  simp only [argFr]
  repeat' (first| (show eRet; refine ret1 Tryz.results80 ?_)| (refine wS ?_)| fail)
  rfl
 ·skip
  refine acalls_by Tryz.func80 Tryz.ntmps80 ?_
  simp only [argFr]
  repeat' (first| (show eRet; refine ret1 Tryz.results80 ?_)| (refine wS ?_)| fail)
  rfl
def atM (l : List May) (i : Int) : May := if i < 0 then noMay else at' l i
theorem at_c (l : List May) (i : Int) (h : i < l.length) : ACalls Tryz.prog 62 [.c (.p (.sl 4 (l.map encMay))), i64 i] [] (fun r _ => r = .ret (mayV (atM l i))) := by
 by_cases h0 : i < 0
 ·skip
  refine acalls_by Tryz.func62 Tryz.ntmps62 ?_
  simp only [argFr]
  repeat' (first| (refine aw_T ?_ (hb := decide_eq_true h0))| (show eRet; refine retC1 Tryz.results62 ?_)| (refine wS ?_)| fail)
  unfold atM; rw [if_pos h0]; rfl
 ·skip
  refine acalls_by Tryz.func62 Tryz.ntmps62 ?_
  simp only [argFr]
  repeat' (first| (refine aw_F ?_ (hb := decide_eq_false h0))| (show eRet; refine retC1 Tryz.results62 ?_)| (refine wS ?_)| fail)
  unfold atM; rw [if_neg h0]; rfl
/-- What an expression may come to, by what its parts may. -/
def comeM (n : Node) (l r : May) (rules : List May) : May :=
 if n.op = 0 then ⟨false, true, false, false⟩
 else if n.op = 1 then ⟨true, false, !decide (n.cl = ⟨0, 0, 0, 0⟩), false⟩
 else if n.op = 2 then at' rules n.rule
 else if n.op = 3 then ⟨false, false, false, true⟩
 else if n.op = 4 then ⟨l.f0 || (goesM l && r.f0), l.f1 && r.f1, (l.f2 && goesM r) || (l.f1 && r.f2), l.f3 || (goesM l && r.f3)⟩
 else if n.op = 5 then ⟨l.f0 && r.f0, l.f1 || (l.f0 && r.f1), l.f2 || (l.f0 && r.f2), l.f3 || (l.f0 && r.f3)⟩
 else if n.op = 6 then ⟨false, l.f0, l.f2 && l.f0, l.f3⟩
 else if n.op = 7 then ⟨goesM l, l.f0 || l.f3, false, false⟩
 else l
def clsW (c : Cls) : List Value := [.int .u64 c.c0, .int .u64 c.c1, .int .u64 c.c2, .int .u64 c.c3]
theorem clsW_eq (n m : Cls) : eqCells (clsW n) (clsW m) = decide (n = m) := by
 obtain ⟨c0, c1, c2, c3⟩ := n
 obtain ⟨c0', c1', c2', c3'⟩ := m
 rw [Bool.eq_iff_iff]
 simp [clsW, eqCells, vbeq]
theorem come4_tt (n : Node) (c d gr : Bool) (r : May) (rules : List May) (p4 : n.op = 4) (hr : ACalls Tryz.prog 80 [mayV r] [] (fun q _ => q = .ret (bl gr))) : ACalls Tryz.prog 61 [.agg ((encNode n).map .p), mayV ⟨true, true, c, d⟩, mayV r, .c (.p (.sl 4 (rules.map encMay)))] [] (fun q _ => q = .ret (mayV ⟨true || (goesM ⟨true, true, c, d⟩ && r.f0), true && r.f1, (c && gr) || (true && r.f2), d || (goesM ⟨true, true, c, d⟩ && r.f3)⟩)) := by
 have hg := goes_c ⟨true, true, c, d⟩
 cases c <;> cases d <;> cases gr
 all_goals
  ·skip
   refine acalls_by Tryz.func61 Tryz.ntmps61 ?_
   simp only [argFr]
   repeat' (first| (refine aw_T ?_ (hb := eT))| (refine aw_F ?_ (hb := eF))| (show dGu; (refine ds_yes (by (show kCall; first | exact b_call (hg) | exact b_call (hr))) ?_))| (show eRet; refine retC1 Tryz.results61 ?_)| (refine wS ?_)| fail)
   rfl
theorem come4_tf (n : Node) (c d gr : Bool) (r : May) (rules : List May) (p4 : n.op = 4) (hr : ACalls Tryz.prog 80 [mayV r] [] (fun q _ => q = .ret (bl gr))) : ACalls Tryz.prog 61 [.agg ((encNode n).map .p), mayV ⟨true, false, c, d⟩, mayV r, .c (.p (.sl 4 (rules.map encMay)))] [] (fun q _ => q = .ret (mayV ⟨true || (goesM ⟨true, false, c, d⟩ && r.f0), false && r.f1, (c && gr) || (false && r.f2), d || (goesM ⟨true, false, c, d⟩ && r.f3)⟩)) := by
 have hg := goes_c ⟨true, false, c, d⟩
 cases c <;> cases d <;> cases gr
 all_goals
  ·skip
   refine acalls_by Tryz.func61 Tryz.ntmps61 ?_
   simp only [argFr]
   repeat' (first| (refine aw_T ?_ (hb := eT))| (refine aw_F ?_ (hb := eF))| (show dGu; (refine ds_yes (by (show kCall; first | exact b_call (hg) | exact b_call (hr))) ?_))| (show eRet; refine retC1 Tryz.results61 ?_)| (refine wS ?_)| fail)
   rfl
theorem come4_ft (n : Node) (c d gr : Bool) (r : May) (rules : List May) (p4 : n.op = 4) (hr : ACalls Tryz.prog 80 [mayV r] [] (fun q _ => q = .ret (bl gr))) : ACalls Tryz.prog 61 [.agg ((encNode n).map .p), mayV ⟨false, true, c, d⟩, mayV r, .c (.p (.sl 4 (rules.map encMay)))] [] (fun q _ => q = .ret (mayV ⟨false || (goesM ⟨false, true, c, d⟩ && r.f0), true && r.f1, (c && gr) || (true && r.f2), d || (goesM ⟨false, true, c, d⟩ && r.f3)⟩)) := by
 have hg := goes_c ⟨false, true, c, d⟩
 cases c <;> cases d <;> cases gr
 all_goals
  ·skip
   refine acalls_by Tryz.func61 Tryz.ntmps61 ?_
   simp only [argFr]
   repeat' (first| (refine aw_T ?_ (hb := eT))| (refine aw_F ?_ (hb := eF))| (show dGu; (refine ds_yes (by (show kCall; first | exact b_call (hg) | exact b_call (hr))) ?_))| (show eRet; refine retC1 Tryz.results61 ?_)| (refine wS ?_)| fail)
   rfl
theorem come4_ff (n : Node) (c d gr : Bool) (r : May) (rules : List May) (p4 : n.op = 4) (hr : ACalls Tryz.prog 80 [mayV r] [] (fun q _ => q = .ret (bl gr))) : ACalls Tryz.prog 61 [.agg ((encNode n).map .p), mayV ⟨false, false, c, d⟩, mayV r, .c (.p (.sl 4 (rules.map encMay)))] [] (fun q _ => q = .ret (mayV ⟨false || (goesM ⟨false, false, c, d⟩ && r.f0), false && r.f1, (c && gr) || (false && r.f2), d || (goesM ⟨false, false, c, d⟩ && r.f3)⟩)) := by
 have hg := goes_c ⟨false, false, c, d⟩
 cases c <;> cases d <;> cases gr
 all_goals
  ·skip
   refine acalls_by Tryz.func61 Tryz.ntmps61 ?_
   simp only [argFr]
   repeat' (first| (refine aw_T ?_ (hb := eT))| (refine aw_F ?_ (hb := eF))| (show dGu; (refine ds_yes (by (show kCall; first | exact b_call (hg) | exact b_call (hr))) ?_))| (show eRet; refine retC1 Tryz.results61 ?_)| (refine wS ?_)| fail)
   rfl
theorem come5_t (n : Node) (b c d : Bool) (r : May) (rules : List May) (p5 : n.op = 5) : ACalls Tryz.prog 61 [.agg ((encNode n).map .p), mayV ⟨true, b, c, d⟩, mayV r, .c (.p (.sl 4 (rules.map encMay)))] [] (fun q _ => q = .ret (mayV ⟨true && r.f0, b || (true && r.f1), c || (true && r.f2), d || (true && r.f3)⟩)) := by
 cases b <;> cases c <;> cases d
 all_goals
  ·skip
   refine acalls_by Tryz.func61 Tryz.ntmps61 ?_
   simp only [argFr]
   repeat' (first| (refine aw_T ?_ (hb := eT))| (refine aw_F ?_ (hb := eF))| (show eRet; refine retC1 Tryz.results61 ?_)| (refine wS ?_)| fail)
   rfl
theorem come5_f (n : Node) (b c d : Bool) (r : May) (rules : List May) (p5 : n.op = 5) : ACalls Tryz.prog 61 [.agg ((encNode n).map .p), mayV ⟨false, b, c, d⟩, mayV r, .c (.p (.sl 4 (rules.map encMay)))] [] (fun q _ => q = .ret (mayV ⟨false && r.f0, b || (false && r.f1), c || (false && r.f2), d || (false && r.f3)⟩)) := by
 cases b <;> cases c <;> cases d
 all_goals
  ·skip
   refine acalls_by Tryz.func61 Tryz.ntmps61 ?_
   simp only [argFr]
   repeat' (first| (refine aw_T ?_ (hb := eT))| (refine aw_F ?_ (hb := eF))| (show eRet; refine retC1 Tryz.results61 ?_)| (refine wS ?_)| fail)
   rfl
theorem come_c (n : Node) (l r : May) (rules : List May) (h2 : n.op = 2 -> 0 <= n.rule /\ n.rule < rules.length) : ACalls Tryz.prog 61 [.agg ((encNode n).map .p), mayV l, mayV r, .c (.p (.sl 4 (rules.map encMay)))] [] (fun q _ => q = .ret (mayV (comeM n l r rules))) := by
 by_cases p0 : n.op = 0
 ·skip
  refine acalls_by Tryz.func61 Tryz.ntmps61 ?_
  simp only [argFr]
  repeat' (first| (refine aw_T ?_ (hb := eT))| (show eRet; refine retC1 Tryz.results61 ?_)| (refine wS ?_)| fail)
  unfold comeM; rw [if_pos p0]; rfl
 by_cases p1 : n.op = 1
 ·skip
  refine acalls_by Tryz.func61 Tryz.ntmps61 ?_
  simp only [argFr]
  repeat' (first| (refine aw_T ?_ (hb := eT))| (refine aw_F ?_ (hb := eF))| (show lOp; refine op0 (by (show kBinopNeq; exact b_neqAgg (hr := clsW_eq n.cl ⟨0, 0, 0, 0⟩))) ?_)| (show eRet; refine retC1 Tryz.results61 ?_)| (refine wS ?_)| fail)
  unfold comeM; rw [if_neg p0, if_pos p1]; rfl
 by_cases p2 : n.op = 2
 ·obtain ⟨q1, q2⟩ := h2 p2
  refine acalls_by Tryz.func61 Tryz.ntmps61 ?_
  simp only [argFr]
  repeat' (first| (refine aw_T ?_ (hb := eT))| (refine aw_F ?_ (hb := eF))| (show eRet; refine retC1 Tryz.results61 ?_)| (refine wS ?_)| fail)
  unfold comeM; rw [if_neg p0, if_neg p1, if_pos p2]; rfl
 by_cases p3 : n.op = 3
 ·skip
  refine acalls_by Tryz.func61 Tryz.ntmps61 ?_
  simp only [argFr]
  repeat' (first| (refine aw_T ?_ (hb := eT))| (refine aw_F ?_ (hb := eF))| (show eRet; refine retC1 Tryz.results61 ?_)| (refine wS ?_)| fail)
  unfold comeM; rw [if_neg p0, if_neg p1, if_neg p2, if_pos p3]; rfl
 have e4 : ¬n.op = 4 -> comeM n l r rules = if n.op = 5 then ⟨l.f0 && r.f0, l.f1 || (l.f0 && r.f1), l.f2 || (l.f0 && r.f2), l.f3 || (l.f0 && r.f3)⟩ else if n.op = 6 then ⟨false, l.f0, l.f2 && l.f0, l.f3⟩ else if n.op = 7 then ⟨goesM l, l.f0 || l.f3, false, false⟩ else l := fun h => by unfold comeM; rw [if_neg p0, if_neg p1, if_neg p2, if_neg p3, if_neg h]
 by_cases p4 : n.op = 4
 ·have e5 : comeM n l r rules = ⟨l.f0 || (goesM l && r.f0), l.f1 && r.f1, (l.f2 && goesM r) || (l.f1 && r.f2), l.f3 || (goesM l && r.f3)⟩ := by unfold comeM; rw [if_neg p0, if_neg p1, if_neg p2, if_neg p3, if_pos p4]
  rw [e5]
  obtain ⟨a, b, c, d⟩ := l
  have hg := goes_c ⟨a, b, c, d⟩
  have hr := goes_c r
  generalize hgr : goesM r = gr at hr
  cases a <;> cases b
  ·exact come4_ff n c d gr r rules p4 hr
  ·exact come4_ft n c d gr r rules p4 hr
  ·exact come4_tf n c d gr r rules p4 hr
  ·exact come4_tt n c d gr r rules p4 hr
 have e4 := e4 p4
 by_cases p5 : n.op = 5
 ·rw [e4, if_pos p5]
  obtain ⟨a, b, c, d⟩ := l
  cases a
  ·exact come5_f n b c d r rules p5
  ·exact come5_t n b c d r rules p5
 rw [if_neg p5] at e4
 by_cases p6 : n.op = 6
 ·rw [e4, if_pos p6]
  obtain ⟨a, b, c, d⟩ := l
  cases a <;> cases c
  all_goals
   ·skip
    refine acalls_by Tryz.func61 Tryz.ntmps61 ?_
    simp only [argFr]
    repeat' (first| (refine aw_T ?_ (hb := eT))| (refine aw_F ?_ (hb := eF))| (show eRet; refine retC1 Tryz.results61 ?_)| (refine wS ?_)| fail)
    rfl
 rw [if_neg p6] at e4
 by_cases p7 : n.op = 7
 ·rw [e4, if_pos p7]
  obtain ⟨a, b, c, d⟩ := l
  have hg := goes_c ⟨a, b, c, d⟩
  cases a
  all_goals
   ·skip
    refine acalls_by Tryz.func61 Tryz.ntmps61 ?_
    simp only [argFr]
    repeat' (first| (refine aw_T ?_ (hb := eT))| (refine aw_F ?_ (hb := eF))| (show dOp; refine ds_op (by (show kCall; exact b_call (hg))) ?_)| (show eRet; refine retC1 Tryz.results61 ?_)| (refine wS ?_)| fail)
    rfl
 rw [if_neg p7] at e4
 rw [e4]
 refine acalls_by Tryz.func61 Tryz.ntmps61 ?_
 simp only [argFr]
 repeat' (first| (refine aw_F ?_ (hb := eF))| (show eRet; refine retC1 Tryz.results61 ?_)| (refine wS ?_)| fail)
 rfl
end Go.AL
