/-
  Part 13 of the proof: what the functions that the law reaches come to.
-/
import Derived.Test.YtkiepfhcnicfgaaGreatPart12
set_option linter.all false
set_option maxRecDepth 100000
set_option maxHeartbeats 8000000
namespace Go.AL
open Go.Proofs
attribute [local irreducible] AWp AList RStep seqQ blockQ retQ DSteps DT DU DM DZ awR rQ SStep
theorem said5_t (n : Node) (b c d b0 b1 b2 b3 : Bool) (x y : Cls) (R : List Info) (p5 : n.op = 5) : ACalls Tryz.prog 50 [.agg ((encNode n).map .p), infoV ⟨⟨true, b, c, d⟩, x⟩, infoV ⟨⟨b0, b1, b2, b3⟩, y⟩, .c (.p (infosP R))] [] (fun q _ => q = .ret (infoV ⟨⟨true && b0, b || (true && b1), c || (true && b2), d || (true && b3)⟩, withM x y true⟩)) := by
 have hw := with75_c x y true
 cases b <;> cases c <;> cases d
 all_goals
  ·skip
   refine acalls_by Tryz.func50 Tryz.ntmps50 ?_
   simp only [argFr]
   repeat' (first| (refine aw_T ?_ (hb := eT))| (refine aw_F ?_ (hb := eF))| (show cRegD; refine aw_dr 44 Tryz_mixed ?_)| (show dOp; refine ds_op (by (show kCall; exact b_call (hw))) ?_)| (show eRet; refine retC1 Tryz.results50 ?_)| (refine wS ?_)| fail)
   rfl
theorem said5_f (n : Node) (b c d b0 b1 b2 b3 : Bool) (x y : Cls) (R : List Info) (p5 : n.op = 5) : ACalls Tryz.prog 50 [.agg ((encNode n).map .p), infoV ⟨⟨false, b, c, d⟩, x⟩, infoV ⟨⟨b0, b1, b2, b3⟩, y⟩, .c (.p (infosP R))] [] (fun q _ => q = .ret (infoV ⟨⟨false && b0, b || (false && b1), c || (false && b2), d || (false && b3)⟩, withM x y false⟩)) := by
 have hw := with75_c x y false
 cases b <;> cases c <;> cases d
 all_goals
  ·skip
   refine acalls_by Tryz.func50 Tryz.ntmps50 ?_
   simp only [argFr]
   repeat' (first| (refine aw_T ?_ (hb := eT))| (refine aw_F ?_ (hb := eF))| (show cRegD; refine aw_dr 44 Tryz_mixed ?_)| (show dOp; refine ds_op (by (show kCall; exact b_call (hw))) ?_)| (show eRet; refine retC1 Tryz.results50 ?_)| (refine wS ?_)| fail)
   rfl
theorem said50_c (n : Node) (a b : Info) (R : List Info) (h2 : n.op = 2 -> 0 <= n.rule /\ n.rule < R.length) : ACalls Tryz.prog 50 [.agg ((encNode n).map .p), infoV a, infoV b, .c (.p (infosP R))] [] (fun q _ => q = .ret (infoV (saidM n a b R))) := by
 by_cases p4 : n.op = 4
 ·have e : saidM n a b R = ⟨⟨a.may.f0 || (goesM a.may && b.may.f0), a.may.f1 && b.may.f1, (a.may.f2 && goesM b.may) || (a.may.f1 && b.may.f2), a.may.f3 || (goesM a.may && b.may.f3)⟩, withM a.cl b.cl a.may.f1⟩ := by simp [saidM, comeM, firstR, p4]
  rw [e]
  obtain ⟨⟨a0, a1, a2, a3⟩, x⟩ := a
  obtain ⟨⟨b0, b1, b2, b3⟩, y⟩ := b
  cases a0 <;> cases a1 <;> cases a2
  ·exact said4_fff n a3 b1 b0 b2 b3 x y R p4
  ·exact said4_fft n a3 b1 b0 b2 b3 x y R p4
  ·exact said4_ftf n a3 b1 b0 b2 b3 x y R p4
  ·exact said4_ftt n a3 b1 b0 b2 b3 x y R p4
  ·exact said4_tff n a3 b1 b0 b2 b3 x y R p4
  ·exact said4_tft n a3 b1 b0 b2 b3 x y R p4
  ·exact said4_ttf n a3 b1 b0 b2 b3 x y R p4
  ·exact said4_ttt n a3 b1 b0 b2 b3 x y R p4
 by_cases p5 : n.op = 5
 ·have e : saidM n a b R = ⟨⟨a.may.f0 && b.may.f0, a.may.f1 || (a.may.f0 && b.may.f1), a.may.f2 || (a.may.f0 && b.may.f2), a.may.f3 || (a.may.f0 && b.may.f3)⟩, withM a.cl b.cl a.may.f0⟩ := by simp [saidM, comeM, firstR, p5]
  rw [e]
  obtain ⟨⟨a0, a1, a2, a3⟩, x⟩ := a
  obtain ⟨⟨b0, b1, b2, b3⟩, y⟩ := b
  cases a0
  ·exact said5_f n a1 a2 a3 b0 b1 b2 b3 x y R p5
  ·exact said5_t n a1 a2 a3 b0 b1 b2 b3 x y R p5
 by_cases p0 : n.op = 0
 ·have e : saidM n a b R = ⟨⟨false, true, false, false⟩, noCls⟩ := by simp [saidM, comeM, firstR, p0]
  rw [e]
  refine acalls_by Tryz.func50 Tryz.ntmps50 ?_
  simp only [argFr]
  repeat' (first| (refine aw_T ?_ (hb := eT))| (show eRet; refine retC1 Tryz.results50 ?_)| (refine wS ?_)| (show lGu; refine al_split (fun h => ?_) (fun h => ?_)))
  all_goals rfl
 by_cases p1 : n.op = 1
 ·have e : saidM n a b R = ⟨⟨true, false, !decide (n.cl = ⟨0, 0, 0, 0⟩), false⟩, n.cl⟩ := by simp [saidM, comeM, firstR, p1]
  rw [e]
  refine acalls_by Tryz.func50 Tryz.ntmps50 ?_
  simp only [argFr]
  repeat' (first| (refine aw_T ?_ (hb := eT))| (refine aw_F ?_ (hb := eF))| (show cRegD; refine aw_dr 7 Tryz_mixed ?_)| (show dOp; refine ds_op (by (show kBinopNeq; exact b_neqAgg (hr := clsW_eq n.cl ⟨0, 0, 0, 0⟩))) ?_)| (show eRet; refine retC1 Tryz.results50 ?_)| (refine wS ?_)| (show lGu; refine al_split (fun h => ?_) (fun h => ?_)))
  all_goals rfl
 by_cases p2 : n.op = 2
 ·obtain ⟨q1, q2⟩ := h2 p2
  have e : saidM n a b R = at' R n.rule := by simp [saidM, comeM, firstR, p2, may_at]
  rw [e]
  refine acalls_by Tryz.func50 Tryz.ntmps50 ?_
  simp only [argFr]
  repeat' (first| (refine aw_T ?_ (hb := eT))| (refine aw_F ?_ (hb := eF))| (show eRet; refine retC1 Tryz.results50 ?_)| (refine wS ?_)| (show lGu; refine al_split (fun h => ?_) (fun h => ?_)))
  all_goals rfl
 by_cases p3 : n.op = 3
 ·have e : saidM n a b R = ⟨⟨false, false, false, true⟩, noCls⟩ := by simp [saidM, comeM, firstR, p3]
  rw [e]
  refine acalls_by Tryz.func50 Tryz.ntmps50 ?_
  simp only [argFr]
  repeat' (first| (refine aw_T ?_ (hb := eT))| (refine aw_F ?_ (hb := eF))| (show eRet; refine retC1 Tryz.results50 ?_)| (refine wS ?_)| (show lGu; refine al_split (fun h => ?_) (fun h => ?_)))
  all_goals rfl
 by_cases p6 : n.op = 6
 ·have e : saidM n a b R = ⟨⟨false, a.may.f0, a.may.f2 && a.may.f0, a.may.f3⟩, a.cl⟩ := by simp [saidM, comeM, firstR, p6]
  rw [e]
  obtain ⟨⟨a0, a1, a2, a3⟩, x⟩ := a
  cases a0 <;> cases a2
  all_goals
   ·skip
    refine acalls_by Tryz.func50 Tryz.ntmps50 ?_
    simp only [argFr]
    repeat' (first| (refine aw_T ?_ (hb := eT))| (refine aw_F ?_ (hb := eF))| (show eRet; refine retC1 Tryz.results50 ?_)| (refine wS ?_)| (show lGu; refine al_split (fun h => ?_) (fun h => ?_)))
    all_goals rfl
 by_cases p7 : n.op = 7
 ·have e : saidM n a b R = ⟨⟨goesM a.may, a.may.f0 || a.may.f3, false, false⟩, noCls⟩ := by simp [saidM, comeM, firstR, p7]
  rw [e]
  obtain ⟨⟨a0, a1, a2, a3⟩, x⟩ := a
  cases a0 <;> cases a1
  all_goals
   ·skip
    refine acalls_by Tryz.func50 Tryz.ntmps50 ?_
    simp only [argFr]
    repeat' (first| (refine aw_T ?_ (hb := eT))| (refine aw_F ?_ (hb := eF))| (show eRet; refine retC1 Tryz.results50 ?_)| (refine wS ?_)| fail)
    all_goals rfl
 have e : saidM n a b R = a := by simp [saidM, comeM, firstR, p0, p1, p2, p3, p4, p5, p6, p7]
 rw [e]
 refine acalls_by Tryz.func50 Tryz.ntmps50 ?_
 simp only [argFr]
 repeat' (first| (refine aw_F ?_ (hb := eF))| (show eRet; refine retC1 Tryz.results50 ?_)| (refine wS ?_)| (show lGu; refine al_split (fun h => ?_) (fun h => ?_)))
 all_goals rfl
end Go.AL
