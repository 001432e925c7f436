/-
  Part 12 of the proof: what the functions that the law reaches come to.
-/
import Derived.Test.YtkiepfhcnicfgaaGreatPart11
set_option linter.all false
set_option maxRecDepth 100000
set_option maxHeartbeats 8000000
namespace Go.AL
open Go.Proofs
attribute [local irreducible] AWp AList RStep seqQ blockQ retQ DSteps DT DU DM DZ awR rQ SStep
theorem said4_ftt (n : Node) (d f b0 b2 b3 : Bool) (x y : Cls) (R : List Info) (p4 : n.op = 4) : ACalls Tryz.prog 50 [.agg ((encNode n).map .p), infoV ⟨⟨false, true, true, d⟩, x⟩, infoV ⟨⟨b0, f, b2, b3⟩, y⟩, .c (.p (infosP R))] [] (fun q _ => q = .ret (infoV ⟨⟨false || (goesM ⟨false, true, true, d⟩ && b0), true && f, (true && goesM ⟨b0, f, b2, b3⟩) || (true && b2), d || (goesM ⟨false, true, true, d⟩ && b3)⟩, withM x y true⟩)) := by
 have hw := with75_c x y true
 cases f
 ·cases b2 <;> cases d
  all_goals
   ·skip
    refine acalls_by Tryz.func50 Tryz.ntmps50 ?_
    simp only [argFr]
    repeat' (first| (refine aw_T ?_ (hb := eT))| (refine aw_F ?_ (hb := eF))| (show cRegD; refine aw_dr 50 Tryz_mixed ?_)| (show dOp; refine ds_op (by (show kCall; exact b_call (hw))) ?_)| (show eRet; refine retC1 Tryz.results50 ?_)| (refine wS ?_)| fail)
    rfl
 ·cases d
  all_goals
   ·skip
    refine acalls_by Tryz.func50 Tryz.ntmps50 ?_
    simp only [argFr]
    repeat' (first| (refine aw_T ?_ (hb := eT))| (refine aw_F ?_ (hb := eF))| (show cRegD; refine aw_dr 50 Tryz_mixed ?_)| (show dOp; refine ds_op (by (show kCall; exact b_call (hw))) ?_)| (show eRet; refine retC1 Tryz.results50 ?_)| (refine wS ?_)| fail)
    rfl
theorem said4_ftf (n : Node) (d f b0 b2 b3 : Bool) (x y : Cls) (R : List Info) (p4 : n.op = 4) : ACalls Tryz.prog 50 [.agg ((encNode n).map .p), infoV ⟨⟨false, true, false, d⟩, x⟩, infoV ⟨⟨b0, f, b2, b3⟩, y⟩, .c (.p (infosP R))] [] (fun q _ => q = .ret (infoV ⟨⟨false || (goesM ⟨false, true, false, d⟩ && b0), true && f, (false && goesM ⟨b0, f, b2, b3⟩) || (true && b2), d || (goesM ⟨false, true, false, d⟩ && b3)⟩, withM x y true⟩)) := by
 have hw := with75_c x y true
 cases f
 ·cases b2 <;> cases d
  all_goals
   ·skip
    refine acalls_by Tryz.func50 Tryz.ntmps50 ?_
    simp only [argFr]
    repeat' (first| (refine aw_T ?_ (hb := eT))| (refine aw_F ?_ (hb := eF))| (show cRegD; refine aw_dr 50 Tryz_mixed ?_)| (show dOp; refine ds_op (by (show kCall; exact b_call (hw))) ?_)| (show eRet; refine retC1 Tryz.results50 ?_)| (refine wS ?_)| fail)
    rfl
 ·cases d
  all_goals
   ·skip
    refine acalls_by Tryz.func50 Tryz.ntmps50 ?_
    simp only [argFr]
    repeat' (first| (refine aw_T ?_ (hb := eT))| (refine aw_F ?_ (hb := eF))| (show cRegD; refine aw_dr 50 Tryz_mixed ?_)| (show dOp; refine ds_op (by (show kCall; exact b_call (hw))) ?_)| (show eRet; refine retC1 Tryz.results50 ?_)| (refine wS ?_)| fail)
    rfl
theorem said4_fft (n : Node) (d f b0 b2 b3 : Bool) (x y : Cls) (R : List Info) (p4 : n.op = 4) : ACalls Tryz.prog 50 [.agg ((encNode n).map .p), infoV ⟨⟨false, false, true, d⟩, x⟩, infoV ⟨⟨b0, f, b2, b3⟩, y⟩, .c (.p (infosP R))] [] (fun q _ => q = .ret (infoV ⟨⟨false || (goesM ⟨false, false, true, d⟩ && b0), false && f, (true && goesM ⟨b0, f, b2, b3⟩) || (false && b2), d || (goesM ⟨false, false, true, d⟩ && b3)⟩, withM x y false⟩)) := by
 have hw := with75_c x y false
 cases f
 ·cases b2 <;> cases d
  all_goals
   ·skip
    refine acalls_by Tryz.func50 Tryz.ntmps50 ?_
    simp only [argFr]
    repeat' (first| (refine aw_T ?_ (hb := eT))| (refine aw_F ?_ (hb := eF))| (show cRegD; refine aw_dr 50 Tryz_mixed ?_)| (show dOp; refine ds_op (by (show kCall; exact b_call (hw))) ?_)| (show eRet; refine retC1 Tryz.results50 ?_)| (refine wS ?_)| fail)
    rfl
 ·cases d
  all_goals
   ·skip
    refine acalls_by Tryz.func50 Tryz.ntmps50 ?_
    simp only [argFr]
    repeat' (first| (refine aw_T ?_ (hb := eT))| (refine aw_F ?_ (hb := eF))| (show cRegD; refine aw_dr 50 Tryz_mixed ?_)| (show dOp; refine ds_op (by (show kCall; exact b_call (hw))) ?_)| (show eRet; refine retC1 Tryz.results50 ?_)| (refine wS ?_)| fail)
    rfl
theorem said4_fff (n : Node) (d f b0 b2 b3 : Bool) (x y : Cls) (R : List Info) (p4 : n.op = 4) : ACalls Tryz.prog 50 [.agg ((encNode n).map .p), infoV ⟨⟨false, false, false, d⟩, x⟩, infoV ⟨⟨b0, f, b2, b3⟩, y⟩, .c (.p (infosP R))] [] (fun q _ => q = .ret (infoV ⟨⟨false || (goesM ⟨false, false, false, d⟩ && b0), false && f, (false && goesM ⟨b0, f, b2, b3⟩) || (false && b2), d || (goesM ⟨false, false, false, d⟩ && b3)⟩, withM x y false⟩)) := by
 have hw := with75_c x y false
 cases f
 ·cases b2 <;> cases d
  all_goals
   ·skip
    refine acalls_by Tryz.func50 Tryz.ntmps50 ?_
    simp only [argFr]
    repeat' (first| (refine aw_T ?_ (hb := eT))| (refine aw_F ?_ (hb := eF))| (show cRegD; refine aw_dr 50 Tryz_mixed ?_)| (show dOp; refine ds_op (by (show kCall; exact b_call (hw))) ?_)| (show eRet; refine retC1 Tryz.results50 ?_)| (refine wS ?_)| fail)
    rfl
 ·cases d
  all_goals
   ·skip
    refine acalls_by Tryz.func50 Tryz.ntmps50 ?_
    simp only [argFr]
    repeat' (first| (refine aw_T ?_ (hb := eT))| (refine aw_F ?_ (hb := eF))| (show cRegD; refine aw_dr 50 Tryz_mixed ?_)| (show dOp; refine ds_op (by (show kCall; exact b_call (hw))) ?_)| (show eRet; refine retC1 Tryz.results50 ?_)| (refine wS ?_)| fail)
    rfl
end Go.AL
