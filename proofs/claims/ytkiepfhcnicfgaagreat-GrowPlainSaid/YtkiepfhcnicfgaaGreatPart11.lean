/-
  Part 11 of the proof: what the functions that the law reaches come to.
-/
import Derived.Test.YtkiepfhcnicfgaaGreatPart10
set_option linter.all false
set_option maxRecDepth 100000
set_option maxHeartbeats 8000000
namespace Go.AL
open Go.Proofs
attribute [local irreducible] AWp AList RStep seqQ blockQ retQ DSteps DT DU DM DZ awR rQ SStep
abbrev infoV (i : Info) : AV := .agg ((encInfo i).map .p)
def firstR (n : Node) (a b : Info) (R : List Info) : Cls :=
 if n.op = 0 then noCls else if n.op = 1 then n.cl else if n.op = 2 then (at' R n.rule).cl else if n.op = 3 then noCls
 else if n.op = 4 then withM a.cl b.cl a.may.f1 else if n.op = 5 then withM a.cl b.cl a.may.f0 else if n.op = 6 then a.cl else if n.op = 7 then noCls else a.cl
/-- A node's facts, as the document says them. -/
def saidM (n : Node) (a b : Info) (R : List Info) : Info := ⟨comeM n a.may b.may (R.map (·.may)), firstR n a b R⟩
theorem may_at (R : List Info) (r : Int) : at' (R.map (·.may)) r = (at' R r).may := by
 simp only [at', List.getD_eq_getElem?_getD, List.getElem?_map]
 cases R[r.toNat]? <;> rfl
theorem said4_ttt (n : Node) (d f b0 b2 b3 : Bool) (x y : Cls) (R : List Info) (p4 : n.op = 4) : ACalls Tryz.prog 50 [.agg ((encNode n).map .p), infoV ⟨⟨true, true, true, d⟩, x⟩, infoV ⟨⟨b0, f, b2, b3⟩, y⟩, .c (.p (infosP R))] [] (fun q _ => q = .ret (infoV ⟨⟨true || (goesM ⟨true, true, true, d⟩ && b0), true && f, (true && goesM ⟨b0, f, b2, b3⟩) || (true && b2), d || (goesM ⟨true, true, true, d⟩ && b3)⟩, withM x y true⟩)) := by
 have hw := with75_c x y true
 cases f
 ·cases b2 <;> cases d
  all_goals
   ·skip
    refine acalls_by Tryz.func50 Tryz.ntmps50 ?_
    simp only [argFr]
    repeat' (first| (refine aw_T ?_ (hb := eT))| (refine aw_F ?_ (hb := eF))| (show cRegD; refine aw_dr 50 Tryz_mixed ?_)| (show dOp; refine ds_op (by (show kCall; exact b_call (hw))) ?_)| (show eRet; refine retC1 Tryz.results50 ?_)| (refine wS ?_)| fail)
    rfl
 ·cases d
  all_goals
   ·skip
    refine acalls_by Tryz.func50 Tryz.ntmps50 ?_
    simp only [argFr]
    repeat' (first| (refine aw_T ?_ (hb := eT))| (refine aw_F ?_ (hb := eF))| (show cRegD; refine aw_dr 50 Tryz_mixed ?_)| (show dOp; refine ds_op (by (show kCall; exact b_call (hw))) ?_)| (show eRet; refine retC1 Tryz.results50 ?_)| (refine wS ?_)| fail)
    rfl
theorem said4_ttf (n : Node) (d f b0 b2 b3 : Bool) (x y : Cls) (R : List Info) (p4 : n.op = 4) : ACalls Tryz.prog 50 [.agg ((encNode n).map .p), infoV ⟨⟨true, true, false, d⟩, x⟩, infoV ⟨⟨b0, f, b2, b3⟩, y⟩, .c (.p (infosP R))] [] (fun q _ => q = .ret (infoV ⟨⟨true || (goesM ⟨true, true, false, d⟩ && b0), true && f, (false && goesM ⟨b0, f, b2, b3⟩) || (true && b2), d || (goesM ⟨true, true, false, d⟩ && b3)⟩, withM x y true⟩)) := by
 have hw := with75_c x y true
 cases f
 ·cases b2 <;> cases d
  all_goals
   ·skip
    refine acalls_by Tryz.func50 Tryz.ntmps50 ?_
    simp only [argFr]
    repeat' (first| (refine aw_T ?_ (hb := eT))| (refine aw_F ?_ (hb := eF))| (show cRegD; refine aw_dr 50 Tryz_mixed ?_)| (show dOp; refine ds_op (by (show kCall; exact b_call (hw))) ?_)| (show eRet; refine retC1 Tryz.results50 ?_)| (refine wS ?_)| fail)
    rfl
 ·cases d
  all_goals
   ·skip
    refine acalls_by Tryz.func50 Tryz.ntmps50 ?_
    simp only [argFr]
    repeat' (first| (refine aw_T ?_ (hb := eT))| (refine aw_F ?_ (hb := eF))| (show cRegD; refine aw_dr 50 Tryz_mixed ?_)| (show dOp; refine ds_op (by (show kCall; exact b_call (hw))) ?_)| (show eRet; refine retC1 Tryz.results50 ?_)| (refine wS ?_)| fail)
    rfl
theorem said4_tft (n : Node) (d f b0 b2 b3 : Bool) (x y : Cls) (R : List Info) (p4 : n.op = 4) : ACalls Tryz.prog 50 [.agg ((encNode n).map .p), infoV ⟨⟨true, false, true, d⟩, x⟩, infoV ⟨⟨b0, f, b2, b3⟩, y⟩, .c (.p (infosP R))] [] (fun q _ => q = .ret (infoV ⟨⟨true || (goesM ⟨true, false, true, d⟩ && b0), false && f, (true && goesM ⟨b0, f, b2, b3⟩) || (false && b2), d || (goesM ⟨true, false, true, d⟩ && b3)⟩, withM x y false⟩)) := by
 have hw := with75_c x y false
 cases f
 ·cases b2 <;> cases d
  all_goals
   ·skip
    refine acalls_by Tryz.func50 Tryz.ntmps50 ?_
    simp only [argFr]
    repeat' (first| (refine aw_T ?_ (hb := eT))| (refine aw_F ?_ (hb := eF))| (show cRegD; refine aw_dr 50 Tryz_mixed ?_)| (show dOp; refine ds_op (by (show kCall; exact b_call (hw))) ?_)| (show eRet; refine retC1 Tryz.results50 ?_)| (refine wS ?_)| fail)
    rfl
 ·cases d
  all_goals
   ·skip
    refine acalls_by Tryz.func50 Tryz.ntmps50 ?_
    simp only [argFr]
    repeat' (first| (refine aw_T ?_ (hb := eT))| (refine aw_F ?_ (hb := eF))| (show cRegD; refine aw_dr 50 Tryz_mixed ?_)| (show dOp; refine ds_op (by (show kCall; exact b_call (hw))) ?_)| (show eRet; refine retC1 Tryz.results50 ?_)| (refine wS ?_)| fail)
    rfl
theorem said4_tff (n : Node) (d f b0 b2 b3 : Bool) (x y : Cls) (R : List Info) (p4 : n.op = 4) : ACalls Tryz.prog 50 [.agg ((encNode n).map .p), infoV ⟨⟨true, false, false, d⟩, x⟩, infoV ⟨⟨b0, f, b2, b3⟩, y⟩, .c (.p (infosP R))] [] (fun q _ => q = .ret (infoV ⟨⟨true || (goesM ⟨true, false, false, d⟩ && b0), false && f, (false && goesM ⟨b0, f, b2, b3⟩) || (false && b2), d || (goesM ⟨true, false, false, d⟩ && b3)⟩, withM x y false⟩)) := by
 have hw := with75_c x y false
 cases f
 ·cases b2 <;> cases d
  all_goals
   ·skip
    refine acalls_by Tryz.func50 Tryz.ntmps50 ?_
    simp only [argFr]
    repeat' (first| (refine aw_T ?_ (hb := eT))| (refine aw_F ?_ (hb := eF))| (show cRegD; refine aw_dr 50 Tryz_mixed ?_)| (show dOp; refine ds_op (by (show kCall; exact b_call (hw))) ?_)| (show eRet; refine retC1 Tryz.results50 ?_)| (refine wS ?_)| fail)
    rfl
 ·cases d
  all_goals
   ·skip
    refine acalls_by Tryz.func50 Tryz.ntmps50 ?_
    simp only [argFr]
    repeat' (first| (refine aw_T ?_ (hb := eT))| (refine aw_F ?_ (hb := eF))| (show cRegD; refine aw_dr 50 Tryz_mixed ?_)| (show dOp; refine ds_op (by (show kCall; exact b_call (hw))) ?_)| (show eRet; refine retC1 Tryz.results50 ?_)| (refine wS ?_)| fail)
    rfl
end Go.AL
