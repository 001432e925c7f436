/-
  Part 19 of the proof: what the functions that the law reaches come to.
-/
import Derived.Test.YtkiepfhcnicfgaaGreatPart18
set_option linter.all false
set_option maxRecDepth 100000
set_option maxHeartbeats 8000000
namespace Go.AL
open Go.Proofs
attribute [local irreducible] AWp AList RStep seqQ blockQ retQ DSteps DT DU DM DZ awR rQ SStep trees
theorem node_5y {e : Env} (hw : WF e) {d : Nat} {rule node a dep : Int} {s : RS} (h : AtN e d rule node a dep s) (ho : (at' (at' e.core.rules rule).body node).op = 5) {q : Out × RS} (hq : Node1 e rule (at' (at' e.parts rule) node).1 a (dep + 1) (begunR e d s) q) (hk : q.1.kind ≠ 0) : Node1 e rule node a dep s q := by
 obtain ⟨r0, r1, n0, n1, a0, a1, hs, h0, hd, hl, hu⟩ := h
 have hD := hw.limD
 have hS := hw.limS
 have hpl := hw.parts
 have hpt : (at' e.parts rule).length = (at' e.core.rules rule).body.length := hw.part rule r0 r1
 have hb1 : (at' e.core.rules rule).body.length <= 16384 := (hw.body rule r0 r1).2
 have hin := hw.input
 have hus := hs.us
 have hud := hs.ud
 unfold begunR at hq
 rw [<- hd] at hq
 refine acalls_out ?_
 refine acalls_by Tryz.func25 Tryz.ntmps25 ?_
 simp only [argFr]
 repeat' (first| (refine aw_F ?_ (hb := dF (show ¬s.err ≠ 0 by omega)))| (refine aw_F ?_ (hb := dF (show ¬dep > e.limD by omega)))| (refine aw_F ?_ (hb := dF (show ¬s.us >= e.limS by omega)))| (refine aw_F ?_ (hb := dF (show ¬(at' (at' e.core.rules rule).body node).op = 0 by omega)))| (refine aw_F ?_ (hb := dF (show ¬(at' (at' e.core.rules rule).body node).op = 1 by omega)))| (refine aw_F ?_ (hb := dF (show ¬(at' (at' e.core.rules rule).body node).op = 3 by omega)))| (refine aw_F ?_ (hb := dF (show ¬(at' (at' e.core.rules rule).body node).op = 2 by omega)))| (refine aw_F ?_ (hb := dF (show ¬(at' (at' e.core.rules rule).body node).op = 4 by omega)))| (refine aw_T ?_ (hb := decide_eq_true ho))| (refine aw_T ?_ (hb := decide_eq_true hk))| (show lCall; refine k_callOut hq ?_)| (show eRet; refine retC1 Tryz.results25 ?_)| (refine wS ?_)| fail)
 exact ⟨3, by decide, rfl, rfl, rfl⟩
theorem node_5n {e : Env} (hw : WF e) {d : Nat} {rule node a dep : Int} {s : RS} (h : AtN e d rule node a dep s) (ho : (at' (at' e.core.rules rule).body node).op = 5) {q : Out × RS} (hq : Node1 e rule (at' (at' e.parts rule) node).1 a (dep + 1) (begunR e d s) q) (hk : q.1.kind = 0) {q2 : Out × RS} (hq2 : Node1 e rule (at' (at' e.parts rule) node).2 a (dep + 1) q.2 q2) : Node1 e rule node a dep s q2 := by
 obtain ⟨r0, r1, n0, n1, a0, a1, hs, h0, hd, hl, hu⟩ := h
 have hD := hw.limD
 have hS := hw.limS
 have hpl := hw.parts
 have hpt : (at' e.parts rule).length = (at' e.core.rules rule).body.length := hw.part rule r0 r1
 have hb1 : (at' e.core.rules rule).body.length <= 16384 := (hw.body rule r0 r1).2
 have hin := hw.input
 have hus := hs.us
 have hud := hs.ud
 unfold begunR at hq
 rw [<- hd] at hq
 refine acalls_out ?_
 refine acalls_by Tryz.func25 Tryz.ntmps25 ?_
 simp only [argFr]
 repeat' (first| (refine aw_F ?_ (hb := dF (show ¬s.err ≠ 0 by omega)))| (refine aw_F ?_ (hb := dF (show ¬dep > e.limD by omega)))| (refine aw_F ?_ (hb := dF (show ¬s.us >= e.limS by omega)))| (refine aw_F ?_ (hb := dF (show ¬(at' (at' e.core.rules rule).body node).op = 0 by omega)))| (refine aw_F ?_ (hb := dF (show ¬(at' (at' e.core.rules rule).body node).op = 1 by omega)))| (refine aw_F ?_ (hb := dF (show ¬(at' (at' e.core.rules rule).body node).op = 3 by omega)))| (refine aw_F ?_ (hb := dF (show ¬(at' (at' e.core.rules rule).body node).op = 2 by omega)))| (refine aw_F ?_ (hb := dF (show ¬(at' (at' e.core.rules rule).body node).op = 4 by omega)))| (refine aw_T ?_ (hb := decide_eq_true ho))| (refine aw_F ?_ (hb := dF (show ¬q.1.kind ≠ 0 by omega)))| (show lCall; first | refine k_callOut hq ?_ | refine k_callOut hq2 ?_)| (show eRet; refine retC1 Tryz.results25 ?_)| (refine wS ?_)| fail)
 exact ⟨5, by decide, rfl, rfl, rfl⟩
theorem node_4n {e : Env} (hw : WF e) {d : Nat} {rule node a dep : Int} {s : RS} (h : AtN e d rule node a dep s) (ho : (at' (at' e.core.rules rule).body node).op = 4) {q : Out × RS} (hq : Node1 e rule (at' (at' e.parts rule) node).1 a (dep + 1) (begunR e d s) q) (hk : q.1.kind ≠ 1) : Node1 e rule node a dep s q := by
 obtain ⟨r0, r1, n0, n1, a0, a1, hs, h0, hd, hl, hu⟩ := h
 have hD := hw.limD
 have hS := hw.limS
 have hpl := hw.parts
 have hpt : (at' e.parts rule).length = (at' e.core.rules rule).body.length := hw.part rule r0 r1
 have hb1 : (at' e.core.rules rule).body.length <= 16384 := (hw.body rule r0 r1).2
 have hin := hw.input
 have hus := hs.us
 have hud := hs.ud
 unfold begunR at hq
 rw [<- hd] at hq
 refine acalls_out ?_
 refine acalls_by Tryz.func25 Tryz.ntmps25 ?_
 simp only [argFr]
 repeat' (first| (refine aw_F ?_ (hb := dF (show ¬s.err ≠ 0 by omega)))| (refine aw_F ?_ (hb := dF (show ¬dep > e.limD by omega)))| (refine aw_F ?_ (hb := dF (show ¬s.us >= e.limS by omega)))| (refine aw_F ?_ (hb := dF (show ¬(at' (at' e.core.rules rule).body node).op = 0 by omega)))| (refine aw_F ?_ (hb := dF (show ¬(at' (at' e.core.rules rule).body node).op = 1 by omega)))| (refine aw_F ?_ (hb := dF (show ¬(at' (at' e.core.rules rule).body node).op = 3 by omega)))| (refine aw_F ?_ (hb := dF (show ¬(at' (at' e.core.rules rule).body node).op = 2 by omega)))| (refine aw_T ?_ (hb := decide_eq_true ho))| (refine aw_T ?_ (hb := decide_eq_true hk))| (show lCall; refine k_callOut hq ?_)| (show eRet; refine retC1 Tryz.results25 ?_)| (refine wS ?_)| fail)
 exact ⟨3, by decide, rfl, rfl, rfl⟩
theorem node_4m {e : Env} (hw : WF e) {d : Nat} {rule node a dep : Int} {s : RS} (h : AtN e d rule node a dep s) (ho : (at' (at' e.core.rules rule).body node).op = 4) {q : Out × RS} (hq : Node1 e rule (at' (at' e.parts rule) node).1 a (dep + 1) (begunR e d s) q) (hk : q.1.kind = 1) {q2 : Out × RS} (hq2 : Node1 e rule (at' (at' e.parts rule) node).2 q.1.fin (dep + 1) q.2 q2) (hk2 : q2.1.kind ≠ 1) : Node1 e rule node a dep s q2 := by
 obtain ⟨r0, r1, n0, n1, a0, a1, hs, h0, hd, hl, hu⟩ := h
 have hD := hw.limD
 have hS := hw.limS
 have hpl := hw.parts
 have hpt : (at' e.parts rule).length = (at' e.core.rules rule).body.length := hw.part rule r0 r1
 have hb1 : (at' e.core.rules rule).body.length <= 16384 := (hw.body rule r0 r1).2
 have hin := hw.input
 have hus := hs.us
 have hud := hs.ud
 unfold begunR at hq
 rw [<- hd] at hq
 refine acalls_out ?_
 refine acalls_by Tryz.func25 Tryz.ntmps25 ?_
 simp only [argFr]
 repeat' (first| (refine aw_F ?_ (hb := dF (show ¬s.err ≠ 0 by omega)))| (refine aw_F ?_ (hb := dF (show ¬dep > e.limD by omega)))| (refine aw_F ?_ (hb := dF (show ¬s.us >= e.limS by omega)))| (refine aw_F ?_ (hb := dF (show ¬(at' (at' e.core.rules rule).body node).op = 0 by omega)))| (refine aw_F ?_ (hb := dF (show ¬(at' (at' e.core.rules rule).body node).op = 1 by omega)))| (refine aw_F ?_ (hb := dF (show ¬(at' (at' e.core.rules rule).body node).op = 3 by omega)))| (refine aw_F ?_ (hb := dF (show ¬(at' (at' e.core.rules rule).body node).op = 2 by omega)))| (refine aw_T ?_ (hb := decide_eq_true ho))| (refine aw_F ?_ (hb := dF (show ¬q.1.kind ≠ 1 by omega)))| (refine aw_F ?_ (hb := decide_eq_false hk2))| (show lCall; first | refine k_callOut hq ?_ | refine k_callOut hq2 ?_)| (show eRet; refine retC1 Tryz.results25 ?_)| (refine wS ?_)| fail)
 exact ⟨5, by decide, rfl, rfl, rfl⟩
theorem node_4y {e : Env} (hw : WF e) {d : Nat} {rule node a dep : Int} {s : RS} (h : AtN e d rule node a dep s) (ho : (at' (at' e.core.rules rule).body node).op = 4) {q : Out × RS} (hq : Node1 e rule (at' (at' e.parts rule) node).1 a (dep + 1) (begunR e d s) q) (hk : q.1.kind = 1) {q2 : Out × RS} (hq2 : Node1 e rule (at' (at' e.parts rule) node).2 q.1.fin (dep + 1) q.2 q2) (hk2 : q2.1.kind = 1) (hl1 : q.1.forest.length <= 2000000) (hl2 : q2.1.forest.length <= 2000000) : Node1 e rule node a dep s ({ q2.1 with forest := q.1.forest ++ q2.1.forest }, q2.2) := by
 obtain ⟨r0, r1, n0, n1, a0, a1, hs, h0, hd, hl, hu⟩ := h
 have hD := hw.limD
 have hS := hw.limS
 have hpl := hw.parts
 have hpt : (at' e.parts rule).length = (at' e.core.rules rule).body.length := hw.part rule r0 r1
 have hb1 : (at' e.core.rules rule).body.length <= 16384 := (hw.body rule r0 r1).2
 have hin := hw.input
 have hus := hs.us
 have hud := hs.ud
 unfold begunR at hq
 rw [<- hd] at hq
 have htk : (q2.1.forest.map encCap).take q2.1.forest.length = q2.1.forest.map encCap := List.take_of_length_le (by simp)
 have hfz : [C.p (lI q2.1.kind), .p (lI q2.1.fin), .p (lS q2.1.label), .p (.sl 4 ((q2.1.forest.map encCap).take q2.1.forest.length))] = [C.p (lI q2.1.kind), .p (lI q2.1.fin), .p (lS q2.1.label), .p (.sl 4 (q2.1.forest.map encCap))] := by rw [htk]
 refine acalls_out ?_
 refine acalls_by Tryz.func25 Tryz.ntmps25 ?_
 simp only [argFr]
 repeat' (first| (refine aw_F ?_ (hb := dF (show ¬s.err ≠ 0 by omega)))| (refine aw_F ?_ (hb := dF (show ¬dep > e.limD by omega)))| (refine aw_F ?_ (hb := dF (show ¬s.us >= e.limS by omega)))| (refine aw_F ?_ (hb := dF (show ¬(at' (at' e.core.rules rule).body node).op = 0 by omega)))| (refine aw_F ?_ (hb := dF (show ¬(at' (at' e.core.rules rule).body node).op = 1 by omega)))| (refine aw_F ?_ (hb := dF (show ¬(at' (at' e.core.rules rule).body node).op = 3 by omega)))| (refine aw_F ?_ (hb := dF (show ¬(at' (at' e.core.rules rule).body node).op = 2 by omega)))| (refine aw_T ?_ (hb := decide_eq_true ho))| (refine aw_F ?_ (hb := dF (show ¬q.1.kind ≠ 1 by omega)))| (refine aw_T ?_ (hb := decide_eq_true hk2))| (show cAt 30; refine kw_freezeIn 5 6 3 rfl rfl rfl (by simp) hfz rfl ?_; refine aw_reg ?_)| (show lCall; first | refine k_callOut hq ?_ | refine k_callOut hq2 ?_ | refine k_appSl (f := encCap) (xs := q.1.forest) (ys := q2.1.forest) ?_)| (show eRet; refine retC1 Tryz.results25 ?_)| (refine wS ?_)| fail)
 exact ⟨7, by decide, by rw [List.length_append]; rfl, rfl, by show some (AObj.arr 50 4 ((q.1.forest.take q.1.forest.length ++ q2.1.forest).map encCap)) = _; rw [List.take_length]⟩
end Go.AL
