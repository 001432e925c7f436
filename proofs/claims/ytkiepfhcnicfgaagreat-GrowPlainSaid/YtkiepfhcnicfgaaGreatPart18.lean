/-
  Part 18 of the proof: what the functions that the law reaches come to.
-/
import Derived.Test.YtkiepfhcnicfgaaGreatPart17
set_option linter.all false
set_option maxRecDepth 100000
set_option maxHeartbeats 8000000
namespace Go.AL
open Go.Proofs
attribute [local irreducible] AWp AList RStep seqQ blockQ retQ DSteps DT DU DM DZ awR rQ SStep trees
theorem flat_caps (l : List Cap) : ∀ el ∈ l.map encCap, el.all flatP = true := fun el h => by
 obtain ⟨m, _, rfl⟩ := List.mem_map.1 h
 rfl
theorem node_7y {e : Env} (hw : WF e) {d : Nat} {rule node a dep : Int} {s : RS} (h : AtN e d rule node a dep s) (ho : (at' (at' e.core.rules rule).body node).op = 7) {q : Out × RS} (hq : Node1 e rule (at' (at' e.parts rule) node).1 a (dep + 1) (begunR e d s) q) (hk : q.1.kind = 1) : Node1 e rule node a dep s (zeroO, q.2) := by
 obtain ⟨r0, r1, n0, n1, a0, a1, hs, h0, hd, hl, hu⟩ := h
 have hD := hw.limD
 have hS := hw.limS
 have hpl := hw.parts
 have hpt : (at' e.parts rule).length = (at' e.core.rules rule).body.length := hw.part rule r0 r1
 have hb1 : (at' e.core.rules rule).body.length <= 16384 := (hw.body rule r0 r1).2
 have hin := hw.input
 have hus := hs.us
 have hud := hs.ud
 unfold begunR at hq
 rw [<- hd] at hq
 refine acalls_out ?_
 refine acalls_by Tryz.func25 Tryz.ntmps25 ?_
 simp only [argFr]
 repeat' (first| (refine aw_F ?_ (hb := dF (show ¬s.err ≠ 0 by omega)))| (refine aw_F ?_ (hb := dF (show ¬dep > e.limD by omega)))| (refine aw_F ?_ (hb := dF (show ¬s.us >= e.limS by omega)))| (refine aw_F ?_ (hb := dF (show ¬(at' (at' e.core.rules rule).body node).op = 0 by omega)))| (refine aw_F ?_ (hb := dF (show ¬(at' (at' e.core.rules rule).body node).op = 1 by omega)))| (refine aw_F ?_ (hb := dF (show ¬(at' (at' e.core.rules rule).body node).op = 3 by omega)))| (refine aw_F ?_ (hb := dF (show ¬(at' (at' e.core.rules rule).body node).op = 2 by omega)))| (refine aw_F ?_ (hb := dF (show ¬(at' (at' e.core.rules rule).body node).op = 4 by omega)))| (refine aw_F ?_ (hb := dF (show ¬(at' (at' e.core.rules rule).body node).op = 5 by omega)))| (refine aw_F ?_ (hb := dF (show ¬(at' (at' e.core.rules rule).body node).op = 6 by omega)))| (refine aw_T ?_ (hb := decide_eq_true ho))| (refine aw_T ?_ (hb := decide_eq_true hk))| (show cRet; refine kw_ownC 1 3 50 4 rfl rfl rfl rfl ?_)| (show lCall; refine k_callOut hq ?_)| (show eRet; refine retC1 Tryz.results25 ?_)| (refine wS ?_)| fail)
 exact ⟨5, by decide, rfl, rfl, rfl⟩
theorem node_7n {e : Env} (hw : WF e) {d : Nat} {rule node a dep : Int} {s : RS} (h : AtN e d rule node a dep s) (ho : (at' (at' e.core.rules rule).body node).op = 7) {q : Out × RS} (hq : Node1 e rule (at' (at' e.parts rule) node).1 a (dep + 1) (begunR e d s) q) (hk : q.1.kind ≠ 1) : Node1 e rule node a dep s (foundO a [], q.2) := by
 obtain ⟨r0, r1, n0, n1, a0, a1, hs, h0, hd, hl, hu⟩ := h
 have hD := hw.limD
 have hS := hw.limS
 have hpl := hw.parts
 have hpt : (at' e.parts rule).length = (at' e.core.rules rule).body.length := hw.part rule r0 r1
 have hb1 : (at' e.core.rules rule).body.length <= 16384 := (hw.body rule r0 r1).2
 have hin := hw.input
 have hus := hs.us
 have hud := hs.ud
 unfold begunR at hq
 rw [<- hd] at hq
 refine acalls_out ?_
 refine acalls_by Tryz.func25 Tryz.ntmps25 ?_
 simp only [argFr]
 repeat' (first| (refine aw_F ?_ (hb := dF (show ¬s.err ≠ 0 by omega)))| (refine aw_F ?_ (hb := dF (show ¬dep > e.limD by omega)))| (refine aw_F ?_ (hb := dF (show ¬s.us >= e.limS by omega)))| (refine aw_F ?_ (hb := dF (show ¬(at' (at' e.core.rules rule).body node).op = 0 by omega)))| (refine aw_F ?_ (hb := dF (show ¬(at' (at' e.core.rules rule).body node).op = 1 by omega)))| (refine aw_F ?_ (hb := dF (show ¬(at' (at' e.core.rules rule).body node).op = 3 by omega)))| (refine aw_F ?_ (hb := dF (show ¬(at' (at' e.core.rules rule).body node).op = 2 by omega)))| (refine aw_F ?_ (hb := dF (show ¬(at' (at' e.core.rules rule).body node).op = 4 by omega)))| (refine aw_F ?_ (hb := dF (show ¬(at' (at' e.core.rules rule).body node).op = 5 by omega)))| (refine aw_F ?_ (hb := dF (show ¬(at' (at' e.core.rules rule).body node).op = 6 by omega)))| (refine aw_T ?_ (hb := decide_eq_true ho))| (refine aw_F ?_ (hb := decide_eq_false hk))| (show cRet; refine kw_ownC 1 3 50 4 rfl rfl rfl rfl ?_)| (show lCall; refine k_callOut hq ?_)| (show eRet; refine retC1 Tryz.results25 ?_)| (refine wS ?_)| fail)
 exact ⟨5, by decide, rfl, rfl, rfl⟩
theorem node_8y {e : Env} (hw : WF e) {d : Nat} {rule node a dep : Int} {s : RS} (h : AtN e d rule node a dep s) (ho : (at' (at' e.core.rules rule).body node).op = 8) {q : Out × RS} (hq : Node1 e rule (at' (at' e.parts rule) node).1 a (dep + 1) (begunR e d s) q) (hk : q.1.kind = 1) (hcp : CapsOK q.1.forest) : Node1 e rule node a dep s ({ q.1 with forest := ⟨(at' (at' e.core.rules rule).body node).name, a, q.1.fin, trees q.1.forest 0 0⟩ :: q.1.forest }, q.2) := by
 obtain ⟨r0, r1, n0, n1, a0, a1, hs, h0, hd, hl, hu⟩ := h
 have hD := hw.limD
 have hS := hw.limS
 have hpl := hw.parts
 have hpt : (at' e.parts rule).length = (at' e.core.rules rule).body.length := hw.part rule r0 r1
 have hb1 : (at' e.core.rules rule).body.length <= 16384 := (hw.body rule r0 r1).2
 have hin := hw.input
 have hus := hs.us
 have hud := hs.ud
 unfold begunR at hq
 rw [<- hd] at hq
 have hwr := wrapped46_c (at' (at' e.core.rules rule).body node).name a q.1.fin q.1.forest hcp
 have htk : (q.1.forest.map encCap).take q.1.forest.length = q.1.forest.map encCap := List.take_of_length_le (by simp)
 refine acalls_out ?_
 refine acalls_by Tryz.func25 Tryz.ntmps25 ?_
 simp only [argFr]
 repeat' (first| (refine aw_F ?_ (hb := dF (show ¬s.err ≠ 0 by omega)))| (refine aw_F ?_ (hb := dF (show ¬dep > e.limD by omega)))| (refine aw_F ?_ (hb := dF (show ¬s.us >= e.limS by omega)))| (refine aw_F ?_ (hb := dF (show ¬(at' (at' e.core.rules rule).body node).op = 0 by omega)))| (refine aw_F ?_ (hb := dF (show ¬(at' (at' e.core.rules rule).body node).op = 1 by omega)))| (refine aw_F ?_ (hb := dF (show ¬(at' (at' e.core.rules rule).body node).op = 3 by omega)))| (refine aw_F ?_ (hb := dF (show ¬(at' (at' e.core.rules rule).body node).op = 2 by omega)))| (refine aw_F ?_ (hb := dF (show ¬(at' (at' e.core.rules rule).body node).op = 4 by omega)))| (refine aw_F ?_ (hb := dF (show ¬(at' (at' e.core.rules rule).body node).op = 5 by omega)))| (refine aw_F ?_ (hb := dF (show ¬(at' (at' e.core.rules rule).body node).op = 6 by omega)))| (refine aw_F ?_ (hb := dF (show ¬(at' (at' e.core.rules rule).body node).op = 7 by omega)))| (refine aw_T ?_ (hb := decide_eq_true hk))| (show lCall; first | refine k_callOut hq ?_ | refine k_lendNew hwr (.cons (.c .p) (.cons (.c .p) (.cons (.c .p) (.cons (.c (.arr (e := 50) (l := q.1.forest.map encCap) rfl (by simp) htk)) .nil)))) ?_ (flat_caps _))| (show eRet; refine retC1 Tryz.results25 ?_)| (refine wS ?_)| fail)
 exact ⟨5, by decide, rfl, rfl, rfl⟩
theorem node_8n {e : Env} (hw : WF e) {d : Nat} {rule node a dep : Int} {s : RS} (h : AtN e d rule node a dep s) (ho : (at' (at' e.core.rules rule).body node).op = 8) {q : Out × RS} (hq : Node1 e rule (at' (at' e.parts rule) node).1 a (dep + 1) (begunR e d s) q) (hk : q.1.kind ≠ 1) : Node1 e rule node a dep s q := by
 obtain ⟨r0, r1, n0, n1, a0, a1, hs, h0, hd, hl, hu⟩ := h
 have hD := hw.limD
 have hS := hw.limS
 have hpl := hw.parts
 have hpt : (at' e.parts rule).length = (at' e.core.rules rule).body.length := hw.part rule r0 r1
 have hb1 : (at' e.core.rules rule).body.length <= 16384 := (hw.body rule r0 r1).2
 have hin := hw.input
 have hus := hs.us
 have hud := hs.ud
 unfold begunR at hq
 rw [<- hd] at hq
 refine acalls_out ?_
 refine acalls_by Tryz.func25 Tryz.ntmps25 ?_
 simp only [argFr]
 repeat' (first| (refine aw_F ?_ (hb := dF (show ¬s.err ≠ 0 by omega)))| (refine aw_F ?_ (hb := dF (show ¬dep > e.limD by omega)))| (refine aw_F ?_ (hb := dF (show ¬s.us >= e.limS by omega)))| (refine aw_F ?_ (hb := dF (show ¬(at' (at' e.core.rules rule).body node).op = 0 by omega)))| (refine aw_F ?_ (hb := dF (show ¬(at' (at' e.core.rules rule).body node).op = 1 by omega)))| (refine aw_F ?_ (hb := dF (show ¬(at' (at' e.core.rules rule).body node).op = 3 by omega)))| (refine aw_F ?_ (hb := dF (show ¬(at' (at' e.core.rules rule).body node).op = 2 by omega)))| (refine aw_F ?_ (hb := dF (show ¬(at' (at' e.core.rules rule).body node).op = 4 by omega)))| (refine aw_F ?_ (hb := dF (show ¬(at' (at' e.core.rules rule).body node).op = 5 by omega)))| (refine aw_F ?_ (hb := dF (show ¬(at' (at' e.core.rules rule).body node).op = 6 by omega)))| (refine aw_F ?_ (hb := dF (show ¬(at' (at' e.core.rules rule).body node).op = 7 by omega)))| (refine aw_F ?_ (hb := decide_eq_false hk))| (show lCall; refine k_callOut hq ?_)| (show eRet; refine retC1 Tryz.results25 ?_)| (refine wS ?_)| fail)
 exact ⟨3, by decide, rfl, rfl, rfl⟩
end Go.AL
