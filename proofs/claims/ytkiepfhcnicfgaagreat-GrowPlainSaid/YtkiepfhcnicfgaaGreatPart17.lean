/-
  Part 17 of the proof: what the functions that the law reaches come to.
-/
import Derived.Test.YtkiepfhcnicfgaaGreatPart16
set_option linter.all false
set_option maxRecDepth 100000
set_option maxHeartbeats 8000000
namespace Go.AL
open Go.Proofs
attribute [local irreducible] AWp AList RStep seqQ blockQ retQ DSteps DT DU DM DZ awR rQ SStep trees
/-- What a node's step has before it. -/
structure AtN (e : Env) (d : Nat) (rule node a dep : Int) (s : RS) : Prop where
 r0 : 0 <= rule
 r1 : rule < e.core.rules.length
 n0 : 0 <= node
 n1 : node < (at' e.core.rules rule).body.length
 a0 : 0 <= a
 a1 : a <= e.input.size
 hs : RSOK e s
 h0 : s.err = 0
 hd : dep = e.limD - d
 hl : (d : Int) <= e.limD
 hu : s.us < e.limS
theorem bits_and1I (y : Int) : bits .and .u64 y 1 = 0 \/ bits .and .u64 y 1 = 1 := by
 have h2 : (BitVec.ofInt 64 (1 : Int)).toNat = 1 := by decide
 have h3 : (BitVec.ofInt 64 y &&& BitVec.ofInt 64 (1 : Int)).toNat = (BitVec.ofInt 64 y).toNat % 2 := by
  rw [BitVec.toNat_and, h2, Nat.and_one_is_mod]
 show IntKind.u64.wrap ((BitVec.ofInt 64 y &&& BitVec.ofInt 64 (1 : Int)).toNat : Int) = 0 \/ IntKind.u64.wrap ((BitVec.ofInt 64 y &&& BitVec.ofInt 64 (1 : Int)).toNat : Int) = 1
 rw [h3, wrap_u64t (by omega) (by omega)]
 omega
theorem open_has (c : Cls) (b : UInt8) : openB c b.toNat = hasB c b := by
 unfold openB bitW hasB
 rcases bits_and1I (wordOf c (b.toNat / 64) / 2 ^ (b.toNat % 64)) with h | h <;> rw [h] <;> rfl
theorem node_0 {e : Env} (hw : WF e) {d : Nat} {rule node a dep : Int} {s : RS} (h : AtN e d rule node a dep s) (ho : (at' (at' e.core.rules rule).body node).op = 0) : Node1 e rule node a dep s (foundO a [], begunR e d s) := by
 obtain ⟨r0, r1, n0, n1, a0, a1, hs, h0, hd, hl, hu⟩ := h
 have hD := hw.limD
 have hS := hw.limS
 have hpl := hw.parts
 have hpt : (at' e.parts rule).length = (at' e.core.rules rule).body.length := hw.part rule r0 r1
 have hb1 : (at' e.core.rules rule).body.length <= 16384 := (hw.body rule r0 r1).2
 have hin := hw.input
 have hus := hs.us
 have hud := hs.ud
 unfold begunR
 rw [<- hd]
 refine acalls_out ?_
 refine acalls_by Tryz.func25 Tryz.ntmps25 ?_
 simp only [argFr]
 repeat' (first| (refine aw_F ?_ (hb := dF (show ¬s.err ≠ 0 by omega)))| (refine aw_F ?_ (hb := dF (show ¬dep > e.limD by omega)))| (refine aw_F ?_ (hb := dF (show ¬s.us >= e.limS by omega)))| (refine aw_T ?_ (hb := decide_eq_true ho))| (show cRet; refine kw_ownC 1 3 50 4 rfl rfl rfl rfl ?_)| (show eRet; refine retC1 Tryz.results25 ?_)| (refine wS ?_)| fail)
 exact ⟨3, by decide, rfl, rfl, rfl⟩
theorem node_1y {e : Env} (hw : WF e) {d : Nat} {rule node a dep : Int} {s : RS} (h : AtN e d rule node a dep s) (ho : (at' (at' e.core.rules rule).body node).op = 1) (ha : a < e.input.size) {b : UInt8} (hb : e.input[a.toNat]? = some b) (hh : hasB (at' (at' e.core.rules rule).body node).cl b = true) : Node1 e rule node a dep s (foundO (a + 1) [], begunR e d s) := by
 obtain ⟨r0, r1, n0, n1, a0, a1, hs, h0, hd, hl, hu⟩ := h
 have hD := hw.limD
 have hS := hw.limS
 have hpl := hw.parts
 have hpt : (at' e.parts rule).length = (at' e.core.rules rule).body.length := hw.part rule r0 r1
 have hb1 : (at' e.core.rules rule).body.length <= 16384 := (hw.body rule r0 r1).2
 have hin := hw.input
 have hus := hs.us
 have hud := hs.ud
 have hcl := has44_c (at' (at' e.core.rules rule).body node).cl b
 have hh2 := (open_has (at' (at' e.core.rules rule).body node).cl b).trans hh
 unfold begunR
 rw [<- hd]
 refine acalls_out ?_
 refine acalls_by Tryz.func25 Tryz.ntmps25 ?_
 simp only [argFr]
 repeat' (first| (refine aw_F ?_ (hb := dF (show ¬s.err ≠ 0 by omega)))| (refine aw_F ?_ (hb := dF (show ¬dep > e.limD by omega)))| (refine aw_F ?_ (hb := dF (show ¬s.us >= e.limS by omega)))| (refine aw_F ?_ (hb := dF (show ¬(at' (at' e.core.rules rule).body node).op = 0 by omega)))| (refine aw_T ?_ (hb := decide_eq_true ho))| (refine aw_T ?_ (hb := hh2))| (show cRet; refine kw_ownC 1 3 50 4 rfl rfl rfl rfl ?_)| (show dGu; (refine ds_yes (by first | (show kCall; exact b_call (hcl)) | (show kIndex; exact b_indexStr hb)) ?_))| (show eRet; refine retC1 Tryz.results25 ?_)| (refine wS ?_)| fail)
 exact ⟨3, by decide, rfl, rfl, rfl⟩
theorem node_1n {e : Env} (hw : WF e) {d : Nat} {rule node a dep : Int} {s : RS} (h : AtN e d rule node a dep s) (ho : (at' (at' e.core.rules rule).body node).op = 1) (ha : a < e.input.size) {b : UInt8} (hb : e.input[a.toNat]? = some b) (hh : hasB (at' (at' e.core.rules rule).body node).cl b = false) : Node1 e rule node a dep s (zeroO, begunR e d s) := by
 obtain ⟨r0, r1, n0, n1, a0, a1, hs, h0, hd, hl, hu⟩ := h
 have hD := hw.limD
 have hS := hw.limS
 have hpl := hw.parts
 have hpt : (at' e.parts rule).length = (at' e.core.rules rule).body.length := hw.part rule r0 r1
 have hb1 : (at' e.core.rules rule).body.length <= 16384 := (hw.body rule r0 r1).2
 have hin := hw.input
 have hus := hs.us
 have hud := hs.ud
 have hcl := has44_c (at' (at' e.core.rules rule).body node).cl b
 have hh2 := (open_has (at' (at' e.core.rules rule).body node).cl b).trans hh
 unfold begunR
 rw [<- hd]
 refine acalls_out ?_
 refine acalls_by Tryz.func25 Tryz.ntmps25 ?_
 simp only [argFr]
 repeat' (first| (refine aw_F ?_ (hb := dF (show ¬s.err ≠ 0 by omega)))| (refine aw_F ?_ (hb := dF (show ¬dep > e.limD by omega)))| (refine aw_F ?_ (hb := dF (show ¬s.us >= e.limS by omega)))| (refine aw_F ?_ (hb := dF (show ¬(at' (at' e.core.rules rule).body node).op = 0 by omega)))| (refine aw_T ?_ (hb := decide_eq_true ho))| (refine aw_F ?_ (hb := hh2))| (show cRet; refine kw_ownC 1 3 50 4 rfl rfl rfl rfl ?_)| (show dGu; (refine ds_yes (by first | (show kCall; exact b_call (hcl)) | (show kIndex; exact b_indexStr hb)) ?_))| (show eRet; refine retC1 Tryz.results25 ?_)| (refine wS ?_)| fail)
 exact ⟨3, by decide, rfl, rfl, rfl⟩
theorem node_1e {e : Env} (hw : WF e) {d : Nat} {rule node a dep : Int} {s : RS} (h : AtN e d rule node a dep s) (ho : (at' (at' e.core.rules rule).body node).op = 1) (ha : ¬a < e.input.size) : Node1 e rule node a dep s (zeroO, begunR e d s) := by
 obtain ⟨r0, r1, n0, n1, a0, a1, hs, h0, hd, hl, hu⟩ := h
 have hD := hw.limD
 have hS := hw.limS
 have hpl := hw.parts
 have hpt : (at' e.parts rule).length = (at' e.core.rules rule).body.length := hw.part rule r0 r1
 have hb1 : (at' e.core.rules rule).body.length <= 16384 := (hw.body rule r0 r1).2
 have hin := hw.input
 have hus := hs.us
 have hud := hs.ud
 unfold begunR
 rw [<- hd]
 refine acalls_out ?_
 refine acalls_by Tryz.func25 Tryz.ntmps25 ?_
 simp only [argFr]
 repeat' (first| (refine aw_F ?_ (hb := dF (show ¬s.err ≠ 0 by omega)))| (refine aw_F ?_ (hb := dF (show ¬dep > e.limD by omega)))| (refine aw_F ?_ (hb := dF (show ¬s.us >= e.limS by omega)))| (refine aw_F ?_ (hb := dF (show ¬(at' (at' e.core.rules rule).body node).op = 0 by omega)))| (refine aw_T ?_ (hb := decide_eq_true ho))| (refine aw_F ?_ (hb := rfl))| (show cRet; refine kw_ownC 1 3 50 4 rfl rfl rfl rfl ?_)| (show eRet; refine retC1 Tryz.results25 ?_)| (refine wS ?_)| fail)
 exact ⟨3, by decide, rfl, rfl, rfl⟩
theorem node_3 {e : Env} (hw : WF e) {d : Nat} {rule node a dep : Int} {s : RS} (h : AtN e d rule node a dep s) (ho : (at' (at' e.core.rules rule).body node).op = 3) : Node1 e rule node a dep s (⟨2, a, (at' (at' e.core.rules rule).body node).name, []⟩, begunR e d s) := by
 obtain ⟨r0, r1, n0, n1, a0, a1, hs, h0, hd, hl, hu⟩ := h
 have hD := hw.limD
 have hS := hw.limS
 have hpl := hw.parts
 have hpt : (at' e.parts rule).length = (at' e.core.rules rule).body.length := hw.part rule r0 r1
 have hb1 : (at' e.core.rules rule).body.length <= 16384 := (hw.body rule r0 r1).2
 have hin := hw.input
 have hus := hs.us
 have hud := hs.ud
 unfold begunR
 rw [<- hd]
 refine acalls_out ?_
 refine acalls_by Tryz.func25 Tryz.ntmps25 ?_
 simp only [argFr]
 repeat' (first| (refine aw_F ?_ (hb := dF (show ¬s.err ≠ 0 by omega)))| (refine aw_F ?_ (hb := dF (show ¬dep > e.limD by omega)))| (refine aw_F ?_ (hb := dF (show ¬s.us >= e.limS by omega)))| (refine aw_F ?_ (hb := dF (show ¬(at' (at' e.core.rules rule).body node).op = 0 by omega)))| (refine aw_F ?_ (hb := dF (show ¬(at' (at' e.core.rules rule).body node).op = 1 by omega)))| (refine aw_T ?_ (hb := decide_eq_true ho))| (show cRet; refine kw_ownC 1 3 50 4 rfl rfl rfl rfl ?_)| (show eRet; refine retC1 Tryz.results25 ?_)| (refine wS ?_)| fail)
 exact ⟨3, by decide, rfl, rfl, rfl⟩
end Go.AL
namespace Go.AL
open Go.Proofs
attribute [local irreducible] AWp AList RStep seqQ blockQ retQ DSteps DT DU DM DZ awR rQ SStep trees
theorem node_2 {e : Env} (hw : WF e) {d : Nat} {rule node a dep : Int} {s : RS} (h : AtN e d rule node a dep s) (ho : (at' (at' e.core.rules rule).body node).op = 2) (u0 : 0 <= (at' (at' e.core.rules rule).body node).rule) (u1 : (at' (at' e.core.rules rule).body node).rule < e.core.rules.length) {q : Out × RS} (hq : Node1 e (at' (at' e.core.rules rule).body node).rule (((at' e.core.rules (at' (at' e.core.rules rule).body node).rule).body.length : Int) - 1) a (dep + 1) (begunR e d s) q) : Node1 e rule node a dep s q := by
 obtain ⟨r0, r1, n0, n1, a0, a1, hs, h0, hd, hl, hu⟩ := h
 have hD := hw.limD
 have hS := hw.limS
 have hpl := hw.parts
 have hpt : (at' e.parts rule).length = (at' e.core.rules rule).body.length := hw.part rule r0 r1
 have hb1 : (at' e.core.rules rule).body.length <= 16384 := (hw.body rule r0 r1).2
 have hin := hw.input
 have hus := hs.us
 have hud := hs.ud
 have hb2 : 0 < (at' e.core.rules (at' (at' e.core.rules rule).body node).rule).body.length /\ (at' e.core.rules (at' (at' e.core.rules rule).body node).rule).body.length <= 16384 := hw.body (at' (at' e.core.rules rule).body node).rule u0 u1
 unfold begunR at hq
 rw [<- hd] at hq
 refine acalls_out ?_
 refine acalls_by Tryz.func25 Tryz.ntmps25 ?_
 simp only [argFr]
 repeat' (first| (refine aw_F ?_ (hb := dF (show ¬s.err ≠ 0 by omega)))| (refine aw_F ?_ (hb := dF (show ¬dep > e.limD by omega)))| (refine aw_F ?_ (hb := dF (show ¬s.us >= e.limS by omega)))| (refine aw_F ?_ (hb := dF (show ¬(at' (at' e.core.rules rule).body node).op = 0 by omega)))| (refine aw_F ?_ (hb := dF (show ¬(at' (at' e.core.rules rule).body node).op = 1 by omega)))| (refine aw_F ?_ (hb := dF (show ¬(at' (at' e.core.rules rule).body node).op = 3 by omega)))| (refine aw_T ?_ (hb := decide_eq_true ho))| (show cAtD 23; refine aw_dr 18 Tryz_mixed ?_)| (show lCall; refine k_callOut hq ?_)| (show eRet; refine retC1 Tryz.results25 ?_)| (refine wS ?_)| fail)
 exact ⟨3, by decide, rfl, rfl, rfl⟩
end Go.AL
