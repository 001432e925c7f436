/-
  What is proved: for every core grammar, every text and every limits, the law dowellaw17.GrowPlain answers true, and its arguments read as they did before: of a grammar without a rule at its own head and without a star of nothing, what grow.Run tells and what it used are what the document's match tells.
  Conditions: none beyond the given statement's own.
-/
import Derived.Carry
import Derived.ChangeMaps5
import Derived.ChangeSame
import Derived.Deep.DeepHandedRow
import Derived.Deep.Slices
import Derived.JoinedAt
import Derived.JoinedOf
import Derived.Lib.SmallJoins
import Derived.OpenShut
import Derived.ProofKit
import Derived.RowKit3
import Derived.SizedLaws
import Derived.Test.YtkiepfhcnicfgaaGreatRows
import Derived.WalkKit
import Derived.Test.YtkiepfhcnicfgaaGreatPart19
set_option linter.all false
set_option maxRecDepth 100000
set_option maxHeartbeats 8000000
namespace Go.AL
open Go.Proofs
attribute [local irreducible] AWp AList RStep seqQ blockQ retQ DSteps DT DU DM DZ awR rQ SStep trees
abbrev Star1 (e : Env) (rule part a dep : Int) (s : RS) (r : Out × RS) : Prop :=
 ACalls Tryz.prog 45 [.c (.ptr 0 0), i64 rule, i64 part, i64 a, i64 dep] [.cells ((evalC e s).map .p)] (fun q σ' => q = .ret (outM1 r.1 1) /\ σ' = [.cells ((evalC e r.2).map .p), .arr 50 4 (r.1.forest.map encCap)])
abbrev preK (e : Env) (s : RS) (a : Int) (m k : Nat) : List AObj := [.cells ((evalC e s).map .p), .cells zeroC, .cells [.p (lI 1), .p (lI a), .p (lS ⟨#[]⟩), .ms m k]]
theorem star45_c {e : Env} (hw : WF e) (ho : OpsOK e) {d : Nat} (hd : (d : Int) <= e.limD) (H : NodeC e d) {rule part a dep : Int} {s : RS} {n : Nat} (r0 : 0 <= rule) (r1 : rule < e.core.rules.length) (p0 : 0 <= part) (p1 : part < (bodyOf e rule).length) (a0 : 0 <= a) (a1 : a <= e.input.size) (hs : RSOK e s) (hdep : dep = e.limD - d) (hn : e.limS - s.us < n) :
  Star1 e rule part a dep s (starR (fun a s => refD e d rule part a s) n a [] s) := by
 have hD := hw.limD
 have hS := hw.limS
 have hin := hw.input
 have hev : ∀ (a : Int) (s : RS), 0 <= a -> a <= e.input.size -> RSOK e s -> RGood e s (refD e d rule part a s) := refD_good hw ho d (by omega) rule part r0 r1 p0 p1
 refine acalls_out ?_
 refine acalls_by Tryz.func45 Tryz.ntmps45 ?_
 simp only [argFr]
 repeat' (first| (refine wS ?_)| fail)
 refine kw_ownC 2 3 50 4 (n := 3) (σ' := preK e s a 3 0 ++ [.arr 50 4 []]) rfl rfl rfl rfl ?_
 refine aw_roundsN (ι := Nat × Int × List Cap × RS) 3 (fun i n => preK e i.2.2.2 i.2.1 (n + 0) i.2.2.1.length) (fun i n => [(0, .c (.ptr 0 0)), (1, i64 rule), (2, i64 part), (4, i64 dep), (10, .c (.ptr 1 0)), (11, .c (.ptr 2 0))]) (fun i n => [.arr 50 4 (i.2.2.1.map encCap)]) (fun i => (0 <= i.2.1 /\ i.2.1 <= e.input.size) /\ RSOK e i.2.2.2 /\ (i.2.2.1.length : Int) <= i.2.2.2.us /\ (i.2.2.2.err = 0 -> e.limS - i.2.2.2.us < i.1) /\ starR (fun a s => refD e d rule part a s) i.1 i.2.1 i.2.2.1 i.2.2.2 = starR (fun a s => refD e d rule part a s) n a [] s) (fun i => i.1) (n, a, [], s) 3 (fun _ _ => rfl) ⟨⟨a0, a1⟩, hs, by have := hs.us; simp; omega, fun _ => hn, rfl⟩ (by omega) (by simp) rfl rfl (by simp [Fr.get]) ?_
 generalize starR (fun a s => refD e d rule part a s) n a [] s = R
 clear hn hs a0 a1
 rintro ⟨k, a, f, s⟩ n g ⟨⟨a0, a1⟩, hs, hfl, hn, h⟩ hg
 dsimp only at a0 a1 hs hfl hn h hg ⊢
 have hg3 : 3 + g.length = n := hg
 clear hg
 have hus := hs.us
 have hud := hs.ud
 by_cases h0 : s.err ≠ 0
 ·have hR : R = (zeroO, s) := by
   rw [<- h]
   cases k with
   | zero => rfl
   | succ k => simp only [starR]; rw [if_pos h0]
  subst hR
  clear h
  have hσ0 : ((preK e s a (n + 0) f.length ++ (g ++ [AObj.arr 50 4 (f.map encCap)])) ++ [AObj.arr 50 4 []]).set 1 (.cells (zeroC.set 3 (.ms (n + 1) 0))) = [.cells ((evalC e s).map .p), .cells [.p (lI 0), .p (lI 0), .p (lS ⟨#[]⟩), .ms (n + 1) 0], .cells [.p (lI 1), .p (lI a), .p (lS ⟨#[]⟩), .ms (n + 0) f.length]] ++ (g ++ [.arr 50 4 (f.map encCap), .arr 50 4 []]) := by rw [addG rfl]; rfl
  repeat' (first| (refine aw_F ?_ (hb := decide_eq_false h0))| (show cRet; refine kw_ownC 1 3 50 4 (n := n + 1) (σ' := [.cells ((evalC e s).map .p), .cells [.p (lI 0), .p (lI 0), .p (lS ⟨#[]⟩), .ms (n + 1) 0], .cells [.p (lI 1), .p (lI a), .p (lS ⟨#[]⟩), .ms (n + 0) f.length]] ++ (g ++ [.arr 50 4 (f.map encCap), .arr 50 4 []])) rfl rfl (lenGP (p := 3) hg3 rfl rfl) hσ0 ?_)| (show lStore; refine k_store (l' := zeroC) ?_)| (show eRet; refine retC1 Tryz.results45 ?_)| (refine wS ?_)| fail)
  exact ⟨n + 1, by omega, rfl, rfl, getGP (p := 3) hg3 rfl rfl⟩
 have h0 : s.err = 0 := by omega
 have hn := hn h0
 cases k with
 | zero => exfalso; omega
 | succ k =>
  simp only [starR] at h
  rw [if_neg (fun hq => hq h0)] at h
  have hst : Node1 e rule part a (dep + 1) s (refD e d rule part a s) := H rule part a (dep + 1) s r0 r1 p0 p1 a0 a1 hs (by omega)
  have hgo := hev a s a0 a1 hs
  have hup := refD_up hw ho (show (d : Int) <= e.limD + 1 by omega) r0 r1 p0 p1 a s a0 a1 hs h0
  generalize refD e d rule part a s = q at hst hgo hup h
  have hqf := hgo.fin
  have hql := hgo.len
  have hqu := hgo.ok.us
  have hσ1 : (preK e s a (n + 0) f.length ++ (g ++ [AObj.arr 50 4 (f.map encCap)])).set 0 (.cells ((evalC e q.2).map .p)) ++ [.arr 50 4 (q.1.forest.map encCap)] = preK e q.2 a (n + 0) f.length ++ (g ++ [AObj.arr 50 4 (f.map encCap), .arr 50 4 (q.1.forest.map encCap)]) := by simp [preK]
  have hm1 : (preK e s a (n + 0) f.length ++ (g ++ [AObj.arr 50 4 (f.map encCap)])).length = n + 1 := lenGP (p := 3) hg3 rfl rfl
  by_cases hk0 : q.1.kind = 0
  ·rw [if_pos hk0] at h
   subst h
   repeat' (first| (refine aw_T ?_ (hb := decide_eq_true h0))| (refine aw_T ?_ (hb := decide_eq_true hk0))| (show lCall; refine k_callOut hst (id := n + 1) (hm := hm1) (hσ := hσ1) ?_)| (show eRet; refine retC1 Tryz.results45 ?_)| (refine wS ?_)| fail)
   exact ⟨n + 0, by omega, rfl, rfl, getGP (p := 3) hg3 rfl rfl⟩
  rw [if_neg hk0] at h
  by_cases hk2 : q.1.kind = 2
  ·rw [if_pos hk2] at h
   subst h
   repeat' (first| (refine aw_T ?_ (hb := decide_eq_true h0))| (refine aw_F ?_ (hb := decide_eq_false hk0))| (refine aw_T ?_ (hb := decide_eq_true hk2))| (show lCall; refine k_callOut hst (id := n + 1) (hm := hm1) (hσ := hσ1) ?_)| (show eRet; refine retC1 Tryz.results45 ?_)| (refine wS ?_)| fail)
   exact ⟨n + 1, by omega, rfl, rfl, getGP (p := 3) hg3 rfl rfl⟩
  rw [if_neg hk2] at h
  have htk : (q.1.forest.map encCap).take q.1.forest.length = q.1.forest.map encCap := List.take_of_length_le (by simp)
  have hfz : [C.p (lI q.1.kind), .p (lI q.1.fin), .p (lS q.1.label), .p (.sl 4 ((q.1.forest.map encCap).take q.1.forest.length))] = [C.p (lI q.1.kind), .p (lI q.1.fin), .p (lS q.1.label), .p (.sl 4 (q.1.forest.map encCap))] := by rw [htk]
  have hσ2 : ((preK e q.2 q.1.fin (n + 0) f.length ++ (g ++ [AObj.arr 50 4 (f.map encCap), .arr 50 4 (q.1.forest.map encCap), .cells [.p (lI q.1.kind), .p (lI q.1.fin), .p (lS q.1.label), .ms (n + 1) q.1.forest.length]])).set (n + 1) .dead).set (n + 2) (.cells [.p (lI q.1.kind), .p (lI q.1.fin), .p (lS q.1.label), .p (.sl 4 (q.1.forest.map encCap))]) = preK e q.2 q.1.fin (n + 0) f.length ++ (g ++ [AObj.arr 50 4 (f.map encCap), .dead, .cells [.p (lI q.1.kind), .p (lI q.1.fin), .p (lS q.1.label), .p (.sl 4 (q.1.forest.map encCap))]]) := by
   rw [setGP (p := 3) hg3 rfl rfl, setGP (p := 3) hg3 rfl rfl]; rfl
  repeat' (first| (refine aw_T ?_ (hb := decide_eq_true h0))| (refine aw_F ?_ (hb := decide_eq_false hk0))| (refine aw_F ?_ (hb := decide_eq_false hk2))| (show cAt 10; refine kw_freezeIn (n + 1) (n + 2) 3 (getGP (p := 3) hg3 rfl rfl) (getGP (p := 3) hg3 rfl rfl) rfl (by simp) hfz hσ2 ?_; refine aw_reg ?_)| (show lCall; first | refine k_callOut hst (id := n + 1) (hm := hm1) (hσ := hσ1) ?_ | refine k_appSl (f := encCap) (xs := f) (ys := q.1.forest) ?_)| (refine wS ?_)| fail)
  exact ⟨(k, q.1.fin, f ++ q.1.forest, q.2), n + 3, ⟨hqf, hgo.ok, by dsimp only; rw [List.length_append]; push_cast; omega, fun hz => by have := hup hz; dsimp only; omega, h⟩, by omega, by simp; omega, by rw [List.length_append]; rfl, dropGP (p := 3) hg3 (by rw [List.take_length]; rfl) rfl, by simp [Fr.get], by dsimp only; omega⟩
end Go.AL
namespace Go.AL
open Go.Proofs
attribute [local irreducible] AWp AList RStep seqQ blockQ retQ DSteps DT DU DM DZ awR rQ SStep trees
theorem node_6 {e : Env} (hw : WF e) {d : Nat} {rule node a dep : Int} {s : RS} (h : AtN e d rule node a dep s) (ho : (at' (at' e.core.rules rule).body node).op = 6) {q : Out × RS} (hq : Star1 e rule (at' (at' e.parts rule) node).1 a dep (begunR e d s) q) : Node1 e rule node a dep s q := by
 obtain ⟨r0, r1, n0, n1, a0, a1, hs, h0, hd, hl, hu⟩ := h
 have hD := hw.limD
 have hS := hw.limS
 have hpl := hw.parts
 have hpt : (at' e.parts rule).length = (at' e.core.rules rule).body.length := hw.part rule r0 r1
 have hb1 : (at' e.core.rules rule).body.length <= 16384 := (hw.body rule r0 r1).2
 have hin := hw.input
 have hus := hs.us
 have hud := hs.ud
 unfold begunR at hq
 rw [<- hd] at hq
 refine acalls_out ?_
 refine acalls_by Tryz.func25 Tryz.ntmps25 ?_
 simp only [argFr]
 repeat' (first| (refine aw_F ?_ (hb := dF (show ¬s.err ≠ 0 by omega)))| (refine aw_F ?_ (hb := dF (show ¬dep > e.limD by omega)))| (refine aw_F ?_ (hb := dF (show ¬s.us >= e.limS by omega)))| (refine aw_F ?_ (hb := dF (show ¬(at' (at' e.core.rules rule).body node).op = 0 by omega)))| (refine aw_F ?_ (hb := dF (show ¬(at' (at' e.core.rules rule).body node).op = 1 by omega)))| (refine aw_F ?_ (hb := dF (show ¬(at' (at' e.core.rules rule).body node).op = 3 by omega)))| (refine aw_F ?_ (hb := dF (show ¬(at' (at' e.core.rules rule).body node).op = 2 by omega)))| (refine aw_F ?_ (hb := dF (show ¬(at' (at' e.core.rules rule).body node).op = 4 by omega)))| (refine aw_F ?_ (hb := dF (show ¬(at' (at' e.core.rules rule).body node).op = 5 by omega)))| (refine aw_T ?_ (hb := decide_eq_true ho))| (show lCall; refine k_callOut hq ?_)| (show eRet; refine retC1 Tryz.results25 ?_)| (refine wS ?_)| fail)
 exact ⟨3, by decide, rfl, rfl, rfl⟩
/-- node, to every depth. -/
theorem node_c {e : Env} (hw : WF e) (ho : OpsOK e) : ∀ d : Nat, (d : Int) <= e.limD + 1 -> NodeC e d
 | 0, hd, rule, node, a, dep, s, r0, r1, n0, n1, a0, a1, hs, hdep => by
  simp only [refD]
  by_cases h0 : s.err ≠ 0
  ·rw [if_pos h0]; exact node_err rule node a dep s h0
  ·rw [if_neg h0]; exact node_deep hw rule node a dep s (by omega) (by omega)
 | d + 1, hd, rule, node, a, dep, s, r0, r1, n0, n1, a0, a1, hs, hdep => by
  simp only [refD]
  by_cases h0 : s.err ≠ 0
  ·rw [if_pos h0]; exact node_err rule node a dep s h0
  rw [if_neg h0]
  by_cases hus : s.us >= e.limS
  ·rw [if_pos hus]; exact node_full hw rule node a dep s (by omega) (by omega) hus
  rw [if_neg hus]
  have hS := hw.limS
  have hD := hw.limD
  have h1 := hs.us
  have h2 := hs.ud
  have hA : AtN e d rule node a dep s := ⟨r0, r1, n0, n1, a0, a1, hs, by omega, by omega, by omega, by omega⟩
  have ih := node_c hw ho d (by omega)
  have hgd := refD_good hw ho d (by omega)
  have hkd := refD_kids hw ho d (by omega)
  have hb : RSOK e (begunR e d s) := ⟨by unfold begunR; dsimp only; omega, by unfold begunR; dsimp only; omega⟩
  have hbe : (begunR e d s).err = 0 := by show s.err = 0; omega
  have hop := ho rule node r0 r1 n0 n1
  have hru := hw.rule rule node r0 r1 n0 n1
  have htw := hw.two rule node r0 r1 n0 n1
  have hon := hw.one rule node r0 r1 n0 n1
  unfold stepR
  by_cases o0 : (at' (bodyOf e rule) node).op = 0
  ·rw [if_pos o0]; exact node_0 hw hA o0
  rw [if_neg o0]
  by_cases o1 : (at' (bodyOf e rule) node).op = 1
  ·rw [if_pos o1]
   by_cases ha : a < e.input.size
   ·rw [if_pos ha]
    have hlt : a.toNat < e.input.size := by omega
    obtain ⟨b, hbq⟩ : ∃ b, e.input[a.toNat]? = some b := ⟨e.input[a.toNat], getElem?_pos e.input a.toNat hlt⟩
    rw [hbq]
    dsimp only
    cases hh : hasB (at' (bodyOf e rule) node).cl b with
    | true => rw [if_pos rfl]; exact node_1y hw hA o1 ha hbq hh
    | false => rw [if_neg (by decide)]; exact node_1n hw hA o1 ha hbq hh
   ·rw [if_neg ha]; exact node_1e hw hA o1 ha
  rw [if_neg o1]
  by_cases o3 : (at' (bodyOf e rule) node).op = 3
  ·rw [if_pos o3]; exact node_3 hw hA o3
  rw [if_neg o3]
  by_cases o2 : (at' (bodyOf e rule) node).op = 2
  ·rw [if_pos o2]
   obtain ⟨u0, u1⟩ := hru o2
   have hbl : 0 < (bodyOf e (at' (bodyOf e rule) node).rule).length /\ (bodyOf e (at' (bodyOf e rule) node).rule).length <= 16384 := hw.body _ u0 u1
   exact node_2 hw hA o2 u0 u1 (ih _ (lastOf e (at' (bodyOf e rule) node).rule) a (dep + 1) (begunR e d s) u0 u1 (by show 0 <= ((bodyOf e (at' (bodyOf e rule) node).rule).length : Int) - 1; omega) (by show ((bodyOf e (at' (bodyOf e rule) node).rule).length : Int) - 1 < ((bodyOf e (at' (bodyOf e rule) node).rule).length : Int); omega) a0 a1 hb (by omega))
  rw [if_neg o2]
  by_cases o4 : (at' (bodyOf e rule) node).op = 4
  ·rw [if_pos o4]
   obtain ⟨⟨p0, p1⟩, p2, p3⟩ := htw (.inl o4)
   have hq := ih rule _ a (dep + 1) (begunR e d s) r0 r1 p0 p1 a0 a1 hb (by omega)
   have hg := hgd rule _ r0 r1 p0 p1 a (begunR e d s) a0 a1 hb
   generalize refD e d rule (at' (at' e.parts rule) node).1 a (begunR e d s) = q at hq hg ⊢
   by_cases k1 : q.1.kind ≠ 1
   ·rw [if_pos k1]; exact node_4n hw hA o4 hq k1
   rw [if_neg k1]
   have hq2 := ih rule _ q.1.fin (dep + 1) q.2 r0 r1 p2 p3 hg.fin.1 hg.fin.2 hg.ok (by omega)
   have hg2 := hgd rule _ r0 r1 p2 p3 q.1.fin q.2 hg.fin.1 hg.fin.2 hg.ok
   generalize refD e d rule (at' (at' e.parts rule) node).2 q.1.fin q.2 = q2 at hq2 hg2 ⊢
   have l1 := hg.len
   have l2 := hg2.len
   have l3 := hg.ok.us
   have l4 := hg2.ok.us
   have l5 := hb.us
   by_cases k2 : q2.1.kind = 1
   ·rw [if_pos k2]; exact node_4y hw hA o4 hq (by omega) hq2 k2 (by omega) (by omega)
   ·rw [if_neg k2]; exact node_4m hw hA o4 hq (by omega) hq2 k2
  rw [if_neg o4]
  by_cases o5 : (at' (bodyOf e rule) node).op = 5
  ·rw [if_pos o5]
   obtain ⟨⟨p0, p1⟩, p2, p3⟩ := htw (.inr o5)
   have hq := ih rule _ a (dep + 1) (begunR e d s) r0 r1 p0 p1 a0 a1 hb (by omega)
   have hg := hgd rule _ r0 r1 p0 p1 a (begunR e d s) a0 a1 hb
   generalize refD e d rule (at' (at' e.parts rule) node).1 a (begunR e d s) = q at hq hg ⊢
   by_cases k1 : q.1.kind ≠ 0
   ·rw [if_pos k1]; exact node_5y hw hA o5 hq k1
   rw [if_neg k1]
   exact node_5n hw hA o5 hq (by omega) (ih rule _ a (dep + 1) q.2 r0 r1 p2 p3 a0 a1 hg.ok (by omega))
  rw [if_neg o5]
  obtain ⟨p0, p1⟩ := hon (by omega)
  by_cases o6 : (at' (bodyOf e rule) node).op = 6
  ·rw [if_pos o6]
   exact node_6 hw hA o6 (star45_c hw ho (by omega) ih r0 r1 p0 p1 a0 a1 hb (by omega) ((fun x : Int => by omega : ∀ x : Int, x < ((x.toNat + 1 : Nat) : Int)) _))
  rw [if_neg o6]
  have hq := ih rule _ a (dep + 1) (begunR e d s) r0 r1 p0 p1 a0 a1 hb (by omega)
  have hg := hgd rule _ r0 r1 p0 p1 a (begunR e d s) a0 a1 hb
  have hkk := hkd rule _ r0 r1 p0 p1 a (begunR e d s) a0 a1 hb
  generalize refD e d rule (at' (at' e.parts rule) node).1 a (begunR e d s) = q at hq hg hkk ⊢
  by_cases o7 : (at' (bodyOf e rule) node).op = 7
  ·rw [if_pos o7]
   by_cases k1 : q.1.kind = 1
   ·rw [if_pos k1]; exact node_7y hw hA o7 hq k1
   ·rw [if_neg k1]; exact node_7n hw hA o7 hq k1
  rw [if_neg o7]
  have o8 : (at' (bodyOf e rule) node).op = 8 := by omega
  by_cases k1 : q.1.kind = 1
  ·rw [if_pos k1]; exact node_8y hw hA o8 hq k1 (good_caps hw hb hg hkk)
  ·rw [if_neg k1]; exact node_8n hw hA o8 hq k1
end Go.AL
namespace Go.AL
open Go.Proofs
attribute [local irreducible] AWp AList RStep seqQ blockQ retQ DSteps DT DU DM DZ awR rQ SStep trees
abbrev preG (c : Core) (input : ByteArray) (D S : Int) (m k : Nat) : List AObj := [.cells [.p (rulesP c.rules), .p (lI c.start)], .cells [.p (lI D), .p (lI S)], .cells [.p (rulesP c.rules), .p (lI c.start), .ms m k, .p (lS input), .p (lI (clampI D 32768)), .p (lI (clampI S 1048576)), .p (lI 0), .p (lI 0), .p (lI 0)]]
theorem begin23_c {c : Core} (hR : Right c) (input : ByteArray) (D S : Int) (hin : input.size <= 65536) : ACalls Tryz.prog 23 [coreV c, strA input, .agg [.p (lI D), .p (lI S)]] [] (fun q σ' => q = .ret (.c (.ptr 2 0)) /\ ∃ g, σ' = [.cells [.p (rulesP c.rules), .p (lI c.start)], .cells [.p (lI D), .p (lI S)], .cells ((evalC (envR c input D S) ⟨0, 0, 0⟩).map .p)] ++ g) := by
 have hnr : 0 < c.rules.length /\ c.rules.length <= 256 := hR.nr
 have hpl : (psM c).length = c.rules.length := by simp [psM]
 have hcl := clamp43_c D S
 refine acalls_by Tryz.func23 Tryz.ntmps23 ?_
 simp only [argFr]
 repeat' (first| (show cAtD 1; refine aw_dr 5 Tryz_mixed ?_)| (show dOp; refine ds_op (by (show kCall; exact b_call (hcl))) ?_)| (refine wS ?_)| fail)
 refine kw_ownC 2 2 29 1 (n := 3) (σ' := preG c input D S 3 0 ++ [.arr 29 1 []]) rfl rfl rfl rfl ?_
 refine aw_roundsN (ι := Nat) 3 (fun i n => preG c input D S (n + 0) i) (fun i n => [(1, strA input), (3, .c (.ptr 0 0)), (7, .c (.ptr 2 0)), (8, i64 i)]) (fun i n => [.arr 29 1 (((psM c).take i).map encPs)]) (fun i => i <= c.rules.length) (fun i => c.rules.length - i) 0 3 (fun _ _ => rfl) (by omega) (by omega) (by simp) rfl rfl (by simp [Fr.get]) ?_
 rintro i n g h1 hg
 have hg3 : 3 + g.length = n := hg
 clear hg
 by_cases hi : i < c.rules.length
 ·obtain ⟨pt, p1, p2, p3, p4, p5⟩ := rule_at hR hi
  have hbl := hR.size _ (at'_memI (l := c.rules) (x := (i : Int)) (by omega) (by omega))
  have hpc := parts32_c (at' c.rules (i : Int)).body (by omega) _ p2
  have hti : i <= ((psM c).take i).length := by rw [List.length_take]; omega
  have hlt : ((psM c).take i).take i ++ [pt] = (psM c).take (i + 1) := by
   rw [List.take_take, Nat.min_self, List.take_add_one, at'_getElem? (by omega), p3]; rfl
  have hst : (preG c input D S (n + 0) i ++ (g ++ [AObj.dead, .arr 29 1 ((((psM c).take i).take i ++ [pt]).map encPs)])).set 2 (.cells [.p (rulesP c.rules), .p (lI c.start), .ms (n + 1) (i + 1), .p (lS input), .p (lI (clampI D 32768)), .p (lI (clampI S 1048576)), .p (lI 0), .p (lI 0), .p (lI 0)]) = preG c input D S (n + 1) (i + 1) ++ (g ++ [AObj.dead, .arr 29 1 ((((psM c).take i).take i ++ [pt]).map encPs)]) := rfl
  repeat' (first| (refine aw_T ?_ (hb := eT))| (show cAtD 5; refine' aw_dt 14 13 (preG c input D S (n + 0) i ++ (g ++ [AObj.dead, .arr 29 1 ((((psM c).take i).take i ++ [pt]).map encPs)])) Tryz_mixed _)| (show lStore; refine k_store (l' := [.p (rulesP c.rules), .p (lI c.start), .ms (n + 1) (i + 1), .p (lS input), .p (lI (clampI D 32768)), .p (lI (clampI S 1048576)), .p (lI 0), .p (lI 0), .p (lI 0)]) ?_ (hσ := hst))| (show tNil; refine dt_nil ?_)| (show tSome; first | refine dt_turn (by exact t_app1 (f := encPs) pt (hn := hti)) ?_ | (refine dt_pre (by first | (show kCall; exact b_call (hpc)) | exact rS) (by decide +kernel) ?_) | refine dt_pre2 (by exact rS) (by exact rS) ?_)| (refine wS ?_)| fail)
  rw [hlt]
  exact ⟨i + 1, n + 1, by omega, by omega, by simp; omega, rfl, dropGP (p := 3) hg3 rfl rfl, by simp [Fr.get], by omega⟩
 ·have : i = c.rules.length := by omega
  subst this
  have htk : ((psM c).take c.rules.length).map encPs = (psM c).map encPs := by rw [List.take_of_length_le (by omega)]
  have hfz : [C.p (rulesP c.rules), .p (lI c.start), .p (.sl 1 ((((psM c).take c.rules.length).map encPs).take c.rules.length)), .p (lS input), .p (lI (clampI D 32768)), .p (lI (clampI S 1048576)), .p (lI 0), .p (lI 0), .p (lI 0)] = (evalC (envR c input D S) ⟨0, 0, 0⟩).map .p := by
   rw [htk, List.take_of_length_le (by rw [List.length_map]; omega)]; rfl
  have hσf : ((preG c input D S (n + 0) c.rules.length ++ (g ++ [AObj.arr 29 1 (((psM c).take c.rules.length).map encPs)])).set (n + 0) .dead).set 2 (.cells ((evalC (envR c input D S) ⟨0, 0, 0⟩).map .p)) = [.cells [.p (rulesP c.rules), .p (lI c.start)], .cells [.p (lI D), .p (lI S)], .cells ((evalC (envR c input D S) ⟨0, 0, 0⟩).map .p)] ++ (g ++ [.dead]) := by
   rw [setGP (p := 3) hg3 rfl rfl]; rfl
  have hln : c.rules.length <= (((psM c).take c.rules.length).map encPs).length := by rw [List.length_map, List.length_take]; omega
  repeat' (first| (refine aw_F ?_ (hb := eF))| (show cAt 6; refine kw_freezeIn (n + 0) 2 2 (getGP (p := 3) hg3 rfl rfl) rfl rfl hln hfz hσf ?_; refine aw_reg ?_)| (show eRet; refine ret1 Tryz.results23 ?_)| (refine wS ?_)| fail)
  exact ⟨rfl, _, rfl⟩
end Go.AL
namespace Go.AL
open Go.Proofs
attribute [local irreducible] AWp AList RStep seqQ blockQ retQ DSteps DT DU DM DZ awR rQ SStep trees
theorem told24_ok (e : Env) (s : RS) (o : Out) (h0 : s.err = 0) : ACalls Tryz.prog 24 [.c (.ptr 0 0), outM1 o 1] [.cells ((evalC e s).map .p), .arr 50 4 (o.forest.map encCap)] (fun q σ' => q = .ret (.tup [outM1 o 1, usedV s.ud s.us, i64 0]) /\ ∃ g, σ' = [.cells ((evalC e s).map .p), .arr 50 4 (o.forest.map encCap)] ++ g) := by
 refine acalls_by Tryz.func24 Tryz.ntmps24 ?_
 simp only [argFr]
 repeat' (first| (refine aw_F ?_ (hb := dF (show ¬s.err ≠ 0 by omega)))| (show cAtD 3; refine' aw_dt 6 5 [.cells ((evalC e s).map .p), .arr 50 4 (o.forest.map encCap), .cells [.p (lI o.kind), .p (lI o.fin), .p (lS o.label), .ms 1 o.forest.length], .cells [.p (lI o.kind), .p (lI o.fin), .p (lS o.label), .ms 1 o.forest.length], .cells [.p (lI 0), .p (lI 0)]] Tryz_mixed _)| (refine retC3 Tryz.results24 ?_)| (show tNil; refine dt_nil ?_)| (show tNone; refine dt_turnN (by exact t_store (hσ := rfl)) ?_)| (show tSome; first | refine dt_pre (by exact rS) (by decide +kernel) ?_ | refine dt_pre2 (by exact rS) (by exact rS) ?_)| (refine wS ?_)| fail)
 exact ⟨rfl, _, rfl⟩
theorem told24_bad (e : Env) (s : RS) (o : Out) (h0 : s.err ≠ 0) : ACalls Tryz.prog 24 [.c (.ptr 0 0), outM1 o 1] [.cells ((evalC e s).map .p), .arr 50 4 (o.forest.map encCap)] (fun q σ' => q = .ret (.tup [zeroOV, usedV 0 0, i64 s.err]) /\ ∃ g, σ' = [.cells ((evalC e s).map .p), .arr 50 4 (o.forest.map encCap)] ++ g) := by
 refine acalls_by Tryz.func24 Tryz.ntmps24 ?_
 simp only [argFr]
 repeat' (first| (refine aw_T ?_ (hb := decide_eq_true h0))| (show cAtD 2; refine aw_dr 8 Tryz_mixed ?_)| (refine retC3 Tryz.results24 ?_)| (show DSteps _ _ _ _ _ _ (Oper.mk none _ _ _ _ none :: _) _; refine ds_opN b_storeSame ?_)| (refine wS ?_)| fail)
 exact ⟨rfl, _, rfl⟩
end Go.AL
namespace Go.AL
open Go.Proofs
attribute [local irreducible] AWp AList RStep seqQ blockQ retQ DSteps DT DU DM DZ awR rQ SStep trees
theorem run9_long (c : Core) (hc : CoreIn c) (h0 : checkI c = 0) (input : ByteArray) (D S : Int) (hl : 65536 < input.size) : ACalls Tryz.prog 9 [coreV c, strA input, .agg [.p (lI D), .p (lI S)]] [] (fun q _ => q = .ret (.tup [zeroOV, usedV 0 0, i64 1])) := by
 have hk := check14_c c hc
 rw [h0] at hk
 refine acalls_by Tryz.func9 Tryz.ntmps9 ?_
 simp only [argFr]
 repeat' (first| (refine aw_F ?_ (hb := dF (show ¬(0 : Int) ≠ 0 by omega)))| (refine aw_T ?_ (hb := dT (show (input.size : Int) > 65536 by omega)))| (refine retC3 Tryz.results9 ?_)| (show lOp; refine op0 (by (show kCall; exact b_call (hk))) ?_)| (refine wS ?_)| fail)
 rfl
abbrev preR9 (c : Core) (input : ByteArray) (D S : Int) (s : RS) : List AObj := [.cells [.p (rulesP c.rules), .p (lI c.start)], .cells [.p (lI D), .p (lI S)], .cells zeroC, .cells [.p (lI 0), .p (lI 0)], .cells [.p (rulesP c.rules), .p (lI c.start)], .cells [.p (lI D), .p (lI S)], .cells ((evalC (envR c input D S) s).map .p)]
theorem node_gb {e : Env} {rule node a dep : Int} {s : RS} {q : Out × RS} (h : Node1 e rule node a dep s q) : ACalls Tryz.prog 25 [.c (.ptr 0 0), i64 rule, i64 node, i64 a, i64 dep] [.cells ((evalC e s).map .p)] (fun r σ' => r = .ret (outM1 q.1 1) /\ ∃ gb, σ' = [.cells ((evalC e q.2).map .p), .arr 50 4 (q.1.forest.map encCap)] ++ gb) :=
 h.mono fun r σ' ⟨h1, h2⟩ => ⟨h1, [], by rw [h2, List.append_nil]⟩
theorem run9_ok (c : Core) (hc : CoreIn c) (h0 : checkI c = 0) (input : ByteArray) (D S : Int) (hin : input.size <= 65536) {q : Out × RS} (hn : Node1 (envR c input D S) c.start (((at' c.rules c.start).body.length : Int) - 1) 0 1 ⟨0, 0, 0⟩ q) (he : q.2.err = 0) :
  ACalls Tryz.prog 9 [coreV c, strA input, .agg [.p (lI D), .p (lI S)]] [] (fun r _ => r = .ret (.tup [outV q.1, usedV q.2.ud q.2.us, i64 0])) := by
 have hR := right_of h0
 have hst := hR.start
 have hbl := hR.size _ (at'_memI (l := c.rules) (x := c.start) (by omega) (by omega))
 have hbp := rightL_pos (hR.right _ (at'_memI (l := c.rules) (x := c.start) (by omega) (by omega)))
 have hk := check14_c c hc
 rw [h0] at hk
 have hbg := begin23_c hR input D S hin
 have hn' := node_gb hn
 have htd := told24_ok (envR c input D S) q.2 q.1 he
 have hp1 : PassL (ren1 [(6, 0)]) 1 (preR9 c input D S ⟨0, 0, 0⟩) [(6, 0)] [.cells ((evalC (envR c input D S) ⟨0, 0, 0⟩).map .p)] := ⟨⟨_, rfl, _, rfl, by simp, rfl, rfl⟩, trivial⟩
 have hb1 : back (ren2 [(6, 0)] (preR9 c input D S ⟨0, 0, 0⟩).length) (preR9 c input D S ⟨0, 0, 0⟩) [(6, 0)] [.cells ((evalC (envR c input D S) q.2).map .p), .arr 50 4 (q.1.forest.map encCap)] = (preR9 c input D S q.2 ++ [AObj.arr 50 4 (q.1.forest.map encCap)]) ++ [] := rfl
 have hp2 : PassL (ren1 [(6, 0), (7, 0)]) 2 (preR9 c input D S q.2 ++ [AObj.arr 50 4 (q.1.forest.map encCap)]) [(6, 0), (7, 0)] [.cells ((evalC (envR c input D S) q.2).map .p), .arr 50 4 (q.1.forest.map encCap)] := ⟨⟨_, rfl, _, rfl, by simp, rfl, rfl⟩, ⟨_, rfl, rfl⟩, trivial⟩
 have hb2 : back (ren2 [(6, 0), (7, 0)] (preR9 c input D S q.2 ++ [AObj.arr 50 4 (q.1.forest.map encCap)]).length) (preR9 c input D S q.2 ++ [AObj.arr 50 4 (q.1.forest.map encCap)]) [(6, 0), (7, 0)] [.cells ((evalC (envR c input D S) q.2).map .p), .arr 50 4 (q.1.forest.map encCap)] = (preR9 c input D S q.2 ++ [AObj.arr 50 4 (q.1.forest.map encCap)]) ++ [] := rfl
 have htk : (q.1.forest.map encCap).take q.1.forest.length = q.1.forest.map encCap := List.take_of_length_le (by simp)
 have hfz : [C.p (lI q.1.kind), .p (lI q.1.fin), .p (lS q.1.label), .p (.sl 4 ((q.1.forest.map encCap).take q.1.forest.length))] = [C.p (lI q.1.kind), .p (lI q.1.fin), .p (lS q.1.label), .p (.sl 4 (q.1.forest.map encCap))] := by rw [htk]
 refine acalls_by Tryz.func9 Tryz.ntmps9 ?_
 simp only [argFr]
 repeat' (first| (refine aw_F ?_ (hb := dF (show ¬(0 : Int) ≠ 0 by omega)))| (refine aw_F ?_ (hb := dF (show ¬(input.size : Int) > 65536 by omega)))| (show lAt 23; refine k_callR [] hbg trivial (by simp) (by rfl) (σ' := preR9 c input D S ⟨0, 0, 0⟩) rfl ?_)| (show cAtD 6; refine aw_x 13 14 [0,1,2,3,4,5,6,7,8,9,10,11,12,13,14,15,16,17] [18,19,20] (preR9 c input D S q.2 ++ [AObj.arr 50 4 (q.1.forest.map encCap)]) (preR9 c input D S q.2 ++ [AObj.arr 50 4 (q.1.forest.map encCap)]) Tryz_mixed ?_)| (show cRet; refine kw_freezeIn 7 2 3 rfl rfl rfl (by simp) hfz rfl ?_)| (refine retC3 Tryz.results9 ?_)| (show lOp; refine op0 (by (show kCall; exact b_call (hk))) ?_)| (show DX _ _ _ _ _ _ _ _ _ _ [] _ _; refine dx_nil ?_)| (show DX _ _ _ _ _ _ _ _ _ _ _ (Oper.mk (some _) _ _ _ _ none :: _) _; first | refine dx_turn1 (by exact t_callR [(6, 0)] hn' hp1 (by decide) (by rfl) hb1) ?_ | refine dx_turn2 (by exact t_callR [(6, 0), (7, 0)] htd hp2 (by decide) (by rfl) hb2) ?_ | refine dx_pre (by exact rS) (by decide +kernel) (by decide +kernel) ?_ | refine dx_post (by exact rS) (by decide +kernel) (by decide +kernel) ?_ | refine dx_pre2 (by exact rS) (by exact rS) (by decide +kernel) ?_)| (refine wS ?_)| fail)
 rfl
theorem run9_stop (c : Core) (hc : CoreIn c) (h0 : checkI c = 0) (input : ByteArray) (D S : Int) (hin : input.size <= 65536) {q : Out × RS} (hn : Node1 (envR c input D S) c.start (((at' c.rules c.start).body.length : Int) - 1) 0 1 ⟨0, 0, 0⟩ q) (he : q.2.err ≠ 0) :
  ACalls Tryz.prog 9 [coreV c, strA input, .agg [.p (lI D), .p (lI S)]] [] (fun r _ => r = .ret (.tup [zeroOV, usedV 0 0, i64 q.2.err])) := by
 have hR := right_of h0
 have hst := hR.start
 have hbl := hR.size _ (at'_memI (l := c.rules) (x := c.start) (by omega) (by omega))
 have hbp := rightL_pos (hR.right _ (at'_memI (l := c.rules) (x := c.start) (by omega) (by omega)))
 have hk := check14_c c hc
 rw [h0] at hk
 have hbg := begin23_c hR input D S hin
 have hn' := node_gb hn
 have htd := told24_bad (envR c input D S) q.2 q.1 he
 have hp1 : PassL (ren1 [(6, 0)]) 1 (preR9 c input D S ⟨0, 0, 0⟩) [(6, 0)] [.cells ((evalC (envR c input D S) ⟨0, 0, 0⟩).map .p)] := ⟨⟨_, rfl, _, rfl, by simp, rfl, rfl⟩, trivial⟩
 have hb1 : back (ren2 [(6, 0)] (preR9 c input D S ⟨0, 0, 0⟩).length) (preR9 c input D S ⟨0, 0, 0⟩) [(6, 0)] [.cells ((evalC (envR c input D S) q.2).map .p), .arr 50 4 (q.1.forest.map encCap)] = (preR9 c input D S q.2 ++ [AObj.arr 50 4 (q.1.forest.map encCap)]) ++ [] := rfl
 have hp2 : PassL (ren1 [(6, 0), (7, 0)]) 2 (preR9 c input D S q.2 ++ [AObj.arr 50 4 (q.1.forest.map encCap)]) [(6, 0), (7, 0)] [.cells ((evalC (envR c input D S) q.2).map .p), .arr 50 4 (q.1.forest.map encCap)] := ⟨⟨_, rfl, _, rfl, by simp, rfl, rfl⟩, ⟨_, rfl, rfl⟩, trivial⟩
 have hb2 : back (ren2 [(6, 0), (7, 0)] (preR9 c input D S q.2 ++ [AObj.arr 50 4 (q.1.forest.map encCap)]).length) (preR9 c input D S q.2 ++ [AObj.arr 50 4 (q.1.forest.map encCap)]) [(6, 0), (7, 0)] [.cells ((evalC (envR c input D S) q.2).map .p), .arr 50 4 (q.1.forest.map encCap)] = (preR9 c input D S q.2 ++ [AObj.arr 50 4 (q.1.forest.map encCap)]) ++ [] := rfl
 refine acalls_by Tryz.func9 Tryz.ntmps9 ?_
 simp only [argFr]
 repeat' (first| (refine aw_F ?_ (hb := dF (show ¬(0 : Int) ≠ 0 by omega)))| (refine aw_F ?_ (hb := dF (show ¬(input.size : Int) > 65536 by omega)))| (show lAt 23; refine k_callR [] hbg trivial (by simp) (by rfl) (σ' := preR9 c input D S ⟨0, 0, 0⟩) rfl ?_)| (show cAtD 6; refine aw_x 13 14 [0,1,2,3,4,5,6,7,8,9,10,11,12,13,14,15,16,17] [18,19,20] (preR9 c input D S q.2 ++ [AObj.arr 50 4 (q.1.forest.map encCap)]) (preR9 c input D S q.2 ++ [AObj.arr 50 4 (q.1.forest.map encCap)]) Tryz_mixed ?_)| (refine retC3 Tryz.results9 ?_)| (show lOp; refine op0 (by (show kCall; exact b_call (hk))) ?_)| (show DX _ _ _ _ _ _ _ _ _ _ [] _ _; refine dx_nil ?_)| (show DX _ _ _ _ _ _ _ _ _ _ _ (Oper.mk (some _) _ _ _ _ none :: _) _; first | refine dx_turn1 (by exact t_callR [(6, 0)] hn' hp1 (by decide) (by rfl) hb1) ?_ | refine dx_turn2 (by exact t_callR [(6, 0), (7, 0)] htd hp2 (by decide) (by rfl) hb2) ?_ | refine dx_pre (by exact rS) (by decide +kernel) (by decide +kernel) ?_ | refine dx_post (by exact rS) (by decide +kernel) (by decide +kernel) ?_ | refine dx_pre2 (by exact rS) (by exact rS) (by decide +kernel) ?_)| (refine wS ?_)| fail)
 rfl
end Go.AL
namespace Go.AL
open Go.Proofs
attribute [local irreducible] AWp AList RStep seqQ blockQ retQ DSteps DT DU DM DZ awR rQ SStep letterB digitB preB nameOk anyB rightL checkI
theorem capsNil26_c : ACalls Tryz.prog 26 [.c (.p (.lit (.slice none 0 0))), .c (.p (.lit (.slice none 0 0)))] [] (fun r _ => r = .ret (bl true)) := by
 refine acalls_by Tryz.func26 Tryz.ntmps26 ?_
 simp only [argFr]
 repeat' (first| (refine aw_F ?_ (hb := eF))| (show rRnd; refine r_succ ?_)| (show rRq; refine rq_exit ?_)| (show cLoop; refine aw_unroll 1 ?_)| (show eRet; refine ret1 Tryz.results26 ?_)| (refine wS ?_)| fail)
 rfl
theorem outsZero10_c : ACalls Tryz.prog 10 [zeroOV, zeroOV] [] (fun r _ => r = .ret (bl true)) := by
 refine acalls_by Tryz.func10 Tryz.ntmps10 ?_
 simp only [argFr]
 repeat' (first| (show lOp; refine op0 (by (show kCall; exact b_call (capsNil26_c))) ?_)| (show eRet; refine ret1 Tryz.results10 ?_)| (refine wS ?_)| fail)
 all_goals first | rfl | exact absurd rfl h
theorem plain_heavy (c : Core) (hc : CoreBig c) (hh : heavyB c = true) (input : ByteArray) (D S : Int) : ACalls Tryz.prog 3 [coreV c, strA input, .agg [.p (lI D), .p (lI S)]] [] (fun q _ => q = .ret (bl true)) := by
 have h9 := heavy_c c hc
 rw [hh] at h9
 refine acalls_by Tryz.func3 Tryz.ntmps3 ?_
 simp only [argFr]
 repeat' (first| (show lOp; refine op0 (by (show kCall; first | exact b_call (works_c) | exact b_call (h9))) ?_)| (show eRet; refine ret1 Tryz.results3 ?_)| (refine wS ?_)| fail)
 rfl
theorem plain_err1 (c : Core) (hc : CoreBig c) (hh : heavyB c = false) (input : ByteArray) (D S e f : Int) {x y : PV} (he : e ≠ 0)
  (h6 : ACalls Tryz.prog 6 [coreV c] [] (fun q _ => q = .ret (.tup [.c (.p x), i64 e])))
  (h7 : ACalls Tryz.prog 7 [coreV c] [] (fun q _ => q = .ret (.tup [.c (.p y), i64 f]))) : ACalls Tryz.prog 3 [coreV c, strA input, .agg [.p (lI D), .p (lI S)]] [] (fun q _ => q = .ret (bl true)) := by
 have h9 := heavy_c c hc
 rw [hh] at h9
 refine acalls_by Tryz.func3 Tryz.ntmps3 ?_
 simp only [argFr]
 repeat' (first| (show lOp; refine op0 (by (show kCall; first | exact b_call (works_c) | exact b_call (h9) | exact b_call (h6) | exact b_call (h7))) ?_)| (show eRet; refine ret1 Tryz.results3 ?_)| (refine wS ?_)| fail)
 all_goals rfl
theorem plain_err2 (c : Core) (hc : CoreBig c) (hh : heavyB c = false) (input : ByteArray) (D S f : Int) {x y : PV} (he : f ≠ 0)
  (h6 : ACalls Tryz.prog 6 [coreV c] [] (fun q _ => q = .ret (.tup [.c (.p x), i64 0])))
  (h7 : ACalls Tryz.prog 7 [coreV c] [] (fun q _ => q = .ret (.tup [.c (.p y), i64 f]))) : ACalls Tryz.prog 3 [coreV c, strA input, .agg [.p (lI D), .p (lI S)]] [] (fun q _ => q = .ret (bl true)) := by
 have h9 := heavy_c c hc
 rw [hh] at h9
 refine acalls_by Tryz.func3 Tryz.ntmps3 ?_
 simp only [argFr]
 repeat' (first| (show lOp; refine op0 (by (show kCall; first | exact b_call (works_c) | exact b_call (h9) | exact b_call (h6) | exact b_call (h7))) ?_)| (show eRet; refine ret1 Tryz.results3 ?_)| (refine wS ?_)| fail)
 all_goals rfl
theorem plain_star (c : Core) (hc : CoreBig c) (hh : heavyB c = false) (input : ByteArray) (D S : Int) {l : List (Int × Int)} {y : PV} (hl : 0 < l.length)
  (h6 : ACalls Tryz.prog 6 [coreV c] [] (fun q _ => q = .ret (.tup [.c (.p (.sl 2 (l.map encP2))), i64 0])))
  (h7 : ACalls Tryz.prog 7 [coreV c] [] (fun q _ => q = .ret (.tup [.c (.p y), i64 0]))) : ACalls Tryz.prog 3 [coreV c, strA input, .agg [.p (lI D), .p (lI S)]] [] (fun q _ => q = .ret (bl true)) := by
 have h9 := heavy_c c hc
 rw [hh] at h9
 refine acalls_by Tryz.func3 Tryz.ntmps3 ?_
 simp only [argFr]
 repeat' (first| (show lOp; refine op0 (by (show kCall; first | exact b_call (works_c) | exact b_call (h9) | exact b_call (h6) | exact b_call (h7))) ?_)| (show eRet; refine ret1 Tryz.results3 ?_)| (refine wS ?_)| (show lGu; refine al_splitD (fun h => ?_) (fun h => ?_))| (exfalso; omega))
 all_goals rfl
theorem plain_same (c : Core) (hc : CoreBig c) (hh : heavyB c = false) (input : ByteArray) (D S ud us : Int) (o : Out) (hf : o.forest.length <= 1000000000) {r : List Int}
  (h6 : ACalls Tryz.prog 6 [coreV c] [] (fun q _ => q = .ret (.tup [.c (.p (.sl 2 ([] : List (List PV)))), i64 0])))
  (h7 : ACalls Tryz.prog 7 [coreV c] [] (fun q _ => q = .ret (.tup [.c (.p (.sl 1 (r.map encI1))), i64 0])))
  (h1 : ACalls Tryz.prog 8 [coreV c, strA input, .agg [.p (lI D), .p (lI S)]] [] (fun q _ => q = .ret (.tup [outV o, usedV ud us, i64 0])))
  (h2 : ACalls Tryz.prog 9 [coreV c, strA input, .agg [.p (lI D), .p (lI S)]] [] (fun q _ => q = .ret (.tup [outV o, usedV ud us, i64 0]))) : ACalls Tryz.prog 3 [coreV c, strA input, .agg [.p (lI D), .p (lI S)]] [] (fun q _ => q = .ret (bl true)) := by
 have h9 := heavy_c c hc
 rw [hh] at h9
 have h11 := outs11_c o hf
 refine acalls_by Tryz.func3 Tryz.ntmps3 ?_
 simp only [argFr]
 repeat' (first| (show lOp; refine op0 (by (show kCall; first | exact b_call (works_c) | exact b_call (h9) | exact b_call (h6) | exact b_call (h7) | exact b_call (h1) | exact b_call (h2) | exact b_call (h11))) ?_)| (show eRet; refine ret1 Tryz.results3 ?_)| (refine wS ?_)| (show lGu; refine al_split (fun h => ?_) (fun h => ?_))| (show cIf; refine aw_ifD (fun h => ?_) (fun h => ?_)))
 all_goals first | rfl | (exfalso; simp at h; done)
theorem plain_zero (c : Core) (hc : CoreBig c) (hh : heavyB c = false) (input : ByteArray) (D S code : Int) {r : List Int}
  (h6 : ACalls Tryz.prog 6 [coreV c] [] (fun q _ => q = .ret (.tup [.c (.p (.sl 2 ([] : List (List PV)))), i64 0])))
  (h7 : ACalls Tryz.prog 7 [coreV c] [] (fun q _ => q = .ret (.tup [.c (.p (.sl 1 (r.map encI1))), i64 0])))
  (h1 : ACalls Tryz.prog 8 [coreV c, strA input, .agg [.p (lI D), .p (lI S)]] [] (fun q _ => q = .ret (.tup [zeroOV, usedV 0 0, i64 code])))
  (h2 : ACalls Tryz.prog 9 [coreV c, strA input, .agg [.p (lI D), .p (lI S)]] [] (fun q _ => q = .ret (.tup [zeroOV, usedV 0 0, i64 code]))) : ACalls Tryz.prog 3 [coreV c, strA input, .agg [.p (lI D), .p (lI S)]] [] (fun q _ => q = .ret (bl true)) := by
 have h9 := heavy_c c hc
 rw [hh] at h9
 refine acalls_by Tryz.func3 Tryz.ntmps3 ?_
 simp only [argFr]
 repeat' (first| (show lOp; refine op0 (by (show kCall; first | exact b_call (works_c) | exact b_call (h9) | exact b_call (h6) | exact b_call (h7) | exact b_call (h1) | exact b_call (h2) | exact b_call (outsZero10_c))) ?_)| (show eRet; refine ret1 Tryz.results3 ?_)| (refine wS ?_)| (show lGu; refine al_splitD (fun h => ?_) (fun h => ?_))| (show cIf; refine aw_ifD (fun h => ?_) (fun h => ?_))| (exfalso; omega))
 all_goals first | rfl | (exfalso; simp at h; done)
end Go.AL
namespace Go.AL
open Go.Proofs
attribute [local irreducible] letterB digitB preB nameOk anyB rightL checkI starsM rankM
/-- GrowPlain, of every input whose grammar is not too large to be counted. -/
theorem growPlain_c (c : Core) (hc : CoreBig c) (input : ByteArray) (D S : Int) :
  ACalls Tryz.prog 3 [coreV c, strA input, .agg [.p (lI D), .p (lI S)]] [] (fun q _ => q = .ret (bl true)) := by
 cases hh : heavyB c with
 | true => exact plain_heavy c hc hh input D S
 | false =>
  have hci := hc.light hh
  have hcl := hc.cls
  by_cases h0 : checkI c = 0
  ·obtain ⟨R, hD⟩ := doc_of h0 hcl
   have h6 := stars6_c c hci (psM c) R hD.rules hD.star
   by_cases hw : ∃ k : Nat, k < c.rules.length /\ at' (farM (toM c (psM c) R) (k : Int)) (k : Int) ≠ 0
   ·exact plain_err2 c hc hh input D S 110 (by decide) h6 (ranks_way c hci (psM c) R hD.rules hD.two hw)
   have hw : ∀ k : Nat, k < c.rules.length -> at' (farM (toM c (psM c) R) (k : Int)) (k : Int) = 0 := fun k hk => by
    by_cases h : at' (farM (toM c (psM c) R) (k : Int)) (k : Int) = 0
    ·exact h
    ·exact absurd ⟨k, hk, h⟩ hw
   have h7 := ranks7_c c hci (psM c) R hD.rules hD.two hw
   by_cases hst : starsM c (psM c) R = []
   ·rw [hst] at h6
    obtain ⟨I, hF, hB⟩ := plain_of hci h0 hcl hD hw hst
    by_cases hin : 65536 < input.size
    ·exact plain_zero c hc hh input D S 1 h6 h7 (run_long c I _ input D S hF hB hin) (run9_long c hci h0 input D S hin)
    have hin : input.size <= 65536 := by omega
    have hR := right_of h0
    have hst0 := hR.start
    have hwf := wfR hR input D S hin
    have hop := opsR hR input D S
    have hRI := runIn_of hF (by simp) h0 D S hin hB
    have hbd : 0 < (at' c.rules c.start).body.length /\ (at' c.rules c.start).body.length <= 16384 := hwf.body c.start hst0.1 hst0.2
    have hLD := hwf.limD
    have hLS := hwf.limS
    have hd : (((clampI D 32768).toNat : Nat) : Int) = (envR c input D S).limD := Int.toNat_of_nonneg hLD.1
    have hd1 : (((clampI D 32768).toNat : Nat) : Int) <= (envR c input D S).limD + 1 := by rw [hd]; exact Int.le_add_one (Int.le_refl _)
    have hd2 : (1 : Int) = (envR c input D S).limD + 1 - (((clampI D 32768).toNat : Nat) : Int) := by rw [hd]; generalize (envR c input D S).limD = z; omega
    have n0 : 0 <= lastOf (envR c input D S) c.start := by show 0 <= ((at' c.rules c.start).body.length : Int) - 1; omega
    have n1 : lastOf (envR c input D S) c.start < (at' c.rules c.start).body.length := by show ((at' c.rules c.start).body.length : Int) - 1 < ((at' c.rules c.start).body.length : Int); omega
    have hs0 : RSOK (envR c input D S) ⟨0, 0, 0⟩ := ⟨⟨Int.le_refl _, hLS.1⟩, ⟨Int.le_refl _, by decide⟩⟩
    have a1 : (0 : Int) <= (envR c input D S).input.size := by omega
    have hrel := refD_rel hwf hop (headsR c) [] (clampI D 32768).toNat hd1 c.start _ hst0.1 hst0.2 n0 n1 0 ⟨0, 0, 0⟩ (Int.le_refl _) a1 hs0 rfl
    have hnd := node_c hwf hop (clampI D 32768).toNat hd1 c.start _ 0 1 ⟨0, 0, 0⟩ hst0.1 hst0.2 n0 n1 (Int.le_refl _) a1 hs0 hd2
    have hgd := refD_good hwf hop (clampI D 32768).toNat hd1 c.start _ hst0.1 hst0.2 n0 n1 0 ⟨0, 0, 0⟩ (Int.le_refl _) a1 hs0
    have hpar := congrFun (congrFun (evalD_parts hR (D := D) (S := S) hin (clampI D 32768).toNat c.start _ hst0.1 hst0.2 n0 n1) 0) ⟨0, 0, []⟩
    cases he : evalD (envM c (noHeads c) input D S) (clampI D 32768).toNat c.start (lastOf (envM c (noHeads c) input D S) c.start) 0 ⟨0, 0, []⟩ with
    | ok o s' =>
     have hD1 : 1 <= clampI D 32768 := by
      by_cases h : 1 <= clampI D 32768
      ·exact h
      ·have : (clampI D 32768).toNat = 0 := by omega
       rw [this] at he
       cases he
     have he2 : evalD (envR c input D S) (clampI D 32768).toNat c.start (lastOf (envR c input D S) c.start) 0 ⟨0, 0, []⟩ = .ok o s' := hpar.symm.trans he
     have hrel2 : RelR [] (evalD (envR c input D S) (clampI D 32768).toNat c.start (lastOf (envR c input D S) c.start) 0 ⟨0, 0, []⟩) (refD (envR c input D S) (clampI D 32768).toNat c.start (lastOf (envR c input D S) c.start) 0 ⟨0, 0, 0⟩) := hrel
     rw [he2] at hrel2
     obtain ⟨hq, hsd⟩ := hrel2
     rw [hq] at hnd hgd
     have hle := hgd.len
     have hus := hgd.ok.us
     have hus2 : s'.us <= 1048576 := Int.le_trans hus.2 hLS.2
     have hle2 : (o.forest.length : Int) <= s'.us - 0 := hle
     exact plain_same c hc hh input D S s'.ud s'.us o (by omega) h6 h7 (run_c c I _ input D S hRI hD1 o s' he) (run9_ok c hci h0 input D S hin hnd rfl)
    | stop code s' =>
     have he2 : evalD (envR c input D S) (clampI D 32768).toNat c.start (lastOf (envR c input D S) c.start) 0 ⟨0, 0, []⟩ = .stop code s' := hpar.symm.trans he
     have hrel2 : RelR [] (evalD (envR c input D S) (clampI D 32768).toNat c.start (lastOf (envR c input D S) c.start) 0 ⟨0, 0, []⟩) (refD (envR c input D S) (clampI D 32768).toNat c.start (lastOf (envR c input D S) c.start) 0 ⟨0, 0, 0⟩) := hrel
     rw [he2] at hrel2
     obtain ⟨hq, hcd⟩ := hrel2
     have h9 := run9_stop c hci h0 input D S hin hnd (by omega)
     rw [hq] at h9
     exact plain_zero c hc hh input D S code h6 h7 (run_p c I _ input D S hRI code s' he) h9
   ·have hl : 0 < (starsM c (psM c) R).length := List.length_pos_iff.2 hst
    exact plain_star c hc hh input D S hl h6 h7
  ·exact plain_err1 c hc hh input D S 6 6 (by decide) (stars_bad c hci h0) (ranks_bad c hci h0)
end Go.AL
namespace Go.AL
open Go.Proofs Go.ChangeShapes Go.WideShapes Go.RowKit Go.ChangeAt Go.Deep
open Go.ChangeMaps (open_string shut_string)
abbrev FW (W : World) : Nat -> Nat -> Prop := fun b k => b < W.heap.size
theorem weights_mem {H : Type} {P : Program} {e : TypeId} {p : Nat -> Bool} {d : DataW H} : ∀ {l : List (DataW H)}, d ∈ l -> (DataW.weightsAll P e l).all p = true -> (DataW.weights P e d).all p = true
 | [], h, _ => by cases h
 | a :: l, h, hw => by
  simp only [DataW.weightsAll, List.all_append, Bool.and_eq_true] at hw
  rcases List.mem_cons.1 h with rfl | h
  ·exact hw.1
  ·exact weights_mem h hw.2
section
variable {H : Type} {enc : TypeId × Value -> H} {W : World}
theorem sl_came {α : Type} [Inhabited α] (encA : α -> List PV) (G : α -> Prop) {t e : TypeId} {sz : Nat} (ht : Tryz.prog.underlying t = some (.slice e)) (hc : Tryz.prog.cellsOf e = sz) (hp : 0 < sz) (hb : 0 < Tryz.prog.bytesOf e)
  (one : ∀ n cs x, DataW.trod enc Tryz.prog W 0 (fun _ => true) true n e cs = some x -> (DataW.weights Tryz.prog e x.1).all (· <= reachBytes) = true -> ∃ p : α, cs.length = sz /\ (encA p).length = sz /\ (∀ (j : Nat) u y, cs[j]? = some u -> (encA p)[j]? = some y -> RP W (FW W) y u) /\ G p)
  {fuel : Nat} {cs : List Value} {x : DataW H × List MemPlace} (h : DataW.trod enc Tryz.prog W 0 (fun _ => true) true fuel t cs = some x) (hw : (DataW.weights Tryz.prog t x.1).all (· <= reachBytes) = true) :
  ∃ (xs : List α) (v : Value), cs = [v] /\ RP W (FW W) (.sl sz (xs.map encA)) v /\ (∀ p ∈ xs, G p) /\ xs.length <= reachBytes := by
 rcases open_slice ht h with ⟨rfl, rfl⟩ | ⟨a, len, cap, m, n, D, Pl, rfl, _, hl, _, hm, rfl, hel⟩
 ·exact ⟨[], _, rfl, .sl0 .., by simp, by simp⟩
 ·simp only [DataW.weights, ht, List.all_cons, List.all_append, Bool.and_eq_true] at hw
  obtain ⟨hw0, hw1, _⟩ := hw
  have hw0 := of_decide_eq_true hw0
  rw [List.length_map, List.length_range] at hw0
  have hlen : len <= reachBytes := by
   refine Nat.le_trans ?_ hw0
   exact Nat.le_trans (Nat.le_add_right _ _) (Nat.le_mul_of_pos_right _ hb)
  by_cases h0 : len = 0
  ·subst h0; exact ⟨[], _, rfl, .sl0 .., by simp, by simp⟩
  have hm' : m = cap := by simpa using hm
  subst hm'
  have key : ∀ i, i < len -> ∃ p : α × List Value, p.2.length = sz /\ (encA p.1).length = sz /\ (∀ (j : Nat) u, p.2[j]? = some u -> W.cell? ((a.add (i * sz)).add j) = some u) /\ (∀ (j : Nat) u y, p.2[j]? = some u -> (encA p.1)[j]? = some y -> RP W (FW W) y u) /\ G p.1 := fun i hi => by
   obtain ⟨cs', g1, g2⟩ := hel i (by omega)
   obtain ⟨p, q1, q2, q3, q4⟩ := one _ _ _ g2 (weights_mem (List.mem_map.2 ⟨i, List.mem_range.2 hi, rfl⟩) hw1)
   rw [hc] at g1
   obtain ⟨_, _, g3⟩ := World.cells?_some g1
   refine ⟨(p, cs'), q1, q2, fun j u hj => ?_, q3, q4⟩
   have hlt : j < sz := by
    have := (List.getElem?_eq_some_iff.1 hj).1
    rw [q1] at this; exact this
   rw [g3 j hlt, hj]
  obtain ⟨V, hV⟩ := choose_lt key
  obtain ⟨b, o, sp⟩ := a
  have hs : sp = none := by
   obtain ⟨z1, z2, z3, z4, z5⟩ := hV 0 (by omega)
   have hz : (V 0).2[0]? = some ((V 0).2[0]'(by omega)) := List.getElem?_eq_getElem (by omega)
   have := z3 0 _ hz
   simp only [Nat.zero_mul, Addr.add, if_true, World.cell?] at this
   split at this
   ·split at this
    ·cases this
    ·rename_i hn; simpa using hn
   ·cases this
  subst hs
  have hV' : ∀ i, i < len -> ∀ (j : Nat) u, (V i).2[j]? = some u -> W.cell? ⟨b, o + (i * sz + j), none⟩ = some u := fun i hi j u hj => by
   have := (hV i hi).2.2.1 j u hj
   rw [add_add] at this
   rw [add_plain'] at this
   exact this
  have hll : (((List.range len).map fun i => (V i).1).map encA).length = len := by simp
  have hcell : ∀ j, j < len * sz -> (V (j / sz)).2[j % sz]? = some ((V (j / sz)).2.getD (j % sz) undef) /\ j / sz < len := fun j hj => by
   have h5 : j % sz < sz := Nat.mod_lt _ hp
   have h6 : j / sz < len := Nat.div_lt_of_lt_mul (by rw [Nat.mul_comm]; exact hj)
   have : j % sz < (V (j / sz)).2.length := by rw [(hV _ h6).1]; exact h5
   refine ⟨?_, h6⟩
   rw [List.getD_eq_getElem?_getD, List.getElem?_eq_getElem this]; rfl
  refine ⟨(List.range len).map fun i => (V i).1, _, rfl, ?_, fun p hp' => ?_, by simpa using hlen⟩
  ·have key2 := RP.sl (w := W) (F := FW W) (b := b) (o := o) (cap := m) (sz := sz) (l := ((List.range len).map fun i => (V i).1).map encA) (fun j => (V (j / sz)).2.getD (j % sz) undef) (by rw [hll]; exact hl) (fun e he => ?_) (fun j hj => ?_) (fun j hj => ?_) (fun i e he j x hx => ?_)
   ·rw [hll] at key2; exact key2
   ·simp only [List.mem_map, List.mem_range] at he
    obtain ⟨p, ⟨i, hi, rfl⟩, rfl⟩ := he
    exact (hV i hi).2.1
   ·rw [hll] at hj
    obtain ⟨h7, h6⟩ := hcell j hj
    have := hV' _ h6 _ _ h7
    exact World.block_lt_of_cell? W _ this
   ·rw [hll] at hj
    obtain ⟨h7, h6⟩ := hcell j hj
    have := hV' _ h6 _ _ h7
    rw [show j / sz * sz + j % sz = j from Nat.div_add_mod' j sz] at this
    exact this
   ·rw [List.getElem?_map, List.getElem?_map, Option.map_eq_some_iff] at he
    obtain ⟨p, hp', rfl⟩ := he
    rw [Option.map_eq_some_iff] at hp'
    obtain ⟨i', hi', rfl⟩ := hp'
    obtain ⟨hi3, hi4⟩ := List.getElem?_eq_some_iff.1 hi'
    rw [List.getElem_range] at hi4
    subst hi4
    have hi : i < len := by simpa using hi3
    obtain ⟨z1, z2, z3, z4, z5⟩ := hV i hi
    have hj5 : j < sz := by rw [<- z2]; exact (List.getElem?_eq_some_iff.1 hx).1
    have e1 : (i * sz + j) / sz = i := by rw [Nat.mul_comm, Nat.mul_add_div hp, Nat.div_eq_of_lt hj5, Nat.add_zero]
    have e2 : (i * sz + j) % sz = j := by rw [Nat.mul_comm, Nat.mul_add_mod, Nat.mod_eq_of_lt hj5]
    rw [e1, e2]
    refine z4 j _ x ?_ hx
    rw [List.getD_eq_getElem?_getD, List.getElem?_eq_getElem (by omega)]; rfl
  ·simp only [List.mem_map, List.mem_range] at hp'
   obtain ⟨i, hi, rfl⟩ := hp'
   exact (hV i hi).2.2.2.2
theorem okW_of {z : Int} (h : (Lit.int IntKind.u64 z).wf = true) : okW z := by
 simp only [Lit.wf] at h
 have e0 : IntKind.u64.min = 0 := by decide
 have e1 : IntKind.u64.max = 18446744073709551615 := by decide
 simp [e0, e1] at h
 exact ⟨by omega, by omega⟩
def okNode (n : Node) : Prop := okC' n.cl /\ n.name.size <= reachBytes
def okRule (r : Rule) : Prop := r.name.size <= reachBytes /\ r.body.length <= reachBytes /\ ∀ n ∈ r.body, okNode n
theorem one_node (n : Nat) (cs : List Value) (x : DataW H × List MemPlace) (h : DataW.trod enc Tryz.prog W 0 (fun _ => true) true n 62 cs = some x) (hw : (DataW.weights Tryz.prog 62 x.1).all (· <= reachBytes) = true) :
  ∃ p : Node, cs.length = 7 /\ (encNode p).length = 7 /\ (∀ (j : Nat) u y, cs[j]? = some u -> (encNode p)[j]? = some y -> RP W (FW W) y u) /\ okNode p := by
 have hc : Tryz.prog.cellsOf 62 = 7 := by kernel_rfl
 have hc3 : Tryz.prog.cellsOf 3 = 1 := by kernel_rfl
 have hc59 : Tryz.prog.cellsOf 60 = 4 := by kernel_rfl
 have hc23 : Tryz.prog.cellsOf 58 = 1 := by kernel_rfl
 have hc9 : Tryz.prog.cellsOf 9 = 1 := by kernel_rfl
 obtain ⟨y0, y1, y2, y3, m, rfl, hl, h0, h1, h2, h3⟩ := Joins.trod_struct4 Tryz.underlying62 h
 rw [hc] at hl
 obtain ⟨op, he, _⟩ := DataW.trod_int Tryz.underlying3 h0
 obtain ⟨ru, he2, _⟩ := DataW.trod_int Tryz.underlying3 h2
 obtain ⟨nm, he3, hx3, _⟩ := DataW.trod_string Tryz.underlying9 h3
 obtain ⟨xs, m', _, _, hl1, hxl, h1⟩ := DataW.trod_array Tryz.underlying60 h1
 match cs, hl with
 | [a, b0, b1, b2, b3, r0, s0], _ =>
  simp only [hc3, hc59, hc9, hc23, List.drop_zero, List.take_succ_cons, List.take_zero, List.drop_succ_cons, Nat.mul_one] at he he2 he3 h1
  have hu : ∀ i, i < 4 -> ∀ v, ((([b0, b1, b2, b3] : List Value).drop i).take 1) = [v] -> ∃ z, v = .int .u64 z /\ okW z := fun i hi v hv => by
   have := h1 i hi
   rw [hv] at this
   rw [List.getElem?_eq_getElem (by omega)] at this
   obtain ⟨z, hz, _, hwf⟩ := DataW.trod_int Tryz.underlying58 this
   injection hz with hz
   exact ⟨z, hz, okW_of hwf⟩
  obtain ⟨z0, rfl, w0⟩ := hu 0 (by omega) b0 rfl
  obtain ⟨z1, rfl, w1⟩ := hu 1 (by omega) b1 rfl
  obtain ⟨z2, rfl, w2⟩ := hu 2 (by omega) b2 rfl
  obtain ⟨z3, rfl, w3⟩ := hu 3 (by omega) b3 rfl
  injection he with he _
  injection he2 with he2 _
  injection he3 with he3 _
  subst he
  subst he2
  subst he3
  refine ⟨⟨op, ⟨z0, z1, z2, z3⟩, ru, nm⟩, rfl, rfl, fun j u y hj hy => ?_, ⟨w0, w1, w2, w3⟩, ?_⟩
  ·match j, hj, hy with
   | 0, hj, hy => injection hj with hj; injection hy with hy; subst hj; subst hy; exact .lit rfl
   | 1, hj, hy => injection hj with hj; injection hy with hy; subst hj; subst hy; exact .lit rfl
   | 2, hj, hy => injection hj with hj; injection hy with hy; subst hj; subst hy; exact .lit rfl
   | 3, hj, hy => injection hj with hj; injection hy with hy; subst hj; subst hy; exact .lit rfl
   | 4, hj, hy => injection hj with hj; injection hy with hy; subst hj; subst hy; exact .lit rfl
   | 5, hj, hy => injection hj with hj; injection hy with hy; subst hj; subst hy; exact .lit rfl
   | 6, hj, hy => injection hj with hj; injection hy with hy; subst hj; subst hy; exact .lit rfl
   | n + 7, hj, _ => cases hj
  ·subst hx3
   simp only [DataW.weights, Tryz.underlying62, DataW.weightsEach, Array.toList_map, List.map_cons, List.map_nil, List.all_append, Bool.and_eq_true, List.all_cons] at hw
   have hz := of_decide_eq_true hw.2.2.2.1.1
   simpa using hz
theorem one_rule (n : Nat) (cs : List Value) (x : DataW H × List MemPlace) (h : DataW.trod enc Tryz.prog W 0 (fun _ => true) true n 57 cs = some x) (hw : (DataW.weights Tryz.prog 57 x.1).all (· <= reachBytes) = true) :
  ∃ p : Rule, cs.length = 2 /\ (encRule p).length = 2 /\ (∀ (j : Nat) u y, cs[j]? = some u -> (encRule p)[j]? = some y -> RP W (FW W) y u) /\ okRule p := by
 have hc : Tryz.prog.cellsOf 57 = 2 := by kernel_rfl
 have hc55 : Tryz.prog.cellsOf 55 = 1 := by kernel_rfl
 have hc9 : Tryz.prog.cellsOf 9 = 1 := by kernel_rfl
 obtain ⟨y0, y1, m, rfl, hl, h0, h1⟩ := trod_struct2 Tryz.underlying57 h
 rw [hc] at hl
 obtain ⟨nm, he, hx0, _⟩ := DataW.trod_string Tryz.underlying9 h0
 simp only [DataW.weights, Tryz.underlying57, DataW.weightsEach, List.map_cons, List.map_nil, List.all_append, Bool.and_eq_true, List.all_cons] at hw
 match cs, hl with
 | [a, b], _ =>
  simp only [hc9, hc55, List.drop_zero, List.take_succ_cons, List.take_zero, List.drop_succ_cons] at he h1
  injection he with he _
  subst he
  obtain ⟨xs, v, hv, hrp, hG, hlen⟩ := sl_came encNode okNode Tryz.underlying55 (by kernel_rfl) (by decide) (by rw [show Tryz.prog.bytesOf 62 = 64 from by kernel_rfl]; decide) one_node h1 hw.2.1
  injection hv with hv _
  subst hv
  refine ⟨⟨nm, xs⟩, rfl, rfl, fun j u y hj hy => ?_, ?_, hlen, hG⟩
  ·match j, hj, hy with
   | 0, hj, hy => injection hj with hj; injection hy with hy; subst hj; subst hy; exact .lit rfl
   | 1, hj, hy => injection hj with hj; injection hy with hy; subst hj; subst hy; exact hrp
   | n + 2, hj, _ => cases hj
  ·subst hx0
   have hw1 := hw.1
   simp only [DataW.weights, List.all_cons, Bool.and_eq_true] at hw1
   have hz := of_decide_eq_true hw1.1
   simpa using hz
theorem core_came {v : Value} {r : Reach} {b0 : Nat} {d : DataW H} {ps : List MemPlace} (hval : Value.okWide Tryz.prog W r b0 24 v) (h : DataW.Trod enc Tryz.prog W 0 (fun _ => true) true 24 v d ps) (hw : (DataW.weights Tryz.prog 24 d).all (· <= reachBytes) = true) :
  ∃ c : Core, RV [] W (FW W) (coreV c) v /\ c.rules.length <= reachBytes /\ ∀ r ∈ c.rules, okRule r := by
 have hc : Tryz.prog.cellsOf 24 = 2 := by kernel_rfl
 have hc33 : Tryz.prog.cellsOf 22 = 1 := by kernel_rfl
 have hc3 : Tryz.prog.cellsOf 3 = 1 := by kernel_rfl
 obtain ⟨fuel, h⟩ := h
 unfold Value.okWide at hval
 rw [Tryz.underlying24] at hval
 obtain ⟨cs, rfl, hsz, _⟩ := hval
 obtain ⟨y0, y1, m, hx, hl, h0, h1⟩ := trod_struct2 Tryz.underlying24 h
 injection hx with hx _
 subst hx
 simp only [DataW.weights, Tryz.underlying24, DataW.weightsEach, List.map_cons, List.map_nil, List.all_append, Bool.and_eq_true] at hw
 obtain ⟨l⟩ := cs
 simp only [Value.cells] at hl h0 h1
 rw [hc] at hl
 match l, hl with
 | [a, b], _ =>
  simp only [hc3, hc33, List.drop_zero, List.take_succ_cons, List.take_zero, List.drop_succ_cons] at h0 h1
  obtain ⟨z, hz, _⟩ := DataW.trod_int Tryz.underlying3 h1
  injection hz with hz _
  subst hz
  obtain ⟨xs, v, hv, hrp, hG, hlen⟩ := sl_came encRule okRule Tryz.underlying22 (by kernel_rfl) (by decide) (by rw [show Tryz.prog.bytesOf 57 = 40 from by kernel_rfl]; decide) one_rule h0 hw.1
  injection hv with hv _
  subst hv
  refine ⟨⟨xs, z⟩, ⟨_, rfl, rfl, fun j x hj => ?_⟩, hlen, hG⟩
  match j, hj with
  | 0, hj => injection hj with hj; subst hj; exact hrp
  | 1, hj => injection hj with hj; subst hj; exact RP.lit rfl
  | n + 2, hj => cases hj
theorem lim_came {v : Value} {r : Reach} {b0 : Nat} {d : DataW H} {ps : List MemPlace} (hval : Value.okWide Tryz.prog W r b0 26 v) (h : DataW.Trod enc Tryz.prog W 0 (fun _ => true) true 26 v d ps) :
  ∃ D S : Int, RV [] W (FW W) (.agg [.p (lI D), .p (lI S)]) v := by
 have hc : Tryz.prog.cellsOf 26 = 2 := by kernel_rfl
 have hc3 : Tryz.prog.cellsOf 3 = 1 := by kernel_rfl
 obtain ⟨fuel, h⟩ := h
 unfold Value.okWide at hval
 rw [Tryz.underlying26] at hval
 obtain ⟨cs, rfl, hsz, _⟩ := hval
 obtain ⟨y0, y1, m, hx, hl, h0, h1⟩ := trod_struct2 Tryz.underlying26 h
 obtain ⟨l⟩ := cs
 simp only [Value.cells] at hl h0 h1
 rw [hc] at hl
 match l, hl with
 | [a, b], _ =>
  simp only [hc3, List.drop_zero, List.take_succ_cons, List.take_zero, List.drop_succ_cons] at h0 h1
  obtain ⟨z, hz, _⟩ := DataW.trod_int Tryz.underlying3 h0
  obtain ⟨z', hz', _⟩ := DataW.trod_int Tryz.underlying3 h1
  injection hz with hz _
  subst hz
  injection hz' with hz' _
  subst hz'
  refine ⟨z, z', _, rfl, rfl, fun j x hj => ?_⟩
  match j, hj with
  | 0, hj => injection hj with hj; subst hj; exact RP.lit rfl
  | 1, hj => injection hj with hj; subst hj; exact RP.lit rfl
  | n + 2, hj => cases hj
end
theorem big_of {c : Core} (h1 : c.rules.length <= reachBytes) (h2 : ∀ r ∈ c.rules, okRule r) : CoreBig c := ⟨h1, h2⟩
end Go.AL
namespace Go.AL
open Go.Proofs Go.ChangeShapes Go.WideShapes Go.RowKit Go.ChangeAt Go.Deep
open Go.ChangeMaps (open_string shut_string)
theorem start_nil (W : World) : Inv [] (fun b k => b < W.heap.size) [] W := by
 have hfp : ∀ b k, ¬ FP [] [] b k := by
  rintro b k ⟨j, o, l, g1, g2, g3⟩
  cases j <;> cases g1
 refine ⟨rfl, fun b k hf => hf, fun b k hf => absurd hf (hfp b k), fun j o l g1 g2 => ?_, fun i j o l o' l' hne g1 _ g3 _ => ?_, fun b k hf hF => hfp b k hf⟩
 ·cases j <;> cases g1
 ·cases i <;> cases g1
theorem post_below {H : Type} {enc : TypeId × Value -> H} {P : Program} {f : Func} {s : ChangeSpec} {apart fresh handsOn again : Bool} {W W' : World} {args : Array Value} {v : Value} {ds gs : List (DataW H)} {before pa pv : List MemPlace}
  (hW : DataW.Whole enc P f.params.toList s.vars apart W args.toList ds gs before)
  (hres : ∀ (b : Nat) (sp : Nat -> Bool) (hd : Bool), DataW.TrodAll enc P W' b sp hd f.resultTypes.toList (v.resultList f.resultTypes.size) (s.fn H (ds ++ gs)).results [])
  (hargs : ∀ sp : Nat -> Bool, (∀ p ∈ before, sp p.block = true) -> DataW.TrodAll enc P W' 0 sp true f.params.toList args.toList (s.fn H (ds ++ gs)).args pa)
  (hvars : ∀ sp : Nat -> Bool, (∀ p ∈ before, sp p.block = true) -> DataW.TrodVars enc P W' sp s.vars (s.fn H (ds ++ gs)).vars pv)
  (hps : before = pa ++ pv) (hb : Below W.heap.size W W')
  (hok : ∀ (j : Nat) (t : TypeId) (r : Value), f.resultTypes[j]? = some t -> (v.resultList f.resultTypes.size)[j]? = some r -> Value.okWide P W' .any 0 t r) :
  s.post enc P f apart fresh handsOn again W args v W' := by
 subst hps
 have hlt : ∀ p ∈ pa ++ pv, p.block < W.heap.size := fun p hp => hW.lt p hp
 refine ⟨ds, gs, pa ++ pv, [], pa, pv, hW, hres _ _ _, hargs _ fun p hp => by simpa using hlt p hp, hvars _ fun p hp => by simpa using hlt p hp, hb.frame _, fun _ => ?_⟩
 obtain ⟨_, _, _, _, _, hz, hn⟩ := hW
 refine ⟨hok, _, _, [] ++ pa ++ pv, ⟨[] ++ pa, pv, trodAll_append (hargs _ fun _ _ => rfl) (hres _ _ _), hvars _ fun _ _ => rfl, rfl, fun b off hp => ?_, fun ha => by simpa using hn ha⟩, fun p hp _ => by simpa using hp⟩
 have hp : MemPlace.cell b off ∈ pa ++ pv := by simpa using hp
 have hbl : b < W.heap.size := hlt _ hp
 rw [hb.frozen (p := ⟨b, off, none⟩) hbl]
 exact hz b off hp
theorem own : ownKnob Tryz.prog.godebug = none := by kernel_rfl
theorem laid_out : laidOutB Tryz.prog = true := by kernel_rfl
theorem stays {H : Type} {enc : TypeId × Value -> H} {W W' : World} {t : TypeId} (ht : t = 24 \/ t = 26 \/ t = 9) {v : Value} {d : DataW H} {ps : List MemPlace} (h : DataW.Trod enc Tryz.prog W 0 (fun _ => true) true t v d ps) (hb : Below W.heap.size W W') (hlt : ∀ x ∈ ps, x.block < W.heap.size) {sp : Nat -> Bool} (hs : ∀ x ∈ ps, sp x.block = true) : DataW.Trod enc Tryz.prog W' 0 sp true t v d ps := by
 rcases ht with rfl | rfl | rfl
 ·exact WideElems.Trod_stays laid_out (by kernel_rfl) (of_decide_eq_true (by kernel_rfl)) h (fun x hx => hb.same (hlt x hx)) (fun x hx => hs x hx)
 ·exact WideElems.Trod_stays laid_out (by kernel_rfl) (of_decide_eq_true (by kernel_rfl)) h (fun x hx => hb.same (hlt x hx)) (fun x hx => hs x hx)
 ·exact WideElems.Trod_stays laid_out (by kernel_rfl) (of_decide_eq_true (by kernel_rfl)) h (fun x hx => hb.same (hlt x hx)) (fun x hx => hs x hx)
end Go.AL
namespace Go.AL
open Go.Proofs Go.ChangeShapes Go.WideShapes Go.RowKit Go.ChangeAt Go.Deep
open Go.ChangeMaps (open_string shut_string)
theorem liftedPlain (os : Os) (started : os.Started) (H : Type) (enc : TypeId × Value -> H) :
  ReturnsInHanded {} Tryz.checked os 3 .any (Go.Proofs.YtkiepfhcnicfgaaGreat.Rows.growPlainSpec.pre6 enc Tryz.prog Tryz.f3 Go.Proofs.YtkiepfhcnicfgaaGreat.Rows.growPlainRow.domain false) (Go.Proofs.YtkiepfhcnicfgaaGreat.Rows.growPlainSpec.post enc Tryz.prog Tryz.f3 false true false false) := by
 refine returnsInHanded_of_change_sized (C := Tryz.checked) own started (by kernel_rfl) Tryz.func3
  (ChangeSpec.witness6 (enc := enc) (C := Tryz.checked) false ⟨#[], #[.agg #[.slice none 0 0, .int .i64 0], .string ⟨#[]⟩, .agg #[.int .i64 0, .int .i64 0]], []⟩ 8 (by kernel_rfl) (by kernel_rfl) (by kernel_rfl) (by kernel_rfl)) ?_
 intro W base args ds gs before hval0 hW _ hsz _
 have hval : ∀ (j : Nat) t v, Tryz.f3.params[j]? = some t -> args[j]? = some v -> Value.okWide Tryz.prog W .any base t v := hval0
 have hW' := hW
 obtain ⟨p, q, hA0, hV, rfl, _, _⟩ := hW
 have hA : DataW.TrodAll enc Tryz.prog W 0 (fun _ => true) true Tryz.f3.params.toList args.toList ds p := hA0
 rw [Tryz.params3] at hA hval
 obtain ⟨v0, vs0, d0, ds0, p0, q0, hargs, rfl, rfl, h0, r0⟩ := trodAll_cons hA
 obtain ⟨v1, vs1, d1, ds1, p1, q1, rfl, rfl, rfl, h1, r1⟩ := trodAll_cons r0
 obtain ⟨v2, vs2, d2, ds2, p2, q2, rfl, rfl, rfl, h2, r2⟩ := trodAll_cons r1
 obtain ⟨rfl, rfl, rfl⟩ := trodAll_nil r2
 obtain rfl : args = #[v0, v1, v2] := by cases args; simp_all
 obtain ⟨rfl, rfl⟩ := trodVars_none hV
 have hsz0 : (DataW.weights Tryz.prog 24 d0).all (· <= reachBytes) = true := by
  rw [Tryz.params3] at hsz
  simp only [DataW.weightsEach, List.cons_append, List.all_append, Bool.and_eq_true] at hsz
  exact hsz.1
 obtain ⟨c, hc, hcl, hcr⟩ := core_came (hval 0 24 v0 rfl rfl) h0 hsz0
 obtain ⟨s, rfl, _, _, hs⟩ := open_string Tryz.underlying9 (hval 1 9 v1 rfl rfl) h1
 obtain ⟨D, S, hl2⟩ := lim_came (hval 2 26 v2 rfl rfl) h2
 clear hA0 hval0
 simp only [List.append_nil] at hW'
 refine (growPlain_c c (big_of hcl hcr) s D S [] _ W #[v0, .string s, v2] (start_nil W) rfl (fun j x hj => ?_)).mono fun e W' he => ?_
 ·match j, hj with
  | 0, hj => injection hj with hj; subst hj; exact hc
  | 1, hj => injection hj with hj; subst hj; exact RP.lit rfl
  | 2, hj => injection hj with hj; subst hj; exact hl2
  | j + 3, hj => cases hj
 ·obtain ⟨m', F', σ', r, rfl, hr, hi', hst⟩ := he
  cases e with
  | panicked ch => exact hr.elim
  | outgrown => exact hr.elim
  | returned u =>
   have hu : u = .bool true := RP.eq_lit hr
   subst hu
   have hb : Below W.heap.size W W' := by
    refine ⟨hst.os, hst.tape, hst.output, hst.size, fun b hb => hst.blk b hb fun z ⟨j, o, l, g1, g2, g3⟩ => ?_⟩
    cases j <;> cases g1
   have hlt : ∀ x ∈ p0 ++ (p1 ++ p2), x.block < W.heap.size := fun x hx => hW'.lt x (by simpa using hx)
   refine ⟨_, rfl, post_below (pa := p0 ++ (p1 ++ p2)) (pv := []) hW' (fun _ _ _ => trodAll_cons_mk (shut_bool Tryz.underlying4 _) trodAll_mk0) (fun sp hs => ?_) (fun _ _ => rfl) (by simp) hb (ok_one (by kernel_rfl) rfl (okWide_bool_mk Tryz.underlying4 _))⟩
   have hs : ∀ x ∈ p0 ++ (p1 ++ p2), sp x.block = true := fun x hx => hs x (by simpa using hx)
   have k0 := stays (.inl rfl) h0 hb (fun x hx => hlt x (by simp [hx])) (fun x hx => hs x (by simp [hx]))
   have k1 := stays (.inr (.inr rfl)) h1 hb (fun x hx => hlt x (by simp [hx])) (fun x hx => hs x (by simp [hx]))
   have k2 := stays (.inr (.inl rfl)) h2 hb (fun x hx => hlt x (by simp [hx])) (fun x hx => hs x (by simp [hx]))
   have := trodAll_cons_mk k0 (trodAll_cons_mk k1 (trodAll_cons_mk k2 (trodAll_mk0 (enc := enc) (P := Tryz.prog) (w := W') (base := 0) (spare := sp) (held := true))))
   have h2 : DataW.TrodAll enc Tryz.prog W' 0 sp true [24, 9, 26] [v0, .string s, v2] [d0, d1, d2] (p0 ++ (p1 ++ p2)) := by simpa using this
   rw [Tryz.params3]
   exact h2
theorem saidPlain : Go.Proofs.YtkiepfhcnicfgaaGreat.Rows.GrowPlainSaid :=
 OpenClaim.holds_of_wide 3 Tryz.f3 rfl rfl rfl rfl rfl rfl rfl ⟨rfl, rfl, rfl, rfl, rfl⟩ rfl rfl rfl rfl rfl (by kernel_rfl) Tryz.func3 (by kernel_rfl)
  (of_decide_eq_true (by kernel_rfl)) (by unfold Func.isWrapper; first | (rw [if_pos (by decide +kernel)]; kernel_rfl) | (rw [if_neg (by decide +kernel)]; exact ⟨rfl, rfl⟩))
  (fun os started H enc _ => liftedPlain os started H enc)
end Go.AL
namespace Go.Proofs.YtkiepfhcnicfgaaGreat
theorem growPlain_holds : Rows.GrowPlainSaid := Go.AL.saidPlain
end Go.Proofs.YtkiepfhcnicfgaaGreat
