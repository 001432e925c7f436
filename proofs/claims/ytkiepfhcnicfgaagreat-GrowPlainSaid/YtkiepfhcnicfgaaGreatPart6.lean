/-
  Part 6 of the proof: what the functions that the law reaches come to.
-/
import Derived.Sort.OwnSortedInts
import Derived.Test.YtkiepfhcnicfgaaGreatPart5
set_option linter.all false
set_option maxRecDepth 100000
set_option maxHeartbeats 8000000
namespace Go.AL
open Go.Proofs
attribute [local irreducible] AWp AList RStep seqQ blockQ retQ DSteps DT DU awR rQ SStep
abbrev solvP (c : Core) (ps : List (List (Int × Int))) (rs : List May) (fs : List Cls) : PV := .rp [rulesP c.rules, lI c.start, partsP ps, .sl 4 (rs.map encMay), .sl 4 (fs.map encCls)]
def bodyF (b : List Node) (ps : List (Int × Int)) (rs : List May) : Nat -> Nat -> List May -> List May
 | 0, _, l => l
 | f + 1, k, l => bodyF b ps rs f (k + 1) (l.set k (comeM (at' b (k : Int)) (atM l (at' ps (k : Int)).1) (atM l (at' ps (k : Int)).2) rs))
def bodyM (b : List Node) (ps : List (Int × Int)) (rs : List May) : List May := bodyF b ps rs b.length 0 (List.replicate b.length noMay)
/-- A rule's nodes and their parts lie within bounds. -/
structure SolvIn (c : Core) (ps : List (List (Int × Int))) (n : Nat) : Prop where
 rules : c.rules.length <= 1000
 body : ∀ r : Int, 0 <= r -> r < c.rules.length -> (at' c.rules r).body.length <= 1000000
 parts : ps.length = c.rules.length
 part : ∀ r : Int, 0 <= r -> r < c.rules.length -> (at' ps r).length = (at' c.rules r).body.length
 lt : ∀ r k : Int, 0 <= r -> r < c.rules.length -> 0 <= k -> k < (at' c.rules r).body.length -> (at' (at' ps r) k).1 < (at' c.rules r).body.length /\ (at' (at' ps r) k).2 < (at' c.rules r).body.length
 rule : ∀ r k : Int, 0 <= r -> r < c.rules.length -> 0 <= k -> k < (at' c.rules r).body.length -> (at' (at' c.rules r).body k).op = 2 -> 0 <= (at' (at' c.rules r).body k).rule /\ (at' (at' c.rules r).body k).rule < n
theorem body_c (c : Core) (ps : List (List (Int × Int))) (rs : List May) (fs : List Cls) (hin : SolvIn c ps rs.length) (r : Int) (r0 : 0 <= r) (r1 : r < c.rules.length) :
  ACalls Tryz.prog 38 [.c (.p (solvP c ps rs fs)), i64 r] [] (fun q σ' => q = .ret (.c (.ms 0 (at' c.rules r).body.length)) /\ ∃ g, σ' = .arr 108 4 ((bodyM (at' c.rules r).body (at' ps r) rs).map encMay) :: g) := by
 have hb := hin.body r r0 r1
 have hp := hin.part r r0 r1
 have hpl := hin.parts
 refine acalls_by Tryz.func38 Tryz.ntmps38 ?_
 simp only [argFr]
 have h0 : ([] : List AObj) ++ [.arr 108 4 (List.replicate (((at' c.rules r).body.length : Int)).toNat [lB false, lB false, lB false, lB false])] = [.arr 108 4 ((List.replicate (at' c.rules r).body.length noMay).map encMay)] := by simp [encMay]
 repeat' (first| (show lMakeSlice; refine k_make ?_ (hσ := h0))| (refine wS ?_)| fail)
 refine aw_roundsP (ι := Nat × List May) 1 (fun i => [.arr 108 4 (i.2.map encMay)]) (fun i n => [(0, .c (.p (solvP c ps rs fs))), (1, i64 r), (6, .c (.ms 0 (at' c.rules r).body.length)), (22, .c (.p (bodyP (at' c.rules r).body))), (23, i64 (at' c.rules r).body.length), (24, i64 i.1)]) (fun _ _ => []) (fun i => i.1 <= (at' c.rules r).body.length /\ i.2.length = (at' c.rules r).body.length /\ bodyF (at' c.rules r).body (at' ps r) rs ((at' c.rules r).body.length - i.1) i.1 i.2 = bodyM (at' c.rules r).body (at' ps r) rs) (fun i => (at' c.rules r).body.length - i.1) (0, List.replicate (at' c.rules r).body.length noMay) 1 (fun _ => rfl) ⟨by simp, by simp, rfl⟩ (by omega) (by simp) rfl rfl (by simp [Fr.get]) ?_
 rintro ⟨k, l⟩ n g ⟨h1, h2, h3⟩ hg
 dsimp only at h1 h2 h3 hg ⊢
 have hg1 : 1 + g.length = n := by simp at hg; omega
 clear hg
 by_cases hk : k < (at' c.rules r).body.length
 ·obtain ⟨m, hm⟩ : ∃ m, (at' c.rules r).body.length - k = m + 1 := ⟨(at' c.rules r).body.length - k - 1, by omega⟩
  rw [hm] at h3
  simp only [bodyF] at h3
  obtain ⟨q1, q2⟩ := hin.lt r k r0 r1 (by omega) (by omega)
  have hru := hin.rule r k r0 r1 (by omega) (by omega)
  have hc1 := at_c l (at' (at' ps r) (k : Int)).1 (by omega)
  have hc2 := at_c l (at' (at' ps r) (k : Int)).2 (by omega)
  have hcc := come_c (at' (at' c.rules r).body (k : Int)) (atM l (at' (at' ps r) (k : Int)).1) (atM l (at' (at' ps r) (k : Int)).2) rs hru
  have htk : (l.map encMay).take (at' c.rules r).body.length = l.map encMay := List.take_of_length_le (by simp; omega)
  repeat' (first| (refine aw_T ?_ (hb := eT))| (show lStore; refine k_storeElM (f := encMay) (comeM (at' (at' c.rules r).body (k : Int)) (atM l (at' (at' ps r) (k : Int)).1) (atM l (at' (at' ps r) (k : Int)).2) rs) ?_)| (show dOp; refine ds_op (by (show kCall; first | exact b_lendD hc1 (.cons (.c (.arr (e := 108) (l := l.map encMay) rfl (by simp [h2]) htk)) (.cons (.c .p) .nil)) | exact b_lendD hc2 (.cons (.c (.arr (e := 108) (l := l.map encMay) rfl (by simp [h2]) htk)) (.cons (.c .p) .nil)) | exact b_call (hcc))) ?_)| (refine wS ?_)| fail)
  exact ⟨(k + 1, l.set k (comeM (at' (at' c.rules r).body (k : Int)) (atM l (at' (at' ps r) (k : Int)).1) (atM l (at' (at' ps r) (k : Int)).2) rs)), n + 2, ⟨by dsimp only; omega, by simp [h2], by dsimp only; rw [show (at' c.rules r).body.length - (k + 1) = m by omega]; exact h3⟩, by omega, by simp; omega, rfl, dropGP hg1 (by simp) rfl, by simp [Fr.get], by dsimp only; omega⟩
 ·have : k = (at' c.rules r).body.length := by omega
  subst this
  rw [Nat.sub_self] at h3
  simp only [bodyF] at h3
  repeat' (first| (refine aw_F ?_ (hb := eF))| (show eRet; refine ret1 Tryz.results38 ?_)| (refine wS ?_)| fail)
  exact ⟨rfl, _, by rw [<- h3]; rfl⟩
end Go.AL
namespace Go.AL
open Go.Proofs
attribute [local irreducible] AWp AList RStep seqQ blockQ retQ DSteps DT DU awR rQ SStep
section
variable {P : Program} {σ : List AObj} {fr : Fr} {d : Option Nat} {ty : TypeId} {pos : String} {aft : Array Edge} {g : Option (Nat × Bool)}
theorem b_orU {t t' : TypeId} {x y : Operand} {a b : Int} (hx : ev fr x = .c (.p (lU a)) := by exact rfl) (hy : ev fr y = .c (.p (lU b)) := by exact rfl) : RStep P σ fr ⟨d, .binOp .or t x y t', ty, pos, aft, g⟩ (.c (.p (lU (bits .or .u64 a b)))) :=
 r_bin hx hy (fun w => by simp only [eqGuard, binOp_or, intBits_or]; simp) rfl
end
def unionC (c d : Cls) : Cls := ⟨bits .or .u64 c.c0 d.c0, bits .or .u64 c.c1 d.c1, bits .or .u64 c.c2 d.c2, bits .or .u64 c.c3 d.c3⟩
theorem union_c (c d : Cls) : ACalls Tryz.prog 81 [clsV c, clsV d] [] (fun r _ => r = .ret (clsV (unionC c d))) := by
 refine acalls_by Tryz.func81 Tryz.ntmps81 ?_
 simp only [argFr]
 repeat' (first| (show rRnd; refine r_succ ?_)| (show rRq; first | refine rq_normal ?_ | refine rq_exit ?_)| (show cLoop; refine aw_unroll 5 ?_)| (show dOp; refine ds_op (by (show RStep _ _ _ (Oper.mk _ (.binOp .or _ _ _ _) _ _ _ _) _; exact b_orU)) ?_)| (show eRet; refine retC1 Tryz.results81 ?_)| (refine wS ?_)| fail)
 rfl
theorem toldM_c (m : May) (c : Cls) : ACalls Tryz.prog 40 [mayV m, clsV c] [] (fun r _ => r = .ret (.agg [.p (lB m.f0), .p (lB m.f1), .p (lB m.f2), .p (lB m.f3), .p (lU c.c0), .p (lU c.c1), .p (lU c.c2), .p (lU c.c3)])) := by
 refine acalls_by Tryz.func40 Tryz.ntmps40 ?_
 simp only [argFr]
 repeat' (first| (show eRet; refine retC1 Tryz.results40 ?_)| (refine wS ?_)| fail)
 rfl
def atC (l : List Cls) (i : Int) : Cls := if i < 0 then ⟨0, 0, 0, 0⟩ else at' l i
theorem atC_c (l : List Cls) (i : Int) (h : i < l.length) : ACalls Tryz.prog 64 [.c (.p (.sl 4 (l.map encCls))), i64 i] [] (fun r _ => r = .ret (clsV (atC l i))) := by
 by_cases h0 : i < 0
 ·skip
  refine acalls_by Tryz.func64 Tryz.ntmps64 ?_
  simp only [argFr]
  repeat' (first| (refine aw_T ?_ (hb := decide_eq_true h0))| (show eRet; refine retC1 Tryz.results64 ?_)| (refine wS ?_)| fail)
  unfold atC; rw [if_pos h0]; rfl
 ·skip
  refine acalls_by Tryz.func64 Tryz.ntmps64 ?_
  simp only [argFr]
  repeat' (first| (refine aw_F ?_ (hb := decide_eq_false h0))| (show eRet; refine retC1 Tryz.results64 ?_)| (refine wS ?_)| fail)
  unfold atC; rw [if_neg h0]; rfl
/-- The bytes that an expression may begin with. -/
def firstM (n : Node) (l r : Cls) (m : May) (rules : List Cls) : Cls :=
 if n.op = 1 then n.cl
 else if n.op = 2 then at' rules n.rule
 else if n.op = 4 then (if m.f1 = true then unionC l r else l)
 else if n.op = 5 then (if m.f0 = true then unionC l r else l)
 else if n.op = 6 \/ n.op = 8 then l
 else ⟨0, 0, 0, 0⟩
theorem first_c (n : Node) (l r : Cls) (m : May) (rules : List Cls) (h2 : n.op = 2 -> 0 <= n.rule /\ n.rule < rules.length) : ACalls Tryz.prog 63 [.agg ((encNode n).map .p), clsV l, clsV r, mayV m, .c (.p (.sl 4 (rules.map encCls)))] [] (fun q _ => q = .ret (clsV (firstM n l r m rules))) := by
 have hu := union_c l r
 by_cases p1 : n.op = 1
 ·skip
  refine acalls_by Tryz.func63 Tryz.ntmps63 ?_
  simp only [argFr]
  repeat' (first| (refine aw_T ?_ (hb := eT))| (show eRet; refine retC1 Tryz.results63 ?_)| (refine wS ?_)| fail)
  unfold firstM; rw [if_pos p1]; rfl
 by_cases p2 : n.op = 2
 ·obtain ⟨q1, q2⟩ := h2 p2
  refine acalls_by Tryz.func63 Tryz.ntmps63 ?_
  simp only [argFr]
  repeat' (first| (refine aw_T ?_ (hb := eT))| (refine aw_F ?_ (hb := eF))| (show eRet; refine retC1 Tryz.results63 ?_)| (refine wS ?_)| fail)
  unfold firstM; rw [if_neg p1, if_pos p2]; rfl
 by_cases p4 : n.op = 4
 ·have e : firstM n l r m rules = if m.f1 = true then unionC l r else l := by unfold firstM; rw [if_neg p1, if_neg p2, if_pos p4]
  rw [e]
  cases hm : m.f1 with
  | true =>
   refine acalls_by Tryz.func63 Tryz.ntmps63 ?_
   simp only [argFr]
   repeat' (first| (refine aw_T ?_ (hb := hm))| (refine aw_T ?_ (hb := eT))| (refine aw_F ?_ (hb := eF))| (show lOp; refine op0 (by (show kCall; exact b_call (hu))) ?_)| (show eRet; refine retC1 Tryz.results63 ?_)| (refine wS ?_)| fail)
   rfl
  | false =>
   refine acalls_by Tryz.func63 Tryz.ntmps63 ?_
   simp only [argFr]
   repeat' (first| (refine aw_F ?_ (hb := hm))| (refine aw_T ?_ (hb := eT))| (refine aw_F ?_ (hb := eF))| (show eRet; refine retC1 Tryz.results63 ?_)| (refine wS ?_)| fail)
   rfl
 by_cases p5 : n.op = 5
 ·have e : firstM n l r m rules = if m.f0 = true then unionC l r else l := by unfold firstM; rw [if_neg p1, if_neg p2, if_neg p4, if_pos p5]
  rw [e]
  cases hm : m.f0 with
  | true =>
   refine acalls_by Tryz.func63 Tryz.ntmps63 ?_
   simp only [argFr]
   repeat' (first| (refine aw_T ?_ (hb := hm))| (refine aw_T ?_ (hb := eT))| (refine aw_F ?_ (hb := eF))| (show lOp; refine op0 (by (show kCall; exact b_call (hu))) ?_)| (show eRet; refine retC1 Tryz.results63 ?_)| (refine wS ?_)| fail)
   rfl
  | false =>
   refine acalls_by Tryz.func63 Tryz.ntmps63 ?_
   simp only [argFr]
   repeat' (first| (refine aw_F ?_ (hb := hm))| (refine aw_T ?_ (hb := eT))| (refine aw_F ?_ (hb := eF))| (show eRet; refine retC1 Tryz.results63 ?_)| (refine wS ?_)| fail)
   rfl
 by_cases p6 : n.op = 6 \/ n.op = 8
 ·have e : firstM n l r m rules = l := by unfold firstM; rw [if_neg p1, if_neg p2, if_neg p4, if_neg p5, if_pos p6]
  rw [e]
  rcases p6 with p6 | p6
  ·skip
   refine acalls_by Tryz.func63 Tryz.ntmps63 ?_
   simp only [argFr]
   repeat' (first| (refine aw_T ?_ (hb := eT))| (refine aw_F ?_ (hb := eF))| (show eRet; refine retC1 Tryz.results63 ?_)| (refine wS ?_)| fail)
   rfl
  ·skip
   refine acalls_by Tryz.func63 Tryz.ntmps63 ?_
   simp only [argFr]
   repeat' (first| (refine aw_T ?_ (hb := eT))| (refine aw_F ?_ (hb := eF))| (show eRet; refine retC1 Tryz.results63 ?_)| (refine wS ?_)| fail)
   rfl
 have e : firstM n l r m rules = ⟨0, 0, 0, 0⟩ := by unfold firstM; rw [if_neg p1, if_neg p2, if_neg p4, if_neg p5, if_neg p6]
 rw [e]
 refine acalls_by Tryz.func63 Tryz.ntmps63 ?_
 simp only [argFr]
 repeat' (first| (refine aw_F ?_ (hb := eF))| (show eRet; refine retC1 Tryz.results63 ?_)| (refine wS ?_)| fail)
 rfl
def bytesF (b : List Node) (ps : List (Int × Int)) (ms : List May) (rs : List Cls) : Nat -> Nat -> List Cls -> List Cls
 | 0, _, l => l
 | f + 1, k, l => bytesF b ps ms rs f (k + 1) (l.set k (firstM (at' b (k : Int)) (atC l (at' ps (k : Int)).1) (atC l (at' ps (k : Int)).2) (atM ms (at' ps (k : Int)).1) rs))
def bytesM (b : List Node) (ps : List (Int × Int)) (ms : List May) (rs : List Cls) : List Cls := bytesF b ps ms rs b.length 0 (List.replicate b.length ⟨0, 0, 0, 0⟩)
theorem bytes_c (c : Core) (ps : List (List (Int × Int))) (rs : List May) (fs : List Cls) (hin : SolvIn c ps fs.length) (r : Int) (r0 : 0 <= r) (r1 : r < c.rules.length) (ms : List May) (hms : ms.length = (at' c.rules r).body.length) :
  ACalls Tryz.prog 39 [.c (.p (solvP c ps rs fs)), i64 r, .c (.p (.sl 4 (ms.map encMay)))] [] (fun q σ' => q = .ret (.c (.ms 0 (at' c.rules r).body.length)) /\ ∃ g, σ' = .arr 60 4 ((bytesM (at' c.rules r).body (at' ps r) ms fs).map encCls) :: g) := by
 have hb := hin.body r r0 r1
 have hp := hin.part r r0 r1
 have hpl := hin.parts
 refine acalls_by Tryz.func39 Tryz.ntmps39 ?_
 simp only [argFr]
 have h0 : ([] : List AObj) ++ [.arr 60 4 (List.replicate (((at' c.rules r).body.length : Int)).toNat [lU 0, lU 0, lU 0, lU 0])] = [.arr 60 4 ((List.replicate (at' c.rules r).body.length ⟨0, 0, 0, 0⟩).map encCls)] := by simp [encCls]
 repeat' (first| (show lMakeSlice; refine k_make ?_ (hσ := h0))| (refine wS ?_)| fail)
 refine aw_roundsP (ι := Nat × List Cls) 1 (fun i => [.arr 60 4 (i.2.map encCls)]) (fun i n => [(0, .c (.p (solvP c ps rs fs))), (1, i64 r), (2, .c (.p (.sl 4 (ms.map encMay)))), (8, .c (.ms 0 (at' c.rules r).body.length)), (24, .c (.p (bodyP (at' c.rules r).body))), (25, i64 (at' c.rules r).body.length), (26, i64 i.1)]) (fun _ _ => []) (fun i => i.1 <= (at' c.rules r).body.length /\ i.2.length = (at' c.rules r).body.length /\ bytesF (at' c.rules r).body (at' ps r) ms fs ((at' c.rules r).body.length - i.1) i.1 i.2 = bytesM (at' c.rules r).body (at' ps r) ms fs) (fun i => (at' c.rules r).body.length - i.1) (0, List.replicate (at' c.rules r).body.length ⟨0, 0, 0, 0⟩) 1 (fun _ => rfl) ⟨by simp, by simp, rfl⟩ (by omega) (by simp) rfl rfl (by simp [Fr.get]) ?_
 rintro ⟨k, l⟩ n g ⟨h1, h2, h3⟩ hg
 dsimp only at h1 h2 h3 hg ⊢
 have hg1 : 1 + g.length = n := by simp at hg; omega
 clear hg
 by_cases hk : k < (at' c.rules r).body.length
 ·obtain ⟨m, hm⟩ : ∃ m, (at' c.rules r).body.length - k = m + 1 := ⟨(at' c.rules r).body.length - k - 1, by omega⟩
  rw [hm] at h3
  simp only [bytesF] at h3
  obtain ⟨q1, q2⟩ := hin.lt r k r0 r1 (by omega) (by omega)
  have hru := hin.rule r k r0 r1 (by omega) (by omega)
  have hc1 := atC_c l (at' (at' ps r) (k : Int)).1 (by omega)
  have hc2 := atC_c l (at' (at' ps r) (k : Int)).2 (by omega)
  have hc3 := at_c ms (at' (at' ps r) (k : Int)).1 (by omega)
  have hcc := first_c (at' (at' c.rules r).body (k : Int)) (atC l (at' (at' ps r) (k : Int)).1) (atC l (at' (at' ps r) (k : Int)).2) (atM ms (at' (at' ps r) (k : Int)).1) fs hru
  have htk : (l.map encCls).take (at' c.rules r).body.length = l.map encCls := List.take_of_length_le (by simp; omega)
  repeat' (first| (refine aw_T ?_ (hb := eT))| (show lStore; refine k_storeElM (f := encCls) (firstM (at' (at' c.rules r).body (k : Int)) (atC l (at' (at' ps r) (k : Int)).1) (atC l (at' (at' ps r) (k : Int)).2) (atM ms (at' (at' ps r) (k : Int)).1) fs) ?_)| (show dOp; refine ds_op (by (show kCall; first | exact b_lendD hc1 (.cons (.c (.arr (e := 60) (l := l.map encCls) rfl (by simp [h2]) htk)) (.cons (.c .p) .nil)) | exact b_lendD hc2 (.cons (.c (.arr (e := 60) (l := l.map encCls) rfl (by simp [h2]) htk)) (.cons (.c .p) .nil)) | exact b_call (hc3) | exact b_call (hcc))) ?_)| (refine wS ?_)| fail)
  exact ⟨(k + 1, l.set k (firstM (at' (at' c.rules r).body (k : Int)) (atC l (at' (at' ps r) (k : Int)).1) (atC l (at' (at' ps r) (k : Int)).2) (atM ms (at' (at' ps r) (k : Int)).1) fs)), n + 2, ⟨by dsimp only; omega, by simp [h2], by dsimp only; rw [show (at' c.rules r).body.length - (k + 1) = m by omega]; exact h3⟩, by omega, by simp; omega, rfl, dropGP hg1 (by simp) rfl, by simp [Fr.get], by dsimp only; omega⟩
 ·have : k = (at' c.rules r).body.length := by omega
  subst this
  rw [Nat.sub_self] at h3
  simp only [bytesF] at h3
  repeat' (first| (refine aw_F ?_ (hb := eF))| (show eRet; refine ret1 Tryz.results39 ?_)| (refine wS ?_)| fail)
  exact ⟨rfl, _, by rw [<- h3]; rfl⟩
end Go.AL
namespace Go.AL
open Go.Proofs
attribute [local irreducible] AWp AList RStep seqQ blockQ retQ DSteps DT DU awR rQ SStep
def encP2 (p : Int × Int) : List PV := [lI p.1, lI p.2]
def encI1 (n : Int) : List PV := [lI n]
def divF (b : List Node) : Nat -> Nat -> List (Int × Int) -> List Int -> Option (List (Int × Int))
 | 0, _, ps, _ => some ps
 | f + 1, k, ps, st =>
  if (at' b (k : Int)).op = 6 \/ (at' b (k : Int)).op = 7 \/ (at' b (k : Int)).op = 8 then
   if 1 <= k then divF b f (k + 1) ((ps.set k (-1, -1)).set k ((k : Int) - 1, (at' (ps.set k (-1, -1)) (k : Int)).2)) ((st.set k (k : Int)).set k (at' (st.set k (k : Int)) ((k : Int) - 1))) else none
  else if (at' b (k : Int)).op = 4 \/ (at' b (k : Int)).op = 5 then
   if 1 <= k /\ 1 <= at' (st.set k (k : Int)) ((k : Int) - 1) /\ at' (st.set k (k : Int)) ((k : Int) - 1) <= b.length then
    divF b f (k + 1) ((ps.set k (-1, -1)).set k (at' (st.set k (k : Int)) ((k : Int) - 1) - 1, (k : Int) - 1)) ((st.set k (k : Int)).set k (at' (st.set k (k : Int)) (at' ((ps.set k (-1, -1)).set k (at' (st.set k (k : Int)) ((k : Int) - 1) - 1, (k : Int) - 1)) (k : Int)).1))
   else none
  else divF b f (k + 1) (ps.set k (-1, -1)) (st.set k (k : Int))
def divM (b : List Node) : Option (List (Int × Int)) := divF b b.length 0 (List.replicate b.length (0, 0)) (List.replicate b.length 0)
theorem at'_set_self {α : Type} [Inhabited α] {l : List α} {k : Nat} {v : α} (h : k < l.length) : at' (l.set k v) (k : Int) = v := by
 simp [at', List.getD_eq_getElem?_getD, h]
theorem divided_c (b : List Node) (hb : b.length <= 1000000) (ps : List (Int × Int)) (h : divM b = some ps) : ACalls Tryz.prog 56 [.c (.p (bodyP b))] [] (fun q _ => q = .ret (.c (.p (.sl 2 (ps.map encP2))))) := by
 refine acalls_by Tryz.func56 Tryz.ntmps56 ?_
 simp only [argFr]
 have h0 : ([] : List AObj) ++ [.arr 136 2 (List.replicate ((b.length : Int)).toNat [lI 0, lI 0])] = [.arr 136 2 ((List.replicate b.length ((0 : Int), (0 : Int))).map encP2)] := by simp [encP2]
 have h1 : [AObj.arr 136 2 ((List.replicate b.length ((0 : Int), (0 : Int))).map encP2)] ++ [AObj.arr 3 1 (List.replicate ((b.length : Int)).toNat [lI 0])] = [.arr 136 2 ((List.replicate b.length ((0 : Int), (0 : Int))).map encP2), .arr 3 1 ((List.replicate b.length (0 : Int)).map encI1)] := by simp [encI1]
 repeat' (first| (show lMakeSlice; first | refine k_make ?_ (hσ := h0) | refine k_make ?_ (hσ := h1))| (refine wS ?_)| fail)
 refine aw_roundsP (ι := Nat × List (Int × Int) × List Int) 2 (fun i => [.arr 136 2 (i.2.1.map encP2), .arr 3 1 (i.2.2.map encI1)]) (fun i n => [(0, .c (.p (bodyP b))), (3, .c (.ms 0 b.length)), (4, .c (.ms 1 b.length)), (13, .c (.p (bodyP b))), (14, i64 b.length), (15, i64 i.1)]) (fun _ _ => []) (fun i => i.1 <= b.length /\ i.2.1.length = b.length /\ i.2.2.length = b.length /\ divF b (b.length - i.1) i.1 i.2.1 i.2.2 = some ps) (fun i => b.length - i.1) (0, List.replicate b.length (0, 0), List.replicate b.length 0) 2 (fun _ => rfl) ⟨by simp, by simp, by simp, h⟩ (by omega) (by simp) rfl rfl (by simp [Fr.get]) ?_
 rintro ⟨k, l, st⟩ n g ⟨h1, h2, h3, h4⟩ hg
 dsimp only at h1 h2 h3 h4 hg ⊢
 have hg1 : 2 + g.length = n := by simp at hg; omega
 clear hg h h0
 by_cases hk : k < b.length
 ·obtain ⟨m, hm⟩ : ∃ m, b.length - k = m + 1 := ⟨b.length - k - 1, by omega⟩
  rw [hm] at h4
  simp only [divF] at h4
  by_cases p6 : (at' b (k : Int)).op = 6 \/ (at' b (k : Int)).op = 7 \/ (at' b (k : Int)).op = 8
  ·rw [if_pos p6] at h4
   split at h4
   case isFalse => cases h4
   rename_i hk1
   rcases p6 with p6 | p6 | p6
   ·repeat' (first| (refine aw_T ?_ (hb := eT))| (show lStore; first | refine k_storeElM (i := k) (f := encP2) (-1, -1) ?_ | refine k_storeElM (i := k) (f := encI1) (k : Int) ?_ | refine k_storePart (i := k) (f := encP2) ((k : Int) - 1, (at' (l.set k (-1, -1)) (k : Int)).2) ?_ | refine k_storeElM (i := k) (f := encI1) (at' (st.set k (k : Int)) ((k : Int) - 1)) ?_)| (refine wS ?_)| fail)
    exact ⟨(k + 1, (l.set k (-1, -1)).set k ((k : Int) - 1, (at' (l.set k (-1, -1)) (k : Int)).2), (st.set k (k : Int)).set k (at' (st.set k (k : Int)) ((k : Int) - 1))), n + 1, ⟨by dsimp only; omega, by simp [h2], by simp [h3], by dsimp only; rw [show b.length - (k + 1) = m by omega]; exact h4⟩, by omega, by simp; omega, rfl, dropGP hg1 (by simp) rfl, by simp [Fr.get], by dsimp only; omega⟩
   ·repeat' (first| (refine aw_T ?_ (hb := eT))| (refine aw_F ?_ (hb := eF))| (show lStore; first | refine k_storeElM (i := k) (f := encP2) (-1, -1) ?_ | refine k_storeElM (i := k) (f := encI1) (k : Int) ?_ | refine k_storePart (i := k) (f := encP2) ((k : Int) - 1, (at' (l.set k (-1, -1)) (k : Int)).2) ?_ | refine k_storeElM (i := k) (f := encI1) (at' (st.set k (k : Int)) ((k : Int) - 1)) ?_)| (refine wS ?_)| fail)
    exact ⟨(k + 1, (l.set k (-1, -1)).set k ((k : Int) - 1, (at' (l.set k (-1, -1)) (k : Int)).2), (st.set k (k : Int)).set k (at' (st.set k (k : Int)) ((k : Int) - 1))), n + 1, ⟨by dsimp only; omega, by simp [h2], by simp [h3], by dsimp only; rw [show b.length - (k + 1) = m by omega]; exact h4⟩, by omega, by simp; omega, rfl, dropGP hg1 (by simp) rfl, by simp [Fr.get], by dsimp only; omega⟩
   ·repeat' (first| (refine aw_T ?_ (hb := eT))| (refine aw_F ?_ (hb := eF))| (show lStore; first | refine k_storeElM (i := k) (f := encP2) (-1, -1) ?_ | refine k_storeElM (i := k) (f := encI1) (k : Int) ?_ | refine k_storePart (i := k) (f := encP2) ((k : Int) - 1, (at' (l.set k (-1, -1)) (k : Int)).2) ?_ | refine k_storeElM (i := k) (f := encI1) (at' (st.set k (k : Int)) ((k : Int) - 1)) ?_)| (refine wS ?_)| fail)
    exact ⟨(k + 1, (l.set k (-1, -1)).set k ((k : Int) - 1, (at' (l.set k (-1, -1)) (k : Int)).2), (st.set k (k : Int)).set k (at' (st.set k (k : Int)) ((k : Int) - 1))), n + 1, ⟨by dsimp only; omega, by simp [h2], by simp [h3], by dsimp only; rw [show b.length - (k + 1) = m by omega]; exact h4⟩, by omega, by simp; omega, rfl, dropGP hg1 (by simp) rfl, by simp [Fr.get], by dsimp only; omega⟩
  rw [if_neg p6] at h4
  by_cases p4 : (at' b (k : Int)).op = 4 \/ (at' b (k : Int)).op = 5
  ·rw [if_pos p4] at h4
   split at h4
   case isFalse => cases h4
   rename_i hc
   obtain ⟨c1, c2, c3⟩ := hc
   have hset : (at' ((l.set k (-1, -1)).set k (at' (st.set k (k : Int)) ((k : Int) - 1) - 1, (k : Int) - 1)) (k : Int)) = (at' (st.set k (k : Int)) ((k : Int) - 1) - 1, (k : Int) - 1) := at'_set_self (by simp; omega)
   have hs1 := congrArg Prod.fst hset
   dsimp only at hs1
   rcases p4 with p4 | p4
   ·repeat' (first| (refine aw_T ?_ (hb := eT))| (refine aw_F ?_ (hb := eF))| (show lStore; first | refine k_storeElM (i := k) (f := encP2) (-1, -1) ?_ | refine k_storeElM (i := k) (f := encI1) (k : Int) ?_ | refine k_storeElM (i := k) (f := encP2) (at' (st.set k (k : Int)) ((k : Int) - 1) - 1, (k : Int) - 1) ?_ | refine k_storeElM (i := k) (f := encI1) (at' (st.set k (k : Int)) (at' ((l.set k (-1, -1)).set k (at' (st.set k (k : Int)) ((k : Int) - 1) - 1, (k : Int) - 1)) (k : Int)).1) ?_)| (refine wS ?_)| fail)
    exact ⟨(k + 1, (l.set k (-1, -1)).set k (at' (st.set k (k : Int)) ((k : Int) - 1) - 1, (k : Int) - 1), (st.set k (k : Int)).set k (at' (st.set k (k : Int)) (at' ((l.set k (-1, -1)).set k (at' (st.set k (k : Int)) ((k : Int) - 1) - 1, (k : Int) - 1)) (k : Int)).1)), n + 1, ⟨by dsimp only; omega, by simp [h2], by simp [h3], by dsimp only; rw [show b.length - (k + 1) = m by omega]; exact h4⟩, by omega, by simp; omega, rfl, dropGP hg1 (by simp) rfl, by simp [Fr.get], by dsimp only; omega⟩
   ·repeat' (first| (refine aw_T ?_ (hb := eT))| (refine aw_F ?_ (hb := eF))| (show lStore; first | refine k_storeElM (i := k) (f := encP2) (-1, -1) ?_ | refine k_storeElM (i := k) (f := encI1) (k : Int) ?_ | refine k_storeElM (i := k) (f := encP2) (at' (st.set k (k : Int)) ((k : Int) - 1) - 1, (k : Int) - 1) ?_ | refine k_storeElM (i := k) (f := encI1) (at' (st.set k (k : Int)) (at' ((l.set k (-1, -1)).set k (at' (st.set k (k : Int)) ((k : Int) - 1) - 1, (k : Int) - 1)) (k : Int)).1) ?_)| (refine wS ?_)| fail)
    exact ⟨(k + 1, (l.set k (-1, -1)).set k (at' (st.set k (k : Int)) ((k : Int) - 1) - 1, (k : Int) - 1), (st.set k (k : Int)).set k (at' (st.set k (k : Int)) (at' ((l.set k (-1, -1)).set k (at' (st.set k (k : Int)) ((k : Int) - 1) - 1, (k : Int) - 1)) (k : Int)).1)), n + 1, ⟨by dsimp only; omega, by simp [h2], by simp [h3], by dsimp only; rw [show b.length - (k + 1) = m by omega]; exact h4⟩, by omega, by simp; omega, rfl, dropGP hg1 (by simp) rfl, by simp [Fr.get], by dsimp only; omega⟩
  rw [if_neg p4] at h4
  repeat' (first| (refine aw_T ?_ (hb := eT))| (refine aw_F ?_ (hb := eF))| (show lStore; first | refine k_storeElM (i := k) (f := encP2) (-1, -1) ?_ | refine k_storeElM (i := k) (f := encI1) (k : Int) ?_)| (refine wS ?_)| fail)
  exact ⟨(k + 1, l.set k (-1, -1), st.set k (k : Int)), n + 1, ⟨by dsimp only; omega, by simp [h2], by simp [h3], by dsimp only; rw [show b.length - (k + 1) = m by omega]; exact h4⟩, by omega, by simp; omega, rfl, dropGP hg1 (by simp) rfl, by simp [Fr.get], by dsimp only; omega⟩
 ·have : k = b.length := by omega
  subst this
  rw [Nat.sub_self] at h4
  simp only [divF] at h4
  injection h4 with h4
  subst h4
  repeat' (first| (refine aw_F ?_ (hb := eF))| (show lAt 2; refine k_freezeM (f := encP2) 75 ?_)| (show eRet; refine ret1 Tryz.results56 ?_)| (refine wS ?_)| fail)
  rw [<- h2, List.take_length]
end Go.AL
namespace Go.AL
open Go.Proofs
attribute [local irreducible] AWp AList RStep seqQ blockQ retQ DSteps DT DU awR rQ SStep
section
variable {P : Program} {σ : List AObj} {fr : Fr} {d : Option Nat} {ty : TypeId} {pos : String} {aft : Array Edge} {g : Option (Nat × Bool)}
theorem wrap_u8b {x : Int} (h0 : 0 <= x) (h1 : x < 256) : IntKind.u8.wrap x = x := by
 simp only [IntKind.wrap, IntKind.bits, IntKind.signed]
 have : x % 256 = x := Int.emod_eq_of_lt h0 h1
 simpa using this
theorem wrap_u64 {x : Nat} (h1 : x < 18446744073709551616) : IntKind.u64.wrap (x : Int) = x := by
 simp only [IntKind.wrap, IntKind.bits, IntKind.signed]
 have : (x : Int) % 18446744073709551616 = x := Int.emod_eq_of_lt (by omega) (by omega)
 simpa using this
theorem b_quoU8 {t t' : TypeId} {x : Operand} {n j : Nat} (h : n < 256) (hj : n / 64 = j) (hx : ev fr x = lU8 n := by exact rfl) : RStep P σ fr ⟨d, .binOp .quo t x (.const (.int .u8 64)) t', ty, pos, aft, g⟩ (lU8 (j : Int)) := by
 subst hj
 refine r_bin hx rfl (fun w => ?_) rfl
 simp [eqGuard, binOp, Op.intDiv]
 exact wrap_u8b (by omega) (by omega)
theorem b_remU8 {t t' : TypeId} {x : Operand} {n : Nat} (h : n < 256) (hx : ev fr x = lU8 n := by exact rfl) : RStep P σ fr ⟨d, .binOp .rem t x (.const (.int .u8 64)) t', ty, pos, aft, g⟩ (lU8 ((n % 64 : Nat) : Int)) := by
 refine r_bin hx rfl (fun w => ?_) rfl
 simp [eqGuard, binOp, Op.intDiv]
 have : (n : Int).tmod 64 = (n : Int) % 64 := Int.tmod_eq_emod_of_nonneg (by omega)
 first | exact this | (rw [this]; exact wrap_u8b (by omega) (by omega))
theorem b_shl1 {t t' : TypeId} {y : Operand} {k : Nat} (h : k < 64) (hy : ev fr y = lU8 k := by exact rfl) : RStep P σ fr ⟨d, .binOp .shl t (.const (.int .u64 1)) y t', ty, pos, aft, g⟩ (.c (.p (lU ((2 ^ k : Nat) : Int)))) := by
 refine r_bin rfl hy (fun w => ?_) rfl
 have e : IntKind.u64.wrap (1 * 2 ^ ((k : Int).toNat)) = ((2 ^ k : Nat) : Int) := by
  rw [Int.toNat_natCast, Int.one_mul]
  have h1 : (2 : Nat) ^ k < 2 ^ 64 := Nat.pow_lt_pow_right (by omega) h
  have h2 : ((2 : Int) ^ k) = ((2 ^ k : Nat) : Int) := by simp
  rw [h2]
  exact wrap_u64 h1
 simp only [eqGuard, binOp]
 rw [shift_shl .u64 .u8 1 (k : Int) (by omega) (by simp [IntKind.bits]; omega), e]
 simp
end
def setC (b : UInt8) : Cls := ⟨if b.toNat / 64 = 0 then ((2 ^ (b.toNat % 64) : Nat) : Int) else 0, if b.toNat / 64 = 1 then ((2 ^ (b.toNat % 64) : Nat) : Int) else 0, if b.toNat / 64 = 2 then ((2 ^ (b.toNat % 64) : Nat) : Int) else 0, if b.toNat / 64 = 3 then ((2 ^ (b.toNat % 64) : Nat) : Int) else 0⟩
abbrev setN (b : UInt8) : Node := ⟨1, setC b, 0, ⟨#[]⟩⟩
theorem set_c (b : UInt8) : ACalls Tryz.prog 27 [lU8 b.toNat] [] (fun r _ => r = .ret (.agg ((encNode (setN b)).map .p))) := by
 have hb : b.toNat < 256 := b.toNat_lt
 have hm : b.toNat % 64 < 64 := Nat.mod_lt _ (by omega)
 have hj : b.toNat / 64 = 0 \/ b.toNat / 64 = 1 \/ b.toNat / 64 = 2 \/ b.toNat / 64 = 3 := by omega
 rcases hj with hj | hj | hj | hj
 ·have e : setC b = ⟨((2 ^ (b.toNat % 64) : Nat) : Int), 0, 0, 0⟩ := by simp [setC, hj]
  simp only [setN, e]
  refine acalls_by Tryz.func27 Tryz.ntmps27 ?_
  simp only [argFr]
  repeat' (first| (show lOp; refine op0 (by first | (show RStep _ _ _ (Oper.mk _ (.binOp .shl _ _ _ _) _ _ _ _) _; exact b_shl1 hm) | (show kBinopQuo; exact b_quoU8 hb hj) | (show kBinopRem; exact b_remU8 hb)) ?_)| (show eRet; refine retC1 Tryz.results27 ?_)| (refine wS ?_)| fail)
  rfl
 ·have e : setC b = ⟨0, ((2 ^ (b.toNat % 64) : Nat) : Int), 0, 0⟩ := by simp [setC, hj]
  simp only [setN, e]
  refine acalls_by Tryz.func27 Tryz.ntmps27 ?_
  simp only [argFr]
  repeat' (first| (show lOp; refine op0 (by first | (show RStep _ _ _ (Oper.mk _ (.binOp .shl _ _ _ _) _ _ _ _) _; exact b_shl1 hm) | (show kBinopQuo; exact b_quoU8 hb hj) | (show kBinopRem; exact b_remU8 hb)) ?_)| (show eRet; refine retC1 Tryz.results27 ?_)| (refine wS ?_)| fail)
  rfl
 ·have e : setC b = ⟨0, 0, ((2 ^ (b.toNat % 64) : Nat) : Int), 0⟩ := by simp [setC, hj]
  simp only [setN, e]
  refine acalls_by Tryz.func27 Tryz.ntmps27 ?_
  simp only [argFr]
  repeat' (first| (show lOp; refine op0 (by first | (show RStep _ _ _ (Oper.mk _ (.binOp .shl _ _ _ _) _ _ _ _) _; exact b_shl1 hm) | (show kBinopQuo; exact b_quoU8 hb hj) | (show kBinopRem; exact b_remU8 hb)) ?_)| (show eRet; refine retC1 Tryz.results27 ?_)| (refine wS ?_)| fail)
  rfl
 ·have e : setC b = ⟨0, 0, 0, ((2 ^ (b.toNat % 64) : Nat) : Int)⟩ := by simp [setC, hj]
  simp only [setN, e]
  refine acalls_by Tryz.func27 Tryz.ntmps27 ?_
  simp only [argFr]
  repeat' (first| (show lOp; refine op0 (by first | (show RStep _ _ _ (Oper.mk _ (.binOp .shl _ _ _ _) _ _ _ _) _; exact b_shl1 hm) | (show kBinopQuo; exact b_quoU8 hb hj) | (show kBinopRem; exact b_remU8 hb)) ?_)| (show eRet; refine retC1 Tryz.results27 ?_)| (refine wS ?_)| fail)
  rfl
/-- The grammar of the law: S is E; E is E, b, with what it took captured, or a. -/
abbrev ruleN : Node := ⟨2, ⟨0, 0, 0, 0⟩, 1, ⟨#[]⟩⟩
abbrev opN (n : Int) (nm : ByteArray) : Node := ⟨n, ⟨0, 0, 0, 0⟩, 0, nm⟩
def leftC (a b : UInt8) : Core := ⟨[⟨⟨#[83]⟩, [ruleN]⟩, ⟨⟨#[69]⟩, [ruleN, setN b, opN 4 ⟨#[]⟩, opN 8 ⟨#[101]⟩, setN a, opN 5 ⟨#[]⟩]⟩], 0⟩
abbrev leftB (a b : UInt8) : List Node := [ruleN, setN b, opN 4 ⟨#[]⟩, opN 8 ⟨#[101]⟩, setN a, opN 5 ⟨#[]⟩]
theorem nodes7 (l : List Node) : ∀ e ∈ l.map encNode, e.length = 7 := fun e h => by
 obtain ⟨n, _, rfl⟩ := List.mem_map.1 h
 rfl
theorem left_c (a b : UInt8) : ACalls Tryz.prog 11 [lU8 a.toNat, lU8 b.toNat] [] (fun r _ => r = .ret (coreV (leftC a b))) := by
 refine acalls_by Tryz.func11 Tryz.ntmps11 ?_
 simp only [argFr]
 repeat' (first| (show dOp; refine ds_op (by first | (show kCall; first | exact b_call ((set_c b)) | exact b_call ((set_c a))) | (show kBuildslice; exact r_buildSlice (n := 6) (l := (leftB a b).map encNode) (by rfl) (by decide) (by rfl) (by rfl) (by rfl) (nodes7 _))) ?_)| (show eRet; refine retC1 Tryz.results11 ?_)| (refine wS ?_)| fail)
 rfl
end Go.AL
namespace Go.AL
open Go.Proofs
attribute [local irreducible] AWp AList RStep seqQ blockQ retQ DSteps DT DU awR rQ SStep
/-- Each node's parts, by a stack of nodes. -/
def prtF (b : List Node) : Nat -> Nat -> List (Int × Int) -> List Int -> Option (List (Int × Int))
 | 0, _, ps, _ => some ps
 | f + 1, k, ps, st =>
  if (at' b (k : Int)).op = 4 \/ (at' b (k : Int)).op = 5 then
   if 2 <= st.length then prtF b f (k + 1) ((ps.set k (-1, -1)).set k (at' st ((st.length : Int) - 2), at' st ((st.length : Int) - 1))) (st.take ((st.length : Int) - 2).toNat ++ [(k : Int)]) else none
  else if (at' b (k : Int)).op = 6 \/ (at' b (k : Int)).op = 7 \/ (at' b (k : Int)).op = 8 then
   if 1 <= st.length then prtF b f (k + 1) ((ps.set k (-1, -1)).set k ((k : Int) - 1, (at' (ps.set k (-1, -1)) (k : Int)).2)) (st.take ((st.length : Int) - 1).toNat ++ [(k : Int)]) else none
  else prtF b f (k + 1) (ps.set k (-1, -1)) (st ++ [(k : Int)])
def prtM (b : List Node) : Option (List (Int × Int)) := prtF b b.length 0 (List.replicate b.length (0, 0)) []
theorem partsOf_c (b : List Node) (hb : b.length <= 1000000) (ps : List (Int × Int)) (h : prtM b = some ps) : ACalls Tryz.prog 76 [.c (.p (bodyP b))] [] (fun q _ => q = .ret (.c (.p (.sl 2 (ps.map encP2))))) := by
 refine acalls_by Tryz.func76 Tryz.ntmps76 ?_
 simp only [argFr]
 have h0 : ([] : List AObj) ++ [.arr 65 2 (List.replicate ((b.length : Int)).toNat [lI 0, lI 0])] = [.arr 65 2 ((List.replicate b.length ((0 : Int), (0 : Int))).map encP2)] := by simp [encP2]
 repeat' (first| (show lMakeSlice; refine k_make ?_ (hσ := h0))| (refine wS ?_)| fail)
 refine gw_nil 4 3 1 (by exact rfl) ?_
 refine aw_roundsP (ι := Nat × List (Int × Int) × List Int) 1 (fun i => [.arr 65 2 (i.2.1.map encP2)]) (fun i n => [(0, .c (.p (bodyP b))), (3, .c (.ms 0 b.length)), (4, .c (.ms (n + 0) i.2.2.length)), (10, .c (.p (bodyP b))), (11, i64 b.length), (12, i64 i.1)]) (fun i n => [.arr 3 1 (i.2.2.map encI1)]) (fun i => i.1 <= b.length /\ i.2.1.length = b.length /\ i.2.2.length <= i.1 /\ prtF b (b.length - i.1) i.1 i.2.1 i.2.2 = some ps) (fun i => b.length - i.1) (0, List.replicate b.length (0, 0), []) 1 (fun _ => rfl) ⟨by simp, by simp, by simp, h⟩ (by omega) (by simp) rfl rfl (by simp [Fr.get]) ?_
 rintro ⟨k, l, st⟩ n g ⟨h1, h2, h3, h4⟩ hg
 dsimp only at h1 h2 h3 h4 hg ⊢
 have hg1 : 1 + g.length = n := by simp at hg; omega
 clear hg h h0
 by_cases hk : k < b.length
 ·obtain ⟨m, hm⟩ : ∃ m, b.length - k = m + 1 := ⟨b.length - k - 1, by omega⟩
  rw [hm] at h4
  simp only [prtF] at h4
  by_cases p4 : (at' b (k : Int)).op = 4 \/ (at' b (k : Int)).op = 5
  ·rw [if_pos p4] at h4
   split at h4
   case isFalse => cases h4
   rename_i hc
   rcases p4 with p4 | p4
   ·repeat' (first| (refine aw_T ?_ (hb := eT))| (show lStore; first | refine k_storeElM (i := k) (f := encP2) (-1, -1) ?_ | refine k_storeElM (i := k) (f := encP2) (at' st ((st.length : Int) - 2), at' st ((st.length : Int) - 1)) ?_)| (show lCall; refine k_app1 (f := encI1) (k : Int) ?_)| (refine wS ?_)| fail)
    exact ⟨(k + 1, (l.set k (-1, -1)).set k (at' st ((st.length : Int) - 2), at' st ((st.length : Int) - 1)), st.take ((st.length : Int) - 2).toNat ++ [(k : Int)]), n + 2, ⟨by dsimp only; omega, by simp [h2], by simp; omega, by dsimp only; rw [show b.length - (k + 1) = m by omega]; exact h4⟩, by omega, by simp; omega, rfl, dropGP hg1 (by simp) rfl, by simp [Fr.get]; omega, by dsimp only; omega⟩
   ·repeat' (first| (refine aw_T ?_ (hb := eT))| (refine aw_F ?_ (hb := eF))| (show lStore; first | refine k_storeElM (i := k) (f := encP2) (-1, -1) ?_ | refine k_storeElM (i := k) (f := encP2) (at' st ((st.length : Int) - 2), at' st ((st.length : Int) - 1)) ?_)| (show lCall; refine k_app1 (f := encI1) (k : Int) ?_)| (refine wS ?_)| fail)
    exact ⟨(k + 1, (l.set k (-1, -1)).set k (at' st ((st.length : Int) - 2), at' st ((st.length : Int) - 1)), st.take ((st.length : Int) - 2).toNat ++ [(k : Int)]), n + 2, ⟨by dsimp only; omega, by simp [h2], by simp; omega, by dsimp only; rw [show b.length - (k + 1) = m by omega]; exact h4⟩, by omega, by simp; omega, rfl, dropGP hg1 (by simp) rfl, by simp [Fr.get]; omega, by dsimp only; omega⟩
  rw [if_neg p4] at h4
  by_cases p6 : (at' b (k : Int)).op = 6 \/ (at' b (k : Int)).op = 7 \/ (at' b (k : Int)).op = 8
  ·rw [if_pos p6] at h4
   split at h4
   case isFalse => cases h4
   rename_i hc
   rcases p6 with p6 | p6 | p6
   ·repeat' (first| (refine aw_T ?_ (hb := eT))| (refine aw_F ?_ (hb := eF))| (show lStore; first | refine k_storeElM (i := k) (f := encP2) (-1, -1) ?_ | refine k_storePart (i := k) (f := encP2) ((k : Int) - 1, (at' (l.set k (-1, -1)) (k : Int)).2) ?_)| (show lCall; refine k_app1 (f := encI1) (k : Int) ?_)| (refine wS ?_)| fail)
    exact ⟨(k + 1, (l.set k (-1, -1)).set k ((k : Int) - 1, (at' (l.set k (-1, -1)) (k : Int)).2), st.take ((st.length : Int) - 1).toNat ++ [(k : Int)]), n + 2, ⟨by dsimp only; omega, by simp [h2], by simp; omega, by dsimp only; rw [show b.length - (k + 1) = m by omega]; exact h4⟩, by omega, by simp; omega, rfl, dropGP hg1 (by simp) rfl, by simp [Fr.get], by dsimp only; omega⟩
   ·repeat' (first| (refine aw_T ?_ (hb := eT))| (refine aw_F ?_ (hb := eF))| (show lStore; first | refine k_storeElM (i := k) (f := encP2) (-1, -1) ?_ | refine k_storePart (i := k) (f := encP2) ((k : Int) - 1, (at' (l.set k (-1, -1)) (k : Int)).2) ?_)| (show lCall; refine k_app1 (f := encI1) (k : Int) ?_)| (refine wS ?_)| fail)
    exact ⟨(k + 1, (l.set k (-1, -1)).set k ((k : Int) - 1, (at' (l.set k (-1, -1)) (k : Int)).2), st.take ((st.length : Int) - 1).toNat ++ [(k : Int)]), n + 2, ⟨by dsimp only; omega, by simp [h2], by simp; omega, by dsimp only; rw [show b.length - (k + 1) = m by omega]; exact h4⟩, by omega, by simp; omega, rfl, dropGP hg1 (by simp) rfl, by simp [Fr.get], by dsimp only; omega⟩
   ·repeat' (first| (refine aw_T ?_ (hb := eT))| (refine aw_F ?_ (hb := eF))| (show lStore; first | refine k_storeElM (i := k) (f := encP2) (-1, -1) ?_ | refine k_storePart (i := k) (f := encP2) ((k : Int) - 1, (at' (l.set k (-1, -1)) (k : Int)).2) ?_)| (show lCall; refine k_app1 (f := encI1) (k : Int) ?_)| (refine wS ?_)| fail)
    exact ⟨(k + 1, (l.set k (-1, -1)).set k ((k : Int) - 1, (at' (l.set k (-1, -1)) (k : Int)).2), st.take ((st.length : Int) - 1).toNat ++ [(k : Int)]), n + 2, ⟨by dsimp only; omega, by simp [h2], by simp; omega, by dsimp only; rw [show b.length - (k + 1) = m by omega]; exact h4⟩, by omega, by simp; omega, rfl, dropGP hg1 (by simp) rfl, by simp [Fr.get], by dsimp only; omega⟩
  rw [if_neg p6] at h4
  repeat' (first| (refine aw_T ?_ (hb := eT))| (refine aw_F ?_ (hb := eF))| (show lStore; refine k_storeElM (i := k) (f := encP2) (-1, -1) ?_)| (show lCall; refine k_app1 (f := encI1) (k : Int) ?_)| (refine wS ?_)| fail)
  exact ⟨(k + 1, l.set k (-1, -1), st.take st.length ++ [(k : Int)]), n + 2, ⟨by dsimp only; omega, by simp [h2], by simp; omega, by dsimp only; rw [show b.length - (k + 1) = m by omega]; rw [List.take_length]; exact h4⟩, by omega, by simp; omega, rfl, dropGP hg1 (by simp) rfl, by simp [Fr.get], by dsimp only; omega⟩
 ·have : k = b.length := by omega
  subst this
  rw [Nat.sub_self] at h4
  simp only [prtF] at h4
  injection h4 with h4
  subst h4
  repeat' (first| (refine aw_F ?_ (hb := eF))| (show lAt 2; refine k_freezeM (f := encP2) 67 ?_)| (show eRet; refine ret1 Tryz.results76 ?_)| (refine wS ?_)| fail)
  rw [<- h2, List.take_length]
end Go.AL
namespace Go.AL
open Go.Proofs
attribute [local irreducible] AWp AList RStep seqQ blockQ retQ DSteps DT DU awR rQ SStep
structure Info where
 may : May
 cl : Cls
 deriving Inhabited, DecidableEq
def encInfo (i : Info) : List PV := [lB i.may.f0, lB i.may.f1, lB i.may.f2, lB i.may.f3, lU i.cl.c0, lU i.cl.c1, lU i.cl.c2, lU i.cl.c3]
abbrev infosP (l : List Info) : PV := .sl 8 (l.map encInfo)
abbrev intsV (l : List Int) : AV := .c (.p (.sl 1 (l.map encI1)))
theorem look1_c (a b : Int) (is : List Info) : ACalls Tryz.prog 94 [i64 a, i64 b, .c (.p (infosP is))] [] (fun q _ => q = .ret (.c (.p (.lit (.slice none 0 0))))) := by
 refine acalls_by Tryz.func94 Tryz.ntmps94 ?_
 simp only [argFr]
 repeat' (first| (show eRet; refine ret1 Tryz.results94 ?_)| (refine wS ?_)| fail)
 rfl
theorem look2_c (a b : Int) (is : List Info) : ACalls Tryz.prog 95 [i64 a, i64 b, .c (.p (infosP is))] [] (fun q _ => q = .ret (intsV [a])) := by
 refine acalls_by Tryz.func95 Tryz.ntmps95 ?_
 simp only [argFr]
 repeat' (first| (show eRet; refine ret1 Tryz.results95 ?_)| (refine wS ?_)| fail)
 rfl
theorem look3_c (a b : Int) (is : List Info) : ACalls Tryz.prog 96 [i64 a, i64 b, .c (.p (infosP is))] [] (fun q _ => q = .ret (intsV [a, b])) := by
 refine acalls_by Tryz.func96 Tryz.ntmps96 ?_
 simp only [argFr]
 repeat' (first| (show eRet; refine ret1 Tryz.results96 ?_)| (refine wS ?_)| fail)
 rfl
theorem look4_c (a b : Int) (is : List Info) (h0 : 0 <= a) (h1 : a < is.length) : ACalls Tryz.prog 97 [i64 a, i64 b, .c (.p (infosP is))] [] (fun q _ => q = .ret (intsV (if (at' is a).may.f1 = true then [a, b] else [a]))) := by
 cases h : (at' is a).may.f1 with
 | true =>
  refine acalls_by Tryz.func97 Tryz.ntmps97 ?_
  simp only [argFr]
  repeat' (first| (refine aw_T ?_ (hb := h))| (show eRet; refine ret1 Tryz.results97 ?_)| (refine wS ?_)| fail)
  rfl
 | false =>
  refine acalls_by Tryz.func97 Tryz.ntmps97 ?_
  simp only [argFr]
  repeat' (first| (refine aw_F ?_ (hb := h))| (show eRet; refine ret1 Tryz.results97 ?_)| (refine wS ?_)| fail)
  rfl
end Go.AL
namespace Go.AL
open Go.Proofs
section
variable {P : Program} {N : NN} {Q : AE -> St -> Prop} {ops : Array Oper} {rest : List Oper} {σ σ' : List AObj} {fr : Fr}
variable {ty : TypeId} {pos : String} {aft : Array Edge} {α : Type} {enc : α -> Value} [DecidableEq α]
theorem k_mapIns {t kt et : TypeId} {id : Nat} {ents : List (α × AV)} {x y z : Operand} {yv zv : AV} {k : α} (hu : P.underlying t = some (.map kt et)) [TKey P kt enc] [KeyV enc yv k] (ho : σ[id]? = some (.ext (MapX enc ents))) (hσ : σ.set id (.ext (MapX enc (setM k zv ents))) = σ')
  (kk : AList P N ops Q rest ⟨fr, σ'⟩) (hx : ev fr x = .c (.mpr id) := by exact rfl) (hy : ev fr y = yv := by conv => lhs; whnf) (hz : ev fr z = zv := by conv => lhs; whnf) (hp : pureV zv = true := by rfl) (hg : goodConst y = true := by rfl) (hgz : goodConst z = true := by rfl) :
  AList P N ops Q (⟨none, .insert t x y z, ty, pos, aft, none⟩ :: rest) ⟨fr, σ⟩ :=
 fun m F a w hr => k_mapSet (enc := enc) (ty := ty) (pos := pos) (aft := aft) hu ho hσ kk hx hy hz hp hg hgz m F a w hr
end
attribute [local irreducible] AWp AList RStep seqQ blockQ retQ DSteps DT DU awR rQ SStep
instance : TKey Tryz.prog 3 encI := tkey_int Tryz.underlying3
instance : TSt Tryz.prog 156 [(0, 1)] := TSt.of Tryz.underlying156 (by kernel_rfl) (by kernel_rfl)
abbrev fnV (f : Nat) : AV := .agg [.p (.lit (.func (.func f) #[] #[]))]
abbrev nilC : List C := zC (Value.agg #[Value.nilFunc])
abbrev lookEnts : List (Int × AV) := [(4, fnV 97), (5, fnV 96), (6, fnV 95), (7, fnV 95), (8, fnV 95)]
def lookFn (op : Int) : Nat := if op = 4 then 97 else if op = 5 then 96 else if op = 6 \/ op = 7 \/ op = 8 then 95 else 94
abbrev nilFV : AV := .agg [.p (.lit .nilFunc)]
theorem nilF_zero (m : List Loc) (w : World) (F : Nat -> Nat -> Prop) : RV0 m w F nilFV (.agg #[.nilFunc]) := ⟨_, rfl, rfl, fun j x hj => by
 match j, hj with
 | 0, hj => injection hj with hj; subst hj; exact RP.lit rfl
 | n + 1, hj => cases hj⟩
theorem nilF_not_tup (l : List AV) : nilFV ≠ .tup l := fun h => by cases h
theorem look_none {op : Int} (h : ¬(op = 4 \/ op = 5 \/ op = 6 \/ op = 7 \/ op = 8)) : lookM op lookEnts = none := by
 simp only [not_or] at h
 simp [lookM, h]
theorem looks_c (op : Int) : ACalls Tryz.prog 85 [i64 op] [] (fun q _ => q = .ret (fnV (lookFn op))) := by
 have hp : ∀ v ∈ lookEnts, pureV0 v.2 = true := fun v hv => by
  simp only [lookEnts, List.mem_cons, List.not_mem_nil, or_false] at hv
  rcases hv with rfl | rfl | rfl | rfl | rfl <;> rfl
 by_cases h : op = 4 \/ op = 5 \/ op = 6 \/ op = 7 \/ op = 8
 ·obtain ⟨h1, h2⟩ : (lookM op lookEnts).getD nilFV = fnV (lookFn op) /\ (lookM op lookEnts).isSome = true := by
   rcases h with rfl | rfl | rfl | rfl | rfl <;> exact ⟨rfl, rfl⟩
  refine acalls_by Tryz.func85 Tryz.ntmps85 ?_
  simp only [argFr]
  repeat' (first| (show AList _ _ _ _ (Oper.mk _ (.insert _ _ _ _) _ _ _ none :: _) _; first | refine k_mapIns (enc := encI) (yv := i64 4) (zv := fnV 97) (σ' := [.cells nilC, .ext (MapX encI [(4, fnV 97)])]) Tryz.underlying166 rfl rfl ?_ (hy := by exact rfl) (hz := by exact rfl) | refine k_mapIns (enc := encI) (yv := i64 5) (zv := fnV 96) (σ' := [.cells nilC, .ext (MapX encI [(4, fnV 97), (5, fnV 96)])]) Tryz.underlying166 rfl rfl ?_ (hy := by exact rfl) (hz := by exact rfl) | refine k_mapIns (enc := encI) (yv := i64 6) (zv := fnV 95) (σ' := [.cells nilC, .ext (MapX encI [(4, fnV 97), (5, fnV 96), (6, fnV 95)])]) Tryz.underlying166 rfl rfl ?_ (hy := by exact rfl) (hz := by exact rfl) | refine k_mapIns (enc := encI) (yv := i64 7) (zv := fnV 95) (σ' := [.cells nilC, .ext (MapX encI [(4, fnV 97), (5, fnV 96), (6, fnV 95), (7, fnV 95)])]) Tryz.underlying166 rfl rfl ?_ (hy := by exact rfl) (hz := by exact rfl) | refine k_mapIns (enc := encI) (yv := i64 8) (zv := fnV 95) (σ' := [.cells nilC, .ext (MapX encI [(4, fnV 97), (5, fnV 96), (6, fnV 95), (7, fnV 95), (8, fnV 95)])]) Tryz.underlying166 rfl rfl ?_ (hy := by exact rfl) (hz := by exact rfl))| (show lMakeMap; refine k_makeMap encI ?_)| (show lOp; refine op0 (by (show kLookup; exact b_lookupOk (enc := encI) (yv := i64 op) (zv := nilFV) Tryz.underlying166 rfl nilF_zero nilF_not_tup hp h1 h2 (hy := by exact rfl))) ?_)| (show eRet; refine retC1 Tryz.results85 ?_)| (refine wS ?_)| fail)
  rfl
 ·have hn := look_none h
  have e : lookFn op = 94 := by unfold lookFn; rw [if_neg (by omega), if_neg (by omega), if_neg (by omega)]
  rw [e]
  have h1 : (lookM op lookEnts).getD nilFV = nilFV := by rw [hn]; rfl
  have h2 : (lookM op lookEnts).isSome = false := by rw [hn]; rfl
  refine acalls_by Tryz.func85 Tryz.ntmps85 ?_
  simp only [argFr]
  repeat' (first| (show AList _ _ _ _ (Oper.mk _ (.insert _ _ _ _) _ _ _ none :: _) _; first | refine k_mapIns (enc := encI) (yv := i64 4) (zv := fnV 97) (σ' := [.cells nilC, .ext (MapX encI [(4, fnV 97)])]) Tryz.underlying166 rfl rfl ?_ (hy := by exact rfl) (hz := by exact rfl) | refine k_mapIns (enc := encI) (yv := i64 5) (zv := fnV 96) (σ' := [.cells nilC, .ext (MapX encI [(4, fnV 97), (5, fnV 96)])]) Tryz.underlying166 rfl rfl ?_ (hy := by exact rfl) (hz := by exact rfl) | refine k_mapIns (enc := encI) (yv := i64 6) (zv := fnV 95) (σ' := [.cells nilC, .ext (MapX encI [(4, fnV 97), (5, fnV 96), (6, fnV 95)])]) Tryz.underlying166 rfl rfl ?_ (hy := by exact rfl) (hz := by exact rfl) | refine k_mapIns (enc := encI) (yv := i64 7) (zv := fnV 95) (σ' := [.cells nilC, .ext (MapX encI [(4, fnV 97), (5, fnV 96), (6, fnV 95), (7, fnV 95)])]) Tryz.underlying166 rfl rfl ?_ (hy := by exact rfl) (hz := by exact rfl) | refine k_mapIns (enc := encI) (yv := i64 8) (zv := fnV 95) (σ' := [.cells nilC, .ext (MapX encI [(4, fnV 97), (5, fnV 96), (6, fnV 95), (7, fnV 95), (8, fnV 95)])]) Tryz.underlying166 rfl rfl ?_ (hy := by exact rfl) (hz := by exact rfl))| (show lMakeMap; refine k_makeMap encI ?_)| (show lOp; refine op0 (by (show kLookup; exact b_lookupOk (enc := encI) (yv := i64 op) (zv := nilFV) Tryz.underlying166 rfl nilF_zero nilF_not_tup hp h1 h2 (hy := by exact rfl))) ?_)| (show eRet; refine retC1 Tryz.results85 ?_)| (refine wS ?_)| fail)
  rfl
end Go.AL
namespace Go.AL
open Go.Proofs
attribute [local irreducible] AWp AList RStep seqQ blockQ retQ DSteps DT DU DM awR rQ SStep
abbrev preM (c : Core) (ps : List (List (Int × Int))) (rs : List May) (fs : List Cls) : List AObj := [.cells [.ptr 1 0], .cells [.p (rulesP c.rules), .p (lI c.start), .p (partsP ps), .ms 2 rs.length, .ms 3 fs.length], .arr 108 4 (rs.map encMay), .arr 60 4 (fs.map encCls)]
def lastM (c : Core) (ps : List (List (Int × Int))) (rs : List May) (r : Int) : May := at' (bodyM (at' c.rules r).body (at' ps r) rs) (((at' c.rules r).body.length : Int) - 1)
theorem bodyF_len (b : List Node) (ps : List (Int × Int)) (rs : List May) : ∀ (f k : Nat) (l : List May), (bodyF b ps rs f k l).length = l.length
 | 0, _, _ => rfl
 | f + 1, k, l => by simp only [bodyF]; rw [bodyF_len b ps rs f]; simp
theorem bodyM_len (b : List Node) (ps : List (Int × Int)) (rs : List May) : (bodyM b ps rs).length = b.length := by unfold bodyM; rw [bodyF_len]; simp
theorem ld_preM {c : Core} {ps : List (List (Int × Int))} {rs : List May} {fs : List Cls} {z : List AObj} : LD (preM c ps rs fs ++ z) (.ptr 1 0) (solvP c ps rs fs) := by
 refine .cells (l := [.p (rulesP c.rules), .p (lI c.start), .p (partsP ps), .ms 2 rs.length, .ms 3 fs.length]) rfl rfl fun j x y h1 h2 => ?_
 match j, h1, h2 with
 | 0, h1, h2 => injection h1 with h1; injection h2 with h2; subst h1; subst h2; exact .p
 | 1, h1, h2 => injection h1 with h1; injection h2 with h2; subst h1; subst h2; exact .p
 | 2, h1, h2 => injection h1 with h1; injection h2 with h2; subst h1; subst h2; exact .p
 | 3, h1, h2 => injection h1 with h1; injection h2 with h2; subst h1; subst h2; exact .arr (e := 108) (l := rs.map encMay) rfl (by simp) (List.take_of_length_le (by simp))
 | 4, h1, h2 => injection h1 with h1; injection h2 with h2; subst h1; subst h2; exact .arr (e := 60) (l := fs.map encCls) rfl (by simp) (List.take_of_length_le (by simp))
 | n + 5, h1, _ => cases h1
theorem flat_may (l : List May) : ∀ el ∈ l.map encMay, el.all flatP = true := fun el h => by
 obtain ⟨m, _, rfl⟩ := List.mem_map.1 h
 rfl
theorem flat_cls (l : List Cls) : ∀ el ∈ l.map encCls, el.all flatP = true := fun el h => by
 obtain ⟨m, _, rfl⟩ := List.mem_map.1 h
 rfl
theorem next39_c (c : Core) (ps : List (List (Int × Int))) (rs : List May) (fs : List Cls) (hin : SolvIn c ps rs.length) (r : Int) (r0 : 0 <= r) (r1 : r < c.rules.length) (hne : 0 < (at' c.rules r).body.length) :
  ACalls Tryz.prog 58 [i64 r, .c (.ptr 0 0)] (preM c ps rs fs) (fun q σ' => q = .ret (mayV (lastM c ps rs r)) /\ ∃ g, σ' = preM c ps rs fs ++ g) := by
 have hb := hin.body r r0 r1
 have hl := bodyM_len (at' c.rules r).body (at' ps r) rs
 refine acalls_by Tryz.func58 Tryz.ntmps58 ?_
 simp only [argFr]
 repeat' (first| (show lCall; refine k_lendNew (body_c c ps rs fs hin r r0 r1) (.cons (.c ld_preM) (.cons (.c .p) .nil)) ?_ (flat_may _))| (show eRet; refine retC1 Tryz.results58 ?_)| (refine wS ?_)| fail)
 exact ⟨rfl, _, rfl⟩
theorem neq_no {α : Type} [DecidableEq α] {a b : α} (h : a = b) : (!decide (a = b)) = false := by rw [decide_eq_true h]; rfl
theorem neq_yes {α : Type} [DecidableEq α] {a b : α} (h : ¬a = b) : (!decide (a = b)) = true := by rw [decide_eq_false h]; rfl
def passF {α : Type} [Inhabited α] [DecidableEq α] (nx : List α -> Int -> α) : Nat -> Nat -> List α -> Bool -> List α × Bool
 | 0, _, l, ch => (l, ch)
 | m + 1, k, l, ch => if nx l (k : Int) ≠ at' l (k : Int) then passF nx m (k + 1) (l.set k (nx l (k : Int))) true else passF nx m (k + 1) l ch
def fixF {α : Type} [Inhabited α] [DecidableEq α] (nx : List α -> Int -> α) : Nat -> List α -> Option (List α)
 | 0, _ => none
 | f + 1, l => if (passF nx l.length 0 l false).2 = true then fixF nx f (passF nx l.length 0 l false).1 else some (passF nx l.length 0 l false).1
theorem passF_len {α : Type} [Inhabited α] [DecidableEq α] (nx : List α -> Int -> α) : ∀ (m k : Nat) (l : List α) (ch : Bool), (passF nx m k l ch).1.length = l.length
 | 0, _, _, _ => rfl
 | m + 1, k, l, ch => by
  simp only [passF]
  split
  ·rw [passF_len nx m]; simp
  ·rw [passF_len nx m]
theorem fixF_len {α : Type} [Inhabited α] [DecidableEq α] (nx : List α -> Int -> α) : ∀ (f : Nat) (l o : List α), fixF nx f l = some o -> o.length = l.length
 | 0, _, _, h => by cases h
 | f + 1, l, o, h => by
  simp only [fixF] at h
  split at h
  ·rw [fixF_len nx f _ _ h, passF_len]
  ·injection h with h; rw [<- h, passF_len]
structure FactsIn (c : Core) (ps : List (List (Int × Int))) (n : Nat) : Prop where
 inn : SolvIn c ps n
 ne : ∀ r : Int, 0 <= r -> r < c.rules.length -> 0 < (at' c.rules r).body.length
 n : n = c.rules.length
theorem may_eq (a b : May) : eqCells [.bool a.f0, .bool a.f1, .bool a.f2, .bool a.f3] [.bool b.f0, .bool b.f1, .bool b.f2, .bool b.f3] = decide (a = b) := by
 obtain ⟨a0, a1, a2, a3⟩ := a
 obtain ⟨b0, b1, b2, b3⟩ := b
 cases a0 <;> cases a1 <;> cases a2 <;> cases a3 <;> cases b0 <;> cases b1 <;> cases b2 <;> cases b3 <;> rfl
theorem eqt108 (d : Nat) : EqT Tryz.prog (d + 2) 108 [.bool, .bool, .bool, .bool] := eqT_struct' inferInstance Tryz.underlying108 (by kernel_rfl) (.cons (k1 := [_]) rfl (by decide) (eqt4 _) (.cons (k1 := [_]) rfl (by decide) (eqt4 _) (.cons (k1 := [_]) rfl (by decide) (eqt4 _) (.cons (k1 := [_]) (k2 := []) rfl (by decide) (eqt4 _) .nil))))
instance : TEq Tryz.prog 108 [.bool, .bool, .bool, .bool] := ⟨eqt108 9998, inferInstance, by kernel_rfl⟩
theorem fixed38_c (c : Core) (ps : List (List (Int × Int))) (fs : List Cls) (F : Nat) (rs out : List May) (hin : FactsIn c ps rs.length) (h : fixF (lastM c ps) F rs = some out) :
  ACalls Tryz.prog 57 [.c (.ms 2 rs.length), .c (.fnp 58 [(0, 0)])] (preM c ps rs fs) (fun q σ' => q = .ret (.tup []) /\ ∃ g, σ' = preM c ps out fs ++ g) := by
 have hrl := hin.inn.rules
 have hn := hin.n
 refine acalls_by Tryz.func57 Tryz.ntmps57 ?_
 simp only [argFr]
 repeat' (first| (refine wS ?_)| fail)
 refine aw_roundsP (ι := Nat × List May × Bool) 4 (fun i => preM c ps i.2.1 fs) (fun i n => [(0, .c (.ms 2 rs.length)), (1, .c (.fnp 58 [(0, 0)])), (4, bl i.2.2)]) (fun _ _ => []) (fun i => i.2.1.length = rs.length /\ (i.2.2 = true -> fixF (lastM c ps) i.1 i.2.1 = some out) /\ (i.2.2 = false -> i.2.1 = out)) (fun i => i.1) (F, rs, true) 4 (fun _ => rfl) ⟨rfl, fun _ => h, fun h => Bool.noConfusion h⟩ (by omega) (by simp) rfl rfl (by simp [Fr.get]) ?_
 rintro ⟨f, l, b⟩ n g ⟨h1, h2, h3⟩ hg
 dsimp only at h1 h2 h3 hg ⊢
 have hg4 : 4 + g.length = n := by simp at hg; omega
 clear hg
 cases b with
 | false =>
  have h3 := h3 rfl
  subst h3
  repeat' (first| (show eEnd; refine end0 Tryz.results57 ?_)| (refine wS ?_)| fail)
  exact ⟨rfl, _, rfl⟩
 | true =>
  have h2 := h2 rfl
  clear h3
  cases f with
  | zero => cases h2
  | succ f =>
   simp only [fixF] at h2
   repeat' (first| (refine wS ?_)| fail)
   refine aw_roundsP (ι := Nat × List May × Bool) 4 (fun i => preM c ps i.2.1 fs) (fun i n => [(0, .c (.ms 2 rs.length)), (1, .c (.fnp 58 [(0, 0)])), (9, i64 rs.length), (10, i64 i.1), (4, bl i.2.2)]) (fun _ _ => []) (fun i => i.1 <= rs.length /\ i.2.1.length = rs.length /\ passF (lastM c ps) (rs.length - i.1) i.1 i.2.1 i.2.2 = passF (lastM c ps) l.length 0 l false) (fun i => rs.length - i.1) (0, l, false) n (fun _ => rfl) ⟨by simp, h1, by rw [h1]; rfl⟩ (by omega) (by simp; omega) rfl (dropGP (j := 0) hg4 rfl rfl) (by simp [Fr.get]) ?_
   clear hg4
   rintro ⟨k, l2, ch⟩ n g ⟨q1, q2, q3⟩ hg
   dsimp only at q1 q2 q3 hg ⊢
   have hg4 : 4 + g.length = n := by simp at hg; omega
   clear hg
   by_cases hk : k < rs.length
   ·obtain ⟨m, hm⟩ : ∃ m, rs.length - k = m + 1 := ⟨rs.length - k - 1, by omega⟩
    rw [hm] at q3
    simp only [passF] at q3
    have hin2 : SolvIn c ps l2.length := by rw [q2]; exact hin.inn
    have hnx := next39_c c ps l2 fs hin2 k (by omega) (by omega) (hin.ne k (by omega) (by omega))
    have hpre : preM c ps l2 fs = [.cells [.ptr 1 0], .cells [.p (rulesP c.rules), .p (lI c.start), .p (partsP ps), .ms 2 rs.length, .ms 3 fs.length], .arr 108 4 (l2.map encMay), .arr 60 4 (fs.map encCls)] := by unfold preM; rw [q2]
    by_cases hne : lastM c ps l2 k = at' l2 (k : Int)
    ·rw [if_neg (by simpa using hne)] at q3
     repeat' (first| (refine aw_T ?_ (hb := eT))| (refine aw_F ?_ (hb := neq_no hne))| (show lCall; refine k_callPre (preM c ps l2 fs) hnx ?_ (by simp [okO, okC]) (by rfl) (by rfl))| (show lOp; refine op0 (by (show kBinopNeq; exact b_neqAgg (hr := may_eq (lastM c ps l2 k) (at' l2 (k : Int))))) ?_)| (refine wS ?_)| fail)
     exact ⟨(k + 1, l2, ch), n + 1, ⟨by dsimp only; omega, q2, by dsimp only; rw [show rs.length - (k + 1) = m by omega]; exact q3⟩, by omega, by simp; omega, rfl, dropGP hg4 (by simp) rfl, by simp [Fr.get], by dsimp only; omega⟩
    ·rw [if_pos hne] at q3
     have hset : (preM c ps (l2.set k (lastM c ps l2 k)) fs) = [.cells [.ptr 1 0], .cells [.p (rulesP c.rules), .p (lI c.start), .p (partsP ps), .ms 2 l2.length, .ms 3 fs.length], .arr 108 4 ((l2.set k (lastM c ps l2 k)).map encMay), .arr 60 4 (fs.map encCls)] := by unfold preM; rw [List.length_set]
     repeat' (first| (refine aw_T ?_ (hb := eT))| (refine aw_T ?_ (hb := neq_yes hne))| (show lStore; refine k_storeElM (i := k) (f := encMay) (lastM c ps l2 k) ?_)| (show lCall; refine k_callPre (preM c ps l2 fs) hnx ?_ (by simp [okO, okC]) (by rfl) (by rfl))| (show lOp; refine op0 (by (show kBinopNeq; exact b_neqAgg (hr := may_eq (lastM c ps l2 k) (at' l2 (k : Int))))) ?_)| (refine wS ?_)| fail)
     exact ⟨(k + 1, l2.set k (lastM c ps l2 k), true), n + 1, ⟨by dsimp only; omega, by simp [q2], by dsimp only; rw [show rs.length - (k + 1) = m by omega]; exact q3⟩, by omega, by simp; omega, hset.symm, dropGP hg4 (by simp) rfl, by simp [Fr.get], by dsimp only; omega⟩
   ·have hkn : k = rs.length := by omega
    subst hkn
    rw [Nat.sub_self] at q3
    simp only [passF] at q3
    repeat' (first| (refine aw_F ?_ (hb := eF))| (refine wS ?_)| fail)
    refine ⟨(f, l2, ch), n, ⟨q2, fun hch => ?_, fun hch => ?_⟩, by omega, by simp; omega, rfl, dropGP (j := 0) hg4 (by simp) rfl, by simp [Fr.get], by dsimp only; omega⟩
    ·dsimp only at hch ⊢
     rw [<- q3, hch] at h2
     simpa using h2
    ·dsimp only at hch ⊢
     rw [<- q3, hch] at h2
     simpa using h2
end Go.AL
namespace Go.AL
open Go.Proofs
attribute [local irreducible] AWp AList RStep seqQ blockQ retQ DSteps DT DU DM awR rQ SStep
abbrev bodiesP (bs : List (List May)) : PV := .sl 1 (bs.map fun l => [.sl 4 (l.map encMay)])
abbrev preC (c : Core) (ps : List (List (Int × Int))) (rs : List May) (fs : List Cls) (bs : List (List May)) : List AObj := [.cells [.ptr 1 0], .cells [.p (rulesP c.rules), .p (lI c.start), .p (partsP ps), .p (.sl 4 (rs.map encMay)), .ms 2 fs.length], .arr 60 4 (fs.map encCls), .cells [.p (bodiesP bs)]]
def lastC (c : Core) (ps : List (List (Int × Int))) (bs : List (List May)) (fs : List Cls) (r : Int) : Cls := at' (bytesM (at' c.rules r).body (at' ps r) (at' bs r) fs) (((at' c.rules r).body.length : Int) - 1)
theorem bytesF_len (b : List Node) (ps : List (Int × Int)) (ms : List May) (rs : List Cls) : ∀ (f k : Nat) (l : List Cls), (bytesF b ps ms rs f k l).length = l.length
 | 0, _, _ => rfl
 | f + 1, k, l => by simp only [bytesF]; rw [bytesF_len b ps ms rs f]; simp
theorem bytesM_len (b : List Node) (ps : List (Int × Int)) (ms : List May) (rs : List Cls) : (bytesM b ps ms rs).length = b.length := by unfold bytesM; rw [bytesF_len]; simp
theorem ld_preC {c : Core} {ps : List (List (Int × Int))} {rs : List May} {fs : List Cls} {bs : List (List May)} {z : List AObj} : LD (preC c ps rs fs bs ++ z) (.ptr 1 0) (solvP c ps rs fs) := by
 refine .cells (l := [.p (rulesP c.rules), .p (lI c.start), .p (partsP ps), .p (.sl 4 (rs.map encMay)), .ms 2 fs.length]) rfl rfl fun j x y h1 h2 => ?_
 match j, h1, h2 with
 | 0, h1, h2 => injection h1 with h1; injection h2 with h2; subst h1; subst h2; exact .p
 | 1, h1, h2 => injection h1 with h1; injection h2 with h2; subst h1; subst h2; exact .p
 | 2, h1, h2 => injection h1 with h1; injection h2 with h2; subst h1; subst h2; exact .p
 | 3, h1, h2 => injection h1 with h1; injection h2 with h2; subst h1; subst h2; exact .p
 | 4, h1, h2 => injection h1 with h1; injection h2 with h2; subst h1; subst h2; exact .arr (e := 60) (l := fs.map encCls) rfl (by simp) (List.take_of_length_le (by simp))
 | n + 5, h1, _ => cases h1
theorem next41_c (c : Core) (ps : List (List (Int × Int))) (rs : List May) (fs : List Cls) (bs : List (List May)) (hin : SolvIn c ps fs.length) (r : Int) (r0 : 0 <= r) (r1 : r < c.rules.length) (hne : 0 < (at' c.rules r).body.length) (hbs : bs.length = c.rules.length) (hbl : (at' bs r).length = (at' c.rules r).body.length) :
  ACalls Tryz.prog 60 [i64 r, .c (.ptr 0 0), .c (.ptr 3 0)] (preC c ps rs fs bs) (fun q σ' => q = .ret (clsV (lastC c ps bs fs r)) /\ ∃ g, σ' = preC c ps rs fs bs ++ g) := by
 have hb := hin.body r r0 r1
 have hl := bytesM_len (at' c.rules r).body (at' ps r) (at' bs r) fs
 refine acalls_by Tryz.func60 Tryz.ntmps60 ?_
 simp only [argFr]
 repeat' (first| (show lCall; refine k_lendNew (bytes_c c ps rs fs hin r r0 r1 (at' bs r) hbl) (.cons (.c ld_preC) (.cons (.c .p) (.cons (.c .p) .nil))) ?_ (flat_cls _))| (show cRegD; refine aw_dr 6 Tryz_mixed ?_)| (show eRet; refine retC1 Tryz.results60 ?_)| (refine wS ?_)| fail)
 exact ⟨rfl, _, rfl⟩
theorem fixed40_c (c : Core) (ps : List (List (Int × Int))) (ms : List May) (bs : List (List May)) (hbs : bs.length = c.rules.length) (hbl : ∀ r : Int, 0 <= r -> r < c.rules.length -> (at' bs r).length = (at' c.rules r).body.length) (F : Nat) (rs out : List Cls) (hin : FactsIn c ps rs.length) (h : fixF (lastC c ps bs) F rs = some out) :
  ACalls Tryz.prog 59 [.c (.ms 2 rs.length), .c (.fnp 60 [(0, 0), (3, 0)])] (preC c ps ms rs bs) (fun q σ' => q = .ret (.tup []) /\ ∃ g, σ' = preC c ps ms out bs ++ g) := by
 have hrl := hin.inn.rules
 have hn := hin.n
 refine acalls_by Tryz.func59 Tryz.ntmps59 ?_
 simp only [argFr]
 repeat' (first| (refine wS ?_)| fail)
 refine aw_roundsP (ι := Nat × List Cls × Bool) 4 (fun i => preC c ps ms i.2.1 bs) (fun i n => [(0, .c (.ms 2 rs.length)), (1, .c (.fnp 60 [(0, 0), (3, 0)])), (4, bl i.2.2)]) (fun _ _ => []) (fun i => i.2.1.length = rs.length /\ (i.2.2 = true -> fixF (lastC c ps bs) i.1 i.2.1 = some out) /\ (i.2.2 = false -> i.2.1 = out)) (fun i => i.1) (F, rs, true) 4 (fun _ => rfl) ⟨rfl, fun _ => h, fun h => Bool.noConfusion h⟩ (by omega) (by simp) rfl rfl (by simp [Fr.get]) ?_
 rintro ⟨f, l, b⟩ n g ⟨h1, h2, h3⟩ hg
 dsimp only at h1 h2 h3 hg ⊢
 have hg4 : 4 + g.length = n := by simp at hg; omega
 clear hg
 cases b with
 | false =>
  have h3 := h3 rfl
  subst h3
  repeat' (first| (show eEnd; refine end0 Tryz.results59 ?_)| (refine wS ?_)| fail)
  exact ⟨rfl, _, rfl⟩
 | true =>
  have h2 := h2 rfl
  clear h3
  cases f with
  | zero => cases h2
  | succ f =>
   simp only [fixF] at h2
   repeat' (first| (refine wS ?_)| fail)
   refine aw_roundsP (ι := Nat × List Cls × Bool) 4 (fun i => preC c ps ms i.2.1 bs) (fun i n => [(0, .c (.ms 2 rs.length)), (1, .c (.fnp 60 [(0, 0), (3, 0)])), (9, i64 rs.length), (10, i64 i.1), (4, bl i.2.2)]) (fun _ _ => []) (fun i => i.1 <= rs.length /\ i.2.1.length = rs.length /\ passF (lastC c ps bs) (rs.length - i.1) i.1 i.2.1 i.2.2 = passF (lastC c ps bs) l.length 0 l false) (fun i => rs.length - i.1) (0, l, false) n (fun _ => rfl) ⟨by simp, h1, by rw [h1]; rfl⟩ (by omega) (by simp; omega) rfl (dropGP (j := 0) hg4 rfl rfl) (by simp [Fr.get]) ?_
   clear hg4
   rintro ⟨k, l2, ch⟩ n g ⟨q1, q2, q3⟩ hg
   dsimp only at q1 q2 q3 hg ⊢
   have hg4 : 4 + g.length = n := by simp at hg; omega
   clear hg
   by_cases hk : k < rs.length
   ·obtain ⟨m, hm⟩ : ∃ m, rs.length - k = m + 1 := ⟨rs.length - k - 1, by omega⟩
    rw [hm] at q3
    simp only [passF] at q3
    have hin2 : SolvIn c ps l2.length := by rw [q2]; exact hin.inn
    have hnx := next41_c c ps ms l2 bs hin2 k (by omega) (by omega) (hin.ne k (by omega) (by omega)) hbs (hbl k (by omega) (by omega))
    have hpre : preC c ps ms l2 bs = [.cells [.ptr 1 0], .cells [.p (rulesP c.rules), .p (lI c.start), .p (partsP ps), .p (.sl 4 (ms.map encMay)), .ms 2 rs.length], .arr 60 4 (l2.map encCls), .cells [.p (bodiesP bs)]] := by unfold preC; rw [q2]
    by_cases hne : lastC c ps bs l2 k = at' l2 (k : Int)
    ·rw [if_neg (by simpa using hne)] at q3
     repeat' (first| (refine aw_T ?_ (hb := eT))| (refine aw_F ?_ (hb := neq_no hne))| (show lCall; refine k_callPre (preC c ps ms l2 bs) hnx ?_ (by simp [okO, okC]) (by rfl) (by rfl))| (show lOp; refine op0 (by (show kBinopNeq; exact b_neqAgg (hr := clsW_eq (lastC c ps bs l2 k) (at' l2 (k : Int))))) ?_)| (refine wS ?_)| fail)
     exact ⟨(k + 1, l2, ch), n + 1, ⟨by dsimp only; omega, q2, by dsimp only; rw [show rs.length - (k + 1) = m by omega]; exact q3⟩, by omega, by simp; omega, rfl, dropGP hg4 (by simp) rfl, by simp [Fr.get], by dsimp only; omega⟩
    ·rw [if_pos hne] at q3
     have hset : (preC c ps ms (l2.set k (lastC c ps bs l2 k)) bs) = [.cells [.ptr 1 0], .cells [.p (rulesP c.rules), .p (lI c.start), .p (partsP ps), .p (.sl 4 (ms.map encMay)), .ms 2 l2.length], .arr 60 4 ((l2.set k (lastC c ps bs l2 k)).map encCls), .cells [.p (bodiesP bs)]] := by unfold preC; rw [List.length_set]
     repeat' (first| (refine aw_T ?_ (hb := eT))| (refine aw_T ?_ (hb := neq_yes hne))| (show lStore; refine k_storeElM (i := k) (f := encCls) (lastC c ps bs l2 k) ?_)| (show lCall; refine k_callPre (preC c ps ms l2 bs) hnx ?_ (by simp [okO, okC]) (by rfl) (by rfl))| (show lOp; refine op0 (by (show kBinopNeq; exact b_neqAgg (hr := clsW_eq (lastC c ps bs l2 k) (at' l2 (k : Int))))) ?_)| (refine wS ?_)| fail)
     exact ⟨(k + 1, l2.set k (lastC c ps bs l2 k), true), n + 1, ⟨by dsimp only; omega, by simp [q2], by dsimp only; rw [show rs.length - (k + 1) = m by omega]; exact q3⟩, by omega, by simp; omega, hset.symm, dropGP hg4 (by simp) rfl, by simp [Fr.get], by dsimp only; omega⟩
   ·have hkn : k = rs.length := by omega
    subst hkn
    rw [Nat.sub_self] at q3
    simp only [passF] at q3
    repeat' (first| (refine aw_F ?_ (hb := eF))| (refine wS ?_)| fail)
    refine ⟨(f, l2, ch), n, ⟨q2, fun hch => ?_, fun hch => ?_⟩, by omega, by simp; omega, rfl, dropGP (j := 0) hg4 (by simp) rfl, by simp [Fr.get], by dsimp only; omega⟩
    ·dsimp only at hch ⊢
     rw [<- q3, hch] at h2
     simpa using h2
    ·dsimp only at hch ⊢
     rw [<- q3, hch] at h2
     simpa using h2
end Go.AL
namespace Go.AL
open Go.Proofs
attribute [local irreducible] AWp AList RStep seqQ blockQ retQ DSteps DT DU DM DZ awR rQ SStep
abbrev noCls : Cls := ⟨0, 0, 0, 0⟩
def bodiesM (c : Core) (ps : List (List (Int × Int))) (rs : List May) : List (List May) := (List.range c.rules.length).map fun (r : Nat) => bodyM (at' c.rules (r : Int)).body (at' ps (r : Int)) rs
structure SolveIn (c : Core) (ps : List (List (Int × Int))) (rs : List May) (fs : List Cls) : Prop where
 fin : FactsIn c ps c.rules.length
 div : ∀ r : Nat, r < c.rules.length -> divM (at' c.rules (r : Int)).body = some (at' ps (r : Int))
 comes : ∃ F, fixF (lastM c ps) F (List.replicate c.rules.length noMay) = some rs
 firsts : ∃ F, fixF (lastC c ps (bodiesM c ps rs)) F (List.replicate c.rules.length noCls) = some fs
abbrev eComes (c : Core) : Ent := ⟨4, 12, fun n => .c (.ms n c.rules.length), .arr 108 4 ((List.replicate c.rules.length noMay).map encMay), none, .dead⟩
abbrev eFirsts (c : Core) : Ent := ⟨8, 16, fun n => .c (.ms n c.rules.length), .arr 60 4 ((List.replicate c.rules.length noCls).map encCls), none, .dead⟩
abbrev eSolv (c : Core) : Ent := ⟨10, 18, fun n => .c (.ptr n 0), .cells [.p (rulesP c.rules), .p (lI c.start), .p (.lit (.slice none 0 0)), .ms 1 c.rules.length, .ms 2 c.rules.length], none, .dead⟩
abbrev eSvar : Ent := ⟨11, 3, fun n => .c (.ptr n 0), .cells (zC (Value.pointer none)), none, .dead⟩
def encPs (l : List (Int × Int)) : List PV := [.sl 2 (l.map encP2)]
abbrev preS (c : Core) (rs : List May) (fs : List Cls) (M k : Nat) : List AObj := [.cells [.p (rulesP c.rules), .p (lI c.start)], .arr 108 4 (rs.map encMay), .arr 60 4 (fs.map encCls), .cells [.p (rulesP c.rules), .p (lI c.start), .ms M k, .ms 1 c.rules.length, .ms 2 c.rules.length], .cells [.ptr 3 0]]
abbrev preT (c : Core) (ps : List (List (Int × Int))) (rs : List May) (fs : List Cls) : List AObj := [.cells [.p (rulesP c.rules), .p (lI c.start)], .arr 108 4 (rs.map encMay), .arr 60 4 (fs.map encCls), .cells [.p (rulesP c.rules), .p (lI c.start), .p (partsP ps), .ms 1 c.rules.length, .ms 2 c.rules.length], .cells [.ptr 3 0]]
abbrev preU (c : Core) (ps : List (List (Int × Int))) (rs : List May) (fs : List Cls) : List AObj := [.cells [.p (rulesP c.rules), .p (lI c.start)], .dead, .arr 60 4 (fs.map encCls), .cells [.p (rulesP c.rules), .p (lI c.start), .p (partsP ps), .p (.sl 4 (rs.map encMay)), .ms 2 c.rules.length], .cells [.ptr 3 0]]
def encB (l : List May) : List PV := [.sl 4 (l.map encMay)]
theorem ld_solv {σ : List AObj} {c : Core} {ps : List (List (Int × Int))} {rs : List May} {fs : List Cls} {n i j : Nat} (h1 : σ[i]? = some (.cells [.p (rulesP c.rules), .p (lI c.start), .p (partsP ps), .p (.sl 4 (rs.map encMay)), .ms j n])) (h2 : σ[j]? = some (.arr 60 4 (fs.map encCls))) (hn : n = fs.length) : LD σ (.ptr i 0) (solvP c ps rs fs) := by
 refine .cells (l := [.p (rulesP c.rules), .p (lI c.start), .p (partsP ps), .p (.sl 4 (rs.map encMay)), .ms j n]) h1 rfl fun q x y g1 g2 => ?_
 match q, g1, g2 with
 | 0, h1, h2 => injection h1 with h1; injection h2 with h2; subst h1; subst h2; exact .p
 | 1, h1, h2 => injection h1 with h1; injection h2 with h2; subst h1; subst h2; exact .p
 | 2, h1, h2 => injection h1 with h1; injection h2 with h2; subst h1; subst h2; exact .p
 | 3, h1, h2 => injection h1 with h1; injection h2 with h2; subst h1; subst h2; exact .p
 | 4, h1, h3 => injection h1 with h1; injection h3 with h3; subst h1; subst h3; exact .arr (e := 60) (l := fs.map encCls) h2 (by simp [hn]) (List.take_of_length_le (by simp [hn]))
 | n + 5, h1, _ => cases h1
theorem solve_c (c : Core) (ps : List (List (Int × Int))) (rs : List May) (fs : List Cls) (h : SolveIn c ps rs fs) :
  ACalls Tryz.prog 37 [coreV c] [] (fun r σ' => r = .ret (.c (.p (solvP c ps rs fs)))) := by
 have hrl := h.fin.inn.rules
 have hpl := h.fin.inn.parts
 refine acalls_toldD1 ?_
 refine acalls_by Tryz.func37 Tryz.ntmps37 ?_
 simp only [argFr]
 repeat' (first| (show cAtD 1; refine aw_z [eComes c, eFirsts c, eSolv c, eSvar] [0,1,2,3,4,5,6,7,8,9,10,11] [12] Tryz_mixed ?_)| (show DZ _ _ _ _ _ _ _ [] _ _; refine dz_nil ?_ rfl)| (show DZ _ _ _ _ _ _ _ _ _ _; first | refine dz_appL 0 (e := eComes c) (fun G hG => s_makeN (by omega) (by simp [encMay, zP, Value.cells])) ?_ mv_ms | refine dz_appL 1 (e := eFirsts c) (fun G hG => s_makeN (by omega) (by simp [encCls, zP, Value.cells])) ?_ mv_ms | refine dz_appL 2 (e := eSolv c) (fun G hG => s_box rfl (by simp)) ?_ mv_ptr | refine dz_appL 3 (e := eSvar) (fun G hG => s_alloc) ?_ mv_ptr)| (show DZ _ _ _ _ _ _ _ _ (Oper.mk (some _) _ _ _ _ none :: _) _; first | refine dz_stillP (fun G hG => by exact rS) ?_ | refine dz_stillL (fun G hG => by exact rS) ?_)| (refine wS ?_)| fail)
 have htk : ∀ k : Nat, k < ps.length -> ps.take k ++ [at' ps (k : Int)] = ps.take (k + 1) := fun k hk => by
  rw [List.take_add_one, at'_getElem? hk]; rfl
 refine kw_ownC 3 2 128 1 (n := 5) (σ' := preS c (List.replicate c.rules.length noMay) (List.replicate c.rules.length noCls) 5 0 ++ [.arr 128 1 []]) rfl rfl rfl rfl ?_
 refine aw_roundsN (ι := Nat) 5 (fun i n => preS c (List.replicate c.rules.length noMay) (List.replicate c.rules.length noCls) (n + 0) i) (fun i n => [(1, .c (.ptr 0 0)), (3, .c (.ptr 4 0)), (20, .c (.p (rulesP c.rules))), (21, i64 c.rules.length), (22, i64 i)]) (fun i n => [.arr 128 1 ((ps.take i).map encPs)]) (fun i => i <= c.rules.length) (fun i => c.rules.length - i) 0 5 (fun _ _ => rfl) (by simp) (by omega) (by simp [preS]) rfl rfl (by simp [Fr.get]) ?_
 rintro i n g h1 hg
 by_cases hi : i < c.rules.length
 ·have hdv := divided_c (at' c.rules (i : Int)).body (h.fin.inn.body i (by omega) (by omega)) _ (h.div i hi)
  have hti : i <= (ps.take i).length := by rw [List.length_take]; omega
  repeat' (first| (refine aw_T ?_ (hb := eT))| (show cAtD 5; refine' aw_dt 10 9 (preS c (List.replicate c.rules.length noMay) (List.replicate c.rules.length noCls) (n + 0) i ++ (g ++ [.dead, .cells ((encRule (at' c.rules (i : Int))).map .p), .arr 128 1 (((ps.take i).take i ++ [at' ps (i : Int)]).map encPs)])) Tryz_mixed _)| (show lStore; refine k_store (l' := (encRule (at' c.rules (i : Int))).map .p) ?_)| (show tNil; refine dt_nil ?_)| (show tSome; first | refine dt_turn (by exact t_app1 (f := encPs) (at' ps (i : Int)) (hn := hti)) ?_ | (refine dt_pre (by first | (show kCall; exact b_call (hdv)) | exact rS) (by decide +kernel) ?_) | refine dt_pre2 (by exact rS) (by exact rS) ?_)| (refine wS ?_)| fail)
  have e1 : List.take i (List.take i ps) ++ [at' ps (i : Int)] = ps.take (i + 1) := by rw [List.take_take, Nat.min_self]; exact htk i (by omega)
  exact ⟨i + 1, n + 2, by omega, by omega, by simp; omega, rfl, dropGP hg (by rw [e1]; rfl) rfl, by simp [Fr.get], by omega⟩
 ·have : i = c.rules.length := by omega
  subst this
  have hps : ps.take c.rules.length = ps := List.take_of_length_le (by omega)
  have hpn : ps.length = c.rules.length := hpl
  obtain ⟨F1, hF1⟩ := h.comes
  obtain ⟨F2, hF2⟩ := h.firsts
  have hrs : rs.length = c.rules.length := by have := fixF_len _ _ _ _ hF1; simpa using this
  have hfs : fs.length = c.rules.length := by have := fixF_len _ _ _ _ hF2; simpa using this
  have hfx : ACalls Tryz.prog 57 [.c (.ms 2 c.rules.length), .c (.fnp 58 [(0, 0)])] [.cells [.ptr 1 0], .cells [.p (rulesP c.rules), .p (lI c.start), .p (partsP ps), .ms 2 c.rules.length, .ms 3 c.rules.length], .arr 108 4 ((List.replicate c.rules.length noMay).map encMay), .arr 60 4 ((List.replicate c.rules.length noCls).map encCls)] (fun q σ' => q = .ret (.tup []) /\ ∃ g, σ' = [.cells [.ptr 1 0], .cells [.p (rulesP c.rules), .p (lI c.start), .p (partsP ps), .ms 2 c.rules.length, .ms 3 c.rules.length], .arr 108 4 (rs.map encMay), .arr 60 4 ((List.replicate c.rules.length noCls).map encCls)] ++ g) := by
   have := fixed38_c c ps (List.replicate c.rules.length noCls) F1 (List.replicate c.rules.length noMay) rs (by rw [List.length_replicate]; exact h.fin) hF1
   simpa only [preM, List.length_replicate, hrs] using this
  have hs1 : ((preS c (List.replicate c.rules.length noMay) (List.replicate c.rules.length noCls) (n + 0) c.rules.length ++ (g ++ [AObj.arr 128 1 ((ps.take c.rules.length).map encPs)])).set (n + 0) .dead).set 3 (.cells [.p (rulesP c.rules), .p (lI c.start), .p (partsP ps), .ms 1 c.rules.length, .ms 2 c.rules.length]) = preT c ps (List.replicate c.rules.length noMay) (List.replicate c.rules.length noCls) ++ (g ++ [.dead]) := by
   rw [setGP hg rfl rfl]; rfl
  have hnd1 : ([(4, 0), (3, 0), (1, 0), (2, 0)].map (fun p : Nat × Nat => p.1)).Nodup := by decide
  have hpass : PassL (ren1 [(4, 0), (3, 0), (1, 0), (2, 0)]) 4 (preT c ps (List.replicate c.rules.length noMay) (List.replicate c.rules.length noCls) ++ (g ++ [.dead])) [(4, 0), (3, 0), (1, 0), (2, 0)] [.cells [.ptr 1 0], .cells [.p (rulesP c.rules), .p (lI c.start), .p (partsP ps), .ms 2 c.rules.length, .ms 3 c.rules.length], .arr 108 4 ((List.replicate c.rules.length noMay).map encMay), .arr 60 4 ((List.replicate c.rules.length noCls).map encCls)] := ⟨⟨_, rfl, _, rfl, by simp, rfl, rfl⟩, ⟨_, rfl, _, rfl, by simp, rfl, rfl⟩, ⟨_, rfl, rfl⟩, ⟨_, rfl, rfl⟩, trivial⟩
  have hbk : back (ren2 [(4, 0), (3, 0), (1, 0), (2, 0)] (preT c ps (List.replicate c.rules.length noMay) (List.replicate c.rules.length noCls) ++ (g ++ [AObj.dead])).length) (preT c ps (List.replicate c.rules.length noMay) (List.replicate c.rules.length noCls) ++ (g ++ [.dead])) [(4, 0), (3, 0), (1, 0), (2, 0)] [.cells [.ptr 1 0], .cells [.p (rulesP c.rules), .p (lI c.start), .p (partsP ps), .ms 2 c.rules.length, .ms 3 c.rules.length], .arr 108 4 (rs.map encMay), .arr 60 4 ((List.replicate c.rules.length noCls).map encCls)] = (preT c ps rs (List.replicate c.rules.length noCls) ++ (g ++ [.dead])) ++ [] := rfl
  have hn1 : c.rules.length <= ((ps.take c.rules.length).map encPs).length := by rw [List.length_map, hps, hpn]; exact Nat.le_refl _
  have hL1 : [C.p (rulesP c.rules), C.p (lI c.start), C.ms (n + 0) c.rules.length, C.ms 1 c.rules.length, C.ms 2 c.rules.length].set 2 (.p (.sl 1 (((ps.take c.rules.length).map encPs).take c.rules.length))) = [.p (rulesP c.rules), .p (lI c.start), .p (partsP ps), .ms 1 c.rules.length, .ms 2 c.rules.length] := by
   rw [hps, List.take_of_length_le (by rw [List.length_map, hpn]; exact Nat.le_refl _)]; rfl
  repeat' (first| (refine aw_F ?_ (hb := eF))| (show cAt 7; refine kw_freezeIn (n + 0) 3 2 (getGP hg rfl rfl) rfl rfl hn1 (hL1) hs1 ?_; refine aw_reg ?_)| (show lCall; refine k_callR [(4, 0), (3, 0), (1, 0), (2, 0)] hfx hpass hnd1 (by rfl) (σ' := preT c ps rs (List.replicate c.rules.length noCls) ++ (g ++ [.dead])) hbk ?_)| (show lOp; refine op0 (by (show kMakefunc; exact b_makeFuncP)) ?_)| (refine wS ?_)| fail)
  have hA : (preU c ps rs (List.replicate c.rules.length noCls) ++ g).length = n := by simp [preU]; omega
  have hown : ((preU c ps rs (List.replicate c.rules.length noCls) ++ (g ++ [AObj.dead, AObj.cells [C.p (.lit (.slice none 0 0))]])) ++ [AObj.arr 102 1 []]).set (n + 1) (.cells ([C.p (.lit (.slice none 0 0))].set 0 (.ms (n + 2) 0))) = (preU c ps rs (List.replicate c.rules.length noCls) ++ (g ++ [AObj.dead, AObj.cells [C.ms (n + 2) 0]])) ++ [AObj.arr 102 1 []] := by
   rw [List.set_append_left _ _ (by simp [preU]; omega), setGP (p := 5) hg rfl rfl]; rfl
  refine kw_freezeIn 1 3 3 (sz := 4) (e := 108) (l := rs.map encMay) (L' := [.p (rulesP c.rules), .p (lI c.start), .p (partsP ps), .p (.sl 4 (rs.map encMay)), .ms 2 c.rules.length]) (σ' := preU c ps rs (List.replicate c.rules.length noCls) ++ (g ++ [AObj.dead, .cells [.p (.lit (.slice none 0 0))]])) rfl rfl rfl (by simp [hrs]) (by rw [List.take_of_length_le (by simp [hrs])]; rfl) rfl ?_
  refine kw_ownC (n + 1) 0 102 1 (n := n + 2) (getGP (p := 5) hg rfl rfl) rfl (lenGP (p := 5) hg rfl rfl) hown ?_
  have hbl : (bodiesM c ps rs).length = c.rules.length := by simp [bodiesM]
  have hbat : ∀ k : Nat, k < c.rules.length -> at' (bodiesM c ps rs) (k : Int) = bodyM (at' c.rules (k : Int)).body (at' ps (k : Int)) rs := fun k hk => by
   simp [bodiesM, at', List.getD_eq_getElem?_getD, hk]
  have hbtk : ∀ k : Nat, k < c.rules.length -> (bodiesM c ps rs).take k ++ [bodyM (at' c.rules (k : Int)).body (at' ps (k : Int)) rs] = (bodiesM c ps rs).take (k + 1) := fun k hk => by
   rw [List.take_add_one, at'_getElem? (by omega), hbat k hk]; rfl
  refine aw_roundsN (ι := Nat) (n + 2) (fun i n' => preU c ps rs (List.replicate c.rules.length noCls) ++ (g ++ [AObj.dead, .cells [.ms (n' + 0) i]])) (fun i n' => [(1, .c (.ptr 0 0)), (3, .c (.ptr 4 0)), (6, .c (.ptr (n + 1) 0)), (46, .c (.p (rulesP c.rules))), (47, i64 c.rules.length), (48, i64 i)]) (fun i n' => [.arr 102 1 (((bodiesM c ps rs).take i).map encB)]) (fun i => i <= c.rules.length) (fun i => c.rules.length - i) 0 (n + 2) (fun i n' => by simp [preU]; omega) (by simp) (by omega) (by simp [preU]; omega) (by rw [List.take_append_of_le_length (by simp [preU]; omega), List.take_of_length_le (by simp [preU]; omega)] <;> rfl) (by rw [List.drop_append_of_le_length (by simp [preU]; omega), List.drop_of_length_le (by simp [preU]; omega)] <;> rfl) (by simp [Fr.get]) ?_
  rintro k n2 g2 k1 hg2
  have hB : ((preU c ps rs (List.replicate c.rules.length noCls) ++ (g ++ [AObj.dead, AObj.cells [C.ms (n2 + 0) k]])) ++ g2).length = n2 := by simp [preU]; omega
  by_cases hk : k < c.rules.length
  ·have hbody := body_c c ps rs (List.replicate c.rules.length noCls) (by rw [hrs]; exact h.fin.inn) k (by omega) (by omega)
   rw [<- bodyM_len (at' c.rules (k : Int)).body (at' ps (k : Int)) rs] at hbody
   have hkt : k <= ((bodiesM c ps rs).take k).length := by rw [List.length_take]; omega
   have hst3 : ((preU c ps rs (List.replicate c.rules.length noCls) ++ (g ++ [AObj.dead, AObj.cells [C.ms (n2 + 0) k]])) ++ (g2 ++ [AObj.dead, AObj.arr 102 1 ((((bodiesM c ps rs).take k).take k ++ [bodyM (at' c.rules (k : Int)).body (at' ps (k : Int)) rs]).map encB)])).set (n + 1) (.cells [.ms (n2 + 1) (k + 1)]) = (preU c ps rs (List.replicate c.rules.length noCls) ++ (g ++ [AObj.dead, AObj.cells [C.ms (n2 + 1) (k + 1)]])) ++ (g2 ++ [AObj.dead, AObj.arr 102 1 ((((bodiesM c ps rs).take k).take k ++ [bodyM (at' c.rules (k : Int)).body (at' ps (k : Int)) rs]).map encB)]) := by
    rw [List.set_append_left _ _ (by simp [preU]; omega), setGP (p := 5) hg rfl rfl]; rfl
   repeat' (first| (refine aw_T ?_ (hb := eT))| (show lStore; refine k_store (l' := [.ms (n2 + 1) (k + 1)]) ?_ (hσ := hst3))| (show lCall; refine k_app1 (f := encB) (bodyM (at' c.rules (k : Int)).body (at' ps (k : Int)) rs) ?_ (hn := hkt))| (show cRegD; refine aw_dr 5 Tryz_mixed ?_)| (show dOp; refine ds_op (by (show kCall; exact b_lendNewF hbody (.cons (.c (ld_solv (n := c.rules.length) (fs := List.replicate c.rules.length noCls) rfl rfl (by simp))) (.cons (.c .p) .nil)) (flat_may _) (by simp))) ?_)| (refine wS ?_)| fail)
   have hB2 : ((preU c ps rs (List.replicate c.rules.length noCls) ++ (g ++ [AObj.dead, AObj.cells [C.ms (n2 + 1) (k + 1)]])) ++ g2).length = n2 := by simp [preU]; omega
   have e2 : (((bodiesM c ps rs).take k).take k ++ [bodyM (at' c.rules (k : Int)).body (at' ps (k : Int)) rs]).map encB = ((bodiesM c ps rs).take (k + 1)).map encB := by rw [List.take_take, Nat.min_self, hbtk k hk]
   refine ⟨k + 1, n2 + 1, by omega, by omega, by simp [preU]; omega, ?_, dropG (j := 1) hB2 (by rw [e2]; rfl), by simp [Fr.get], by omega⟩
   rw [List.take_append_of_le_length (by simp [preU]; omega), List.take_of_length_le (by simp [preU]; omega)]
  ·have : k = c.rules.length := by omega
   subst this
   have hbt : (bodiesM c ps rs).take c.rules.length = bodiesM c ps rs := List.take_of_length_le (by omega)
   have hf4 : ((preU c ps rs (List.replicate c.rules.length noCls) ++ (g ++ [AObj.dead, AObj.cells [C.ms (n2 + 0) c.rules.length]]) ++ (g2 ++ [AObj.arr 102 1 (((bodiesM c ps rs).take c.rules.length).map encB)])).set (n2 + 0) .dead).set (n + 1) (.cells [.p (bodiesP (bodiesM c ps rs))]) = (preU c ps rs (List.replicate c.rules.length noCls) ++ (g ++ [AObj.dead, AObj.cells [C.p (bodiesP (bodiesM c ps rs))]])) ++ (g2 ++ [AObj.dead]) := by
    rw [setG hB rfl, List.set_append_left _ _ (by simp [preU]; omega), setGP (p := 5) hg rfl rfl]; rfl
   have hL4 : [C.ms (n2 + 0) c.rules.length].set 0 (.p (.sl 1 ((((bodiesM c ps rs).take c.rules.length).map encB).take c.rules.length))) = [.p (bodiesP (bodiesM c ps rs))] := by
    rw [hbt, List.take_of_length_le (by rw [List.length_map, hbl]; exact Nat.le_refl _)]; rfl
   have hn4 : c.rules.length <= (((bodiesM c ps rs).take c.rules.length).map encB).length := by rw [List.length_map, hbt, hbl]; exact Nat.le_refl _
   have hfy : ACalls Tryz.prog 59 [.c (.ms 2 c.rules.length), .c (.fnp 60 [(0, 0), (3, 0)])] [.cells [.ptr 1 0], .cells [.p (rulesP c.rules), .p (lI c.start), .p (partsP ps), .p (.sl 4 (rs.map encMay)), .ms 2 c.rules.length], .arr 60 4 ((List.replicate c.rules.length noCls).map encCls), .cells [.p (bodiesP (bodiesM c ps rs))]] (fun q σ' => q = .ret (.tup []) /\ ∃ g, σ' = [.cells [.ptr 1 0], .cells [.p (rulesP c.rules), .p (lI c.start), .p (partsP ps), .p (.sl 4 (rs.map encMay)), .ms 2 c.rules.length], .arr 60 4 (fs.map encCls), .cells [.p (bodiesP (bodiesM c ps rs))]] ++ g) := by
    have := fixed40_c c ps rs (bodiesM c ps rs) hbl (fun r r0 r1 => by
     obtain ⟨r, rfl⟩ := Int.eq_ofNat_of_zero_le r0
     rw [hbat r (by omega), bodyM_len]) F2 (List.replicate c.rules.length noCls) fs (by rw [List.length_replicate]; exact h.fin) hF2
    simpa only [preC, List.length_replicate, hfs] using this
   have hgv : (preU c ps rs (List.replicate c.rules.length noCls) ++ (g ++ [AObj.dead, AObj.cells [C.p (bodiesP (bodiesM c ps rs))]]) ++ (g2 ++ [AObj.dead]))[n + 1]? = some (.cells [.p (bodiesP (bodiesM c ps rs))]) := getL (getGP (p := 5) hg rfl rfl)
   have hpass2 : PassL (ren1 [(4, 0), (3, 0), (2, 0), (n + 1, 0)]) 4 ((preU c ps rs (List.replicate c.rules.length noCls) ++ (g ++ [AObj.dead, AObj.cells [C.p (bodiesP (bodiesM c ps rs))]])) ++ (g2 ++ [.dead])) [(4, 0), (3, 0), (2, 0), (n + 1, 0)] [.cells [.ptr 1 0], .cells [.p (rulesP c.rules), .p (lI c.start), .p (partsP ps), .p (.sl 4 (rs.map encMay)), .ms 2 c.rules.length], .arr 60 4 ((List.replicate c.rules.length noCls).map encCls), .cells [.p (bodiesP (bodiesM c ps rs))]] := ⟨⟨_, rfl, _, rfl, by simp, rfl, rfl⟩, ⟨_, rfl, _, rfl, by simp, rfl, rfl⟩, ⟨_, rfl, rfl⟩, ⟨_, hgv, _, rfl, by simp, rfl, rfl⟩, trivial⟩
   have hnd2 : ([(4, 0), (3, 0), (2, 0), (n + 1, 0)].map (fun p : Nat × Nat => p.1)).Nodup := by simp; omega
   have hbk2 : back (ren2 [(4, 0), (3, 0), (2, 0), (n + 1, 0)] ((preU c ps rs (List.replicate c.rules.length noCls) ++ (g ++ [AObj.dead, AObj.cells [C.p (bodiesP (bodiesM c ps rs))]])) ++ (g2 ++ [AObj.dead])).length) ((preU c ps rs (List.replicate c.rules.length noCls) ++ (g ++ [AObj.dead, AObj.cells [C.p (bodiesP (bodiesM c ps rs))]])) ++ (g2 ++ [.dead])) [(4, 0), (3, 0), (2, 0), (n + 1, 0)] [.cells [.ptr 1 0], .cells [.p (rulesP c.rules), .p (lI c.start), .p (partsP ps), .p (.sl 4 (rs.map encMay)), .ms 2 c.rules.length], .arr 60 4 (fs.map encCls), .cells [.p (bodiesP (bodiesM c ps rs))]] = ((preU c ps rs fs ++ (g ++ [AObj.dead, AObj.cells [C.p (bodiesP (bodiesM c ps rs))]])) ++ (g2 ++ [.dead])) ++ [] := by
    have hgw : (preU c ps rs fs ++ (g ++ [AObj.dead, AObj.cells [C.p (bodiesP (bodiesM c ps rs))]]) ++ (g2 ++ [AObj.dead]))[n + 1]? = some (.cells [.p (bodiesP (bodiesM c ps rs))]) := getL (getGP (p := 5) hg rfl rfl)
    have hgd : (preU c ps rs fs ++ (g ++ [AObj.dead, AObj.cells [C.p (bodiesP (bodiesM c ps rs))]]) ++ (g2 ++ [AObj.dead])).getD (n + 1) .dead = .cells [.p (bodiesP (bodiesM c ps rs))] := by rw [List.getD_eq_getElem?_getD, hgw]; rfl
    show (preU c ps rs fs ++ (g ++ [AObj.dead, AObj.cells [C.p (bodiesP (bodiesM c ps rs))]]) ++ (g2 ++ [AObj.dead])).set (n + 1) (backO _ ((preU c ps rs fs ++ (g ++ [AObj.dead, AObj.cells [C.p (bodiesP (bodiesM c ps rs))]]) ++ (g2 ++ [AObj.dead])).getD (n + 1) .dead) 0 _) ++ [] = _
    rw [hgd]
    show (preU c ps rs fs ++ (g ++ [AObj.dead, AObj.cells [C.p (bodiesP (bodiesM c ps rs))]]) ++ (g2 ++ [AObj.dead])).set (n + 1) (.cells [.p (bodiesP (bodiesM c ps rs))]) ++ [] = _
    rw [set_same hgw]
   repeat' (first| (refine aw_F ?_ (hb := eF))| (show cAt 14; refine kw_freezeIn (n2 + 0) (n + 1) 0 (getG hB rfl) (getL (getGP (p := 5) hg rfl rfl)) rfl hn4 hL4 hf4 ?_; refine aw_reg ?_)| (show lCall; refine k_callR [(4, 0), (3, 0), (2, 0), (n + 1, 0)] hfy hpass2 hnd2 (by rfl) (σ' := (preU c ps rs fs ++ (g ++ [AObj.dead, AObj.cells [C.p (bodiesP (bodiesM c ps rs))]])) ++ (g2 ++ [.dead])) hbk2 ?_)| (show lOp; refine op0 (by (show kMakefunc; exact b_makeFuncP)) ?_)| (show eRet; refine ret1 Tryz.results37 ?_)| (refine wS ?_)| fail)
   exact ⟨_, rfl, .c (ld_solv rfl rfl hfs.symm)⟩
end Go.AL
namespace Go.AL
open Go.Proofs
attribute [local irreducible] AWp AList RStep seqQ blockQ retQ DSteps DT DU DM DZ awR rQ SStep letterB digitB preB nameOk anyB rightL checkI
def infoL : List May -> List Cls -> List Info
 | m :: l, c :: r => ⟨m, c⟩ :: infoL l r
 | _, _ => []
theorem infoL_len : ∀ (l : List May) (r : List Cls), l.length = r.length -> (infoL l r).length = l.length
 | [], [], _ => rfl
 | [], _ :: _, h => by simp at h
 | _ :: _, [], h => by simp at h
 | m :: l, c :: r, h => by simp only [infoL, List.length_cons]; rw [infoL_len l r (by simpa using h)]
theorem infoL_at : ∀ (l : List May) (r : List Cls) (k : Nat), l.length = r.length -> k < l.length -> (infoL l r)[k]? = some ⟨at' l (k : Int), at' r (k : Int)⟩
 | m :: l, c :: r, 0, _, _ => rfl
 | m :: l, c :: r, k + 1, h, hk => by
  have := infoL_at l r k (by simpa using h) (by simpa using hk)
  simp only [infoL, List.getElem?_cons_succ]
  rw [this]
  rfl
 | [], _, k, _, hk => by simp at hk
 | _ :: _, [], _, h, _ => by simp at h
def infoM (c : Core) (ps : List (List (Int × Int))) (rs : List May) (fs : List Cls) (r : Int) : List Info := infoL (bodyM (at' c.rules r).body (at' ps r) rs) (bytesM (at' c.rules r).body (at' ps r) (bodyM (at' c.rules r).body (at' ps r) rs) fs)
theorem solve_lens {c : Core} {ps : List (List (Int × Int))} {rs : List May} {fs : List Cls} (h : SolveIn c ps rs fs) : rs.length = c.rules.length /\ fs.length = c.rules.length := by
 obtain ⟨F1, hF1⟩ := h.comes
 obtain ⟨F2, hF2⟩ := h.firsts
 exact ⟨by have := fixF_len _ _ _ _ hF1; simpa using this, by have := fixF_len _ _ _ _ hF2; simpa using this⟩
theorem body14_c (c : Core) (hc : CoreIn c) (h0 : checkI c = 0) (ps : List (List (Int × Int))) (rs : List May) (fs : List Cls) (h : SolveIn c ps rs fs) (r : Int) (r0 : 0 <= r) (r1 : r < c.rules.length) :
  ACalls Tryz.prog 19 [coreV c, i64 r] [] (fun q _ => q = .ret (.tup [.c (.p (infosP (infoM c ps rs fs r))), i64 0])) := by
 obtain ⟨l1, l2⟩ := solve_lens h
 have hb := h.fin.inn.body r r0 r1
 have hbody := body_c c ps rs fs (by rw [l1]; exact h.fin.inn) r r0 r1
 have hbytes := bytes_c c ps rs fs (by rw [l2]; exact h.fin.inn) r r0 r1 _ (bodyM_len (at' c.rules r).body (at' ps r) rs)
 have hq := solve_c c ps rs fs h
 have hlm := bodyM_len (at' c.rules r).body (at' ps r) rs
 have hlb := bytesM_len (at' c.rules r).body (at' ps r) (bodyM (at' c.rules r).body (at' ps r) rs) fs
 refine acalls_by Tryz.func19 Tryz.ntmps19 ?_
 simp only [argFr]
 repeat' (first| (refine aw_F ?_ (hb := eF))| (show lOp; refine op0 (by (show kCall; first | exact b_call ((check_c c hc)) | exact b_call (hq) | exact b_lendNewF hbody (.cons (.c .p) (.cons (.c .p) .nil)) (flat_may _) (by simp [hlm]) | exact b_lendNewF hbytes (.cons (.c .p) (.cons (.c .p) (.cons (.c .p) .nil))) (flat_cls _) (by simp [hlb]))) ?_)| (show eRet; refine ret2 Tryz.results19 ?_)| (refine wS ?_)| (show lGu; refine al_splitD (fun h => ?_) (fun h => ?_))| (exfalso; omega))
 have hil : (infoM c ps rs fs r).length = (bodyM (at' c.rules r).body (at' ps r) rs).length := infoL_len _ _ (by rw [hlm, hlb])
 have hitk : ∀ k : Nat, k < (bodyM (at' c.rules r).body (at' ps r) rs).length -> (infoM c ps rs fs r).take k ++ [⟨at' (bodyM (at' c.rules r).body (at' ps r) rs) (k : Int), at' (bytesM (at' c.rules r).body (at' ps r) (bodyM (at' c.rules r).body (at' ps r) rs) fs) (k : Int)⟩] = (infoM c ps rs fs r).take (k + 1) := fun k hk => by
  rw [List.take_add_one, infoM, infoL_at _ _ k (by rw [hlm, hlb]) hk]; rfl
 refine kw_own 9 64 8 ?_
 refine aw_roundsG (ι := Nat) (fun i n => [(7, .c (.p (.sl 4 ((bodyM (at' c.rules r).body (at' ps r) rs).map encMay)))), (8, .c (.p (.sl 4 ((bytesM (at' c.rules r).body (at' ps r) (bodyM (at' c.rules r).body (at' ps r) rs) fs).map encCls)))), (9, .c (.ms (n + 0) i)), (33, i64 (bodyM (at' c.rules r).body (at' ps r) rs).length), (34, i64 i)]) (fun i n => [.arr 64 8 (((infoM c ps rs fs r).take i).map encInfo)]) (fun i => i <= (bodyM (at' c.rules r).body (at' ps r) rs).length) (fun i => (bodyM (at' c.rules r).body (at' ps r) rs).length - i) 0 1 (by simp) (by simp) rfl (by simp [Fr.get]) ?_
 intro i n g h1 hg
 by_cases hi : i < (bodyM (at' c.rules r).body (at' ps r) rs).length
 ·have hkt : i <= ((infoM c ps rs fs r).take i).length := by rw [List.length_take]; omega
  repeat' (first| (refine aw_T ?_ (hb := eT))| (show lCall; refine k_app1 (f := encInfo) ⟨at' (bodyM (at' c.rules r).body (at' ps r) rs) (i : Int), at' (bytesM (at' c.rules r).body (at' ps r) (bodyM (at' c.rules r).body (at' ps r) rs) fs) (i : Int)⟩ ?_ (hn := hkt))| (show cRegD; refine aw_dr 11 Tryz_mixed ?_)| (show dOp; refine ds_op (by (show kCall; exact b_call ((toldM_c (at' (bodyM (at' c.rules r).body (at' ps r) rs) (i : Int)) (at' (bytesM (at' c.rules r).body (at' ps r) (bodyM (at' c.rules r).body (at' ps r) rs) fs) (i : Int)))))) ?_)| (refine wS ?_)| fail)
  have e1 : ((infoM c ps rs fs r).take i).take i ++ [⟨at' (bodyM (at' c.rules r).body (at' ps r) rs) (i : Int), at' (bytesM (at' c.rules r).body (at' ps r) (bodyM (at' c.rules r).body (at' ps r) rs) fs) (i : Int)⟩] = (infoM c ps rs fs r).take (i + 1) := by rw [List.take_take, Nat.min_self]; exact hitk i hi
  exact ⟨i + 1, n + 1, by omega, by simp; omega, dropG0 (j := 1) hg (by rw [e1]; rfl), by simp [Fr.get], by omega⟩
 ·have hii : i = (bodyM (at' c.rules r).body (at' ps r) rs).length := by omega
  subst hii
  have hit : (infoM c ps rs fs r).take (bodyM (at' c.rules r).body (at' ps r) rs).length = infoM c ps rs fs r := List.take_of_length_le (by omega)
  rw [hit]
  rw [<- hil]
  repeat' (first| (refine aw_F ?_ (hb := eF))| (show cAt 14; refine kw_freezeA (f := encInfo) 9 ?_; refine aw_reg ?_)| (show eRet; refine ret2 Tryz.results19 ?_)| (refine wS ?_)| fail)
  rfl
end Go.AL
namespace Go.AL
open Go.Proofs Go.Sort Go.RowKit
section
variable {P : Program} {N : NN} {Q : AE -> St -> Prop} {ops : Array Oper} {rest : List Oper} {σ σ' : List AObj} {fr : Fr}
variable {d : Nat} {ty : TypeId} {pos : String} {aft : Array Edge}
theorem ints_eq {w : World} {F : Nat -> Nat -> Prop} {xs : List Int} {vs : List Value} (hl : vs.length = xs.length * 1) (h : ∀ (i : Nat) e, (xs.map encI1)[i]? = some e -> ∀ (j : Nat) x, e[j]? = some x -> RP w F x (vs.getD (i * 1 + j) undef)) : vs = xs.map (Value.int .i64) := by
 apply List.ext_getElem (by simp at hl; simp [hl])
 intro i h1 h2
 have h2' : i < xs.length := by simpa using h2
 have := h i (encI1 xs[i]) (by simp [h2']) 0 _ rfl
 have := RP.eq_lit this
 rw [Nat.mul_one, Nat.add_zero, List.getD_eq_getElem?_getD, List.getElem?_eq_getElem h1] at this
 simpa using this
theorem inv_put {m : List Loc} {F : Nat -> Nat -> Prop} {w : World} (i : Inv m F σ w) {id g cap n : Nat} {e : TypeId} {xs ts : List Int} {os : Array Obj} (ho : σ[id]? = some (.arr e 1 (xs.map encI1))) (hm : m[id]? = some (.row (some g) cap)) (hl : ts.length = xs.length) :
  Inv m F (σ.set id (.arr e 1 (ts.map encI1))) (grow (putRow (Value.int .i64) (Sort.ahead w n) g 0 ts.toArray) os) /\ Step m F σ w m F (σ.set id (.arr e 1 (ts.map encI1))) (grow (putRow (Value.int .i64) (Sort.ahead w n) g 0 ts.toArray) os) := by
 have gb := grownBy_sortedI (w := w) (g := g) (n := n) (os := #[]) ts.toArray
 rw [grow_empty] at gb
 obtain ⟨vs, h1, h2, h3⟩ := i.obj id _ _ ho hm
 obtain ⟨cur, hcur, hc1, hc2, hc3⟩ : ∃ cur, w.heap[g]? = some (.cells cur e (0, 0)) /\ xs.length <= cap /\ cap <= maxLen /\ cur.size = cap * 1 := by
  rcases h1.2 with ⟨h, _⟩ | ⟨g', c, cur, hv, _, hg, a1, a2, a3, _⟩
  ·simp [rowV] at h
  ·simp only [rowV, Option.map_some, Value.slice.injEq, Option.some.injEq, Addr.mk.injEq] at hv
   obtain ⟨⟨rfl, _⟩, _, rfl⟩ := hv
   exact ⟨cur, hg, by simpa using a1, a2, a3⟩
 have hown := ownsRow_sortedI (w := w) (base := 0) (g := g) (cap := cap) (n := n) (e := e) (os := #[]) (cur := cur) (ss := xs) (ts := ts) hl (Nat.zero_le _) hcur hc1 hc2 hc3
 rw [grow_empty] at hown
 have hnofp : ∀ b : Nat, (∀ k, ¬ fp (.arr e 1 (xs.map encI1)) (.row (some g) cap) b k) -> some g ≠ some b := fun b hn h => hn 0 h
 have hbl : ∀ b, some g ≠ some b -> (putRow (Value.int .i64) (Sort.ahead w n) g 0 ts.toArray).heap[b]? = w.heap[b]? := fun b hb => by
  rcases Nat.lt_or_ge b w.heap.size with hlt | hge
  ·exact gb.block b hlt (fun h => hb h.symm)
  ·rw [Array.getElem?_eq_none (by simpa using hge), Array.getElem?_eq_none (by simpa using hge)]
 obtain ⟨i1, s1⟩ := inv_set (w' := putRow (Value.int .i64) (Sort.ahead w n) g 0 ts.toArray) (o' := .arr e 1 (ts.map encI1)) i ho hm (fun b k => Iff.rfl) (by simp) ⟨gb.os, gb.tape, gb.output⟩ (fun b hn => hbl b (hnofp b hn)) (fun b k hn => by
  have := hbl b hn
  exact ⟨cell_of_heap this, frozen_of_heap this⟩) (fun _ _ => by
  refine ⟨ts.map (Value.int .i64), ?_, fun el hel => by obtain ⟨z, _, rfl⟩ := List.mem_map.1 hel; rfl, fun q el hq j x hx => ?_⟩
  ·simp only [rowV, Option.map_some, List.length_map]
   rw [<- hl] at hown
   exact hown
  ·simp only [List.getElem?_map, Option.map_eq_some_iff] at hq
   obtain ⟨z, hz, rfl⟩ := hq
   match j, hx with
   | 0, hx =>
    injection hx with hx; subst hx
    rw [Nat.mul_one, Nat.add_zero, List.getD_eq_getElem?_getD, List.getElem?_map, hz]
    exact RP.lit rfl
   | j + 1, hx => simp [encI1] at hx)
 have hgr : Grow F (putRow (Value.int .i64) (Sort.ahead w n) g 0 ts.toArray) F (grow (putRow (Value.int .i64) (Sort.ahead w n) g 0 ts.toArray) os) := ⟨fun _ _ h => h, rfl, rfl, rfl, by simp [grow], fun b hb => heap_grow_old _ _ hb, fun _ _ h => .inl h, fun _ _ h => .inr h⟩
 exact ⟨i1.grow hgr, s1.trans i i1 hgr.step⟩
theorem k_sortI {f : FuncId} [TFn P f] {y x : Operand} {ts : Array TypeId} {id : Nat} {e : TypeId} {xs : List Int}
  (hs : ∀ (blk off cap : Nat) (zs : List Int) (w : World), Holds (Value.int .i64) w blk off zs.toArray -> blk < w.heap.size -> zs.length < 4611686018427387904 -> Calls P f #[.slice (some ⟨blk, off, none⟩) zs.length cap] w fun e w' => e = .returned (.tuple #[]) /\ ∃ n os, w' = grow (putRow (Value.int .i64) (Sort.ahead w n) blk off (zs.mergeSort fun x y => decide (x <= y)).toArray) os)
  (hs0 : ∀ (p : Option Addr) (cap : Nat) (w : World), Calls P f #[.slice p 0 cap] w fun e w' => e = .returned (.tuple #[]) /\ w' = w)
  (k : AList P N ops Q rest ⟨(d, .tup []) :: fr, σ'⟩) (hlen : xs.length < 4611686018427387904) (hx : ev fr x = .c (.ms id xs.length) := by exact rfl) (ho : σ[id]? = some (.arr e 1 (xs.map encI1)) := by first | exact rfl | exact getG0 (by assumption) rfl | exact getG (by assumption) rfl | exact getGP (by assumption) rfl rfl | exact getL (getG0 (by assumption) rfl) | exact getL (getG (by assumption) rfl))
  (hσ : σ.set id (.arr e 1 ((xs.mergeSort fun x y => decide (x <= y)).map encI1)) = σ' := by first | exact setG0 (by assumption) (by conv => lhs; simp only [List.set, List.cons_append, List.nil_append]) | exact setG (by assumption) (by conv => lhs; simp only [List.set, List.cons_append, List.nil_append]) | exact setGP (by assumption) (by conv => lhs; simp only [List.set, List.cons_append, List.nil_append]) rfl | exact setP rfl (by conv => lhs; simp only [List.set, List.cons_append, List.nil_append]) | (conv => lhs; simp only [List.set, List.cons_append, List.nil_append])) (hy : ev fr y = .c (.p (.lit (.func (.func f) #[] #[]))) := by exact rfl) (hd : Nat.blt d N = true := by rfl) :
  AList P N ops Q (⟨some d, .call { callee := .value y, args := #[x], argTypes := ts }, ty, pos, aft, none⟩ :: rest) ⟨fr, σ⟩ := by
 subst hσ
 intro m F a w hr
 refine wpList_plain rfl fun K hK => ?_
 have i : Inv m F σ w := hr.inv
 have hf : a.eval y = .func (.func f) #[] #[] := by
  have := ev_rv (fr := fr) (m := m) (w := w) (F := F) (a := a) (good_of_lit hy) (fun t e => hr.fr t)
  rw [hy] at this
  exact RP.eq_lit this
 have hv := ev_rv (fr := fr) (m := m) (w := w) (F := F) (a := a) (x := x) (good_of_nl hx (by simp)) (fun t e => hr.fr t)
 rw [hx] at hv
 obtain ⟨A, cap, q1, q2, q3⟩ := (show RC m w F (.ms id xs.length) (a.eval x) from hv)
 have fin : ∀ w', Inv m F (σ.set id (.arr e 1 ((xs.mergeSort fun x y => decide (x <= y)).map encI1))) w' -> Step m F σ w m F (σ.set id (.arr e 1 ((xs.mergeSort fun x y => decide (x <= y)).map encI1))) w' -> K (a.put (some d) (.tuple #[])) w' := fun w' i1 s1 => by
  have hr1 : Rel N m F ⟨fr, σ.set id (.arr e 1 ((xs.mergeSort fun x y => decide (x <= y)).map encI1))⟩ a w' := ⟨i1, fun t => (hr.fr t).step i s1, hr.size, hr.defers⟩
  have hr2 := hr1.put (d := some d) (fun t ht => by injection ht with ht; subst ht; exact blt_lt hd) (v := .tup []) (x := .tuple #[]) ⟨_, rfl, rfl, fun j x hj => by simp at hj⟩
  exact hK _ _ (wpList_post_mono (fun e a1 w1 hp => hp.trans i i1 s1) _ _ _ (k _ F _ w' hr2))
 by_cases h0 : xs = []
 ·subst h0
  refine wp_callFn hf ?_
  rw [show #[x].map a.eval = #[rowV A 0 cap] by simp [q3]]
  refine (hs0 (A.map fun b => (⟨b, 0, none⟩ : Addr)) cap w).mono fun en w' he => ?_
  obtain ⟨rfl, rfl⟩ := he
  have e0 : σ.set id (.arr e 1 ((([] : List Int).mergeSort fun x y => decide (x <= y)).map encI1)) = σ := by
   have : ([] : List Int).mergeSort (fun x y => decide (x <= y)) = [] := by simp
   rw [this]; exact set_same ho
  refine fin _ ?_ ?_
  ·rw [e0]; exact i
  ·rw [e0]; exact Step.refl ..
 ·cases A with
  | none =>
   obtain ⟨vs, e1, _⟩ := i.obj id _ _ ho q1
   exfalso
   rcases e1.2 with ⟨_, h5⟩ | ⟨_, _, _, h4, _⟩
   ·exact h0 (List.eq_nil_of_length_eq_zero (by simpa using h5))
   ·simp [rowV] at h4
  | some g =>
   obtain ⟨vs, h1, h2, h3⟩ := i.obj id _ _ ho q1
   obtain ⟨cur, hcur, htk, hlt⟩ : ∃ cur, w.heap[g]? = some (.cells cur e (0, 0)) /\ cur.toList.take xs.length = xs.map (Value.int .i64) /\ g < w.heap.size := by
    have hvs := ints_eq (by simpa using h1.1) h3
    rcases h1.2 with ⟨h, _⟩ | ⟨g', c, cur, hv, _, hg, a1, a2, a3, a4⟩
    ·simp [rowV] at h
    ·simp only [rowV, Option.map_some, Value.slice.injEq, Option.some.injEq, Addr.mk.injEq] at hv
     obtain ⟨⟨rfl, _⟩, _, rfl⟩ := hv
     exact ⟨cur, hg, by rw [<- hvs, <- a4]; simp, (Array.getElem?_eq_some_iff.1 hg).1⟩
   refine wp_callFn hf ?_
   rw [show #[x].map a.eval = #[rowV (some g) xs.length cap] by simp [q3]]
   refine (hs g 0 cap xs w (holds_of_blockI hcur htk) hlt hlen).mono fun en w' he => ?_
   obtain ⟨rfl, n, os, rfl⟩ := he
   obtain ⟨i1, s1⟩ := inv_put (n := n) (os := os) (ts := xs.mergeSort fun x y => decide (x <= y)) i ho q1 (by simp)
   exact fin _ i1 s1
theorem k_compI {f : FuncId} [TFn P f] {y x : Operand} {ts : Array TypeId} {id len : Nat} {e : TypeId} {xs : List Int}
  (hs : ∀ (blk off cap : Nat) (zs : List Int) (w : World), Holds (Value.int .i64) w blk off zs.toArray -> zs.length <= 9223372036854775807 -> zs.length <= cap -> Calls P f #[.slice (some ⟨blk, off, none⟩) zs.length cap] w fun e w' => e = .returned (.slice (some ⟨blk, off, none⟩) (Lib.compact zs).length cap) /\ ∃ q, w' = putRow (Value.int .i64) (Sort.ahead w q) blk off (Lib.compact zs ++ List.replicate (zs.length - (Lib.compact zs).length) 0).toArray)
  (hs0 : ∀ (p : Option Addr) (cap : Nat) (w : World), Calls P f #[.slice p 0 cap] w fun e w' => e = .returned (.slice p 0 cap) /\ w' = w)
  (k : AList P N ops Q rest ⟨(d, .c (.ms id (Lib.compact xs).length)) :: fr, σ'⟩) (hlen : xs.length < 4611686018427387904) (hc : (Lib.compact xs).length <= xs.length) (hll : len = xs.length) (hx : ev fr x = .c (.ms id len) := by exact rfl) (ho : σ[id]? = some (.arr e 1 (xs.map encI1)) := by first | exact rfl | exact getG0 (by assumption) rfl | exact getG (by assumption) rfl | exact getGP (by assumption) rfl rfl | exact getL (getG0 (by assumption) rfl) | exact getL (getG (by assumption) rfl))
  (hσ : σ.set id (.arr e 1 ((Lib.compact xs ++ List.replicate (xs.length - (Lib.compact xs).length) 0).map encI1)) = σ' := by first | exact setG0 (by assumption) (by conv => lhs; simp only [List.set, List.cons_append, List.nil_append]) | exact setG (by assumption) (by conv => lhs; simp only [List.set, List.cons_append, List.nil_append]) | exact setGP (by assumption) (by conv => lhs; simp only [List.set, List.cons_append, List.nil_append]) rfl | exact setP rfl (by conv => lhs; simp only [List.set, List.cons_append, List.nil_append]) | (conv => lhs; simp only [List.set, List.cons_append, List.nil_append])) (hy : ev fr y = .c (.p (.lit (.func (.func f) #[] #[]))) := by exact rfl) (hd : Nat.blt d N = true := by rfl) :
  AList P N ops Q (⟨some d, .call { callee := .value y, args := #[x], argTypes := ts }, ty, pos, aft, none⟩ :: rest) ⟨fr, σ⟩ := by
 subst hσ
 subst hll
 intro m F a w hr
 refine wpList_plain rfl fun K hK => ?_
 have i : Inv m F σ w := hr.inv
 have hf : a.eval y = .func (.func f) #[] #[] := by
  have := ev_rv (fr := fr) (m := m) (w := w) (F := F) (a := a) (good_of_lit hy) (fun t e => hr.fr t)
  rw [hy] at this
  exact RP.eq_lit this
 have hv := ev_rv (fr := fr) (m := m) (w := w) (F := F) (a := a) (x := x) (good_of_nl hx (by simp)) (fun t e => hr.fr t)
 rw [hx] at hv
 obtain ⟨A, cap, q1, q2, q3⟩ := (show RC m w F (.ms id xs.length) (a.eval x) from hv)
 have fin : ∀ u w', RV m w' F (.c (.ms id (Lib.compact xs).length)) u -> Inv m F (σ.set id (.arr e 1 ((Lib.compact xs ++ List.replicate (xs.length - (Lib.compact xs).length) 0).map encI1))) w' -> Step m F σ w m F (σ.set id (.arr e 1 ((Lib.compact xs ++ List.replicate (xs.length - (Lib.compact xs).length) 0).map encI1))) w' -> K (a.put (some d) u) w' := fun u w' hu i1 s1 => by
  have hr1 : Rel N m F ⟨fr, σ.set id (.arr e 1 ((Lib.compact xs ++ List.replicate (xs.length - (Lib.compact xs).length) 0).map encI1))⟩ a w' := ⟨i1, fun t => (hr.fr t).step i s1, hr.size, hr.defers⟩
  have hr2 := hr1.put (d := some d) (fun t ht => by injection ht with ht; subst ht; exact blt_lt hd) hu
  exact hK _ _ (wpList_post_mono (fun e a1 w1 hp => hp.trans i i1 s1) _ _ _ (k _ F _ w' hr2))
 by_cases h0 : xs = []
 ·subst h0
  have ec : Lib.compact ([] : List Int) = [] := by rfl
  refine wp_callFn hf ?_
  rw [show #[x].map a.eval = #[rowV A 0 cap] by simp [q3]]
  refine (hs0 (A.map fun b => (⟨b, 0, none⟩ : Addr)) cap w).mono fun en w' he => ?_
  obtain ⟨rfl, rfl⟩ := he
  have e0 : σ.set id (.arr e 1 ((Lib.compact ([] : List Int) ++ List.replicate (([] : List Int).length - (Lib.compact ([] : List Int)).length) 0).map encI1)) = σ := by
   rw [ec]; exact set_same ho
  refine fin _ _ ⟨A, cap, q1, by rw [ec]; exact Nat.zero_le _, by rw [ec]; rfl⟩ ?_ ?_
  ·rw [e0]; exact i
  ·rw [e0]; exact Step.refl ..
 ·cases A with
  | none =>
   obtain ⟨vs, e1, _⟩ := i.obj id _ _ ho q1
   exfalso
   rcases e1.2 with ⟨_, h5⟩ | ⟨_, _, _, h4, _⟩
   ·exact h0 (List.eq_nil_of_length_eq_zero (by simpa using h5))
   ·simp [rowV] at h4
  | some g =>
   obtain ⟨vs, h1, h2, h3⟩ := i.obj id _ _ ho q1
   obtain ⟨cur, hcur, htk, hlt⟩ : ∃ cur, w.heap[g]? = some (.cells cur e (0, 0)) /\ cur.toList.take xs.length = xs.map (Value.int .i64) /\ g < w.heap.size := by
    have hvs := ints_eq (by simpa using h1.1) h3
    rcases h1.2 with ⟨h, _⟩ | ⟨g', c, cur, hv, _, hg, a1, a2, a3, a4⟩
    ·simp [rowV] at h
    ·simp only [rowV, Option.map_some, Value.slice.injEq, Option.some.injEq, Addr.mk.injEq] at hv
     obtain ⟨⟨rfl, _⟩, _, rfl⟩ := hv
     exact ⟨cur, hg, by rw [<- hvs, <- a4]; simp, (Array.getElem?_eq_some_iff.1 hg).1⟩
   refine wp_callFn hf ?_
   rw [show #[x].map a.eval = #[rowV (some g) xs.length cap] by simp [q3]]
   refine (hs g 0 cap xs w (holds_of_blockI hcur htk) (by omega) q2).mono fun en w' he => ?_
   obtain ⟨rfl, q, rfl⟩ := he
   obtain ⟨i1, s1⟩ := inv_put (n := q) (os := #[]) (ts := Lib.compact xs ++ List.replicate (xs.length - (Lib.compact xs).length) 0) i ho q1 (by simp; omega)
   rw [grow_empty] at i1 s1
   exact fin _ _ ⟨some g, cap, q1, by omega, rfl⟩ i1 s1
end
end Go.AL
namespace Go.AL
open Go.Proofs
attribute [local irreducible] AWp AList RStep seqQ blockQ retQ DSteps DT DU DM DZ awR rQ SStep
instance : TV Tryz.prog 154 false 1 := TV.of Tryz.underlying154 rfl (by kernel_rfl) (by decide) (by decide)
def nextsI (op a b : Int) (is : List Info) : List Int := if op = 4 then (if (at' is a).may.f1 = true then [a, b] else [a]) else if op = 5 then [a, b] else if op = 6 \/ op = 7 \/ op = 8 then [a] else []
/-- The rules at the front of a body, by a stack of nodes. -/
def frnF (b : List Node) (ps : List (Int × Int)) (is : List Info) : Nat -> List Int -> List Int -> Option (List Int)
 | 0, _, _ => none
 | f + 1, todo, l =>
  if todo = [] then some l
  else if 0 <= at' todo ((todo.length : Int) - 1) /\ at' todo ((todo.length : Int) - 1) < b.length then
   if (at' b (at' todo ((todo.length : Int) - 1))).op = 2 then frnF b ps is f (todo.take (todo.length - 1)) (l ++ [(at' b (at' todo ((todo.length : Int) - 1))).rule])
   else if (at' b (at' todo ((todo.length : Int) - 1))).op = 4 -> 0 <= (at' ps (at' todo ((todo.length : Int) - 1))).1 /\ (at' ps (at' todo ((todo.length : Int) - 1))).1 < is.length then
    frnF b ps is f (todo.take (todo.length - 1) ++ nextsI (at' b (at' todo ((todo.length : Int) - 1))).op (at' ps (at' todo ((todo.length : Int) - 1))).1 (at' ps (at' todo ((todo.length : Int) - 1))).2 is) l
   else none
  else none
def sortedI (l : List Int) : List Int := Lib.compact (l.mergeSort fun x y => decide (x <= y))
theorem nexts_len (op a b : Int) (is : List Info) : (nextsI op a b is).length <= 2 := by
 unfold nextsI
 repeat' (first | split | (simp; done))
theorem fn_compact_le (l : List Int) : (Lib.compact l).length <= l.length := by
 unfold Lib.compact Lib.compactUpTo
 rw [List.length_map]
 refine Nat.le_trans (List.length_filter_le ..) (by simp)
theorem tfn_look (op : Int) : TFn Tryz.prog (lookFn op) := by
 unfold lookFn
 split
 ·exact inferInstanceAs (TFn Tryz.prog 97)
 ·split
  ·exact inferInstanceAs (TFn Tryz.prog 96)
  ·split
   ·exact inferInstanceAs (TFn Tryz.prog 95)
   ·exact inferInstanceAs (TFn Tryz.prog 94)
theorem front_c (op a b : Int) (is : List Info) (h4 : op = 4 -> 0 <= a /\ a < is.length) : ACalls Tryz.prog (lookFn op) [i64 a, i64 b, .c (.p (infosP is))] [] (fun q _ => q = .ret (intsV (nextsI op a b is))) := by
 by_cases p4 : op = 4
 ·have e : lookFn op = 97 := by unfold lookFn; rw [if_pos p4]
  rw [e]
  have := look4_c a b is (h4 p4).1 (h4 p4).2
  unfold nextsI
  rw [if_pos p4]
  exact this
 by_cases p5 : op = 5
 ·have e : lookFn op = 96 := by unfold lookFn; rw [if_neg p4, if_pos p5]
  rw [e]
  unfold nextsI
  rw [if_neg p4, if_pos p5]
  exact look3_c a b is
 by_cases p6 : op = 6 \/ op = 7 \/ op = 8
 ·have e : lookFn op = 95 := by unfold lookFn; rw [if_neg p4, if_neg p5, if_pos p6]
  rw [e]
  unfold nextsI
  rw [if_neg p4, if_neg p5, if_pos p6]
  exact look2_c a b is
 ·have e : lookFn op = 94 := by unfold lookFn; rw [if_neg p4, if_neg p5, if_neg p6]
  rw [e]
  unfold nextsI
  rw [if_neg p4, if_neg p5, if_neg p6]
  exact acalls_ret ((look1_c a b is).mono fun r σ' h => ⟨_, _, h, tells_nil, rfl⟩)
theorem fronts_c (b : List Node) (ps : List (Int × Int)) (is : List Info) (F : Nat) (out : List Int) (hF : F <= 1000000000) (hb : b.length <= 1000000) (hb0 : 0 < b.length) (hp : ps.length = b.length) (h : frnF b ps is F [(b.length : Int) - 1] [] = some out) :
  ACalls Tryz.prog 77 [.c (.p (bodyP b)), .c (.p (.sl 2 (ps.map encP2))), .c (.p (infosP is))] [] (fun q _ => q = .ret (intsV (sortedI out))) := by
 refine acalls_by Tryz.func77 Tryz.ntmps77 ?_
 simp only [argFr]
 repeat' (first| (show lBuildSlice; refine k_buildSl1 ?_)| (refine wS ?_)| fail)
 refine kw_own 7 3 1 ?_
 refine aw_roundsG (ι := Nat × List Int × Nat × List Int) (fun i n => [(0, .c (.p (bodyP b))), (1, .c (.p (.sl 2 (ps.map encP2)))), (2, .c (.p (infosP is))), (8, .c (.ms (n + 0) i.2.2.1)), (7, .c (.ms (n + 1) i.2.2.2.length))]) (fun i n => [.arr 3 1 (i.2.1.map encI1), .arr 3 1 (i.2.2.2.map encI1)]) (fun i => i.2.2.1 <= i.2.1.length /\ i.2.2.1 + 2 * i.1 <= 2 * F + 1 /\ i.2.2.2.length + i.1 <= F /\ frnF b ps is i.1 (i.2.1.take i.2.2.1) i.2.2.2 = some out) (fun i => i.1) (F, [(b.length : Int) - 1], 1, []) 0 ⟨by simp, by dsimp only; omega, by simp, by simpa using h⟩ (by simp) rfl (by simp [Fr.get]) ?_
 rintro ⟨f, xs, tn, l⟩ n g ⟨h1, h2, h3, h4⟩ hg
 dsimp only at h1 h2 h3 h4 ⊢
 cases f with
 | zero => cases h4
 | succ f =>
  simp only [frnF] at h4
  have htl : (xs.take tn).length = tn := by rw [List.length_take]; omega
  by_cases h0 : tn = 0
  ·subst h0
   rw [if_pos (by simp)] at h4
   injection h4 with h4
   subst h4
   have hcl := fn_compact_le (l.mergeSort fun x y => decide (x <= y))
   have hlo : l.length < 4611686018427387904 := by omega
   have hls : (l.mergeSort fun x y => decide (x <= y)).length = l.length := by simp
   have hlo2 : (l.mergeSort fun x y => decide (x <= y)).length < 4611686018427387904 := by omega
   have hnn : (Lib.compact (l.mergeSort fun x y => decide (x <= y))).length <= (Lib.compact (l.mergeSort fun x y => decide (x <= y)) ++ List.replicate ((l.mergeSort fun x y => decide (x <= y)).length - (Lib.compact (l.mergeSort fun x y => decide (x <= y))).length) (0 : Int)).length := by simp
   repeat' (first| (refine aw_F ?_ (hb := eF))| (show lAt 60; refine k_sortI (xs := l) Tryz.slices_Sort_int Tryz.slices_Sort_int_none ?_ hlo)| (show lAt 62; refine k_compI (xs := l.mergeSort fun x y => decide (x <= y)) Tryz.slices_Compact_int Tryz.slices_Compact_int_empty ?_ hlo2 hcl hls.symm)| (show lAt 6; refine k_freezeM (f := encI1) 62 ?_ (hn := hnn))| (show eRet; refine ret1 Tryz.results77 ?_)| (refine wS ?_)| fail)
   rw [List.take_left]
   rfl
  ·rw [if_neg (by intro hh; rw [hh] at htl; simp at htl; omega), htl] at h4
   have hat : at' (xs.take tn) ((tn : Int) - 1) = at' xs ((tn : Int) - 1) := by
    obtain ⟨q, rfl⟩ : ∃ q, tn = q + 1 := ⟨tn - 1, by omega⟩
    have : ((q + 1 : Nat) : Int) - 1 = (q : Int) := by omega
    rw [this]
    simp only [at', List.getD_eq_getElem?_getD, Int.toNat_natCast]
    rw [List.getElem?_take, if_pos (by omega)]
   have htt : (xs.take tn).take (tn - 1) = xs.take (tn - 1) := by rw [List.take_take, Nat.min_eq_left (by omega)]
   rw [hat, htt] at h4
   split at h4
   case isFalse => cases h4
   rename_i hr
   obtain ⟨r0, r1⟩ := hr
   have hsub : ((tn : Int) - 1).toNat = tn - 1 := by omega
   by_cases p2 : (at' b (at' xs ((tn : Int) - 1))).op = 2
   ·rw [if_pos p2] at h4
    repeat' (first| (refine aw_T ?_ (hb := decide_eq_true p2))| (refine aw_T ?_ (hb := eT))| (show cAt 8; refine kw_rot 8 ?_; refine aw_reg ?_)| (show lCall; refine k_app1 (f := encI1) (at' b (at' xs ((tn : Int) - 1))).rule ?_)| (refine wS ?_)| fail)
    exact ⟨(f, xs, ((tn : Int) - 1).toNat, l ++ [(at' b (at' xs ((tn : Int) - 1))).rule]), n + 3, ⟨by dsimp only; omega, by dsimp only; omega, by simp; omega, by dsimp only; rw [hsub]; exact h4⟩, by simp; omega, dropG0 (j := 3) hg (by simp), by simp [Fr.get], by dsimp only; omega⟩
   ·rw [if_neg p2] at h4
    split at h4
    case isFalse => cases h4
    rename_i hq4
    have hnl := nexts_len (at' b (at' xs ((tn : Int) - 1))).op (at' ps (at' xs ((tn : Int) - 1))).1 (at' ps (at' xs ((tn : Int) - 1))).2 is
    have hlk := looks_c (at' b (at' xs ((tn : Int) - 1))).op
    have hfc := front_c (at' b (at' xs ((tn : Int) - 1))).op (at' ps (at' xs ((tn : Int) - 1))).1 (at' ps (at' xs ((tn : Int) - 1))).2 is hq4
    haveI := tfn_look (at' b (at' xs ((tn : Int) - 1))).op
    generalize hnx : nextsI (at' b (at' xs ((tn : Int) - 1))).op (at' ps (at' xs ((tn : Int) - 1))).1 (at' ps (at' xs ((tn : Int) - 1))).2 is = nx at hfc hnl h4
    repeat' (first| (refine aw_F ?_ (hb := decide_eq_false p2))| (refine aw_T ?_ (hb := eT))| (show lAt 8; refine k_rotAt 7 (n + 1) 58 (n + 3) ?_)| (show lCall; refine k_appSl (f := encI1) ?_)| (show cRegD; refine aw_dr 17 Tryz_mixed ?_)| (show dOp; refine ds_op (by (show kCall; first | exact b_call (hlk) | exact b_call (hfc))) ?_)| (refine wS ?_)| fail)
    refine ⟨(f, xs.take ((tn : Int) - 1).toNat ++ nx, ((tn : Int) - 1).toNat + nx.length, l), n + 3, ⟨by simp; omega, by dsimp only; omega, by dsimp only; omega, ?_⟩, by simp; omega, dropG0 (j := 3) hg (by simp), by simp [Fr.get], by dsimp only; omega⟩
    dsimp only
    rw [List.take_of_length_le (by simp; omega), hsub]
    exact h4
end Go.AL
namespace Go.AL
open Go.Proofs
attribute [local irreducible] AWp AList RStep seqQ blockQ retQ DSteps DT DU DM DZ awR rQ SStep letterB digitB preB nameOk anyB rightL checkI
theorem prtF_len (b : List Node) : ∀ (f k : Nat) (ps : List (Int × Int)) (st : List Int) (out : List (Int × Int)), prtF b f k ps st = some out -> out.length = ps.length
 | 0, _, _, _, _, h => by injection h with h; rw [<- h]
 | f + 1, k, ps, st, out, h => by
  simp only [prtF] at h
  split at h
  ·split at h
   ·have := prtF_len b f _ _ _ _ h; simpa using this
   ·cases h
  ·split at h
   ·split at h
    ·have := prtF_len b f _ _ _ _ h; simpa using this
    ·cases h
   ·have := prtF_len b f _ _ _ _ h; simpa using this
theorem prtM_len {b : List Node} {out : List (Int × Int)} (h : prtM b = some out) : out.length = b.length := by
 have := prtF_len b _ _ _ _ _ h; simpa using this
def starsR (b : List Node) (is : List Info) (r : Int) : Nat -> Nat -> List (Int × Int) -> List (Int × Int)
 | 0, _, l => l
 | m + 1, k, l => if (at' b (k : Int)).op = 6 /\ (at' is ((k : Int) - 1)).may.f1 = true then starsR b is r m (k + 1) (l ++ [(r, (k : Int))]) else starsR b is r m (k + 1) l
def starsN (c : Core) (I : Int -> List Info) : Nat -> List (Int × Int)
 | 0 => []
 | r + 1 => starsR (at' c.rules (r : Int)).body (I r) r (at' c.rules (r : Int)).body.length 0 (starsN c I r)
def encL (l : List Int) : List PV := [.sl 1 (l.map encI1)]
structure FindIn (c : Core) (ps : List (List (Int × Int))) (rs : List May) (fs : List Cls) (outs : List (List Int)) : Prop where
 solve : SolveIn c ps rs fs
 len : outs.length = c.rules.length
 prt : ∀ r : Nat, r < c.rules.length -> ∃ pt F, prtM (at' c.rules (r : Int)).body = some pt /\ F <= 1000000000 /\ frnF (at' c.rules (r : Int)).body pt (infoM c ps rs fs r) F [((at' c.rules (r : Int)).body.length : Int) - 1] [] = some (at' outs (r : Int))
 star : ∀ r k : Nat, r < c.rules.length -> k < (at' c.rules (r : Int)).body.length -> (at' (at' c.rules (r : Int)).body (k : Int)).op = 6 -> 1 <= k
abbrev leftsP (outs : List (List Int)) : PV := .sl 1 ((outs.map sortedI).map encL)
abbrev preF (c : Core) (M S k s : Nat) : List AObj := [.cells [.p (rulesP c.rules), .p (lI c.start)], .cells [.p (.lit (.slice none 0 0)), .p (.lit (.slice none 0 0))], .cells [.ms M k, .ms S s]]
theorem find_c (c : Core) (hc : CoreIn c) (h0 : checkI c = 0) (ps : List (List (Int × Int))) (rs : List May) (fs : List Cls) (outs : List (List Int)) (h : FindIn c ps rs fs outs) :
  ACalls Tryz.prog 52 [coreV c] [] (fun q _ => q = .ret (.tup [.agg [.p (leftsP outs), .p (.sl 2 ((starsN c (infoM c ps rs fs) c.rules.length).map encP2))], i64 0])) := by
 have hrl := h.solve.fin.inn.rules
 have hol := h.len
 obtain ⟨l1, l2⟩ := solve_lens h.solve
 refine acalls_by Tryz.func52 Tryz.ntmps52 ?_
 simp only [argFr]
 repeat' (first| (refine aw_F ?_ (hb := eF))| (show lOp; refine op0 (by (show kCall; exact b_call ((check_c c hc)))) ?_)| (refine wS ?_)| fail)
 refine kw_ownC 2 0 32 1 (n := 3) (σ' := [.cells [.p (rulesP c.rules), .p (lI c.start)], .cells [.p (.lit (.slice none 0 0)), .p (.lit (.slice none 0 0))], .cells [.ms 3 0, .p (.lit (.slice none 0 0))], .arr 32 1 []]) rfl rfl rfl rfl ?_
 refine kw_ownC 2 1 65 2 (n := 4) (σ' := preF c 3 4 0 0 ++ [.arr 32 1 [], .arr 65 2 []]) rfl rfl rfl rfl ?_
 refine aw_roundsN (ι := Nat) 3 (fun i n => preF c (n + 0) (n + 1) i (starsN c (infoM c ps rs fs) i).length) (fun i n => [(1, .c (.ptr 0 0)), (2, .c (.ptr 1 0)), (4, .c (.ptr 2 0)), (17, .c (.p (rulesP c.rules))), (18, i64 c.rules.length), (19, i64 i)]) (fun i n => [.arr 32 1 (((outs.map sortedI).take i).map encL), .arr 65 2 ((starsN c (infoM c ps rs fs) i).map encP2)]) (fun i => i <= c.rules.length /\ (starsN c (infoM c ps rs fs) i).length <= 1000000 * i) (fun i => c.rules.length - i) 0 3 (fun _ _ => rfl) (by simp [starsN]) (by omega) (by simp) rfl rfl (by simp [Fr.get]) ?_
 rintro i n g ⟨h1, hst⟩ hg
 by_cases hi : i < c.rules.length
 ·have hbd := h.solve.fin.inn.body i (by omega) (by omega)
  have hne := h.solve.fin.ne i (by omega) (by omega)
  obtain ⟨pt, F, hpt, hF, hfr⟩ := h.prt i hi
  have hb14 := body14_c c hc h0 ps rs fs h.solve i (by omega) (by omega)
  have hpo := partsOf_c (at' c.rules (i : Int)).body hbd pt hpt
  have hfc := fronts_c (at' c.rules (i : Int)).body pt (infoM c ps rs fs i) F (at' outs (i : Int)) hF hbd hne (prtM_len hpt) hfr
  have hil : (infoM c ps rs fs i).length = (at' c.rules (i : Int)).body.length := by rw [infoM, infoL_len _ _ (by rw [bodyM_len, bytesM_len]), bodyM_len]
  have hti : i <= ((outs.map sortedI).take i).length := by simp; omega
  have hlt : ((outs.map sortedI).take i).take i ++ [sortedI (at' outs (i : Int))] = (outs.map sortedI).take (i + 1) := by
   rw [List.take_take, Nat.min_self, List.take_add_one, List.getElem?_map, at'_getElem? (by omega)]; rfl
  generalize hS : starsN c (infoM c ps rs fs) i = S at hst ⊢
  generalize hLf : ((outs.map sortedI).take i) = Lf at hti hlt ⊢
  repeat' (first| (refine aw_T ?_ (hb := eT))| (show lStore; first | refine k_store (l' := (encRule (at' c.rules (i : Int))).map .p) ?_ | refine k_store (l' := [.ms (n + 3) (i + 1), .ms (n + 1) S.length]) ?_)| (show lCall; refine k_app1 (f := encL) (sortedI (at' outs (i : Int))) ?_ (hn := hti))| (show lOp; refine op0 (by (show kCall; first | exact b_call (hb14) | exact b_call (hpo))) ?_)| (show cRegD; refine aw_dr 8 Tryz_mixed ?_)| (show dOp; refine ds_op (by (show kCall; exact b_call (hfc))) ?_)| (refine wS ?_)| fail)
  rw [hlt]
  refine kw_mvIn (n + 1) 2 1 (M := n + 4) (L' := [.ms (n + 3) (i + 1), .ms (n + 4) S.length]) (σ' := preF c (n + 3) (n + 4) (i + 1) S.length ++ (g ++ [.dead, .dead, .cells ((encRule (at' c.rules (i : Int))).map .p), .arr 32 1 (((outs.map sortedI).take (i + 1)).map encL), .arr 65 2 (S.map encP2)])) (getGP (p := 3) hg rfl rfl) rfl (by omega) rfl (lenGP (p := 3) hg rfl rfl) rfl (by rw [setGP (p := 3) hg rfl rfl, addG rfl]; rfl) ?_
  refine aw_roundsN (ι := Nat × List (Int × Int)) 3 (fun j n => preF c (n + 0) (n + 1) (i + 1) j.2.length) (fun j n => [(1, .c (.ptr 0 0)), (2, .c (.ptr 1 0)), (4, .c (.ptr 2 0)), (5, i64 i), (7, .c (.p (infosP (infoM c ps rs fs i)))), (17, .c (.p (rulesP c.rules))), (18, i64 c.rules.length), (19, i64 i), (48, .c (.p (bodyP (at' c.rules (i : Int)).body))), (49, i64 (at' c.rules (i : Int)).body.length), (50, i64 j.1)]) (fun j n => [.arr 32 1 (((outs.map sortedI).take (i + 1)).map encL), .arr 65 2 (j.2.map encP2)]) (fun j => j.1 <= (at' c.rules (i : Int)).body.length /\ j.2.length <= 1000000 * i + j.1 /\ starsR (at' c.rules (i : Int)).body (infoM c ps rs fs i) i ((at' c.rules (i : Int)).body.length - j.1) j.1 j.2 = starsN c (infoM c ps rs fs) (i + 1)) (fun j => (at' c.rules (i : Int)).body.length - j.1) (0, S) (n + 3) (fun _ _ => rfl) ⟨by simp, by dsimp only; omega, by simp only [starsN, hS]; rfl⟩ (by omega) (by simp; omega) rfl (dropGP (p := 3) (j := 3) hg rfl rfl) (by simp [Fr.get]) ?_
  rintro ⟨k, S2⟩ n2 g2 ⟨k1, k2, k3⟩ hg2
  dsimp only at k1 k2 k3 ⊢
  by_cases hk : k < (at' c.rules (i : Int)).body.length
  ·obtain ⟨m, hm⟩ : ∃ m, (at' c.rules (i : Int)).body.length - k = m + 1 := ⟨(at' c.rules (i : Int)).body.length - k - 1, by omega⟩
   rw [hm] at k3
   simp only [starsR] at k3
   have hn2 : n2 + 0 ≠ 2 := by omega
   have hn2b : n2 + 1 ≠ 2 := by omega
   have hσa : ((preF c (n2 + 0) (n2 + 1) (i + 1) S2.length ++ (g2 ++ [AObj.arr 32 1 (((outs.map sortedI).take (i + 1)).map encL), AObj.arr 65 2 (S2.map encP2), AObj.cells ((encNode (at' (at' c.rules (i : Int)).body (k : Int))).map .p)])).set (n2 + 0) AObj.dead ++ [AObj.arr 32 1 (((outs.map sortedI).take (i + 1)).map encL)]).set 2 (.cells [.ms (n2 + 3) (i + 1), .ms (n2 + 1) S2.length]) = preF c (n2 + 3) (n2 + 1) (i + 1) S2.length ++ (g2 ++ [AObj.dead, AObj.arr 65 2 (S2.map encP2), AObj.cells ((encNode (at' (at' c.rules (i : Int)).body (k : Int))).map .p), AObj.arr 32 1 (((outs.map sortedI).take (i + 1)).map encL)]) := by rw [setGP (p := 3) hg2 rfl rfl, addG rfl]; rfl
   have hσb : ((preF c (n2 + 3) (n2 + 1) (i + 1) S2.length ++ (g2 ++ [AObj.dead, AObj.arr 65 2 (S2.map encP2), AObj.cells ((encNode (at' (at' c.rules (i : Int)).body (k : Int))).map .p), AObj.arr 32 1 (((outs.map sortedI).take (i + 1)).map encL)])).set (n2 + 1) AObj.dead ++ [AObj.arr 65 2 (S2.map encP2)]).set 2 (.cells [.ms (n2 + 3) (i + 1), .ms (n2 + 4) S2.length]) = preF c (n2 + 3) (n2 + 4) (i + 1) S2.length ++ (g2 ++ [AObj.dead, AObj.dead, AObj.cells ((encNode (at' (at' c.rules (i : Int)).body (k : Int))).map .p), AObj.arr 32 1 (((outs.map sortedI).take (i + 1)).map encL), AObj.arr 65 2 (S2.map encP2)]) := by rw [setGP (p := 3) hg2 rfl rfl, addG rfl]; rfl
   by_cases p6 : (at' (at' c.rules (i : Int)).body (k : Int)).op = 6
   ·have hk1 := h.star i k hi hk p6
    cases hf1 : (at' (infoM c ps rs fs i) ((k : Int) - 1)).may.f1 with
    | true =>
     rw [if_pos ⟨p6, hf1⟩] at k3
     repeat' (first| (refine aw_T ?_ (hb := eT))| (refine aw_T ?_ (hb := hf1))| (show cAt 16; refine kw_mvIn (n2 + 0) 2 0 (M := n2 + 3) (L' := [.ms (n2 + 3) (i + 1), .ms (n2 + 1) S2.length]) (σ' := preF c (n2 + 3) (n2 + 1) (i + 1) S2.length ++ (g2 ++ [.dead, AObj.arr 65 2 (S2.map encP2), AObj.cells ((encNode (at' (at' c.rules (i : Int)).body (k : Int))).map .p), AObj.arr 32 1 (((outs.map sortedI).take (i + 1)).map encL)])) (getGP (p := 3) hg2 rfl rfl) rfl hn2 rfl (lenGP (p := 3) hg2 rfl rfl) rfl hσa ?_; refine aw_reg ?_)| (show lStore; first | refine k_store (l' := (encNode (at' (at' c.rules (i : Int)).body (k : Int))).map .p) ?_ | refine k_store (l' := [.ms (n2 + 3) (i + 1), .ms (n2 + 4) (S2.length + 1)]) ?_)| (show lCall; refine k_app1 (f := encP2) ((i : Int), (k : Int)) ?_)| (refine wS ?_)| fail)
     exact ⟨(k + 1, S2 ++ [((i : Int), (k : Int))]), n2 + 3, ⟨by dsimp only; omega, by simp; omega, by dsimp only; rw [show (at' c.rules (i : Int)).body.length - (k + 1) = m by omega]; exact k3⟩, by omega, by simp; omega, by simp [preF], dropGP (p := 3) hg2 (by simp) rfl, by simp [Fr.get], by dsimp only; omega⟩
    | false =>
     rw [if_neg (by rw [hf1]; simp)] at k3
     repeat' (first| (refine aw_T ?_ (hb := eT))| (refine aw_F ?_ (hb := hf1))| (show cAt 17; refine kw_mvIn (n2 + 0) 2 0 (M := n2 + 3) (L' := [.ms (n2 + 3) (i + 1), .ms (n2 + 1) S2.length]) (σ' := preF c (n2 + 3) (n2 + 1) (i + 1) S2.length ++ (g2 ++ [.dead, AObj.arr 65 2 (S2.map encP2), AObj.cells ((encNode (at' (at' c.rules (i : Int)).body (k : Int))).map .p), AObj.arr 32 1 (((outs.map sortedI).take (i + 1)).map encL)])) (getGP (p := 3) hg2 rfl rfl) rfl hn2 rfl (lenGP (p := 3) hg2 rfl rfl) rfl hσa (kw_mvIn (n2 + 1) 2 1 (M := n2 + 4) (L' := [.ms (n2 + 3) (i + 1), .ms (n2 + 4) S2.length]) (σ' := preF c (n2 + 3) (n2 + 4) (i + 1) S2.length ++ (g2 ++ [.dead, .dead, AObj.cells ((encNode (at' (at' c.rules (i : Int)).body (k : Int))).map .p), AObj.arr 32 1 (((outs.map sortedI).take (i + 1)).map encL), AObj.arr 65 2 (S2.map encP2)])) (getGP (p := 3) hg2 rfl rfl) rfl hn2b rfl (lenGP (p := 3) hg2 rfl rfl) rfl hσb ?_); refine aw_reg ?_)| (show lStore; refine k_store (l' := (encNode (at' (at' c.rules (i : Int)).body (k : Int))).map .p) ?_)| (refine wS ?_)| fail)
     exact ⟨(k + 1, S2), n2 + 3, ⟨by dsimp only; omega, by dsimp only; omega, by dsimp only; rw [show (at' c.rules (i : Int)).body.length - (k + 1) = m by omega]; exact k3⟩, by omega, by simp; omega, rfl, dropGP (p := 3) hg2 (by simp) rfl, by simp [Fr.get], by dsimp only; omega⟩
   ·rw [if_neg (by simp [p6])] at k3
    repeat' (first| (refine aw_T ?_ (hb := eT))| (show cAt 17; refine kw_mvIn (n2 + 0) 2 0 (M := n2 + 3) (L' := [.ms (n2 + 3) (i + 1), .ms (n2 + 1) S2.length]) (σ' := preF c (n2 + 3) (n2 + 1) (i + 1) S2.length ++ (g2 ++ [.dead, AObj.arr 65 2 (S2.map encP2), AObj.cells ((encNode (at' (at' c.rules (i : Int)).body (k : Int))).map .p), AObj.arr 32 1 (((outs.map sortedI).take (i + 1)).map encL)])) (getGP (p := 3) hg2 rfl rfl) rfl hn2 rfl (lenGP (p := 3) hg2 rfl rfl) rfl hσa (kw_mvIn (n2 + 1) 2 1 (M := n2 + 4) (L' := [.ms (n2 + 3) (i + 1), .ms (n2 + 4) S2.length]) (σ' := preF c (n2 + 3) (n2 + 4) (i + 1) S2.length ++ (g2 ++ [.dead, .dead, AObj.cells ((encNode (at' (at' c.rules (i : Int)).body (k : Int))).map .p), AObj.arr 32 1 (((outs.map sortedI).take (i + 1)).map encL), AObj.arr 65 2 (S2.map encP2)])) (getGP (p := 3) hg2 rfl rfl) rfl hn2b rfl (lenGP (p := 3) hg2 rfl rfl) rfl hσb ?_); refine aw_reg ?_)| (show lStore; refine k_store (l' := (encNode (at' (at' c.rules (i : Int)).body (k : Int))).map .p) ?_)| (refine wS ?_)| fail)
    exact ⟨(k + 1, S2), n2 + 3, ⟨by dsimp only; omega, by dsimp only; omega, by dsimp only; rw [show (at' c.rules (i : Int)).body.length - (k + 1) = m by omega]; exact k3⟩, by omega, by simp; omega, rfl, dropGP (p := 3) hg2 (by simp) rfl, by simp [Fr.get], by dsimp only; omega⟩
  ·have hkk : k = (at' c.rules (i : Int)).body.length := by omega
   subst hkk
   rw [Nat.sub_self] at k3
   simp only [starsR] at k3
   subst k3
   repeat' (first| (refine aw_F ?_ (hb := eF))| (refine wS ?_)| fail)
   exact ⟨i + 1, n2, ⟨by omega, by omega⟩, by omega, by simp; omega, rfl, dropGP (p := 3) (j := 0) hg2 rfl rfl, by simp [Fr.get], by omega⟩
 ·have : i = c.rules.length := by omega
  subst this
  have hlt : (outs.map sortedI).take c.rules.length = outs.map sortedI := List.take_of_length_le (by simp; omega)
  generalize hS : starsN c (infoM c ps rs fs) c.rules.length = S at hst ⊢
  rw [hlt]
  have hL1 : [C.ms (n + 0) c.rules.length, C.ms (n + 1) S.length].set 0 (.p (.sl 1 (((outs.map sortedI).map encL).take c.rules.length))) = [.p (leftsP outs), .ms (n + 1) S.length] := by
   rw [List.take_of_length_le (by simp; omega)]; rfl
  have hn1 : c.rules.length <= ((outs.map sortedI).map encL).length := by simp; omega
  have hn3 : S.length <= (S.map encP2).length := by simp
  have hL2 : [C.p (leftsP outs), C.ms (n + 1) S.length].set 1 (.p (.sl 2 ((S.map encP2).take S.length))) = [.p (leftsP outs), .p (.sl 2 (S.map encP2))] := by
   rw [List.take_of_length_le (by simp)]; rfl
  have hσ1 : ((preF c (n + 0) (n + 1) c.rules.length S.length ++ (g ++ [AObj.arr 32 1 ((outs.map sortedI).map encL), AObj.arr 65 2 (S.map encP2)])).set (n + 0) AObj.dead).set 2 (.cells [.p (leftsP outs), .ms (n + 1) S.length]) = [.cells [.p (rulesP c.rules), .p (lI c.start)], .cells [.p (.lit (.slice none 0 0)), .p (.lit (.slice none 0 0))], .cells [.p (leftsP outs), .ms (n + 1) S.length]] ++ (g ++ [AObj.dead, AObj.arr 65 2 (S.map encP2)]) := by rw [setGP (p := 3) hg rfl rfl]; rfl
  have hσ2 : (([AObj.cells [C.p (rulesP c.rules), .p (lI c.start)], AObj.cells [C.p (.lit (.slice none 0 0)), .p (.lit (.slice none 0 0))], AObj.cells [C.p (leftsP outs), .ms (n + 1) S.length]] ++ (g ++ [AObj.dead, AObj.arr 65 2 (S.map encP2)])).set (n + 1) AObj.dead).set 2 (.cells [.p (leftsP outs), .p (.sl 2 (S.map encP2))]) = [.cells [.p (rulesP c.rules), .p (lI c.start)], AObj.cells [C.p (.lit (.slice none 0 0)), .p (.lit (.slice none 0 0))], .cells [.p (leftsP outs), .p (.sl 2 (S.map encP2))]] ++ (g ++ [AObj.dead, AObj.dead]) := by rw [setGP (p := 3) hg rfl rfl]; rfl
  repeat' (first| (refine aw_F ?_ (hb := eF))| (show cAt 19; refine kw_freezeIn (n + 0) 2 0 (getGP (p := 3) hg rfl rfl) rfl rfl hn1 hL1 hσ1 (kw_freezeIn (n + 1) 2 1 (getGP (p := 3) hg rfl rfl) rfl rfl hn3 hL2 hσ2 ?_); refine aw_reg ?_)| (show eRet; refine retC2 Tryz.results52 ?_)| (refine wS ?_)| fail)
  rfl
end Go.AL
namespace Go.AL
open Go.Proofs
attribute [local irreducible] AWp AList RStep seqQ blockQ retQ DSteps DT DU DM DZ awR rQ SStep letterB digitB preB nameOk anyB rightL checkI
theorem left23_c (c : Core) (hc : CoreIn c) (h0 : checkI c = 0) (ps : List (List (Int × Int))) (rs : List May) (fs : List Cls) (outs : List (List Int)) (h : FindIn c ps rs fs outs) (hout : ∀ o ∈ outs, o.length <= 1000000000) :
  ACalls Tryz.prog 35 [coreV c] [] (fun q _ => q = .ret (.tup [.c (.p (leftsP outs)), i64 0])) := by
 have hrl := h.solve.fin.inn.rules
 have hol := h.len
 refine acalls_by Tryz.func35 Tryz.ntmps35 ?_
 simp only [argFr]
 repeat' (first| (refine aw_F ?_ (hb := rfl))| (show lOp; refine op0 (by (show kCall; exact b_call ((find_c c hc h0 ps rs fs outs h)))) ?_)| (refine wS ?_)| fail)
 refine kw_own 6 32 1 ?_
 have hl : (outs.map sortedI).length = c.rules.length := by simp [hol]
 have htk : ∀ k : Nat, k < c.rules.length -> ((outs.map sortedI).take k).take k ++ [at' (outs.map sortedI) (k : Int)] = (outs.map sortedI).take (k + 1) := fun k hk => by
  rw [List.take_take, Nat.min_self, List.take_add_one, at'_getElem? (by omega)]; rfl
 have hlen : ∀ k : Nat, k < c.rules.length -> (at' (outs.map sortedI) (k : Int)).length <= 1000000000 := fun k hk => by
  have := at'_mem (xs := outs.map sortedI) (i := (k : Int)) (by omega) (by omega)
  obtain ⟨o, ho, he⟩ := List.mem_map.1 this
  rw [<- he]
  have h1 := hout o ho
  have h2 := fn_compact_le (o.mergeSort fun x y => decide (x <= y))
  simp at h2
  unfold sortedI
  omega
 generalize hls : (outs.map sortedI) = ls at hl htk hlen
 refine aw_roundsG (ι := Nat) (fun i n => [(6, .c (.ms (n + 0) i)), (18, .c (.p (.sl 1 (ls.map encL)))), (19, i64 c.rules.length), (20, i64 i)]) (fun i n => [.arr 32 1 ((ls.take i).map encL)]) (fun i => i <= c.rules.length) (fun i => c.rules.length - i) 0 2 (by simp) (by simp) rfl (by simp [Fr.get, <- hls, hol]) ?_
 intro i n g h1 hg
 by_cases hi : i < c.rules.length
 ·have hkt : i <= (ls.take i).length := by rw [List.length_take]; omega
  have hli := hlen i hi
  repeat' (first| (refine aw_T ?_ (hb := eT))| (show lCall; refine k_app1 (f := encL) (at' ls (i : Int)) ?_ (hn := hkt))| (show lOp; refine op0 (by first | (show kAssign; exact b_assign) | (show kMove; exact b_move) | (show kCall; exact b_appE0) | (show kLoad; exact b_loadRp) | (show kIndexaddr; exact m_indexSl) | (show kBinopAdd; exact b_add) | (show kBinopLss; exact b_lss) | (show kBuildslice; first | exact b_buildE0 | exact b_buildSl1)) ?_)| (show lNil; refine al_nil ?_)| (show qSeq; refine n_seq ?_)| (show qBlk; refine n_block ?_)| (show cReg; refine aw_reg ?_)| (show cSeq; refine aw_seq ?_)| (show cBlk; refine aw_block ?_)| (show cSkip; refine aw_skip ?_))
  exact ⟨i + 1, n + 1, by omega, by simp; omega, dropG0 (j := 1) hg (by rw [htk i hi]; rfl), by simp [Fr.get], by omega⟩
 ·have : i = c.rules.length := by omega
  subst this
  have hit : ls.take c.rules.length = ls := List.take_of_length_le (by omega)
  rw [hit]
  rw [<- hl]
  repeat' (first| (refine aw_F ?_ (hb := eF))| (show cAt 10; refine kw_freezeA (f := encL) 6 ?_; refine aw_reg ?_)| (show eRet; refine ret2 Tryz.results35 ?_)| (refine wS ?_)| fail)
  rw [<- hls]
end Go.AL
