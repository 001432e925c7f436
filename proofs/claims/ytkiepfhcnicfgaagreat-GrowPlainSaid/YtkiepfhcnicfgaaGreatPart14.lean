/-
  Part 14 of the proof: what the functions that the law reaches come to.
-/
import Derived.Test.YtkiepfhcnicfgaaGreatPart13
set_option linter.all false
set_option maxRecDepth 100000
set_option maxHeartbeats 8000000
namespace Go.AL
open Go.Proofs
attribute [local irreducible] AWp AList RStep seqQ blockQ retQ DSteps DT DU DM DZ awR rQ SStep saidM
def noInfo : Info := ⟨noMay, noCls⟩
def atI (l : List Info) (i : Int) : Info := if i < 0 then noInfo else at' l i
/-- The facts of all nodes of a body, as the document says them. -/
def nodesF (b : List Node) (ps : List (Int × Int)) (R : List Info) : Nat -> Nat -> List Info -> List Info
 | 0, _, l => l
 | f + 1, k, l => nodesF b ps R f (k + 1) (l.set k (saidM (at' b (k : Int)) (atI l (at' ps (k : Int)).1) (atI l (at' ps (k : Int)).2) R))
def nodesM (b : List Node) (ps : List (Int × Int)) (R : List Info) : List Info := nodesF b ps R b.length 0 (List.replicate b.length noInfo)
theorem nodesF_len (b : List Node) (ps : List (Int × Int)) (R : List Info) : ∀ (f k : Nat) (l : List Info), (nodesF b ps R f k l).length = l.length
 | 0, _, _ => rfl
 | f + 1, k, l => by simp only [nodesF]; rw [nodesF_len b ps R f]; simp
theorem nodesM_len (b : List Node) (ps : List (Int × Int)) (R : List Info) : (nodesM b ps R).length = b.length := by unfold nodesM; rw [nodesF_len]; simp
theorem nodes31_c (b : List Node) (pt : List (Int × Int)) (R : List Info) (hb : b.length <= 1000000) (hp : pt.length = b.length) (hgd : ∀ j : Nat, j < b.length -> (at' pt (j : Int)).1 < j /\ (at' pt (j : Int)).2 < j) (hru : ∀ j : Nat, j < b.length -> (at' b (j : Int)).op = 2 -> 0 <= (at' b (j : Int)).rule /\ (at' b (j : Int)).rule < R.length) :
  ACalls Tryz.prog 31 [.c (.p (bodyP b)), .c (.p (.sl 2 (pt.map encP2))), .c (.p (infosP R))] [] (fun q σ' => q = .ret (.c (.ms 0 b.length)) /\ ∃ g, σ' = .arr 64 8 ((nodesM b pt R).map encInfo) :: g) := by
 refine acalls_by Tryz.func31 Tryz.ntmps31 ?_
 simp only [argFr]
 repeat' (first| (show lMakeSlice; refine k_makeM (f := encInfo) noInfo ?_)| (refine wS ?_)| fail)
 refine aw_roundsP (ι := Nat × List Info) 1 (fun i => [.arr 64 8 (i.2.map encInfo)]) (fun i n => [(0, .c (.p (bodyP b))), (1, .c (.p (.sl 2 (pt.map encP2)))), (2, .c (.p (infosP R))), (7, .c (.ms 0 b.length)), (8, i64 (i.1 : Int))]) (fun _ _ => []) (fun i => i.1 <= b.length /\ i.2.length = b.length /\ nodesF b pt R (b.length - i.1) i.1 i.2 = nodesM b pt R) (fun i => b.length - i.1) (0, List.replicate b.length noInfo) 1 (fun _ => rfl) ⟨by simp, by simp, rfl⟩ (by omega) (by simp) rfl rfl (by simp [Fr.get]) ?_
 rintro ⟨k, l⟩ n g ⟨h1, h2, h3⟩ hg
 dsimp only at h1 h2 h3 hg ⊢
 have hg1 : 1 + g.length = n := by simp at hg; omega
 clear hg
 by_cases hk : k < b.length
 ·obtain ⟨m, hm⟩ : ∃ m, b.length - k = m + 1 := ⟨b.length - k - 1, by omega⟩
  rw [hm] at h3
  simp only [nodesF] at h3
  obtain ⟨q1, q2⟩ := hgd k hk
  have hsd := said50_c (at' b (k : Int)) (atI l (at' pt (k : Int)).1) (atI l (at' pt (k : Int)).2) R (hru k hk)
  generalize hv : saidM (at' b (k : Int)) (atI l (at' pt (k : Int)).1) (atI l (at' pt (k : Int)).2) R = v at hsd h3
  by_cases p1 : (at' pt (k : Int)).1 >= 0
  ·have e1 : atI l (at' pt (k : Int)).1 = at' l (at' pt (k : Int)).1 := by unfold atI; rw [if_neg (by omega)]
   rw [e1] at hsd
   by_cases p2 : (at' pt (k : Int)).2 >= 0
   ·have e2 : atI l (at' pt (k : Int)).2 = at' l (at' pt (k : Int)).2 := by unfold atI; rw [if_neg (by omega)]
    rw [e2] at hsd
    repeat' (first| (refine aw_T ?_ (hb := dT (show (k : Int) < b.length by omega)))| (refine aw_T ?_ (hb := decide_eq_true p1))| (refine aw_T ?_ (hb := decide_eq_true p2))| (show lStore; refine k_storeElM (i := k) (f := encInfo) v ?_)| (show cRegD; refine aw_dr 11 Tryz_mixed ?_)| (show dOp; refine ds_op (by (show kCall; exact b_call (hsd))) ?_)| (refine wS ?_)| fail)
    exact ⟨(k + 1, l.set k v), n + 2, ⟨by dsimp only; omega, by simp [h2], by dsimp only; rw [show b.length - (k + 1) = m by omega]; exact h3⟩, by omega, by simp; omega, rfl, dropGP (p := 1) (j := 2) hg1 rfl rfl, by simp [Fr.get], by dsimp only; omega⟩
   ·have e2 : atI l (at' pt (k : Int)).2 = noInfo := by unfold atI; rw [if_pos (by omega)]
    rw [e2] at hsd
    repeat' (first| (refine aw_T ?_ (hb := dT (show (k : Int) < b.length by omega)))| (refine aw_T ?_ (hb := decide_eq_true p1))| (refine aw_F ?_ (hb := decide_eq_false p2))| (show lStore; refine k_storeElM (i := k) (f := encInfo) v ?_)| (show cRegD; refine aw_dr 11 Tryz_mixed ?_)| (show dOp; refine ds_op (by (show kCall; exact b_call (hsd))) ?_)| (refine wS ?_)| fail)
    exact ⟨(k + 1, l.set k v), n + 2, ⟨by dsimp only; omega, by simp [h2], by dsimp only; rw [show b.length - (k + 1) = m by omega]; exact h3⟩, by omega, by simp; omega, rfl, dropGP (p := 1) (j := 2) hg1 rfl rfl, by simp [Fr.get], by dsimp only; omega⟩
  ·have e1 : atI l (at' pt (k : Int)).1 = noInfo := by unfold atI; rw [if_pos (by omega)]
   rw [e1] at hsd
   by_cases p2 : (at' pt (k : Int)).2 >= 0
   ·have e2 : atI l (at' pt (k : Int)).2 = at' l (at' pt (k : Int)).2 := by unfold atI; rw [if_neg (by omega)]
    rw [e2] at hsd
    repeat' (first| (refine aw_T ?_ (hb := dT (show (k : Int) < b.length by omega)))| (refine aw_F ?_ (hb := decide_eq_false p1))| (refine aw_T ?_ (hb := decide_eq_true p2))| (show lStore; refine k_storeElM (i := k) (f := encInfo) v ?_)| (show cRegD; refine aw_dr 11 Tryz_mixed ?_)| (show dOp; refine ds_op (by (show kCall; exact b_call (hsd))) ?_)| (refine wS ?_)| fail)
    exact ⟨(k + 1, l.set k v), n + 2, ⟨by dsimp only; omega, by simp [h2], by dsimp only; rw [show b.length - (k + 1) = m by omega]; exact h3⟩, by omega, by simp; omega, rfl, dropGP (p := 1) (j := 2) hg1 rfl rfl, by simp [Fr.get], by dsimp only; omega⟩
   ·have e2 : atI l (at' pt (k : Int)).2 = noInfo := by unfold atI; rw [if_pos (by omega)]
    rw [e2] at hsd
    repeat' (first| (refine aw_T ?_ (hb := dT (show (k : Int) < b.length by omega)))| (refine aw_F ?_ (hb := decide_eq_false p1))| (refine aw_F ?_ (hb := decide_eq_false p2))| (show lStore; refine k_storeElM (i := k) (f := encInfo) v ?_)| (show cRegD; refine aw_dr 11 Tryz_mixed ?_)| (show dOp; refine ds_op (by (show kCall; exact b_call (hsd))) ?_)| (refine wS ?_)| fail)
    exact ⟨(k + 1, l.set k v), n + 2, ⟨by dsimp only; omega, by simp [h2], by dsimp only; rw [show b.length - (k + 1) = m by omega]; exact h3⟩, by omega, by simp; omega, rfl, dropGP (p := 1) (j := 2) hg1 rfl rfl, by simp [Fr.get], by dsimp only; omega⟩
 ·have : k = b.length := by omega
  subst this
  rw [Nat.sub_self] at h3
  simp only [nodesF] at h3
  subst h3
  repeat' (first| (refine aw_F ?_ (hb := dF (show ¬(b.length : Int) < b.length by omega)))| (show eRet; refine ret1 Tryz.results31 ?_)| (refine wS ?_)| fail)
  exact ⟨rfl, _, rfl⟩
theorem flat_info (l : List Info) : ∀ el ∈ l.map encInfo, el.all flatP = true := fun el h => by
 obtain ⟨m, _, rfl⟩ := List.mem_map.1 h
 rfl
end Go.AL
namespace Go.AL
open Go.Proofs
def leI (a b : Info) : Prop := leM a.may b.may /\ leC a.cl b.cl
def htI (a : Info) : Nat := htM a.may + htC a.cl
theorem leI_trans (a b c : Info) (h : leI a b) (g : leI b c) : leI a c := ⟨leM_trans _ _ _ h.1 g.1, leC_trans _ _ _ h.2 g.2⟩
theorem htM_le {a b : May} (h : leM a b) : htM b <= htM a := by
 by_cases e : b = a
 ·rw [e]; exact Nat.le_refl _
 ·exact Nat.le_of_lt (leM_lt a b h e)
theorem htC_le {a b : Cls} (h : leC a b) : htC b <= htC a := by
 by_cases e : b = a
 ·rw [e]; exact Nat.le_refl _
 ·exact Nat.le_of_lt (leC_lt a b h e)
theorem leI_lt (a b : Info) (h : leI a b) (hne : b ≠ a) : htI b < htI a := by
 obtain ⟨am, ac⟩ := a
 obtain ⟨bm, bc⟩ := b
 have h1 := htM_le h.1
 have h2 := htC_le h.2
 simp only [htI] at h1 h2 ⊢
 by_cases e : bm = am
 ·have e2 : bc ≠ ac := fun q => hne (by rw [e, q])
  have := leC_lt _ _ h.2 e2
  dsimp only at this
  omega
 ·have := leM_lt _ _ h.1 e
  dsimp only at this
  omega
theorem leC_union {a b c : Cls} (h : leC a b) (hc : okC' c) : leC a (unionC b c) := by
 refine ⟨h.1, union_ok _ _, ?_, ?_, ?_, ?_⟩
 ·show sub (bv a.c0) (bv (bits .or .u64 b.c0 c.c0))
  rw [(bits_or _ _).2]; exact sub_left h.2.2.1
 ·show sub (bv a.c1) (bv (bits .or .u64 b.c1 c.c1))
  rw [(bits_or _ _).2]; exact sub_left h.2.2.2.1
 ·show sub (bv a.c2) (bv (bits .or .u64 b.c2 c.c2))
  rw [(bits_or _ _).2]; exact sub_left h.2.2.2.2.1
 ·show sub (bv a.c3) (bv (bits .or .u64 b.c3 c.c3))
  rw [(bits_or _ _).2]; exact sub_left h.2.2.2.2.2
theorem with_mono {a b a' b' : Cls} {x x' : Bool} (ha : leC a a') (hb : leC b b') (hx : x = true -> x' = true) : leC (withM a b x) (withM a' b' x') := by
 unfold withM
 cases x with
 | true =>
  rw [if_pos rfl, if_pos (hx rfl), two_union ha.1 hb.1, two_union ha.2.1 hb.2.1]
  exact union_mono ha hb
 | false =>
  rw [if_neg (by simp)]
  split
  ·rw [two_union ha.2.1 hb.2.1]
   exact leC_union ha hb.2.1
  ·exact ha
def leLI (l l' : List Info) : Prop := l.length = l'.length /\ ∀ k : Nat, leI (at' l (k : Int)) (at' l' (k : Int))
theorem atl_mono {l l' : List Info} (h : leLI l l') (r : Int) : leI (at' l r) (at' l' r) := by
 rw [at'_nat l r, at'_nat l' r]; exact h.2 _
theorem noInfo_refl : leI noInfo noInfo := ⟨leM_refl _, leC_refl okC0⟩
theorem said_mono {n : Node} {a a' b b' : Info} {R R' : List Info} (hc : okC' n.cl) (ha : leI a a') (hb : leI b b') (hR : leLI R R') : leI (saidM n a b R) (saidM n a' b' R') := by
 refine ⟨come_mono ha.1 hb.1 ?_, ?_⟩
 ·rw [may_at, may_at]; exact (atl_mono hR _).1
 ·show leC (firstR n a b R) (firstR n a' b' R')
  unfold firstR
  by_cases p0 : n.op = 0
  ·rw [if_pos p0, if_pos p0]; exact leC_refl okC0
  rw [if_neg p0, if_neg p0]
  by_cases p1 : n.op = 1
  ·rw [if_pos p1, if_pos p1]; exact leC_refl hc
  rw [if_neg p1, if_neg p1]
  by_cases p2 : n.op = 2
  ·rw [if_pos p2, if_pos p2]; exact (atl_mono hR _).2
  rw [if_neg p2, if_neg p2]
  by_cases p3 : n.op = 3
  ·rw [if_pos p3, if_pos p3]; exact leC_refl okC0
  rw [if_neg p3, if_neg p3]
  by_cases p4 : n.op = 4
  ·rw [if_pos p4, if_pos p4]; exact with_mono ha.2 hb.2 ha.1.2.1
  rw [if_neg p4, if_neg p4]
  by_cases p5 : n.op = 5
  ·rw [if_pos p5, if_pos p5]; exact with_mono ha.2 hb.2 ha.1.1
  rw [if_neg p5, if_neg p5]
  by_cases p6 : n.op = 6
  ·rw [if_pos p6, if_pos p6]; exact ha.2
  rw [if_neg p6, if_neg p6]
  by_cases p7 : n.op = 7
  ·rw [if_pos p7, if_pos p7]; exact leC_refl okC0
  rw [if_neg p7, if_neg p7]; exact ha.2
theorem leLI_set {l l' : List Info} (h : leLI l l') {k : Nat} {v v' : Info} (hv : leI v v') : leLI (l.set k v) (l'.set k v') := by
 refine ⟨by simp [h.1], fun j => ?_⟩
 by_cases hjk : k = j
 ·subst hjk
  by_cases hk : k < l.length
  ·rw [at'_set_self hk, at'_set_self (by rw [<- h.1]; exact hk)]; exact hv
  ·rw [List.set_eq_of_length_le (by omega), List.set_eq_of_length_le (by rw [<- h.1]; omega)]; exact h.2 k
 ·rw [at'_set_ne hjk, at'_set_ne hjk]; exact h.2 j
theorem atI_mono {l l' : List Info} (h : leLI l l') (i : Int) : leI (atI l i) (atI l' i) := by
 unfold atI
 split
 ·exact noInfo_refl
 ·exact atl_mono h i
theorem nodesF_mono {b : List Node} {ps : List (Int × Int)} {R R' : List Info} (hb : ∀ k : Nat, okC' (at' b (k : Int)).cl) (hR : leLI R R') : ∀ (f k : Nat) (l l' : List Info), leLI l l' -> leLI (nodesF b ps R f k l) (nodesF b ps R' f k l')
 | 0, _, _, _, h => h
 | f + 1, k, l, l', h => nodesF_mono hb hR f (k + 1) _ _ (leLI_set h (said_mono (hb k) (atI_mono h _) (atI_mono h _) hR))
theorem rep_no (n k : Nat) : at' (List.replicate n noInfo) (k : Int) = noInfo := by
 simp only [at', List.getD_eq_getElem?_getD, Int.toNat_natCast, List.getElem?_replicate]
 split <;> rfl
theorem nodesM_mono {b : List Node} {ps : List (Int × Int)} {R R' : List Info} (hb : ∀ k : Nat, okC' (at' b (k : Int)).cl) (hR : leLI R R') : leLI (nodesM b ps R) (nodesM b ps R') := nodesF_mono hb hR _ _ _ _ ⟨rfl, fun k => by rw [rep_no]; exact noInfo_refl⟩
/-- A rule's next facts. -/
def nextI (c : Core) (ps : List (List (Int × Int))) (R : List Info) (r : Int) : Info := at' (nodesM (at' c.rules r).body (at' ps r) R) (((at' c.rules r).body.length : Int) - 1)
def okI (i : Info) : Prop := okC' i.cl
/-- The document's rounds come to rest. -/
theorem rules_rest (c : Core) (ps : List (List (Int × Int))) (hcl : ∀ r k : Nat, okC' (at' (at' c.rules (r : Int)).body (k : Int)).cl) : ∃ F R, fixF (nextI c ps) F (List.replicate c.rules.length noInfo) = some R /\ R.length = c.rules.length /\ ∀ k : Nat, k < R.length -> nextI c ps R (k : Int) = at' R (k : Int) := by
 have okR : ∀ (k : Nat), okI (at' (List.replicate c.rules.length noInfo) (k : Int)) := fun k => by rw [rep_no]; exact okC0
 have gmono : ∀ (l l' : List Info), leLI l l' -> ∀ k : Nat, leI (nextI c ps l (k : Int)) (nextI c ps l' (k : Int)) := fun l l' h k => by
  unfold nextI
  exact atl_mono (nodesM_mono (hcl k) h) _
 have g : Grows c.rules.length leI htI (nextI c ps) := by
  refine ⟨leI_trans, leI_lt, fun l j k v hl hj hk hv => ?_⟩
  have hok : ∀ q : Nat, leI (at' l (q : Int)) (at' l (q : Int)) := fun q => by
   by_cases hq : q < c.rules.length
   ·have := hl.2 q hq
    exact ⟨leM_refl _, leC_refl this.2.1⟩
   ·rw [at'_out (by rw [hl.1]; exact hq)]
    exact noInfo_refl
  refine gmono l (l.set j v) ⟨by simp, fun q => ?_⟩ k
  by_cases hjq : j = q
  ·subst hjq
   rw [at'_set_self (by rw [hl.1]; exact hj)]; exact hv
  ·rw [at'_set_ne hjq]; exact hok q
 have hno : ∀ x : Info, okI x -> leI noInfo x := fun x hx => ⟨leM_no _, leC_no hx⟩
 have hok0 : ∀ k : Nat, okI (nextI c ps (List.replicate c.rules.length noInfo) (k : Int)) := fun k => by
  have := gmono (List.replicate c.rules.length noInfo) (List.replicate c.rules.length noInfo) ⟨rfl, fun q => by rw [rep_no]; exact noInfo_refl⟩ k
  exact this.2.1
 obtain ⟨R, h1, h2⟩ := fix_ends g (((List.replicate c.rules.length noInfo).map htI).sum + 1) (List.replicate c.rules.length noInfo) ⟨by simp, fun k hk => by rw [rep_no]; exact hno _ (hok0 k)⟩ (Nat.lt_succ_self _)
 exact ⟨_, R, h1, h2.1, fix_rest _ _ _ h1⟩
theorem mays_set (l : List Info) (k : Nat) (v : Info) : (l.set k v).map (·.may) = (l.map (·.may)).set k v.may := List.map_set ..
theorem atI_may (l : List Info) (i : Int) : (atI l i).may = atM (l.map (·.may)) i := by
 unfold atI atM
 split
 ·rfl
 ·rw [may_at]
theorem nodesF_may (b : List Node) (ps : List (Int × Int)) (R : List Info) : ∀ (f k : Nat) (l : List Info), (nodesF b ps R f k l).map (·.may) = bodyF b ps (R.map (·.may)) f k (l.map (·.may))
 | 0, _, _ => rfl
 | f + 1, k, l => by
  simp only [nodesF, bodyF]
  rw [nodesF_may b ps R f, mays_set, <- atI_may, <- atI_may]
  rfl
theorem nodesM_may (b : List Node) (ps : List (Int × Int)) (R : List Info) : (nodesM b ps R).map (·.may) = bodyM b ps (R.map (·.may)) := by
 unfold nodesM bodyM
 rw [nodesF_may]
 congr 1
 simp [noInfo]
theorem next_may (c : Core) (ps : List (List (Int × Int))) (R : List Info) (r : Int) : (nextI c ps R r).may = lastM c ps (R.map (·.may)) r := by
 unfold nextI lastM
 rw [<- may_at, nodesM_may]
/-- What the program finds of a node is no more than what the document says. -/
theorem facts_le {c : Core} {ps : List (List (Int × Int))} {rs : List May} {R : List Info} {F : Nat} (h : fixF (lastM c ps) F (List.replicate c.rules.length noMay) = some rs) (hl : R.length = c.rules.length) (hR : ∀ k : Nat, k < R.length -> nextI c ps R (k : Int) = at' R (k : Int)) (r i : Int) : leM (at' (bodyM (at' c.rules r).body (at' ps r) rs) i) (at' (nodesM (at' c.rules r).body (at' ps r) R) i).may := by
 have hle := comes_least h (R := R.map (·.may)) (by simp [hl]) (fun k hk => by
  rw [List.length_map] at hk
  rw [<- next_may, hR k hk, may_at])
 have := at_mono (body_le (c := c) (ps := ps) hle r) i
 rw [<- nodesM_may, may_at] at this
 exact this
end Go.AL
namespace Go.AL
open Go.Proofs
attribute [local irreducible] AWp AList RStep seqQ blockQ retQ DSteps DT DU DM DZ awR rQ SStep saidM checkI nodesM
theorem eqt64 (d : Nat) : EqT Tryz.prog (d + 3) 64 [.bool, .bool, .bool, .bool, .int .u64, .int .u64, .int .u64, .int .u64] := eqT_struct' inferInstance Tryz.underlying64 (by kernel_rfl) (.cons (k1 := [_]) rfl (by decide) (eqt4 _) (.cons (k1 := [_]) rfl (by decide) (eqt4 _) (.cons (k1 := [_]) rfl (by decide) (eqt4 _) (.cons (k1 := [_]) (k2 := [_, _, _, _]) rfl (by decide) (eqt4 _) (.cons (k1 := [_, _, _, _]) (k2 := []) rfl (by decide) (eqt60 _) .nil)))))
instance : TEq Tryz.prog 64 [.bool, .bool, .bool, .bool, .int .u64, .int .u64, .int .u64, .int .u64] := ⟨eqt64 9997, inferInstance, by kernel_rfl⟩
theorem info_eq (a b : Info) : eqCells [.bool a.may.f0, .bool a.may.f1, .bool a.may.f2, .bool a.may.f3, .int .u64 a.cl.c0, .int .u64 a.cl.c1, .int .u64 a.cl.c2, .int .u64 a.cl.c3] [.bool b.may.f0, .bool b.may.f1, .bool b.may.f2, .bool b.may.f3, .int .u64 b.cl.c0, .int .u64 b.cl.c1, .int .u64 b.cl.c2, .int .u64 b.cl.c3] = decide (a = b) := by
 obtain ⟨⟨a0, a1, a2, a3⟩, ⟨a4, a5, a6, a7⟩⟩ := a
 obtain ⟨⟨b0, b1, b2, b3⟩, ⟨b4, b5, b6, b7⟩⟩ := b
 rw [Bool.eq_iff_iff]
 simp [eqCells, vbeq]
 try simp only [and_assoc]
def encOP : Option (List (Int × Int)) -> List PV
 | none => [.lit (.slice none 0 0)]
 | some l => encPs l
theorem encOP_len (o : Option (List (Int × Int))) : (encOP o).length = 1 := by cases o <;> rfl
/-- What the document's facts ask of a grammar. -/
structure RulesIn (c : Core) (ps : List (List (Int × Int))) (R : List Info) : Prop where
 check : checkI c = 0
 pslen : ps.length = c.rules.length
 div : ∀ r : Nat, r < c.rules.length -> divM (at' c.rules (r : Int)).body = some (at' ps (r : Int))
 lt : ∀ r j : Nat, r < c.rules.length -> j < (at' c.rules (r : Int)).body.length -> (at' (at' ps (r : Int)) (j : Int)).1 < j /\ (at' (at' ps (r : Int)) (j : Int)).2 < j
 plen : ∀ r : Nat, r < c.rules.length -> (at' ps (r : Int)).length = (at' c.rules (r : Int)).body.length
 rule : ∀ r j : Nat, r < c.rules.length -> j < (at' c.rules (r : Int)).body.length -> (at' (at' c.rules (r : Int)).body (j : Int)).op = 2 -> 0 <= (at' (at' c.rules (r : Int)).body (j : Int)).rule /\ (at' (at' c.rules (r : Int)).body (j : Int)).rule < c.rules.length
 body : ∀ r : Nat, r < c.rules.length -> 0 < (at' c.rules (r : Int)).body.length /\ (at' c.rules (r : Int)).body.length <= 16384
 nr : 0 < c.rules.length /\ c.rules.length <= 256
 rest : ∃ F, fixF (nextI c ps) F (List.replicate c.rules.length noInfo) = some R
 rlen : R.length = c.rules.length
theorem rules30_c (c : Core) (hc : CoreIn c) (ps : List (List (Int × Int))) (R : List Info) (h : RulesIn c ps R) : ACalls Tryz.prog 30 [coreV c] [] (fun q _ => q = .ret (.tup [.c (.p (infosP R)), i64 0])) := by
 have hk := check14_c c hc
 rw [h.check] at hk
 have hnr := h.nr
 have hpsl := h.pslen
 obtain ⟨F, hF⟩ := h.rest
 refine acalls_by Tryz.func30 Tryz.ntmps30 ?_
 simp only [argFr]
 repeat' (first| (show lMakeSlice; refine k_makeM (f := encOP) none ?_)| (show lOp; refine op0 (by (show kCall; exact b_call (hk))) ?_)| (refine wS ?_)| fail)
 refine aw_roundsP (ι := Nat × List (Option (List (Int × Int)))) 2 (fun i => [.cells [.p (rulesP c.rules), .p (lI c.start)], .arr 29 1 (i.2.map encOP)]) (fun i n => [(1, .c (.ptr 0 0)), (4, .c (.ms 1 c.rules.length)), (5, i64 (i.1 : Int))]) (fun _ _ => []) (fun i => i.1 <= c.rules.length /\ i.2.length = c.rules.length /\ ∀ k : Nat, k < i.1 -> at' i.2 (k : Int) = some (at' ps (k : Int))) (fun i => c.rules.length - i.1) (0, List.replicate c.rules.length none) 2 (fun _ => rfl) ⟨by simp, by simp, by simp⟩ (by omega) (by simp) rfl rfl (by simp [Fr.get]) ?_
 rintro ⟨i, qs⟩ n g ⟨h1, h2, h3⟩ hg
 dsimp only at h1 h2 h3 hg ⊢
 have hg2 : 2 + g.length = n := by simp at hg; omega
 clear hg
 by_cases hi : i < c.rules.length
 ·have hpc := parts32_c (at' c.rules (i : Int)).body (by have := (h.body i hi).2; omega) _ (h.div i hi)
  repeat' (first| (refine aw_T ?_ (hb := dT (show (i : Int) < c.rules.length by omega)))| (show lStore; refine k_storeElM (i := i) (f := encOP) (some (at' ps (i : Int))) ?_ (hes := encOP_len))| (show lOp; refine op0 (by (show kCall; exact b_call (hpc))) ?_)| (refine wS ?_)| fail)
  refine ⟨(i + 1, qs.set i (some (at' ps (i : Int)))), n, ⟨by dsimp only; omega, by simp [h2], fun k hk => ?_⟩, by omega, by simp; omega, rfl, dropGP (p := 2) (j := 0) hg2 rfl rfl, by simp [Fr.get], by dsimp only; omega⟩
  dsimp only at hk ⊢
  by_cases e : i = k
  ·subst e; rw [at'_set_self (by omega)]
  ·rw [at'_set_ne e]; exact h3 k (by omega)
 ·have hq : qs = ps.map some := ext_at' (by rw [h2, List.length_map, h.pslen]) (fun k hk => by
   rw [h3 k (by omega)]
   have : k < ps.length := by rw [h.pslen]; omega
   simp [at', List.getD_eq_getElem?_getD, this])
  subst hq
  have hmap : (ps.map some).map encOP = ps.map encPs := by rw [List.map_map]; rfl
  rw [hmap]
  repeat' (first| (refine aw_F ?_ (hb := dF (show ¬(i : Int) < c.rules.length by omega)))| (show lMakeSlice; refine k_makeM (f := encInfo) noInfo ?_)| (refine wS ?_)| fail)
  refine aw_roundsP (ι := Nat × List Info × Bool) 2 (fun _ => [.cells [.p (rulesP c.rules), .p (lI c.start)], .arr 29 1 (ps.map encPs)]) (fun i n => [(1, .c (.ptr 0 0)), (4, .c (.ms 1 c.rules.length)), (6, .c (.ms (n + 0) c.rules.length)), (7, bl i.2.2)]) (fun i _ => [.arr 64 8 (i.2.1.map encInfo)]) (fun i => i.2.1.length = c.rules.length /\ (i.2.2 = true -> fixF (nextI c ps) i.1 i.2.1 = some R) /\ (i.2.2 = false -> i.2.1 = R)) (fun i => i.1) (F, List.replicate c.rules.length noInfo, true) n (fun _ => rfl) ⟨by simp, fun _ => hF, fun h => Bool.noConfusion h⟩ (by omega) (by simp; omega) rfl (dropGP (p := 2) (j := 0) hg2 rfl rfl) (by simp [Fr.get]) ?_
  clear hg2
  rintro ⟨f, l, b⟩ n g ⟨j1, j2, j3⟩ hg
  dsimp only at j1 j2 j3 hg ⊢
  have hg2 : 2 + g.length = n := by simp at hg; omega
  clear hg
  cases b with
  | false =>
   have j3 := j3 rfl
   subst j3
   repeat' (first| (show cAt 19; refine kw_freezeM (f := encInfo) 6 ?_; refine aw_reg ?_)| (show eRet; refine ret2 Tryz.results30 ?_)| (refine wS ?_)| fail)
   rw [List.take_of_length_le (by omega)]
  | true =>
   have j2 := j2 rfl
   clear j3
   cases f with
   | zero => cases j2
   | succ f =>
    simp only [fixF] at j2
    repeat' (first| (refine wS ?_)| fail)
    refine aw_roundsP (ι := Nat × List Info × Bool) 2 (fun _ => [.cells [.p (rulesP c.rules), .p (lI c.start)], .arr 29 1 (ps.map encPs)]) (fun i n => [(1, .c (.ptr 0 0)), (4, .c (.ms 1 c.rules.length)), (6, .c (.ms (n + 0) c.rules.length)), (7, bl i.2.2), (8, i64 (i.1 : Int))]) (fun i _ => [.arr 64 8 (i.2.1.map encInfo)]) (fun i => i.1 <= c.rules.length /\ i.2.1.length = c.rules.length /\ passF (nextI c ps) (c.rules.length - i.1) i.1 i.2.1 i.2.2 = passF (nextI c ps) l.length 0 l false) (fun i => c.rules.length - i.1) (0, l, false) n (fun _ => rfl) ⟨by simp, j1, by rw [j1]; rfl⟩ (by omega) (by simp; omega) rfl (dropGP (p := 2) (j := 0) hg2 rfl rfl) (by simp [Fr.get]) ?_
    clear hg2
    rintro ⟨k, l2, ch⟩ n g ⟨q1, q2, q3⟩ hg
    dsimp only at q1 q2 q3 hg ⊢
    have hg2 : 2 + g.length = n := by simp at hg; omega
    clear hg
    by_cases hkn : k < c.rules.length
    ·obtain ⟨m, hm⟩ : ∃ m, c.rules.length - k = m + 1 := ⟨c.rules.length - k - 1, by omega⟩
     rw [hm] at q3
     simp only [passF] at q3
     obtain ⟨b0, b1⟩ := h.body k hkn
     have hn2 := nodes31_c (at' c.rules (k : Int)).body (at' ps (k : Int)) l2 (by omega) (h.plen k hkn) (fun j hj => h.lt k j hkn hj) (fun j hj h2 => by rw [q2]; exact h.rule k j hkn hj h2)
     have hnl := nodesM_len (at' c.rules (k : Int)).body (at' ps (k : Int)) l2
     have hnx : at' (nodesM (at' c.rules (k : Int)).body (at' ps (k : Int)) l2) (((nodesM (at' c.rules (k : Int)).body (at' ps (k : Int)) l2).length : Int) - 1) = nextI c ps l2 (k : Int) := by rw [hnl]; rfl
     have hpl : k < ps.length := by rw [h.pslen]; exact hkn
     have htk : (l2.map encInfo).take c.rules.length = l2.map encInfo := List.take_of_length_le (by simp; omega)
     generalize nodesM (at' c.rules (k : Int)).body (at' ps (k : Int)) l2 = N at hn2 hnl hnx
     by_cases hne : nextI c ps l2 (k : Int) = at' l2 (k : Int)
     ·rw [if_neg (by simpa using hne)] at q3
      have hne' : at' N ((N.length : Int) - 1) = at' l2 (k : Int) := hnx.trans hne
      repeat' (first| (refine aw_T ?_ (hb := dT (show (k : Int) < c.rules.length by omega)))| (refine aw_F ?_ (hb := neq_no hne'))| (show lOp; refine op0 (by (show kBinopNeq; exact b_neqAgg (hr := info_eq (at' N ((N.length : Int) - 1)) (at' l2 (k : Int))))) ?_)| (show dOp; refine ds_op (by (show kCall; exact b_lendNewF hn2 (.cons (.c .p) (.cons (.c .p) (.cons (.c (.arr (e := 64) (l := l2.map encInfo) (getGP hg2 rfl rfl) (by simp [q2]) htk)) .nil))) (flat_info _) (by simp [hnl]))) ?_)| (refine wS ?_)| fail)
      exact ⟨(k + 1, l2, ch), n, ⟨by dsimp only; omega, q2, by dsimp only; rw [show c.rules.length - (k + 1) = m by omega]; exact q3⟩, by omega, by simp; omega, rfl, dropGP (p := 2) (j := 0) hg2 rfl rfl, by simp [Fr.get], by dsimp only; omega⟩
     ·rw [if_pos hne] at q3
      have hne' : ¬at' N ((N.length : Int) - 1) = at' l2 (k : Int) := fun e => hne (hnx.symm.trans e)
      rw [<- hnx] at q3
      repeat' (first| (refine aw_T ?_ (hb := dT (show (k : Int) < c.rules.length by omega)))| (refine aw_T ?_ (hb := neq_yes hne'))| (show lStore; refine k_storeElM (i := k) (f := encInfo) (at' N ((N.length : Int) - 1)) ?_)| (show lOp; refine op0 (by (show kBinopNeq; exact b_neqAgg (hr := info_eq (at' N ((N.length : Int) - 1)) (at' l2 (k : Int))))) ?_)| (show dOp; refine ds_op (by (show kCall; exact b_lendNewF hn2 (.cons (.c .p) (.cons (.c .p) (.cons (.c (.arr (e := 64) (l := l2.map encInfo) (getGP hg2 rfl rfl) (by simp [q2]) htk)) .nil))) (flat_info _) (by simp [hnl]))) ?_)| (refine wS ?_)| fail)
      exact ⟨(k + 1, l2.set k (at' N ((N.length : Int) - 1)), true), n, ⟨by dsimp only; omega, by simp [q2], by dsimp only; rw [show c.rules.length - (k + 1) = m by omega]; exact q3⟩, by omega, by simp; omega, rfl, dropGP (p := 2) (j := 0) hg2 rfl rfl, by simp [Fr.get], by dsimp only; omega⟩
    ·have hkn2 : k = c.rules.length := by omega
     subst hkn2
     rw [Nat.sub_self] at q3
     simp only [passF] at q3
     repeat' (first| (refine aw_F ?_ (hb := dF (show ¬(c.rules.length : Int) < c.rules.length by omega)))| (refine wS ?_)| fail)
     refine ⟨(f, l2, ch), n, ⟨q2, fun hch => ?_, fun hch => ?_⟩, by omega, by simp; omega, rfl, dropGP (p := 2) (j := 0) hg2 rfl rfl, by simp [Fr.get], by dsimp only; omega⟩
     ·dsimp only at hch ⊢
      rw [<- q3, hch] at j2
      simpa using j2
     ·dsimp only at hch ⊢
      rw [<- q3, hch] at j2
      simpa using j2
end Go.AL
namespace Go.AL
open Go.Proofs
attribute [local irreducible] AWp AList RStep seqQ blockQ retQ DSteps DT DU DM DZ awR rQ SStep saidM checkI nodesM
/-- The document's facts of a rule's nodes. -/
def factsI (c : Core) (ps : List (List (Int × Int))) (R : List Info) (r : Int) : List Info := nodesM (at' c.rules r).body (at' ps r) R
theorem factsI_len (c : Core) (ps : List (List (Int × Int))) (R : List Info) (r : Int) : (factsI c ps R r).length = (at' c.rules r).body.length := nodesM_len ..
theorem body15_c (c : Core) (hc : CoreIn c) (ps : List (List (Int × Int))) (R : List Info) (h : RulesIn c ps R) (r : Int) (r0 : 0 <= r) (r1 : r < c.rules.length) : ACalls Tryz.prog 15 [coreV c, i64 r] [] (fun q _ => q = .ret (.tup [.c (.p (infosP (factsI c ps R r))), i64 0])) := by
 obtain ⟨n, rfl⟩ : ∃ n : Nat, r = n := ⟨r.toNat, by omega⟩
 have hn : n < c.rules.length := by omega
 have hr := rules30_c c hc ps R h
 have hpl := h.plen n hn
 obtain ⟨b0, b1⟩ := h.body n hn
 have hdc := parts32_c (at' c.rules (n : Int)).body (by omega) _ (h.div n hn)
 have hnl := nodesM_len (at' c.rules (n : Int)).body (at' ps (n : Int)) R
 have hn2 := nodes31_c (at' c.rules (n : Int)).body (at' ps (n : Int)) R (by omega) hpl (fun j hj => h.lt n j hn hj) (fun j hj h2 => by rw [h.rlen]; exact h.rule n j hn hj h2)
 unfold factsI
 generalize nodesM (at' c.rules (n : Int)).body (at' ps (n : Int)) R = N at hn2 hnl ⊢
 refine acalls_by Tryz.func15 Tryz.ntmps15 ?_
 simp only [argFr]
 repeat' (first| (show lOp; refine op0 (by (show kCall; first | exact b_call (hr) | exact b_call (hdc) | exact b_lendNewF hn2 (.cons (.c .p) (.cons (.c .p) (.cons (.c .p) .nil))) (flat_info _) (by simp [hnl]))) ?_)| (show eRet; refine ret2 Tryz.results15 ?_)| (refine wS ?_)| (show cIf; refine aw_ifD (fun h => ?_) (fun h => ?_))| (exfalso; omega))
 rfl
end Go.AL
namespace Go.AL
open Go.Proofs
attribute [local irreducible] AWp AList RStep seqQ blockQ retQ DSteps DT DU DM DZ awR rQ SStep saidM checkI nodesM
/-- The nodes of a body that may stand at its front, as the document marks them: those below i still to be gone through. -/
def frontS (b : List Node) (ps : List (Int × Int)) (N : List Info) (i : Nat) (l : List Bool) : List Bool :=
 if at' l (i : Int) = true then
  (if 0 <= (at' ps (i : Int)).2 then (if 0 <= (at' ps (i : Int)).1 then l.set (at' ps (i : Int)).1.toNat true else l).set (at' ps (i : Int)).2.toNat (decide ((at' b (i : Int)).op = 5) || (at' N (at' ps (i : Int)).1).may.f1)
  else if 0 <= (at' ps (i : Int)).1 then l.set (at' ps (i : Int)).1.toNat true else l)
 else l
def frontF (b : List Node) (ps : List (Int × Int)) (N : List Info) : Nat -> List Bool -> List Bool
 | 0, l => l
 | i + 1, l => frontF b ps N i (frontS b ps N i l)
def frontM (b : List Node) (ps : List (Int × Int)) (N : List Info) : List Bool := frontF b ps N b.length ((List.replicate b.length false).set (b.length - 1) true)
theorem frontS_len (b : List Node) (ps : List (Int × Int)) (N : List Info) (i : Nat) (l : List Bool) : (frontS b ps N i l).length = l.length := by
 unfold frontS; split <;> try split
 all_goals (try split)
 all_goals simp
theorem frontF_len (b : List Node) (ps : List (Int × Int)) (N : List Info) : ∀ (i : Nat) (l : List Bool), (frontF b ps N i l).length = l.length
 | 0, _ => rfl
 | i + 1, l => by simp only [frontF]; rw [frontF_len b ps N i, frontS_len]
theorem front51_c (b : List Node) (pt : List (Int × Int)) (N : List Info) (hb : b.length <= 1000000) (hb0 : 0 < b.length) (hdv : divM b = some pt) (hp : pt.length = b.length) (hn : N.length = b.length) (hgd : ∀ j : Nat, j < b.length -> (at' pt (j : Int)).1 < j /\ (at' pt (j : Int)).2 < j) (h2 : ∀ j : Nat, j < b.length -> 0 <= (at' pt (j : Int)).2 -> 0 <= (at' pt (j : Int)).1) :
  ACalls Tryz.prog 51 [.c (.p (bodyP b)), .c (.p (infosP N))] [] (fun q _ => q = .ret (.c (.p (.sl 1 ((frontM b pt N).map encB1))))) := by
 have hdc := parts32_c b hb pt hdv
 refine acalls_by Tryz.func51 Tryz.ntmps51 ?_
 simp only [argFr]
 repeat' (first| (show lStore; refine k_storeElM (i := ((b.length : Int) - 1).toNat) (f := encB1) true ?_)| (show lMakeSlice; refine k_makeM (f := encB1) false ?_)| (show lOp; refine op0 (by (show kCall; exact b_call (hdc))) ?_)| (refine wS ?_)| fail)
 refine aw_roundsP (ι := Nat × Int × List Bool) 1 (fun i => [.arr 4 1 (i.2.2.map encB1)]) (fun i n => [(0, .c (.p (bodyP b))), (1, .c (.p (infosP N))), (5, .c (.p (.sl 2 (pt.map encP2)))), (6, .c (.ms 0 b.length)), (7, i64 i.2.1)]) (fun _ _ => []) (fun i => i.1 <= b.length /\ i.2.1 = (i.1 : Int) - 1 /\ i.2.2.length = b.length /\ frontF b pt N i.1 i.2.2 = frontM b pt N) (fun i => i.1) (b.length, (b.length : Int) - 1, (List.replicate b.length false).set ((b.length : Int) - 1).toNat true) 1 (fun _ => rfl) ⟨by simp, rfl, by simp, by unfold frontM; rw [show ((b.length : Int) - 1).toNat = b.length - 1 by omega]⟩ (by omega) (by simp) rfl rfl (by simp [Fr.get]) ?_
 rintro ⟨i, v, l⟩ n g ⟨h1, hv, h3, h4⟩ hg
 dsimp only at h1 hv h3 h4 hg ⊢
 have hg1 : 1 + g.length = n := by simp at hg; omega
 clear hg
 cases i with
 | zero =>
  simp only [frontF] at h4
  subst h4
  repeat' (first| (refine aw_F ?_ (hb := dF (show ¬v >= 0 by omega)))| (show cAt 13; refine kw_freezeM (f := encB1) 6 ?_; refine aw_reg ?_)| (show eRet; refine ret1 Tryz.results51 ?_)| (refine wS ?_)| fail)
  rw [List.take_of_length_le (by omega)]
 | succ i =>
  have hv : v = i := by omega
  subst hv
  have hi : i < b.length := by omega
  obtain ⟨q1, q2⟩ := hgd i hi
  have q3 := h2 i hi
  simp only [frontF] at h4
  by_cases hl : at' l (i : Int) = true
  ·unfold frontS at h4
   rw [if_pos hl] at h4
   by_cases p1 : 0 <= (at' pt (i : Int)).1
   ·by_cases p2 : 0 <= (at' pt (i : Int)).2
    ·rw [if_pos p2, if_pos p1] at h4
     by_cases h5 : (at' b (i : Int)).op = 5
     ·rw [decide_eq_true h5, Bool.true_or] at h4
      repeat' (first| (refine aw_T ?_ (hb := dT (show (i : Int) >= 0 by omega)))| (refine aw_F ?_ (hb := congrArg not hl))| (refine aw_T ?_ (hb := dT (show (at' pt (i : Int)).1 >= 0 by omega)))| (refine aw_T ?_ (hb := dT (show (at' pt (i : Int)).2 >= 0 by omega)))| (show lStore; first | refine k_storeElM (i := (at' pt (i : Int)).1.toNat) (f := encB1) true ?_ | refine k_storeElM (i := (at' pt (i : Int)).2.toNat) (f := encB1) true ?_)| (refine wS ?_)| fail)
      exact ⟨(i, (i : Int) - 1, (l.set (at' pt (i : Int)).1.toNat true).set (at' pt (i : Int)).2.toNat true), n, ⟨by dsimp only; omega, rfl, by simp [h3], h4⟩, by omega, by simp; omega, rfl, dropGP (p := 1) (j := 0) hg1 rfl rfl, by simp [Fr.get], by dsimp only; omega⟩
     ·rw [decide_eq_false h5, Bool.false_or] at h4
      repeat' (first| (refine aw_T ?_ (hb := dT (show (i : Int) >= 0 by omega)))| (refine aw_F ?_ (hb := congrArg not hl))| (refine aw_T ?_ (hb := dT (show (at' pt (i : Int)).1 >= 0 by omega)))| (refine aw_T ?_ (hb := dT (show (at' pt (i : Int)).2 >= 0 by omega)))| (show lStore; first | refine k_storeElM (i := (at' pt (i : Int)).1.toNat) (f := encB1) true ?_ | refine k_storeElM (i := (at' pt (i : Int)).2.toNat) (f := encB1) (at' N (at' pt (i : Int)).1).may.f1 ?_)| (refine wS ?_)| fail)
      exact ⟨(i, (i : Int) - 1, (l.set (at' pt (i : Int)).1.toNat true).set (at' pt (i : Int)).2.toNat (at' N (at' pt (i : Int)).1).may.f1), n, ⟨by dsimp only; omega, rfl, by simp [h3], h4⟩, by omega, by simp; omega, rfl, dropGP (p := 1) (j := 0) hg1 rfl rfl, by simp [Fr.get], by dsimp only; omega⟩
    ·rw [if_neg p2, if_pos p1] at h4
     repeat' (first| (refine aw_T ?_ (hb := dT (show (i : Int) >= 0 by omega)))| (refine aw_F ?_ (hb := congrArg not hl))| (refine aw_T ?_ (hb := dT (show (at' pt (i : Int)).1 >= 0 by omega)))| (refine aw_F ?_ (hb := dF (show ¬(at' pt (i : Int)).2 >= 0 by omega)))| (show lStore; refine k_storeElM (i := (at' pt (i : Int)).1.toNat) (f := encB1) true ?_)| (refine wS ?_)| fail)
     exact ⟨(i, (i : Int) - 1, l.set (at' pt (i : Int)).1.toNat true), n, ⟨by dsimp only; omega, rfl, by simp [h3], h4⟩, by omega, by simp; omega, rfl, dropGP (p := 1) (j := 0) hg1 rfl rfl, by simp [Fr.get], by dsimp only; omega⟩
   ·have p2 : ¬0 <= (at' pt (i : Int)).2 := fun h => p1 (q3 h)
    rw [if_neg p2, if_neg p1] at h4
    repeat' (first| (refine aw_T ?_ (hb := dT (show (i : Int) >= 0 by omega)))| (refine aw_F ?_ (hb := congrArg not hl))| (refine aw_F ?_ (hb := dF (show ¬(at' pt (i : Int)).1 >= 0 by omega)))| (refine aw_F ?_ (hb := dF (show ¬(at' pt (i : Int)).2 >= 0 by omega)))| (refine wS ?_)| fail)
    exact ⟨(i, (i : Int) - 1, l), n, ⟨by dsimp only; omega, rfl, by simp [h3], h4⟩, by omega, by simp; omega, rfl, dropGP (p := 1) (j := 0) hg1 rfl rfl, by simp [Fr.get], by dsimp only; omega⟩
  ·unfold frontS at h4
   rw [if_neg hl] at h4
   have hl2 : (!at' l (i : Int)) = true := by simpa using hl
   repeat' (first| (refine aw_T ?_ (hb := dT (show (i : Int) >= 0 by omega)))| (refine aw_T ?_ (hb := hl2))| (refine wS ?_)| fail)
   exact ⟨(i, (i : Int) - 1, l), n, ⟨by dsimp only; omega, rfl, by simp [h3], h4⟩, by omega, by simp; omega, rfl, dropGP (p := 1) (j := 0) hg1 rfl rfl, by simp [Fr.get], by dsimp only; omega⟩
end Go.AL
namespace Go.AL
open Go.Proofs
attribute [local irreducible] AWp AList RStep seqQ blockQ retQ DSteps DT DU DM DZ awR rQ SStep saidM checkI nodesM frontM frontF
/-- The rules that the marked nodes of a body name. -/
def leadsF (b : List Node) (fr : List Bool) : Nat -> Nat -> List Bool -> List Bool
 | 0, _, l => l
 | m + 1, k, l => leadsF b fr m (k + 1) (if at' fr (k : Int) = true /\ (at' b (k : Int)).op = 2 then l.set (at' b (k : Int)).rule.toNat true else l)
theorem leadsF_len (b : List Node) (fr : List Bool) : ∀ (m k : Nat) (l : List Bool), (leadsF b fr m k l).length = l.length
 | 0, _, _ => rfl
 | m + 1, k, l => by
  simp only [leadsF]; rw [leadsF_len b fr m]; split <;> simp
def leadsM (c : Core) (ps : List (List (Int × Int))) (R : List Info) (r : Int) : List Bool :=
 leadsF (at' c.rules r).body (frontM (at' c.rules r).body (at' ps r) (factsI c ps R r)) (at' c.rules r).body.length 0 (List.replicate c.rules.length false)
theorem frontM_len (b : List Node) (ps : List (Int × Int)) (N : List Info) : (frontM b ps N).length = b.length := by
 unfold frontM; rw [frontF_len]; simp
theorem leads33_c (c : Core) (hc : CoreIn c) (ps : List (List (Int × Int))) (R : List Info) (h : RulesIn c ps R) (h2 : ∀ r j : Nat, r < c.rules.length -> j < (at' c.rules (r : Int)).body.length -> 0 <= (at' (at' ps (r : Int)) (j : Int)).2 -> 0 <= (at' (at' ps (r : Int)) (j : Int)).1) (r : Int) (r0 : 0 <= r) (r1 : r < c.rules.length) :
  ACalls Tryz.prog 33 [coreV c, i64 r] [] (fun q _ => q = .ret (.c (.p (.sl 1 ((leadsM c ps R r).map encB1))))) := by
 obtain ⟨n, rfl⟩ : ∃ n : Nat, r = n := ⟨r.toNat, by omega⟩
 have hn : n < c.rules.length := by omega
 have hbd := body15_c c hc ps R h n r0 r1
 obtain ⟨b0, b1⟩ := h.body n hn
 have hfr := front51_c (at' c.rules (n : Int)).body (at' ps (n : Int)) (factsI c ps R n) (by omega) b0 (h.div n hn) (h.plen n hn) (factsI_len ..) (fun j hj => h.lt n j hn hj) (fun j hj => h2 n j hn hj)
 have hru := h.rule n
 have hnr := h.nr
 unfold leadsM
 have hfl := frontM_len (at' c.rules (n : Int)).body (at' ps (n : Int)) (factsI c ps R n)
 generalize frontM (at' c.rules (n : Int)).body (at' ps (n : Int)) (factsI c ps R n) = fr at hfr hfl ⊢
 refine acalls_by Tryz.func33 Tryz.ntmps33 ?_
 simp only [argFr]
 repeat' (first| (show lMakeSlice; refine k_makeM (f := encB1) false ?_)| (show lOp; refine op0 (by (show kCall; first | exact b_call (hbd) | exact b_call (hfr))) ?_)| (refine wS ?_)| fail)
 refine aw_roundsP (ι := Nat × List Bool) 2 (fun i => [.cells [.p (rulesP c.rules), .p (lI c.start)], .arr 4 1 (i.2.map encB1)]) (fun i n' => [(1, i64 n), (2, .c (.ptr 0 0)), (7, .c (.p (.sl 1 (fr.map encB1)))), (8, .c (.ms 1 c.rules.length)), (9, i64 (i.1 : Int))]) (fun _ _ => []) (fun i => i.1 <= (at' c.rules (n : Int)).body.length /\ i.2.length = c.rules.length /\ leadsF (at' c.rules (n : Int)).body fr ((at' c.rules (n : Int)).body.length - i.1) i.1 i.2 = leadsF (at' c.rules (n : Int)).body fr (at' c.rules (n : Int)).body.length 0 (List.replicate c.rules.length false)) (fun i => (at' c.rules (n : Int)).body.length - i.1) (0, List.replicate c.rules.length false) 2 (fun _ => rfl) ⟨by simp, by simp, rfl⟩ (by omega) (by simp) rfl rfl (by simp [Fr.get]) ?_
 rintro ⟨k, l⟩ n2 g ⟨h1, h3, h4⟩ hg
 dsimp only at h1 h3 h4 hg ⊢
 have hg2 : 2 + g.length = n2 := by simp at hg; omega
 clear hg
 by_cases hk : k < (at' c.rules (n : Int)).body.length
 ·obtain ⟨m, hm⟩ : ∃ m, (at' c.rules (n : Int)).body.length - k = m + 1 := ⟨(at' c.rules (n : Int)).body.length - k - 1, by omega⟩
  rw [hm] at h4
  simp only [leadsF] at h4
  have hru := hru k hn hk
  by_cases hf : at' fr (k : Int) = true
  ·by_cases ho : (at' (at' c.rules (n : Int)).body (k : Int)).op = 2
   ·obtain ⟨u1, u2⟩ := hru ho
    rw [if_pos ⟨hf, ho⟩] at h4
    repeat' (first| (refine aw_T ?_ (hb := dT (show (k : Int) < fr.length by omega)))| (refine aw_T ?_ (hb := decide_eq_true ho))| (show lStore; refine k_storeElM (i := (at' (at' c.rules (n : Int)).body (k : Int)).rule.toNat) (f := encB1) true ?_)| (refine wS ?_)| fail)
    exact ⟨(k + 1, l.set (at' (at' c.rules (n : Int)).body (k : Int)).rule.toNat true), n2 + 1, ⟨by dsimp only; omega, by simp [h3], by dsimp only; rw [show (at' c.rules (n : Int)).body.length - (k + 1) = m by omega]; exact h4⟩, by omega, by simp; omega, rfl, dropGP (p := 2) (j := 1) hg2 rfl rfl, by simp [Fr.get], by dsimp only; omega⟩
   ·rw [if_neg (fun h => ho h.2)] at h4
    repeat' (first| (refine aw_T ?_ (hb := dT (show (k : Int) < fr.length by omega)))| (refine aw_F ?_ (hb := decide_eq_false ho))| (refine wS ?_)| fail)
    exact ⟨(k + 1, l), n2 + 1, ⟨by dsimp only; omega, by simp [h3], by dsimp only; rw [show (at' c.rules (n : Int)).body.length - (k + 1) = m by omega]; exact h4⟩, by omega, by simp; omega, rfl, dropGP (p := 2) (j := 1) hg2 rfl rfl, by simp [Fr.get], by dsimp only; omega⟩
  ·rw [if_neg (fun h => hf h.1)] at h4
   have hf2 : at' fr (k : Int) = false := by simpa using hf
   repeat' (first| (refine aw_T ?_ (hb := dT (show (k : Int) < fr.length by omega)))| (refine wS ?_)| fail)
   exact ⟨(k + 1, l), n2 + 1, ⟨by dsimp only; omega, by simp [h3], by dsimp only; rw [show (at' c.rules (n : Int)).body.length - (k + 1) = m by omega]; exact h4⟩, by omega, by simp; omega, rfl, dropGP (p := 2) (j := 1) hg2 rfl rfl, by simp [Fr.get], by dsimp only; omega⟩
 ·have : k = (at' c.rules (n : Int)).body.length := by omega
  subst this
  rw [Nat.sub_self] at h4
  simp only [leadsF] at h4
  subst h4
  repeat' (first| (refine aw_F ?_ (hb := dF (show ¬((at' c.rules (n : Int)).body.length : Int) < fr.length by omega)))| (show cAt 10; refine kw_freezeM (f := encB1) 8 ?_; refine aw_reg ?_)| (show eRet; refine ret1 Tryz.results33 ?_)| (refine wS ?_)| fail)
  rw [List.take_of_length_le (by omega)]
end Go.AL
namespace Go.AL
open Go.Proofs
attribute [local irreducible] AWp AList RStep seqQ blockQ retQ DSteps DT DU DM DZ awR rQ SStep saidM checkI nodesM frontM frontF leadsM
def encLB (l : List Bool) : List PV := [.sl 1 (l.map encB1)]
/-- Which rules a rule may begin with, as the document tells it. -/
def toM (c : Core) (ps : List (List (Int × Int))) (R : List Info) : List (List Bool) := (List.range c.rules.length).map fun r : Nat => leadsM c ps R (r : Int)
theorem toM_len (c : Core) (ps : List (List (Int × Int))) (R : List Info) : (toM c ps R).length = c.rules.length := by simp [toM]
theorem toM_at (c : Core) (ps : List (List (Int × Int))) (R : List Info) (k : Nat) (hk : k < c.rules.length) : at' (toM c ps R) (k : Int) = leadsM c ps R (k : Int) := by
 simp [at', List.getD_eq_getElem?_getD, toM, hk]
theorem leadsM_len (c : Core) (ps : List (List (Int × Int))) (R : List Info) (r : Int) : (leadsM c ps R r).length = c.rules.length := by
 unfold leadsM; rw [leadsF_len]; simp
structure TwoIn (c : Core) (ps : List (List (Int × Int))) : Prop where
 two : ∀ r j : Nat, r < c.rules.length -> j < (at' c.rules (r : Int)).body.length -> 0 <= (at' (at' ps (r : Int)) (j : Int)).2 -> 0 <= (at' (at' ps (r : Int)) (j : Int)).1
theorem all16_c (c : Core) (hc : CoreIn c) (ps : List (List (Int × Int))) (R : List Info) (h : RulesIn c ps R) (h2 : TwoIn c ps) :
  ACalls Tryz.prog 16 [coreV c] [] (fun q _ => q = .ret (.c (.p (.sl 1 ((toM c ps R).map encLB))))) := by
 have hnr := h.nr
 have hlen := toM_len c ps R
 have hat := toM_at c ps R
 have hll := leadsM_len c ps R
 generalize toM c ps R = T at hlen hat ⊢
 have htk : ∀ k : Nat, k < c.rules.length -> ((T.take k).take k ++ [at' T (k : Int)]) = T.take (k + 1) := fun k hk => by
  rw [List.take_take, Nat.min_self, List.take_add_one, at'_getElem? (by omega)]; rfl
 refine acalls_by Tryz.func16 Tryz.ntmps16 ?_
 simp only [argFr]
 repeat' (first| (show lBox; refine k_box ?_)| (show lOp; refine op0 (by (show kAssign; exact b_assign)) ?_)| (show lNil; refine al_nil ?_)| (show qSeq; refine n_seq ?_)| (show cReg; refine aw_reg ?_)| (show cSeq; refine aw_seq ?_)| (show cBlk; refine aw_block ?_))
 refine kw_own 3 69 1 ?_
 refine aw_roundsP (ι := Nat) 1 (fun _ => [.cells [.p (rulesP c.rules), .p (lI c.start)]]) (fun i n => [(1, .c (.ptr 0 0)), (3, .c (.ms (n + 0) i)), (4, i64 (i : Int))]) (fun i _ => [.arr 69 1 ((T.take i).map encLB)]) (fun i => i <= c.rules.length) (fun i => c.rules.length - i) 0 1 (fun _ => rfl) (by simp) (by omega) (by simp) rfl rfl (by simp [Fr.get]) ?_
 intro i n g h1 hg
 have hg1 : 1 + g.length = n := by simp at hg; omega
 clear hg
 by_cases hi : i < c.rules.length
 ·have hkt : i <= (T.take i).length := by rw [List.length_take]; omega
  have hld := leads33_c c hc ps R h h2.two i (by omega) (by omega)
  have hlk := hll i
  rw [<- hat i hi] at hld hlk
  repeat' (first| (refine aw_T ?_ (hb := dT (show (i : Int) < c.rules.length by omega)))| (show lCall; refine k_app1 (f := encLB) (at' T (i : Int)) ?_ (hn := hkt))| (show lOp; refine op0 (by (show kCall; exact b_call (hld))) ?_)| (refine wS ?_)| fail)
  exact ⟨i + 1, n + 1, by omega, by omega, by simp; omega, rfl, dropGP (p := 1) (j := 1) hg1 (by rw [htk i hi]; rfl) rfl, by simp [Fr.get], by omega⟩
 ·have : i = c.rules.length := by omega
  subst this
  have hit : T.take c.rules.length = T := List.take_of_length_le (by omega)
  rw [hit]
  repeat' (first| (refine aw_F ?_ (hb := eF))| (show cAt 6; refine kw_freezeM (f := encLB) 3 ?_; refine aw_reg ?_)| (show eRet; refine ret1 Tryz.results16 ?_)| (refine wS ?_)| fail)
  rw [hit]
end Go.AL
namespace Go.AL
open Go.Proofs
attribute [local irreducible] AWp AList RStep seqQ blockQ retQ DSteps DT DU DM DZ awR rQ SStep saidM checkI nodesM frontM frontF leadsM
theorem farS_len (to : List (List Bool)) (goal : Int) (d r : Nat) : ∀ (m s : Nat) (n : List Int), (farS to goal d r m s n).length = n.length
 | 0, _, _ => rfl
 | m + 1, s, n => by simp only [farS]; rw [farS_len to goal d r m]; split <;> simp
theorem farRow_len (to : List (List Bool)) (goal : Int) (d : Nat) : ∀ (m r : Nat) (n : List Int), (farRow to goal d m r n).length = n.length
 | 0, _, _ => rfl
 | m + 1, r, n => by
  simp only [farRow]; rw [farRow_len to goal d m]; split
  ·rfl
  ·rw [farS_len]
theorem farD_len (to : List (List Bool)) (goal : Int) : ∀ (m d : Nat) (n : List Int), (farD to goal m d n).length = n.length
 | 0, _, _ => rfl
 | m + 1, d, n => by simp only [farD]; rw [farD_len to goal m, farRow_len]
theorem farM_len (to : List (List Bool)) (goal : Int) : (farM to goal).length = to.length := by unfold farM; rw [farD_len]; simp
theorem far34_c (to : List (List Bool)) (goal : Int) (hl : to.length <= 1000000) (hrow : ∀ k : Nat, k < to.length -> (at' to (k : Int)).length = to.length) :
  ACalls Tryz.prog 34 [.c (.p (.sl 1 (to.map encLB))), i64 goal] [] (fun q _ => q = .ret (intsV (farM to goal))) := by
 refine acalls_by Tryz.func34 Tryz.ntmps34 ?_
 simp only [argFr]
 repeat' (first| (show lMakeSlice; refine k_makeM (f := encI1) 0 ?_)| (refine wS ?_)| fail)
 refine aw_roundsP (ι := Nat × Nat × List Int) 1 (fun i => [.arr 3 1 (i.2.2.map encI1)]) (fun i n' => [(0, .c (.p (.sl 1 (to.map encLB)))), (1, i64 goal), (5, .c (.ms 0 to.length)), (6, i64 (i.2.1 : Int))]) (fun _ _ => []) (fun i => i.1 + i.2.1 = to.length + 1 /\ 1 <= i.2.1 /\ i.2.2.length = to.length /\ farD to goal i.1 i.2.1 i.2.2 = farM to goal) (fun i => i.1) (to.length, 1, List.replicate to.length 0) 1 (fun _ => rfl) ⟨rfl, by simp, by simp, rfl⟩ (by omega) (by simp) rfl rfl (by simp [Fr.get]) ?_
 rintro ⟨m, d, n⟩ n1 g ⟨h1, hd, h2, h3⟩ hg
 dsimp only at h1 hd h2 h3 hg ⊢
 have hg1 : 1 + g.length = n1 := by simp at hg; omega
 clear hg
 cases m with
 | zero =>
  simp only [farD] at h3
  subst h3
  repeat' (first| (refine aw_F ?_ (hb := dF (show ¬(d : Int) <= to.length by omega)))| (show cAt 14; refine kw_freezeM (f := encI1) 5 ?_; refine aw_reg ?_)| (show eRet; refine ret1 Tryz.results34 ?_)| (refine wS ?_)| fail)
  rw [List.take_of_length_le (by omega)]
 | succ m =>
  simp only [farD] at h3
  repeat' (first| (refine aw_T ?_ (hb := dT (show (d : Int) <= to.length by omega)))| (refine wS ?_)| fail)
  refine aw_roundsP (ι := Nat × Nat × List Int) 1 (fun i => [.arr 3 1 (i.2.2.map encI1)]) (fun i n' => [(0, .c (.p (.sl 1 (to.map encLB)))), (1, i64 goal), (5, .c (.ms 0 to.length)), (6, i64 (d : Int)), (7, i64 (i.2.1 : Int))]) (fun _ _ => []) (fun i => i.1 + i.2.1 = to.length /\ i.2.2.length = to.length /\ farRow to goal d i.1 i.2.1 i.2.2 = farRow to goal d to.length 0 n) (fun i => i.1) (to.length, 0, n) n1 (fun _ => rfl) ⟨rfl, h2, rfl⟩ (by omega) (by simp; omega) rfl (dropGP (p := 1) (j := 0) hg1 rfl rfl) (by simp [Fr.get]) ?_
  clear hg1
  rintro ⟨mr, r, w⟩ n1 g ⟨r1, r2, r3⟩ hg
  dsimp only at r1 r2 r3 hg ⊢
  have hg1 : 1 + g.length = n1 := by simp at hg; omega
  clear hg
  cases mr with
  | zero =>
   simp only [farRow] at r3
   rw [<- r3] at h3
   repeat' (first| (refine aw_F ?_ (hb := dF (show ¬(r : Int) < to.length by omega)))| (refine wS ?_)| fail)
   exact ⟨(m, d + 1, w), n1, ⟨by dsimp only; omega, by dsimp only; omega, r2, h3⟩, by omega, by simp; omega, rfl, dropGP (p := 1) (j := 0) hg1 rfl rfl, by simp [Fr.get], by dsimp only; omega⟩
  | succ mr =>
   simp only [farRow] at r3
   by_cases hp : at' w (r : Int) > 0
   ·rw [if_pos hp] at r3
    repeat' (first| (refine aw_T ?_ (hb := dT (show (r : Int) < to.length by omega)))| (refine aw_T ?_ (hb := decide_eq_true hp))| (refine wS ?_)| fail)
    exact ⟨(mr, r + 1, w), n1, ⟨by dsimp only; omega, r2, r3⟩, by omega, by simp; omega, rfl, dropGP (p := 1) (j := 0) hg1 rfl rfl, by simp [Fr.get], by dsimp only; omega⟩
   ·rw [if_neg hp] at r3
    have hrl := hrow r (by omega)
    repeat' (first| (refine aw_T ?_ (hb := dT (show (r : Int) < to.length by omega)))| (refine aw_F ?_ (hb := decide_eq_false hp))| (refine wS ?_)| fail)
    refine aw_roundsP (ι := Nat × Nat × List Int) 1 (fun i => [.arr 3 1 (i.2.2.map encI1)]) (fun i n' => [(0, .c (.p (.sl 1 (to.map encLB)))), (1, i64 goal), (5, .c (.ms 0 to.length)), (6, i64 (d : Int)), (7, i64 (r : Int)), (8, i64 (i.2.1 : Int))]) (fun _ _ => []) (fun i => i.1 + i.2.1 = to.length /\ i.2.2.length = to.length /\ farS to goal d r i.1 i.2.1 i.2.2 = farS to goal d r to.length 0 w) (fun i => i.1) (to.length, 0, w) n1 (fun _ => rfl) ⟨rfl, r2, rfl⟩ (by omega) (by simp; omega) rfl (dropGP (p := 1) (j := 0) hg1 rfl rfl) (by simp [Fr.get]) ?_
    clear hg1
    rintro ⟨ms, s, u⟩ n1 g ⟨s1, s2, s3⟩ hg
    dsimp only at s1 s2 s3 hg ⊢
    have hg1 : 1 + g.length = n1 := by simp at hg; omega
    clear hg
    cases ms with
    | zero =>
     simp only [farS] at s3
     rw [<- s3] at r3
     repeat' (first| (refine aw_F ?_ (hb := dF (show ¬(s : Int) < to.length by omega)))| (refine wS ?_)| fail)
     exact ⟨(mr, r + 1, u), n1, ⟨by dsimp only; omega, s2, r3⟩, by omega, by simp; omega, rfl, dropGP (p := 1) (j := 0) hg1 rfl rfl, by simp [Fr.get], by dsimp only; omega⟩
    | succ ms =>
     simp only [farS] at s3
     unfold farHit at s3
     have hno : ¬(at' (at' to (r : Int)) (s : Int) = true /\ (d = 1 /\ (s : Int) = goal \/ 1 < d /\ at' u (s : Int) = (d : Int) - 1)) -> farS to goal d r ms (s + 1) u = farS to goal d r to.length 0 w := fun h => by
      rw [if_neg (fun hh => h (by simpa using hh))] at s3; exact s3
     have hyes : (at' (at' to (r : Int)) (s : Int) = true /\ (d = 1 /\ (s : Int) = goal \/ 1 < d /\ at' u (s : Int) = (d : Int) - 1)) -> farS to goal d r ms (s + 1) (u.set r (d : Int)) = farS to goal d r to.length 0 w := fun h => by
      rw [if_pos (by simpa using h)] at s3; exact s3
     clear s3
     cases e1 : at' (at' to (r : Int)) (s : Int) with
     | false =>
      have hn := hno (fun h => by rw [e1] at h; exact Bool.noConfusion h.1)
      repeat' (first| (refine aw_T ?_ (hb := dT (show (s : Int) < to.length by omega)))| (refine wS ?_)| fail)
      exact ⟨(ms, s + 1, u), n1, ⟨by dsimp only; omega, s2, hn⟩, by omega, by simp; omega, rfl, dropGP (p := 1) (j := 0) hg1 rfl rfl, by simp [Fr.get], by dsimp only; omega⟩
     | true =>
      have hno := fun (h : ¬(d = 1 /\ (s : Int) = goal \/ 1 < d /\ at' u (s : Int) = (d : Int) - 1)) => hno (fun hh => h hh.2)
      have hyes := fun h => hyes ⟨e1, h⟩
      repeat' (first| (refine aw_T ?_ (hb := dT (show (s : Int) < to.length by omega)))| (show lStore; refine k_storeElM (i := r) (f := encI1) (d : Int) ?_)| (refine wS ?_)| (show lGu; refine al_splitD (fun h => ?_) (fun h => ?_))| (show cIf; refine aw_ifD (fun h => ?_) (fun h => ?_))| (exfalso; omega))
      all_goals first
       | (exfalso; omega)
       | exact ⟨(ms, s + 1, u), n1, ⟨by dsimp only; omega, s2, hno (by omega)⟩, by omega, by simp; omega, rfl, dropGP (p := 1) (j := 0) hg1 rfl rfl, by simp [Fr.get], by dsimp only; omega⟩
       | exact ⟨(ms, s + 1, u.set r (d : Int)), n1, ⟨by dsimp only; omega, by simp [s2], hyes (by omega)⟩, by omega, by simp; omega, rfl, dropGP (p := 1) (j := 0) hg1 rfl rfl, by simp [Fr.get], by dsimp only; omega⟩
end Go.AL
namespace Go.AL
open Go.Proofs
attribute [local irreducible] AWp AList RStep seqQ blockQ retQ DSteps DT DU DM DZ awR rQ SStep saidM checkI nodesM frontM frontF leadsM farM
def wayS (row : List Bool) (f : List Int) (d : Int) : Nat -> Nat -> List Int -> List Int
 | 0, _, out => out
 | m + 1, s, out => if at' row (s : Int) = true /\ at' f (s : Int) = d then out ++ [(s : Int)] else wayS row f d m (s + 1) out
def wayF (to : List (List Bool)) (f : List Int) : Nat -> List Int -> List Int
 | 0, out => out
 | n + 1, out => wayF to f n (wayS (at' to (at' out ((out.length : Int) - 1))) f ((n : Int) + 1) to.length 0 out)
/-- The way round to a rule from itself. -/
def wayM (to : List (List Bool)) (r : Int) : List Int := wayF to (farM to r) ((at' (farM to r) r).toNat - 1) [r] ++ [r]
theorem wayM_ne (to : List (List Bool)) (r : Int) : 0 < (wayM to r).length := by simp [wayM]
theorem way_none (to : List (List Bool)) (r : Int) (hl : to.length <= 1000000) (hrow : ∀ k : Nat, k < to.length -> (at' to (k : Int)).length = to.length) (r0 : 0 <= r) (r1 : r < to.length) (h0 : at' (farM to r) r = 0) :
  ACalls Tryz.prog 17 [.c (.p (.sl 1 (to.map encLB))), i64 r] [] (fun q _ => q = .ret (.c (.p (.lit (.slice none 0 0))))) := by
 have hfar := far34_c to r hl hrow
 have hfl := farM_len to r
 refine acalls_by Tryz.func17 Tryz.ntmps17 ?_
 simp only [argFr]
 repeat' (first| (refine aw_T ?_ (hb := decide_eq_true h0))| (show lOp; refine op0 (by (show kCall; exact b_call (hfar))) ?_)| (show eRet; refine ret1 Tryz.results17 ?_)| (refine wS ?_)| fail)
 rfl
theorem way_some (to : List (List Bool)) (r : Int) (hl : to.length <= 1000000) (hrow : ∀ k : Nat, k < to.length -> (at' to (k : Int)).length = to.length) (r0 : 0 <= r) (r1 : r < to.length) (h0 : at' (farM to r) r ≠ 0) :
  ACalls Tryz.prog 17 [.c (.p (.sl 1 (to.map encLB))), i64 r] [] (fun q _ => q = .ret (intsV (wayM to r))) := by
 have hfar := far34_c to r hl hrow
 have hfl := farM_len to r
 obtain ⟨hok, _⟩ := far_ok to r
 obtain ⟨k, rfl⟩ : ∃ k : Nat, r = k := ⟨r.toNat, by omega⟩
 have hrg := hok.rng k (by omega)
 clear hok
 unfold wayM
 generalize farM to (k : Int) = fr at hfar hfl h0 hrg ⊢
 refine acalls_by Tryz.func17 Tryz.ntmps17 ?_
 simp only [argFr]
 repeat' (first| (refine aw_F ?_ (hb := decide_eq_false h0))| (show lBuildSlice; refine k_buildSl1 ?_)| (show lOp; refine op0 (by (show kCall; exact b_call (hfar))) ?_)| (refine wS ?_)| fail)
 refine aw_roundsP (ι := Nat × Int × List Int) 0 (fun i => []) (fun i n => [(0, .c (.p (.sl 1 (to.map encLB)))), (1, i64 k), (5, intsV fr), (6, .c (.ms (n + 0) i.2.2.length)), (7, i64 i.2.1)]) (fun i _ => [.arr 3 1 (i.2.2.map encI1)]) (fun i => i.2.1 = (i.1 : Int) + 1 /\ i.1 <= 1000000 /\ 0 < i.2.2.length /\ i.2.2.length + i.1 <= 2000000 /\ (∀ x ∈ i.2.2, 0 <= x /\ x < to.length) /\ wayF to fr i.1 i.2.2 = wayF to fr ((at' fr (k : Int)).toNat - 1) [(k : Int)]) (fun i => i.1) ((at' fr (k : Int)).toNat - 1, at' fr (k : Int), [(k : Int)]) 0 (fun _ => rfl) ⟨by dsimp only; omega, by dsimp only; omega, by simp, by simp; omega, fun x hx => by rw [List.mem_singleton.1 hx]; omega, rfl⟩ (by omega) (by simp) rfl rfl (by simp [Fr.get]) ?_
 rintro ⟨m, d, out⟩ n g ⟨h1, h2, h3, h4, h5, h6⟩ hg
 dsimp only at h1 h2 h3 h4 h5 h6 hg ⊢
 have hg1 : g.length = n := by simp at hg; omega
 clear hg
 cases m with
 | zero =>
  simp only [wayF] at h6
  subst h6
  repeat' (first| (refine aw_F ?_ (hb := dF (show ¬d > 1 by omega)))| (show cRet; refine kw_freezeM (f := encI1) 4 ?_)| (show lCall; refine k_app1 (f := encI1) (k : Int) ?_)| (show eRet; refine ret1 Tryz.results17 ?_)| (refine wS ?_)| fail)
  rw [List.take_length, List.take_of_length_le (by simp)]
 | succ m =>
  simp only [wayF] at h6
  have hla := h5 _ (at'_memI (l := out) (x := (out.length : Int) - 1) (by omega) (by omega))
  have hrl := hrow (at' out ((out.length : Int) - 1)).toNat (by omega)
  rw [show (((at' out ((out.length : Int) - 1)).toNat : Nat) : Int) = (at' out ((out.length : Int) - 1)) by omega] at hrl
  rw [show (m : Int) + 1 = d - 1 by omega] at h6
  repeat' (first| (refine aw_T ?_ (hb := dT (show d > 1 by omega)))| (refine wS ?_)| fail)
  refine aw_roundsP (ι := Nat × Nat) 0 (fun i => []) (fun i n => [(0, .c (.p (.sl 1 (to.map encLB)))), (1, i64 k), (5, intsV fr), (6, .c (.ms (n + 0) out.length)), (7, i64 d), (8, i64 (i.2 : Int))]) (fun i _ => [.arr 3 1 (out.map encI1)]) (fun i => i.1 + i.2 = to.length /\ wayS (at' to (at' out ((out.length : Int) - 1))) fr (d - 1) i.1 i.2 out = wayS (at' to (at' out ((out.length : Int) - 1))) fr (d - 1) to.length 0 out) (fun i => i.1) (to.length, 0) n (fun _ => rfl) ⟨rfl, rfl⟩ (by omega) (by simp; omega) rfl (dropGP (p := 0) (j := 0) (by simpa using hg1) rfl rfl) (by simp [Fr.get]) ?_
  clear hg1
  rintro ⟨ms, s⟩ n g ⟨s1, s2⟩ hg
  dsimp only at s1 s2 hg ⊢
  have hg1 : g.length = n := by simp at hg; omega
  clear hg
  cases ms with
  | zero =>
   simp only [wayS] at s2
   rw [<- s2] at h6
   repeat' (first| (refine aw_F ?_ (hb := dF (show ¬(s : Int) < to.length by omega)))| (refine wS ?_)| fail)
   exact ⟨(m, d - 1, out), n, ⟨by dsimp only; omega, by dsimp only; omega, h3, by dsimp only; omega, h5, h6⟩, by omega, by simp; omega, rfl, dropGP (p := 0) (j := 0) (by simpa using hg1) rfl rfl, by simp [Fr.get], by dsimp only; omega⟩
  | succ ms =>
   simp only [wayS] at s2
   by_cases e1 : at' (at' to (at' out ((out.length : Int) - 1))) (s : Int) = true
   ·by_cases e2 : at' fr (s : Int) = d - 1
    ·rw [if_pos ⟨e1, e2⟩] at s2
     rw [<- s2] at h6
     repeat' (first| (refine aw_T ?_ (hb := dT (show (s : Int) < to.length by omega)))| (refine aw_T ?_ (hb := decide_eq_true e2))| (show lCall; refine k_app1 (f := encI1) (s : Int) ?_)| (refine wS ?_)| fail)
     exact ⟨(m, d - 1, out ++ [(s : Int)]), n + 1, ⟨by dsimp only; omega, by dsimp only; omega, by simp, by simp; omega, fun x hx => by rcases List.mem_append.1 hx with hx | hx; exact h5 x hx; rw [List.mem_singleton.1 hx]; omega, h6⟩, by omega, by simp; omega, rfl, dropGP (p := 0) (j := 1) (by simpa using hg1) (by rw [List.take_length]; rfl) rfl, by simp [Fr.get], by dsimp only; omega⟩
    ·rw [if_neg (fun h => e2 h.2)] at s2
     repeat' (first| (refine aw_T ?_ (hb := dT (show (s : Int) < to.length by omega)))| (refine aw_F ?_ (hb := decide_eq_false e2))| (refine wS ?_)| fail)
     exact ⟨(ms, s + 1), n, ⟨by dsimp only; omega, s2⟩, by omega, by simp; omega, rfl, dropGP (p := 0) (j := 0) (by simpa using hg1) rfl rfl, by simp [Fr.get], by dsimp only; omega⟩
   ·rw [if_neg (fun h => e1 h.1)] at s2
    have e1f : at' (at' to (at' out ((out.length : Int) - 1))) (s : Int) = false := by simpa using e1
    clear e1
    repeat' (first| (refine aw_T ?_ (hb := dT (show (s : Int) < to.length by omega)))| (refine wS ?_)| fail)
    all_goals exact ⟨(ms, s + 1), n, ⟨by dsimp only; omega, s2⟩, by omega, by simp; omega, rfl, dropGP (p := 0) (j := 0) (by simpa using hg1) rfl rfl, by simp [Fr.get], by dsimp only; omega⟩
end Go.AL
namespace Go.AL
open Go.Proofs
attribute [local irreducible] AWp AList RStep seqQ blockQ retQ DSteps DT DU DM DZ awR rQ SStep saidM checkI nodesM frontM frontF leadsM farM wayM toM
def rankS (row : List Bool) (r : Nat) : Nat -> Nat -> List Int -> List Int
 | 0, _, l => l
 | m + 1, s, l => rankS row r m (s + 1) (if at' row (s : Int) = true then l.set r (max (at' l (r : Int)) (at' l (s : Int) + 1)) else l)
def rankR (to : List (List Bool)) : Nat -> Nat -> List Int -> List Int
 | 0, _, l => l
 | m + 1, r, l => rankR to m (r + 1) (rankS (at' to (r : Int)) r to.length 0 l)
def rankN (to : List (List Bool)) : Nat -> List Int -> List Int
 | 0, l => l
 | m + 1, l => rankN to m (rankR to to.length 0 l)
def rankM (to : List (List Bool)) : List Int := rankN to to.length (List.replicate to.length 0)
theorem ranks_bad (c : Core) (hc : CoreIn c) (h : checkI c ≠ 0) : ACalls Tryz.prog 7 [coreV c] [] (fun q _ => q = .ret (.tup [.c (.p (.lit (.slice none 0 0))), i64 6])) := by
 have hk := check14_c c hc
 refine acalls_by Tryz.func7 Tryz.ntmps7 ?_
 simp only [argFr]
 repeat' (first| (refine aw_T ?_ (hb := decide_eq_true h))| (show lOp; refine op0 (by (show kCall; exact b_call (hk))) ?_)| (show eRet; refine ret2 Tryz.results7 ?_)| (refine wS ?_)| fail)
 rfl
theorem ranks_way (c : Core) (hc : CoreIn c) (ps : List (List (Int × Int))) (R : List Info) (h : RulesIn c ps R) (h2 : TwoIn c ps) (hw : ∃ k : Nat, k < c.rules.length /\ at' (farM (toM c ps R) (k : Int)) (k : Int) ≠ 0) :
  ACalls Tryz.prog 7 [coreV c] [] (fun q _ => q = .ret (.tup [.c (.p (.lit (.slice none 0 0))), i64 110])) := by
 have hk := check14_c c hc
 rw [h.check] at hk
 have hal := all16_c c hc ps R h h2
 have hnr := h.nr
 have hlen := toM_len c ps R
 have hrow : ∀ k : Nat, k < (toM c ps R).length -> (at' (toM c ps R) (k : Int)).length = (toM c ps R).length := fun k hk => by
  rw [toM_at c ps R k (by omega), leadsM_len, hlen]
 generalize toM c ps R = T at hal hlen hrow hw
 refine acalls_by Tryz.func7 Tryz.ntmps7 ?_
 simp only [argFr]
 repeat' (first| (show lOp; refine op0 (by (show kCall; first | exact b_call (hk) | exact b_call (hal))) ?_)| (refine wS ?_)| fail)
 refine aw_roundsP (ι := Nat) 1 (fun _ => [.cells [.p (rulesP c.rules), .p (lI c.start)]]) (fun i n => [(4, .c (.p (.sl 1 (T.map encLB)))), (5, i64 (i : Int))]) (fun _ _ => []) (fun i => i <= c.rules.length /\ ∀ j : Nat, j < i -> at' (farM T (j : Int)) (j : Int) = 0) (fun i => c.rules.length - i) 0 1 (fun _ => rfl) ⟨by simp, fun j hj => absurd hj (by omega)⟩ (by omega) (by simp) rfl rfl (by simp [Fr.get]) ?_
 intro i n g h1 hg
 obtain ⟨h1, hz⟩ := h1
 have hg1 : 1 + g.length = n := by simp at hg; omega
 clear hg
 have hi : i < c.rules.length := by
  obtain ⟨k, k1, k2⟩ := hw
  rcases Nat.lt_or_ge k i with h | h
  ·exact absurd (hz k h) k2
  ·omega
 by_cases h0 : at' (farM T (i : Int)) (i : Int) = 0
 ·have hwn := way_none T i (by omega) hrow (by omega) (by omega) h0
  repeat' (first| (refine aw_T ?_ (hb := dT (show (i : Int) < T.length by omega)))| (refine aw_F ?_ (hb := dF (show ¬(0 : Int) > 0 by omega)))| (show lOp; refine op0 (by (show kCall; exact b_call (hwn))) ?_)| (refine wS ?_)| fail)
  exact ⟨i + 1, n, ⟨by omega, fun j hj => by
   by_cases e : j = i
   ·subst e; exact h0
   ·exact hz j (by omega)⟩, by omega, by simp; omega, rfl, dropGP (p := 1) (j := 0) hg1 rfl rfl, by simp [Fr.get], by omega⟩
 ·have hws := way_some T i (by omega) hrow (by omega) (by omega) h0
  have hwp := wayM_ne T i
  repeat' (first| (refine aw_T ?_ (hb := dT (show (i : Int) < T.length by omega)))| (refine aw_T ?_ (hb := dT (show ((wayM T (i : Int)).length : Int) > 0 by omega)))| (show lOp; refine op0 (by (show kCall; exact b_call (hws))) ?_)| (show eRet; refine ret2 Tryz.results7 ?_)| (refine wS ?_)| fail)
  rfl
end Go.AL
