/-
  Part 5 of the proof: what the functions that the law reaches come to.
-/
import Derived.Below
import Derived.ChangeKeysEq
import Derived.Deep.Draws
import Derived.KernelRfl
import Derived.Laws.CopyRow
import Derived.Laws.Cover3
import Derived.Laws.IdiomCopy
import Derived.Laws.IdiomStrings
import Derived.Laws.OwnMore
import Derived.Laws.Rows
import Derived.Laws.Small
import Derived.Laws.StructEq
import Derived.Lib.AppendZeros
import Derived.Maps.AppendAt
import Derived.Orders
import Derived.Shelf.LaysM
import Derived.Shelf.Strconv.Itoa0
import Derived.Shelf.Strconv.Itoa1
import Derived.Shelf.Strconv.Itoa2
import Derived.Shelf.Strconv.Itoa3
import Derived.StillTail
import Derived.Tactics
import Derived.Test.YtggclegkceimjaaDoorProg
import Derived.Test.YtggclegkceimjaaDoorPart4
set_option linter.all false
set_option linter.unusedVariables false
namespace Go.AL
open Go.Proofs
set_option maxRecDepth 10000
attribute [local irreducible] AWp AList RStep seqQ blockQ retQ DSteps DT awR rQ
section
variable {P : Program} {σ : List AObj} {fr : Fr} {d : Option Nat} {ty : TypeId} {pos : String} {aft : Array Edge} {g : Option (Nat × Bool)} {sz : Nat}
theorem b_indexLit {t e : TypeId} {by' : Nat} {x y : Operand} {l : List (List PV)} {k : IntKind} {n : Int} {el : List PV} [TSl P t e sz by'] (hx : ev fr x = .c (.p (.sl sz l)) := by exact rfl) (hy : ev fr y = .c (.p (.lit (.int k n))) := by exact rfl) (hel : l[n.toNat]? = some el := by rfl) (h0 : 0 ≤ n := by decide) : RStep P σ fr ⟨d, .indexAddr t x y, ty, pos, aft, g⟩ (.c (.p (.rp el))) := b_indexSl hel hx hy h0
end
theorem behind_c (e k : List Nd) (err : Int) (he : okE e) (hk : okE k) : ACalls Tryd.prog 39 [.c (.ptr 0 0), expr e, expr k] [.cells ((err1 err).map .p)] (fun r σ' => r = .ret (expr (putE 6 e k err).1) ∧ ∃ gb, σ' = .cells ((err1 (putE 6 e k err).2).map .p) :: gb) := by
  obtain ⟨e1, e2, e3, e4⟩ := he
  obtain ⟨k1, k2, k3, k4⟩ := hk
  have k3' : 0 ≤ (at' k ((k.length : Int) - 1)).n := k3
  have k4' : (at' k ((k.length : Int) - 1)).n + 1 ≤ k.length := k4
  have hc := (catE_ok (op := 6) ⟨e1, e2, e3, e4⟩ ⟨k1, k2, k3, k4⟩).2.1
  have key : ∀ rest n, rowE k 6 = (n, rest) → rest.length ≤ k.length → rowE k 6 = (n, rest) ∧ ACalls Tryd.prog 59 [.c (.ptr 0 0), expr (List.take (0 + e.length + rest.length + 1) (List.take (0 + e.length + rest.length) (List.take (0 + e.length) (List.take 0 [] ++ e) ++ rest) ++ [nd 6 (n + 1)]))] [.cells ((err1 err).map .p)] (fun r σ' => r = .ret (expr (putE 6 e k err).1) ∧ ∃ gb, σ' = .cells ((err1 (putE 6 e k err).2).map .p) :: gb) := fun rest n hr hl => by
    have e0 : List.take (0 + e.length + rest.length + 1) (List.take (0 + e.length + rest.length) (List.take (0 + e.length) (List.take 0 [] ++ e) ++ rest) ++ [nd 6 (n + 1)]) = catE 6 e k := by
      rw [catE, hr, if_neg (by decide)]
      have a1 : List.take (0 + e.length) (List.take 0 [] ++ e) = e := by simp
      rw [a1, List.take_of_length_le (show (e ++ rest).length ≤ 0 + e.length + rest.length by simp), List.take_of_length_le (by simp; omega)]
      rw [Int.add_comm n 1]
    rw [e0]
    exact ⟨hr, rgmade_c (catE 6 e k) err (by omega)⟩
  simp only [List.map]
  refine acalls_by Tryd.func39 Tryd.ntmps39 ?_
  simp only [argFr]
  repeat' (first
    | (show lBuildSlice; refine k_buildSl0 ?_)
    | (show lOp; refine op0 (by first | (show kAssign; exact b_assign) | (show kMove; exact b_move) | (show kCall; exact m_lenSl) | (show kLoad; exact b_loadRp) | (show kFieldaddr; exact b_fieldRp) | (show kIndexaddr; exact m_indexSl) | (show kBinopAdd; exact b_add) | (show kBinopSub; exact b_sub) | (show kBinopEql; exact b_eql) | (show kSlice; exact m_sliceSlH)) ?_)
    | (show lNil; refine al_nil ?_)
    | (show qSeq; refine n_seq ?_)
    | (show cReg; refine aw_reg ?_)
    | (show cSeq; refine aw_seq ?_)
    | (show cSkip; refine aw_skip ?_)
    | (show cIf; refine aw_ifD (fun h => ?_) (fun h => ?_)))
  · obtain ⟨hr, hm⟩ := key (k.take (k.length - 1)) (at' k ((k.length : Int) - 1)).n (by rw [rowE, if_pos h]) (by simp)
    have e5 : ((k.length : Int) - 1).toNat = k.length - 1 := by omega
    rw [← e5] at hm
    have hll : (k.take ((k.length : Int) - 1).toNat).length ≤ 4096 := by simp; omega
    repeat' (first
      | (show lAt 41; refine k_freezeM (f := encNd) 40 ?_)
      | (show lCall; first | refine k_appSl (f := encNd) (xs := []) (ys := e) ?_ | refine k_appSl (f := encNd) (ys := k.take ((k.length : Int) - 1).toNat) ?_ | refine k_app1 (f := encNd) (nd 6 ((at' k ((k.length : Int) - 1)).n + 1)) ?_ | refine k_callC hm ?_)
      | (show lOp; refine op0 (by first | (show kAssign; exact b_assign) | (show kMove; exact b_move) | (show kBuild; exact b_buildSt) | (show kBuildslice; exact b_buildSl1)) ?_)
      | (show lNil; refine al_nil ?_)
      | (show qSeq; refine n_seq ?_)
      | (show cRet; refine aw_ret ?_)
      | (show eRet; refine ret1 Tryd.results39 ?_))
    exact ⟨rfl, _, rfl⟩
  · have ht : (at' k ((k.length : Int) - 1)).op ≠ 6 := h
    obtain ⟨hr, hm⟩ := key k 1 (by rw [rowE, if_neg h]) (by simp)
    repeat' (first
      | (show lAt 41; refine k_freezeM (f := encNd) 40 ?_)
      | (show lCall; first | refine k_appSl (f := encNd) (xs := []) (ys := e) ?_ | refine k_appSl (f := encNd) (ys := k) ?_ | refine k_app1 (f := encNd) (nd 6 2) ?_ | refine k_callC hm ?_)
      | (show lOp; refine op0 (by first | (show kAssign; exact b_assign) | (show kMove; exact b_move) | (show kBuild; exact b_buildSt) | (show kBuildslice; exact b_buildSl1)) ?_)
      | (show lNil; refine al_nil ?_)
      | (show qSeq; refine n_seq ?_)
      | (show cRet; refine aw_ret ?_)
      | (show eRet; refine ret1 Tryd.results39 ?_))
    exact ⟨rfl, _, rfl⟩
theorem either_c (a b : List Nd) (err : Int) (ha : okE a) (hb : okE b) : ACalls Tryd.prog 43 [.c (.ptr 0 0), expr a, expr b] [.cells ((err1 err).map .p)] (fun r σ' => r = .ret (expr (putE 7 a b err).1) ∧ ∃ gb, σ' = .cells ((err1 (putE 7 a b err).2).map .p) :: gb) := by
  have hc := (catE_ok (op := 7) ha hb).2.1
  obtain ⟨a1, a2, a3, a4⟩ := ha
  obtain ⟨b1, b2, b3, b4⟩ := hb
  have a3' : 0 ≤ (at' a ((a.length : Int) - 1)).n := a3
  have a4' : (at' a ((a.length : Int) - 1)).n + 1 ≤ a.length := a4
  have b3' : 0 ≤ (at' b ((b.length : Int) - 1)).n := b3
  have b4' : (at' b ((b.length : Int) - 1)).n + 1 ≤ b.length := b4
  simp only [List.map]
  refine acalls_by Tryd.func43 Tryd.ntmps43 ?_
  simp only [argFr]
  repeat' (first
    | (show lOp; refine op0 (by first | (show kAssign; exact b_assign) | (show kMove; exact b_move) | (show kBuildslice; exact b_buildSl2)) ?_)
    | (show lNil; refine al_nil ?_)
    | (show qSeq; refine n_seq ?_)
    | (show cReg; refine aw_reg ?_)
    | (show cSeq; refine aw_seq ?_)
    | (show cBlk; refine aw_block ?_))
  refine kw_own 8 58 10 ?_
  have key : ∀ u n v m, rowE a 7 = (n, u) → rowE b 7 = (m, v) → u.length ≤ a.length → v.length ≤ b.length → ACalls Tryd.prog 59 [.c (.ptr 0 0), expr (List.take (0 + u.length + v.length + 1) (List.take (0 + u.length + v.length) (List.take (0 + u.length) (List.take 0 [] ++ u) ++ v) ++ [nd 7 (0 + n + m)]))] [.cells ((err1 err).map .p)] (fun r σ' => r = .ret (expr (putE 7 a b err).1) ∧ ∃ gb, σ' = .cells ((err1 (putE 7 a b err).2).map .p) :: gb) := fun u n v m hu hv h1 h2 => by
    have e0 : List.take (0 + u.length + v.length + 1) (List.take (0 + u.length + v.length) (List.take (0 + u.length) (List.take 0 [] ++ u) ++ v) ++ [nd 7 (0 + n + m)]) = catE 7 a b := by
      rw [catE, hv, if_pos rfl, hu]
      have a1 : List.take (0 + u.length) (List.take 0 [] ++ u) = u := by simp
      rw [a1, List.take_of_length_le (show (u ++ v).length ≤ 0 + u.length + v.length by simp), List.take_of_length_le (by simp; omega)]
      rw [Int.zero_add]
    rw [e0]
    exact rgmade_c (catE 7 a b) err (by omega)
  have l1 : (a.take ((a.length : Int) - 1).toNat).length ≤ a.length := by simp
  have l2 : (b.take ((b.length : Int) - 1).toNat).length ≤ b.length := by simp
  have ea : ((a.length : Int) - 1).toNat = a.length - 1 := by omega
  have eb : ((b.length : Int) - 1).toNat = b.length - 1 := by omega
  have ra : (at' a ((a.length : Int) - 1)).op = 7 → rowE a 7 = ((at' a ((a.length : Int) - 1)).n, a.take ((a.length : Int) - 1).toNat) := fun h => by rw [rowE, if_pos h, ea]
  have rb : (at' b ((b.length : Int) - 1)).op = 7 → rowE b 7 = ((at' b ((b.length : Int) - 1)).n, b.take ((b.length : Int) - 1).toNat) := fun h => by rw [rowE, if_pos h, eb]
  have ra' : ¬ (at' a ((a.length : Int) - 1)).op = 7 → rowE a 7 = (1, a) := fun h => by rw [rowE, if_neg h]
  have rb' : ¬ (at' b ((b.length : Int) - 1)).op = 7 → rowE b 7 = (1, b) := fun h => by rw [rowE, if_neg h]
  by_cases hta : (at' a ((a.length : Int) - 1)).op = 7
  · by_cases htb : (at' b ((b.length : Int) - 1)).op = 7
    · have hm := key _ _ _ _ (ra hta) (rb htb) l1 l2
      repeat' (first
        | (show lAt 58; refine k_freezeM (f := encNd) 57 ?_)
        | (show lCall; first | refine k_appSl (f := encNd) (xs := []) ?_ | refine k_appSl (f := encNd) ?_ | refine k_app1 (f := encNd) (nd 7 _) ?_ | refine k_callC hm ?_)
        | (show lOp; refine op0 (by first | (show kAssign; exact b_assign) | (show kMove; exact b_move) | (show kCall; exact m_lenSl) | (show kLoad; exact b_loadRp) | (show kFieldaddr; exact b_fieldRp) | (show kIndexaddr; first | exact b_indexLit | exact m_indexSl) | (show kBinopAdd; exact b_add) | (show kBinopSub; exact b_sub) | (show kBinopEql; exact b_eql) | (show kBinopLss; exact b_lss) | (show kSlice; exact m_sliceSlH) | (show kBuild; exact b_buildSt) | (show kBuildslice; exact b_buildSl1)) ?_)
        | (show lNil; refine al_nil ?_)
        | (show qSeq; first | refine n_seq ?_ | refine x_seq ?_)
        | (show qBlk; first | refine n_block ?_ | refine x_eq ?_)
        | (show rRnd; refine r_succ ?_)
        | (show rRq; first | refine rq_normal ?_ | refine rq_exit ?_)
        | (show cLoop; refine aw_unroll 3 ?_)
        | (show cReg; refine aw_reg ?_)
        | (show cSeq; refine aw_seq ?_)
        | (show cBlk; refine aw_block ?_)
        | (show cSkip; refine aw_skip ?_)
        | (show cExit; refine aw_exit ?_)
        | (show cRet; refine aw_ret ?_)
        | (show cIf; first | refine aw_T ?_ | refine aw_F ?_)
        | (show eRet; refine ret1 Tryd.results43 ?_))
      exact ⟨rfl, _, rfl⟩
    · have hm := key _ _ _ _ (ra hta) (rb' htb) l1 (Nat.le_refl _)
      repeat' (first
        | (show lAt 58; refine k_freezeM (f := encNd) 57 ?_)
        | (show lCall; first | refine k_appSl (f := encNd) (xs := []) ?_ | refine k_appSl (f := encNd) ?_ | refine k_app1 (f := encNd) (nd 7 _) ?_ | refine k_callC hm ?_)
        | (show lOp; refine op0 (by first | (show kAssign; exact b_assign) | (show kMove; exact b_move) | (show kCall; exact m_lenSl) | (show kLoad; exact b_loadRp) | (show kFieldaddr; exact b_fieldRp) | (show kIndexaddr; first | exact b_indexLit | exact m_indexSl) | (show kBinopAdd; exact b_add) | (show kBinopSub; exact b_sub) | (show kBinopEql; exact b_eql) | (show kBinopLss; exact b_lss) | (show kSlice; exact m_sliceSlH) | (show kBuild; exact b_buildSt) | (show kBuildslice; exact b_buildSl1)) ?_)
        | (show lNil; refine al_nil ?_)
        | (show qSeq; first | refine n_seq ?_ | refine x_seq ?_)
        | (show qBlk; first | refine n_block ?_ | refine x_eq ?_)
        | (show rRnd; refine r_succ ?_)
        | (show rRq; first | refine rq_normal ?_ | refine rq_exit ?_)
        | (show cLoop; refine aw_unroll 3 ?_)
        | (show cReg; refine aw_reg ?_)
        | (show cSeq; refine aw_seq ?_)
        | (show cBlk; refine aw_block ?_)
        | (show cSkip; refine aw_skip ?_)
        | (show cExit; refine aw_exit ?_)
        | (show cRet; refine aw_ret ?_)
        | (show cIf; first | refine aw_T ?_ | refine aw_F ?_)
        | (show eRet; refine ret1 Tryd.results43 ?_))
      exact ⟨rfl, _, rfl⟩
  · by_cases htb : (at' b ((b.length : Int) - 1)).op = 7
    · have hm := key _ _ _ _ (ra' hta) (rb htb) (Nat.le_refl _) l2
      repeat' (first
        | (show lAt 58; refine k_freezeM (f := encNd) 57 ?_)
        | (show lCall; first | refine k_appSl (f := encNd) (xs := []) ?_ | refine k_appSl (f := encNd) ?_ | refine k_app1 (f := encNd) (nd 7 _) ?_ | refine k_callC hm ?_)
        | (show lOp; refine op0 (by first | (show kAssign; exact b_assign) | (show kMove; exact b_move) | (show kCall; exact m_lenSl) | (show kLoad; exact b_loadRp) | (show kFieldaddr; exact b_fieldRp) | (show kIndexaddr; first | exact b_indexLit | exact m_indexSl) | (show kBinopAdd; exact b_add) | (show kBinopSub; exact b_sub) | (show kBinopEql; exact b_eql) | (show kBinopLss; exact b_lss) | (show kSlice; exact m_sliceSlH) | (show kBuild; exact b_buildSt) | (show kBuildslice; exact b_buildSl1)) ?_)
        | (show lNil; refine al_nil ?_)
        | (show qSeq; first | refine n_seq ?_ | refine x_seq ?_)
        | (show qBlk; first | refine n_block ?_ | refine x_eq ?_)
        | (show rRnd; refine r_succ ?_)
        | (show rRq; first | refine rq_normal ?_ | refine rq_exit ?_)
        | (show cLoop; refine aw_unroll 3 ?_)
        | (show cReg; refine aw_reg ?_)
        | (show cSeq; refine aw_seq ?_)
        | (show cBlk; refine aw_block ?_)
        | (show cSkip; refine aw_skip ?_)
        | (show cExit; refine aw_exit ?_)
        | (show cRet; refine aw_ret ?_)
        | (show cIf; first | refine aw_T ?_ | refine aw_F ?_)
        | (show eRet; refine ret1 Tryd.results43 ?_))
      exact ⟨rfl, _, rfl⟩
    · have hm := key _ _ _ _ (ra' hta) (rb' htb) (Nat.le_refl _) (Nat.le_refl _)
      repeat' (first
        | (show lAt 58; refine k_freezeM (f := encNd) 57 ?_)
        | (show lCall; first | refine k_appSl (f := encNd) (xs := []) ?_ | refine k_appSl (f := encNd) ?_ | refine k_app1 (f := encNd) (nd 7 _) ?_ | refine k_callC hm ?_)
        | (show lOp; refine op0 (by first | (show kAssign; exact b_assign) | (show kMove; exact b_move) | (show kCall; exact m_lenSl) | (show kLoad; exact b_loadRp) | (show kFieldaddr; exact b_fieldRp) | (show kIndexaddr; first | exact b_indexLit | exact m_indexSl) | (show kBinopAdd; exact b_add) | (show kBinopSub; exact b_sub) | (show kBinopEql; exact b_eql) | (show kBinopLss; exact b_lss) | (show kBuild; exact b_buildSt) | (show kBuildslice; exact b_buildSl1)) ?_)
        | (show lNil; refine al_nil ?_)
        | (show qSeq; first | refine n_seq ?_ | refine x_seq ?_)
        | (show qBlk; first | refine n_block ?_ | refine x_eq ?_)
        | (show rRnd; refine r_succ ?_)
        | (show rRq; first | refine rq_normal ?_ | refine rq_exit ?_)
        | (show cLoop; refine aw_unroll 3 ?_)
        | (show cReg; refine aw_reg ?_)
        | (show cSeq; refine aw_seq ?_)
        | (show cBlk; refine aw_block ?_)
        | (show cSkip; refine aw_skip ?_)
        | (show cExit; refine aw_exit ?_)
        | (show cRet; refine aw_ret ?_)
        | (show cIf; first | refine aw_T ?_ | refine aw_F ?_)
        | (show eRet; refine ret1 Tryd.results43 ?_))
      exact ⟨rfl, _, rfl⟩
end Go.AL
set_option linter.unusedVariables false
namespace Go.AL
open Go.Proofs
set_option maxRecDepth 10000
attribute [local irreducible] AWp AList RStep seqQ blockQ retQ DSteps DT awR rQ
/-- What the reference's builder is, in memory. -/
abbrev gsσ (s : GS) : List AObj := [.cells (bC (err1 s.err) 1 s.rules.length []), .arr 52 3 (s.rules.map encRl)]
abbrev gsR (r : AV) (s : GS) : CE → List AObj → Prop := fun x σ' => x = .ret r ∧ BEnd [] 1 (err1 s.err) s.rules.length [] 52 3 (s.rules.map encRl) σ'
set_option maxHeartbeats 4000000 in
theorem rway_c (t : T) (k : List Nd) (s : GS) : t.size ≤ 4096 → okE k → s.ok → ACalls Tryd.prog 19 [.c (.ptr 0 0), pat t.enc, expr k] (gsσ s) (gsR (expr (wayR t k s).1) (wayR t k s).2) := by
  induction t, k, s using wayR.induct with
  | case1 t k s he =>
    intro ht hk hs
    rw [wayR.eq_def, if_pos he]
    have hp := t.size_pos
    refine acalls_by Tryd.func19 Tryd.ntmps19 ?_
    simp only [argFr]
    refine aw_gen1 (fun g M hM => ?_)
    repeat' (first
      | (show lOp; refine op0 (by first | (show kAssign; exact b_assign) | (show kMove; exact b_move) | (show kLoad; exact b_loadPtr) | (show kFieldaddr; exact b_fieldPtr) | (show kBinopNeq; exact b_neq) | (show kNilcheck; exact b_nilPtr) | (show kBuild; exact b_buildSt) | (show kBuildslice; exact b_buildSl1)) ?_)
      | (show lNil; refine al_nil ?_)
      | (show qSeq; first | refine n_seq ?_ | refine p_seq ?_)
      | (show cReg; refine aw_reg ?_)
      | (show cSeq; refine aw_seq ?_)
      | (show cRet; refine aw_ret ?_)
      | (show cIf; refine aw_T ?_)
      | (show eRet; refine ret1 Tryd.results19 ?_))
    exact ⟨rfl, g, M, hM, rfl⟩
  | case2 k s he =>
    intro ht hk hs
    rw [wayR, if_neg he]
    have hl1 : T.emp.enc.length = 1 := rfl
    have htop : (at' T.emp.enc ((T.emp.enc.length : Int) - 1)).op = 1 := T.top _
    refine acalls_by Tryd.func19 Tryd.ntmps19 ?_
    simp only [argFr]
    refine aw_gen1 (fun g M hM => ?_)
    repeat' (first
      | (show lOp; refine op0 (by first | (show kAssign; exact b_assign) | (show kMove; exact b_move) | (show kCall; exact m_lenSl) | (show kLoad; first | exact b_loadRp | exact b_loadPtr) | (show kFieldaddr; first | exact b_fieldRp | exact b_fieldPtr) | (show kIndexaddr; exact m_indexSl) | (show kBinopSub; exact b_sub) | (show kBinopEql; exact b_eql) | (show kBinopNeq; exact b_neq) | (show kNilcheck; exact b_nilPtr)) ?_)
      | (show lNil; refine al_nil ?_)
      | (show qSeq; first | refine n_seq ?_ | refine p_seq ?_)
      | (show qBlk; refine p_block ?_)
      | (show cReg; refine aw_reg ?_)
      | (show cSeq; refine aw_seq ?_)
      | (show cBlk; refine aw_block ?_)
      | (show cSkip; refine aw_skip ?_)
      | (show cRet; refine aw_ret ?_)
      | (show cIf; first | refine aw_T ?_ | refine aw_F ?_)
      | (show eRet; refine ret1 Tryd.results19 ?_))
    exact ⟨rfl, g, M, hM, rfl⟩
  | case3 k s he =>
    intro ht hk hs
    rw [wayR, if_neg he]
    have hl1 : T.none.enc.length = 1 := rfl
    have htop : (at' T.none.enc ((T.none.enc.length : Int) - 1)).op = 0 := T.top _
    refine acalls_by Tryd.func19 Tryd.ntmps19 ?_
    simp only [argFr]
    refine aw_gen1 (fun g M hM => ?_)
    repeat' (first
      | (show lOp; refine op0 (by first | (show kAssign; exact b_assign) | (show kMove; exact b_move) | (show kCall; exact m_lenSl) | (show kLoad; first | exact b_loadRp | exact b_loadPtr) | (show kFieldaddr; first | exact b_fieldRp | exact b_fieldPtr) | (show kIndexaddr; exact m_indexSl) | (show kBinopSub; exact b_sub) | (show kBinopEql; exact b_eql) | (show kBinopNeq; exact b_neq) | (show kNilcheck; exact b_nilPtr) | (show kBuild; exact b_buildSt) | (show kBuildslice; exact b_buildSl1)) ?_)
      | (show lNil; refine al_nil ?_)
      | (show qSeq; refine n_seq ?_)
      | (show qBlk; refine n_block ?_)
      | (show cReg; refine aw_reg ?_)
      | (show cSeq; refine aw_seq ?_)
      | (show cBlk; refine aw_block ?_)
      | (show cSkip; refine aw_skip ?_)
      | (show cRet; refine aw_ret ?_)
      | (show cIf; refine aw_F ?_)
      | (show eRet; refine ret1 Tryd.results19 ?_))
    exact ⟨rfl, g, M, hM, rfl⟩
  | case4 k s he c =>
    intro ht hk hs
    rw [wayR, if_neg he]
    have hl1 : (T.cls c).enc.length = 1 := rfl
    have htop : at' (T.cls c).enc (((T.cls c).enc.length : Int) - 1) = ⟨2, c⟩ := T.top_class _
    have htop2 : (at' (T.cls c).enc (((T.cls c).enc.length : Int) - 1)).op = 2 := T.top _
    have hb := behind_c [⟨2, 0, ⟨#[]⟩, c⟩] k s.err (okE_one _ rfl) hk
    refine acalls_by Tryd.func19 Tryd.ntmps19 ?_
    simp only [argFr]
    refine aw_gen1 (fun g M hM => ?_)
    repeat' (first
      | (show lCall; refine k_callC hb ?_)
      | (show lOp; refine op0 (by first | (show kAssign; exact b_assign) | (show kMove; exact b_move) | (show kCall; exact m_lenSl) | (show kLoad; first | exact b_loadRp | exact b_loadPtr) | (show kFieldaddr; first | exact b_fieldRp | exact b_fieldPtr) | (show kIndexaddr; exact m_indexSl) | (show kBinopSub; exact b_sub) | (show kBinopEql; exact b_eql) | (show kBinopNeq; exact b_neq) | (show kNilcheck; exact b_nilPtr) | (show kBuild; exact b_buildSt) | (show kBuildslice; exact b_buildSl1)) ?_)
      | (show lNil; refine al_nil ?_)
      | (show qSeq; first | refine n_seq ?_ | refine p_seq ?_)
      | (show qBlk; refine p_block ?_)
      | (show cReg; refine aw_reg ?_)
      | (show cSeq; refine aw_seq ?_)
      | (show cBlk; refine aw_block ?_)
      | (show cSkip; refine aw_skip ?_)
      | (show cRet; refine aw_ret ?_)
      | (show cIf; first | refine aw_T ?_ | refine aw_F ?_)
      | (show eRet; refine ret1 Tryd.results19 ?_))
    exact ⟨rfl, g, M, hM, rfl⟩
  | case5 k s he x y ih1 ih2 =>
    intro ht hk hs
    have hsz := T.size_seq x y
    have hp := (T.seq x y).size_pos
    have hsz' : (T.seq x y).enc.length = (T.seq x y).size := rfl
    have htop : (at' (T.seq x y).enc (((T.seq x y).enc.length : Int) - 1)).op = 3 := T.top _
    have hsp := rsplit_seq x y (by omega)
    have h1 := ih1 (by omega) hk hs
    have h2 := ih2 (by omega) (wayR_ok _ _ _ hk) (wayR_G _ _ _ hs).1
    rw [wayR, if_neg he]
    refine acalls_by Tryd.func19 Tryd.ntmps19 ?_
    simp only [argFr]
    refine aw_gen1 (fun g M hM => ?_)
    repeat' (first
      | (show lCall; first | refine k_callB1 h1 (by assumption) (fun g1 M1 hM1 => ?_) | refine k_callB1 h2 (by assumption) (fun g2 M2 hM2 => ?_))
      | (show lOp; refine op0 (by first | (show kAssign; exact b_assign) | (show kMove; exact b_move) | (show kCall; first | exact b_call (hsp) | exact m_lenSl) | (show kLoad; first | exact b_loadRp | exact b_loadPtr) | (show kFieldaddr; first | exact b_fieldRp | exact b_fieldPtr) | (show kIndexaddr; exact m_indexSl) | (show kBinopSub; exact b_sub) | (show kBinopEql; exact b_eql) | (show kBinopNeq; exact b_neq) | (show kNilcheck; exact b_nilPtr) | (show kExtract; exact b_extract) | (show kBuild; exact b_buildSt) | (show kBuildslice; exact b_buildSl1)) ?_)
      | (show lNil; refine al_nil ?_)
      | (show qSeq; first | refine n_seq ?_ | refine p_seq ?_)
      | (show qBlk; refine p_block ?_)
      | (show cReg; refine aw_reg ?_)
      | (show cSeq; refine aw_seq ?_)
      | (show cBlk; refine aw_block ?_)
      | (show cSkip; refine aw_skip ?_)
      | (show cRet; refine aw_ret ?_)
      | (show cIf; first | refine aw_T ?_ | refine aw_F ?_ | refine aw_ifD (fun h => ?_) (fun h => ?_))
      | (show eRet; refine ret1 Tryd.results19 ?_)
      | (exfalso; omega))
    exact ⟨rfl, g2, M2, hM2, rfl⟩
  | case6 k s he x y p a ih1 ih2 ih3 =>
    intro ht hk hs
    have hsz := T.size_alt x y
    have hp := (T.alt x y).size_pos
    have hsz' : (T.alt x y).enc.length = (T.alt x y).size := rfl
    have htop : (at' (T.alt x y).enc (((T.alt x y).enc.length : Int) - 1)).op = 4 := T.top _
    have hsp := rsplit_alt x y (by omega)
    have hko := sharedR_ok (s := s) hk
    have hsg := (sharedR_G (k := k) hs (by omega)).1
    have h1 : ACalls _ _ _ _ _ := ih1 (by omega) hko hsg
    have h2 : ACalls _ _ _ _ _ := ih3 (by omega) hko (wayR_G _ _ _ hsg).1
    have h3 := either_c (wayR x (s.sharedR k).1 (s.sharedR k).2).1 (wayR y (s.sharedR k).1 (wayR x (s.sharedR k).1 (s.sharedR k).2).2).1 (wayR y (s.sharedR k).1 (wayR x (s.sharedR k).1 (s.sharedR k).2).2).2.err (wayR_ok _ _ _ hko) (wayR_ok _ _ _ hko)
    have hk1 := hk.1
    have hk2 := hk.2.1
    change ACalls Tryd.prog 19 [.c (.ptr 0 0), pat x.enc, expr (s.sharedR k).1] (gsσ (s.sharedR k).2) (gsR (expr (wayR x (s.sharedR k).1 (s.sharedR k).2).1) (wayR x (s.sharedR k).1 (s.sharedR k).2).2) at h1
    change ACalls Tryd.prog 19 [.c (.ptr 0 0), pat y.enc, expr (s.sharedR k).1] (gsσ (wayR x (s.sharedR k).1 (s.sharedR k).2).2) (gsR (expr (wayR y (s.sharedR k).1 (wayR x (s.sharedR k).1 (s.sharedR k).2).2).1) (wayR y (s.sharedR k).1 (wayR x (s.sharedR k).1 (s.sharedR k).2).2).2) at h2
    rw [wayR, if_neg he]
    show ACalls Tryd.prog 19 _ _ (gsR (expr ((wayR y (s.sharedR k).1 (wayR x (s.sharedR k).1 (s.sharedR k).2).2).2.put 7 (wayR x (s.sharedR k).1 (s.sharedR k).2).1 (wayR y (s.sharedR k).1 (wayR x (s.sharedR k).1 (s.sharedR k).2).2).1).1) ((wayR y (s.sharedR k).1 (wayR x (s.sharedR k).1 (s.sharedR k).2).2).2.put 7 (wayR x (s.sharedR k).1 (s.sharedR k).2).1 (wayR y (s.sharedR k).1 (wayR x (s.sharedR k).1 (s.sharedR k).2).2).1).2)
    by_cases hk4 : (at' k ((k.length : Int) - 1)).op = 4
    · have e : s.sharedR k = (k, s) := by rw [GS.sharedR, if_pos hk4]
      rw [e] at h1 h2 h3 ⊢
      dsimp only at h1 h2 h3 ⊢
      refine acalls_by Tryd.func19 Tryd.ntmps19 ?_
      simp only [argFr]
      refine aw_gen1 (fun g M hM => ?_)
      repeat' (first
        | (show lCall; first | refine k_callB1 h1 (by assumption) (fun g1 M1 hM1 => ?_) | refine k_callB1 h2 (by assumption) (fun g2 M2 hM2 => ?_) | refine k_callC h3 ?_)
        | (show lOp; refine op0 (by first | (show kAssign; exact b_assign) | (show kMove; exact b_move) | (show kCall; first | exact b_call (hsp) | exact m_lenSl) | (show kLoad; first | exact b_loadRp | exact b_loadPtr) | (show kFieldaddr; first | exact b_fieldRp | exact b_fieldPtr) | (show kIndexaddr; exact m_indexSl) | (show kBinopSub; exact b_sub) | (show kBinopEql; exact b_eql) | (show kBinopNeq; exact b_neq) | (show kNilcheck; exact b_nilPtr) | (show kExtract; exact b_extract) | (show kBuild; exact b_buildSt) | (show kBuildslice; exact b_buildSl1)) ?_)
        | (show lNil; refine al_nil ?_)
        | (show qSeq; first | refine n_seq ?_ | refine p_seq ?_)
        | (show qBlk; refine p_block ?_)
        | (show cReg; refine aw_reg ?_)
        | (show cSeq; refine aw_seq ?_)
        | (show cBlk; refine aw_block ?_)
        | (show cSkip; refine aw_skip ?_)
        | (show cRet; refine aw_ret ?_)
        | (show cIf; first | refine aw_T ?_ | refine aw_F ?_ | refine aw_ifD (fun h => ?_) (fun h => ?_))
        | (show eRet; refine ret1 Tryd.results19 ?_)
        | (exfalso; omega))
      exact ⟨rfl, g2, M2, hM2, rfl⟩
    · have e : s.sharedR k = (askE (s.begunR.2.setBody s.begunR.1 k) s.begunR.1, s.begunR.2.setBody s.begunR.1 k) := by rw [GS.sharedR, if_neg hk4]
      rw [e] at h1 h2 h3 ⊢
      dsimp only at h1 h2 h3 ⊢
      have hbl : s.rules.length ≤ 256 := hs.1 (by omega)
      have hb := rbegun_c s (by omega)
      have hbr := begunR_len s
      have hask := asked_c s.begunR.2.err s.lg (s.begunR.2.setBody s.begunR.1 k).rules s.begunR.1 (by omega) (by rw [setBody_len, hbr]; simp only [GS.begunR]; omega)
      rw [setBody_len] at hask
      simp only [gsσ] at h1
      rw [setBody_len] at h1
      refine acalls_by Tryd.func19 Tryd.ntmps19 ?_
      simp only [argFr]
      refine aw_gen1 (fun g M hM => ?_)
      have hbl2 : s.begunR.2.rules.length = s.rules.length + 1 := hbr
      have hb1 : s.begunR.1 = s.rules.length := rfl
      repeat' (first
        | (show lStore; refine k_storePart (f := encRl) (⟨(at' s.begunR.2.rules (s.begunR.1 : Int)).name, k⟩ : Rl) ?_)
        | (show lCall; first | refine k_callB1 hb (by assumption) (fun g0 M0 hM0 => ?_) | refine k_callB1 hask (by assumption) (fun g3 M3 hM3 => ?_) | refine k_callB1 h1 (by assumption) (fun g1 M1 hM1 => ?_) | refine k_callB1 h2 (by assumption) (fun g2 M2 hM2 => ?_) | refine k_callC h3 ?_)
        | (show lOp; refine op0 (by first | (show kAssign; exact b_assign) | (show kMove; exact b_move) | (show kCall; first | exact b_call (hsp) | exact m_lenSl) | (show kLoad; first | exact b_loadRp | exact b_loadPtr) | (show kFieldaddr; first | exact b_fieldRp | exact b_fieldPtr | exact b_fieldEpt) | (show kIndexaddr; first | exact m_indexSl | exact m_indexMs) | (show kBinopSub; exact b_sub) | (show kBinopEql; exact b_eql) | (show kBinopNeq; exact b_neq) | (show kNilcheck; exact b_nilPtr) | (show kExtract; exact b_extract) | (show kBuild; exact b_buildSt) | (show kBuildslice; exact b_buildSl1)) ?_)
        | (show lNil; refine al_nil ?_)
        | (show qSeq; first | refine n_seq ?_ | refine p_seq ?_)
        | (show qBlk; refine p_block ?_)
        | (show cReg; refine aw_reg ?_)
        | (show cSeq; refine aw_seq ?_)
        | (show cBlk; refine aw_block ?_)
        | (show cSkip; refine aw_skip ?_)
        | (show cRet; refine aw_ret ?_)
        | (show cIf; first | refine aw_T ?_ | refine aw_F ?_ | refine aw_ifD (fun h => ?_) (fun h => ?_))
        | (show eRet; refine ret1 Tryd.results19 ?_)
        | (exfalso; omega))
      exact ⟨rfl, g2, M2, hM2, rfl⟩
  | case7 k s he a hl =>
    intro ht hk hs
    have hsz := T.size_star a
    have hp := (T.star a).size_pos
    have hsz' : (T.star a).enc.length = a.size + 1 := hsz
    have htop : (at' (T.star a).enc (((T.star a).enc.length : Int) - 1)).op = 5 := T.top _
    have e1 : (T.star a).enc.take (((T.star a).enc.length : Int) - 1).toNat = a.enc := by
      have : (((T.star a).enc.length : Int) - 1).toNat = a.enc.length := by simp [T.enc]
      rw [this]; simp [T.enc]
    obtain ⟨err, lg, rules⟩ := s
    have he0 : err = 0 := by simpa using he
    subst he0
    have hleft := rleft_c a false (by omega)
    rw [← e1] at hleft
    rw [hl] at hleft
    rw [wayR, if_neg he]; simp only; rw [if_pos hl]
    refine acalls_by Tryd.func19 Tryd.ntmps19 ?_
    simp only [argFr]
    refine aw_gen1 (fun g M hM => ?_)
    repeat' (first
      | (show cAtD 20; refine' aw_dt 9 8 _ Tryd_mixed _)
      | (show lOp; refine op0 (by first | (show kAssign; exact b_assign) | (show kMove; exact b_move) | (show kCall; exact m_lenSl) | (show kLoad; first | exact b_loadRp | exact b_loadPtr) | (show kFieldaddr; first | exact b_fieldRp | exact b_fieldPtr) | (show kIndexaddr; exact m_indexSl) | (show kBinopSub; exact b_sub) | (show kBinopEql; exact b_eql) | (show kBinopNeq; exact b_neq) | (show kPick; exact b_pickT) | (show kNilcheck; exact b_nilPtr) | (show kBuild; exact b_buildSt) | (show kBuildslice; exact b_buildSl1)) ?_)
      | (show lGu; refine al_none ?_)
      | (show lNil; refine al_nil ?_)
      | (show qSeq; first | refine n_seq ?_ | refine p_seq ?_)
      | (show qBlk; refine p_block ?_)
      | (show cReg; refine aw_reg ?_)
      | (show cSeq; refine aw_seq ?_)
      | (show cBlk; refine aw_block ?_)
      | (show cSkip; refine aw_skip ?_)
      | (show cRet; refine aw_ret ?_)
      | (show cIf; first | refine aw_T ?_ | refine aw_F ?_ | refine aw_ifD (fun h => ?_) (fun h => ?_))
      | (show tNil; refine dt_nil ?_)
      | (show tSome; first | refine dt_turn (by exact t_callC hleft) ?_ | (refine dt_pre (by first | (show kMove; exact b_move) | (show kCall; exact m_lenSl) | (show kFieldaddr; exact b_fieldPtr) | (show kBinopSub; exact b_sub) | (show kNilcheck; exact b_nilPtr) | (show kSlice; exact m_sliceSlH)) (by decide +kernel) ?_))
      | (show eRet; refine ret1 Tryd.results19 ?_)
      | (exfalso; omega))
    exact ⟨rfl, g, M, hM, rfl⟩
  | case8 k s he a hl h0 =>
    intro ht hk hs
    have hsz := T.size_star a
    have hp := (T.star a).size_pos
    have hsz' : (T.star a).enc.length = a.size + 1 := hsz
    have htop : (at' (T.star a).enc (((T.star a).enc.length : Int) - 1)).op = 5 := T.top _
    have e1 : (T.star a).enc.take (((T.star a).enc.length : Int) - 1).toNat = a.enc := by
      have : (((T.star a).enc.length : Int) - 1).toNat = a.enc.length := by simp [T.enc]
      rw [this]; simp [T.enc]
    obtain ⟨err, lg, rules⟩ := s
    have he0 : err = 0 := by simpa using he
    subst he0
    have hleft := rleft_c a false (by omega)
    rw [← e1] at hleft
    have hl' : (leftT a false).2 = false := by simpa using hl
    have his := is_c (leftT a false).1 0 (by have := leftT_size a false (by omega); omega)
    rw [hl'] at hleft
    rw [wayR, if_neg he]; simp only; rw [if_neg hl, if_pos h0]
    refine acalls_by Tryd.func19 Tryd.ntmps19 ?_
    simp only [argFr]
    refine aw_gen1 (fun g M hM => ?_)
    repeat' (first
      | (show cAtD 20; refine' aw_dt 9 8 _ Tryd_mixed _)
      | (show lOp; refine op0 (by first | (show kAssign; exact b_assign) | (show kMove; exact b_move) | (show kCall; first | exact b_call (his) | exact m_lenSl) | (show kLoad; first | exact b_loadRp | exact b_loadPtr) | (show kFieldaddr; first | exact b_fieldRp | exact b_fieldPtr) | (show kIndexaddr; exact m_indexSl) | (show kBinopSub; exact b_sub) | (show kBinopEql; exact b_eql) | (show kBinopNeq; exact b_neq) | (show kPick; exact b_pickF) | (show kNilcheck; exact b_nilPtr) | (show kBuild; exact b_buildSt) | (show kBuildslice; exact b_buildSl1)) ?_)
      | (show lGu; refine al_yes ?_)
      | (show lNil; refine al_nil ?_)
      | (show qSeq; first | refine n_seq ?_ | refine p_seq ?_)
      | (show qBlk; refine p_block ?_)
      | (show cReg; refine aw_reg ?_)
      | (show cSeq; refine aw_seq ?_)
      | (show cBlk; refine aw_block ?_)
      | (show cSkip; refine aw_skip ?_)
      | (show cRet; refine aw_ret ?_)
      | (show cIf; first | refine aw_T ?_ | refine aw_F ?_ | refine aw_ifD (fun h => ?_) (fun h => ?_))
      | (show tNil; refine dt_nil ?_)
      | (show tSome; first | refine dt_turn (by exact t_callC hleft) ?_ | (refine dt_pre (by first | (show kMove; exact b_move) | (show kCall; exact m_lenSl) | (show kFieldaddr; exact b_fieldPtr) | (show kBinopSub; exact b_sub) | (show kNilcheck; exact b_nilPtr) | (show kSlice; exact m_sliceSlH)) (by decide +kernel) ?_))
      | (show eRet; refine ret1 Tryd.results19 ?_)
      | (exfalso; omega))
    exact ⟨rfl, g, M, hM, rfl⟩
  | case9 k s he a hl h0 ih =>
    intro ht hk hs
    have ih' : ACalls _ _ _ _ _ := ih (leftT_size a false (by rw [T.size_star] at ht; omega)) (ask_ok _ _) (begunR_G hs (by omega))
    have hwok := wayR_ok (leftT a false).1 (askE s.begunR.2 s.begunR.1) s.begunR.2 (ask_ok _ _)
    have hwG := wayR_G (leftT a false).1 (askE s.begunR.2 s.begunR.1) s.begunR.2 (begunR_G hs (by omega))
    have hei := either_c (wayR (leftT a false).1 (askE s.begunR.2 s.begunR.1) s.begunR.2).1 k (wayR (leftT a false).1 (askE s.begunR.2 s.begunR.1) s.begunR.2).2.err hwok hk
    have hb := rbegun_c s (by have := hs.2; omega)
    have hbr := begunR_len s
    have hb1 : s.begunR.1 = s.rules.length := rfl
    have hask := asked_c s.begunR.2.err s.lg s.begunR.2.rules s.begunR.1 (by omega) (by omega)
    rw [wayR, if_neg he]; simp only; rw [if_neg hl, if_neg h0]
    generalize hR : wayR (leftT a false).1 (askE s.begunR.2 s.begunR.1) s.begunR.2 = R at *
    have hask2 := asked_c (putE 7 R.1 k R.2.err).2 s.lg (((R.2.put 7 R.1 k).2.setBody s.begunR.1 (R.2.put 7 R.1 k).1).rules) s.begunR.1 (by omega) (by rw [setBody_len, put_rules]; omega)
    rw [setBody_len, put_rules] at hask2
    have hRl := hwG.2
    have hsz := T.size_star a
    have hp := (T.star a).size_pos
    have hsz' : (T.star a).enc.length = a.size + 1 := hsz
    have htop : (at' (T.star a).enc (((T.star a).enc.length : Int) - 1)).op = 5 := T.top _
    have e1 : (T.star a).enc.take (((T.star a).enc.length : Int) - 1).toNat = a.enc := by
      have : (((T.star a).enc.length : Int) - 1).toNat = a.enc.length := by simp [T.enc]
      rw [this]; simp [T.enc]
    obtain ⟨err, lg, rules⟩ := s
    have he0 : err = 0 := by simpa using he
    subst he0
    have hleft := rleft_c a false (by omega)
    rw [← e1] at hleft
    have hl' : (leftT a false).2 = false := by simpa using hl
    have his := is_c (leftT a false).1 0 (by have := leftT_size a false (by omega); omega)
    rw [hl'] at hleft
    refine acalls_by Tryd.func19 Tryd.ntmps19 ?_
    simp only [argFr]
    refine aw_gen1 (fun g M hM => ?_)
    repeat' (first
      | (show cAtD 20; refine' aw_dt 9 8 _ Tryd_mixed _)
      | (show cAtD 25; refine' aw_dt 9 8 ([.cells (bC (err1 (putE 7 R.1 k R.2.err).2) (M4 + 0) R.2.rules.length [])] ++ (g4 ++ [.arr 52 3 (R.2.rules.map encRl)])) Tryd_mixed _)
      | (show lStore; refine k_storePart (f := encRl) (⟨(at' R.2.rules ((GS.mk 0 lg rules).begunR.1 : Int)).name, (putE 7 R.1 k R.2.err).1⟩ : Rl) ?_)
      | (show lCall; first | refine k_callB1 hb (by assumption) (fun g0 M0 hM0 => ?_) | refine k_callB1 hask (by assumption) (fun g3 M3 hM3 => ?_) | refine k_callB1 ih' (by assumption) (fun g4 M4 hM4 => ?_) | refine k_callB1 hask2 (by assumption) (fun g5 M5 hM5 => ?_))
      | (show lOp; refine op0 (by first | (show kAssign; exact b_assign) | (show kMove; exact b_move) | (show kCall; first | exact b_call (his) | exact m_lenSl) | (show kLoad; first | exact b_loadRp | exact b_loadPtr) | (show kFieldaddr; first | exact b_fieldRp | exact b_fieldPtr | exact b_fieldEpt) | (show kIndexaddr; first | exact m_indexSl | exact m_indexMs) | (show kBinopSub; exact b_sub) | (show kBinopEql; exact b_eql) | (show kBinopNeq; exact b_neq) | (show kPick; exact b_pickF) | (show kNilcheck; exact b_nilPtr) | (show kBuild; exact b_buildSt) | (show kBuildslice; exact b_buildSl1)) ?_)
      | (show lGu; refine al_yes ?_)
      | (show lNil; refine al_nil ?_)
      | (show qSeq; first | refine n_seq ?_ | refine p_seq ?_)
      | (show qBlk; refine p_block ?_)
      | (show cReg; refine aw_reg ?_)
      | (show cSeq; refine aw_seq ?_)
      | (show cBlk; refine aw_block ?_)
      | (show cSkip; refine aw_skip ?_)
      | (show cRet; refine aw_ret ?_)
      | (show cIf; first | refine aw_T ?_ | refine aw_F ?_ | refine aw_ifD (fun h => ?_) (fun h => ?_))
      | (show tNil; refine dt_nil ?_)
      | (show tSome; first | refine dt_turn (by first | exact t_callC hleft | exact t_callC hei (hσ := rfl)) ?_ | (refine dt_pre (by first | (show kMove; exact b_move) | (show kCall; exact m_lenSl) | (show kLoad; exact b_loadPtr) | (show kFieldaddr; exact b_fieldPtr) | (show kBinopSub; exact b_sub) | (show kNilcheck; exact b_nilPtr) | (show kSlice; exact m_sliceSlH)) (by decide +kernel) ?_) | (refine dt_pre2 (by first | (show kMove; exact b_move) | (show kLoad; exact b_loadPtr) | (show kFieldaddr; exact b_fieldPtr) | (show kNilcheck; exact b_nilPtr)) (by first | (show kMove; exact b_move) | (show kLoad; exact b_loadPtr) | (show kFieldaddr; exact b_fieldPtr) | (show kNilcheck; exact b_nilPtr)) ?_))
      | (show eRet; refine ret1 Tryd.results19 ?_)
      | (exfalso; omega))
    refine ⟨rfl, g5, M5, hM5, ?_⟩
    rw [setBody_len, put_rules]
    rfl
end Go.AL
namespace Go.Proofs
open Go.Shelf
def Tryd.laysM246_ren : Go.Shelf.Ren := ⟨fun | 246 => 76 | 283 => 82 | 284 => 83 | 285 => 84 | 286 => 85 | 129 => 89 | 317 => 88 | 318 => 90 | 319 => 91 | 320 => 92 | 337 => 94 | 338 => 95 | n => n, fun | 2 => 2 | 3 => 3 | 9 => 9 | 4 => 4 | 171 => 123 | 0 => 0 | 53 => 40 | 37 => 111 | 5 => 5 | 173 => 126 | 212 => 130 | 51 => 131 | 20 => 20 | 213 => 132 | 46 => 110 | 232 => 137 | 233 => 138 | n => n, fun | 17 => 0 | 18 => 1 | 19 => 2 | n => n⟩
def Tryd.laysM243_ren : Go.Shelf.Ren := ⟨fun | 243 => 66 | 246 => 76 | 283 => 82 | 284 => 83 | 285 => 84 | 286 => 85 | 129 => 89 | 317 => 88 | 318 => 90 | 319 => 91 | 320 => 92 | 337 => 94 | 338 => 95 | n => n, fun | 3 => 3 | 9 => 9 | 2 => 2 | 4 => 4 | 171 => 123 | 0 => 0 | 53 => 40 | 37 => 111 | 5 => 5 | 173 => 126 | 212 => 130 | 51 => 131 | 20 => 20 | 213 => 132 | 46 => 110 | 232 => 137 | 233 => 138 | n => n, fun | 17 => 0 | 18 => 1 | 19 => 2 | n => n⟩
def Tryd.laysM171_ren : Go.Shelf.Ren := ⟨fun | 171 => 55 | 243 => 66 | 246 => 76 | 283 => 82 | 284 => 83 | 285 => 84 | 286 => 85 | 129 => 89 | 317 => 88 | 318 => 90 | 319 => 91 | 320 => 92 | 337 => 94 | 338 => 95 | n => n, fun | 3 => 3 | 9 => 9 | 2 => 2 | 4 => 4 | 171 => 123 | 0 => 0 | 53 => 40 | 37 => 111 | 5 => 5 | 173 => 126 | 212 => 130 | 51 => 131 | 20 => 20 | 213 => 132 | 46 => 110 | 232 => 137 | 233 => 138 | n => n, fun | 17 => 0 | 18 => 1 | 19 => 2 | n => n⟩
theorem Tryd.laysM171 : Go.Proofs.LaysM.n171 Tryd.prog Tryd.laysM171_ren := {
  mixed := by kernel_rfl
  f129 := Tryd.func89.trans (congrArg some (by kernel_rfl))
  f171 := Tryd.func55.trans (congrArg some (by kernel_rfl))
  f243 := Tryd.func66.trans (congrArg some (by kernel_rfl))
  f246 := Tryd.func76.trans (congrArg some (by kernel_rfl))
  f283 := Tryd.func82.trans (congrArg some (by kernel_rfl))
  f284 := Tryd.func83.trans (congrArg some (by kernel_rfl))
  f285 := Tryd.func84.trans (congrArg some (by kernel_rfl))
  f286 := Tryd.func85.trans (congrArg some (by kernel_rfl))
  f317 := Tryd.func88.trans (congrArg some (by kernel_rfl))
  f318 := Tryd.func90.trans (congrArg some (by kernel_rfl))
  f319 := Tryd.func91.trans (congrArg some (by kernel_rfl))
  f320 := Tryd.func92.trans (congrArg some (by kernel_rfl))
  f337 := Tryd.func94.trans (congrArg some (by kernel_rfl))
  f338 := Tryd.func95.trans (congrArg some (by kernel_rfl))
  t0 := Tryd.underlying0
  a0 := Tryd.isAgg0
  z0 := Tryd.sizeOf0
  v0 := Tryd.zeroValue0
  t2 := Tryd.underlying2
  a2 := Tryd.isAgg2
  z2 := Tryd.sizeOf2
  v2 := Tryd.zeroValue2
  t3 := Tryd.underlying3
  a3 := Tryd.isAgg3
  z3 := Tryd.sizeOf3
  v3 := Tryd.zeroValue3
  t4 := Tryd.underlying4
  a4 := Tryd.isAgg4
  z4 := Tryd.sizeOf4
  v4 := Tryd.zeroValue4
  t5 := Tryd.underlying5
  a5 := Tryd.isAgg5
  z5 := Tryd.sizeOf5
  v5 := Tryd.zeroValue5
  t9 := Tryd.underlying9
  a9 := Tryd.isAgg9
  z9 := Tryd.sizeOf9
  v9 := Tryd.zeroValue9
  t20 := Tryd.underlying20
  a20 := Tryd.isAgg20
  z20 := Tryd.sizeOf20
  v20 := Tryd.zeroValue20
  t37 := Tryd.underlying111
  a37 := Tryd.isAgg111
  z37 := Tryd.sizeOf111
  v37 := Tryd.zeroValue111
  t46 := Tryd.underlying110
  a46 := Tryd.isAgg110
  z46 := Tryd.sizeOf110
  v46 := Tryd.zeroValue110
  t51 := Tryd.underlying131
  a51 := Tryd.isAgg131
  z51 := Tryd.sizeOf131
  v51 := Tryd.zeroValue131
  t53 := Tryd.underlying40
  a53 := Tryd.isAgg40
  z53 := Tryd.sizeOf40
  v53 := Tryd.zeroValue40
  t171 := Tryd.underlying123
  a171 := Tryd.isAgg123
  z171 := Tryd.sizeOf123
  v171 := Tryd.zeroValue123
  t173 := Tryd.underlying126
  a173 := Tryd.isAgg126
  z173 := Tryd.sizeOf126
  v173 := Tryd.zeroValue126
  t212 := Tryd.underlying130
  a212 := Tryd.isAgg130
  z212 := Tryd.sizeOf130
  v212 := Tryd.zeroValue130
  t213 := Tryd.underlying132
  a213 := Tryd.isAgg132
  z213 := Tryd.sizeOf132
  t232 := Tryd.underlying137
  a232 := Tryd.isAgg137
  z232 := Tryd.sizeOf137
  v232 := Tryd.zeroValue137
  t233 := Tryd.underlying138
  a233 := Tryd.isAgg138
  z233 := Tryd.sizeOf138
  v233 := Tryd.zeroValue138
  g17 := by kernel_rfl
  g18 := by kernel_rfl
  g19 := by kernel_rfl
  i0 := by kernel_rfl
  i2 := by kernel_rfl
  i3 := by kernel_rfl
  i4 := by kernel_rfl
  i5 := by kernel_rfl
  i9 := by kernel_rfl
  i20 := by kernel_rfl
  i37 := by kernel_rfl
  i46 := by kernel_rfl
  i51 := by kernel_rfl
  i53 := by kernel_rfl
  i171 := by kernel_rfl
  i173 := by kernel_rfl
  i212 := by kernel_rfl
  i232 := by kernel_rfl
  i233 := by kernel_rfl
  m17 := by kernel_rfl
  m18 := by kernel_rfl
  m19 := by kernel_rfl }
open Go.RowKit Go.Sort Go.Lib in
/-- strconv.Itoa: "Itoa is equivalent to FormatInt(int64(i), 10).": i's DECIMAL NUMERAL ('Lib.itoa': a '-' where i is negative, then the digits), FOR EVERY int. The world behind the call: the world before it, new blocks behind the heap (the library's 'var a [24]byte'), draws. (LAID: no walk: one application.) -/
theorem Tryd.strconv_Itoa (n : Int) (h0 : -9223372036854775808 ≤ n) (h1 : n ≤ 9223372036854775807) (w : World) (htab : Lib.TabIs Tryd.prog w "internal/strconv.uint64pow10" .u64 Lib.pow10Tab) :
    Calls Tryd.prog 55 #[.int .i64 n] w fun e w' => e = .returned (.string ⟨(Lib.itoa n).toArray⟩) ∧ ∃ k os, w' = grow (w.drewN k) os := Any.strconv_Itoa Tryd.laysM171 n h0 h1 w htab
end Go.Proofs
set_option linter.unusedVariables false
namespace Go.AL
open Go.Proofs
set_option maxRecDepth 10000
attribute [local irreducible] AWp AList RStep seqQ blockQ retQ DSteps DT awR rQ
/-! ### strconv.Itoa, and the table that it reads -/
def tabV : Array Value := (Lib.pow10Tab.map fun z => Value.int .u64 z).toArray
theorem tab_glob : Tryd.prog.globalNamed "internal/strconv.uint64pow10" = some 0 := by kernel_rfl
def pairN (a b : Nat) : Nat := (a + b) * (a + b) + b
theorem pairN_inj {a b c d : Nat} (h : pairN a b = pairN c d) : a = c ∧ b = d := by
  unfold pairN at h
  have key : ∀ {s t x y : Nat}, x ≤ s → s < t → s * s + x < t * t + y := fun {s t x y} h1 h2 => by
    have h3 : (s + 1) * (s + 1) ≤ t * t := Nat.mul_le_mul h2 h2
    have h4 : (s + 1) * (s + 1) = s * s + 2 * s + 1 := by rw [Nat.add_mul, Nat.mul_add]; omega
    omega
  rcases Nat.lt_trichotomy (a + b) (c + d) with h1 | h1 | h1
  · have := key (x := b) (y := d) (by omega) h1; omega
  · rw [h1] at h; omega
  · have := key (x := d) (y := b) (by omega) h1; omega
/-- What stands in block 0, but for its cells, is told by the place. -/
def pinned (w : World) : Loc → Prop
  | .at x y => ∃ c t lo hi, w.heap[0]? = some (.cells c t (lo, hi)) ∧ x = t ∧ y = pairN lo hi
  | _ => False
/-- The table stands where it stands. -/
def tabX : XO where
  ok w F l := w.var? Tryd.prog "internal/strconv.uint64pow10" = some tabV ∧ pinned w l
  fp l b k := b = 0
  cover := fun h hf k' => .inl hf
  mono := fun {w w' F F' l} h hF hw hb => by
    have e := hb 0 0 rfl
    refine ⟨?_, ?_⟩
    · rw [← h.1]
      simp only [World.var?, tab_glob, Option.bind_some, e]
    · cases l with
      | row => exact h.2.elim
      | «at» x y => obtain ⟨c, t, lo, hi, h1, h2⟩ := h.2; exact ⟨c, t, lo, hi, by rw [e]; exact h1, h2⟩
theorem tab_same {w w' : World} {F F' : Nat → Nat → Prop} {l : Loc} (h : tabX.ok w F l) (h' : tabX.ok w' F' l) : w'.heap[0]? = w.heap[0]? := by
  obtain ⟨a1, a2⟩ := h
  obtain ⟨b1, b2⟩ := h'
  cases l with
  | row => exact a2.elim
  | «at» x y =>
    obtain ⟨c, t, lo, hi, h1, h2, h3⟩ := a2
    obtain ⟨c', t', lo', hi', h1', h2', h3'⟩ := b2
    simp only [World.var?, tab_glob, Option.bind_some, h1, h1'] at a1 b1
    obtain ⟨e1, e2⟩ := pairN_inj (h3.symm.trans h3')
    have e3 : t = t' := h2.symm.trans h2'
    subst e1; subst e2; subst e3
    injection a1 with a1; injection b1 with b1
    rw [h1, h1', a1, b1]
theorem digB_dec (n : Nat) : Lib.decDigits n = digB n := by
  induction n using Nat.strongRecOn with
  | _ n ih =>
    rw [Lib.decDigits, digB]
    split
    · rfl
    · rw [ih _ (by omega)]
theorem tab_ok {σ : List AObj} (id : Nat) (h : σ[id]? = some (.ext tabX)) (m : List Loc) (F : Nat → Nat → Prop) (w : World) (i : Inv m F σ w) : Lib.TabIs Tryd.prog w "internal/strconv.uint64pow10" .u64 Lib.pow10Tab := by
  obtain ⟨l, h⟩ := ext_ok h m F w i
  exact h.1
theorem itoa_c (n : Nat) (h : n ≤ 100000) : GCalls Tryd.prog 55 [i64 n] (fun w => Lib.TabIs Tryd.prog w "internal/strconv.uint64pow10" .u64 Lib.pow10Tab) (str ⟨(digB n).toArray⟩) := by
  intro F w vs htab hs hv
  have hvs : vs = #[.int .i64 n] := by
    have h0 : RP w F _ _ := hv 0 _ rfl
    have e := RP.eq_lit h0
    have h1 : vs.size = 1 := hs
    apply Array.ext (by simp [h1])
    intro j hj hj2
    have : j = 0 := by omega
    subst this
    simp [Array.getD_eq_getD_getElem?, h1] at e
    exact e
  subst hvs
  refine (Tryd.strconv_Itoa n (by omega) (by omega) w htab).mono fun e w' he => ?_
  obtain ⟨rfl, k, os, rfl⟩ := he
  have g : Grow F w F (Sort.grow (w.drewN k) os) := ⟨fun _ _ h => h, rfl, rfl, rfl, by simp [Sort.grow, World.drewN], fun b hb => by
    show (w.heap ++ os)[b]? = _
    rw [Array.getElem?_append_left hb], fun _ _ h => .inl h, fun _ _ h => .inr h⟩
  refine ⟨_, rfl, g, ?_⟩
  have e : Lib.itoa (n : Int) = digB n := by
    simp only [Lib.itoa]
    rw [if_neg (by omega), Int.toNat_natCast, digB_dec]
  rw [e]
  exact RP.lit rfl
theorem row_c (e : List Nd) (op : Int) (he : okE e) : ACalls Tryd.prog 51 [expr e, i64 op] [] (fun r _ => r = .ret (.tup [i64 (rowE e op).1, expr (rowE e op).2])) := by
  obtain ⟨e1, e2, e3, e4⟩ := he
  have et : ((e.length : Int) - 1).toNat = e.length - 1 := by omega
  refine acalls_by Tryd.func51 Tryd.ntmps51 ?_
  simp only [argFr]
  repeat' (first
    | (show lAlloc; refine k_alloc ?_)
    | (show lStore; refine k_store ?_)
    | (show lOp; refine op0 (by first | (show kAssign; exact b_assign) | (show kMove; exact b_move) | (show kCall; exact m_lenSl) | (show kLoad; first | exact b_loadRp | exact b_loadPtr) | (show kFieldaddr; exact b_fieldPtr) | (show kIndexaddr; exact m_indexSl) | (show kBinopSub; exact b_sub) | (show kBinopEql; exact b_eql)) ?_)
    | (show lNil; refine al_nil ?_)
    | (show qSeq; first | refine n_seq ?_ | refine p_seq ?_)
    | (show cReg; refine aw_reg ?_)
    | (show cSeq; refine aw_seq ?_)
    | (show cSkip; refine aw_skip ?_)
    | (show cRet; refine aw_ret ?_)
    | (show cIf; refine aw_ifD (fun h => ?_) (fun h => ?_))
    | (show cRegD; refine aw_drN Tryd_mixed ?_)
    | (show dOp; refine ds_op (by first | (show kAssign; exact b_assign) | (show kMove; exact b_move) | (show kCall; exact m_lenSl) | (show kLoad; exact b_loadPtr) | (show kFieldaddr; exact b_fieldPtr) | (show kBinopSub; exact b_sub) | (show kSlice; exact m_sliceSlH)) ?_)
    | (show dNil; refine ds_nil ?_)
    | (show eRet; refine ret2 Tryd.results51 ?_))
  · have e : rowE e op = ((at' e ((e.length : Int) - 1)).n, e.take (e.length - 1)) := by rw [rowE, if_pos h]
    rw [e, et]
  · have e : rowE e op = (1, e) := by rw [rowE, if_neg h]
    rw [e]
/-! ### slices.Concat over nodes -/
abbrev encEx (p : List Nd) : List PV := [.sl 10 (p.map encNd)]
abbrev exprl (ps : List (List Nd)) : AV := .c (.p (.sl 1 (ps.map encEx)))
theorem growN_c (n : Int) (h0 : 0 ≤ n) (h1 : n ≤ 1000000000) : ACalls Tryd.prog 65 [.c (.p (.lit (.slice none 0 0))), i64 n] [] (fun r σ' => r = .ret (.c (.ms 0 0)) ∧ σ' = [.arr 58 10 ((List.replicate n.toNat (default : Nd)).map encNd)]) := by
  refine acalls_new ?_
  refine acalls_by Tryd.func65 Tryd.ntmps65 ?_
  simp only [argFr]
  repeat' (first
    | (show lAt 26; refine k_own 0 58 10 ?_)
    | (show lCall; refine k_appZeros Tryd.underlying3 (by omega) (by omega) ?_)
    | (show lOp; refine op0 (by first | (show kAssign; exact b_assign) | (show kMove; exact b_move) | (show kCall; first | exact b_lenNil | exact r_capNil) | (show kBinopSub; exact b_sub) | (show kBinopLss; exact b_lss) | (show kBinopGtr; exact b_gtr) | (show kSlice; first | exact b_sliceMs | exact b_sliceNilH) | (show kMakeinterface; exact b_iface)) ?_)
    | (show lNil; refine al_nil ?_)
    | (show qSeq; refine n_seq ?_)
    | (show cReg; refine aw_reg ?_)
    | (show cSeq; refine aw_seq ?_)
    | (show cSkip; refine aw_skip ?_)
    | (show cRet; refine aw_ret ?_)
    | (show cIf; refine aw_ifD (fun h => ?_) (fun h => ?_))
    | (show eRet; refine ret1 Tryd.results65 ?_)
    | (exfalso; omega))
  · refine ⟨0, rfl, ?_⟩
    rw [show (n - (0 - 0)).toNat = n.toNat by omega]
    simp [encNd, zP, Value.cells, default, instInhabitedNd.default, instInhabitedCls.default]
    exact .inr rfl
  · refine ⟨0, rfl, ?_⟩
    rw [show n.toNat = 0 by omega]
    rfl
def szsN (ps : List (List Nd)) : Nat := ps.flatten.length
theorem szsN_next {ps : List (List Nd)} {k : Nat} (h : k < ps.length) : (ps.take (k + 1)).flatten = (ps.take k).flatten ++ at' ps (k : Int) := by
  have := at_get ps (k : Int) (by omega) (by omega)
  rw [Int.toNat_natCast] at this
  rw [List.take_add_one, List.flatten_append, this]
  simp only [Option.toList_some, List.flatten_cons, List.flatten_nil, List.append_nil]
theorem szsN_le (ps : List (List Nd)) (k : Nat) : szsN (ps.take k) ≤ szsN ps := by
  have : ps.flatten = (ps.take k).flatten ++ (ps.drop k).flatten := by rw [← List.flatten_append, List.take_append_drop]
  simp only [szsN, this, List.length_append]; omega
theorem concatN_c (ps : List (List Nd)) (hsz : szsN ps ≤ 1000000) (h2 : ps.length ≤ 1000000) : ACalls Tryd.prog 53 [exprl ps] [] (fun x _ => x = .ret (expr ps.flatten)) := by
  have hgrow := growN_c (szsN ps : Int) (by omega) (by omega)
  refine acalls_by Tryd.func53 Tryd.ntmps53 ?_
  simp only [argFr]
  repeat' (first
    | (show lOp; refine op0 (by first | (show kAssign; exact b_assign) | (show kMove; exact b_move) | (show kCall; exact m_lenSl)) ?_)
    | (show lNil; refine al_nil ?_)
    | (show qSeq; refine n_seq ?_)
    | (show cReg; refine aw_reg ?_)
    | (show cSeq; refine aw_seq ?_)
    | (show cBlk; refine aw_block ?_))
  refine aw_rounds (ι := Nat) (fun i => [(0, exprl ps), (9, exprl ps), (10, i64 ps.length), (11, i64 i), (3, i64 (szsN (ps.take i)))]) (fun _ => []) (fun i => i ≤ ps.length) (fun i => ps.length - i) 0 (by simp) rfl (by simp [Fr.get, szsN]) ?_
  rintro k g1
  have hle := szsN_le ps k
  have hle2 := szsN_le ps (k + 1)
  have hnext : k < ps.length → szsN (ps.take (k + 1)) = szsN (ps.take k) + (at' ps (k : Int)).length := fun hk => by simp only [szsN, szsN_next hk, List.length_append]
  repeat' (first
    | (show lOp; refine op0 (by first | (show kAssign; exact b_assign) | (show kMove; exact b_move) | (show kCall; exact m_lenSl) | (show kLoad; exact b_loadRp) | (show kIndexaddr; exact m_indexSl) | (show kBinopAdd; exact b_add) | (show kBinopLss; exact b_lss)) ?_)
    | (show lNil; refine al_nil ?_)
    | (show qSeq; first | refine n_seq ?_ | refine x_seq ?_)
    | (show qBlk; first | refine n_block ?_ | refine x_eq ?_)
    | (show cReg; refine aw_reg ?_)
    | (show cSeq; refine aw_seq ?_)
    | (show cBlk; refine aw_block ?_)
    | (show cSkip; refine aw_skip ?_)
    | (show cExit; refine aw_exit ?_)
    | (show cIf; first | refine aw_F ?_ | refine aw_ifD (fun h => ?_) (fun h => ?_)))
  · exact ⟨k + 1, by omega, rfl, by simp [Fr.get]; rw [hnext (by omega)]; simp, by omega⟩
  have hk : k = ps.length := by omega
  have hall : ps.take k = ps := List.take_of_length_le (by omega)
  rw [hall]
  repeat' (first
    | (show lCall; refine k_callNew hgrow ?_)
    | (show lOp; refine op0 (by first | (show kAssign; exact b_assign) | (show kMove; exact b_move) | (show kCall; exact m_lenSl)) ?_)
    | (show lNil; refine al_nil ?_)
    | (show qSeq; refine n_seq ?_)
    | (show cReg; refine aw_reg ?_)
    | (show cSeq; refine aw_seq ?_)
    | (show cBlk; refine aw_block ?_))
  refine aw_roundsG (ι := Nat × List Nd) (fun i n => [(25, exprl ps), (26, i64 ps.length), (27, i64 i.1), (6, .c (.ms (n + 0) (ps.take i.1).flatten.length))]) (fun i n => [.arr 58 10 (i.2.map encNd)]) (fun i => i.1 ≤ ps.length ∧ (ps.take i.1).flatten.length ≤ i.2.length ∧ i.2.take (ps.take i.1).flatten.length = (ps.take i.1).flatten) (fun i => ps.length - i.1) (0, _) 0 ⟨by simp, by simp, by simp⟩ (by simp) rfl (by simp [Fr.get]) ?_
  rintro ⟨q, X⟩ n g ⟨g1, g2, g3⟩ hg
  dsimp only at g1 g2 g3 ⊢
  have hle := szsN_le ps q
  have hle2 := szsN_le ps (q + 1)
  simp only [szsN] at hle hle2 hsz
  have hnext : q < ps.length → (ps.take (q + 1)).flatten.length = (ps.take q).flatten.length + (at' ps (q : Int)).length := fun hk => by simp only [szsN_next hk, List.length_append]
  repeat' (first
    | (show lAt 35; refine k_freezeM (f := encNd) 6 ?_)
    | (show lCall; refine k_appSl (f := encNd) (ys := at' ps (q : Int)) ?_)
    | (show lOp; refine op0 (by first | (show kAssign; exact b_assign) | (show kMove; exact b_move) | (show kLoad; exact b_loadRp) | (show kIndexaddr; exact m_indexSl) | (show kBinopAdd; exact b_add) | (show kBinopLss; exact b_lss)) ?_)
    | (show lNil; refine al_nil ?_)
    | (show qSeq; first | refine n_seq ?_ | refine x_seq ?_)
    | (show qBlk; first | refine n_block ?_ | refine x_eq ?_)
    | (show cReg; refine aw_reg ?_)
    | (show cSeq; refine aw_seq ?_)
    | (show cBlk; refine aw_block ?_)
    | (show cSkip; refine aw_skip ?_)
    | (show cExit; refine aw_exit ?_)
    | (show cRet; refine aw_ret ?_)
    | (show cIf; refine aw_ifD (fun h => ?_) (fun h => ?_))
    | (show eRet; refine ret1 Tryd.results53 ?_))
  · have hn := hnext (by omega)
    refine ⟨(q + 1, X.take (ps.take q).flatten.length ++ at' ps (q : Int)), n + 1, ⟨by dsimp only; omega, by dsimp only; rw [hn, g3]; simp, by dsimp only; rw [hn, g3, szsN_next (by omega)]; exact List.take_of_length_le (by simp)⟩, by simp [hg], dropG0 hg rfl, by simp [Fr.get, hn], by dsimp only; omega⟩
  · rw [g3, List.take_of_length_le (by omega)]
end Go.AL
set_option linter.unusedVariables false
namespace Go.AL
open Go.Proofs
set_option maxRecDepth 10000
attribute [local irreducible] AWp AList RStep seqQ blockQ retQ DSteps DT awR rQ
/-- What the program's builder is, in memory. -/
abbrev lgP (lg : Bool) : List PV := [.lit (.bool lg)]
abbrev gpσ (X : XO) (s : GS) : List AObj := [.ext X, .cells (bC (lgP s.lg) 2 s.rules.length (err1 s.err)), .arr 52 3 (s.rules.map encRl)]
abbrev gpR (X : XO) (r : AV) (s : GS) : CE → List AObj → Prop := fun x σ' => x = .ret r ∧ BEnd [.ext X] 2 (lgP s.lg) s.rules.length (err1 s.err) 52 3 (s.rules.map encRl) σ'
def GS.fail (s : GS) (e : Int) : GS := ⟨if s.err = 0 then e else s.err, s.lg, s.rules⟩
theorem fail_c (X : XO) (s : GS) (e : Int) : ACalls Tryd.prog 15 [.c (.ptr 1 0), i64 e] (gpσ X s) (gpR X (.tup []) (s.fail e)) := by
  refine acalls_by Tryd.func15 Tryd.ntmps15 ?_
  simp only [argFr]
  refine aw_gen2 (fun g M hM => ?_)
  repeat' (first
    | (show lStore; refine k_store ?_)
    | (show lOp; refine op0 (by first | (show kMove; exact b_move) | (show kLoad; exact b_loadPtr) | (show kFieldaddr; exact b_fieldPtr) | (show kBinopEql; exact b_eql) | (show kNilcheck; exact b_nilPtr)) ?_)
    | (show lNil; refine al_nil ?_)
    | (show qSeq; refine n_seq ?_)
    | (show cReg; refine aw_reg ?_)
    | (show cSeq; refine aw_seq ?_)
    | (show cSkip; refine aw_skip ?_)
    | (show cIf; refine aw_ifD (fun h => ?_) (fun h => ?_))
    | (show eEnd; refine end0 Tryd.results15 ?_))
  · simp only [GS.fail]; rw [if_pos h]; exact ⟨rfl, g, M, hM, rfl⟩
  · simp only [GS.fail]; rw [if_neg h]; exact ⟨rfl, g, M, hM, rfl⟩
theorem sized_c (X : XO) (s : GS) (e : List Nd) (h : e.length ≤ 1000000) : ACalls Tryd.prog 52 [.c (.ptr 1 0), expr e] (gpσ X s) (gpR X (expr (madeE e s.err).1) ⟨(madeE e s.err).2, s.lg, s.rules⟩) := by
  have hf := fail_c X s 52
  refine acalls_by Tryd.func52 Tryd.ntmps52 ?_
  simp only [argFr]
  refine aw_gen2 (fun g M hM => ?_)
  by_cases he : s.err = 0
  · have e1 : s.fail 52 = ⟨52, s.lg, s.rules⟩ := by simp only [GS.fail]; rw [if_pos he]
    rw [e1] at hf
    repeat' (first
      | (show lCall; refine k_callB2 hf (by assumption) (fun g1 M1 hM1 => ?_))
      | (show lOp; refine op0 (by first | (show kAssign; exact b_assign) | (show kMove; exact b_move) | (show kCall; exact m_lenSl) | (show kLoad; exact b_loadPtr) | (show kFieldaddr; exact b_fieldPtr) | (show kBinopNeq; exact b_neq) | (show kBinopGtr; exact b_gtr) | (show kNilcheck; exact b_nilPtr) | (show kBuild; exact b_buildSt) | (show kBuildslice; exact b_buildSl1)) ?_)
      | (show lNil; refine al_nil ?_)
      | (show qSeq; first | refine n_seq ?_ | refine p_seq ?_)
      | (show cReg; refine aw_reg ?_)
      | (show cSeq; refine aw_seq ?_)
      | (show cSkip; refine aw_skip ?_)
      | (show cRet; refine aw_ret ?_)
      | (show cIf; first | refine aw_T ?_ | refine aw_ifD (fun h => ?_) (fun h => ?_))
      | (show eRet; refine ret1 Tryd.results52 ?_)
      | (exfalso; omega))
    · have e2 : madeE e s.err = ([nd 0 0], 52) := by rw [madeE, if_neg (by omega), if_pos (by omega)]
      rw [e2]; exact ⟨rfl, g1, M1, hM1, rfl⟩
    · have e2 : madeE e s.err = (e, s.err) := by rw [madeE, if_neg h, if_neg (by omega), he]
      rw [e2]; exact ⟨rfl, g, M, hM, rfl⟩
  · have e1 : s.fail 52 = s := by simp only [GS.fail]; rw [if_neg he]
    rw [e1] at hf
    repeat' (first
      | (show lCall; refine k_callB2 hf (by assumption) (fun g1 M1 hM1 => ?_))
      | (show lOp; refine op0 (by first | (show kAssign; exact b_assign) | (show kMove; exact b_move) | (show kCall; exact m_lenSl) | (show kLoad; exact b_loadPtr) | (show kFieldaddr; exact b_fieldPtr) | (show kBinopNeq; exact b_neq) | (show kBinopGtr; exact b_gtr) | (show kNilcheck; exact b_nilPtr) | (show kBuild; exact b_buildSt) | (show kBuildslice; exact b_buildSl1)) ?_)
      | (show lNil; refine al_nil ?_)
      | (show qSeq; first | refine n_seq ?_ | refine p_seq ?_)
      | (show cReg; refine aw_reg ?_)
      | (show cSeq; refine aw_seq ?_)
      | (show cSkip; refine aw_skip ?_)
      | (show cRet; refine aw_ret ?_)
      | (show cIf; first | refine aw_T ?_ | refine aw_ifD (fun h => ?_) (fun h => ?_))
      | (show eRet; refine ret1 Tryd.results52 ?_))
    · have e2 : madeE e s.err = ([nd 0 0], s.err) := by rw [madeE, if_pos he]
      rw [e2]; exact ⟨rfl, g1, M1, hM1, rfl⟩
    · have e2 : madeE e s.err = ([nd 0 0], s.err) := by rw [madeE, if_pos he]
      rw [e2]; exact ⟨rfl, g, M, hM, rfl⟩
theorem put_c (X : XO) (s : GS) (op : Int) (x y : List Nd) (hx : okE x) (hy : okE y) : ACalls Tryd.prog 29 [.c (.ptr 1 0), i64 op, expr x, expr y] (gpσ X s) (gpR X (expr (s.put op x y).1) (s.put op x y).2) := by
  have hrx := row_c x op hx
  have hry := row_c y op hy
  have rx := rowE_ok op hx
  have ry := rowE_ok op hy
  have hxl := hx.2.1
  have hyl := hy.2.1
  have hc := (catE_ok (op := op) hx hy).2.1
  have hs := sized_c X s (catE op x y) (by omega)
  by_cases h7 : op = 7
  · have hcat := concatN_c [(rowE x op).2, (rowE y op).2, [nd op ((rowE x op).1 + (rowE y op).1)]] (by simp [szsN]; omega) (by simp)
    have e1 : [(rowE x op).2, (rowE y op).2, [nd op ((rowE x op).1 + (rowE y op).1)]].flatten = catE op x y := by
      rw [catE, if_pos h7, h7]; simp
    rw [e1] at hcat
    refine acalls_by Tryd.func29 Tryd.ntmps29 ?_
    simp only [argFr]
    refine aw_gen2 (fun g M hM => ?_)
    repeat' (first
      | (show lCall; refine k_callB2 hs (by assumption) (fun g1 M1 hM1 => ?_))
      | (show lOp; refine op0 (by first | (show kAssign; exact b_assign) | (show kMove; exact b_move) | (show kCall; first | exact b_call (hrx) | exact b_call (hry) | exact b_call (hcat)) | (show kBinopAdd; exact b_add) | (show kBinopEql; exact b_eql) | (show kExtract; exact b_extract) | (show kBuild; exact b_buildSt) | (show kBuildslice; first | exact b_buildSl1 | exact b_buildSl3)) ?_)
      | (show lNil; refine al_nil ?_)
      | (show qSeq; refine n_seq ?_)
      | (show cReg; refine aw_reg ?_)
      | (show cSeq; refine aw_seq ?_)
      | (show cRet; refine aw_ret ?_)
      | (show cIf; refine aw_T ?_)
      | (show eRet; refine ret1 Tryd.results29 ?_))
    exact ⟨rfl, g1, M1, hM1, rfl⟩
  · have hcat := concatN_c [x, (rowE y op).2, [nd op (1 + (rowE y op).1)]] (by simp [szsN]; omega) (by simp)
    have e1 : [x, (rowE y op).2, [nd op (1 + (rowE y op).1)]].flatten = catE op x y := by
      rw [catE, if_neg h7]; simp
    rw [e1] at hcat
    refine acalls_by Tryd.func29 Tryd.ntmps29 ?_
    simp only [argFr]
    refine aw_gen2 (fun g M hM => ?_)
    repeat' (first
      | (show lCall; refine k_callB2 hs (by assumption) (fun g1 M1 hM1 => ?_))
      | (show lOp; refine op0 (by first | (show kAssign; exact b_assign) | (show kMove; exact b_move) | (show kCall; first | exact b_call (hry) | exact b_call (hcat)) | (show kBinopAdd; exact b_add) | (show kBinopEql; exact b_eql) | (show kExtract; exact b_extract) | (show kBuild; exact b_buildSt) | (show kBuildslice; first | exact b_buildSl1 | exact b_buildSl3)) ?_)
      | (show lNil; refine al_nil ?_)
      | (show qSeq; refine n_seq ?_)
      | (show cReg; refine aw_reg ?_)
      | (show cSeq; refine aw_seq ?_)
      | (show cSkip; refine aw_skip ?_)
      | (show cRet; refine aw_ret ?_)
      | (show cIf; refine aw_F ?_)
      | (show eRet; refine ret1 Tryd.results29 ?_))
    exact ⟨rfl, g1, M1, hM1, rfl⟩
theorem ref_c (X : XO) (s : GS) (i : Int) (h0 : 0 ≤ i) (h1 : i < s.rules.length) : ACalls Tryd.prog 32 [.c (.ptr 1 0), i64 i] (gpσ X s) (gpR X (expr (askE s i)) s) := by
  refine acalls_by Tryd.func32 Tryd.ntmps32 ?_
  simp only [argFr]
  refine aw_gen2 (fun g M hM => ?_)
  repeat' (first
    | (show lOp; refine op0 (by first | (show kAssign; exact b_assign) | (show kMove; exact b_move) | (show kLoad; first | exact b_loadPtr | exact m_loadEpt) | (show kFieldaddr; first | exact b_fieldPtr | exact b_fieldEpt) | (show kIndexaddr; exact m_indexMs) | (show kNilcheck; exact b_nilPtr) | (show kBuild; exact b_buildSt) | (show kBuildslice; exact b_buildSl1)) ?_)
    | (show lNil; refine al_nil ?_)
    | (show qSeq; refine n_seq ?_)
    | (show cReg; refine aw_reg ?_)
    | (show cSeq; refine aw_seq ?_)
    | (show cRet; refine aw_ret ?_)
    | (show eRet; refine ret1 Tryd.results32 ?_))
  exact ⟨rfl, g, M, hM, rfl⟩
theorem begun_p (s : GS) (h : s.rules.length ≤ 5000) : ACalls Tryd.prog 31 [.c (.ptr 1 0)] (gpσ tabX s) (gpR tabX (i64 s.begunP.1) s.begunP.2) := by
  have hf := fail_c tabX s 51
  have hit := itoa_c s.rules.length (by omega)
  have hl := digB_len s.rules.length
  have hsf : StrFit ⟨#[82]⟩ ⟨(digB s.rules.length).toArray⟩ := by
    constructor; simp only [ByteArray.size, List.size_toArray]; simp; omega
  refine acalls_by Tryd.func31 Tryd.ntmps31 ?_
  simp only [argFr]
  refine aw_gen2 (fun g M hM => ?_)
  have hσ1 : ([AObj.ext tabX, .cells (bC (lgP s.lg) (M + 0) s.rules.length (err1 s.err))] ++ (g ++ [AObj.arr 52 3 (s.rules.map encRl)])).set (M + 0) .dead ++ [.arr 52 3 ((s.rules.take s.rules.length ++ [(⟨nameOf s.rules.length, []⟩ : Rl)]).map encRl)] = [.ext tabX, .cells (bC (lgP s.lg) (M + 0) s.rules.length (err1 s.err))] ++ (g ++ [.dead, .arr 52 3 ((s.rules.take s.rules.length ++ [(⟨nameOf s.rules.length, []⟩ : Rl)]).map encRl)]) := snocGP hM rfl rfl rfl
  repeat' (first
    | (show cAtD 4; refine' aw_dt 15 14 ([.ext tabX, .cells (bC (lgP s.lg) (M + 0) s.rules.length (err1 s.err))] ++ (g ++ [.dead, .arr 52 3 ((s.rules.take s.rules.length ++ [(⟨nameOf s.rules.length, []⟩ : Rl)]).map encRl)])) Tryd_mixed _)
    | (show lStore; refine k_store ?_)
    | (show lCall; refine k_callB2 hf (by assumption) (fun g1 M1 hM1 => ?_))
    | (show lOp; refine op0 (by first | (show kAssign; exact b_assign) | (show kMove; exact b_move) | (show kCall; exact b_lenMs) | (show kLoad; exact b_loadPtr) | (show kFieldaddr; exact b_fieldPtr) | (show kBinopSub; exact b_sub) | (show kBinopGeq; exact b_geq) | (show kNilcheck; exact b_nilPtr)) ?_)
    | (show lNil; refine al_nil ?_)
    | (show qSeq; first | refine n_seq ?_ | refine p_seq ?_)
    | (show cReg; refine aw_reg ?_)
    | (show cSeq; refine aw_seq ?_)
    | (show cSkip; refine aw_skip ?_)
    | (show cRet; refine aw_ret ?_)
    | (show cIf; refine aw_ifD (fun h => ?_) (fun h => ?_))
    | (show tNil; refine dt_nil ?_)
    | (show tSome; first | refine dt_turn (by exact t_app1 (f := encRl) (⟨nameOf s.rules.length, []⟩ : Rl) (hσ := hσ1)) ?_ | (refine dt_pre (by first | (show kMove; exact b_move) | (show kCall; first | exact b_callG hit (tab_ok 0 rfl) | exact b_lenMs) | (show kLoad; exact b_loadPtr) | (show kFieldaddr; exact b_fieldPtr) | (show kBinopAdd; exact b_strAdd hsf) | (show kNilcheck; exact b_nilPtr) | (show kBuild; exact b_buildSt) | (show kBuildslice; exact b_nilS 2 10 b_buildSl1)) (by decide +kernel) ?_) | (refine dt_pre2 (by (show kMove; exact b_move)) (by (show kMove; exact b_move)) ?_))
    | (show eRet; refine ret1 Tryd.results31 ?_))
  · have e : s.begunP = (0, s.fail 51) := by simp only [GS.begunP]; rw [if_pos (by omega)]; rfl
    rw [e]; exact ⟨rfl, g1, M1, hM1, rfl⟩
  · have e : s.begunP = (s.rules.length, ⟨s.err, s.lg, s.rules ++ [⟨nameOf s.rules.length, []⟩]⟩) := by simp only [GS.begunP]; rw [if_neg (by omega)]
    rw [e, List.take_of_length_le (Nat.le_refl _)]
    refine ⟨by simp, g ++ [.dead], M + 1, by simp; omega, ?_⟩
    rw [List.append_assoc g]
    simp only [List.length_append]
    rfl
end Go.AL
set_option linter.unusedVariables false
namespace Go.AL
open Go.Proofs
set_option maxRecDepth 10000
attribute [local irreducible] AWp AList RStep seqQ blockQ retQ DSteps DT awR rQ SStep
/-- The same, told of an array that stays in its place. -/
abbrev gpI (X : XO) (r : AV) (s : GS) : CE → List AObj → Prop := fun x σ' => x = .ret r ∧ BIn [.ext X] 2 (lgP s.lg) s.rules.length (err1 s.err) 52 3 (s.rules.map encRl) σ'
theorem failI_c (X : XO) (s : GS) (e : Int) : ACalls Tryd.prog 15 [.c (.ptr 1 0), i64 e] (gpσ X s) (gpI X (.tup []) (s.fail e)) := by
  refine acalls_by Tryd.func15 Tryd.ntmps15 ?_
  simp only [argFr]
  repeat' (first
    | (show lStore; refine k_store ?_)
    | (show lOp; refine op0 (by first | (show kMove; exact b_move) | (show kLoad; exact b_loadPtr) | (show kFieldaddr; exact b_fieldPtr) | (show kBinopEql; exact b_eql) | (show kNilcheck; exact b_nilPtr)) ?_)
    | (show lNil; refine al_nil ?_)
    | (show qSeq; refine n_seq ?_)
    | (show cReg; refine aw_reg ?_)
    | (show cSeq; refine aw_seq ?_)
    | (show cSkip; refine aw_skip ?_)
    | (show cIf; refine aw_ifD (fun h => ?_) (fun h => ?_))
    | (show eEnd; refine end0 Tryd.results15 ?_))
  · simp only [GS.fail]; rw [if_pos h]; exact ⟨rfl, [], rfl⟩
  · simp only [GS.fail]; rw [if_neg h]; exact ⟨rfl, [], rfl⟩
theorem sizedI_c (X : XO) (s : GS) (e : List Nd) (h : e.length ≤ 1000000) : ACalls Tryd.prog 52 [.c (.ptr 1 0), expr e] (gpσ X s) (gpI X (expr (madeE e s.err).1) ⟨(madeE e s.err).2, s.lg, s.rules⟩) := by
  have hf := failI_c X s 52
  refine acalls_by Tryd.func52 Tryd.ntmps52 ?_
  simp only [argFr]
  by_cases he : s.err = 0
  · have e1 : s.fail 52 = ⟨52, s.lg, s.rules⟩ := by simp only [GS.fail]; rw [if_pos he]
    rw [e1] at hf
    repeat' (first
      | (show lCall; refine k_step (t_callB2 hf (gg := []) rfl) ?_)
      | (show lOp; refine op0 (by first | (show kAssign; exact b_assign) | (show kMove; exact b_move) | (show kCall; exact m_lenSl) | (show kLoad; exact b_loadPtr) | (show kFieldaddr; exact b_fieldPtr) | (show kBinopNeq; exact b_neq) | (show kBinopGtr; exact b_gtr) | (show kNilcheck; exact b_nilPtr) | (show kBuild; exact b_buildSt) | (show kBuildslice; exact b_buildSl1)) ?_)
      | (show lNil; refine al_nil ?_)
      | (show qSeq; first | refine n_seq ?_ | refine p_seq ?_)
      | (show cReg; refine aw_reg ?_)
      | (show cSeq; refine aw_seq ?_)
      | (show cSkip; refine aw_skip ?_)
      | (show cRet; refine aw_ret ?_)
      | (show cIf; first | refine aw_T ?_ | refine aw_ifD (fun h => ?_) (fun h => ?_))
      | (show eRet; refine ret1 Tryd.results52 ?_)
      | (exfalso; omega))
    · have e2 : madeE e s.err = ([nd 0 0], 52) := by rw [madeE, if_neg (by omega), if_pos (by omega)]
      rw [e2]; exact ⟨rfl, [], rfl⟩
    · have e2 : madeE e s.err = (e, s.err) := by rw [madeE, if_neg h, if_neg (by omega), he]
      rw [e2]; exact ⟨rfl, [], rfl⟩
  · have e1 : s.fail 52 = s := by simp only [GS.fail]; rw [if_neg he]
    rw [e1] at hf
    repeat' (first
      | (show lCall; refine k_step (t_callB2 hf (gg := []) rfl) ?_)
      | (show lOp; refine op0 (by first | (show kAssign; exact b_assign) | (show kMove; exact b_move) | (show kCall; exact m_lenSl) | (show kLoad; exact b_loadPtr) | (show kFieldaddr; exact b_fieldPtr) | (show kBinopNeq; exact b_neq) | (show kBinopGtr; exact b_gtr) | (show kNilcheck; exact b_nilPtr) | (show kBuild; exact b_buildSt) | (show kBuildslice; exact b_buildSl1)) ?_)
      | (show lNil; refine al_nil ?_)
      | (show qSeq; first | refine n_seq ?_ | refine p_seq ?_)
      | (show cReg; refine aw_reg ?_)
      | (show cSeq; refine aw_seq ?_)
      | (show cSkip; refine aw_skip ?_)
      | (show cRet; refine aw_ret ?_)
      | (show cIf; first | refine aw_T ?_ | refine aw_ifD (fun h => ?_) (fun h => ?_))
      | (show eRet; refine ret1 Tryd.results52 ?_))
    · have e2 : madeE e s.err = ([nd 0 0], s.err) := by rw [madeE, if_pos he]
      rw [e2]; exact ⟨rfl, [], rfl⟩
    · have e2 : madeE e s.err = ([nd 0 0], s.err) := by rw [madeE, if_pos he]
      rw [e2]; exact ⟨rfl, [], rfl⟩
theorem putI_c (X : XO) (s : GS) (op : Int) (x y : List Nd) (hx : okE x) (hy : okE y) : ACalls Tryd.prog 29 [.c (.ptr 1 0), i64 op, expr x, expr y] (gpσ X s) (gpI X (expr (s.put op x y).1) (s.put op x y).2) := by
  have hrx := row_c x op hx
  have hry := row_c y op hy
  have rx := rowE_ok op hx
  have ry := rowE_ok op hy
  have hxl := hx.2.1
  have hyl := hy.2.1
  have hc := (catE_ok (op := op) hx hy).2.1
  have hs := sizedI_c X s (catE op x y) (by omega)
  by_cases h7 : op = 7
  · have hcat := concatN_c [(rowE x op).2, (rowE y op).2, [nd op ((rowE x op).1 + (rowE y op).1)]] (by simp [szsN]; omega) (by simp)
    have e1 : [(rowE x op).2, (rowE y op).2, [nd op ((rowE x op).1 + (rowE y op).1)]].flatten = catE op x y := by
      rw [catE, if_pos h7, h7]; simp
    rw [e1] at hcat
    refine acalls_by Tryd.func29 Tryd.ntmps29 ?_
    simp only [argFr]
    repeat' (first
      | (show lCall; refine k_step (t_callB2 hs (gg := []) rfl) ?_)
      | (show lOp; refine op0 (by first | (show kAssign; exact b_assign) | (show kMove; exact b_move) | (show kCall; first | exact b_call (hrx) | exact b_call (hry) | exact b_call (hcat)) | (show kBinopAdd; exact b_add) | (show kBinopEql; exact b_eql) | (show kExtract; exact b_extract) | (show kBuild; exact b_buildSt) | (show kBuildslice; first | exact b_buildSl1 | exact b_buildSl3)) ?_)
      | (show lNil; refine al_nil ?_)
      | (show qSeq; refine n_seq ?_)
      | (show cReg; refine aw_reg ?_)
      | (show cSeq; refine aw_seq ?_)
      | (show cRet; refine aw_ret ?_)
      | (show cIf; refine aw_T ?_)
      | (show eRet; refine ret1 Tryd.results29 ?_))
    exact ⟨rfl, [], rfl⟩
  · have hcat := concatN_c [x, (rowE y op).2, [nd op (1 + (rowE y op).1)]] (by simp [szsN]; omega) (by simp)
    have e1 : [x, (rowE y op).2, [nd op (1 + (rowE y op).1)]].flatten = catE op x y := by
      rw [catE, if_neg h7]; simp
    rw [e1] at hcat
    refine acalls_by Tryd.func29 Tryd.ntmps29 ?_
    simp only [argFr]
    repeat' (first
      | (show lCall; refine k_step (t_callB2 hs (gg := []) rfl) ?_)
      | (show lOp; refine op0 (by first | (show kAssign; exact b_assign) | (show kMove; exact b_move) | (show kCall; first | exact b_call (hry) | exact b_call (hcat)) | (show kBinopAdd; exact b_add) | (show kBinopEql; exact b_eql) | (show kExtract; exact b_extract) | (show kBuild; exact b_buildSt) | (show kBuildslice; first | exact b_buildSl1 | exact b_buildSl3)) ?_)
      | (show lNil; refine al_nil ?_)
      | (show qSeq; refine n_seq ?_)
      | (show cReg; refine aw_reg ?_)
      | (show cSeq; refine aw_seq ?_)
      | (show cSkip; refine aw_skip ?_)
      | (show cRet; refine aw_ret ?_)
      | (show cIf; refine aw_F ?_)
      | (show eRet; refine ret1 Tryd.results29 ?_))
    exact ⟨rfl, [], rfl⟩
end Go.AL
set_option linter.unusedVariables false
namespace Go.AL
open Go.Proofs
set_option maxRecDepth 10000
attribute [local irreducible] AWp AList RStep seqQ blockQ retQ DSteps DT awR rQ SStep
set_option maxHeartbeats 4000000 in
theorem way_c (t : T) (k : List Nd) (s : GS) : t.size ≤ 4096 → okE k → s.okP → ACalls Tryd.prog 14 [.c (.ptr 1 0), pat t.enc, expr k] (gpσ tabX s) (gpR tabX (expr (wayP t k s).1) (wayP t k s).2) := by
  induction t, k, s using wayP.induct with
  | case1 t k s he =>
    intro ht hk hs
    rw [wayP.eq_def, if_pos he]
    have hp := t.size_pos
    refine acalls_by Tryd.func14 Tryd.ntmps14 ?_
    simp only [argFr]
    refine aw_gen2 (fun g M hM => ?_)
    repeat' (first
      | (show lOp; refine op0 (by first | (show kAssign; exact b_assign) | (show kMove; exact b_move) | (show kLoad; exact b_loadPtr) | (show kFieldaddr; exact b_fieldPtr) | (show kBinopNeq; exact b_neq) | (show kNilcheck; exact b_nilPtr)) ?_)
      | (show lNil; refine al_nil ?_)
      | (show qSeq; first | refine n_seq ?_ | refine p_seq ?_)
      | (show cReg; refine aw_reg ?_)
      | (show cSeq; refine aw_seq ?_)
      | (show cRet; refine aw_ret ?_)
      | (show cIf; refine aw_T ?_)
      | (show eRet; refine ret1 Tryd.results14 ?_))
    exact ⟨rfl, g, M, hM, rfl⟩
  | case2 k s he =>
    intro ht hk hs
    rw [wayP, if_neg he]
    have hl1 : T.emp.enc.length = 1 := rfl
    have htop := top_t .emp (by omega)
    refine acalls_by Tryd.func14 Tryd.ntmps14 ?_
    simp only [argFr]
    refine aw_gen2 (fun g M hM => ?_)
    repeat' (first
      | (show lOp; refine op0 (by first | (show kAssign; exact b_assign) | (show kMove; exact b_move) | (show kCall; first | exact b_call (htop) | exact m_lenSl) | (show kLoad; exact b_loadPtr) | (show kFieldaddr; exact b_fieldPtr) | (show kBinopSub; exact b_sub) | (show kBinopEql; exact b_eql) | (show kBinopNeq; exact b_neq) | (show kNilcheck; exact b_nilPtr)) ?_)
      | (show lNil; refine al_nil ?_)
      | (show qSeq; refine n_seq ?_)
      | (show qBlk; refine n_block ?_)
      | (show cReg; refine aw_reg ?_)
      | (show cSeq; refine aw_seq ?_)
      | (show cBlk; refine aw_block ?_)
      | (show cSkip; refine aw_skip ?_)
      | (show cRet; refine aw_ret ?_)
      | (show cIf; refine aw_F ?_)
      | (show eRet; refine ret1 Tryd.results14 ?_))
    exact ⟨rfl, g, M, hM, rfl⟩
  | case3 k s he =>
    intro ht hk hs
    rw [wayP, if_neg he]
    have hl1 : T.none.enc.length = 1 := rfl
    have htop := top_t .none (by omega)
    refine acalls_by Tryd.func14 Tryd.ntmps14 ?_
    simp only [argFr]
    refine aw_gen2 (fun g M hM => ?_)
    repeat' (first
      | (show lOp; refine op0 (by first | (show kAssign; exact b_assign) | (show kMove; exact b_move) | (show kCall; first | exact b_call (htop) | exact m_lenSl) | (show kLoad; exact b_loadPtr) | (show kFieldaddr; exact b_fieldPtr) | (show kBinopSub; exact b_sub) | (show kBinopEql; exact b_eql) | (show kBinopNeq; exact b_neq) | (show kNilcheck; exact b_nilPtr) | (show kBuild; exact b_buildSt) | (show kBuildslice; exact b_buildSl1)) ?_)
      | (show lNil; refine al_nil ?_)
      | (show qSeq; first | refine n_seq ?_ | refine p_seq ?_)
      | (show qBlk; refine p_block ?_)
      | (show cReg; refine aw_reg ?_)
      | (show cSeq; refine aw_seq ?_)
      | (show cBlk; refine aw_block ?_)
      | (show cSkip; refine aw_skip ?_)
      | (show cRet; refine aw_ret ?_)
      | (show cIf; first | refine aw_T ?_ | refine aw_F ?_)
      | (show eRet; refine ret1 Tryd.results14 ?_))
    exact ⟨rfl, g, M, hM, rfl⟩
  | case4 k s he c =>
    intro ht hk hs
    rw [wayP, if_neg he]
    have hl1 : (T.cls c).enc.length = 1 := rfl
    have htop := top_t (.cls c) (by omega)
    have hb := put_c tabX s 6 [⟨2, 0, ⟨#[]⟩, c⟩] k (okE_one _ rfl) hk
    refine acalls_by Tryd.func14 Tryd.ntmps14 ?_
    simp only [argFr]
    refine aw_gen2 (fun g M hM => ?_)
    repeat' (first
      | (show lCall; refine k_callB2 hb (by assumption) (fun g1 M1 hM1 => ?_))
      | (show lOp; refine op0 (by first | (show kAssign; exact b_assign) | (show kMove; exact b_move) | (show kCall; first | exact b_call (htop) | exact m_lenSl) | (show kLoad; first | exact b_loadRp | exact b_loadPtr) | (show kFieldaddr; first | exact b_fieldRp | exact b_fieldPtr) | (show kIndexaddr; exact m_indexSl) | (show kBinopSub; exact b_sub) | (show kBinopEql; exact b_eql) | (show kBinopNeq; exact b_neq) | (show kNilcheck; exact b_nilPtr) | (show kBuild; exact b_buildSt) | (show kBuildslice; exact b_buildSl1)) ?_)
      | (show lNil; refine al_nil ?_)
      | (show qSeq; first | refine n_seq ?_ | refine p_seq ?_)
      | (show qBlk; refine p_block ?_)
      | (show cReg; refine aw_reg ?_)
      | (show cSeq; refine aw_seq ?_)
      | (show cBlk; refine aw_block ?_)
      | (show cSkip; refine aw_skip ?_)
      | (show cRet; refine aw_ret ?_)
      | (show cIf; first | refine aw_T ?_ | refine aw_F ?_)
      | (show eRet; refine ret1 Tryd.results14 ?_))
    exact ⟨rfl, g1, M1, hM1, rfl⟩
  | case5 k s he x y ih1 ih2 =>
    intro ht hk hs
    have hsz := T.size_seq x y
    have hp := (T.seq x y).size_pos
    have hsz' : (T.seq x y).enc.length = (T.seq x y).size := rfl
    have htop := top_t (.seq x y) (by omega)
    have hsp := split_seq x y (by omega)
    have h1 := ih1 (by omega) hk hs
    have h2 := ih2 (by omega) (wayP_ok _ _ _ hk) (wayP_P _ _ _ hs).1
    rw [wayP, if_neg he]
    refine acalls_by Tryd.func14 Tryd.ntmps14 ?_
    simp only [argFr]
    refine aw_gen2 (fun g M hM => ?_)
    repeat' (first
      | (show lCall; first | refine k_callB2 h1 (by assumption) (fun g1 M1 hM1 => ?_) | refine k_callB2 h2 (by assumption) (fun g2 M2 hM2 => ?_))
      | (show lOp; refine op0 (by first | (show kAssign; exact b_assign) | (show kMove; exact b_move) | (show kCall; first | exact b_call (htop) | exact b_call (hsp) | exact m_lenSl) | (show kLoad; exact b_loadPtr) | (show kFieldaddr; exact b_fieldPtr) | (show kBinopSub; exact b_sub) | (show kBinopEql; exact b_eql) | (show kBinopNeq; exact b_neq) | (show kNilcheck; exact b_nilPtr) | (show kExtract; exact b_extract)) ?_)
      | (show lNil; refine al_nil ?_)
      | (show qSeq; first | refine n_seq ?_ | refine p_seq ?_)
      | (show qBlk; refine p_block ?_)
      | (show cReg; refine aw_reg ?_)
      | (show cSeq; refine aw_seq ?_)
      | (show cBlk; refine aw_block ?_)
      | (show cSkip; refine aw_skip ?_)
      | (show cRet; refine aw_ret ?_)
      | (show cIf; first | refine aw_T ?_ | refine aw_F ?_)
      | (show eRet; refine ret1 Tryd.results14 ?_))
    exact ⟨rfl, g2, M2, hM2, rfl⟩
  | case6 k s he x y p a ih1 ih2 ih3 =>
    intro ht hk hs
    have hsz := T.size_alt x y
    have hp := (T.alt x y).size_pos
    have hsz' : (T.alt x y).enc.length = (T.alt x y).size := rfl
    have htop := top_t (.alt x y) (by omega)
    have hsp := split_alt x y (by omega)
    have hko := sharedP_ok (s := s) hk
    have hsg := (sharedP_P (k := k) hs).1
    have h1 : ACalls _ _ _ _ _ := ih1 (by omega) hko hsg
    have h2 : ACalls _ _ _ _ _ := ih3 (by omega) hko (wayP_P _ _ _ hsg).1
    have h3 := put_c tabX (wayP y (s.sharedP k).1 (wayP x (s.sharedP k).1 (s.sharedP k).2).2).2 7 (wayP x (s.sharedP k).1 (s.sharedP k).2).1 (wayP y (s.sharedP k).1 (wayP x (s.sharedP k).1 (s.sharedP k).2).2).1 (wayP_ok _ _ _ hko) (wayP_ok _ _ _ hko)
    have hk1 := hk.1
    have hk2 := hk.2.1
    change ACalls Tryd.prog 14 [.c (.ptr 1 0), pat x.enc, expr (s.sharedP k).1] (gpσ tabX (s.sharedP k).2) (gpR tabX (expr (wayP x (s.sharedP k).1 (s.sharedP k).2).1) (wayP x (s.sharedP k).1 (s.sharedP k).2).2) at h1
    change ACalls Tryd.prog 14 [.c (.ptr 1 0), pat y.enc, expr (s.sharedP k).1] (gpσ tabX (wayP x (s.sharedP k).1 (s.sharedP k).2).2) (gpR tabX (expr (wayP y (s.sharedP k).1 (wayP x (s.sharedP k).1 (s.sharedP k).2).2).1) (wayP y (s.sharedP k).1 (wayP x (s.sharedP k).1 (s.sharedP k).2).2).2) at h2
    rw [wayP, if_neg he]
    show ACalls Tryd.prog 14 _ _ (gpR tabX (expr ((wayP y (s.sharedP k).1 (wayP x (s.sharedP k).1 (s.sharedP k).2).2).2.put 7 (wayP x (s.sharedP k).1 (s.sharedP k).2).1 (wayP y (s.sharedP k).1 (wayP x (s.sharedP k).1 (s.sharedP k).2).2).1).1) ((wayP y (s.sharedP k).1 (wayP x (s.sharedP k).1 (s.sharedP k).2).2).2.put 7 (wayP x (s.sharedP k).1 (s.sharedP k).2).1 (wayP y (s.sharedP k).1 (wayP x (s.sharedP k).1 (s.sharedP k).2).2).1).2)
    by_cases hk4 : (at' k ((k.length : Int) - 1)).op = 4
    · have e : s.sharedP k = (k, s) := by rw [GS.sharedP, if_pos hk4]
      rw [e] at h1 h2 h3 ⊢
      dsimp only at h1 h2 h3 ⊢
      refine acalls_by Tryd.func14 Tryd.ntmps14 ?_
      simp only [argFr]
      refine aw_gen2 (fun g M hM => ?_)
      repeat' (first
        | (show lCall; first | refine k_callB2 h1 (by assumption) (fun g1 M1 hM1 => ?_) | refine k_callB2 h2 (by assumption) (fun g2 M2 hM2 => ?_) | refine k_callB2 h3 (by assumption) (fun g3 M3 hM3 => ?_))
        | (show lOp; refine op0 (by first | (show kAssign; exact b_assign) | (show kMove; exact b_move) | (show kCall; first | exact b_call (htop) | exact b_call (hsp) | exact m_lenSl) | (show kLoad; first | exact b_loadRp | exact b_loadPtr) | (show kFieldaddr; first | exact b_fieldRp | exact b_fieldPtr) | (show kIndexaddr; exact m_indexSl) | (show kBinopSub; exact b_sub) | (show kBinopEql; exact b_eql) | (show kBinopNeq; exact b_neq) | (show kNilcheck; exact b_nilPtr) | (show kExtract; exact b_extract)) ?_)
        | (show lNil; refine al_nil ?_)
        | (show qSeq; first | refine n_seq ?_ | refine p_seq ?_)
        | (show qBlk; refine p_block ?_)
        | (show cReg; refine aw_reg ?_)
        | (show cSeq; refine aw_seq ?_)
        | (show cBlk; refine aw_block ?_)
        | (show cSkip; refine aw_skip ?_)
        | (show cRet; refine aw_ret ?_)
        | (show cIf; first | refine aw_T ?_ | refine aw_F ?_ | refine aw_ifD (fun h => ?_) (fun h => ?_))
        | (show eRet; refine ret1 Tryd.results14 ?_)
        | (exfalso; omega))
      exact ⟨rfl, g3, M3, hM3, rfl⟩
    · have e : s.sharedP k = (askE (s.begunP.2.setBody s.begunP.1 k) s.begunP.1, s.begunP.2.setBody s.begunP.1 k) := by rw [GS.sharedP, if_neg hk4]
      rw [e] at h1 h2 h3 ⊢
      dsimp only at h1 h2 h3 ⊢
      have hbl := hs.le
      have hb := begun_p s (by omega)
      obtain ⟨hb1, hb2, hb3⟩ := begunP_P hs
      have hb4 := hb1.le
      have hask := ref_c tabX (s.begunP.2.setBody s.begunP.1 k) s.begunP.1 (by omega) (by rw [setBody_len]; omega)
      simp only [gpσ] at hask
      rw [setBody_len] at hask
      refine acalls_by Tryd.func14 Tryd.ntmps14 ?_
      simp only [argFr]
      refine aw_gen2 (fun g M hM => ?_)
      repeat' (first
        | (show lStore; refine k_storePart (f := encRl) (⟨(at' s.begunP.2.rules (s.begunP.1 : Int)).name, k⟩ : Rl) ?_)
        | (show lCall; first | refine k_callB2 hb (by assumption) (fun g0 M0 hM0 => ?_) | refine k_callB2 hask (by assumption) (fun g4 M4 hM4 => ?_) | refine k_callB2 h1 (by assumption) (fun g1 M1 hM1 => ?_) | refine k_callB2 h2 (by assumption) (fun g2 M2 hM2 => ?_) | refine k_callB2 h3 (by assumption) (fun g3 M3 hM3 => ?_))
        | (show lOp; refine op0 (by first | (show kAssign; exact b_assign) | (show kMove; exact b_move) | (show kCall; first | exact b_call (htop) | exact b_call (hsp) | exact m_lenSl) | (show kLoad; first | exact b_loadRp | exact b_loadPtr) | (show kFieldaddr; first | exact b_fieldRp | exact b_fieldPtr | exact b_fieldEpt) | (show kIndexaddr; first | exact m_indexSl | exact m_indexMs) | (show kBinopSub; exact b_sub) | (show kBinopEql; exact b_eql) | (show kBinopNeq; exact b_neq) | (show kNilcheck; exact b_nilPtr) | (show kExtract; exact b_extract)) ?_)
        | (show lNil; refine al_nil ?_)
        | (show qSeq; first | refine n_seq ?_ | refine p_seq ?_)
        | (show qBlk; refine p_block ?_)
        | (show cReg; refine aw_reg ?_)
        | (show cSeq; refine aw_seq ?_)
        | (show cBlk; refine aw_block ?_)
        | (show cSkip; refine aw_skip ?_)
        | (show cRet; refine aw_ret ?_)
        | (show cIf; first | refine aw_T ?_ | refine aw_F ?_)
        | (show eRet; refine ret1 Tryd.results14 ?_))
      exact ⟨rfl, g3, M3, hM3, rfl⟩
  | case7 k s he a hl =>
    intro ht hk hs
    have hsz := T.size_star a
    have hp := (T.star a).size_pos
    have hsz' : (T.star a).enc.length = a.size + 1 := hsz
    have htop := top_t (.star a) (by omega)
    have e1 : (T.star a).enc.take (((T.star a).enc.length : Int) - 1).toNat = a.enc := by
      have : (((T.star a).enc.length : Int) - 1).toNat = a.enc.length := by simp [T.enc]
      rw [this]; simp [T.enc]
    obtain ⟨err, lg, rules⟩ := s
    have he0 : err = 0 := by simpa using he
    subst he0
    have hlg : lg = false := hs.lg rfl
    subst hlg
    have hleft := left_c a false (by omega)
    rw [hl] at hleft
    have hfail := fail_c tabX (⟨0, true, rules⟩ : GS) 52
    have hstar : ACalls Tryd.prog 33 [.c (.ptr 1 0), pat a.enc, expr k] (gpσ tabX ⟨0, false, rules⟩) (gpR tabX (expr k) ⟨52, true, rules⟩) := by
      refine acalls_by Tryd.func33 Tryd.ntmps33 ?_
      simp only [argFr]
      refine aw_gen2 (fun g M hM => ?_)
      repeat' (first
        | (show lCall; first | refine k_callC hleft ?_ | refine k_callB2 hfail (by assumption) (fun g1 M1 hM1 => ?_))
        | (show lOp; refine op0 (by first | (show kAssign; exact b_assign) | (show kMove; exact b_move) | (show kLoad; exact b_loadPtr) | (show kFieldaddr; exact b_fieldPtr) | (show kBinopNeq; exact b_neq) | (show kPick; exact b_pickT) | (show kNilcheck; exact b_nilPtr)) ?_)
        | (show lGu; refine al_none ?_)
        | (show lNil; refine al_nil ?_)
        | (show qSeq; first | refine n_seq ?_ | refine p_seq ?_)
        | (show cReg; refine aw_reg ?_)
        | (show cSeq; refine aw_seq ?_)
        | (show cRet; refine aw_ret ?_)
        | (show cIf; refine aw_T ?_)
        | (show eRet; refine ret1 Tryd.results33 ?_))
      exact ⟨rfl, g1, M1, hM1, rfl⟩
    rw [← e1] at hstar
    rw [wayP, if_neg he]; simp only; rw [if_pos hl]
    refine acalls_by Tryd.func14 Tryd.ntmps14 ?_
    simp only [argFr]
    refine aw_gen2 (fun g M hM => ?_)
    repeat' (first
      | (show lCall; refine k_callB2 hstar (by assumption) (fun g1 M1 hM1 => ?_))
      | (show lOp; refine op0 (by first | (show kAssign; exact b_assign) | (show kMove; exact b_move) | (show kCall; first | exact b_call (htop) | exact m_lenSl) | (show kLoad; exact b_loadPtr) | (show kFieldaddr; exact b_fieldPtr) | (show kBinopSub; exact b_sub) | (show kBinopEql; exact b_eql) | (show kBinopNeq; exact b_neq) | (show kNilcheck; exact b_nilPtr) | (show kSlice; exact m_sliceSlH)) ?_)
      | (show lNil; refine al_nil ?_)
      | (show qSeq; first | refine n_seq ?_ | refine p_seq ?_)
      | (show qBlk; refine p_block ?_)
      | (show cReg; refine aw_reg ?_)
      | (show cSeq; refine aw_seq ?_)
      | (show cBlk; refine aw_block ?_)
      | (show cSkip; refine aw_skip ?_)
      | (show cRet; refine aw_ret ?_)
      | (show cIf; first | refine aw_T ?_ | refine aw_F ?_)
      | (show eRet; refine ret1 Tryd.results14 ?_))
    exact ⟨rfl, g1, M1, hM1, rfl⟩
  | case8 k s he a hl h0 =>
    intro ht hk hs
    have hsz := T.size_star a
    have hp := (T.star a).size_pos
    have hsz' : (T.star a).enc.length = a.size + 1 := hsz
    have htop := top_t (.star a) (by omega)
    have e1 : (T.star a).enc.take (((T.star a).enc.length : Int) - 1).toNat = a.enc := by
      have : (((T.star a).enc.length : Int) - 1).toNat = a.enc.length := by simp [T.enc]
      rw [this]; simp [T.enc]
    obtain ⟨err, lg, rules⟩ := s
    have he0 : err = 0 := by simpa using he
    subst he0
    have hlg : lg = false := hs.lg rfl
    subst hlg
    have hleft := left_c a false (by omega)
    have hl' : (leftT a false).2 = false := by simpa using hl
    rw [hl'] at hleft
    have htop2 := top_t (leftT a false).1 (by have := leftT_size a false (by omega); omega)
    rw [h0] at htop2
    have hstar : ACalls Tryd.prog 33 [.c (.ptr 1 0), pat a.enc, expr k] (gpσ tabX ⟨0, false, rules⟩) (gpR tabX (expr k) ⟨0, false, rules⟩) := by
      refine acalls_by Tryd.func33 Tryd.ntmps33 ?_
      simp only [argFr]
      refine aw_gen2 (fun g M hM => ?_)
      repeat' (first
        | (show lCall; refine k_callC hleft ?_)
        | (show lOp; refine op0 (by first | (show kAssign; exact b_assign) | (show kMove; exact b_move) | (show kCall; exact b_call (htop2)) | (show kLoad; exact b_loadPtr) | (show kFieldaddr; exact b_fieldPtr) | (show kBinopEql; exact b_eql) | (show kBinopNeq; exact b_neq) | (show kPick; exact b_pickF) | (show kNilcheck; exact b_nilPtr)) ?_)
        | (show lGu; refine al_yes ?_)
        | (show lNil; refine al_nil ?_)
        | (show qSeq; first | refine n_seq ?_ | refine p_seq ?_)
        | (show cReg; refine aw_reg ?_)
        | (show cSeq; refine aw_seq ?_)
        | (show cSkip; refine aw_skip ?_)
        | (show cRet; refine aw_ret ?_)
        | (show cIf; first | refine aw_T ?_ | refine aw_F ?_)
        | (show eRet; refine ret1 Tryd.results33 ?_))
      exact ⟨rfl, g, M, hM, rfl⟩
    rw [← e1] at hstar
    rw [wayP, if_neg he]; simp only; rw [if_neg hl, if_pos h0]
    refine acalls_by Tryd.func14 Tryd.ntmps14 ?_
    simp only [argFr]
    refine aw_gen2 (fun g M hM => ?_)
    repeat' (first
      | (show lCall; refine k_callB2 hstar (by assumption) (fun g1 M1 hM1 => ?_))
      | (show lOp; refine op0 (by first | (show kAssign; exact b_assign) | (show kMove; exact b_move) | (show kCall; first | exact b_call (htop) | exact m_lenSl) | (show kLoad; exact b_loadPtr) | (show kFieldaddr; exact b_fieldPtr) | (show kBinopSub; exact b_sub) | (show kBinopEql; exact b_eql) | (show kBinopNeq; exact b_neq) | (show kNilcheck; exact b_nilPtr) | (show kSlice; exact m_sliceSlH)) ?_)
      | (show lNil; refine al_nil ?_)
      | (show qSeq; first | refine n_seq ?_ | refine p_seq ?_)
      | (show qBlk; refine p_block ?_)
      | (show cReg; refine aw_reg ?_)
      | (show cSeq; refine aw_seq ?_)
      | (show cBlk; refine aw_block ?_)
      | (show cSkip; refine aw_skip ?_)
      | (show cRet; refine aw_ret ?_)
      | (show cIf; first | refine aw_T ?_ | refine aw_F ?_)
      | (show eRet; refine ret1 Tryd.results14 ?_))
    exact ⟨rfl, g1, M1, hM1, rfl⟩
  | case9 k s he a hl h0 ih =>
    intro ht hk hs
    have hbl := hs.le
    obtain ⟨hb1, hb2, hb3⟩ := begunP_P hs
    have hb4 := hb1.le
    have hb := begun_p s (by omega)
    have ih' : ACalls _ _ _ _ _ := ih (leftT_size a false (by rw [T.size_star] at ht; omega)) (ask_ok _ _) hb1
    have hwok := wayP_ok (leftT a false).1 (askE s.begunP.2 s.begunP.1) s.begunP.2 (ask_ok _ _)
    have hwP := wayP_P (leftT a false).1 (askE s.begunP.2 s.begunP.1) s.begunP.2 hb1
    have hput := putI_c tabX (wayP (leftT a false).1 (askE s.begunP.2 s.begunP.1) s.begunP.2).2 7 _ k hwok hk
    have hask := ref_c tabX s.begunP.2 s.begunP.1 (by omega) (by omega)
    have hsz := T.size_star a
    have hp := (T.star a).size_pos
    have hsz' : (T.star a).enc.length = a.size + 1 := hsz
    have htop := top_t (.star a) (by omega)
    have e1 : (T.star a).enc.take (((T.star a).enc.length : Int) - 1).toNat = a.enc := by
      have : (((T.star a).enc.length : Int) - 1).toNat = a.enc.length := by simp [T.enc]
      rw [this]; simp [T.enc]
    rw [wayP, if_neg he]; simp only; rw [if_neg hl, if_neg h0]
    generalize hR : wayP (leftT a false).1 (askE s.begunP.2 s.begunP.1) s.begunP.2 = R at *
    have hRl := hwP.2
    have hRl2 : s.begunP.1 < R.2.rules.length := by omega
    obtain ⟨err, lg, rules⟩ := s
    have he0 : err = 0 := by simpa using he
    subst he0
    have hlg : lg = false := hs.lg rfl
    subst hlg
    have hleft := left_c a false (by omega)
    have hl' : (leftT a false).2 = false := by simpa using hl
    rw [hl'] at hleft
    have htop2 := top_t (leftT a false).1 (by have := leftT_size a false (by omega); omega)
    have hstar : ACalls Tryd.prog 33 [.c (.ptr 1 0), pat a.enc, expr k] (gpσ tabX ⟨0, false, rules⟩) (gpR tabX (expr (askE (GS.mk 0 false rules).begunP.2 (GS.mk 0 false rules).begunP.1)) ((R.2.put 7 R.1 k).2.setBody (GS.mk 0 false rules).begunP.1 (R.2.put 7 R.1 k).1)) := by
      refine acalls_by Tryd.func33 Tryd.ntmps33 ?_
      simp only [argFr]
      refine aw_gen2 (fun g M hM => ?_)
      repeat' (first
        | (show cAtD 9; refine' aw_dt 9 8 ([.ext tabX, .cells (bC (lgP R.2.lg) (M4 + 0) R.2.rules.length (err1 (R.2.put 7 R.1 k).2.err))] ++ (g4 ++ [.arr 52 3 (R.2.rules.map encRl)])) Tryd_mixed _)
        | (show lStore; refine k_storePart (f := encRl) (⟨(at' R.2.rules ((GS.mk 0 false rules).begunP.1 : Int)).name, (R.2.put 7 R.1 k).1⟩ : Rl) ?_)
        | (show lCall; first | refine k_callC hleft ?_ | refine k_callB2 hb (by assumption) (fun g0 M0 hM0 => ?_) | refine k_callB2 hask (by assumption) (fun g3 M3 hM3 => ?_) | refine k_callB2 ih' (by assumption) (fun g4 M4 hM4 => ?_))
        | (show lOp; refine op0 (by first | (show kAssign; exact b_assign) | (show kMove; exact b_move) | (show kCall; exact b_call (htop2)) | (show kLoad; exact b_loadPtr) | (show kFieldaddr; first | exact b_fieldPtr | exact b_fieldEpt) | (show kIndexaddr; exact m_indexMs) | (show kBinopEql; exact b_eql) | (show kBinopNeq; exact b_neq) | (show kPick; exact b_pickF) | (show kNilcheck; exact b_nilPtr)) ?_)
        | (show lGu; refine al_yes ?_)
        | (show lNil; refine al_nil ?_)
        | (show qSeq; refine n_seq ?_)
        | (show cReg; refine aw_reg ?_)
        | (show cSeq; refine aw_seq ?_)
        | (show cSkip; refine aw_skip ?_)
        | (show cRet; refine aw_ret ?_)
        | (show cIf; refine aw_F ?_)
        | (show tNil; refine dt_nil ?_)
        | (show tSome; first | refine dt_turn (by exact t_callB2 hput (by assumption)) ?_ | (refine dt_pre (by first | (show kMove; exact b_move) | (show kLoad; exact b_loadPtr) | (show kFieldaddr; exact b_fieldPtr) | (show kNilcheck; exact b_nilPtr)) (by decide +kernel) ?_) | (refine dt_pre2 (by first | (show kMove; exact b_move) | (show kLoad; exact b_loadPtr) | (show kFieldaddr; exact b_fieldPtr) | (show kNilcheck; exact b_nilPtr)) (by first | (show kMove; exact b_move) | (show kLoad; exact b_loadPtr) | (show kFieldaddr; exact b_fieldPtr) | (show kNilcheck; exact b_nilPtr)) ?_))
        | (show eRet; refine ret1 Tryd.results33 ?_))
      refine ⟨rfl, g4, M4, hM4, ?_⟩
      rw [setBody_len, put_rules]
      rfl
    rw [← e1] at hstar
    refine acalls_by Tryd.func14 Tryd.ntmps14 ?_
    simp only [argFr]
    refine aw_gen2 (fun g M hM => ?_)
    repeat' (first
      | (show lCall; refine k_callB2 hstar (by assumption) (fun g1 M1 hM1 => ?_))
      | (show lOp; refine op0 (by first | (show kAssign; exact b_assign) | (show kMove; exact b_move) | (show kCall; first | exact b_call (htop) | exact m_lenSl) | (show kLoad; exact b_loadPtr) | (show kFieldaddr; exact b_fieldPtr) | (show kBinopSub; exact b_sub) | (show kBinopEql; exact b_eql) | (show kBinopNeq; exact b_neq) | (show kNilcheck; exact b_nilPtr) | (show kSlice; exact m_sliceSlH)) ?_)
      | (show lNil; refine al_nil ?_)
      | (show qSeq; first | refine n_seq ?_ | refine p_seq ?_)
      | (show qBlk; refine p_block ?_)
      | (show cReg; refine aw_reg ?_)
      | (show cSeq; refine aw_seq ?_)
      | (show cBlk; refine aw_block ?_)
      | (show cSkip; refine aw_skip ?_)
      | (show cRet; refine aw_ret ?_)
      | (show cIf; first | refine aw_T ?_ | refine aw_F ?_)
      | (show eRet; refine ret1 Tryd.results14 ?_))
    exact ⟨rfl, g1, M1, hM1, rfl⟩
end Go.AL
set_option linter.unusedVariables false
set_option linter.unusedSimpArgs false
namespace Go.AL
/-! ### 1. An error once told stays -/
theorem put_stop {s : GS} {op : Int} {x y : List Nd} (h : s.err ≠ 0) : (s.put op x y).2 = s := by
  simp only [GS.put, putE_stop h]
theorem wayR_stop {t : T} {k : List Nd} {s : GS} (h : s.err ≠ 0) : wayR t k s = ([nd 0 0], s) := by
  rw [wayR.eq_def, if_pos h]
theorem wayP_stop {t : T} {k : List Nd} {s : GS} (h : s.err ≠ 0) : wayP t k s = (k, s) := by
  rw [wayP.eq_def, if_pos h]
theorem put_same {s s' : GS} {op : Int} {x y x' y' : List Nd} (he : s.err = s'.err) (h : s.err = 0 → s = s' ∧ x = x' ∧ y = y') :
    (s.put op x y).2.err = (s'.put op x' y').2.err ∧ ((s.put op x y).2.err = 0 → s.put op x y = s'.put op x' y') := by
  by_cases h0 : s.err = 0
  · obtain ⟨rfl, rfl, rfl⟩ := h h0
    exact ⟨rfl, fun _ => rfl⟩
  · have h0' : s'.err ≠ 0 := by rw [← he]; exact h0
    rw [put_stop h0, put_stop h0']
    exact ⟨he, fun h => absurd h h0⟩
theorem begun_small {s : GS} (h : s.rules.length < 256) : s.begunR = s.begunP := by
  simp only [GS.begunR, GS.begunP]
  rw [if_neg (by omega), if_neg (by omega)]
theorem begun_big {s : GS} (h : ¬ s.rules.length < 256) (h0 : s.err = 0) : s.begunR.2.err = 51 ∧ s.begunP.2.err = 51 := by
  simp only [GS.begunR, GS.begunP]
  rw [if_pos (by omega), if_pos (by omega)]
  exact ⟨rfl, by simp [h0]⟩
theorem shared_same {s : GS} {k : List Nd} (h0 : s.err = 0) : (s.sharedR k).2.err = (s.sharedP k).2.err ∧ ((s.sharedR k).2.err = 0 → s.sharedR k = s.sharedP k) := by
  unfold GS.sharedR GS.sharedP
  split
  · exact ⟨rfl, fun _ => rfl⟩
  · by_cases h : s.rules.length < 256
    · rw [begun_small h]; exact ⟨rfl, fun _ => rfl⟩
    · obtain ⟨h1, h2⟩ := begun_big h h0
      have e1 : (s.begunR.2.setBody s.begunR.1 k).err = 51 := h1
      have e2 : (s.begunP.2.setBody s.begunP.1 k).err = 51 := h2
      refine ⟨by rw [e1, e2], fun h => ?_⟩
      rw [e1] at h; cases h
/-! ### 2. Names stay -/
theorem at'_setN {α} [Inhabited α] (l : List α) (i j : Nat) (x : α) : at' (l.set i x) (j : Int) = if i = j ∧ j < l.length then x else at' l (j : Int) := by
  simp only [at', Int.toNat_natCast, List.getElem!_eq_getElem?_getD, List.getElem?_set]
  by_cases h : i = j
  · subst h
    by_cases h2 : i < l.length
    · simp [h2]
    · simp [h2, List.getElem?_eq_none (Nat.le_of_not_lt h2)]
  · simp [h]
theorem at'_appN {α} [Inhabited α] (l r : List α) (j : Nat) (h : j < l.length) : at' (l ++ r) (j : Int) = at' l (j : Int) := by
  simp only [at', Int.toNat_natCast, List.getElem!_eq_getElem?_getD]
  rw [List.getD_eq_getElem?_getD, List.getElem?_append_left h, List.getD_eq_getElem?_getD]
def Keeps (s s' : GS) : Prop := s.rules.length ≤ s'.rules.length ∧ ∀ j : Nat, j < s.rules.length → (at' s'.rules (j : Int)).name = (at' s.rules (j : Int)).name
theorem Keeps.rfl {s : GS} : Keeps s s := ⟨Nat.le_refl _, fun _ _ => Eq.refl _⟩
theorem Keeps.trans {a b c : GS} (h : Keeps a b) (h' : Keeps b c) : Keeps a c := ⟨Nat.le_trans h.1 h'.1, fun j hj => (h'.2 j (Nat.lt_of_lt_of_le hj h.1)).trans (h.2 j hj)⟩
theorem keeps_put {s : GS} {op : Int} {x y : List Nd} : Keeps s (s.put op x y).2 := ⟨Nat.le_refl _, fun _ _ => Eq.refl _⟩
theorem keeps_setBody {s : GS} {i : Nat} {e : List Nd} : Keeps s (s.setBody i e) := by
  refine ⟨by rw [setBody_len]; exact Nat.le_refl _, fun j hj => ?_⟩
  simp only [GS.setBody, at'_setN]
  split
  · rename_i h; rw [h.1]
  · rfl
theorem keeps_begunR {s : GS} : Keeps s s.begunR.2 := ⟨by rw [begunR_len]; omega, fun j hj => by simp only [GS.begunR, at'_appN _ _ _ hj]⟩
theorem keeps_sharedR {s : GS} {k : List Nd} : Keeps s (s.sharedR k).2 := by
  unfold GS.sharedR; split
  · exact .rfl
  · exact keeps_begunR.trans keeps_setBody
theorem wayR_keeps (t : T) (k : List Nd) (s : GS) : Keeps s (wayR t k s).2 := by
  induction t, k, s using wayR.induct with
  | case1 t k s he => rw [wayR.eq_def, if_pos he]; exact .rfl
  | case2 k s he => rw [wayR, if_neg he]; exact .rfl
  | case3 k s he => rw [wayR, if_neg he]; exact .rfl
  | case4 k s he c => rw [wayR, if_neg he]; exact keeps_put
  | case5 k s he x y ih1 ih2 => rw [wayR, if_neg he]; exact ih1.trans ih2
  | case6 k s he x y p a ih1 ih2 ih3 => rw [wayR, if_neg he]; exact ((keeps_sharedR.trans ih1).trans ih3).trans keeps_put
  | case7 k s he a hl => rw [wayR, if_neg he]; simp only; rw [if_pos hl]; exact ⟨Nat.le_refl _, fun _ _ => rfl⟩
  | case8 k s he a hl h0 => rw [wayR, if_neg he]; simp only; rw [if_neg hl, if_pos h0]; exact .rfl
  | case9 k s he a hl h0 ih =>
    rw [wayR, if_neg he]; simp only; rw [if_neg hl, if_neg h0]
    exact ((keeps_begunR.trans ih).trans keeps_put).trans keeps_setBody
theorem ask_same {s s' : GS} {i : Nat} (h : Keeps s s') (hi : i < s.rules.length) : askE s' i = askE s i := by
  simp only [askE, h.2 i hi]
/-! ### 3. The two builders build the same -/
theorem way_same (t : T) (k : List Nd) (s : GS) : s.err = 0 → s.okP → (wayR t k s).2.err = (wayP t k s).2.err ∧ ((wayR t k s).2.err = 0 → wayR t k s = wayP t k s) := by
  induction t, k, s using wayR.induct with
  | case1 t k s he => intro h; exact absurd h he
  | case2 k s he => intro h hp; rw [wayR, if_neg he, wayP, if_neg he]; exact ⟨rfl, fun _ => rfl⟩
  | case3 k s he => intro h hp; rw [wayR, if_neg he, wayP, if_neg he]; exact ⟨rfl, fun _ => rfl⟩
  | case4 k s he c => intro h hp; rw [wayR, if_neg he, wayP, if_neg he]; exact ⟨rfl, fun _ => rfl⟩
  | case5 k s he x y ih1 ih2 =>
    intro h hp
    rw [wayR, if_neg he, wayP, if_neg he]
    have h1 := ih1 h hp
    by_cases h0 : (wayR y k s).2.err = 0
    · have e := h1.2 h0
      rw [← e]
      refine ih2 h0 ?_
      rw [e]; exact (wayP_P _ _ _ hp).1
    · have h0' : (wayP y k s).2.err ≠ 0 := by rw [← h1.1]; exact h0
      rw [wayR_stop h0, wayP_stop h0']
      exact ⟨h1.1, fun h => absurd h h0⟩
  | case6 k s he x y p a ih1 ih2 ih3 =>
    intro h hp
    rw [wayR, if_neg he, wayP, if_neg he]
    simp only
    have hs := shared_same (k := k) h
    have hq := (sharedP_P (k := k) hp).1
    change (s.sharedR k).2.err = 0 → (s.sharedR k).2.okP → (wayR x (s.sharedR k).1 (s.sharedR k).2).2.err = (wayP x (s.sharedR k).1 (s.sharedR k).2).2.err ∧ ((wayR x (s.sharedR k).1 (s.sharedR k).2).2.err = 0 → wayR x (s.sharedR k).1 (s.sharedR k).2 = wayP x (s.sharedR k).1 (s.sharedR k).2) at ih1
    change (wayR x (s.sharedR k).1 (s.sharedR k).2).2.err = 0 → (wayR x (s.sharedR k).1 (s.sharedR k).2).2.okP → (wayR y (s.sharedR k).1 (wayR x (s.sharedR k).1 (s.sharedR k).2).2).2.err = (wayP y (s.sharedR k).1 (wayR x (s.sharedR k).1 (s.sharedR k).2).2).2.err ∧ ((wayR y (s.sharedR k).1 (wayR x (s.sharedR k).1 (s.sharedR k).2).2).2.err = 0 → wayR y (s.sharedR k).1 (wayR x (s.sharedR k).1 (s.sharedR k).2).2 = wayP y (s.sharedR k).1 (wayR x (s.sharedR k).1 (s.sharedR k).2).2) at ih3
    by_cases h0 : (s.sharedR k).2.err = 0
    · have e := hs.2 h0
      rw [← e] at hq ⊢
      have h1 := ih1 h0 hq
      by_cases h00 : (wayR x (s.sharedR k).1 (s.sharedR k).2).2.err = 0
      · have e1 := h1.2 h00
        have hq1 := (wayP_P x (s.sharedR k).1 (s.sharedR k).2 hq).1
        rw [← e1] at hq1 ⊢
        have h3 := ih3 h00 hq1
        exact put_same h3.1 fun h4 => by rw [h3.2 h4]; exact ⟨rfl, rfl, rfl⟩
      · have h00' : (wayP x (s.sharedR k).1 (s.sharedR k).2).2.err ≠ 0 := by rw [← h1.1]; exact h00
        rw [wayR_stop h00, wayP_stop h00']
        exact put_same h1.1 fun h => absurd h h00
    · have h0' : (s.sharedP k).2.err ≠ 0 := by rw [← hs.1]; exact h0
      rw [wayR_stop h0, wayP_stop h0', wayR_stop h0, wayP_stop h0']
      exact put_same hs.1 fun h => absurd h h0
  | case7 k s he a hl => intro h hp; rw [wayR, if_neg he, wayP, if_neg he]; simp only; rw [if_pos hl, if_pos hl]; exact ⟨rfl, fun h => by simp at h⟩
  | case8 k s he a hl h0 =>
    intro h hp
    rw [wayR, if_neg he, wayP, if_neg he]; simp only; rw [if_neg hl, if_pos h0, if_neg hl, if_pos h0]
    have := hp.lg h
    refine ⟨rfl, fun _ => ?_⟩
    obtain ⟨e, l, r⟩ := s
    simp only at this
    rw [this]
  | case9 k s he a hl h0 ih =>
    intro h hp
    rw [wayR, if_neg he, wayP, if_neg he]; simp only; rw [if_neg hl, if_neg h0, if_neg hl, if_neg h0]
    by_cases h2 : s.rules.length < 256
    · have hq := begunP_P hp
      have hb := begun_small h2
      have hk := (wayR_keeps (leftT a false).1 (askE s.begunR.2 s.begunR.1) s.begunR.2).trans ((keeps_put (op := 7) (x := (wayR (leftT a false).1 (askE s.begunR.2 s.begunR.1) s.begunR.2).1) (y := k)).trans (keeps_setBody (i := s.begunR.1) (e := ((wayR (leftT a false).1 (askE s.begunR.2 s.begunR.1) s.begunR.2).2.put 7 (wayR (leftT a false).1 (askE s.begunR.2 s.begunR.1) s.begunR.2).1 k).1)))
      rw [hb] at ih hk ⊢
      have h1 := ih (by simp only [GS.begunP]; rw [if_neg (by omega)]; exact h) hq.1
      rw [ask_same hk hq.2.2]
      by_cases h3 : (wayR (leftT a false).1 (askE s.begunP.2 s.begunP.1) s.begunP.2).2.err = 0
      · rw [← h1.2 h3]; exact ⟨rfl, fun _ => rfl⟩
      · have h3' : (wayP (leftT a false).1 (askE s.begunP.2 s.begunP.1) s.begunP.2).2.err ≠ 0 := by rw [← h1.1]; exact h3
        rw [put_stop h3, put_stop h3']
        exact ⟨h1.1, fun h => absurd h h3⟩
    · obtain ⟨b1, b2⟩ := begun_big h2 h
      have h3 : s.begunR.2.err ≠ 0 := by rw [b1]; decide
      have h3' : s.begunP.2.err ≠ 0 := by rw [b2]; decide
      rw [wayR_stop h3, wayP_stop h3']
      dsimp only
      rw [put_stop h3, put_stop h3']
      exact ⟨by simp only [GS.setBody, b1, b2], fun h => absurd h (by simp only [GS.setBody, b1]; decide)⟩
end Go.AL
set_option linter.unusedVariables false
set_option linter.unusedSimpArgs false
namespace Go.AL
/-! ### 1. Rows of trees -/
inductive Fo : List Nd → Nat → Prop
  | nil : Fo [] 0
  | node {e : List Nd} {c n : Nat} {x : Nd} (h : Fo e (c + n)) (hn : x.n = n) : Fo (e ++ [x]) (c + 1)
theorem Fo.app {e f : List Nd} {c d : Nat} (h : Fo e c) (h' : Fo f d) : Fo (e ++ f) (c + d) := by
  induction h' with
  | nil => simpa using h
  | @node f' c' n x h1 hn ih =>
    rw [← List.append_assoc]
    have := Fo.node (c := c + c') (n := n) (x := x) (by rw [Nat.add_assoc]; exact ih) hn
    rwa [Nat.add_assoc] at this
theorem Fo.one {x : Nd} (h : x.n = 0) : Fo [x] 1 := Fo.node (e := []) (c := 0) (n := 0) .nil h
theorem Fo.last {e : List Nd} (h : Fo e 1) : ∃ (f : List Nd) (n : Nat) (x : Nd), e = f ++ [x] ∧ Fo f n ∧ x.n = n := by
  generalize hc : 1 = c at h
  cases h with
  | nil => cases hc
  | @node f c n x h hn =>
    have : c = 0 := by omega
    subst this
    rw [Nat.zero_add] at h
    exact ⟨f, n, x, rfl, h, hn⟩
theorem Fo.ne {e : List Nd} (h : Fo e 1) : 0 < e.length := by
  obtain ⟨f, n, x, rfl, _⟩ := h.last
  simp
theorem Fo.row {e : List Nd} (op : Int) (h : Fo e 1) : ∃ n : Nat, (rowE e op).1 = n ∧ Fo (rowE e op).2 n := by
  obtain ⟨f, n, x, rfl, h1, h2⟩ := h.last
  unfold rowE
  rw [top_snoc]
  split
  · refine ⟨n, h2, ?_⟩
    simpa using h1
  · exact ⟨1, rfl, h⟩
theorem Fo.cat {op : Int} {x y : List Nd} (hx : Fo x 1) (hy : Fo y 1) : Fo (catE op x y) 1 := by
  obtain ⟨n, n1, n2⟩ := hx.row 7
  obtain ⟨m, m1, m2⟩ := hy.row op
  unfold catE
  split
  · exact Fo.node (c := 0) (n := n + m) (by rw [Nat.zero_add]; exact n2.app m2) (by simp [nd, n1, m1])
  · exact Fo.node (c := 0) (n := 1 + m) (by rw [Nat.zero_add]; exact hx.app m2) (by simp [nd, m1])
theorem Fo.made {e : List Nd} {err : Int} (h : Fo e 1) : Fo (madeE e err).1 1 := by
  unfold madeE
  split
  · exact .one rfl
  · split
    · exact .one rfl
    · exact h
theorem Fo.put {s : GS} {op : Int} {x y : List Nd} (hx : Fo x 1) (hy : Fo y 1) : Fo (s.put op x y).1 1 := (hx.cat hy).made
theorem Fo.ask (s : GS) (i : Int) : Fo (askE s i) 1 := .one rfl
/-! ### 2. All bodies are trees, or stand empty -/
def Trees (s : GS) : Prop := ∀ r ∈ s.rules, r.body = [] ∨ Fo r.body 1
/-! ### 3. Where each begins -/
/-- From b, so many trees back. -/
def upL (acc : List Int) : Nat → Int → Int
  | 0, b => b
  | k + 1, b => upL acc k (at' acc (b - 1))
theorem upL_add (acc : List Int) : ∀ (n m : Nat) (b : Int), upL acc (n + m) b = upL acc m (upL acc n b)
  | 0, m, b => by rw [Nat.zero_add]; rfl
  | n + 1, m, b => by rw [Nat.succ_add]; exact upL_add acc n m _
theorem upL_last (acc : List Int) (n : Nat) (b : Int) : upL acc (n + 1) b = at' acc (upL acc n b - 1) := by rw [upL_add]; rfl
/-- The beginnings of a row of c trees. -/
inductive BF : List Nd → List Int → Nat → Prop
  | nil : BF [] [] 0
  | node {e : List Nd} {acc : List Int} {c n : Nat} {x : Nd} (h : BF e acc (c + n)) (hn : x.n = n) : BF (e ++ [x]) (acc ++ [upL acc n acc.length]) (c + 1)
theorem Fo.bf {e : List Nd} {c : Nat} (h : Fo e c) : ∃ acc, BF e acc c := by
  induction h with
  | nil => exact ⟨_, .nil⟩
  | node h hn ih => obtain ⟨acc, ih⟩ := ih; exact ⟨_, .node ih hn⟩
theorem BF.len {e : List Nd} {acc : List Int} {c : Nat} (h : BF e acc c) : acc.length = e.length := by
  induction h with
  | nil => rfl
  | node h hn ih => simp [ih]
/-- What is looked up stays the same when more is laid behind. -/
theorem upL_app {acc : List Int} (r : List Int) : ∀ (k : Nat) (b : Int), b ≤ acc.length → (∀ j, j < k → 0 < upL acc j b ∧ upL acc j b ≤ acc.length) → upL (acc ++ r) k b = upL acc k b
  | 0, b, _, _ => rfl
  | k + 1, b, hb, h => by
    have h0 := (h 0 (by omega)).1
    simp only [upL] at h0 ⊢
    have e : at' (acc ++ r) (b - 1) = at' acc (b - 1) := by
      have : b - 1 = ((b - 1).toNat : Int) := by omega
      rw [this]; exact at'_appN _ _ _ (by omega)
    rw [e]
    by_cases hk : k = 0
    · subst hk; rfl
    · refine upL_app r k _ (by have := (h 1 (by omega)).2; exact this) (fun j hj => ?_)
      have := h (j + 1) (by omega)
      exact this
structure Ups (acc : List Int) (c : Nat) : Prop where
  pos : ∀ k, k < c → 0 < upL acc k acc.length
  le : ∀ k, k ≤ c → upL acc k acc.length + k ≤ acc.length
  zero : upL acc c acc.length = 0
theorem BF.ups {e : List Nd} {acc : List Int} {c : Nat} (h : BF e acc c) : Ups acc c := by
  induction h with
  | nil => exact ⟨fun k hk => by omega, fun k hk => by have : k = 0 := by omega
                                                       subst this; simp [upL], rfl⟩
  | @node e acc c n x h hn ih =>
    have step : ∀ k, k ≤ c → upL (acc ++ [upL acc n acc.length]) (k + 1) ((acc ++ [upL acc n acc.length]).length : Nat) = upL acc (n + k) acc.length := by
      intro k hk
      have e0 : at' (acc ++ [upL acc n acc.length]) (((acc ++ [upL acc n acc.length]).length : Nat) - 1 : Int) = upL acc n acc.length := by
        have := at'_last acc (upL acc n acc.length) []
        rw [show (((acc ++ [upL acc n acc.length]).length : Nat) - 1 : Int) = (acc.length : Int) by simp]
        exact this
      show upL _ k (at' _ _) = _
      rw [e0, upL_add]
      refine upL_app _ k _ (by have := ih.le n (by omega); omega) (fun j hj => ?_)
      rw [← upL_add]
      have h1 := ih.pos (n + j) (by omega)
      have h2 := ih.le (n + j) (by omega)
      exact ⟨h1, by omega⟩
    refine ⟨fun k hk => ?_, fun k hk => ?_, ?_⟩
    · cases k with
      | zero => simp only [upL]; simp <;> omega
      | succ k => rw [step k (by omega)]; exact ih.pos _ (by omega)
    · cases k with
      | zero => simp only [upL]; omega
      | succ k =>
        rw [step k (by omega)]
        have := ih.le (n + k) (by omega)
        simp only [List.length_append, List.length_cons, List.length_nil]
        omega
    · rw [step c (Nat.le_refl _), Nat.add_comm]; exact ih.zero
/-! ### 4. The same at each node -/
theorem BF.at {e : List Nd} {acc : List Int} {c : Nat} (h : BF e acc c) : ∀ i : Nat, i < e.length → ∃ c' n : Nat, BF (e.take i) (acc.take i) (c' + n) ∧ (at' e (i : Int)).n = n ∧ at' acc (i : Int) = upL (acc.take i) n i := by
  induction h with
  | nil => intro i hi; simp at hi
  | @node e acc c n x h hn ih =>
    intro i hi
    have hl := h.len
    by_cases hie : i < e.length
    · obtain ⟨c', m, h1, h2, h3⟩ := ih i hie
      refine ⟨c', m, ?_, ?_, ?_⟩
      · rw [List.take_append_of_le_length (by omega), List.take_append_of_le_length (by omega)]; exact h1
      · rw [at'_appN _ _ _ hie]; exact h2
      · rw [at'_appN _ _ _ (by omega), List.take_append_of_le_length (by omega)]; exact h3
    · have hie' : i = e.length := by simp at hi; omega
      subst hie'
      refine ⟨c, n, ?_, ?_, ?_⟩
      · rw [List.take_left, ← hl, List.take_left]; exact h
      · rw [at'_last e x []]; exact hn
      · rw [← hl, at'_last acc _ [], List.take_left]
theorem BF.node_at {e : List Nd} {acc : List Int} {c : Nat} (h : BF e acc c) (i : Nat) (hi : i < e.length) :
    ∃ n : Nat, (at' e (i : Int)).n = n ∧ n ≤ i ∧ (∀ k, k < n → 0 < upL acc k i) ∧ (∀ k, k ≤ n → 0 ≤ upL acc k i ∧ upL acc k i + k ≤ i) ∧ at' acc (i : Int) = upL acc n i := by
  obtain ⟨c', n, h1, h2, h3⟩ := h.at i hi
  have hl := h.len
  have hal : (acc.take i).length = i := by simp; omega
  have hu := h1.ups
  obtain ⟨u1, u2, u3⟩ := hu
  rw [hal] at u1 u2 u3
  have e1 : ∀ k, k ≤ n → upL acc k i = upL (acc.take i) k i := fun k hk => by
    have := upL_app (acc := acc.take i) (acc.drop i) k i (by omega) (fun j hj => by
      have h4 := u1 j (by omega)
      have h5 := u2 j (by omega)
      exact ⟨h4, by omega⟩)
    rwa [List.take_append_drop] at this
  refine ⟨n, h2, ?_, fun k hk => ?_, fun k hk => ?_, by rw [e1 n (Nat.le_refl _)]; exact h3⟩
  · have h5 := u2 n (by omega)
    have : 0 ≤ upL (acc.take i) n i := by
      by_cases hc : n < c' + n
      · exact Int.le_of_lt (u1 n hc)
      · have : c' + n = n := by omega
        rw [this] at u3; rw [u3]; exact Int.le_refl 0
    omega
  · rw [e1 k (by omega)]; exact u1 k (by omega)
  · rw [e1 k hk]
    refine ⟨?_, u2 k (by omega)⟩
    by_cases hc : k < c' + n
    · exact Int.le_of_lt (u1 k hc)
    · have : c' + n = k := by omega
      rw [this] at u3; rw [u3]; exact Int.le_refl 0
/-! ### 5. How deep -/
/-- The parts of node i, in order. -/
def psL (acc : List Int) (i : Int) (n : Nat) : List Int := (List.range n).map fun j => upL acc (n - 1 - j) i - 1
def mxL (ds : List Int) : List Int → Int → Int
  | [], m => m
  | p :: r, m => mxL ds r (max m (at' ds p))
/-- ds tells how deep each node is. -/
structure DS (e : List Nd) (acc ds : List Int) : Prop where
  len : ds.length = e.length
  at_ : ∀ i : Nat, i < e.length → at' ds (i : Int) = 1 + mxL ds (psL acc i (at' e (i : Int)).n.toNat) 0
theorem mxL_le {ds : List Int} : ∀ (l : List Int) (m : Int), m ≤ mxL ds l m ∧ ∀ p ∈ l, at' ds p ≤ mxL ds l m
  | [], m => ⟨Int.le_refl _, fun p hp => by cases hp⟩
  | q :: r, m => by
    obtain ⟨h1, h2⟩ := mxL_le (ds := ds) r (max m (at' ds q))
    refine ⟨by simp only [mxL]; omega, fun p hp => ?_⟩
    simp only [mxL]
    rcases List.mem_cons.1 hp with rfl | hp
    · omega
    · exact h2 p hp
theorem mxL_congr {ds ds' : List Int} : ∀ (l : List Int) (m : Int), (∀ p ∈ l, at' ds p = at' ds' p) → mxL ds l m = mxL ds' l m
  | [], m, _ => rfl
  | q :: r, m, h => by
    simp only [mxL]
    rw [h q (List.mem_cons_self ..)]
    exact mxL_congr r _ fun p hp => h p (List.mem_cons_of_mem _ hp)
theorem mxL_bound {ds : List Int} {b : Int} : ∀ (l : List Int) (m : Int), m ≤ b → (∀ p ∈ l, at' ds p ≤ b) → mxL ds l m ≤ b
  | [], m, h, _ => h
  | q :: r, m, h, h' => mxL_bound r _ (by have := h' q (List.mem_cons_self ..); omega) fun p hp => h' p (List.mem_cons_of_mem _ hp)
theorem psL_mem {acc : List Int} {i : Int} {n : Nat} {p : Int} : p ∈ psL acc i n ↔ ∃ k, k < n ∧ p = upL acc k i - 1 := by
  simp only [psL, List.mem_map, List.mem_range]
  constructor
  · rintro ⟨j, hj, rfl⟩; exact ⟨n - 1 - j, by omega, rfl⟩
  · rintro ⟨k, hk, rfl⟩; exact ⟨n - 1 - k, by omega, by rw [show n - 1 - (n - 1 - k) = k by omega]⟩
theorem psL_len {acc : List Int} {i : Int} {n : Nat} : (psL acc i n).length = n := by simp [psL]
/-- Nothing within a node's row is deeper than the node. -/
theorem DS.within {e : List Nd} {acc ds : List Int} {c : Nat} (h : BF e acc c) (hd : DS e acc ds) : ∀ (i : Nat), i < e.length → ∀ j : Nat, j ≤ i → at' acc (i : Int) ≤ j → at' ds (j : Int) ≤ at' ds (i : Int) := by
  intro i
  induction i using Nat.strongRecOn with
  | _ i ih =>
    intro hi j hj hlo
    by_cases hji : j = i
    · subst hji; exact Int.le_refl _
    obtain ⟨n, n1, n2, n3, n4, n5⟩ := h.node_at i hi
    have hfind : ∀ m, m ≤ n → upL acc m i ≤ j → ∃ k, k < m ∧ (j : Int) < upL acc k i ∧ upL acc (k + 1) i ≤ j := by
      intro m
      induction m with
      | zero => intro _ h0; simp only [upL] at h0; omega
      | succ m ihm =>
        intro hm h0
        by_cases hlt : (j : Int) < upL acc m i
        · exact ⟨m, by omega, hlt, h0⟩
        · obtain ⟨k, k1, k2, k3⟩ := ihm (by omega) (by omega)
          exact ⟨k, by omega, k2, k3⟩
    obtain ⟨k, k1, k2, k3⟩ := hfind n (Nat.le_refl _) (by rw [← n5]; exact hlo)
    have hk := n4 k (by omega)
    have hp : upL acc k i - 1 = ((upL acc k i - 1).toNat : Int) := by omega
    have h1 := ih (upL acc k i - 1).toNat (by omega) (by omega) j (by omega) (by rw [← hp, ← upL_last]; exact k3)
    rw [← hp] at h1
    have h2 := (mxL_le (ds := ds) (psL acc i n) 0).2 (upL acc k i - 1) (psL_mem.2 ⟨k, k1, rfl⟩)
    have h3 := hd.at_ i hi
    rw [n1, Int.toNat_natCast] at h3
    omega
/-- Such a telling is there. -/
theorem DS.ex {e : List Nd} {acc : List Int} {c : Nat} (h : BF e acc c) : ∃ ds, DS e acc ds := by
  have : ∀ m, m ≤ e.length → ∃ ds : List Int, ds.length = m ∧ ∀ i : Nat, i < m → at' ds (i : Int) = 1 + mxL ds (psL acc i (at' e (i : Int)).n.toNat) 0 := by
    intro m
    induction m with
    | zero => intro _; exact ⟨[], rfl, fun i hi => by omega⟩
    | succ m ih =>
      intro hm
      obtain ⟨ds, h1, h2⟩ := ih (by omega)
      have hcongr : ∀ i : Nat, i ≤ m → ∀ x, mxL (ds ++ [x]) (psL acc i (at' e (i : Int)).n.toNat) 0 = mxL ds (psL acc i (at' e (i : Int)).n.toNat) 0 := fun i hi x => by
        refine mxL_congr _ _ fun p hp => ?_
        obtain ⟨n, n1, n2, n3, n4, n5⟩ := h.node_at i (by omega)
        rw [n1, Int.toNat_natCast] at hp
        obtain ⟨k, k1, rfl⟩ := psL_mem.1 hp
        have h3 := n3 k k1
        have h4 := n4 k (by omega)
        rw [show upL acc k i - 1 = ((upL acc k i - 1).toNat : Int) by omega]
        exact at'_appN _ _ _ (by omega)
      refine ⟨ds ++ [1 + mxL ds (psL acc m (at' e (m : Int)).n.toNat) 0], by simp [h1], fun i hi => ?_⟩
      rw [hcongr i (by omega)]
      by_cases him : i < m
      · rw [at'_appN _ _ _ (by omega)]; exact h2 i him
      · have : i = m := by omega
        subst this
        have := at'_last ds (1 + mxL ds (psL acc ds.length (at' e (ds.length : Int)).n.toNat) 0) []
        rw [h1] at this
        exact this
  obtain ⟨ds, h1, h2⟩ := this e.length (Nat.le_refl _)
  exact ⟨ds, h1, h2⟩
theorem DS.pos {e : List Nd} {acc ds : List Int} (hd : DS e acc ds) (i : Nat) (hi : i < e.length) : 1 ≤ at' ds (i : Int) := by
  rw [hd.at_ i hi]
  have := (mxL_le (ds := ds) (psL acc i (at' e (i : Int)).n.toNat) 0).1
  omega
/-- No deeper than there are nodes. -/
theorem DS.le {e : List Nd} {acc ds : List Int} {c : Nat} (h : BF e acc c) (hd : DS e acc ds) : ∀ i : Nat, i < e.length → at' ds (i : Int) ≤ i + 1 := by
  intro i
  induction i using Nat.strongRecOn with
  | _ i ih =>
    intro hi
    obtain ⟨n, n1, n2, n3, n4, n5⟩ := h.node_at i hi
    rw [hd.at_ i hi, n1, Int.toNat_natCast]
    have : mxL ds (psL acc i n) 0 ≤ i := mxL_bound _ _ (by omega) fun p hp => by
      obtain ⟨k, k1, rfl⟩ := psL_mem.1 hp
      have h3 := n3 k k1
      have h4 := n4 k (by omega)
      have := ih (upL acc k i - 1).toNat (by omega) (by omega)
      rw [show upL acc k i - 1 = ((upL acc k i - 1).toNat : Int) by omega]
      omega
    omega
open Classical in
noncomputable def bgL (e : List Nd) : List Int := if h : ∃ acc, BF e acc 1 then Classical.choose h else []
open Classical in
noncomputable def dsL (e : List Nd) : List Int := if h : ∃ ds, DS e (bgL e) ds then Classical.choose h else []
/-- How deep an expression is. -/
noncomputable def nestE (e : List Nd) : Int := if e.length = 0 then 0 else at' (dsL e) ((e.length : Int) - 1)
theorem Fo.bg {e : List Nd} (h : Fo e 1) : BF e (bgL e) 1 := by
  have := h.bf
  unfold bgL; rw [dif_pos this]; exact Classical.choose_spec this
theorem Fo.ds {e : List Nd} (h : Fo e 1) : DS e (bgL e) (dsL e) := by
  have := DS.ex h.bg
  unfold dsL; rw [dif_pos this]; exact Classical.choose_spec this
end Go.AL
set_option linter.unusedVariables false
namespace Go.AL
open Go.Proofs
set_option maxRecDepth 10000
attribute [local irreducible] AWp AList RStep seqQ blockQ retQ DSteps DT awR rQ SStep
def tabI (acc : List Int) (i : Nat) (z : Int) : List Int := acc.take i ++ List.replicate (acc.length - i) z
theorem tabI_len {acc : List Int} {i : Nat} {z : Int} (h : i ≤ acc.length) : (tabI acc i z).length = acc.length := by simp [tabI]; omega
theorem tabI_at {acc : List Int} {i : Nat} {z : Int} (h : i ≤ acc.length) (j : Nat) (hj : j < i) : at' (tabI acc i z) (j : Int) = at' acc (j : Int) := by
  have h1 : at' (tabI acc i z) (j : Int) = at' (acc.take i) (j : Int) := at'_appN _ _ _ (by simp; omega)
  have h2 : at' (acc.take i ++ acc.drop i) (j : Int) = at' (acc.take i) (j : Int) := at'_appN _ _ _ (by simp; omega)
  rw [h1, ← h2, List.take_append_drop]
theorem tabI_set {acc : List Int} {i : Nat} {z : Int} (h : i < acc.length) (v : Int) (hv : at' acc (i : Int) = v) : (tabI acc i z).set i v = tabI acc (i + 1) z := by
  subst hv
  have hr : acc.length - i = (acc.length - (i + 1)) + 1 := by omega
  have e : acc.take (i + 1) = acc.take i ++ [at' acc (i : Int)] := by
    rw [List.take_add_one, List.getElem?_eq_getElem h]
    simp [at', List.getD_eq_getElem?_getD, h]
  simp only [tabI, hr, List.replicate_succ, e]
  rw [List.set_append_right _ _ (by simp <;> omega)]
  simp only [List.length_take, Nat.min_eq_left (Nat.le_of_lt h), Nat.sub_self, List.set_cons_zero, List.append_assoc, List.cons_append, List.nil_append]
theorem tabI_end {acc : List Int} {i : Nat} {z : Int} (h : acc.length ≤ i) : tabI acc i z = acc := by
  simp [tabI, List.take_of_length_le h, Nat.sub_eq_zero_of_le h]
theorem begins_c (e : List Nd) (acc : List Int) (c : Nat) (h : BF e acc c) (hl : e.length ≤ 1000000) : ACalls Tryd.prog 34 [expr e] [] (fun x _ => x = .ret (.c (.p (.sl 1 (acc.map encI))))) := by
  have hal := h.len
  refine acalls_by Tryd.func34 Tryd.ntmps34 ?_
  simp only [argFr]
  repeat' (first
    | (show lMakeSlice; refine k_make ?_)
    | (show lOp; refine op0 (by first | (show kAssign; exact b_assign) | (show kMove; exact b_move) | (show kCall; exact m_lenSl)) ?_)
    | (show lNil; refine al_nil ?_)
    | (show qSeq; refine n_seq ?_)
    | (show cReg; refine aw_reg ?_)
    | (show cSeq; refine aw_seq ?_)
    | (show cBlk; refine aw_block ?_))
  have ez1 : List.replicate (e.length : Int).toNat (zP (.int .i64 0)) = (tabI acc 0 0).map encI := by simp [zP, Value.cells, tabI, hal]
  rw [ez1]
  refine aw_roundsP (ι := Nat) 1 (fun i => [.arr 3 1 ((tabI acc i 0).map encI)]) (fun i n => [(0, expr e), (3, .c (.ms 0 e.length)), (11, expr e), (12, i64 e.length), (13, i64 i)]) (fun i n => []) (fun i => i ≤ e.length) (fun i => e.length - i) 0 1 (fun _ => rfl) (by omega) (by omega) (by simp) rfl rfl (by simp [Fr.get]) ?_
  rintro k n g g1 hg
  have hk1 : k < acc.length → _ := fun h => tabI_set (z := 0) h
  have hk2 := tabI_len (z := 0) (show k ≤ acc.length by omega)
  by_cases hk : k < e.length
  · obtain ⟨m, n1, n2, n3, n4, n5⟩ := h.node_at k hk
    have hat := tabI_at (z := 0) (show k ≤ acc.length by omega)
    have n0 := n4 0 (by omega)
    repeat' (first
      | (show lAt 18; refine k_freezeC 5 ?_)
      | (show lAlloc; refine k_alloc ?_)
      | (show lStore; refine k_store ?_)
      | (show lOp; refine op0 (by first | (show kAssign; exact b_assign) | (show kMove; exact b_move) | (show kLoad; exact b_loadRp) | (show kFieldaddr; exact b_fieldRp) | (show kIndexaddr; exact m_indexSl) | (show kBinopLss; exact b_lss) | (show kBinopGtr; exact b_gtr) | (show kPick; first | exact b_pickT | exact b_pickF)) ?_)
      | (show lGu; first | refine al_yes ?_ | refine al_none ?_ | refine al_splitD (fun h => ?_) (fun h => ?_))
      | (show lNil; refine al_nil ?_)
      | (show qSeq; first | refine n_seq ?_ | refine x_seq ?_)
      | (show qBlk; refine x_eq ?_)
      | (show cReg; refine aw_reg ?_)
      | (show cSeq; refine aw_seq ?_)
      | (show cBlk; refine aw_block ?_)
      | (show cSkip; refine aw_skip ?_)
      | (show cExit; refine aw_exit ?_)
      | (show cRet; refine aw_ret ?_)
      | (show cIf; first | refine aw_T ?_ | refine aw_ifD (fun h => ?_) (fun h => ?_))
      | (show eRet; refine ret1 Tryd.results34 ?_)
      | (exfalso; omega))
    refine aw_rounds (ι := Nat) (fun j => [(0, expr e), (3, .c (.ms 0 e.length)), (11, expr e), (12, i64 e.length), (13, i64 k), (4, i64 k), (5, .c (.p (.rp (encNd (at' e (k : Int)))))), (7, i64 j), (6, i64 (upL acc j k))]) (fun _ => _) (fun j => j ≤ m) (fun j => m - j) 0 (by omega) rfl (by simp [Fr.get, upL]; rfl) ?_
    rintro j hj
    have u1 := n4 j hj
    have u2 := n3 j
    have u3 := upL_last acc j k
    have u4 := n3 (j + 1)
    have u5 := n4 (j + 1)
    have u6 : j < m → at' (tabI acc k 0) (upL acc j k - 1) = upL acc (j + 1) k := fun hj => by
      have := u2 hj
      rw [u3, show upL acc j k - 1 = ((upL acc j k - 1).toNat : Int) by omega]
      exact hat _ (by omega)
    by_cases hjm : j < m
    · have u7 := u6 hjm
      have u8 := u5 hjm
      have u9 := u2 hjm
      repeat' (first
        | (show lOp; refine op0 (by first | (show kAssign; exact b_assign) | (show kMove; exact b_move) | (show kLoad; first | exact b_loadRp | exact m_loadEpt) | (show kFieldaddr; exact b_fieldRp) | (show kIndexaddr; exact m_indexMs) | (show kBinopAdd; exact b_add) | (show kBinopSub; exact b_sub) | (show kBinopEql; exact b_eql) | (show kBinopLss; exact b_lss) | (show kBinopGtr; exact b_gtr) | (show kPick; first | exact b_pickT | exact b_pickF)) ?_)
        | (show lGu; first | refine al_yes ?_ | refine al_none ?_ | refine al_splitD (fun h => ?_) (fun h => ?_))
        | (show lNil; refine al_nil ?_)
        | (show qSeq; first | refine n_seq ?_ | refine x_seq ?_)
        | (show qBlk; first | refine n_block ?_ | refine x_eq ?_)
        | (show cReg; refine aw_reg ?_)
        | (show cSeq; refine aw_seq ?_)
        | (show cBlk; refine aw_block ?_)
        | (show cSkip; refine aw_skip ?_)
        | (show cExit; refine aw_exit ?_)
        | (show cIf; first | refine aw_T ?_ | refine aw_F ?_ | refine aw_ifD (fun h => ?_) (fun h => ?_))
        | (exfalso; omega))
      all_goals exact ⟨j + 1, by omega, rfl, by simp [Fr.get, u7], by omega⟩
    · have ejm : j = m := by omega
      subst ejm
      have hset := hk1 (by omega) _ n5
      repeat' (first
        | (show lStore; refine k_storeElM (f := encI) _ ?_)
        | (show lOp; refine op0 (by first | (show kAssign; exact b_assign) | (show kMove; exact b_move) | (show kLoad; first | exact b_loadRp | exact m_loadEpt) | (show kFieldaddr; exact b_fieldRp) | (show kIndexaddr; exact m_indexMs) | (show kBinopAdd; exact b_add) | (show kBinopSub; exact b_sub) | (show kBinopEql; exact b_eql) | (show kBinopLss; exact b_lss) | (show kBinopGtr; exact b_gtr) | (show kPick; first | exact b_pickT | exact b_pickF)) ?_)
        | (show lGu; first | refine al_yes ?_ | refine al_none ?_ | refine al_splitD (fun h => ?_) (fun h => ?_))
        | (show lNil; refine al_nil ?_)
        | (show qSeq; first | refine n_seq ?_ | refine x_seq ?_)
        | (show qBlk; first | refine n_block ?_ | refine x_eq ?_)
        | (show cReg; refine aw_reg ?_)
        | (show cSeq; refine aw_seq ?_)
        | (show cBlk; refine aw_block ?_)
        | (show cSkip; refine aw_skip ?_)
        | (show cExit; refine aw_exit ?_)
        | (show cIf; first | refine aw_F ?_ | refine aw_ifD (fun h => ?_) (fun h => ?_))
        | (exfalso; omega))
      all_goals
        refine ⟨k + 1, n + 1, by omega, by omega, by simp at hg; simp; omega, ?_, dropG hg rfl, by simp [Fr.get], by omega⟩
        rw [← hset]; rfl
  · repeat' (first
      | (show cRet; refine kw_freezeM (f := encI) 2 ?_)
      | (show lAlloc; refine k_alloc ?_)
      | (show lStore; refine k_store ?_)
      | (show lOp; refine op0 (by first | (show kAssign; exact b_assign) | (show kMove; exact b_move) | (show kLoad; first | exact b_loadRp | exact b_loadPtr) | (show kFieldaddr; exact b_fieldPtr) | (show kIndexaddr; exact m_indexSl) | (show kBinopLss; exact b_lss) | (show kBinopGtr; exact b_gtr) | (show kPick; first | exact b_pickT | exact b_pickF)) ?_)
      | (show lGu; first | refine al_yes ?_ | refine al_none ?_ | refine al_splitD (fun h => ?_) (fun h => ?_))
      | (show lNil; refine al_nil ?_)
      | (show qSeq; first | refine n_seq ?_ | refine x_seq ?_)
      | (show qBlk; refine x_eq ?_)
      | (show cReg; refine aw_reg ?_)
      | (show cSeq; refine aw_seq ?_)
      | (show cBlk; refine aw_block ?_)
      | (show cSkip; refine aw_skip ?_)
      | (show cExit; refine aw_exit ?_)
      | (show cRet; refine aw_ret ?_)
      | (show cIf; first | refine aw_T ?_ | refine aw_ifD (fun h => ?_) (fun h => ?_))
      | (show eRet; refine ret1 Tryd.results34 ?_)
      | (exfalso; omega))
    have : acc.length ≤ k := by omega
    rw [tabI_end this, ← hal, List.take_of_length_le (Nat.le_refl _)]
end Go.AL
set_option linter.unusedVariables false
namespace Go.AL
open Go.Proofs
set_option maxRecDepth 10000
attribute [local irreducible] AWp AList RStep seqQ blockQ retQ DSteps DT awR rQ SStep
def tabD (ps : List Int) (q : Nat) : List Int := List.replicate q 0 ++ ps.drop q
theorem tabD_len {ps : List Int} {q : Nat} (h : q ≤ ps.length) : (tabD ps q).length = ps.length := by simp [tabD]; omega
theorem tabD_set {ps : List Int} {q : Nat} (h : q < ps.length) (v : Int) (hv : at' ps (q : Int) = v) : (tabD ps (q + 1)).set q v = tabD ps q := by
  subst hv
  simp only [tabD, List.replicate_succ']
  rw [List.append_assoc, List.set_append_right _ _ (by simp)]
  simp only [List.length_replicate, Nat.sub_self, List.cons_append, List.nil_append, List.set_cons_zero]
  rw [List.drop_eq_getElem_cons h]
  simp [at', List.getD_eq_getElem?_getD, h]
theorem tabD_zero {ps : List Int} : tabD ps 0 = ps := rfl
theorem tabD_all {ps : List Int} : tabD ps ps.length = List.replicate ps.length 0 := by simp [tabD]
theorem psL_at {acc : List Int} {i : Int} {n q : Nat} (h : q < n) : at' (psL acc i n) (q : Int) = upL acc (n - 1 - q) i - 1 := by
  simp [at', psL, List.getD_eq_getElem?_getD, h]
abbrev ints (l : List Int) : AV := .c (.p (.sl 1 (l.map encI)))
theorem partsN_c (e : List Nd) (acc : List Int) (c : Nat) (h : BF e acc c) (hl : e.length ≤ 1000000) (k : Nat) (hk : k < e.length) : ACalls Tryd.prog 57 [expr e, ints acc, i64 k] [] (fun x _ => x = .ret (ints (psL acc k (at' e (k : Int)).n.toNat))) := by
  have hal := h.len
  obtain ⟨m, n1, n2, n3, n4, n5⟩ := h.node_at k hk
  have n6 := n4 m (Nat.le_refl _)
  have hpl : (psL acc k m).length = m := psL_len
  rw [n1, Int.toNat_natCast]
  refine acalls_by Tryd.func57 Tryd.ntmps57 ?_
  simp only [argFr]
  repeat' (first
    | (show cRet; refine kw_nil 6 1 ?_)
    | (show lMakeSlice; refine k_make ?_)
    | (show lOp; refine op0 (by first | (show kAssign; exact b_assign) | (show kMove; exact b_move) | (show kCall; first | exact m_lenSl | exact b_lenMs) | (show kLoad; exact b_loadRp) | (show kFieldaddr; exact b_fieldRp) | (show kIndexaddr; exact m_indexSl) | (show kBinopSub; exact b_sub) | (show kBinopEql; exact b_eql) | (show kBinopLss; exact b_lss) | (show kBinopGeq; exact b_geq) | (show kPick; first | exact b_pickT | exact b_pickF)) ?_)
    | (show lGu; first | refine al_yes ?_ | refine al_none ?_ | refine al_splitD (fun h => ?_) (fun h => ?_))
    | (show lNil; refine al_nil ?_)
    | (show qSeq; first | refine n_seq ?_ | refine p_seq ?_)
    | (show cReg; refine aw_reg ?_)
    | (show cSeq; refine aw_seq ?_)
    | (show cBlk; refine aw_block ?_)
    | (show cSkip; refine aw_skip ?_)
    | (show cRet; refine aw_ret ?_)
    | (show cIf; first | refine aw_T ?_ | refine aw_ifD (fun h => ?_) (fun h => ?_))
    | (show eRet; refine ret1 Tryd.results57 ?_)
    | (exfalso; omega))
  · have hm : m = 0 := by omega
    subst hm
    rfl
  have hmn : (at' e (k : Int)).n.toNat = m := by omega
  have ez1 : List.replicate (at' e (k : Int)).n.toNat (zP (.int .i64 0)) = (tabD (psL acc k m) m).map encI := by
    have := tabD_all (ps := psL acc k m)
    rw [hpl] at this
    rw [this, hmn]; simp [zP, Value.cells]
  rw [ez1, hmn]
  refine aw_rounds (ι := Nat) (fun q => [(0, expr e), (1, ints acc), (2, i64 k), (7, .c (.ms 0 m)), (8, i64 (upL acc (m - q) k)), (9, i64 ((q : Int) - 1))]) (fun q => [.arr 3 1 ((tabD (psL acc k m) q).map encI)]) (fun q => q ≤ m) (fun q => q) m (Nat.le_refl _) rfl (by simp [Fr.get, upL]) ?_
  rintro q hq
  have u1 := n4 (m - q) (by omega)
  have u2 := n3 (m - q)
  have hlen := tabD_len (ps := psL acc k m) (q := q) (by omega)
  by_cases hq0 : q = 0
  · subst hq0
    repeat' (first
      | (show cRet; refine kw_freezeM (f := encI) 6 ?_)
      | (show lOp; refine op0 (by first | (show kAssign; exact b_assign) | (show kMove; exact b_move) | (show kBinopGeq; exact b_geq)) ?_)
      | (show lNil; refine al_nil ?_)
      | (show qSeq; first | refine n_seq ?_ | refine x_seq ?_)
      | (show qBlk; refine x_eq ?_)
      | (show cReg; refine aw_reg ?_)
      | (show cSeq; refine aw_seq ?_)
      | (show cExit; refine aw_exit ?_)
      | (show cRet; refine aw_ret ?_)
      | (show cIf; refine aw_F ?_)
      | (show eRet; refine ret1 Tryd.results57 ?_))
    rw [tabD_zero, List.take_of_length_le (by omega)]
  · obtain ⟨q, rfl⟩ : ∃ p, q = p + 1 := ⟨q - 1, by omega⟩
    have u3 := u2 (by omega)
    have u4 := upL_last acc (m - (q + 1)) k
    rw [show m - (q + 1) + 1 = m - q by omega] at u4
    have u5 := tabD_set (ps := psL acc k m) (q := q) (by omega) _ (psL_at (acc := acc) (i := k) (show q < m by omega))
    rw [show m - 1 - q = m - (q + 1) by omega] at u5
    repeat' (first
      | (show lStore; refine k_storeElM (f := encI) _ ?_)
      | (show lOp; refine op0 (by first | (show kAssign; exact b_assign) | (show kMove; exact b_move) | (show kLoad; exact b_loadRp) | (show kIndexaddr; first | exact m_indexSl | exact m_indexMs) | (show kBinopSub; exact b_sub) | (show kBinopGeq; exact b_geq)) ?_)
      | (show lNil; refine al_nil ?_)
      | (show qSeq; first | refine n_seq ?_ | refine x_seq ?_)
      | (show qBlk; first | refine n_block ?_ | refine x_eq ?_)
      | (show cReg; refine aw_reg ?_)
      | (show cSeq; refine aw_seq ?_)
      | (show cBlk; refine aw_block ?_)
      | (show cSkip; refine aw_skip ?_)
      | (show cExit; refine aw_exit ?_)
      | (show cRet; refine aw_ret ?_)
      | (show cIf; refine aw_ifD (fun h => ?_) (fun h => ?_))
      | (show eRet; refine ret1 Tryd.results57 ?_)
      | (exfalso; omega))
    refine ⟨q, by omega, ?_, by simp [Fr.get, u4], by omega⟩
    have e1 : (((q + 1 : Nat) : Int) - 1).toNat = q := by omega
    simp only [e1, u5]
end Go.AL
set_option linter.unusedVariables false
namespace Go.AL
open Go.Proofs
set_option maxRecDepth 10000
attribute [local irreducible] AWp AList RStep seqQ blockQ retQ DSteps DT awR rQ SStep
theorem last_zero {e : List Nd} {acc : List Int} (h : BF e acc 1) : at' acc ((e.length : Int) - 1) = 0 := by
  have := h.ups.zero
  rw [h.len] at this
  exact this
theorem tree_c (e : List Nd) (acc : List Int) (h : BF e acc 1) (h0 : 0 < e.length) (hl : e.length ≤ 1000000) : ACalls Tryd.prog 35 [expr e, ints acc] [] (fun x _ => x = .ret (bl true)) := by
  have hal := h.len
  have hz := last_zero h
  refine acalls_by Tryd.func35 Tryd.ntmps35 ?_
  simp only [argFr]
  repeat' (first
    | (show lOp; refine op0 (by first | (show kAssign; exact b_assign) | (show kMove; exact b_move) | (show kCall; exact m_lenSl) | (show kLoad; exact b_loadRp) | (show kIndexaddr; exact m_indexSl) | (show kBinopSub; exact b_sub) | (show kBinopEql; exact b_eql) | (show kBinopGtr; exact b_gtr) | (show kPick; first | exact b_pickT | exact b_pickF)) ?_)
    | (show lGu; first | refine al_yes ?_ | refine al_none ?_ | refine al_splitD (fun h => ?_) (fun h => ?_))
    | (show lNil; refine al_nil ?_)
    | (show qSeq; refine n_seq ?_)
    | (show cReg; refine aw_reg ?_)
    | (show cSeq; refine aw_seq ?_)
    | (show cRet; refine aw_ret ?_)
    | (show eRet; refine ret1 Tryd.results35 ?_)
    | (exfalso; omega))
  · rw [hz]; rfl
theorem mxL_app {ds : List Int} : ∀ (l l' : List Int) (m : Int), mxL ds (l ++ l') m = mxL ds l' (mxL ds l m)
  | [], l', m => rfl
  | p :: r, l', m => mxL_app r l' _
theorem mxL_next {ds ps : List Int} {q : Nat} (h : q < ps.length) (m : Int) : mxL ds (ps.take (q + 1)) m = max (mxL ds (ps.take q) m) (at' ds (at' ps (q : Int))) := by
  rw [List.take_add_one, List.getElem?_eq_getElem h, mxL_app]
  simp [mxL, at', List.getD_eq_getElem?_getD, h]
def mxTo (ds : List Int) (i : Nat) : Int := mxL ds ((List.range i).map fun (j : Nat) => (j : Int)) 0
theorem mxTo_next (ds : List Int) (i : Nat) : mxTo ds (i + 1) = max (mxTo ds i) (at' ds (i : Int)) := by
  simp [mxTo, List.range_succ, mxL_app, mxL]
theorem mxTo_top {e : List Nd} {acc ds : List Int} (h : BF e acc 1) (hd : DS e acc ds) (h0 : 0 < e.length) : mxTo ds e.length = at' ds ((e.length : Int) - 1) := by
  have hz := last_zero h
  have e1 : ((e.length : Int) - 1) = ((e.length - 1 : Nat) : Int) := by omega
  have hp := hd.pos (e.length - 1) (by omega)
  rw [e1] at hz ⊢
  refine Int.le_antisymm (mxL_bound _ _ (by omega) fun p hp => ?_) ?_
  · obtain ⟨j, hj, rfl⟩ := List.mem_map.1 hp
    have hj := List.mem_range.1 hj
    exact hd.within h (e.length - 1) (by omega) j (by omega) (by omega)
  · exact (mxL_le (ds := ds) _ 0).2 _ (List.mem_map.2 ⟨e.length - 1, List.mem_range.2 (by omega), rfl⟩)
theorem mxTo_rng {e : List Nd} {acc ds : List Int} {c : Nat} (h : BF e acc c) (hd : DS e acc ds) (i : Nat) (hi : i ≤ e.length) : 0 ≤ mxTo ds i ∧ mxTo ds i ≤ e.length := by
  refine ⟨(mxL_le (ds := ds) _ 0).1, mxL_bound _ _ (by omega) fun p hp => ?_⟩
  obtain ⟨j, hj, rfl⟩ := List.mem_map.1 hp
  have hj := List.mem_range.1 hj
  have := hd.le h j (by omega)
  omega
theorem nest_c (e : List Nd) (acc ds : List Int) (hb : BF e acc 1) (hd : DS e acc ds) (h0 : 0 < e.length) (hl : e.length ≤ 1000000) : ACalls Tryd.prog 36 [expr e, ints acc] [] (fun x _ => x = .ret (i64 (at' ds ((e.length : Int) - 1)))) := by
  have h := hb
  have hal := h.len
  have hdl := hd.len
  refine acalls_by Tryd.func36 Tryd.ntmps36 ?_
  simp only [argFr]
  repeat' (first
    | (show lMakeSlice; refine k_make ?_)
    | (show lOp; refine op0 (by first | (show kAssign; exact b_assign) | (show kMove; exact b_move) | (show kCall; exact m_lenSl)) ?_)
    | (show lNil; refine al_nil ?_)
    | (show qSeq; refine n_seq ?_)
    | (show cReg; refine aw_reg ?_)
    | (show cSeq; refine aw_seq ?_)
    | (show cBlk; refine aw_block ?_))
  have ez1 : List.replicate (e.length : Int).toNat (zP (.int .i64 0)) = (tabI ds 0 0).map encI := by simp [zP, Value.cells, tabI, hdl]
  rw [ez1]
  refine aw_rounds (ι := Nat) (fun i => [(0, expr e), (1, ints acc), (5, .c (.ms 0 e.length)), (14, i64 e.length), (15, i64 i), (6, i64 (mxTo ds i))]) (fun i => [.arr 3 1 ((tabI ds i 0).map encI)]) (fun i => i ≤ e.length) (fun i => e.length - i) 0 (by omega) rfl (by simp [Fr.get]; rfl) ?_
  rintro k hk1
  have hr := mxTo_rng h hd k hk1
  have hlen := tabI_len (z := 0) (show k ≤ ds.length by omega)
  by_cases hk : k < e.length
  · obtain ⟨m, n1, n2, n3, n4, n5⟩ := h.node_at k hk
    have hp := partsN_c e acc 1 h hl k hk
    rw [n1, Int.toNat_natCast] at hp
    have hpl : (psL acc k m).length = m := psL_len
    have hat := tabI_at (z := 0) (show k ≤ ds.length by omega)
    have hdk := hd.at_ k hk
    rw [n1, Int.toNat_natCast] at hdk
    have hset := tabI_set (z := 0) (show k < ds.length by omega) _ rfl
    have hdle := hd.le h k hk
    have hdpos := hd.pos k hk
    have hnext := mxTo_next ds k
    repeat' (first
      | (show lStore; refine k_storeElM (f := encI) _ ?_)
      | (show lOp; refine op0 (by first | (show kAssign; exact b_assign) | (show kMove; exact b_move) | (show kCall; first | exact b_call (hp) | exact m_lenSl) | (show kIndexaddr; exact m_indexMs) | (show kBinopLss; exact b_lss)) ?_)
      | (show lNil; refine al_nil ?_)
      | (show qSeq; first | refine n_seq ?_ | refine x_seq ?_)
      | (show qBlk; refine x_eq ?_)
      | (show cReg; refine aw_reg ?_)
      | (show cSeq; refine aw_seq ?_)
      | (show cBlk; refine aw_block ?_)
      | (show cSkip; refine aw_skip ?_)
      | (show cExit; refine aw_exit ?_)
      | (show cRet; refine aw_ret ?_)
      | (show cIf; refine aw_ifD (fun h => ?_) (fun h => ?_))
      | (show eRet; refine ret1 Tryd.results36 ?_)
      | (exfalso; omega))
    refine aw_rounds (ι := Nat) (fun q => [(0, expr e), (1, ints acc), (5, .c (.ms 0 e.length)), (14, i64 e.length), (15, i64 k), (6, i64 (mxTo ds k)), (7, i64 k), (24, ints (psL acc k m)), (25, i64 m), (26, i64 q)]) (fun q => [.arr 3 1 (((tabI ds k 0).set k (1 + mxL ds ((psL acc k m).take q) 0)).map encI)]) (fun q => q ≤ m) (fun q => m - q) 0 (Nat.zero_le _) ?_ (by simp [Fr.get, hpl]) ?_
    · simp [mxL]
    rintro q hq
    have hpsl : (psL acc k m).length = m := hpl
    generalize hX : 1 + mxL ds ((psL acc k m).take q) 0 = X
    have a1 : at' ((tabI ds k 0).set k X) (k : Int) = X := at'_set_self (by omega)
    have a2 : q < m → 0 ≤ at' (psL acc k m) (q : Int) ∧ at' (psL acc k m) (q : Int) < k ∧ at' ((tabI ds k 0).set k X) (at' (psL acc k m) (q : Int)) = at' ds (at' (psL acc k m) (q : Int)) := fun hq => by
      rw [psL_at hq]
      have b1 := n3 (m - 1 - q) (by omega)
      have b2 := n4 (m - 1 - q) (by omega)
      refine ⟨by omega, by omega, ?_⟩
      rw [at'_set (by omega), show upL acc (m - 1 - q) k - 1 = ((upL acc (m - 1 - q) k - 1).toNat : Int) by omega]
      exact hat _ (by omega)
    have hl2 : ((tabI ds k 0).set k X).length = e.length := by rw [List.length_set]; omega
    have hXr : 0 ≤ mxL ds ((psL acc k m).take q) 0 ∧ mxL ds ((psL acc k m).take q) 0 ≤ e.length := by
      refine ⟨(mxL_le (ds := ds) _ 0).1, mxL_bound _ _ (by omega) fun p hp => ?_⟩
      obtain ⟨j, j1, rfl⟩ := psL_mem.1 (List.mem_of_mem_take hp)
      have b1 := n3 j j1
      have b2 := n4 j (by omega)
      have := hd.le hb (upL acc j k - 1).toNat (by omega)
      rw [show upL acc j k - 1 = ((upL acc j k - 1).toNat : Int) by omega]
      omega
    by_cases hqm : q < m
    · obtain ⟨c1, c2, c3⟩ := a2 hqm
      have c4 := hd.le hb (at' (psL acc k m) (q : Int)).toNat (by omega)
      have c5 := hd.pos (at' (psL acc k m) (q : Int)).toNat (by omega)
      have c6 : ((at' (psL acc k m) (q : Int)).toNat : Int) = at' (psL acc k m) (q : Int) := by omega
      rw [c6] at c4 c5
      have hn := mxL_next (ds := ds) (ps := psL acc k m) (q := q) (by omega) 0
      rw [← c3] at c4 c5
      repeat' (first
        | (show lStore; refine k_storeElM (f := encI) _ ?_)
        | (show lOp; refine op0 (by first | (show kAssign; exact b_assign) | (show kMove; exact b_move) | (show kCall; exact b_max) | (show kLoad; first | exact b_loadRp | exact m_loadEpt) | (show kIndexaddr; first | exact m_indexSl | exact m_indexMs) | (show kBinopAdd; exact b_add) | (show kBinopLss; exact b_lss)) ?_)
        | (show lNil; refine al_nil ?_)
        | (show qSeq; first | refine n_seq ?_ | refine x_seq ?_)
        | (show qBlk; first | refine n_block ?_ | refine x_eq ?_)
        | (show cReg; refine aw_reg ?_)
        | (show cSeq; refine aw_seq ?_)
        | (show cBlk; refine aw_block ?_)
        | (show cSkip; refine aw_skip ?_)
        | (show cExit; refine aw_exit ?_)
        | (show cIf; refine aw_ifD (fun h => ?_) (fun h => ?_))
        | (show cRegD; refine aw_drN Tryd_mixed ?_)
        | (show dOp; refine ds_op (by first | (show kMove; exact b_move) | (show kCall; exact b_max) | (show kLoad; exact m_loadEpt) | (show kIndexaddr; exact m_indexMs) | (show kBinopAdd; exact b_add)) ?_)
        | (show dNil; refine ds_nil ?_)
        | (exfalso; omega))
      refine ⟨q + 1, by omega, ?_, by simp [Fr.get], by omega⟩
      simp only [Int.toNat_natCast, a1, c3, List.set_set, hn]
      congr 4
      omega
    · have : q = m := by omega
      subst this
      have e1 : (psL acc k q).take q = psL acc k q := List.take_of_length_le (by omega)
      rw [e1, ← hdk] at hX
      subst hX
      repeat' (first
        | (show lOp; refine op0 (by first | (show kAssign; exact b_assign) | (show kMove; exact b_move) | (show kCall; exact b_max) | (show kLoad; first | exact b_loadRp | exact m_loadEpt) | (show kIndexaddr; first | exact m_indexSl | exact m_indexMs) | (show kBinopAdd; exact b_add) | (show kBinopLss; exact b_lss)) ?_)
        | (show lNil; refine al_nil ?_)
        | (show qSeq; first | refine n_seq ?_ | refine x_seq ?_)
        | (show qBlk; first | refine n_block ?_ | refine x_eq ?_)
        | (show cReg; refine aw_reg ?_)
        | (show cSeq; refine aw_seq ?_)
        | (show cBlk; refine aw_block ?_)
        | (show cSkip; refine aw_skip ?_)
        | (show cExit; refine aw_exit ?_)
        | (show cIf; refine aw_ifD (fun h => ?_) (fun h => ?_))
        | (show cRegD; refine aw_drN Tryd_mixed ?_)
        | (show dOp; refine ds_op (by first | (show kMove; exact b_move) | (show kCall; exact b_max) | (show kLoad; exact m_loadEpt) | (show kIndexaddr; exact m_indexMs) | (show kBinopAdd; exact b_add)) ?_)
        | (show dNil; refine ds_nil ?_)
        | (exfalso; omega))
      refine ⟨k + 1, by omega, ?_, by simp [Fr.get, a1, hnext], by omega⟩
      simp only [hset]
  · repeat' (first
      | (show lOp; refine op0 (by first | (show kAssign; exact b_assign) | (show kMove; exact b_move) | (show kIndexaddr; exact m_indexMs) | (show kBinopLss; exact b_lss)) ?_)
      | (show lNil; refine al_nil ?_)
      | (show qSeq; first | refine n_seq ?_ | refine x_seq ?_)
      | (show qBlk; refine x_eq ?_)
      | (show cReg; refine aw_reg ?_)
      | (show cSeq; refine aw_seq ?_)
      | (show cBlk; refine aw_block ?_)
      | (show cSkip; refine aw_skip ?_)
      | (show cExit; refine aw_exit ?_)
      | (show cRet; refine aw_ret ?_)
      | (show cIf; refine aw_ifD (fun h => ?_) (fun h => ?_))
      | (show eRet; refine ret1 Tryd.results36 ?_)
      | (exfalso; omega))
    have : k = e.length := by omega
    subst this
    rw [mxTo_top hb hd h0]
/-- How deep, by the program. -/
theorem nestP_c (e : List Nd) (h : e = [] ∨ Fo e 1) (hl : e.length ≤ 1000000) : ACalls Tryd.prog 16 [expr e] [] (fun x _ => x = .ret (i64 (nestE e))) := by
  rcases h with rfl | h
  · have hbg := begins_c [] [] 0 .nil (by simp)
    have htr : ACalls Tryd.prog 35 [expr [], ints []] [] (fun x _ => x = .ret (bl false)) := by
      refine acalls_by Tryd.func35 Tryd.ntmps35 ?_
      simp only [argFr]
      repeat' (first
        | (show lOp; refine op0 (by first | (show kAssign; exact b_assign) | (show kMove; exact b_move) | (show kCall; exact m_lenSl) | (show kBinopGtr; exact b_gtr) | (show kPick; exact b_pickF)) ?_)
        | (show lGu; refine al_none ?_)
        | (show lNil; refine al_nil ?_)
        | (show qSeq; refine n_seq ?_)
        | (show cReg; refine aw_reg ?_)
        | (show cSeq; refine aw_seq ?_)
        | (show cRet; refine aw_ret ?_)
        | (show eRet; refine ret1 Tryd.results35 ?_))
      rfl
    refine acalls_by Tryd.func16 Tryd.ntmps16 ?_
    simp only [argFr]
    repeat' (first
      | (show lOp; refine op0 (by first | (show kAssign; exact b_assign) | (show kMove; exact b_move) | (show kCall; first | exact b_call (hbg) | exact b_call (htr)) | (show kUnopNot; exact b_not)) ?_)
      | (show lNil; refine al_nil ?_)
      | (show qSeq; first | refine n_seq ?_ | refine p_seq ?_)
      | (show cReg; refine aw_reg ?_)
      | (show cSeq; refine aw_seq ?_)
      | (show cRet; refine aw_ret ?_)
      | (show cIf; refine aw_T ?_)
      | (show eRet; refine ret1 Tryd.results16 ?_))
    rfl
  · have hb := h.bg
    have hd := h.ds
    have h0 := h.ne
    have hbg := begins_c e _ 1 hb hl
    have htr := tree_c e _ hb h0 hl
    have hn := nest_c e _ _ hb hd h0 hl
    refine acalls_by Tryd.func16 Tryd.ntmps16 ?_
    simp only [argFr]
    repeat' (first
      | (show lOp; refine op0 (by first | (show kAssign; exact b_assign) | (show kMove; exact b_move) | (show kCall; first | exact b_call (hbg) | exact b_call (htr) | exact b_call (hn)) | (show kUnopNot; exact b_not)) ?_)
      | (show lNil; refine al_nil ?_)
      | (show qSeq; refine n_seq ?_)
      | (show cReg; refine aw_reg ?_)
      | (show cSeq; refine aw_seq ?_)
      | (show cSkip; refine aw_skip ?_)
      | (show cRet; refine aw_ret ?_)
      | (show cIf; refine aw_F ?_)
      | (show eRet; refine ret1 Tryd.results16 ?_))
    rw [nestE, if_neg (by omega)]
end Go.AL
set_option linter.unusedVariables false
namespace Go.AL
open Go.Proofs
set_option maxRecDepth 10000
attribute [local irreducible] AWp AList RStep seqQ blockQ retQ DSteps DT awR rQ SStep
theorem rbegins_c (e : List Nd) (acc : List Int) (c : Nat) (h : BF e acc c) (hl : e.length ≤ 1000000) : ACalls Tryd.prog 46 [expr e] [] (fun x _ => x = .ret (ints acc)) := by
  have hb := h
  have hal := h.len
  refine acalls_by Tryd.func46 Tryd.ntmps46 ?_
  simp only [argFr]
  repeat' (first
    | (show lMakeSlice; refine k_make ?_)
    | (show lOp; refine op0 (by first | (show kAssign; exact b_assign) | (show kMove; exact b_move) | (show kCall; exact m_lenSl)) ?_)
    | (show lNil; refine al_nil ?_)
    | (show qSeq; refine n_seq ?_)
    | (show cReg; refine aw_reg ?_)
    | (show cSeq; refine aw_seq ?_)
    | (show cBlk; refine aw_block ?_))
  have ez1 : List.replicate (e.length : Int).toNat (zP (.int .i64 0)) = (tabI acc 0 0).map encI := by simp [zP, Value.cells, tabI, hal]
  rw [ez1]
  refine aw_rounds (ι := Nat) (fun i => [(0, expr e), (3, .c (.ms 0 e.length)), (4, i64 i)]) (fun i => [.arr 3 1 ((tabI acc i 0).map encI)]) (fun i => i ≤ e.length) (fun i => e.length - i) 0 (by omega) rfl (by simp [Fr.get]) ?_
  rintro k hk1
  have hk2 := tabI_len (z := 0) (show k ≤ acc.length by omega)
  by_cases hk : k < e.length
  · obtain ⟨m, n1, n2, n3, n4, n5⟩ := hb.node_at k hk
    have hat := tabI_at (z := 0) (show k ≤ acc.length by omega)
    have hset := tabI_set (z := 0) (show k < acc.length by omega) _ n5
    have n0 := n4 0 (by omega)
    repeat' (first
      | (show lStore; refine k_storeElM (f := encI) _ ?_)
      | (show lOp; refine op0 (by first | (show kAssign; exact b_assign) | (show kMove; exact b_move) | (show kCall; exact m_lenSl) | (show kLoad; exact b_loadRp) | (show kFieldaddr; exact b_fieldRp) | (show kIndexaddr; first | exact m_indexSl | exact m_indexMs) | (show kBinopAdd; exact b_add) | (show kBinopLss; exact b_lss)) ?_)
      | (show lNil; refine al_nil ?_)
      | (show qSeq; first | refine n_seq ?_ | refine x_seq ?_)
      | (show qBlk; refine x_eq ?_)
      | (show cReg; refine aw_reg ?_)
      | (show cSeq; refine aw_seq ?_)
      | (show cBlk; refine aw_block ?_)
      | (show cSkip; refine aw_skip ?_)
      | (show cExit; refine aw_exit ?_)
      | (show cRet; refine aw_ret ?_)
      | (show cIf; refine aw_ifD (fun h => ?_) (fun h => ?_))
      | (show eRet; refine ret1 Tryd.results46 ?_)
      | (exfalso; omega))
    generalize hA : ((tabI acc k 0).set (k : Int).toNat (-1)) = A
    rw [Int.toNat_natCast] at hA
    have hAl : A.length = e.length := by rw [← hA, List.length_set]; omega
    refine aw_rounds (ι := Nat) (fun j => [(0, expr e), (3, .c (.ms 0 e.length)), (4, i64 k), (6, i64 j), (5, i64 (upL acc j k))]) (fun _ => [.arr 3 1 (A.map encI)]) (fun j => j ≤ m) (fun j => m - j) 0 (by omega) rfl (by simp [Fr.get, upL]) ?_
    rintro j hj
    have u1 := n4 j hj
    have u2 := n3 j
    have u3 := upL_last acc j k
    have u5 := n4 (j + 1)
    have u6 : j < m → at' A (upL acc j k - 1) = upL acc (j + 1) k := fun hj => by
      have := u2 hj
      rw [u3, ← hA, at'_set (by omega), show upL acc j k - 1 = ((upL acc j k - 1).toNat : Int) by omega]
      exact hat _ (by omega)
    by_cases hjm : j < m
    · have u7 := u6 hjm
      have u8 := u5 hjm
      have u9 := u2 hjm
      repeat' (first
        | (show lOp; refine op0 (by first | (show kAssign; exact b_assign) | (show kMove; exact b_move) | (show kLoad; first | exact b_loadRp | exact m_loadEpt) | (show kFieldaddr; exact b_fieldRp) | (show kIndexaddr; first | exact m_indexSl | exact m_indexMs) | (show kBinopAdd; exact b_add) | (show kBinopSub; exact b_sub) | (show kBinopEql; exact b_eql) | (show kBinopLss; exact b_lss) | (show kBinopGtr; exact b_gtr) | (show kBinopGeq; exact b_geq) | (show kPick; first | exact b_pickT | exact b_pickF)) ?_)
        | (show lGu; first | refine al_yes ?_ | refine al_none ?_ | refine al_splitD (fun h => ?_) (fun h => ?_))
        | (show lNil; refine al_nil ?_)
        | (show qSeq; first | refine n_seq ?_ | refine x_seq ?_)
        | (show qBlk; first | refine n_block ?_ | refine x_eq ?_)
        | (show cReg; refine aw_reg ?_)
        | (show cSeq; refine aw_seq ?_)
        | (show cBlk; refine aw_block ?_)
        | (show cSkip; refine aw_skip ?_)
        | (show cExit; refine aw_exit ?_)
        | (show cIf; first | refine aw_F ?_ | refine aw_ifD (fun h => ?_) (fun h => ?_))
        | (exfalso; omega))
      all_goals exact ⟨j + 1, by omega, rfl, by simp [Fr.get, u7], by omega⟩
    · have ejm : j = m := by omega
      subst ejm
      have hset2 : A.set k (upL acc j k) = tabI acc (k + 1) 0 := by rw [← hA, List.set_set]; exact hset
      repeat' (first
        | (show lStore; refine k_storeElM (f := encI) _ ?_)
        | (show lOp; refine op0 (by first | (show kAssign; exact b_assign) | (show kMove; exact b_move) | (show kLoad; first | exact b_loadRp | exact m_loadEpt) | (show kFieldaddr; exact b_fieldRp) | (show kIndexaddr; first | exact m_indexSl | exact m_indexMs) | (show kBinopAdd; exact b_add) | (show kBinopSub; exact b_sub) | (show kBinopEql; exact b_eql) | (show kBinopLss; exact b_lss) | (show kBinopGtr; exact b_gtr) | (show kBinopGeq; exact b_geq) | (show kPick; first | exact b_pickT | exact b_pickF)) ?_)
        | (show lGu; first | refine al_yes ?_ | refine al_none ?_ | refine al_splitD (fun h => ?_) (fun h => ?_))
        | (show lNil; refine al_nil ?_)
        | (show qSeq; first | refine n_seq ?_ | refine x_seq ?_)
        | (show qBlk; first | refine n_block ?_ | refine x_eq ?_)
        | (show cReg; refine aw_reg ?_)
        | (show cSeq; refine aw_seq ?_)
        | (show cBlk; refine aw_block ?_)
        | (show cSkip; refine aw_skip ?_)
        | (show cExit; refine aw_exit ?_)
        | (show cIf; first | refine aw_F ?_ | refine aw_ifD (fun h => ?_) (fun h => ?_))
        | (exfalso; omega))
      all_goals
        refine ⟨k + 1, by omega, ?_, by simp [Fr.get], by omega⟩
        simp only [Int.toNat_natCast, hset2]
  · repeat' (first
      | (show cRet; refine kw_freezeM (f := encI) 2 ?_)
      | (show lOp; refine op0 (by first | (show kAssign; exact b_assign) | (show kMove; exact b_move) | (show kCall; exact m_lenSl) | (show kIndexaddr; exact m_indexMs) | (show kBinopLss; exact b_lss)) ?_)
      | (show lNil; refine al_nil ?_)
      | (show qSeq; first | refine n_seq ?_ | refine x_seq ?_)
      | (show qBlk; refine x_eq ?_)
      | (show cReg; refine aw_reg ?_)
      | (show cSeq; refine aw_seq ?_)
      | (show cBlk; refine aw_block ?_)
      | (show cSkip; refine aw_skip ?_)
      | (show cExit; refine aw_exit ?_)
      | (show cRet; refine aw_ret ?_)
      | (show cIf; refine aw_ifD (fun h => ?_) (fun h => ?_))
      | (show eRet; refine ret1 Tryd.results46 ?_)
      | (exfalso; omega))
    have : acc.length ≤ k := by omega
    rw [tabI_end this, ← hal, List.take_of_length_le (Nat.le_refl _)]
end Go.AL
set_option linter.unusedVariables false
namespace Go.AL
open Go.Proofs
set_option maxRecDepth 10000
attribute [local irreducible] AWp AList RStep seqQ blockQ retQ DSteps DT awR rQ SStep
theorem rpartsN_c (e : List Nd) (acc : List Int) (c : Nat) (h : BF e acc c) (hl : e.length ≤ 1000000) (k : Nat) (hk : k < e.length) : ACalls Tryd.prog 47 [expr e, ints acc, i64 k] [] (fun x _ => x = .ret (ints (psL acc k (at' e (k : Int)).n.toNat))) := by
  have hal := h.len
  obtain ⟨m, n1, n2, n3, n4, n5⟩ := h.node_at k hk
  have n6 := n4 m (Nat.le_refl _)
  have hpl : (psL acc k m).length = m := psL_len
  rw [n1, Int.toNat_natCast]
  refine acalls_by Tryd.func47 Tryd.ntmps47 ?_
  simp only [argFr]
  repeat' (first
    | (show cRet; refine kw_nil 6 1 ?_)
    | (show lMakeSlice; refine k_make ?_)
    | (show lOp; refine op0 (by first | (show kAssign; exact b_assign) | (show kMove; exact b_move) | (show kCall; exact m_lenSl) | (show kLoad; exact b_loadRp) | (show kFieldaddr; exact b_fieldRp) | (show kIndexaddr; exact m_indexSl) | (show kBinopSub; exact b_sub) | (show kBinopLss; exact b_lss) | (show kBinopGeq; exact b_geq) | (show kPick; first | exact b_pickT | exact b_pickF)) ?_)
    | (show lGu; first | refine al_yes ?_ | refine al_none ?_ | refine al_splitD (fun h => ?_) (fun h => ?_))
    | (show lNil; refine al_nil ?_)
    | (show qSeq; first | refine n_seq ?_ | refine p_seq ?_)
    | (show cReg; refine aw_reg ?_)
    | (show cSeq; refine aw_seq ?_)
    | (show cBlk; refine aw_block ?_)
    | (show cSkip; refine aw_skip ?_)
    | (show cRet; refine aw_ret ?_)
    | (show cIf; first | refine aw_T ?_ | refine aw_ifD (fun h => ?_) (fun h => ?_))
    | (show eRet; refine ret1 Tryd.results47 ?_)
    | (exfalso; omega))
  have hmn : (at' e (k : Int)).n.toNat = m := by omega
  have ez1 : List.replicate (at' e (k : Int)).n.toNat (zP (.int .i64 0)) = (tabD (psL acc k m) m).map encI := by
    have := tabD_all (ps := psL acc k m)
    rw [hpl] at this
    rw [this, hmn]; simp [zP, Value.cells]
  rw [ez1, hmn]
  refine aw_rounds (ι := Nat) (fun q => [(0, expr e), (1, ints acc), (2, i64 k), (7, .c (.ms 0 m)), (8, i64 (upL acc (m - q) k)), (9, i64 ((q : Int) - 1))]) (fun q => [.arr 3 1 ((tabD (psL acc k m) q).map encI)]) (fun q => q ≤ m) (fun q => q) m (Nat.le_refl _) rfl (by simp [Fr.get, upL, n1]) ?_
  rintro q hq
  have u1 := n4 (m - q) (by omega)
  have u2 := n3 (m - q)
  have hlen := tabD_len (ps := psL acc k m) (q := q) (by omega)
  by_cases hq0 : q = 0
  · subst hq0
    repeat' (first
      | (show cRet; refine kw_freezeM (f := encI) 6 ?_)
      | (show lOp; refine op0 (by first | (show kAssign; exact b_assign) | (show kMove; exact b_move) | (show kBinopGeq; exact b_geq)) ?_)
      | (show lNil; refine al_nil ?_)
      | (show qSeq; first | refine n_seq ?_ | refine x_seq ?_)
      | (show qBlk; refine x_eq ?_)
      | (show cReg; refine aw_reg ?_)
      | (show cSeq; refine aw_seq ?_)
      | (show cExit; refine aw_exit ?_)
      | (show cRet; refine aw_ret ?_)
      | (show cIf; refine aw_F ?_)
      | (show eRet; refine ret1 Tryd.results47 ?_))
    rw [tabD_zero, List.take_of_length_le (by omega)]
  · obtain ⟨q, rfl⟩ : ∃ p, q = p + 1 := ⟨q - 1, by omega⟩
    have u3 := u2 (by omega)
    have u4 := upL_last acc (m - (q + 1)) k
    rw [show m - (q + 1) + 1 = m - q by omega] at u4
    have u5 := tabD_set (ps := psL acc k m) (q := q) (by omega) _ (psL_at (acc := acc) (i := k) (show q < m by omega))
    rw [show m - 1 - q = m - (q + 1) by omega] at u5
    repeat' (first
      | (show lStore; refine k_storeElM (f := encI) _ ?_)
      | (show lOp; refine op0 (by first | (show kAssign; exact b_assign) | (show kMove; exact b_move) | (show kLoad; exact b_loadRp) | (show kIndexaddr; first | exact m_indexSl | exact m_indexMs) | (show kBinopSub; exact b_sub) | (show kBinopGeq; exact b_geq)) ?_)
      | (show lNil; refine al_nil ?_)
      | (show qSeq; first | refine n_seq ?_ | refine x_seq ?_)
      | (show qBlk; first | refine n_block ?_ | refine x_eq ?_)
      | (show cReg; refine aw_reg ?_)
      | (show cSeq; refine aw_seq ?_)
      | (show cBlk; refine aw_block ?_)
      | (show cSkip; refine aw_skip ?_)
      | (show cExit; refine aw_exit ?_)
      | (show cRet; refine aw_ret ?_)
      | (show cIf; refine aw_ifD (fun h => ?_) (fun h => ?_))
      | (show eRet; refine ret1 Tryd.results47 ?_)
      | (exfalso; omega))
    refine ⟨q, by omega, ?_, by simp [Fr.get, u4], by omega⟩
    have e1 : (((q + 1 : Nat) : Int) - 1).toNat = q := by omega
    simp only [e1, u5]
theorem rnest_c (e : List Nd) (h : e = [] ∨ Fo e 1) (hl : e.length ≤ 1000000) : ACalls Tryd.prog 20 [expr e] [] (fun x _ => x = .ret (i64 (nestE e))) := by
  rcases h with rfl | h
  · have hbg := rbegins_c [] [] 0 .nil (by simp)
    refine acalls_by Tryd.func20 Tryd.ntmps20 ?_
    simp only [argFr]
    repeat' (first
      | (show lOp; refine op0 (by first | (show kAssign; exact b_assign) | (show kMove; exact b_move) | (show kCall; first | exact b_call (hbg) | exact m_lenSl) | (show kBinopEql; exact b_eql) | (show kPick; exact b_pickT)) ?_)
      | (show lGu; refine al_none ?_)
      | (show lNil; refine al_nil ?_)
      | (show qSeq; first | refine n_seq ?_ | refine p_seq ?_)
      | (show cReg; refine aw_reg ?_)
      | (show cSeq; refine aw_seq ?_)
      | (show cRet; refine aw_ret ?_)
      | (show cIf; refine aw_T ?_)
      | (show eRet; refine ret1 Tryd.results20 ?_))
    rfl
  · have hb := h.bg
    have hd := h.ds
    have h0 := h.ne
    have hbg := rbegins_c e _ 1 hb hl
    have hal := hb.len
    have hdl := hd.len
    have hz := last_zero hb
    rw [nestE, if_neg (by omega)]
    generalize bgL e = acc at *
    generalize dsL e = ds at *
    refine acalls_by Tryd.func20 Tryd.ntmps20 ?_
    simp only [argFr]
    repeat' (first
      | (show lMakeSlice; refine k_make ?_)
      | (show lOp; refine op0 (by first | (show kAssign; exact b_assign) | (show kMove; exact b_move) | (show kCall; first | exact b_call (hbg) | exact m_lenSl) | (show kLoad; exact b_loadRp) | (show kIndexaddr; exact m_indexSl) | (show kBinopSub; exact b_sub) | (show kBinopEql; exact b_eql) | (show kBinopNeq; exact b_neq) | (show kPick; first | exact b_pickT | exact b_pickF)) ?_)
      | (show lGu; first | refine al_yes ?_ | refine al_none ?_ | refine al_splitD (fun h => ?_) (fun h => ?_))
      | (show lNil; refine al_nil ?_)
      | (show qSeq; first | refine n_seq ?_ | refine p_seq ?_)
      | (show cReg; refine aw_reg ?_)
      | (show cSeq; refine aw_seq ?_)
      | (show cBlk; refine aw_block ?_)
      | (show cSkip; refine aw_skip ?_)
      | (show cRet; refine aw_ret ?_)
      | (show cIf; first | refine aw_T ?_ | refine aw_ifD (fun h => ?_) (fun h => ?_))
      | (show eRet; refine ret1 Tryd.results20 ?_)
      | (exfalso; omega))
    have ez1 : List.replicate (e.length : Int).toNat (zP (.int .i64 0)) = (tabI ds 0 0).map encI := by simp [zP, Value.cells, tabI, hdl]
    rw [ez1]
    refine aw_rounds (ι := Nat) (fun i => [(0, expr e), (3, ints acc), (4, .c (.ms 0 e.length)), (5, i64 i)]) (fun i => [.arr 3 1 ((tabI ds i 0).map encI)]) (fun i => i ≤ e.length) (fun i => e.length - i) 0 (by omega) rfl (by simp [Fr.get]) ?_
    rintro k hk1
    have hlen := tabI_len (z := 0) (show k ≤ ds.length by omega)
    by_cases hk : k < e.length
    · obtain ⟨m, n1, n2, n3, n4, n5⟩ := hb.node_at k hk
      have hp := rpartsN_c e acc 1 hb hl k hk
      rw [n1, Int.toNat_natCast] at hp
      have hpl : (psL acc k m).length = m := psL_len
      have hat := tabI_at (z := 0) (show k ≤ ds.length by omega)
      have hdk := hd.at_ k hk
      rw [n1, Int.toNat_natCast] at hdk
      have hset := tabI_set (z := 0) (show k < ds.length by omega) _ rfl
      have hdle := hd.le hb k hk
      repeat' (first
        | (show lOp; refine op0 (by first | (show kAssign; exact b_assign) | (show kMove; exact b_move) | (show kCall; first | exact b_call (hp) | exact m_lenSl) | (show kLoad; exact m_loadEpt) | (show kIndexaddr; exact m_indexMs) | (show kBinopSub; exact b_sub) | (show kBinopLss; exact b_lss)) ?_)
        | (show lNil; refine al_nil ?_)
        | (show qSeq; first | refine n_seq ?_ | refine x_seq ?_)
        | (show qBlk; refine x_eq ?_)
        | (show cReg; refine aw_reg ?_)
        | (show cSeq; refine aw_seq ?_)
        | (show cBlk; refine aw_block ?_)
        | (show cSkip; refine aw_skip ?_)
        | (show cExit; refine aw_exit ?_)
        | (show cRet; refine aw_ret ?_)
        | (show cIf; refine aw_ifD (fun h => ?_) (fun h => ?_))
        | (show eRet; refine ret1 Tryd.results20 ?_)
        | (exfalso; omega))
      refine aw_rounds (ι := Nat) (fun q => [(0, expr e), (3, ints acc), (4, .c (.ms 0 e.length)), (5, i64 k), (6, ints (psL acc k m)), (8, i64 q), (7, i64 (mxL ds ((psL acc k m).take q) 0))]) (fun q => [.arr 3 1 ((tabI ds k 0).map encI)]) (fun q => q ≤ m) (fun q => m - q) 0 (Nat.zero_le _) rfl (by simp [Fr.get, mxL]) ?_
      rintro q hq
      have a2 : q < m → 0 ≤ at' (psL acc k m) (q : Int) ∧ at' (psL acc k m) (q : Int) < k ∧ at' (tabI ds k 0) (at' (psL acc k m) (q : Int)) = at' ds (at' (psL acc k m) (q : Int)) := fun hq => by
        rw [psL_at hq]
        have b1 := n3 (m - 1 - q) (by omega)
        have b2 := n4 (m - 1 - q) (by omega)
        refine ⟨by omega, by omega, ?_⟩
        rw [show upL acc (m - 1 - q) k - 1 = ((upL acc (m - 1 - q) k - 1).toNat : Int) by omega]
        exact hat _ (by omega)
      by_cases hqm : q < m
      · obtain ⟨c1, c2, c3⟩ := a2 hqm
        have hn := mxL_next (ds := ds) (ps := psL acc k m) (q := q) (by omega) 0
        repeat' (first
          | (show lOp; refine op0 (by first | (show kAssign; exact b_assign) | (show kMove; exact b_move) | (show kCall; exact m_lenSl) | (show kLoad; first | exact b_loadRp | exact m_loadEpt) | (show kIndexaddr; first | exact m_indexSl | exact m_indexMs) | (show kBinopAdd; exact b_add) | (show kBinopLss; exact b_lss) | (show kBinopGtr; exact b_gtr)) ?_)
          | (show lNil; refine al_nil ?_)
          | (show qSeq; first | refine n_seq ?_ | refine x_seq ?_)
          | (show qBlk; first | refine n_block ?_ | refine x_eq ?_)
          | (show cReg; refine aw_reg ?_)
          | (show cSeq; refine aw_seq ?_)
          | (show cBlk; refine aw_block ?_)
          | (show cSkip; refine aw_skip ?_)
          | (show cExit; refine aw_exit ?_)
          | (show cIf; refine aw_ifD (fun h => ?_) (fun h => ?_))
          | (exfalso; omega))
        all_goals
          refine ⟨q + 1, by omega, rfl, by simp [Fr.get, hn, c3]; omega, by omega⟩
      · have : q = m := by omega
        subst this
        have e1 : (psL acc k q).take q = psL acc k q := List.take_of_length_le (by omega)
        have hM : 0 ≤ mxL ds (psL acc k q) 0 := (mxL_le (ds := ds) _ 0).1
        rw [e1]
        repeat' (first
          | (show lStore; refine k_storeElM (f := encI) _ ?_)
          | (show lOp; refine op0 (by first | (show kAssign; exact b_assign) | (show kMove; exact b_move) | (show kCall; exact m_lenSl) | (show kLoad; first | exact b_loadRp | exact m_loadEpt) | (show kIndexaddr; first | exact m_indexSl | exact m_indexMs) | (show kBinopAdd; exact b_add) | (show kBinopLss; exact b_lss) | (show kBinopGtr; exact b_gtr)) ?_)
          | (show lNil; refine al_nil ?_)
          | (show qSeq; first | refine n_seq ?_ | refine x_seq ?_)
          | (show qBlk; first | refine n_block ?_ | refine x_eq ?_)
          | (show cReg; refine aw_reg ?_)
          | (show cSeq; refine aw_seq ?_)
          | (show cBlk; refine aw_block ?_)
          | (show cSkip; refine aw_skip ?_)
          | (show cExit; refine aw_exit ?_)
          | (show cIf; refine aw_ifD (fun h => ?_) (fun h => ?_))
          | (exfalso; omega))
        refine ⟨k + 1, by omega, ?_, by simp [Fr.get], by omega⟩
        rw [← hset, hdk, Int.add_comm 1]
        rfl
    · repeat' (first
        | (show lOp; refine op0 (by first | (show kAssign; exact b_assign) | (show kMove; exact b_move) | (show kCall; exact m_lenSl) | (show kLoad; exact m_loadEpt) | (show kIndexaddr; exact m_indexMs) | (show kBinopSub; exact b_sub) | (show kBinopLss; exact b_lss)) ?_)
        | (show lNil; refine al_nil ?_)
        | (show qSeq; first | refine n_seq ?_ | refine x_seq ?_)
        | (show qBlk; refine x_eq ?_)
        | (show cReg; refine aw_reg ?_)
        | (show cSeq; refine aw_seq ?_)
        | (show cBlk; refine aw_block ?_)
        | (show cSkip; refine aw_skip ?_)
        | (show cExit; refine aw_exit ?_)
        | (show cRet; refine aw_ret ?_)
        | (show cIf; refine aw_ifD (fun h => ?_) (fun h => ?_))
        | (show eRet; refine ret1 Tryd.results20 ?_)
        | (exfalso; omega))
      have : k = e.length := by omega
      subst this
      rw [tabI_end (by omega)]
end Go.AL
set_option linter.unusedVariables false
namespace Go.AL
open Go.Proofs
set_option maxRecDepth 10000
attribute [local irreducible] AWp AList RStep seqQ blockQ retQ DSteps DT awR rQ SStep
abbrev nilA : AV := .c (.p (.lit (.slice none 0 0)))
theorem texts_c : ACalls Tryd.prog 21 [nilA, nilA] [] (fun r _ => r = .ret (bl true)) := by
  refine acalls_by Tryd.func21 Tryd.ntmps21 ?_
  simp only [argFr]
  repeat' (first
    | (show lOp; refine op0 (by first | (show kAssign; exact b_assign) | (show kMove; exact b_move) | (show kCall; exact b_lenNil) | (show kBinopNeq; exact b_neq)) ?_)
    | (show lNil; refine al_nil ?_)
    | (show qSeq; refine n_seq ?_)
    | (show cReg; refine aw_reg ?_)
    | (show cSeq; refine aw_seq ?_)
    | (show cBlk; refine aw_block ?_)
    | (show cSkip; refine aw_skip ?_)
    | (show cIf; refine aw_F ?_))
  refine aw_rounds (ι := Nat) (fun i => [(0, nilA), (1, nilA), (5, i64 0)]) (fun _ => []) (fun i => True) (fun i => i) 0 trivial rfl (by simp [Fr.get]) ?_
  rintro k -
  repeat' (first
    | (show lOp; refine op0 (by first | (show kAssign; exact b_assign) | (show kMove; exact b_move) | (show kCall; exact b_lenNil) | (show kBinopLss; exact b_lss)) ?_)
    | (show lNil; refine al_nil ?_)
    | (show qSeq; first | refine n_seq ?_ | refine x_seq ?_)
    | (show qBlk; refine x_eq ?_)
    | (show cReg; refine aw_reg ?_)
    | (show cSeq; refine aw_seq ?_)
    | (show cExit; refine aw_exit ?_)
    | (show cRet; refine aw_ret ?_)
    | (show cIf; refine aw_F ?_)
    | (show eRet; refine ret1 Tryd.results21 ?_))
  rfl
theorem nodes_c (e : List Nd) (hl : e.length ≤ 1000000) : ACalls Tryd.prog 22 [expr e, expr e] [] (fun r _ => r = .ret (bl true)) := by
  refine acalls_by Tryd.func22 Tryd.ntmps22 ?_
  simp only [argFr]
  repeat' (first
    | (show lOp; refine op0 (by first | (show kAssign; exact b_assign) | (show kMove; exact b_move) | (show kCall; exact m_lenSl) | (show kBinopNeq; exact b_neq)) ?_)
    | (show lNil; refine al_nil ?_)
    | (show qSeq; first | refine n_seq ?_ | refine p_seq ?_)
    | (show cReg; refine aw_reg ?_)
    | (show cSeq; refine aw_seq ?_)
    | (show cBlk; refine aw_block ?_)
    | (show cSkip; refine aw_skip ?_)
    | (show cRet; refine aw_ret ?_)
    | (show cIf; refine aw_ifD (fun h => ?_) (fun h => ?_))
    | (show eRet; refine ret1 Tryd.results22 ?_)
    | (exfalso; omega))
  refine aw_rounds (ι := Nat) (fun i => [(0, expr e), (1, expr e), (5, i64 i)]) (fun _ => []) (fun i => i ≤ e.length) (fun i => e.length - i) 0 (by omega) rfl (by simp [Fr.get]) ?_
  rintro k g1
  repeat' (first
    | (show lOp; refine op0 (by first | (show kAssign; exact b_assign) | (show kMove; exact b_move) | (show kCall; exact m_lenSl) | (show kBinopAdd; exact b_add) | (show kBinopNeq; exact b_neqAgg) | (show kBinopLss; exact b_lss)) ?_)
    | (show lNil; refine al_nil ?_)
    | (show qSeq; first | refine n_seq ?_ | refine p_seq ?_ | refine x_seq ?_)
    | (show qBlk; first | refine n_block ?_ | refine p_block ?_ | refine x_eq ?_)
    | (show cReg; refine aw_reg ?_)
    | (show cSeq; refine aw_seq ?_)
    | (show cBlk; refine aw_block ?_)
    | (show cSkip; refine aw_skip ?_)
    | (show cExit; refine aw_exit ?_)
    | (show cRet; refine aw_ret ?_)
    | (show cIf; first | refine aw_ifD (fun h => ?_) (fun h => ?_) | refine aw_if (fun h => ?_) (fun h => ?_))
    | (show cRegD; refine aw_drN Tryd_mixed ?_)
    | (show dOp; refine ds_op (by first | (show kMove; exact b_move) | (show kLoad; exact b_loadRp) | (show kIndexaddr; exact m_indexSl)) ?_)
    | (show dNil; refine ds_nil ?_)
    | (show eRet; refine ret1 Tryd.results22 ?_))
  · exfalso
    have e : ∀ x : ByteArray, (x == x) = true := fun x => by
      rcases x with ⟨d⟩
      show (d == d) = true
      exact beq_self_eq_true d
    simp [e] at h
  · exact ⟨k + 1, by omega, rfl, by simp [Fr.get], by omega⟩
  · rfl
theorem partsS_c (e : List Part) (hl : e.length ≤ 1000000) : ACalls Tryd.prog 23 [pat e, pat e] [] (fun r _ => r = .ret (bl true)) := by
  refine acalls_by Tryd.func23 Tryd.ntmps23 ?_
  simp only [argFr]
  repeat' (first
    | (show lOp; refine op0 (by first | (show kAssign; exact b_assign) | (show kMove; exact b_move) | (show kCall; exact m_lenSl) | (show kBinopNeq; exact b_neq)) ?_)
    | (show lNil; refine al_nil ?_)
    | (show qSeq; first | refine n_seq ?_ | refine p_seq ?_)
    | (show cReg; refine aw_reg ?_)
    | (show cSeq; refine aw_seq ?_)
    | (show cBlk; refine aw_block ?_)
    | (show cSkip; refine aw_skip ?_)
    | (show cRet; refine aw_ret ?_)
    | (show cIf; refine aw_ifD (fun h => ?_) (fun h => ?_))
    | (show eRet; refine ret1 Tryd.results23 ?_)
    | (exfalso; omega))
  refine aw_rounds (ι := Nat) (fun i => [(0, pat e), (1, pat e), (5, i64 i)]) (fun _ => []) (fun i => i ≤ e.length) (fun i => e.length - i) 0 (by omega) rfl (by simp [Fr.get]) ?_
  rintro k g1
  repeat' (first
    | (show lOp; refine op0 (by first | (show kAssign; exact b_assign) | (show kMove; exact b_move) | (show kCall; exact m_lenSl) | (show kBinopAdd; exact b_add) | (show kBinopNeq; exact b_neqAgg) | (show kBinopLss; exact b_lss)) ?_)
    | (show lNil; refine al_nil ?_)
    | (show qSeq; first | refine n_seq ?_ | refine p_seq ?_ | refine x_seq ?_)
    | (show qBlk; first | refine n_block ?_ | refine p_block ?_ | refine x_eq ?_)
    | (show cReg; refine aw_reg ?_)
    | (show cSeq; refine aw_seq ?_)
    | (show cBlk; refine aw_block ?_)
    | (show cSkip; refine aw_skip ?_)
    | (show cExit; refine aw_exit ?_)
    | (show cRet; refine aw_ret ?_)
    | (show cIf; first | refine aw_ifD (fun h => ?_) (fun h => ?_) | refine aw_if (fun h => ?_) (fun h => ?_))
    | (show cRegD; refine aw_drN Tryd_mixed ?_)
    | (show dOp; refine ds_op (by first | (show kMove; exact b_move) | (show kLoad; exact b_loadRp) | (show kIndexaddr; exact m_indexSl)) ?_)
    | (show dNil; refine ds_nil ?_)
    | (show eRet; refine ret1 Tryd.results23 ?_))
  · exfalso; simp at h
  · exact ⟨k + 1, by omega, rfl, by simp [Fr.get], by omega⟩
  · rfl
abbrev markP (n : Int) : Part := ⟨-1 - n, default⟩
abbrev moreP (n : Int) : Part := ⟨-100000 - n, default⟩
theorem mark_c (n : Int) (h0 : 0 ≤ n) (h1 : n ≤ 1000) : ACalls Tryd.prog 11 [i64 n] [] (fun r _ => r = .ret (.agg ((encPart (markP n)).map .p))) := by
  refine acalls_by Tryd.func11 Tryd.ntmps11 ?_
  simp only [argFr]
  repeat' (first
    | (show lAlloc; refine k_alloc ?_)
    | (show lStore; refine k_store ?_)
    | (show lOp; refine op0 (by first | (show kMove; exact b_move) | (show kBinopSub; exact b_sub) | (show kBuild; exact b_buildSt)) ?_)
    | (show lNil; refine al_nil ?_)
    | (show qSeq; refine n_seq ?_)
    | (show cReg; refine aw_reg ?_)
    | (show cSeq; refine aw_seq ?_)
    | (show cRet; refine aw_ret ?_)
    | (show eRet; refine retC1 Tryd.results11 ?_))
  rfl
theorem more_c (n : Int) (h0 : 0 ≤ n) (h1 : n ≤ 1000) : ACalls Tryd.prog 12 [i64 n] [] (fun r _ => r = .ret (.agg ((encPart (moreP n)).map .p))) := by
  refine acalls_by Tryd.func12 Tryd.ntmps12 ?_
  simp only [argFr]
  repeat' (first
    | (show lAlloc; refine k_alloc ?_)
    | (show lStore; refine k_store ?_)
    | (show lOp; refine op0 (by first | (show kMove; exact b_move) | (show kBinopSub; exact b_sub) | (show kBuild; exact b_buildSt)) ?_)
    | (show lNil; refine al_nil ?_)
    | (show qSeq; refine n_seq ?_)
    | (show cReg; refine aw_reg ?_)
    | (show cSeq; refine aw_seq ?_)
    | (show cRet; refine aw_ret ?_)
    | (show eRet; refine retC1 Tryd.results12 ?_))
  rfl
abbrev rulesS (rs : List Rl) : PV := .sl 3 (rs.map encRl)
abbrev gramA (x y : PV) : AV := .agg [.p x, .p y]
theorem grammars_c (rs : List Rl) (hrs : ∀ r ∈ rs, r.body.length ≤ 1000000) (hl : rs.length ≤ 1000000) : ACalls Tryd.prog 7 [gramA (.lit (.slice none 0 0)) (rulesS rs), gramA (.lit (.slice none 0 0)) (rulesS rs)] [] (fun r _ => r = .ret (bl true)) := by
  refine acalls_by Tryd.func7 Tryd.ntmps7 ?_
  simp only [argFr]
  repeat' (first
    | (show lBox; refine k_box ?_)
    | (show lOp; refine op0 (by first | (show kAssign; exact b_assign) | (show kMove; exact b_move) | (show kCall; first | exact m_lenSl | exact b_lenNil) | (show kLoad; exact b_loadPtr) | (show kFieldaddr; exact b_fieldPtr) | (show kBinopNeq; exact b_neq) | (show kPick; exact b_pickF)) ?_)
    | (show lGu; refine al_yes ?_)
    | (show lNil; refine al_nil ?_)
    | (show qSeq; first | refine n_seq ?_ | refine p_seq ?_)
    | (show cReg; refine aw_reg ?_)
    | (show cSeq; refine aw_seq ?_)
    | (show cBlk; refine aw_block ?_)
    | (show cSkip; refine aw_skip ?_)
    | (show cRet; refine aw_ret ?_)
    | (show cIf; refine aw_ifD (fun h => ?_) (fun h => ?_))
    | (show eRet; refine ret1 Tryd.results7 ?_)
    | (exfalso; omega))
  refine aw_rounds (ι := Nat) (fun i => [(2, .c (.ptr 0 0)), (3, .c (.ptr 1 0)), (5, i64 0)]) (fun _ => _) (fun i => True) (fun i => i) 0 trivial rfl (by simp [Fr.get]) ?_
  rintro k -
  repeat' (first
    | (show lOp; refine op0 (by first | (show kAssign; exact b_assign) | (show kMove; exact b_move) | (show kCall; exact b_lenNil) | (show kLoad; exact b_loadPtr) | (show kFieldaddr; exact b_fieldPtr) | (show kBinopLss; exact b_lss)) ?_)
    | (show lNil; refine al_nil ?_)
    | (show qSeq; first | refine n_seq ?_ | refine x_seq ?_)
    | (show qBlk; refine x_eq ?_)
    | (show cReg; refine aw_reg ?_)
    | (show cSeq; refine aw_seq ?_)
    | (show cBlk; refine aw_block ?_)
    | (show cExit; refine aw_exit ?_)
    | (show cIf; refine aw_F ?_))
  refine aw_roundsP (ι := Nat) 2 (fun _ => [.cells [.p (.lit (.slice none 0 0)), .p (rulesS rs)], .cells [.p (.lit (.slice none 0 0)), .p (rulesS rs)]]) (fun i n => [(2, .c (.ptr 0 0)), (3, .c (.ptr 1 0)), (6, i64 i)]) (fun i n => []) (fun i => i ≤ rs.length) (fun i => rs.length - i) 0 2 (fun _ => rfl) (by omega) (by omega) (by simp) rfl rfl (by simp [Fr.get]) ?_
  rintro k n g g1 hg
  by_cases hk : k < rs.length
  · have hn := nodes_c (at' rs (k : Int)).body (hrs _ (at'_mem (by omega) (by omega)))
    have e0 : ∀ x : ByteArray, (x == x) = true := fun x => by
      rcases x with ⟨d⟩
      show (d == d) = true
      exact beq_self_eq_true d
    repeat' (first
      | (show lAlloc; refine k_alloc ?_)
      | (show lStore; refine k_store ?_)
      | (show lOp; refine op0 (by first | (show kAssign; exact b_assign) | (show kMove; exact b_move) | (show kCall; first | exact b_call (texts_c) | exact b_call (hn) | exact m_lenSl) | (show kLoad; first | exact b_loadRp | exact b_loadPtr) | (show kFieldaddr; exact b_fieldPtr) | (show kIndexaddr; exact m_indexSl) | (show kBinopAdd; exact b_add) | (show kBinopNeq; exact b_strNeq) | (show kBinopLss; exact b_lss) | (show kPick; first | exact b_pickT | exact b_pickF) | (show kUnopNot; exact b_not)) ?_)
      | (show lGu; first | refine al_yes ?_ | refine al_none ?_ | refine al_splitD (fun h => ?_) (fun h => ?_))
      | (show lNil; refine al_nil ?_)
      | (show qSeq; first | refine n_seq ?_ | refine p_seq ?_ | refine x_seq ?_)
      | (show qBlk; first | refine n_block ?_ | refine p_block ?_ | refine x_eq ?_)
      | (show cReg; refine aw_reg ?_)
      | (show cSeq; refine aw_seq ?_)
      | (show cBlk; refine aw_block ?_)
      | (show cSkip; refine aw_skip ?_)
      | (show cExit; refine aw_exit ?_)
      | (show cRet; refine aw_ret ?_)
      | (show cIf; first | refine aw_T ?_ | refine aw_F ?_ | refine aw_ifD (fun h => ?_) (fun h => ?_))
      | (show eRet; refine ret1 Tryd.results7 ?_)
      | (exfalso; omega))
    · exact absurd rfl h
    · exact ⟨k + 1, n + 2, by omega, by omega, by simp at hg; simp; omega, rfl, dropG hg rfl, by simp [Fr.get], by omega⟩
  · repeat' (first
      | (show lAlloc; refine k_alloc ?_)
      | (show lStore; refine k_store ?_)
      | (show lOp; refine op0 (by first | (show kAssign; exact b_assign) | (show kMove; exact b_move) | (show kCall; exact m_lenSl) | (show kLoad; first | exact b_loadRp | exact b_loadPtr) | (show kFieldaddr; exact b_fieldPtr) | (show kIndexaddr; exact m_indexSl) | (show kBinopNeq; exact b_strNeq) | (show kBinopLss; exact b_lss) | (show kPick; exact b_pickT)) ?_)
      | (show lGu; first | refine al_yes ?_ | refine al_none ?_ | refine al_splitD (fun h => ?_) (fun h => ?_))
      | (show lNil; refine al_nil ?_)
      | (show qSeq; first | refine n_seq ?_ | refine p_seq ?_ | refine x_seq ?_)
      | (show qBlk; first | refine p_block ?_ | refine x_eq ?_)
      | (show cReg; refine aw_reg ?_)
      | (show cSeq; refine aw_seq ?_)
      | (show cBlk; refine aw_block ?_)
      | (show cSkip; refine aw_skip ?_)
      | (show cExit; refine aw_exit ?_)
      | (show cRet; refine aw_ret ?_)
      | (show cIf; first | refine aw_T ?_ | refine aw_ifD (fun h => ?_) (fun h => ?_))
      | (show eRet; refine ret1 Tryd.results7 ?_)
      | (exfalso; omega))
    rfl
end Go.AL
set_option linter.unusedVariables false
namespace Go.AL
open Go.Proofs
set_option maxRecDepth 10000
attribute [local irreducible] AWp AList RStep seqQ blockQ retQ DSteps DT awR rQ SStep
theorem lendParts_c (xs : List Part) (hl : xs.length ≤ 100000) : ACalls Tryd.prog 4 [pat xs] [] (fun r σ' => r = .ret (.c (.ms 0 xs.length)) ∧ σ' = [.arr 44 5 ((xs ++ [markP 77, moreP 77]).map encPart)]) := by
  have h1 := mark_c 77 (by omega) (by omega)
  have h2 := more_c 77 (by omega) (by omega)
  refine acalls_by Tryd.func4 Tryd.ntmps4 ?_
  simp only [argFr]
  repeat' (first
    | (show lMakeSlice; refine k_make ?_)
    | (show lOp; refine op0 (by first | (show kAssign; exact b_assign) | (show kMove; exact b_move) | (show kCall; exact m_lenSl) | (show kBinopAdd; exact b_add)) ?_)
    | (show lNil; refine al_nil ?_)
    | (show qSeq; refine n_seq ?_)
    | (show cReg; refine aw_reg ?_)
    | (show cSeq; refine aw_seq ?_))
  have hn : ((xs.length : Int) + 2).toNat = xs.length + 2 := by omega
  rw [hn]
  have ez1 : List.replicate (xs.length + 2) (zP (.agg #[.int .i64 0, .int .u64 0, .int .u64 0, .int .u64 0, .int .u64 0])) = (List.replicate (xs.length + 2) (default : Part)).map encPart := by simp [zP, Value.cells, encPart, default, instInhabitedPart.default, instInhabitedCls.default]
  rw [ez1]
  have hlr : (List.replicate (xs.length + 2) (default : Part)).length = xs.length + 2 := by simp
  generalize hL0 : List.replicate (xs.length + 2) (default : Part) = L0 at *
  have hl1 : (xs ++ L0.drop xs.length).length = xs.length + 2 := by simp; omega
  have hl2 : ∀ i v, ((xs ++ L0.drop xs.length).set i v).length = xs.length + 2 := fun i v => by rw [List.length_set]; exact hl1
  have hl3 : ∀ i v j u, (xs.length : Int) ≤ (((xs ++ L0.drop xs.length).set i v).set j u).length := fun i v j u => by rw [List.length_set, hl2]; omega
  have hl4 : ∀ i v, ((xs.length : Int) + 1).toNat < ((xs ++ L0.drop xs.length).set i v).length := fun i v => by rw [hl2]; omega
  have e1 : ((xs ++ L0.drop xs.length).set xs.length (markP 77)).set (xs.length + 1) (moreP 77) = xs ++ [markP 77, moreP 77] := by
    have h3 : L0.drop xs.length = [default, default] := by
      rw [← hL0, List.drop_replicate, show xs.length + 2 - xs.length = 2 by omega]; rfl
    rw [h3, List.set_append_right _ _ (by simp), List.set_append_right _ _ (by simp)]
    simp
  repeat' (first
    | (show lStore; first | refine k_storeElM (f := encPart) (markP 77) ?_ | refine k_storeElM (f := encPart) (moreP 77) ?_ (hi := hl4 _ _))
    | (show lCall; refine k_copy (f := encPart) (ys := xs) ?_)
    | (show lOp; refine op0 (by first | (show kAssign; exact b_assign) | (show kMove; exact b_move) | (show kCall; first | exact b_call (h1) | exact b_call (h2) | exact m_lenSl) | (show kIndexaddr; first | exact m_indexMs (hn := Nat.le_of_eq (hl2 _ _).symm) | exact m_indexMs) | (show kBinopAdd; exact b_add) | (show kSlice; exact m_sliceMs (h2 := hl3 _ _ _ _))) ?_)
    | (show lNil; refine al_nil ?_)
    | (show qSeq; refine n_seq ?_)
    | (show cReg; refine aw_reg ?_)
    | (show cSeq; refine aw_seq ?_)
    | (show cRet; refine aw_ret ?_)
    | (show eRet; refine ret1 Tryd.results4 ?_))
  refine ⟨by simp, ?_⟩
  rw [Int.toNat_natCast, show ((xs.length : Int) + 1).toNat = xs.length + 1 by omega, e1]
theorem keptParts_c (xs : List Part) (hl : xs.length ≤ 100000) : ACalls Tryd.prog 8 [.c (.ms 0 xs.length), pat xs] [.arr 44 5 ((xs ++ [markP 77, moreP 77]).map encPart)] (fun r σ' => r = .ret (bl true) ∧ σ' = [.arr 44 5 ((xs ++ [markP 77, moreP 77]).map encPart)]) := by
  have h1 := mark_c 77 (by omega) (by omega)
  have h2 := more_c 77 (by omega) (by omega)
  have e0 : (xs ++ [markP 77, moreP 77]).take xs.length = xs := List.take_left
  have h3 : ACalls Tryd.prog 23 [pat ((xs ++ [markP 77, moreP 77]).take xs.length), pat xs] [] (fun r _ => r = .ret (bl true)) := by
    rw [e0]; exact partsS_c xs (by omega)
  have hlen : (xs ++ [markP 77, moreP 77]).length = xs.length + 2 := by simp
  have a1 : at' (xs ++ [markP 77, moreP 77]) (xs.length : Int) = markP 77 := at'_last _ _ _
  have a2 : at' (xs ++ [markP 77, moreP 77]) ((xs.length : Int) + 1) = moreP 77 := by
    have := at'_last (xs ++ [markP 77]) (moreP 77) []
    simpa using this
  generalize hL : xs ++ [markP 77, moreP 77] = L at *
  refine acalls_by Tryd.func8 Tryd.ntmps8 ?_
  simp only [argFr]
  repeat' (first
    | (show lOp; refine op0 (by first | (show kAssign; exact b_assign) | (show kMove; exact b_move) | (show kCall; exact m_lenSl) | (show kBinopAdd; exact b_add) | (show kSlice; exact m_sliceMs)) ?_)
    | (show lNil; refine al_nil ?_)
    | (show qSeq; refine n_seq ?_)
    | (show cReg; refine aw_reg ?_)
    | (show cSeq; refine aw_seq ?_)
    | (show cRet; refine aw_ret ?_)
    | (show cRegD; refine aw_drN Tryd_mixed ?_)
    | (show dOp; refine ds_op (by first | (show kMove; exact b_move) | (show kCall; exact b_lend h3) | (show kPick; first | exact b_pickT | exact b_pickF)) ?_)
    | (show dGu; first | refine ds_none ?_ | (refine ds_yes (by first | (show kMove; exact b_move) | (show kCall; first | exact b_call (h1) | exact b_call (h2) | exact m_lenSl) | (show kLoad; exact m_loadEpt) | (show kIndexaddr; exact m_indexMs) | (show kBinopAdd; exact b_add) | (show kBinopEql; exact b_eqlAgg)) ?_) | refine ds_split (fun h => ?_) (fun h => ?_))
    | (show dNil; refine ds_nil ?_)
    | (show eRet; refine ret1 Tryd.results8 ?_))
  · rw [a2]; exact ⟨by simp, rfl⟩
  · exfalso
    rw [a1] at h
    simp at h
theorem spoilParts_c (L : List Part) (n : Nat) (hn : n ≤ L.length) (hl : L.length ≤ 1000000) : ACalls Tryd.prog 9 [.c (.ms 0 n)] [.arr 44 5 (L.map encPart)] (fun r σ' => r = .ret (.tup []) ∧ ∃ L' : List Part, L'.length = L.length ∧ σ' = [.arr 44 5 (L'.map encPart)]) := by
  have h1 := mark_c 78 (by omega) (by omega)
  refine acalls_by Tryd.func9 Tryd.ntmps9 ?_
  simp only [argFr]
  repeat' (first
    | (show lOp; refine op0 (by (show kAssign; exact b_assign)) ?_)
    | (show lNil; refine al_nil ?_)
    | (show qSeq; refine n_seq ?_)
    | (show cReg; refine aw_reg ?_)
    | (show cSeq; refine aw_seq ?_)
    | (show cBlk; refine aw_block ?_))
  refine aw_rounds (ι := Nat × List Part) (fun i => [(0, .c (.ms 0 n)), (2, i64 i.1)]) (fun i => [.arr 44 5 (i.2.map encPart)]) (fun i => i.1 ≤ n ∧ i.2.length = L.length) (fun i => n - i.1) (0, L) ⟨by omega, rfl⟩ rfl (by simp [Fr.get]) ?_
  rintro ⟨k, L1⟩ ⟨g1, g2⟩
  dsimp only at g1 g2 ⊢
  repeat' (first
    | (show lStore; refine k_storeElM (f := encPart) (markP 78) ?_)
    | (show lOp; refine op0 (by first | (show kAssign; exact b_assign) | (show kMove; exact b_move) | (show kCall; first | exact b_call (h1) | exact b_lenMs) | (show kIndexaddr; exact m_indexMs) | (show kBinopAdd; exact b_add) | (show kBinopLss; exact b_lss)) ?_)
    | (show lNil; refine al_nil ?_)
    | (show qSeq; first | refine n_seq ?_ | refine x_seq ?_)
    | (show qBlk; first | refine n_block ?_ | refine x_eq ?_)
    | (show cReg; refine aw_reg ?_)
    | (show cSeq; refine aw_seq ?_)
    | (show cBlk; refine aw_block ?_)
    | (show cSkip; refine aw_skip ?_)
    | (show cExit; refine aw_exit ?_)
    | (show cIf; refine aw_ifD (fun h => ?_) (fun h => ?_))
    | (show eEnd; refine end0 Tryd.results9 ?_))
  · exact ⟨(k + 1, _), ⟨by dsimp only; omega, by simp only [List.length_set]; exact g2⟩, rfl, by simp [Fr.get], by dsimp only; omega⟩
  · exact ⟨rfl, L1, g2, rfl⟩
end Go.AL
set_option linter.unusedVariables false
namespace Go.AL
open Go.Proofs
set_option maxRecDepth 10000
attribute [local irreducible] AWp AList RStep seqQ blockQ retQ DSteps DT awR rQ SStep
def wordL (n : Nat) : List UInt8 := [UInt8.ofNat (65 + n % 16), UInt8.ofNat (65 + n / 16 % 16), UInt8.ofNat (65 + n / 256 % 16), UInt8.ofNat (65 + n / 4096 % 16)]
def wordB (n : Nat) : ByteArray := ⟨(wordL n).toArray⟩
theorem word_c (n : Nat) (h : n ≤ 100000) : ACalls Tryd.prog 48 [i64 n] [] (fun r _ => r = .ret (str (wordB n))) := by
  have z : [65 + (n : Int) % 16, 65 + (n : Int) / 2 ^ (4 : Int).toNat % 16, 65 + (n : Int) / 2 ^ (8 : Int).toNat % 16, 65 + (n : Int) / 2 ^ (12 : Int).toNat % 16] = (wordL n).map fun b => (b.toNat : Int) := by
    simp only [wordL, List.map_cons, List.map_nil]
    rw [u8_of (by omega), u8_of (by omega), u8_of (by omega), u8_of (by omega)]
    have e1 : (4 : Int).toNat = 4 := rfl
    have e2 : (8 : Int).toNat = 8 := rfl
    have e3 : (12 : Int).toNat = 12 := rfl
    rw [e1, e2, e3]
    simp only [List.cons.injEq, and_true]
    omega
  have h4 : 0 ≤ (n : Int) / 2 ^ (4 : Int).toNat ∧ (n : Int) / 2 ^ (4 : Int).toNat ≤ 100000 := by
    have e1 : (4 : Int).toNat = 4 := rfl
    rw [e1]; omega
  have h8 : 0 ≤ (n : Int) / 2 ^ (8 : Int).toNat ∧ (n : Int) / 2 ^ (8 : Int).toNat ≤ 100000 := by
    have e1 : (8 : Int).toNat = 8 := rfl
    rw [e1]; omega
  have h12 : 0 ≤ (n : Int) / 2 ^ (12 : Int).toNat ∧ (n : Int) / 2 ^ (12 : Int).toNat ≤ 100000 := by
    have e1 : (12 : Int).toNat = 12 := rfl
    rw [e1]; omega
  refine acalls_by Tryd.func48 Tryd.ntmps48 ?_
  simp only [argFr]
  repeat' (first
    | (show lOp; refine op0 (by first | (show kAssign; exact b_assign) | (show kMove; exact b_move) | (show kBinopAdd; exact b_add) | (show kConvert; first | exact b_bytesStr' z Tryd.underlying111 Tryd.underlying5 Tryd.underlying9 (by simp [wordL]) | exact b_convU8 (congrArg Option.isSome Tryd.underlying3) Tryd.underlying5) | (show kBinopAnd; exact b_and15) | (show kBinopShr; exact b_shrC) | (show kBuildslice; exact b_buildB4)) ?_)
    | (show lNil; refine al_nil ?_)
    | (show qSeq; refine n_seq ?_)
    | (show cReg; refine aw_reg ?_)
    | (show cSeq; refine aw_seq ?_)
    | (show cRet; refine aw_ret ?_)
    | (show eRet; refine ret1 Tryd.results48 ?_))
  rfl
end Go.AL
set_option linter.unusedVariables false
set_option linter.unusedSimpArgs false
namespace Go.AL
abbrev GS.body (s : GS) (j : Nat) : List Nd := (at' s.rules (j : Int)).body
structure TFo (s s' : GS) : Prop where
  le : s.rules.length ≤ s'.rules.length
  old : ∀ j, j < s.rules.length → Fo (s.body j) 1 → Fo (s'.body j) 1
  new : ∀ j, s.rules.length ≤ j → j < s'.rules.length → Fo (s'.body j) 1
theorem TFo.rfl {s : GS} : TFo s s := ⟨Nat.le_refl _, fun _ _ h => h, fun j h1 h2 => by omega⟩
theorem TFo.trans {a b c : GS} (h : TFo a b) (h' : TFo b c) : TFo a c :=
  ⟨Nat.le_trans h.le h'.le, fun j hj hf => h'.old j (Nat.lt_of_lt_of_le hj h.le) (h.old j hj hf), fun j h1 h2 => by
    by_cases hb : j < b.rules.length
    · exact h'.old j hb (h.new j h1 hb)
    · exact h'.new j (by omega) h2⟩
theorem TFo.put {s : GS} {op : Int} {x y : List Nd} : TFo s (s.put op x y).2 := ⟨Nat.le_refl _, fun _ _ h => h, fun j h1 h2 => by rw [put_rules] at h2; omega⟩
theorem body_set {s : GS} {i j : Nat} {e : List Nd} (hj : j < s.rules.length) : (s.setBody i e).body j = if i = j then e else s.body j := by
  simp only [GS.body, GS.setBody, at'_setN]
  by_cases h : i = j
  · rw [if_pos ⟨h, hj⟩, if_pos h]
  · rw [if_neg (by omega), if_neg h]
theorem TFo.setBody {s : GS} {i : Nat} {e : List Nd} (h : Fo e 1) : TFo s (s.setBody i e) :=
  ⟨by rw [setBody_len]; exact Nat.le_refl _, fun j hj hf => by
    rw [body_set hj]; split
    · exact h
    · exact hf, fun j h1 h2 => by rw [setBody_len] at h2; omega⟩
/-- A rule begun, and laid into behind something that keeps. -/
theorem TFo.begun {s s' : GS} {e : List Nd} (hk : TFo s.begunP.2 s') (h : Fo e 1) : TFo s (s'.setBody s.begunP.1 e) := by
  have hle := hk.le
  by_cases hb : s.rules.length ≥ 256
  · have e1 : s.begunP.2.rules = s.rules := by simp only [GS.begunP]; rw [if_pos hb]
    have h1 : TFo s s' := ⟨by rw [← e1]; exact hk.le, fun j hj hf => hk.old j (by rw [e1]; exact hj) (by simp only [GS.body, e1]; exact hf), fun j h1 h2 => hk.new j (by rw [e1]; exact h1) h2⟩
    exact h1.trans (.setBody h)
  · have e1 : s.begunP = (s.rules.length, ⟨s.err, s.lg, s.rules ++ [⟨nameOf s.rules.length, []⟩]⟩) := by simp only [GS.begunP]; rw [if_neg hb]
    rw [e1] at hk hle ⊢
    simp only [List.length_append, List.length_cons, List.length_nil] at hle
    refine ⟨by rw [setBody_len]; omega, fun j hj hf => ?_, fun j h1 h2 => ?_⟩
    · rw [body_set (by omega), if_neg (by omega)]
      exact hk.old j (by simp; omega) (by simp only [GS.body, at'_appN _ _ _ hj]; exact hf)
    · rw [setBody_len] at h2
      rw [body_set h2]
      split
      · exact h
      · exact hk.new j (by simp; omega) h2
theorem shared_full {s : GS} {k : List Nd} (h : Fo k 1) : TFo s (s.sharedP k).2 ∧ Fo (s.sharedP k).1 1 := by
  unfold GS.sharedP; split
  · exact ⟨.rfl, h⟩
  · exact ⟨TFo.begun .rfl h, .ask _ _⟩
theorem wayP_full (t : T) (k : List Nd) (s : GS) : Fo k 1 → TFo s (wayP t k s).2 ∧ Fo (wayP t k s).1 1 := by
  induction t, k, s using wayP.induct with
  | case1 t k s he => intro hk; rw [wayP.eq_def, if_pos he]; exact ⟨.rfl, hk⟩
  | case2 k s he => intro hk; rw [wayP, if_neg he]; exact ⟨.rfl, hk⟩
  | case3 k s he => intro hk; rw [wayP, if_neg he]; exact ⟨.rfl, .one rfl⟩
  | case4 k s he c => intro hk; rw [wayP, if_neg he]; exact ⟨.put, .put (.one rfl) hk⟩
  | case5 k s he x y ih1 ih2 =>
    intro hk; rw [wayP, if_neg he]
    have h1 := ih1 hk
    have h2 := ih2 h1.2
    exact ⟨h1.1.trans h2.1, h2.2⟩
  | case6 k s he x y p a ih1 ih2 ih3 =>
    intro hk; rw [wayP, if_neg he]
    have h0 := shared_full (s := s) hk
    have h1 := ih1 h0.2
    have h2 := ih3 h0.2
    exact ⟨((h0.1.trans h1.1).trans h2.1).trans .put, .put h1.2 h2.2⟩
  | case7 k s he a hl => intro hk; rw [wayP, if_neg he]; simp only; rw [if_pos hl]; exact ⟨⟨Nat.le_refl _, fun _ _ h => h, fun j h1 h2 => by simp only at h2; omega⟩, hk⟩
  | case8 k s he a hl h0 => intro hk; rw [wayP, if_neg he]; simp only; rw [if_neg hl, if_pos h0]; exact ⟨⟨Nat.le_refl _, fun _ _ h => h, fun j h1 h2 => by simp only at h2; omega⟩, hk⟩
  | case9 k s he a hl h0 ih =>
    intro hk; rw [wayP, if_neg he]; simp only; rw [if_neg hl, if_neg h0]
    have h1 := ih (.ask _ _)
    exact ⟨TFo.begun (h1.1.trans .put) (.put h1.2 hk), .ask _ _⟩
/-! ### The grammar of a pattern -/
/-- What the last rule is followed by. -/
def endE : List Nd := [nd 3 0, nd 13 1]
def startS : GS := ⟨0, false, [⟨⟨#[83]⟩, []⟩]⟩
/-- The rules that the program lays, ahead of its tests. -/
def builtP (t : T) : GS := (wayP t endE startS).2.setBody 0 (wayP t endE startS).1
theorem endE_ok : okE endE := ⟨by decide, by decide, by decide, by decide⟩
theorem endE_fo : Fo endE 1 := Fo.node (e := [nd 3 0]) (c := 0) (n := 1) (Fo.one rfl) rfl
theorem startS_P : startS.okP := ⟨by decide, by decide, fun _ => rfl⟩
theorem builtP_fo (t : T) : ∀ j, j < (builtP t).rules.length → Fo ((builtP t).body j) 1 := by
  obtain ⟨h1, h2⟩ := wayP_full t endE startS endE_fo
  intro j hj
  simp only [builtP, setBody_len] at hj
  simp only [builtP]
  rw [body_set hj]
  split
  · exact h2
  · exact h1.new j (by simp only [startS, List.length_cons, List.length_nil]; omega) hj
theorem builtP_len (t : T) : (builtP t).rules.length ≤ 256 := by
  simp only [builtP, setBody_len]
  exact (wayP_P t endE startS startS_P).1.le
/-! ### All bodies are small -/
def Small (s : GS) : Prop := ∀ r ∈ s.rules, r.body.length ≤ 4096
theorem small_setBody {s : GS} {i : Nat} {e : List Nd} (h : Small s) (hx : okE e) : Small (s.setBody i e) := by
  intro r hr
  rcases List.mem_or_eq_of_mem_set hr with h1 | h1
  · exact h r h1
  · rw [h1]; exact hx.2.1
theorem small_begunP {s : GS} (h : Small s) : Small s.begunP.2 := by
  intro r hr
  unfold GS.begunP at hr
  split at hr
  · exact h r hr
  · rcases List.mem_append.1 hr with h1 | h1
    · exact h r h1
    · rw [List.mem_singleton.1 h1]; exact Nat.zero_le _
theorem small_sharedP {s : GS} {k : List Nd} (h : Small s) (hk : okE k) : Small (s.sharedP k).2 := by
  unfold GS.sharedP; split
  · exact h
  · exact small_setBody (small_begunP h) hk
theorem wayP_small (t : T) (k : List Nd) (s : GS) : Small s → okE k → Small (wayP t k s).2 := by
  induction t, k, s using wayP.induct with
  | case1 t k s he => intro h hk; rw [wayP.eq_def, if_pos he]; exact h
  | case2 k s he => intro h hk; rw [wayP, if_neg he]; exact h
  | case3 k s he => intro h hk; rw [wayP, if_neg he]; exact h
  | case4 k s he c => intro h hk; rw [wayP, if_neg he]; exact h
  | case5 k s he x y ih1 ih2 => intro h hk; rw [wayP, if_neg he]; exact ih2 (ih1 h hk) (wayP_ok _ _ _ hk)
  | case6 k s he x y p a ih1 ih2 ih3 =>
    intro h hk; rw [wayP, if_neg he]
    have h0 := small_sharedP h hk
    have hk0 := sharedP_ok (s := s) hk
    exact ih3 (ih1 h0 hk0) hk0
  | case7 k s he a hl => intro h hk; rw [wayP, if_neg he]; simp only; rw [if_pos hl]; exact h
  | case8 k s he a hl h0 => intro h hk; rw [wayP, if_neg he]; simp only; rw [if_neg hl, if_pos h0]; exact h
  | case9 k s he a hl h0 ih =>
    intro h hk; rw [wayP, if_neg he]; simp only; rw [if_neg hl, if_neg h0]
    exact small_setBody (ih (small_begunP h) (ask_ok _ _)) (put_ok (wayP_ok _ _ _ (ask_ok _ _)) hk)
theorem builtP_small (t : T) : ∀ r ∈ (builtP t).rules, r.body.length ≤ 100000 := by
  intro r hr
  have h1 : Small startS := by
    intro r hr
    rw [List.mem_singleton.1 hr]; exact Nat.zero_le _
  have := small_setBody (i := 0) (wayP_small t endE startS h1 endE_ok) (wayP_ok t endE startS endE_ok) r hr
  omega
end Go.AL
set_option linter.unusedVariables false
namespace Go.AL
open Go.Proofs
set_option maxRecDepth 10000
attribute [local irreducible] AWp AList RStep seqQ blockQ retQ DSteps DT awR rQ SStep
theorem clone_c (e : List Nd) (hne : e ≠ []) (hl : e.length ≤ 100000) : ACalls Tryd.prog 17 [expr e] [] (fun r σ' => r = .ret (.c (.ms 0 e.length)) ∧ σ' = [.arr 58 10 (e.map encNd)]) := by
  have hne' : e.map encNd ≠ [] := by simpa using hne
  refine acalls_new ?_
  refine acalls_by Tryd.func17 Tryd.ntmps17 ?_
  simp only [argFr]
  repeat' (first
    | (show lBuildSlice; refine k_buildOwn0 ?_)
    | (show lCall; refine k_appSl (f := encNd) (xs := []) (ys := e) ?_)
    | (show lOp; refine op0 (by first | (show kAssign; exact b_assign) | (show kMove; exact b_move) | (show kBinopEql; exact b_nilNe hne')) ?_)
    | (show lNil; refine al_nil ?_)
    | (show qSeq; refine n_seq ?_)
    | (show cReg; refine aw_reg ?_)
    | (show cSeq; refine aw_seq ?_)
    | (show cSkip; refine aw_skip ?_)
    | (show cRet; refine aw_ret ?_)
    | (show cIf; refine aw_F ?_)
    | (show eRet; refine ret1 Tryd.results17 ?_))
  exact ⟨1, by simp, by simp⟩
end Go.AL
set_option linter.unusedVariables false
namespace Go.AL
open Go.Proofs
set_option maxRecDepth 10000
attribute [local irreducible] AWp AList RStep seqQ blockQ retQ DSteps DT awR rQ SStep
/-- How many nodes the first rules have. -/
def sumB (rs : List Rl) : Int := (rs.map fun r => (r.body.length : Int)).sum
theorem sumB_next (rs : List Rl) (k : Nat) (h : k < rs.length) : sumB (rs.take (k + 1)) = sumB (rs.take k) + (at' rs (k : Int)).body.length := by
  have := at_get rs (k : Int) (by omega) (by omega)
  rw [Int.toNat_natCast] at this
  simp only [sumB]
  rw [List.take_add_one, this]
  simp
theorem sumB_rng (rs : List Rl) (h : ∀ r ∈ rs, r.body.length ≤ 100000) (k : Nat) : 0 ≤ sumB (rs.take k) ∧ sumB (rs.take k) ≤ 100000 * k := by
  induction k with
  | zero => simp [sumB]
  | succ k ih =>
    by_cases hk : k < rs.length
    · rw [sumB_next rs k hk]
      have := h _ (at'_mem (show 0 ≤ (k : Int) by omega) (show (k : Int) < rs.length by omega))
      omega
    · rw [List.take_of_length_le (by omega)] at ih ⊢
      omega
abbrev cNil : C := .p (.lit (.slice none 0 0))
abbrev gfP (M n : Nat) (lg : Bool) (err : Int) : List AObj := [.ext tabX, .cells [cNil, cNil], .dead, .cells (bC (lgP lg) (M + 0) n (err1 err))]
/-- The error after so many rules' depths were looked at. -/
noncomputable def deepTo (rs : List Rl) (i : Nat) : Prop := ∃ j, j < i ∧ j < rs.length ∧ nestE (at' rs (j : Int)).body > 100
open Classical in
noncomputable def errAt (e : Int) (rs : List Rl) (i : Nat) : Int := if e = 0 ∧ deepTo rs i then 3 else e
theorem errAt_zero (e : Int) (rs : List Rl) : errAt e rs 0 = e := by
  unfold errAt; rw [if_neg]; rintro ⟨_, j, hj, _⟩; omega
theorem errAt_next (e : Int) (rs : List Rl) (i : Nat) (h : i < rs.length) : errAt e rs (i + 1) = if errAt e rs i = 0 ∧ nestE (at' rs (i : Int)).body > 100 then 3 else errAt e rs i := by
  have h1 : deepTo rs (i + 1) ↔ deepTo rs i ∨ nestE (at' rs (i : Int)).body > 100 := by
    constructor
    · rintro ⟨j, h1, h2, h3⟩
      by_cases hj : j < i
      · exact .inl ⟨j, hj, h2, h3⟩
      · have : j = i := by omega
        subst this; exact .inr h3
    · rintro (⟨j, h1, h2, h3⟩ | h3)
      · exact ⟨j, by omega, h2, h3⟩
      · exact ⟨i, by omega, h, h3⟩
  have h2 : deepTo rs i → deepTo rs (i + 1) := fun h => h1.2 (.inl h)
  have h3 : nestE (at' rs (i : Int)).body > 100 → deepTo rs (i + 1) := fun h => h1.2 (.inr h)
  have h4 : ¬ deepTo rs i → ¬ nestE (at' rs (i : Int)).body > 100 → ¬ deepTo rs (i + 1) := fun h h' h'' => (h1.1 h'').elim h h'
  clear h1
  unfold errAt
  by_cases he : e = 0
  · by_cases hd : deepTo rs i
    · simp [he, hd, h2 hd]
    · by_cases hn : nestE (at' rs (i : Int)).body > 100
      · simp [he, hd, h3 hn, hn]
      · simp [he, hd, h4 hd hn, hn]
  · simp [he]
theorem set_at' {rs : List Rl} {q : Nat} (h : q < rs.length) : rs.set (q : Int).toNat ⟨(at' rs (q : Int)).name, (at' rs (q : Int)).body⟩ = rs := by
  have : (⟨(at' rs (q : Int)).name, (at' rs (q : Int)).body⟩ : Rl) = at' rs (q : Int) := rfl
  rw [this, Int.toNat_natCast]
  have h2 := at_get rs (q : Int) (by omega) (by omega)
  rw [Int.toNat_natCast] at h2
  exact set_same h2
section
variable {P : Program} {N : Nat} {Q : AE → St → Prop}
theorem kw_reshape {c : Code} {fr : Fr} {M n : Nat} {lg : Bool} {err : Int} {g tl : List AObj} {rs : List Rl} (hM : 4 + g.length = M) (k : ∀ g' M', 4 + g'.length = M' → AWp P N c Q ⟨fr, gfP M' n lg err ++ (g' ++ [.arr 52 3 (rs.map encRl)])⟩) : AWp P N c Q ⟨fr, gfP M n lg err ++ (g ++ (.arr 52 3 (rs.map encRl) :: tl))⟩ := by
  refine kw_moveB M 3 (p := lgP lg) (q := err1 err) (M := M + 1 + tl.length) (getGP hM (j := 0) rfl rfl) rfl (by simp; omega) (by omega) ?_ (k (g ++ .dead :: tl) (M + 1 + tl.length) (by simp; omega))
  have e1 := setGP (pre := gfP M n lg err) (g := g) (l := .arr 52 3 (rs.map encRl) :: tl) (j := 0) (o := .dead) hM rfl rfl
  rw [Nat.add_zero] at e1
  rw [e1]
  simp [gfP]
end
/-- The error at the end. -/
noncomputable def endErr (B : GS) : Int := if B.err = 0 then (if sumB B.rules > 4096 then 52 else errAt 0 B.rules B.rules.length) else errAt B.err B.rules B.rules.length
theorem cloneG_c (B : GS) (hfo : ∀ j, j < B.rules.length → Fo (B.body j) 1) (hbl : ∀ r ∈ B.rules, r.body.length ≤ 100000) (q : Nat) (hq : q < B.rules.length) : ACalls Tryd.prog 17 [expr (at' B.rules (q : Int)).body] [] (fun r σ' => r = .ret (.c (.ms 0 (at' B.rules (q : Int)).body.length)) ∧ ∃ gb, σ' = .arr 58 10 ((at' B.rules (q : Int)).body.map encNd) :: gb) := by
  have hne := (hfo q hq).ne
  have hbq := hbl _ (at'_mem (show 0 ≤ (q : Int) by omega) (show (q : Int) < B.rules.length by omega))
  exact (clone_c _ (by intro h0; simp only [GS.body] at hne; rw [h0] at hne; simp at hne) hbq).mono fun r σ' ⟨h1, h2⟩ => ⟨h1, [], h2⟩
set_option maxHeartbeats 8000000 in
theorem grammarP_bad (t : T) (ht : t.size ≤ 4096) (hck : checkF t.enc = 0) (hend : endErr (builtP t) ≠ 0) : ACalls Tryd.prog 5 [pat t.enc] [.ext tabX] (fun r σ' => r = .ret (.tup [.agg [cNil, cNil], i64 (endErr (builtP t))]) ∧ ∃ g, σ' = .ext tabX :: g) := by
  have hc := check_c t.enc (by have : t.enc.length = t.size := rfl
                               omega)
  rw [hck] at hc
  have hw := way_c t endE startS ht endE_ok startS_P
  have hwP := wayP_P t endE startS startS_P
  have hpos := hwP.1.pos
  have hbl := builtP_small t
  refine acalls_by Tryd.func5 Tryd.ntmps5 ?_
  simp only [argFr]
  repeat' (first
    | (show lAt 19; refine k_nilF 18 2 10 ?_)
    | (show cAt 6; refine kw_moveB 2 3 (p := lgP false) (q := err1 0) (M := 4) rfl rfl rfl (by decide) (σ' := gfP 4 startS.rules.length startS.lg startS.err ++ ([] ++ [.arr 52 3 (startS.rules.map encRl)])) rfl ?_; refine aw_reg ?_)
    | (show lAlloc; refine k_alloc ?_)
    | (show lBox; refine k_box ?_)
    | (show lStore; refine k_storePart (f := encRl) (⟨(at' (wayP t endE startS).2.rules ((0 : Nat) : Int)).name, (wayP t endE startS).1⟩ : Rl) ?_)
    | (show lBuildSlice; refine k_buildSl1 ?_)
    | (show lCall; refine k_callB4 hw (gg := []) rfl (fun g1 M1 hM1 => ?_))
    | (show lOp; refine op0 (by first | (show kAssign; exact b_assign) | (show kMove; exact b_move) | (show kCall; first | exact b_call (hc) | exact b_lenMs) | (show kLoad; exact b_loadPtr) | (show kFieldaddr; first | exact b_fieldPtr | exact b_fieldEpt) | (show kIndexaddr; exact m_indexMs) | (show kBinopNeq; exact b_neq) | (show kNilcheck; exact b_nilPtr) | (show kBuild; exact b_buildSt) | (show kBuildslice; exact b_buildSl2)) ?_)
    | (show lNil; refine al_nil ?_)
    | (show qSeq; refine n_seq ?_)
    | (show cReg; refine aw_reg ?_)
    | (show cSeq; refine aw_seq ?_)
    | (show cBlk; refine aw_block ?_)
    | (show cSkip; refine aw_skip ?_)
    | (show cIf; refine aw_F ?_))
  have hrs : (builtP t).rules = (wayP t endE startS).2.rules.set (Int.toNat 0) ⟨(at' (wayP t endE startS).2.rules ((0 : Nat) : Int)).name, (wayP t endE startS).1⟩ := rfl
  have hrl : (wayP t endE startS).2.rules.length = (builtP t).rules.length := by rw [hrs, List.length_set]
  have hfo := builtP_fo t
  have hle := builtP_len t
  have herr : (wayP t endE startS).2.err = (builtP t).err := rfl
  have hlg : (wayP t endE startS).2.lg = (builtP t).lg := rfl
  rw [hrl, herr, hlg, ← hrs]
  generalize builtP t = B at *
  clear hrs hrl herr hlg
  refine aw_roundsP (ι := Nat) (M1 + 1) (fun _ => gfP M1 B.rules.length B.lg B.err ++ (g1 ++ [.arr 52 3 (B.rules.map encRl)])) (fun i n => [(0, pat t.enc), (2, .c (.ptr 1 0)), (5, .c (.ptr 3 0)), (39, .c (.ms (M1 + 0) B.rules.length)), (40, i64 B.rules.length), (41, i64 i), (8, i64 (sumB (B.rules.take i)))]) (fun i n => []) (fun i => i ≤ B.rules.length) (fun i => B.rules.length - i) 0 (M1 + 1) (fun _ => by simp; omega) (by omega) (by omega) (by simp; omega) (List.take_of_length_le (by simp; omega)) (List.drop_of_length_le (by simp; omega)) (by simp [Fr.get, sumB]) ?_
  rintro k n g hk1 hg
  have hsr := sumB_rng B.rules hbl k
  by_cases hk : k < B.rules.length
  · have hsn := sumB_next B.rules k hk
    have hbk := hbl _ (at'_mem (show 0 ≤ (k : Int) by omega) (show (k : Int) < B.rules.length by omega))
    repeat' (first
      | (refine aw_T ?_ (hb := decide_eq_true (by omega)))
      | (show lAt 45; refine k_freezeC 10 ?_)
      | (show lAlloc; refine k_alloc ?_)
      | (show lStore; refine k_store ?_)
      | (show lOp; refine op0 (by first | (show kAssign; exact b_assign) | (show kMove; exact b_move) | (show kCall; exact m_lenSl) | (show kLoad; first | exact m_loadEpt (ho := getL (getGP hM1 rfl rfl)) | exact b_loadRp) | (show kFieldaddr; exact b_fieldRp) | (show kIndexaddr; exact m_indexMs (ho := getL (getGP hM1 rfl rfl))) | (show kBinopAdd; exact b_add) | (show kBinopLss; exact b_lss)) ?_)
      | (show lNil; refine al_nil ?_)
      | (show qSeq; refine n_seq ?_)
      | (show qBlk; refine n_block ?_)
      | (show cReg; refine aw_reg ?_)
      | (show cSeq; refine aw_seq ?_)
      | (show cBlk; refine aw_block ?_)
      | (show cSkip; refine aw_skip ?_))
    all_goals skip
    exact ⟨k + 1, n + 1, by omega, by simp at hg; omega, by simp at hg; simp; omega, List.take_left' (by simp; omega), List.drop_of_length_le (by simp at hg; simp; omega), by simp [Fr.get, hsn], by omega⟩
  · have ek : k = B.rules.length := by omega
    subst ek
    rw [List.take_of_length_le (Nat.le_refl _)] at hsr ⊢
    rw [List.append_nil, List.append_assoc, List.append_assoc]
    refine kw_reshape hM1 (fun g2 M2 hM2 => ?_)
    by_cases hB : B.err = 0
    · by_cases hS : sumB B.rules > 4096
      · have hee : endErr B = errAt 52 B.rules B.rules.length := by rw [endErr, if_pos hB, if_pos hS, errAt, if_neg (fun h => by omega)]
        rw [hee] at hend ⊢
        have hf : ACalls Tryd.prog 15 [.c (.ptr 1 0), i64 52] [.ext tabX, .cells (bC (lgP B.lg) 2 B.rules.length (err1 B.err)), .arr 52 3 (B.rules.map encRl)] (fun x σ' => x = .ret (.tup []) ∧ BEnd [.ext tabX] 2 (lgP B.lg) B.rules.length (err1 52) 52 3 (B.rules.map encRl) σ') := by
          have := fail_c tabX B 52
          have e : B.fail 52 = ⟨52, B.lg, B.rules⟩ := by rw [GS.fail, if_pos hB]
          rw [e] at this; exact this
        repeat' (first
          | (show lCall; refine k_callB4 hf hM2 (fun g3 M3 hM3 => ?_))
          | (show lOp; refine op0 (by first | (show kMove; exact b_move) | (show kCall; exact b_lenMs) | (show kLoad; exact b_loadPtr) | (show kFieldaddr; exact b_fieldPtr) | (show kBinopEql; exact b_eql) | (show kBinopLss; exact b_lss) | (show kBinopGtr; exact b_gtr) | (show kPick; exact b_pickT) | (show kNilcheck; exact b_nilPtr)) ?_)
          | (show lGu; refine al_yes ?_)
          | (show lNil; refine al_nil ?_)
          | (show qSeq; first | refine n_seq ?_ | refine x_seq ?_)
          | (show qBlk; refine x_eq ?_)
          | (show cReg; refine aw_reg ?_)
          | (show cSeq; refine aw_seq ?_)
          | (show cBlk; refine aw_block ?_)
          | (show cSkip; refine aw_skip ?_)
          | (show cExit; refine aw_exit ?_)
          | (show cIf; first | refine aw_T ?_ | refine aw_ifD (fun h => ?_) (fun h => ?_))
          | (exfalso; omega))
        refine aw_rounds (ι := Nat × Int × List AObj) (fun i => [(0, pat t.enc), (2, .c (.ptr 1 0)), (5, .c (.ptr 3 0)), (66, i64 B.rules.length), (67, i64 i.1)]) (fun i => gfP (4 + i.2.2.length) B.rules.length B.lg i.2.1 ++ (i.2.2 ++ [.arr 52 3 (B.rules.map encRl)])) (fun i => i.1 ≤ B.rules.length ∧ i.2.1 = errAt 52 B.rules i.1) (fun i => B.rules.length - i.1) (0, 52, g3) ⟨by omega, by rw [errAt_zero]⟩ (by rw [hM3]) (by simp [Fr.get]) ?_
        rintro ⟨q, er, gq⟩ ⟨hq1, hq2⟩
        dsimp only at hq1 hq2 ⊢
        obtain ⟨MQ, hMQ⟩ : ∃ M, 4 + gq.length = M := ⟨_, rfl⟩
        rw [hMQ]
        by_cases hq : q < B.rules.length
        · have hfq := hfo q hq
          have hbq := hbl _ (at'_mem (show 0 ≤ (q : Int) by omega) (show (q : Int) < B.rules.length by omega))
          have hclo := cloneG_c B hfo hbl q hq
          have hnest := nestP_c (at' B.rules (q : Int)).body (.inr hfq) (by omega)
          have hset := set_at' hq
          have hnx := errAt_next 52 B.rules q hq
          rw [← hq2] at hnx
          by_cases he0 : er = 0
          · subst he0
            have hf : ACalls Tryd.prog 15 [.c (.ptr 1 0), i64 3] [.ext tabX, .cells (bC (lgP B.lg) 2 B.rules.length (err1 0)), .arr 52 3 (B.rules.map encRl)] (fun x σ' => x = .ret (.tup []) ∧ BEnd [.ext tabX] 2 (lgP B.lg) B.rules.length (err1 3) 52 3 (B.rules.map encRl) σ') := fail_c tabX (⟨0, B.lg, B.rules⟩ : GS) 3
            by_cases hdp : nestE (at' B.rules (q : Int)).body > 100
            · repeat' (first
                | (refine aw_T ?_ (hb := decide_eq_true (by omega)))
                | (show cAtD 21; refine' aw_dt 14 13 (gfP M4 B.rules.length B.lg 3 ++ (g4 ++ [.arr 52 3 (B.rules.map encRl), .arr 58 10 ((at' B.rules (q : Int)).body.map encNd)])) Tryd_mixed _)
                | (show lAt 103; refine k_freezeM (f := encNd) 102 ?_)
                | (show cAt 22; refine kw_reshape hM4 (fun g5 M5 hM5 => ?_); refine aw_reg ?_)
                | (show lStore; refine k_storePart (f := encRl) (⟨(at' B.rules (q : Int)).name, (at' B.rules (q : Int)).body.take (at' B.rules (q : Int)).body.length⟩ : Rl) ?_)
                | (show lCall; refine k_callB4 hf hMQ (fun g4 M4 hM4 => ?_))
                | (show lOp; refine op0 (by first | (show kAssign; exact b_assign) | (show kMove; exact b_move) | (show kCall; exact b_call (hnest)) | (show kLoad; first | exact b_loadPtr | exact m_loadEpt) | (show kFieldaddr; first | exact b_fieldPtr | exact b_fieldEpt) | (show kIndexaddr; exact m_indexMs) | (show kBinopAdd; exact b_add) | (show kBinopEql; exact b_eql) | (show kBinopLss; exact b_lss) | (show kBinopGtr; exact b_gtr) | (show kPick; exact b_pickT) | (show kNilcheck; exact b_nilPtr)) ?_)
                | (show lGu; refine al_yes ?_)
                | (show lNil; refine al_nil ?_)
                | (show qSeq; refine n_seq ?_)
                | (show qBlk; refine n_block ?_)
                | (show cReg; refine aw_reg ?_)
                | (show cSeq; refine aw_seq ?_)
                | (show cBlk; refine aw_block ?_)
                | (show cSkip; refine aw_skip ?_)
                | (show tNil; refine dt_nil ?_)
                | (show tSome; first | refine dt_turn (by exact t_callNew hclo (lenGP hM4 rfl rfl) (by simp)) ?_ | (refine dt_pre (by first | (show kMove; exact b_move) | (show kLoad; first | exact b_loadPtr | exact m_loadEpt) | (show kFieldaddr; first | exact b_fieldPtr | exact b_fieldEpt) | (show kIndexaddr; exact m_indexMs) | (show kNilcheck; exact b_nilPtr)) (by decide +kernel) ?_) | (refine dt_pre2 (by first | (show kMove; exact b_move) | (show kLoad; exact b_loadPtr) | (show kFieldaddr; exact b_fieldPtr) | (show kNilcheck; exact b_nilPtr)) (by first | (show kMove; exact b_move) | (show kLoad; exact b_loadPtr) | (show kFieldaddr; exact b_fieldPtr) | (show kNilcheck; exact b_nilPtr)) ?_)))
              refine ⟨(q + 1, 3, g5), ⟨by dsimp only; omega, ?_⟩, ?_, by simp [Fr.get], by dsimp only; omega⟩
              · dsimp only; rw [hnx]; rw [if_pos ⟨rfl, hdp⟩]
              · dsimp only; rw [hM5, List.take_of_length_le (Nat.le_refl _), hset]
            · repeat' (first
                | (refine aw_T ?_ (hb := decide_eq_true (by omega)))
                | (show cAtD 21; refine' aw_dt 14 13 (gfP MQ B.rules.length B.lg 0 ++ (gq ++ [.arr 52 3 (B.rules.map encRl), .arr 58 10 ((at' B.rules (q : Int)).body.map encNd)])) Tryd_mixed _)
                | (show lAt 103; refine k_freezeM (f := encNd) 102 ?_)
                | (show cAt 22; refine kw_reshape hMQ (fun g5 M5 hM5 => ?_); refine aw_reg ?_)
                | (show lStore; refine k_storePart (f := encRl) (⟨(at' B.rules (q : Int)).name, (at' B.rules (q : Int)).body.take (at' B.rules (q : Int)).body.length⟩ : Rl) ?_)
                | (show lOp; refine op0 (by first | (show kAssign; exact b_assign) | (show kMove; exact b_move) | (show kCall; exact b_call (hnest)) | (show kLoad; first | exact b_loadPtr | exact m_loadEpt) | (show kFieldaddr; first | exact b_fieldPtr | exact b_fieldEpt) | (show kIndexaddr; exact m_indexMs) | (show kBinopAdd; exact b_add) | (show kBinopEql; exact b_eql) | (show kBinopLss; exact b_lss) | (show kBinopGtr; exact b_gtr) | (show kPick; exact b_pickT) | (show kNilcheck; exact b_nilPtr)) ?_)
                | (show lGu; refine al_yes ?_)
                | (show lNil; refine al_nil ?_)
                | (show qSeq; refine n_seq ?_)
                | (show qBlk; refine n_block ?_)
                | (show cReg; refine aw_reg ?_)
                | (show cSeq; refine aw_seq ?_)
                | (show cBlk; refine aw_block ?_)
                | (show cSkip; refine aw_skip ?_)
                | (show cIf; refine aw_F ?_)
                | (show tNil; refine dt_nil ?_)
                | (show tSome; first | refine dt_turn (by exact t_callNew hclo (lenGP hMQ rfl rfl) (by simp)) ?_ | (refine dt_pre (by first | (show kMove; exact b_move) | (show kLoad; first | exact b_loadPtr | exact m_loadEpt) | (show kFieldaddr; first | exact b_fieldPtr | exact b_fieldEpt) | (show kIndexaddr; exact m_indexMs) | (show kNilcheck; exact b_nilPtr)) (by decide +kernel) ?_) | (refine dt_pre2 (by first | (show kMove; exact b_move) | (show kLoad; exact b_loadPtr) | (show kFieldaddr; exact b_fieldPtr) | (show kNilcheck; exact b_nilPtr)) (by first | (show kMove; exact b_move) | (show kLoad; exact b_loadPtr) | (show kFieldaddr; exact b_fieldPtr) | (show kNilcheck; exact b_nilPtr)) ?_)))
              refine ⟨(q + 1, 0, g5), ⟨by dsimp only; omega, ?_⟩, ?_, by simp [Fr.get], by dsimp only; omega⟩
              · dsimp only; rw [hnx]; rw [if_neg (fun h => hdp h.2)]
              · dsimp only; rw [hM5, List.take_of_length_le (Nat.le_refl _), hset]
          · repeat' (first
              | (refine aw_T ?_ (hb := decide_eq_true (by omega)))
              | (show cAtD 21; refine' aw_dt 14 13 (gfP MQ B.rules.length B.lg er ++ (gq ++ [.arr 52 3 (B.rules.map encRl), .arr 58 10 ((at' B.rules (q : Int)).body.map encNd)])) Tryd_mixed _)
              | (show lAt 103; refine k_freezeM (f := encNd) 102 ?_)
              | (show cAt 22; refine kw_reshape hMQ (fun g5 M5 hM5 => ?_); refine aw_reg ?_)
              | (show lStore; refine k_storePart (f := encRl) (⟨(at' B.rules (q : Int)).name, (at' B.rules (q : Int)).body.take (at' B.rules (q : Int)).body.length⟩ : Rl) ?_)
              | (show lOp; refine op0 (by first | (show kAssign; exact b_assign) | (show kMove; exact b_move) | (show kLoad; exact b_loadPtr) | (show kFieldaddr; first | exact b_fieldPtr | exact b_fieldEpt) | (show kIndexaddr; exact m_indexMs) | (show kBinopAdd; exact b_add) | (show kBinopEql; exact b_eql) | (show kBinopLss; exact b_lss) | (show kPick; exact b_pickF) | (show kNilcheck; exact b_nilPtr)) ?_)
              | (show lGu; refine al_none ?_)
              | (show lNil; refine al_nil ?_)
              | (show qSeq; refine n_seq ?_)
              | (show qBlk; refine n_block ?_)
              | (show cReg; refine aw_reg ?_)
              | (show cSeq; refine aw_seq ?_)
              | (show cBlk; refine aw_block ?_)
              | (show cSkip; refine aw_skip ?_)
              | (show cIf; refine aw_F ?_)
              | (show tNil; refine dt_nil ?_)
              | (show tSome; first | refine dt_turn (by exact t_callNew hclo (lenGP hMQ rfl rfl) (by simp)) ?_ | (refine dt_pre (by first | (show kMove; exact b_move) | (show kLoad; first | exact b_loadPtr | exact m_loadEpt) | (show kFieldaddr; first | exact b_fieldPtr | exact b_fieldEpt) | (show kIndexaddr; exact m_indexMs) | (show kNilcheck; exact b_nilPtr)) (by decide +kernel) ?_) | (refine dt_pre2 (by first | (show kMove; exact b_move) | (show kLoad; exact b_loadPtr) | (show kFieldaddr; exact b_fieldPtr) | (show kNilcheck; exact b_nilPtr)) (by first | (show kMove; exact b_move) | (show kLoad; exact b_loadPtr) | (show kFieldaddr; exact b_fieldPtr) | (show kNilcheck; exact b_nilPtr)) ?_)))
            refine ⟨(q + 1, er, g5), ⟨by dsimp only; omega, ?_⟩, ?_, by simp [Fr.get], by dsimp only; omega⟩
            · dsimp only; rw [hnx]; rw [if_neg (fun h => he0 h.1)]
            · dsimp only; rw [hM5, List.take_of_length_le (Nat.le_refl _), hset]
        · have hqe : q = B.rules.length := by omega
          subst hqe
          have hbad : er ≠ 0 := hq2 ▸ hend
          repeat' (first
            | (refine aw_F ?_ (hb := decide_eq_false (by omega)))
            | (refine aw_T ?_ (hb := decide_eq_true (by omega)))
            | (show cAtD 24; refine' aw_dt 6 5 (gfP MQ B.rules.length B.lg er ++ (gq ++ [.arr 52 3 (B.rules.map encRl)])) Tryd_mixed _)
            | (show lOp; refine op0 (by first | (show kAssign; exact b_assign) | (show kMove; exact b_move) | (show kLoad; exact b_loadPtr) | (show kFieldaddr; exact b_fieldPtr) | (show kBinopNeq; exact b_neq) | (show kBinopLss; exact b_lss) | (show kNilcheck; exact b_nilPtr)) ?_)
            | (show lNil; refine al_nil ?_)
            | (show qSeq; first | refine n_seq ?_ | refine p_seq ?_ | refine x_seq ?_)
            | (show qBlk; refine x_eq ?_)
            | (show cReg; refine aw_reg ?_)
            | (show cSeq; refine aw_seq ?_)
            | (show cExit; refine aw_exit ?_)
            | (show cRet; refine aw_ret ?_)
            | (show tNil; refine dt_nil ?_)
            | (show tNone; refine dt_turnN (by exact t_store (hσ := rfl)) ?_)
            | (show tSome; first | (refine dt_pre (by first | (show kMove; exact b_move) | (show kLoad; exact b_loadPtr) | (show kFieldaddr; exact b_fieldPtr) | (show kNilcheck; exact b_nilPtr) | (show kBuild; exact b_buildSt)) (by decide +kernel) ?_) | (refine dt_pre2 (by first | (show kMove; exact b_move) | (show kLoad; exact b_loadPtr) | (show kFieldaddr; exact b_fieldPtr) | (show kNilcheck; exact b_nilPtr)) (by first | (show kMove; exact b_move) | (show kLoad; exact b_loadPtr) | (show kFieldaddr; exact b_fieldPtr) | (show kNilcheck; exact b_nilPtr)) ?_))
            | (show eRet; refine retC2 Tryd.results5 ?_))
          exact ⟨by rw [hq2]; rfl, _, rfl⟩
      · have hee : endErr B = errAt B.err B.rules B.rules.length := by rw [endErr, if_pos hB, if_neg hS, hB]
        rw [hee] at hend ⊢
        repeat' (first
          | (show lOp; refine op0 (by first | (show kMove; exact b_move) | (show kCall; exact b_lenMs) | (show kLoad; exact b_loadPtr) | (show kFieldaddr; exact b_fieldPtr) | (show kBinopEql; exact b_eql) | (show kBinopLss; exact b_lss) | (show kBinopGtr; exact b_gtr) | (show kPick; exact b_pickT) | (show kNilcheck; exact b_nilPtr)) ?_)
          | (show lGu; refine al_yes ?_)
          | (show lNil; refine al_nil ?_)
          | (show qSeq; first | refine n_seq ?_ | refine x_seq ?_)
          | (show qBlk; refine x_eq ?_)
          | (show cReg; refine aw_reg ?_)
          | (show cSeq; refine aw_seq ?_)
          | (show cBlk; refine aw_block ?_)
          | (show cSkip; refine aw_skip ?_)
          | (show cExit; refine aw_exit ?_)
          | (show cIf; first | refine aw_F ?_ | refine aw_ifD (fun h => ?_) (fun h => ?_))
          | (exfalso; omega))
        refine aw_rounds (ι := Nat × Int × List AObj) (fun i => [(0, pat t.enc), (2, .c (.ptr 1 0)), (5, .c (.ptr 3 0)), (66, i64 B.rules.length), (67, i64 i.1)]) (fun i => gfP (4 + i.2.2.length) B.rules.length B.lg i.2.1 ++ (i.2.2 ++ [.arr 52 3 (B.rules.map encRl)])) (fun i => i.1 ≤ B.rules.length ∧ i.2.1 = errAt B.err B.rules i.1) (fun i => B.rules.length - i.1) (0, B.err, g2) ⟨by omega, by rw [errAt_zero]⟩ (by rw [hM2]) (by simp [Fr.get]) ?_
        rintro ⟨q, er, gq⟩ ⟨hq1, hq2⟩
        dsimp only at hq1 hq2 ⊢
        obtain ⟨MQ, hMQ⟩ : ∃ M, 4 + gq.length = M := ⟨_, rfl⟩
        rw [hMQ]
        by_cases hq : q < B.rules.length
        · have hfq := hfo q hq
          have hbq := hbl _ (at'_mem (show 0 ≤ (q : Int) by omega) (show (q : Int) < B.rules.length by omega))
          have hclo := cloneG_c B hfo hbl q hq
          have hnest := nestP_c (at' B.rules (q : Int)).body (.inr hfq) (by omega)
          have hset := set_at' hq
          have hnx := errAt_next B.err B.rules q hq
          rw [← hq2] at hnx
          by_cases he0 : er = 0
          · subst he0
            have hf : ACalls Tryd.prog 15 [.c (.ptr 1 0), i64 3] [.ext tabX, .cells (bC (lgP B.lg) 2 B.rules.length (err1 0)), .arr 52 3 (B.rules.map encRl)] (fun x σ' => x = .ret (.tup []) ∧ BEnd [.ext tabX] 2 (lgP B.lg) B.rules.length (err1 3) 52 3 (B.rules.map encRl) σ') := fail_c tabX (⟨0, B.lg, B.rules⟩ : GS) 3
            by_cases hdp : nestE (at' B.rules (q : Int)).body > 100
            · repeat' (first
                | (refine aw_T ?_ (hb := decide_eq_true (by omega)))
                | (show cAtD 21; refine' aw_dt 14 13 (gfP M4 B.rules.length B.lg 3 ++ (g4 ++ [.arr 52 3 (B.rules.map encRl), .arr 58 10 ((at' B.rules (q : Int)).body.map encNd)])) Tryd_mixed _)
                | (show lAt 103; refine k_freezeM (f := encNd) 102 ?_)
                | (show cAt 22; refine kw_reshape hM4 (fun g5 M5 hM5 => ?_); refine aw_reg ?_)
                | (show lStore; refine k_storePart (f := encRl) (⟨(at' B.rules (q : Int)).name, (at' B.rules (q : Int)).body.take (at' B.rules (q : Int)).body.length⟩ : Rl) ?_)
                | (show lCall; refine k_callB4 hf hMQ (fun g4 M4 hM4 => ?_))
                | (show lOp; refine op0 (by first | (show kAssign; exact b_assign) | (show kMove; exact b_move) | (show kCall; exact b_call (hnest)) | (show kLoad; first | exact b_loadPtr | exact m_loadEpt) | (show kFieldaddr; first | exact b_fieldPtr | exact b_fieldEpt) | (show kIndexaddr; exact m_indexMs) | (show kBinopAdd; exact b_add) | (show kBinopEql; exact b_eql) | (show kBinopLss; exact b_lss) | (show kBinopGtr; exact b_gtr) | (show kPick; exact b_pickT) | (show kNilcheck; exact b_nilPtr)) ?_)
                | (show lGu; refine al_yes ?_)
                | (show lNil; refine al_nil ?_)
                | (show qSeq; refine n_seq ?_)
                | (show qBlk; refine n_block ?_)
                | (show cReg; refine aw_reg ?_)
                | (show cSeq; refine aw_seq ?_)
                | (show cBlk; refine aw_block ?_)
                | (show cSkip; refine aw_skip ?_)
                | (show tNil; refine dt_nil ?_)
                | (show tSome; first | refine dt_turn (by exact t_callNew hclo (lenGP hM4 rfl rfl) (by simp)) ?_ | (refine dt_pre (by first | (show kMove; exact b_move) | (show kLoad; first | exact b_loadPtr | exact m_loadEpt) | (show kFieldaddr; first | exact b_fieldPtr | exact b_fieldEpt) | (show kIndexaddr; exact m_indexMs) | (show kNilcheck; exact b_nilPtr)) (by decide +kernel) ?_) | (refine dt_pre2 (by first | (show kMove; exact b_move) | (show kLoad; exact b_loadPtr) | (show kFieldaddr; exact b_fieldPtr) | (show kNilcheck; exact b_nilPtr)) (by first | (show kMove; exact b_move) | (show kLoad; exact b_loadPtr) | (show kFieldaddr; exact b_fieldPtr) | (show kNilcheck; exact b_nilPtr)) ?_)))
              refine ⟨(q + 1, 3, g5), ⟨by dsimp only; omega, ?_⟩, ?_, by simp [Fr.get], by dsimp only; omega⟩
              · dsimp only; rw [hnx]; rw [if_pos ⟨rfl, hdp⟩]
              · dsimp only; rw [hM5, List.take_of_length_le (Nat.le_refl _), hset]
            · repeat' (first
                | (refine aw_T ?_ (hb := decide_eq_true (by omega)))
                | (show cAtD 21; refine' aw_dt 14 13 (gfP MQ B.rules.length B.lg 0 ++ (gq ++ [.arr 52 3 (B.rules.map encRl), .arr 58 10 ((at' B.rules (q : Int)).body.map encNd)])) Tryd_mixed _)
                | (show lAt 103; refine k_freezeM (f := encNd) 102 ?_)
                | (show cAt 22; refine kw_reshape hMQ (fun g5 M5 hM5 => ?_); refine aw_reg ?_)
                | (show lStore; refine k_storePart (f := encRl) (⟨(at' B.rules (q : Int)).name, (at' B.rules (q : Int)).body.take (at' B.rules (q : Int)).body.length⟩ : Rl) ?_)
                | (show lOp; refine op0 (by first | (show kAssign; exact b_assign) | (show kMove; exact b_move) | (show kCall; exact b_call (hnest)) | (show kLoad; first | exact b_loadPtr | exact m_loadEpt) | (show kFieldaddr; first | exact b_fieldPtr | exact b_fieldEpt) | (show kIndexaddr; exact m_indexMs) | (show kBinopAdd; exact b_add) | (show kBinopEql; exact b_eql) | (show kBinopLss; exact b_lss) | (show kBinopGtr; exact b_gtr) | (show kPick; exact b_pickT) | (show kNilcheck; exact b_nilPtr)) ?_)
                | (show lGu; refine al_yes ?_)
                | (show lNil; refine al_nil ?_)
                | (show qSeq; refine n_seq ?_)
                | (show qBlk; refine n_block ?_)
                | (show cReg; refine aw_reg ?_)
                | (show cSeq; refine aw_seq ?_)
                | (show cBlk; refine aw_block ?_)
                | (show cSkip; refine aw_skip ?_)
                | (show cIf; refine aw_F ?_)
                | (show tNil; refine dt_nil ?_)
                | (show tSome; first | refine dt_turn (by exact t_callNew hclo (lenGP hMQ rfl rfl) (by simp)) ?_ | (refine dt_pre (by first | (show kMove; exact b_move) | (show kLoad; first | exact b_loadPtr | exact m_loadEpt) | (show kFieldaddr; first | exact b_fieldPtr | exact b_fieldEpt) | (show kIndexaddr; exact m_indexMs) | (show kNilcheck; exact b_nilPtr)) (by decide +kernel) ?_) | (refine dt_pre2 (by first | (show kMove; exact b_move) | (show kLoad; exact b_loadPtr) | (show kFieldaddr; exact b_fieldPtr) | (show kNilcheck; exact b_nilPtr)) (by first | (show kMove; exact b_move) | (show kLoad; exact b_loadPtr) | (show kFieldaddr; exact b_fieldPtr) | (show kNilcheck; exact b_nilPtr)) ?_)))
              refine ⟨(q + 1, 0, g5), ⟨by dsimp only; omega, ?_⟩, ?_, by simp [Fr.get], by dsimp only; omega⟩
              · dsimp only; rw [hnx]; rw [if_neg (fun h => hdp h.2)]
              · dsimp only; rw [hM5, List.take_of_length_le (Nat.le_refl _), hset]
          · repeat' (first
              | (refine aw_T ?_ (hb := decide_eq_true (by omega)))
              | (show cAtD 21; refine' aw_dt 14 13 (gfP MQ B.rules.length B.lg er ++ (gq ++ [.arr 52 3 (B.rules.map encRl), .arr 58 10 ((at' B.rules (q : Int)).body.map encNd)])) Tryd_mixed _)
              | (show lAt 103; refine k_freezeM (f := encNd) 102 ?_)
              | (show cAt 22; refine kw_reshape hMQ (fun g5 M5 hM5 => ?_); refine aw_reg ?_)
              | (show lStore; refine k_storePart (f := encRl) (⟨(at' B.rules (q : Int)).name, (at' B.rules (q : Int)).body.take (at' B.rules (q : Int)).body.length⟩ : Rl) ?_)
              | (show lOp; refine op0 (by first | (show kAssign; exact b_assign) | (show kMove; exact b_move) | (show kLoad; exact b_loadPtr) | (show kFieldaddr; first | exact b_fieldPtr | exact b_fieldEpt) | (show kIndexaddr; exact m_indexMs) | (show kBinopAdd; exact b_add) | (show kBinopEql; exact b_eql) | (show kBinopLss; exact b_lss) | (show kPick; exact b_pickF) | (show kNilcheck; exact b_nilPtr)) ?_)
              | (show lGu; refine al_none ?_)
              | (show lNil; refine al_nil ?_)
              | (show qSeq; refine n_seq ?_)
              | (show qBlk; refine n_block ?_)
              | (show cReg; refine aw_reg ?_)
              | (show cSeq; refine aw_seq ?_)
              | (show cBlk; refine aw_block ?_)
              | (show cSkip; refine aw_skip ?_)
              | (show cIf; refine aw_F ?_)
              | (show tNil; refine dt_nil ?_)
              | (show tSome; first | refine dt_turn (by exact t_callNew hclo (lenGP hMQ rfl rfl) (by simp)) ?_ | (refine dt_pre (by first | (show kMove; exact b_move) | (show kLoad; first | exact b_loadPtr | exact m_loadEpt) | (show kFieldaddr; first | exact b_fieldPtr | exact b_fieldEpt) | (show kIndexaddr; exact m_indexMs) | (show kNilcheck; exact b_nilPtr)) (by decide +kernel) ?_) | (refine dt_pre2 (by first | (show kMove; exact b_move) | (show kLoad; exact b_loadPtr) | (show kFieldaddr; exact b_fieldPtr) | (show kNilcheck; exact b_nilPtr)) (by first | (show kMove; exact b_move) | (show kLoad; exact b_loadPtr) | (show kFieldaddr; exact b_fieldPtr) | (show kNilcheck; exact b_nilPtr)) ?_)))
            refine ⟨(q + 1, er, g5), ⟨by dsimp only; omega, ?_⟩, ?_, by simp [Fr.get], by dsimp only; omega⟩
            · dsimp only; rw [hnx]; rw [if_neg (fun h => he0 h.1)]
            · dsimp only; rw [hM5, List.take_of_length_le (Nat.le_refl _), hset]
        · have hqe : q = B.rules.length := by omega
          subst hqe
          have hbad : er ≠ 0 := hq2 ▸ hend
          repeat' (first
            | (refine aw_F ?_ (hb := decide_eq_false (by omega)))
            | (refine aw_T ?_ (hb := decide_eq_true (by omega)))
            | (show cAtD 24; refine' aw_dt 6 5 (gfP MQ B.rules.length B.lg er ++ (gq ++ [.arr 52 3 (B.rules.map encRl)])) Tryd_mixed _)
            | (show lOp; refine op0 (by first | (show kAssign; exact b_assign) | (show kMove; exact b_move) | (show kLoad; exact b_loadPtr) | (show kFieldaddr; exact b_fieldPtr) | (show kBinopNeq; exact b_neq) | (show kBinopLss; exact b_lss) | (show kNilcheck; exact b_nilPtr)) ?_)
            | (show lNil; refine al_nil ?_)
            | (show qSeq; first | refine n_seq ?_ | refine p_seq ?_ | refine x_seq ?_)
            | (show qBlk; refine x_eq ?_)
            | (show cReg; refine aw_reg ?_)
            | (show cSeq; refine aw_seq ?_)
            | (show cExit; refine aw_exit ?_)
            | (show cRet; refine aw_ret ?_)
            | (show tNil; refine dt_nil ?_)
            | (show tNone; refine dt_turnN (by exact t_store (hσ := rfl)) ?_)
            | (show tSome; first | (refine dt_pre (by first | (show kMove; exact b_move) | (show kLoad; exact b_loadPtr) | (show kFieldaddr; exact b_fieldPtr) | (show kNilcheck; exact b_nilPtr) | (show kBuild; exact b_buildSt)) (by decide +kernel) ?_) | (refine dt_pre2 (by first | (show kMove; exact b_move) | (show kLoad; exact b_loadPtr) | (show kFieldaddr; exact b_fieldPtr) | (show kNilcheck; exact b_nilPtr)) (by first | (show kMove; exact b_move) | (show kLoad; exact b_loadPtr) | (show kFieldaddr; exact b_fieldPtr) | (show kNilcheck; exact b_nilPtr)) ?_))
            | (show eRet; refine retC2 Tryd.results5 ?_))
          exact ⟨by rw [hq2]; rfl, _, rfl⟩
    · have hee : endErr B = errAt B.err B.rules B.rules.length := by rw [endErr, if_neg hB]
      rw [hee] at hend ⊢
      repeat' (first
        | (show lOp; refine op0 (by first | (show kMove; exact b_move) | (show kCall; exact b_lenMs) | (show kLoad; exact b_loadPtr) | (show kFieldaddr; exact b_fieldPtr) | (show kBinopEql; exact b_eql) | (show kBinopLss; exact b_lss) | (show kPick; exact b_pickF) | (show kNilcheck; exact b_nilPtr)) ?_)
        | (show lGu; refine al_none ?_)
        | (show lNil; refine al_nil ?_)
        | (show qSeq; first | refine n_seq ?_ | refine x_seq ?_)
        | (show qBlk; refine x_eq ?_)
        | (show cReg; refine aw_reg ?_)
        | (show cSeq; refine aw_seq ?_)
        | (show cBlk; refine aw_block ?_)
        | (show cSkip; refine aw_skip ?_)
        | (show cExit; refine aw_exit ?_)
        | (show cIf; first | refine aw_F ?_ | refine aw_ifD (fun h => ?_) (fun h => ?_))
        | (exfalso; omega))
      refine aw_rounds (ι := Nat × Int × List AObj) (fun i => [(0, pat t.enc), (2, .c (.ptr 1 0)), (5, .c (.ptr 3 0)), (66, i64 B.rules.length), (67, i64 i.1)]) (fun i => gfP (4 + i.2.2.length) B.rules.length B.lg i.2.1 ++ (i.2.2 ++ [.arr 52 3 (B.rules.map encRl)])) (fun i => i.1 ≤ B.rules.length ∧ i.2.1 = errAt B.err B.rules i.1) (fun i => B.rules.length - i.1) (0, B.err, g2) ⟨by omega, by rw [errAt_zero]⟩ (by rw [hM2]) (by simp [Fr.get]) ?_
      rintro ⟨q, er, gq⟩ ⟨hq1, hq2⟩
      dsimp only at hq1 hq2 ⊢
      obtain ⟨MQ, hMQ⟩ : ∃ M, 4 + gq.length = M := ⟨_, rfl⟩
      rw [hMQ]
      by_cases hq : q < B.rules.length
      · have hfq := hfo q hq
        have hbq := hbl _ (at'_mem (show 0 ≤ (q : Int) by omega) (show (q : Int) < B.rules.length by omega))
        have hclo := cloneG_c B hfo hbl q hq
        have hnest := nestP_c (at' B.rules (q : Int)).body (.inr hfq) (by omega)
        have hset := set_at' hq
        have hnx := errAt_next B.err B.rules q hq
        rw [← hq2] at hnx
        by_cases he0 : er = 0
        · subst he0
          have hf : ACalls Tryd.prog 15 [.c (.ptr 1 0), i64 3] [.ext tabX, .cells (bC (lgP B.lg) 2 B.rules.length (err1 0)), .arr 52 3 (B.rules.map encRl)] (fun x σ' => x = .ret (.tup []) ∧ BEnd [.ext tabX] 2 (lgP B.lg) B.rules.length (err1 3) 52 3 (B.rules.map encRl) σ') := fail_c tabX (⟨0, B.lg, B.rules⟩ : GS) 3
          by_cases hdp : nestE (at' B.rules (q : Int)).body > 100
          · repeat' (first
              | (refine aw_T ?_ (hb := decide_eq_true (by omega)))
              | (show cAtD 21; refine' aw_dt 14 13 (gfP M4 B.rules.length B.lg 3 ++ (g4 ++ [.arr 52 3 (B.rules.map encRl), .arr 58 10 ((at' B.rules (q : Int)).body.map encNd)])) Tryd_mixed _)
              | (show lAt 103; refine k_freezeM (f := encNd) 102 ?_)
              | (show cAt 22; refine kw_reshape hM4 (fun g5 M5 hM5 => ?_); refine aw_reg ?_)
              | (show lStore; refine k_storePart (f := encRl) (⟨(at' B.rules (q : Int)).name, (at' B.rules (q : Int)).body.take (at' B.rules (q : Int)).body.length⟩ : Rl) ?_)
              | (show lCall; refine k_callB4 hf hMQ (fun g4 M4 hM4 => ?_))
              | (show lOp; refine op0 (by first | (show kAssign; exact b_assign) | (show kMove; exact b_move) | (show kCall; exact b_call (hnest)) | (show kLoad; first | exact b_loadPtr | exact m_loadEpt) | (show kFieldaddr; first | exact b_fieldPtr | exact b_fieldEpt) | (show kIndexaddr; exact m_indexMs) | (show kBinopAdd; exact b_add) | (show kBinopEql; exact b_eql) | (show kBinopLss; exact b_lss) | (show kBinopGtr; exact b_gtr) | (show kPick; exact b_pickT) | (show kNilcheck; exact b_nilPtr)) ?_)
              | (show lGu; refine al_yes ?_)
              | (show lNil; refine al_nil ?_)
              | (show qSeq; refine n_seq ?_)
              | (show qBlk; refine n_block ?_)
              | (show cReg; refine aw_reg ?_)
              | (show cSeq; refine aw_seq ?_)
              | (show cBlk; refine aw_block ?_)
              | (show cSkip; refine aw_skip ?_)
              | (show tNil; refine dt_nil ?_)
              | (show tSome; first | refine dt_turn (by exact t_callNew hclo (lenGP hM4 rfl rfl) (by simp)) ?_ | (refine dt_pre (by first | (show kMove; exact b_move) | (show kLoad; first | exact b_loadPtr | exact m_loadEpt) | (show kFieldaddr; first | exact b_fieldPtr | exact b_fieldEpt) | (show kIndexaddr; exact m_indexMs) | (show kNilcheck; exact b_nilPtr)) (by decide +kernel) ?_) | (refine dt_pre2 (by first | (show kMove; exact b_move) | (show kLoad; exact b_loadPtr) | (show kFieldaddr; exact b_fieldPtr) | (show kNilcheck; exact b_nilPtr)) (by first | (show kMove; exact b_move) | (show kLoad; exact b_loadPtr) | (show kFieldaddr; exact b_fieldPtr) | (show kNilcheck; exact b_nilPtr)) ?_)))
            refine ⟨(q + 1, 3, g5), ⟨by dsimp only; omega, ?_⟩, ?_, by simp [Fr.get], by dsimp only; omega⟩
            · dsimp only; rw [hnx]; rw [if_pos ⟨rfl, hdp⟩]
            · dsimp only; rw [hM5, List.take_of_length_le (Nat.le_refl _), hset]
          · repeat' (first
              | (refine aw_T ?_ (hb := decide_eq_true (by omega)))
              | (show cAtD 21; refine' aw_dt 14 13 (gfP MQ B.rules.length B.lg 0 ++ (gq ++ [.arr 52 3 (B.rules.map encRl), .arr 58 10 ((at' B.rules (q : Int)).body.map encNd)])) Tryd_mixed _)
              | (show lAt 103; refine k_freezeM (f := encNd) 102 ?_)
              | (show cAt 22; refine kw_reshape hMQ (fun g5 M5 hM5 => ?_); refine aw_reg ?_)
              | (show lStore; refine k_storePart (f := encRl) (⟨(at' B.rules (q : Int)).name, (at' B.rules (q : Int)).body.take (at' B.rules (q : Int)).body.length⟩ : Rl) ?_)
              | (show lOp; refine op0 (by first | (show kAssign; exact b_assign) | (show kMove; exact b_move) | (show kCall; exact b_call (hnest)) | (show kLoad; first | exact b_loadPtr | exact m_loadEpt) | (show kFieldaddr; first | exact b_fieldPtr | exact b_fieldEpt) | (show kIndexaddr; exact m_indexMs) | (show kBinopAdd; exact b_add) | (show kBinopEql; exact b_eql) | (show kBinopLss; exact b_lss) | (show kBinopGtr; exact b_gtr) | (show kPick; exact b_pickT) | (show kNilcheck; exact b_nilPtr)) ?_)
              | (show lGu; refine al_yes ?_)
              | (show lNil; refine al_nil ?_)
              | (show qSeq; refine n_seq ?_)
              | (show qBlk; refine n_block ?_)
              | (show cReg; refine aw_reg ?_)
              | (show cSeq; refine aw_seq ?_)
              | (show cBlk; refine aw_block ?_)
              | (show cSkip; refine aw_skip ?_)
              | (show cIf; refine aw_F ?_)
              | (show tNil; refine dt_nil ?_)
              | (show tSome; first | refine dt_turn (by exact t_callNew hclo (lenGP hMQ rfl rfl) (by simp)) ?_ | (refine dt_pre (by first | (show kMove; exact b_move) | (show kLoad; first | exact b_loadPtr | exact m_loadEpt) | (show kFieldaddr; first | exact b_fieldPtr | exact b_fieldEpt) | (show kIndexaddr; exact m_indexMs) | (show kNilcheck; exact b_nilPtr)) (by decide +kernel) ?_) | (refine dt_pre2 (by first | (show kMove; exact b_move) | (show kLoad; exact b_loadPtr) | (show kFieldaddr; exact b_fieldPtr) | (show kNilcheck; exact b_nilPtr)) (by first | (show kMove; exact b_move) | (show kLoad; exact b_loadPtr) | (show kFieldaddr; exact b_fieldPtr) | (show kNilcheck; exact b_nilPtr)) ?_)))
            refine ⟨(q + 1, 0, g5), ⟨by dsimp only; omega, ?_⟩, ?_, by simp [Fr.get], by dsimp only; omega⟩
            · dsimp only; rw [hnx]; rw [if_neg (fun h => hdp h.2)]
            · dsimp only; rw [hM5, List.take_of_length_le (Nat.le_refl _), hset]
        · repeat' (first
            | (refine aw_T ?_ (hb := decide_eq_true (by omega)))
            | (show cAtD 21; refine' aw_dt 14 13 (gfP MQ B.rules.length B.lg er ++ (gq ++ [.arr 52 3 (B.rules.map encRl), .arr 58 10 ((at' B.rules (q : Int)).body.map encNd)])) Tryd_mixed _)
            | (show lAt 103; refine k_freezeM (f := encNd) 102 ?_)
            | (show cAt 22; refine kw_reshape hMQ (fun g5 M5 hM5 => ?_); refine aw_reg ?_)
            | (show lStore; refine k_storePart (f := encRl) (⟨(at' B.rules (q : Int)).name, (at' B.rules (q : Int)).body.take (at' B.rules (q : Int)).body.length⟩ : Rl) ?_)
            | (show lOp; refine op0 (by first | (show kAssign; exact b_assign) | (show kMove; exact b_move) | (show kLoad; exact b_loadPtr) | (show kFieldaddr; first | exact b_fieldPtr | exact b_fieldEpt) | (show kIndexaddr; exact m_indexMs) | (show kBinopAdd; exact b_add) | (show kBinopEql; exact b_eql) | (show kBinopLss; exact b_lss) | (show kPick; exact b_pickF) | (show kNilcheck; exact b_nilPtr)) ?_)
            | (show lGu; refine al_none ?_)
            | (show lNil; refine al_nil ?_)
            | (show qSeq; refine n_seq ?_)
            | (show qBlk; refine n_block ?_)
            | (show cReg; refine aw_reg ?_)
            | (show cSeq; refine aw_seq ?_)
            | (show cBlk; refine aw_block ?_)
            | (show cSkip; refine aw_skip ?_)
            | (show cIf; refine aw_F ?_)
            | (show tNil; refine dt_nil ?_)
            | (show tSome; first | refine dt_turn (by exact t_callNew hclo (lenGP hMQ rfl rfl) (by simp)) ?_ | (refine dt_pre (by first | (show kMove; exact b_move) | (show kLoad; first | exact b_loadPtr | exact m_loadEpt) | (show kFieldaddr; first | exact b_fieldPtr | exact b_fieldEpt) | (show kIndexaddr; exact m_indexMs) | (show kNilcheck; exact b_nilPtr)) (by decide +kernel) ?_) | (refine dt_pre2 (by first | (show kMove; exact b_move) | (show kLoad; exact b_loadPtr) | (show kFieldaddr; exact b_fieldPtr) | (show kNilcheck; exact b_nilPtr)) (by first | (show kMove; exact b_move) | (show kLoad; exact b_loadPtr) | (show kFieldaddr; exact b_fieldPtr) | (show kNilcheck; exact b_nilPtr)) ?_)))
          refine ⟨(q + 1, er, g5), ⟨by dsimp only; omega, ?_⟩, ?_, by simp [Fr.get], by dsimp only; omega⟩
          · dsimp only; rw [hnx]; rw [if_neg (fun h => he0 h.1)]
          · dsimp only; rw [hM5, List.take_of_length_le (Nat.le_refl _), hset]
      · have hqe : q = B.rules.length := by omega
        subst hqe
        have hbad : er ≠ 0 := hq2 ▸ hend
        repeat' (first
          | (refine aw_F ?_ (hb := decide_eq_false (by omega)))
          | (refine aw_T ?_ (hb := decide_eq_true (by omega)))
          | (show cAtD 24; refine' aw_dt 6 5 (gfP MQ B.rules.length B.lg er ++ (gq ++ [.arr 52 3 (B.rules.map encRl)])) Tryd_mixed _)
          | (show lOp; refine op0 (by first | (show kAssign; exact b_assign) | (show kMove; exact b_move) | (show kLoad; exact b_loadPtr) | (show kFieldaddr; exact b_fieldPtr) | (show kBinopNeq; exact b_neq) | (show kBinopLss; exact b_lss) | (show kNilcheck; exact b_nilPtr)) ?_)
          | (show lNil; refine al_nil ?_)
          | (show qSeq; first | refine n_seq ?_ | refine p_seq ?_ | refine x_seq ?_)
          | (show qBlk; refine x_eq ?_)
          | (show cReg; refine aw_reg ?_)
          | (show cSeq; refine aw_seq ?_)
          | (show cExit; refine aw_exit ?_)
          | (show cRet; refine aw_ret ?_)
          | (show tNil; refine dt_nil ?_)
          | (show tNone; refine dt_turnN (by exact t_store (hσ := rfl)) ?_)
          | (show tSome; first | (refine dt_pre (by first | (show kMove; exact b_move) | (show kLoad; exact b_loadPtr) | (show kFieldaddr; exact b_fieldPtr) | (show kNilcheck; exact b_nilPtr) | (show kBuild; exact b_buildSt)) (by decide +kernel) ?_) | (refine dt_pre2 (by first | (show kMove; exact b_move) | (show kLoad; exact b_loadPtr) | (show kFieldaddr; exact b_fieldPtr) | (show kNilcheck; exact b_nilPtr)) (by first | (show kMove; exact b_move) | (show kLoad; exact b_loadPtr) | (show kFieldaddr; exact b_fieldPtr) | (show kNilcheck; exact b_nilPtr)) ?_))
          | (show eRet; refine retC2 Tryd.results5 ?_))
        exact ⟨by rw [hq2]; rfl, _, rfl⟩
end Go.AL
set_option linter.unusedVariables false
namespace Go.AL
open Go.Proofs
set_option maxRecDepth 10000
attribute [local irreducible] AWp AList RStep seqQ blockQ retQ DSteps DT awR rQ SStep
/-- A rule whose nodes are an array of the call's own. -/
abbrev rowC (r : Rl) (x : C) : List C := [.p (.lit (.string r.name)), cNil, x]
def rowsC (base : Nat) (rs : List Rl) (i : Nat) : List (List C) := rs.mapIdx fun j r => if j < i then rowC r (.ms (base + j) r.body.length) else (encRl r).map .p
def clones (rs : List Rl) (i : Nat) : List AObj := (rs.take i).map fun r => .arr 58 10 (r.body.map encNd)
theorem rowsC_zero (b : Nat) (rs : List Rl) : (rs.map encRl).map (fun e => e.map C.p) = rowsC b rs 0 := by
  apply List.ext_getElem?
  intro j
  simp [rowsC, List.getElem?_mapIdx]
  rfl
theorem at'_getElem? {α : Type} [Inhabited α] {l : List α} {k : Nat} (h : k < l.length) : l[k]? = some (at' l (k : Int)) := by
  have := at_get l (k : Int) (by omega) (by omega)
  rwa [Int.toNat_natCast] at this
theorem rowsC_at {b : Nat} {rs : List Rl} {k : Nat} (h : k < rs.length) : (rowsC b rs k)[k]? = some ((encRl (at' rs (k : Int))).map .p) := by
  simp [rowsC, List.getElem?_mapIdx, at'_getElem? h]
theorem rowsC_set {b : Nat} {rs : List Rl} {k : Nat} (h : k < rs.length) : (rowsC b rs k).set k (rowC (at' rs (k : Int)) (.ms (b + k) (at' rs (k : Int)).body.length)) = rowsC b rs (k + 1) := by
  apply List.ext_getElem?
  intro j
  simp only [rowsC, List.getElem?_mapIdx, List.getElem?_set, List.length_mapIdx]
  by_cases hj : k = j
  · subst hj
    have e := at'_getElem? h
    rw [List.getElem?_eq_getElem h] at e
    injection e with e
    simp [h, e]
  · rw [if_neg hj]
    by_cases hjk : j < k
    · simp [hjk, show j < k + 1 by omega]
    · simp [hjk, show ¬ j < k + 1 by omega]
theorem clones_len {rs : List Rl} {i : Nat} (h : i ≤ rs.length) : (clones rs i).length = i := by simp [clones]; omega
theorem clones_next {rs : List Rl} {i : Nat} (h : i < rs.length) : clones rs (i + 1) = clones rs i ++ [.arr 58 10 ((at' rs (i : Int)).body.map encNd)] := by
  simp only [clones, List.take_add_one, at'_getElem? h, List.map_append]
  rfl
set_option maxHeartbeats 8000000 in
theorem grammarP_good (t : T) (ht : t.size ≤ 4096) (hck : checkF t.enc = 0) (hend : endErr (builtP t) = 0) : ACalls Tryd.prog 5 [pat t.enc] [.ext tabX] (fun r σ' => ∃ o1 o2 o3 g M, 4 + g.length = M ∧ r = .ret (.tup [.agg [cNil, .ms (M + 0) (builtP t).rules.length], i64 0]) ∧ σ' = [.ext tabX, o1, o2, o3] ++ (g ++ (.arrC 52 3 (rowsC (M + 1) (builtP t).rules (builtP t).rules.length) :: clones (builtP t).rules (builtP t).rules.length))) := by
  have hc := check_c t.enc (by have : t.enc.length = t.size := rfl
                               omega)
  rw [hck] at hc
  have hw := way_c t endE startS ht endE_ok startS_P
  have hwP := wayP_P t endE startS startS_P
  have hpos := hwP.1.pos
  have hbl := builtP_small t
  refine acalls_by Tryd.func5 Tryd.ntmps5 ?_
  simp only [argFr]
  repeat' (first
    | (show lAt 19; refine k_nilF 18 2 10 ?_)
    | (show cAt 6; refine kw_moveB 2 3 (p := lgP false) (q := err1 0) (M := 4) rfl rfl rfl (by decide) (σ' := gfP 4 startS.rules.length startS.lg startS.err ++ ([] ++ [.arr 52 3 (startS.rules.map encRl)])) rfl ?_; refine aw_reg ?_)
    | (show lAlloc; refine k_alloc ?_)
    | (show lBox; refine k_box ?_)
    | (show lStore; refine k_storePart (f := encRl) (⟨(at' (wayP t endE startS).2.rules ((0 : Nat) : Int)).name, (wayP t endE startS).1⟩ : Rl) ?_)
    | (show lBuildSlice; refine k_buildSl1 ?_)
    | (show lCall; refine k_callB4 hw (gg := []) rfl (fun g1 M1 hM1 => ?_))
    | (show lOp; refine op0 (by first | (show kAssign; exact b_assign) | (show kMove; exact b_move) | (show kCall; first | exact b_call (hc) | exact b_lenMs) | (show kLoad; exact b_loadPtr) | (show kFieldaddr; first | exact b_fieldPtr | exact b_fieldEpt) | (show kIndexaddr; exact m_indexMs) | (show kBinopNeq; exact b_neq) | (show kNilcheck; exact b_nilPtr) | (show kBuild; exact b_buildSt) | (show kBuildslice; exact b_buildSl2)) ?_)
    | (show lNil; refine al_nil ?_)
    | (show qSeq; refine n_seq ?_)
    | (show cReg; refine aw_reg ?_)
    | (show cSeq; refine aw_seq ?_)
    | (show cBlk; refine aw_block ?_)
    | (show cSkip; refine aw_skip ?_)
    | (show cIf; refine aw_F ?_))
  have hrs : (builtP t).rules = (wayP t endE startS).2.rules.set (Int.toNat 0) ⟨(at' (wayP t endE startS).2.rules ((0 : Nat) : Int)).name, (wayP t endE startS).1⟩ := rfl
  have hrl : (wayP t endE startS).2.rules.length = (builtP t).rules.length := by rw [hrs, List.length_set]
  have hfo := builtP_fo t
  have hle := builtP_len t
  have herr : (wayP t endE startS).2.err = (builtP t).err := rfl
  have hlg : (wayP t endE startS).2.lg = (builtP t).lg := rfl
  rw [hrl, herr, hlg, ← hrs]
  generalize builtP t = B at *
  clear hrs hrl herr hlg
  have hB : B.err = 0 := by
    by_cases h : B.err = 0
    · exact h
    · rw [endErr, if_neg h, errAt, if_neg (fun h' => h h'.1)] at hend; exact absurd hend h
  rw [endErr, if_pos hB] at hend
  have hS : ¬ sumB B.rules > 4096 := by
    intro h; rw [if_pos h] at hend; cases hend
  rw [if_neg hS] at hend
  have hdeep : ∀ q, q < B.rules.length → ¬ nestE (at' B.rules (q : Int)).body > 100 := by
    intro q hq hd
    rw [errAt, if_pos ⟨rfl, q, hq, hq, hd⟩] at hend; cases hend
  refine aw_roundsP (ι := Nat) (M1 + 1) (fun _ => gfP M1 B.rules.length B.lg B.err ++ (g1 ++ [.arr 52 3 (B.rules.map encRl)])) (fun i n => [(0, pat t.enc), (2, .c (.ptr 1 0)), (5, .c (.ptr 3 0)), (39, .c (.ms (M1 + 0) B.rules.length)), (40, i64 B.rules.length), (41, i64 i), (8, i64 (sumB (B.rules.take i)))]) (fun i n => []) (fun i => i ≤ B.rules.length) (fun i => B.rules.length - i) 0 (M1 + 1) (fun _ => by simp; omega) (by omega) (by omega) (by simp; omega) (List.take_of_length_le (by simp; omega)) (List.drop_of_length_le (by simp; omega)) (by simp [Fr.get, sumB]) ?_
  rintro k n g hk1 hg
  have hsr := sumB_rng B.rules hbl k
  by_cases hk : k < B.rules.length
  · have hsn := sumB_next B.rules k hk
    have hbk := hbl _ (at'_mem (show 0 ≤ (k : Int) by omega) (show (k : Int) < B.rules.length by omega))
    repeat' (first
      | (refine aw_T ?_ (hb := decide_eq_true (by omega)))
      | (show lAt 45; refine k_freezeC 10 ?_)
      | (show lAlloc; refine k_alloc ?_)
      | (show lStore; refine k_store ?_)
      | (show lOp; refine op0 (by first | (show kAssign; exact b_assign) | (show kMove; exact b_move) | (show kCall; exact m_lenSl) | (show kLoad; first | exact m_loadEpt (ho := getL (getGP hM1 rfl rfl)) | exact b_loadRp) | (show kFieldaddr; exact b_fieldRp) | (show kIndexaddr; exact m_indexMs (ho := getL (getGP hM1 rfl rfl))) | (show kBinopAdd; exact b_add) | (show kBinopLss; exact b_lss)) ?_)
      | (show lNil; refine al_nil ?_)
      | (show qSeq; refine n_seq ?_)
      | (show qBlk; refine n_block ?_)
      | (show cReg; refine aw_reg ?_)
      | (show cSeq; refine aw_seq ?_)
      | (show cBlk; refine aw_block ?_)
      | (show cSkip; refine aw_skip ?_))
    exact ⟨k + 1, n + 1, by omega, by simp at hg; omega, by simp at hg; simp; omega, List.take_left' (by simp; omega), List.drop_of_length_le (by simp at hg; simp; omega), by simp [Fr.get, hsn], by omega⟩
  · have ek : k = B.rules.length := by omega
    subst ek
    rw [List.take_of_length_le (Nat.le_refl _)] at hsr ⊢
    rw [List.append_nil, List.append_assoc, List.append_assoc]
    refine kw_reshape hM1 (fun g2 M2 hM2 => ?_)
    repeat' (first
      | (show lOp; refine op0 (by first | (show kMove; exact b_move) | (show kCall; exact b_lenMs) | (show kLoad; exact b_loadPtr) | (show kFieldaddr; exact b_fieldPtr) | (show kBinopEql; exact b_eql) | (show kBinopLss; exact b_lss) | (show kBinopGtr; exact b_gtr) | (show kPick; exact b_pickT) | (show kNilcheck; exact b_nilPtr)) ?_)
      | (show lGu; refine al_yes ?_)
      | (show lNil; refine al_nil ?_)
      | (show qSeq; first | refine n_seq ?_ | refine x_seq ?_)
      | (show qBlk; refine x_eq ?_)
      | (show cReg; refine aw_reg ?_)
      | (show cSeq; refine aw_seq ?_)
      | (show cBlk; refine aw_block ?_)
      | (show cSkip; refine aw_skip ?_)
      | (show cExit; refine aw_exit ?_)
      | (show cIf; first | refine aw_F ?_ | refine aw_ifD (fun h => ?_) (fun h => ?_))
      | (exfalso; omega))
    refine kw_toC (M2 + 0) ?_ (getGP hM2 rfl rfl) (setGP hM2 rfl rfl)
    rw [rowsC_zero (M2 + 1)]
    refine aw_rounds (ι := Nat) (fun i => [(0, pat t.enc), (2, .c (.ptr 1 0)), (5, .c (.ptr 3 0)), (66, i64 B.rules.length), (67, i64 i)]) (fun i => gfP M2 B.rules.length B.lg B.err ++ (g2 ++ (.arrC 52 3 (rowsC (M2 + 1) B.rules i) :: clones B.rules i))) (fun i => i ≤ B.rules.length) (fun i => B.rules.length - i) 0 (by omega) (by simp [clones]) (by simp [Fr.get]) ?_
    rintro q hq1
    have hcl := clones_len hq1
    by_cases hq : q < B.rules.length
    · have hfq := hfo q hq
      have hbq := hbl _ (at'_mem (show 0 ≤ (q : Int) by omega) (show (q : Int) < B.rules.length by omega))
      have hclo := cloneG_c B hfo hbl q hq
      have hnest := nestP_c (at' B.rules (q : Int)).body (.inr hfq) (by omega)
      have hnd := hdeep q hq
      have hat := rowsC_at (b := M2 + 1) hq
      have hset := rowsC_set (b := M2 + 1) hq
      have hnx := clones_next hq
      have hlen : (gfP M2 B.rules.length B.lg B.err ++ (g2 ++ (AObj.arrC 52 3 (rowsC (M2 + 1) B.rules q) :: clones B.rules q))).length = M2 + 1 + q := by simp; omega
      have hσn : (gfP M2 B.rules.length B.lg B.err ++ (g2 ++ (AObj.arrC 52 3 (rowsC (M2 + 1) B.rules q) :: clones B.rules q))) ++ [AObj.arr 58 10 ((at' B.rules (q : Int)).body.map encNd)] = gfP M2 B.rules.length B.lg B.err ++ (g2 ++ (AObj.arrC 52 3 (rowsC (M2 + 1) B.rules q) :: clones B.rules (q + 1))) := by rw [hnx]; simp
      have hat' : (rowsC (M2 + 1) B.rules q)[(q : Int).toNat]? = some ((encRl (at' B.rules (q : Int))).map .p) := by rw [Int.toNat_natCast]; exact hat
      repeat' (first
        | (refine aw_T ?_ (hb := decide_eq_true (by omega)))
        | (show cAtD 21; refine' aw_dt 14 13 (gfP M2 B.rules.length B.lg B.err ++ (g2 ++ (AObj.arrC 52 3 (rowsC (M2 + 1) B.rules q) :: clones B.rules (q + 1)))) Tryd_mixed _)
        | (show lStore; refine k_storeEptC (getGP hM2 rfl rfl) hat' ?_)
        | (show lOp; refine op0 (by first | (show kAssign; exact b_assign) | (show kMove; exact b_move) | (show kCall; exact b_call (hnest)) | (show kLoad; first | exact b_loadEptC (getGP hM2 rfl rfl) hat' | exact b_loadPtr) | (show kFieldaddr; first | exact b_fieldPtr | exact b_fieldEpt) | (show kIndexaddr; exact b_indexMsC (getGP hM2 rfl rfl)) | (show kBinopAdd; exact b_add) | (show kBinopEql; exact b_eql) | (show kBinopLss; exact b_lss) | (show kBinopGtr; exact b_gtr) | (show kPick; exact b_pickT) | (show kNilcheck; exact b_nilPtr)) ?_)
        | (show lGu; refine al_yes ?_)
        | (show lNil; refine al_nil ?_)
        | (show qSeq; refine n_seq ?_)
        | (show qBlk; refine n_block ?_)
        | (show cReg; refine aw_reg ?_)
        | (show cSeq; refine aw_seq ?_)
        | (show cBlk; refine aw_block ?_)
        | (show cSkip; refine aw_skip ?_)
        | (show cIf; refine aw_F ?_)
        | (show tNil; refine dt_nil ?_)
        | (show tSome; first | refine dt_turn (by exact t_callNew hclo hlen hσn) ?_ | (refine dt_pre (by first | (show kMove; exact b_move) | (show kLoad; first | exact b_loadEptC (getGP hM2 rfl rfl) hat' | exact b_loadPtr) | (show kFieldaddr; first | exact b_fieldPtr | exact b_fieldEpt) | (show kIndexaddr; exact b_indexMsC (getGP hM2 rfl rfl)) | (show kNilcheck; exact b_nilPtr)) (by decide +kernel) ?_) | (refine dt_pre2 (by first | (show kMove; exact b_move) | (show kLoad; exact b_loadPtr) | (show kFieldaddr; exact b_fieldPtr) | (show kNilcheck; exact b_nilPtr)) (by first | (show kMove; exact b_move) | (show kLoad; exact b_loadPtr) | (show kFieldaddr; exact b_fieldPtr) | (show kNilcheck; exact b_nilPtr)) ?_)))
      refine ⟨q + 1, by omega, ?_, by simp [Fr.get], by omega⟩
      simp only [Int.toNat_natCast]
      rw [← hset]
      rfl
    · repeat' (first
        | (refine aw_F ?_ (hb := decide_eq_false (by omega)))
        | (show lStore; refine k_store ?_)
        | (show lOp; refine op0 (by first | (show kAssign; exact b_assign) | (show kMove; exact b_move) | (show kLoad; exact b_loadPtr) | (show kFieldaddr; exact b_fieldPtr) | (show kBinopNeq; exact b_neq) | (show kBinopLss; exact b_lss) | (show kNilcheck; exact b_nilPtr) | (show kBuild; exact b_buildSt)) ?_)
        | (show lNil; refine al_nil ?_)
        | (show qSeq; first | refine n_seq ?_ | refine x_seq ?_)
        | (show qBlk; refine x_eq ?_)
        | (show cReg; refine aw_reg ?_)
        | (show cSeq; refine aw_seq ?_)
        | (show cSkip; refine aw_skip ?_)
        | (show cExit; refine aw_exit ?_)
        | (show cRet; refine aw_ret ?_)
        | (show eRet; refine retC2 Tryd.results5 ?_))
      have : q = B.rules.length := by omega
      subst this
      exact ⟨_, _, _, g2, M2, hM2, rfl, rfl⟩
end Go.AL
