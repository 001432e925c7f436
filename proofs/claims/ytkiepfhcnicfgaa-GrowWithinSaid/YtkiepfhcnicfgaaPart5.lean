/-
  Part 5 of the proof: what the functions that the law reaches come to.
-/
import Derived.Below
import Derived.ChangeKeysEq
import Derived.Deep.Draws
import Derived.Ground.Names2Prog
import Derived.KernelRfl
import Derived.Laws.CopyRow
import Derived.Laws.Cover3
import Derived.Laws.IdiomCopy
import Derived.Laws.IdiomStrings
import Derived.Laws.OwnMore
import Derived.Laws.Rows
import Derived.Laws.Small
import Derived.Laws.Strings3
import Derived.Laws.StructEq
import Derived.Lib.AppendZeros
import Derived.Maps.AppendAt
import Derived.Orders
import Derived.Recover
import Derived.Shelf.Slices.Cells
import Derived.Shelf.Slices.CompactI
import Derived.Shelf.Slices.In.SortNone
import Derived.Shelf.Small.Strs
import Derived.Shelf.Small.Utf8
import Derived.Shelf.Small.Wraps
import Derived.Shelf.Sort.Plain
import Derived.Shelf.Strings.AsciiSet
import Derived.Shelf.Strings.IndexAny
import Derived.Shelf.Strings.IndexAnyAll
import Derived.Shelf.Strings.Prefix
import Derived.Shelf.Strings.Runes
import Derived.Shelf.Strings.Search1
import Derived.Sort.Row
import Derived.StillTail
import Derived.Tactics
import Derived.Test.YtkiepfhcnicfgaaProg
import Derived.WideKeyRuns
import Derived.WideLaws
import Derived.Test.YtkiepfhcnicfgaaPart4
set_option linter.all false
set_option linter.unusedVariables false
namespace Go.AL
open Go.Proofs
set_option maxRecDepth 10000
attribute [local irreducible] AWp AList RStep seqQ blockQ retQ DSteps DT DU awR rQ SStep
structure May where
  f0 : Bool
  f1 : Bool
  f2 : Bool
  f3 : Bool
  deriving Inhabited, DecidableEq
def encMay (m : May) : List PV := [lB m.f0, lB m.f1, lB m.f2, lB m.f3]
abbrev mayV (m : May) : AV := .agg [.p (lB m.f0), .p (lB m.f1), .p (lB m.f2), .p (lB m.f3)]
abbrev noMay : May := ⟨false, false, false, false⟩
def goesM (m : May) : Bool := m.f1 || m.f2
theorem goes_c (m : May) : ACalls Try.prog 57 [mayV m] [] (fun r _ => r = .ret (bl (goesM m))) := by
  obtain ⟨a, b, c, d⟩ := m
  cases b
  · skip
    refine acalls_by Try.func57 Try.ntmps57 ?_
    simp only [argFr]
    repeat' (first
      | (show lBox; refine k_box ?_)
      | (show lOp; refine op0 (by first | (show kAssign; exact b_assign) | (show kMove; exact b_move) | (show kLoad; exact b_loadPtr) | (show kFieldaddr; exact b_fieldPtr) | (show kPick; exact b_pickF)) ?_)
      | (show lGu; refine al_yes ?_)
      | (show lNil; refine al_nil ?_)
      | (show qSeq; refine n_seq ?_)
      | (show cReg; refine aw_reg ?_)
      | (show cSeq; refine aw_seq ?_)
      | (show cRet; refine aw_ret ?_)
      | (show eRet; refine ret1 Try.results57 ?_))
    rfl
  · skip
    refine acalls_by Try.func57 Try.ntmps57 ?_
    simp only [argFr]
    repeat' (first
      | (show lBox; refine k_box ?_)
      | (show lOp; refine op0 (by first | (show kAssign; exact b_assign) | (show kMove; exact b_move) | (show kLoad; exact b_loadPtr) | (show kFieldaddr; exact b_fieldPtr) | (show kPick; exact b_pickT)) ?_)
      | (show lGu; refine al_none ?_)
      | (show lNil; refine al_nil ?_)
      | (show qSeq; refine n_seq ?_)
      | (show cReg; refine aw_reg ?_)
      | (show cSeq; refine aw_seq ?_)
      | (show cRet; refine aw_ret ?_)
      | (show eRet; refine ret1 Try.results57 ?_))
    rfl
def atM (l : List May) (i : Int) : May := if i < 0 then noMay else at' l i
theorem at_c (l : List May) (i : Int) (h : i < l.length) : ACalls Try.prog 43 [.c (.p (.sl 4 (l.map encMay))), i64 i] [] (fun r _ => r = .ret (mayV (atM l i))) := by
  by_cases h0 : i < 0
  · skip
    refine acalls_by Try.func43 Try.ntmps43 ?_
    simp only [argFr]
    repeat' (first
      | (refine aw_T ?_ (hb := decide_eq_true h0))
      | (show lAlloc; refine k_alloc ?_)
      | (show lStore; refine k_store ?_)
      | (show lOp; refine op0 (by first | (show kMove; exact b_move) | (show kLoad; exact b_loadPtr) | (show kBinopLss; exact b_lss)) ?_)
      | (show lNil; refine al_nil ?_)
      | (show qSeq; first | refine n_seq ?_ | refine p_seq ?_)
      | (show cReg; refine aw_reg ?_)
      | (show cSeq; refine aw_seq ?_)
      | (show cRet; refine aw_ret ?_)
      | (show eRet; refine retC1 Try.results43 ?_))
    unfold atM; rw [if_pos h0]; rfl
  · skip
    refine acalls_by Try.func43 Try.ntmps43 ?_
    simp only [argFr]
    repeat' (first
      | (refine aw_F ?_ (hb := decide_eq_false h0))
      | (show lAlloc; refine k_alloc ?_)
      | (show lStore; refine k_store ?_)
      | (show lOp; refine op0 (by first | (show kMove; exact b_move) | (show kLoad; exact b_loadRp) | (show kIndexaddr; exact m_indexSl) | (show kBinopLss; exact b_lss)) ?_)
      | (show lNil; refine al_nil ?_)
      | (show qSeq; refine n_seq ?_)
      | (show cReg; refine aw_reg ?_)
      | (show cSeq; refine aw_seq ?_)
      | (show cSkip; refine aw_skip ?_)
      | (show cRet; refine aw_ret ?_)
      | (show eRet; refine retC1 Try.results43 ?_))
    unfold atM; rw [if_neg h0]; rfl
/-- What an expression may come to, by what its parts may. -/
def comeM (n : Node) (l r : May) (rules : List May) : May :=
  if n.op = 0 then ⟨false, true, false, false⟩
  else if n.op = 1 then ⟨true, false, !decide (n.cl = ⟨0, 0, 0, 0⟩), false⟩
  else if n.op = 2 then at' rules n.rule
  else if n.op = 3 then ⟨false, false, false, true⟩
  else if n.op = 4 then ⟨l.f0 || (goesM l && r.f0), l.f1 && r.f1, (l.f2 && goesM r) || (l.f1 && r.f2), l.f3 || (goesM l && r.f3)⟩
  else if n.op = 5 then ⟨l.f0 && r.f0, l.f1 || (l.f0 && r.f1), l.f2 || (l.f0 && r.f2), l.f3 || (l.f0 && r.f3)⟩
  else if n.op = 6 then ⟨false, l.f0, l.f2 && l.f0, l.f3⟩
  else if n.op = 7 then ⟨goesM l, l.f0 || l.f3, false, false⟩
  else l
def clsW (c : Cls) : List Value := [.int .u64 c.c0, .int .u64 c.c1, .int .u64 c.c2, .int .u64 c.c3]
theorem clsW_eq (n m : Cls) : eqCells (clsW n) (clsW m) = decide (n = m) := by
  obtain ⟨c0, c1, c2, c3⟩ := n
  obtain ⟨c0', c1', c2', c3'⟩ := m
  rw [Bool.eq_iff_iff]
  simp [clsW, eqCells, vbeq]
set_option maxHeartbeats 4000000 in
theorem come4_tt (n : Node) (c d gr : Bool) (r : May) (rules : List May) (p4 : n.op = 4) (hr : ACalls Try.prog 57 [mayV r] [] (fun q _ => q = .ret (bl gr))) : ACalls Try.prog 42 [.agg ((encNode n).map .p), mayV ⟨true, true, c, d⟩, mayV r, .c (.p (.sl 4 (rules.map encMay)))] [] (fun q _ => q = .ret (mayV ⟨true || (goesM ⟨true, true, c, d⟩ && r.f0), true && r.f1, (c && gr) || (true && r.f2), d || (goesM ⟨true, true, c, d⟩ && r.f3)⟩)) := by
  have hg := goes_c ⟨true, true, c, d⟩
  cases c <;> cases d <;> cases gr
  all_goals
    · skip
      refine acalls_by Try.func42 Try.ntmps42 ?_
      simp only [argFr]
      repeat' (first
        | (refine aw_T ?_ (hb := decide_eq_true (by omega)))
        | (refine aw_F ?_ (hb := decide_eq_false (by omega)))
        | (show lAlloc; refine k_alloc ?_)
        | (show lBox; refine k_box ?_)
        | (show lStore; refine k_store ?_)
        | (show lOp; refine op0 (by first | (show kAssign; exact b_assign) | (show kLoad; exact b_loadPtr) | (show kFieldaddr; exact b_fieldPtr) | (show kBinopEql; exact b_eql)) ?_)
        | (show lNil; refine al_nil ?_)
        | (show qSeq; first | refine n_seq ?_ | refine p_seq ?_)
        | (show qBlk; refine p_block ?_)
        | (show cReg; refine aw_reg ?_)
        | (show cSeq; refine aw_seq ?_)
        | (show cBlk; refine aw_block ?_)
        | (show cRet; refine aw_ret ?_)
        | (show cRegD; refine aw_drN Try_mixed ?_)
        | (show dOp; refine ds_op (by first | (show kMove; exact b_move) | (show kLoad; exact b_loadPtr) | (show kFieldaddr; exact b_fieldPtr) | (show kPick; first | exact b_pickT | exact b_pickF) | (show kBuild; exact b_buildSt)) ?_)
        | (show dGu; first | refine ds_none ?_ | refine ds_noneU ?_ | (refine ds_yes (by first | (show kMove; exact b_move) | (show kCall; first | exact b_call (hg) | exact b_call (hr)) | (show kLoad; exact b_loadPtr) | (show kFieldaddr; exact b_fieldPtr) | (show kPick; exact b_pickT)) ?_))
        | (show dNil; refine ds_nil ?_)
        | (show eRet; refine retC1 Try.results42 ?_))
      rfl
set_option maxHeartbeats 4000000 in
theorem come4_tf (n : Node) (c d gr : Bool) (r : May) (rules : List May) (p4 : n.op = 4) (hr : ACalls Try.prog 57 [mayV r] [] (fun q _ => q = .ret (bl gr))) : ACalls Try.prog 42 [.agg ((encNode n).map .p), mayV ⟨true, false, c, d⟩, mayV r, .c (.p (.sl 4 (rules.map encMay)))] [] (fun q _ => q = .ret (mayV ⟨true || (goesM ⟨true, false, c, d⟩ && r.f0), false && r.f1, (c && gr) || (false && r.f2), d || (goesM ⟨true, false, c, d⟩ && r.f3)⟩)) := by
  have hg := goes_c ⟨true, false, c, d⟩
  cases c <;> cases d <;> cases gr
  all_goals
    · skip
      refine acalls_by Try.func42 Try.ntmps42 ?_
      simp only [argFr]
      repeat' (first
        | (refine aw_T ?_ (hb := decide_eq_true (by omega)))
        | (refine aw_F ?_ (hb := decide_eq_false (by omega)))
        | (show lAlloc; refine k_alloc ?_)
        | (show lBox; refine k_box ?_)
        | (show lStore; refine k_store ?_)
        | (show lOp; refine op0 (by first | (show kAssign; exact b_assign) | (show kLoad; exact b_loadPtr) | (show kFieldaddr; exact b_fieldPtr) | (show kBinopEql; exact b_eql)) ?_)
        | (show lNil; refine al_nil ?_)
        | (show qSeq; first | refine n_seq ?_ | refine p_seq ?_)
        | (show qBlk; refine p_block ?_)
        | (show cReg; refine aw_reg ?_)
        | (show cSeq; refine aw_seq ?_)
        | (show cBlk; refine aw_block ?_)
        | (show cRet; refine aw_ret ?_)
        | (show cRegD; refine aw_drN Try_mixed ?_)
        | (show dOp; refine ds_op (by first | (show kMove; exact b_move) | (show kLoad; exact b_loadPtr) | (show kFieldaddr; exact b_fieldPtr) | (show kPick; first | exact b_pickT | exact b_pickF) | (show kBuild; exact b_buildSt)) ?_)
        | (show dGu; first | refine ds_none ?_ | refine ds_noneU ?_ | (refine ds_yes (by first | (show kMove; exact b_move) | (show kCall; first | exact b_call (hg) | exact b_call (hr)) | (show kLoad; exact b_loadPtr) | (show kFieldaddr; exact b_fieldPtr) | (show kPick; first | exact b_pickT | exact b_pickF)) ?_))
        | (show dNil; refine ds_nil ?_)
        | (show eRet; refine retC1 Try.results42 ?_))
      rfl
set_option maxHeartbeats 4000000 in
theorem come4_ft (n : Node) (c d gr : Bool) (r : May) (rules : List May) (p4 : n.op = 4) (hr : ACalls Try.prog 57 [mayV r] [] (fun q _ => q = .ret (bl gr))) : ACalls Try.prog 42 [.agg ((encNode n).map .p), mayV ⟨false, true, c, d⟩, mayV r, .c (.p (.sl 4 (rules.map encMay)))] [] (fun q _ => q = .ret (mayV ⟨false || (goesM ⟨false, true, c, d⟩ && r.f0), true && r.f1, (c && gr) || (true && r.f2), d || (goesM ⟨false, true, c, d⟩ && r.f3)⟩)) := by
  have hg := goes_c ⟨false, true, c, d⟩
  cases c <;> cases d <;> cases gr
  all_goals
    · skip
      refine acalls_by Try.func42 Try.ntmps42 ?_
      simp only [argFr]
      repeat' (first
        | (refine aw_T ?_ (hb := decide_eq_true (by omega)))
        | (refine aw_F ?_ (hb := decide_eq_false (by omega)))
        | (show lAlloc; refine k_alloc ?_)
        | (show lBox; refine k_box ?_)
        | (show lStore; refine k_store ?_)
        | (show lOp; refine op0 (by first | (show kAssign; exact b_assign) | (show kLoad; exact b_loadPtr) | (show kFieldaddr; exact b_fieldPtr) | (show kBinopEql; exact b_eql)) ?_)
        | (show lNil; refine al_nil ?_)
        | (show qSeq; first | refine n_seq ?_ | refine p_seq ?_)
        | (show qBlk; refine p_block ?_)
        | (show cReg; refine aw_reg ?_)
        | (show cSeq; refine aw_seq ?_)
        | (show cBlk; refine aw_block ?_)
        | (show cRet; refine aw_ret ?_)
        | (show cRegD; refine aw_drN Try_mixed ?_)
        | (show dOp; refine ds_op (by first | (show kMove; exact b_move) | (show kLoad; exact b_loadPtr) | (show kFieldaddr; exact b_fieldPtr) | (show kPick; first | exact b_pickT | exact b_pickF) | (show kBuild; exact b_buildSt)) ?_)
        | (show dGu; first | refine ds_none ?_ | refine ds_noneU ?_ | (refine ds_yes (by first | (show kMove; exact b_move) | (show kCall; first | exact b_call (hg) | exact b_call (hr)) | (show kLoad; exact b_loadPtr) | (show kFieldaddr; exact b_fieldPtr) | (show kPick; exact b_pickT)) ?_))
        | (show dNil; refine ds_nil ?_)
        | (show eRet; refine retC1 Try.results42 ?_))
      rfl
set_option maxHeartbeats 4000000 in
theorem come4_ff (n : Node) (c d gr : Bool) (r : May) (rules : List May) (p4 : n.op = 4) (hr : ACalls Try.prog 57 [mayV r] [] (fun q _ => q = .ret (bl gr))) : ACalls Try.prog 42 [.agg ((encNode n).map .p), mayV ⟨false, false, c, d⟩, mayV r, .c (.p (.sl 4 (rules.map encMay)))] [] (fun q _ => q = .ret (mayV ⟨false || (goesM ⟨false, false, c, d⟩ && r.f0), false && r.f1, (c && gr) || (false && r.f2), d || (goesM ⟨false, false, c, d⟩ && r.f3)⟩)) := by
  have hg := goes_c ⟨false, false, c, d⟩
  cases c <;> cases d <;> cases gr
  all_goals
    · skip
      refine acalls_by Try.func42 Try.ntmps42 ?_
      simp only [argFr]
      repeat' (first
        | (refine aw_T ?_ (hb := decide_eq_true (by omega)))
        | (refine aw_F ?_ (hb := decide_eq_false (by omega)))
        | (show lAlloc; refine k_alloc ?_)
        | (show lBox; refine k_box ?_)
        | (show lStore; refine k_store ?_)
        | (show lOp; refine op0 (by first | (show kAssign; exact b_assign) | (show kLoad; exact b_loadPtr) | (show kFieldaddr; exact b_fieldPtr) | (show kBinopEql; exact b_eql)) ?_)
        | (show lNil; refine al_nil ?_)
        | (show qSeq; first | refine n_seq ?_ | refine p_seq ?_)
        | (show qBlk; refine p_block ?_)
        | (show cReg; refine aw_reg ?_)
        | (show cSeq; refine aw_seq ?_)
        | (show cBlk; refine aw_block ?_)
        | (show cRet; refine aw_ret ?_)
        | (show cRegD; refine aw_drN Try_mixed ?_)
        | (show dOp; refine ds_op (by first | (show kMove; exact b_move) | (show kLoad; exact b_loadPtr) | (show kFieldaddr; exact b_fieldPtr) | (show kPick; first | exact b_pickT | exact b_pickF) | (show kBuild; exact b_buildSt)) ?_)
        | (show dGu; first | refine ds_none ?_ | refine ds_noneU ?_ | (refine ds_yes (by first | (show kMove; exact b_move) | (show kCall; first | exact b_call (hg) | exact b_call (hr)) | (show kLoad; exact b_loadPtr) | (show kFieldaddr; exact b_fieldPtr) | (show kPick; first | exact b_pickT | exact b_pickF)) ?_))
        | (show dNil; refine ds_nil ?_)
        | (show eRet; refine retC1 Try.results42 ?_))
      rfl
set_option maxHeartbeats 4000000 in
theorem come5_t (n : Node) (b c d : Bool) (r : May) (rules : List May) (p5 : n.op = 5) : ACalls Try.prog 42 [.agg ((encNode n).map .p), mayV ⟨true, b, c, d⟩, mayV r, .c (.p (.sl 4 (rules.map encMay)))] [] (fun q _ => q = .ret (mayV ⟨true && r.f0, b || (true && r.f1), c || (true && r.f2), d || (true && r.f3)⟩)) := by
  cases b <;> cases c <;> cases d
  all_goals
    · skip
      refine acalls_by Try.func42 Try.ntmps42 ?_
      simp only [argFr]
      repeat' (first
        | (refine aw_T ?_ (hb := decide_eq_true (by omega)))
        | (refine aw_F ?_ (hb := decide_eq_false (by omega)))
        | (show lAlloc; refine k_alloc ?_)
        | (show lBox; refine k_box ?_)
        | (show lStore; refine k_store ?_)
        | (show lOp; refine op0 (by first | (show kAssign; exact b_assign) | (show kMove; exact b_move) | (show kLoad; exact b_loadPtr) | (show kFieldaddr; exact b_fieldPtr) | (show kBinopEql; exact b_eql) | (show kPick; first | exact b_pickT | exact b_pickF) | (show kBuild; exact b_buildSt)) ?_)
        | (show lGu; first | refine al_yes ?_ | refine al_none ?_ | refine al_noneU ?_)
        | (show lNil; refine al_nil ?_)
        | (show qSeq; first | refine n_seq ?_ | refine p_seq ?_)
        | (show qBlk; refine p_block ?_)
        | (show cReg; refine aw_reg ?_)
        | (show cSeq; refine aw_seq ?_)
        | (show cBlk; refine aw_block ?_)
        | (show cRet; refine aw_ret ?_)
        | (show eRet; refine retC1 Try.results42 ?_))
      rfl
set_option maxHeartbeats 4000000 in
theorem come5_f (n : Node) (b c d : Bool) (r : May) (rules : List May) (p5 : n.op = 5) : ACalls Try.prog 42 [.agg ((encNode n).map .p), mayV ⟨false, b, c, d⟩, mayV r, .c (.p (.sl 4 (rules.map encMay)))] [] (fun q _ => q = .ret (mayV ⟨false && r.f0, b || (false && r.f1), c || (false && r.f2), d || (false && r.f3)⟩)) := by
  cases b <;> cases c <;> cases d
  all_goals
    · skip
      refine acalls_by Try.func42 Try.ntmps42 ?_
      simp only [argFr]
      repeat' (first
        | (refine aw_T ?_ (hb := decide_eq_true (by omega)))
        | (refine aw_F ?_ (hb := decide_eq_false (by omega)))
        | (show lAlloc; refine k_alloc ?_)
        | (show lBox; refine k_box ?_)
        | (show lStore; refine k_store ?_)
        | (show lOp; refine op0 (by first | (show kAssign; exact b_assign) | (show kMove; exact b_move) | (show kLoad; exact b_loadPtr) | (show kFieldaddr; exact b_fieldPtr) | (show kBinopEql; exact b_eql) | (show kPick; first | exact b_pickT | exact b_pickF) | (show kBuild; exact b_buildSt)) ?_)
        | (show lGu; first | refine al_yes ?_ | refine al_none ?_ | refine al_noneU ?_)
        | (show lNil; refine al_nil ?_)
        | (show qSeq; first | refine n_seq ?_ | refine p_seq ?_)
        | (show qBlk; refine p_block ?_)
        | (show cReg; refine aw_reg ?_)
        | (show cSeq; refine aw_seq ?_)
        | (show cBlk; refine aw_block ?_)
        | (show cRet; refine aw_ret ?_)
        | (show eRet; refine retC1 Try.results42 ?_))
      rfl
set_option maxHeartbeats 4000000 in
theorem come_c (n : Node) (l r : May) (rules : List May) (h2 : n.op = 2 → 0 ≤ n.rule ∧ n.rule < rules.length) : ACalls Try.prog 42 [.agg ((encNode n).map .p), mayV l, mayV r, .c (.p (.sl 4 (rules.map encMay)))] [] (fun q _ => q = .ret (mayV (comeM n l r rules))) := by
  by_cases p0 : n.op = 0
  · skip
    refine acalls_by Try.func42 Try.ntmps42 ?_
    simp only [argFr]
    repeat' (first
      | (refine aw_T ?_ (hb := decide_eq_true (by omega)))
      | (show lAlloc; refine k_alloc ?_)
      | (show lBox; refine k_box ?_)
      | (show lStore; refine k_store ?_)
      | (show lOp; refine op0 (by first | (show kAssign; exact b_assign) | (show kLoad; exact b_loadPtr) | (show kFieldaddr; exact b_fieldPtr) | (show kBinopEql; exact b_eql) | (show kBuild; exact b_buildSt)) ?_)
      | (show lNil; refine al_nil ?_)
      | (show qSeq; first | refine n_seq ?_ | refine p_seq ?_)
      | (show qBlk; refine p_block ?_)
      | (show cReg; refine aw_reg ?_)
      | (show cSeq; refine aw_seq ?_)
      | (show cBlk; refine aw_block ?_)
      | (show cRet; refine aw_ret ?_)
      | (show eRet; refine retC1 Try.results42 ?_))
    unfold comeM; rw [if_pos p0]; rfl
  by_cases p1 : n.op = 1
  · skip
    refine acalls_by Try.func42 Try.ntmps42 ?_
    simp only [argFr]
    repeat' (first
      | (refine aw_T ?_ (hb := decide_eq_true (by omega)))
      | (refine aw_F ?_ (hb := decide_eq_false (by omega)))
      | (show lAlloc; refine k_alloc ?_)
      | (show lBox; refine k_box ?_)
      | (show lStore; refine k_store ?_)
      | (show lOp; refine op0 (by first | (show kAssign; exact b_assign) | (show kLoad; exact b_loadPtr) | (show kFieldaddr; exact b_fieldPtr) | (show kBinopEql; exact b_eql) | (show kBinopNeq; exact b_neqAgg (hr := clsW_eq n.cl ⟨0, 0, 0, 0⟩)) | (show kBuild; first | exact b_buildSt | exact b_buildArr)) ?_)
      | (show lNil; refine al_nil ?_)
      | (show qSeq; first | refine n_seq ?_ | refine p_seq ?_)
      | (show qBlk; refine p_block ?_)
      | (show cReg; refine aw_reg ?_)
      | (show cSeq; refine aw_seq ?_)
      | (show cBlk; refine aw_block ?_)
      | (show cRet; refine aw_ret ?_)
      | (show eRet; refine retC1 Try.results42 ?_))
    unfold comeM; rw [if_neg p0, if_pos p1]; rfl
  by_cases p2 : n.op = 2
  · obtain ⟨q1, q2⟩ := h2 p2
    refine acalls_by Try.func42 Try.ntmps42 ?_
    simp only [argFr]
    repeat' (first
      | (refine aw_T ?_ (hb := decide_eq_true (by omega)))
      | (refine aw_F ?_ (hb := decide_eq_false (by omega)))
      | (show lAlloc; refine k_alloc ?_)
      | (show lBox; refine k_box ?_)
      | (show lStore; refine k_store ?_)
      | (show lOp; refine op0 (by first | (show kAssign; exact b_assign) | (show kMove; exact b_move) | (show kLoad; first | exact b_loadRp | exact b_loadPtr) | (show kFieldaddr; exact b_fieldPtr) | (show kIndexaddr; exact m_indexSl) | (show kBinopEql; exact b_eql)) ?_)
      | (show lNil; refine al_nil ?_)
      | (show qSeq; first | refine n_seq ?_ | refine p_seq ?_)
      | (show qBlk; refine p_block ?_)
      | (show cReg; refine aw_reg ?_)
      | (show cSeq; refine aw_seq ?_)
      | (show cBlk; refine aw_block ?_)
      | (show cRet; refine aw_ret ?_)
      | (show eRet; refine retC1 Try.results42 ?_))
    unfold comeM; rw [if_neg p0, if_neg p1, if_pos p2]; rfl
  by_cases p3 : n.op = 3
  · skip
    refine acalls_by Try.func42 Try.ntmps42 ?_
    simp only [argFr]
    repeat' (first
      | (refine aw_T ?_ (hb := decide_eq_true (by omega)))
      | (refine aw_F ?_ (hb := decide_eq_false (by omega)))
      | (show lAlloc; refine k_alloc ?_)
      | (show lBox; refine k_box ?_)
      | (show lStore; refine k_store ?_)
      | (show lOp; refine op0 (by first | (show kAssign; exact b_assign) | (show kLoad; exact b_loadPtr) | (show kFieldaddr; exact b_fieldPtr) | (show kBinopEql; exact b_eql) | (show kBuild; exact b_buildSt)) ?_)
      | (show lNil; refine al_nil ?_)
      | (show qSeq; first | refine n_seq ?_ | refine p_seq ?_)
      | (show qBlk; refine p_block ?_)
      | (show cReg; refine aw_reg ?_)
      | (show cSeq; refine aw_seq ?_)
      | (show cBlk; refine aw_block ?_)
      | (show cRet; refine aw_ret ?_)
      | (show eRet; refine retC1 Try.results42 ?_))
    unfold comeM; rw [if_neg p0, if_neg p1, if_neg p2, if_pos p3]; rfl
  have e4 : ¬n.op = 4 → comeM n l r rules = if n.op = 5 then ⟨l.f0 && r.f0, l.f1 || (l.f0 && r.f1), l.f2 || (l.f0 && r.f2), l.f3 || (l.f0 && r.f3)⟩ else if n.op = 6 then ⟨false, l.f0, l.f2 && l.f0, l.f3⟩ else if n.op = 7 then ⟨goesM l, l.f0 || l.f3, false, false⟩ else l := fun h => by unfold comeM; rw [if_neg p0, if_neg p1, if_neg p2, if_neg p3, if_neg h]
  by_cases p4 : n.op = 4
  · have e5 : comeM n l r rules = ⟨l.f0 || (goesM l && r.f0), l.f1 && r.f1, (l.f2 && goesM r) || (l.f1 && r.f2), l.f3 || (goesM l && r.f3)⟩ := by unfold comeM; rw [if_neg p0, if_neg p1, if_neg p2, if_neg p3, if_pos p4]
    rw [e5]
    obtain ⟨a, b, c, d⟩ := l
    have hg := goes_c ⟨a, b, c, d⟩
    have hr := goes_c r
    generalize hgr : goesM r = gr at hr
    cases a <;> cases b
    · exact come4_ff n c d gr r rules p4 hr
    · exact come4_ft n c d gr r rules p4 hr
    · exact come4_tf n c d gr r rules p4 hr
    · exact come4_tt n c d gr r rules p4 hr
  have e4 := e4 p4
  by_cases p5 : n.op = 5
  · rw [e4, if_pos p5]
    obtain ⟨a, b, c, d⟩ := l
    cases a
    · exact come5_f n b c d r rules p5
    · exact come5_t n b c d r rules p5
  rw [if_neg p5] at e4
  by_cases p6 : n.op = 6
  · rw [e4, if_pos p6]
    obtain ⟨a, b, c, d⟩ := l
    cases a <;> cases c
    all_goals
      · skip
        refine acalls_by Try.func42 Try.ntmps42 ?_
        simp only [argFr]
        repeat' (first
          | (refine aw_T ?_ (hb := decide_eq_true (by omega)))
          | (refine aw_F ?_ (hb := decide_eq_false (by omega)))
          | (show lAlloc; refine k_alloc ?_)
          | (show lBox; refine k_box ?_)
          | (show lStore; refine k_store ?_)
          | (show lOp; refine op0 (by first | (show kAssign; exact b_assign) | (show kMove; exact b_move) | (show kLoad; exact b_loadPtr) | (show kFieldaddr; exact b_fieldPtr) | (show kBinopEql; exact b_eql) | (show kPick; first | exact b_pickT | exact b_pickF) | (show kBuild; exact b_buildSt)) ?_)
          | (show lGu; first | refine al_yes ?_ | refine al_none ?_)
          | (show lNil; refine al_nil ?_)
          | (show qSeq; first | refine n_seq ?_ | refine p_seq ?_)
          | (show qBlk; refine p_block ?_)
          | (show cReg; refine aw_reg ?_)
          | (show cSeq; refine aw_seq ?_)
          | (show cBlk; refine aw_block ?_)
          | (show cRet; refine aw_ret ?_)
          | (show eRet; refine retC1 Try.results42 ?_))
        rfl
  rw [if_neg p6] at e4
  by_cases p7 : n.op = 7
  · rw [e4, if_pos p7]
    obtain ⟨a, b, c, d⟩ := l
    have hg := goes_c ⟨a, b, c, d⟩
    cases a
    all_goals
      · skip
        refine acalls_by Try.func42 Try.ntmps42 ?_
        simp only [argFr]
        repeat' (first
          | (refine aw_T ?_ (hb := decide_eq_true (by omega)))
          | (refine aw_F ?_ (hb := decide_eq_false (by omega)))
          | (show lAlloc; refine k_alloc ?_)
          | (show lBox; refine k_box ?_)
          | (show lStore; refine k_store ?_)
          | (show lOp; refine op0 (by first | (show kAssign; exact b_assign) | (show kLoad; exact b_loadPtr) | (show kFieldaddr; exact b_fieldPtr) | (show kBinopEql; exact b_eql)) ?_)
          | (show lNil; refine al_nil ?_)
          | (show qSeq; first | refine n_seq ?_ | refine p_seq ?_)
          | (show qBlk; refine p_block ?_)
          | (show cReg; refine aw_reg ?_)
          | (show cSeq; refine aw_seq ?_)
          | (show cBlk; refine aw_block ?_)
          | (show cRet; refine aw_ret ?_)
          | (show cRegD; refine aw_drN Try_mixed ?_)
          | (show dOp; refine ds_op (by first | (show kMove; exact b_move) | (show kCall; exact b_call (hg)) | (show kLoad; exact b_loadPtr) | (show kFieldaddr; exact b_fieldPtr) | (show kPick; first | exact b_pickT | exact b_pickF) | (show kBuild; exact b_buildSt)) ?_)
          | (show dGu; first | refine ds_none ?_ | (refine ds_yes (by first | (show kLoad; exact b_loadPtr) | (show kFieldaddr; exact b_fieldPtr)) ?_))
          | (show dNil; refine ds_nil ?_)
          | (show eRet; refine retC1 Try.results42 ?_))
        rfl
  rw [if_neg p7] at e4
  rw [e4]
  refine acalls_by Try.func42 Try.ntmps42 ?_
  simp only [argFr]
  repeat' (first
    | (refine aw_F ?_ (hb := decide_eq_false (by omega)))
    | (show lAlloc; refine k_alloc ?_)
    | (show lBox; refine k_box ?_)
    | (show lStore; refine k_store ?_)
    | (show lOp; refine op0 (by first | (show kAssign; exact b_assign) | (show kLoad; exact b_loadPtr) | (show kFieldaddr; exact b_fieldPtr) | (show kBinopEql; exact b_eql)) ?_)
    | (show lNil; refine al_nil ?_)
    | (show qSeq; refine n_seq ?_)
    | (show qBlk; refine n_block ?_)
    | (show cReg; refine aw_reg ?_)
    | (show cSeq; refine aw_seq ?_)
    | (show cBlk; refine aw_block ?_)
    | (show cSkip; refine aw_skip ?_)
    | (show cRet; refine aw_ret ?_)
    | (show eRet; refine retC1 Try.results42 ?_))
  rfl
end Go.AL
