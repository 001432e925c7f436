/-
  What is proved: for every core grammar, every text and every limits, the law dowellaw17.GrowWithin answers true, and its arguments read as they did before: what is matched lies within the input, its forest within that, and what isn't matched has none.
  Conditions: none beyond the given statement's own.
-/
import Derived.Below
import Derived.Carry
import Derived.ChangeKeysEq
import Derived.ChangeMaps5
import Derived.ChangeSame
import Derived.Deep.DeepHandedRow
import Derived.Deep.Draws
import Derived.Deep.Slices
import Derived.Ground.Names2Prog
import Derived.JoinedAt
import Derived.JoinedOf
import Derived.KernelRfl
import Derived.Laws.CopyRow
import Derived.Laws.Cover3
import Derived.Laws.IdiomCopy
import Derived.Laws.IdiomStrings
import Derived.Laws.OwnMore
import Derived.Laws.Rows
import Derived.Laws.Small
import Derived.Laws.Strings3
import Derived.Laws.StructEq
import Derived.Lib.AppendZeros
import Derived.Lib.SmallJoins
import Derived.Maps.AppendAt
import Derived.OpenShut
import Derived.Orders
import Derived.ProofKit
import Derived.Recover
import Derived.RowKit3
import Derived.Shelf.Slices.Cells
import Derived.Shelf.Slices.CompactI
import Derived.Shelf.Slices.In.SortNone
import Derived.Shelf.Small.Strs
import Derived.Shelf.Small.Utf8
import Derived.Shelf.Small.Wraps
import Derived.Shelf.Sort.Plain
import Derived.Shelf.Strings.AsciiSet
import Derived.Shelf.Strings.IndexAny
import Derived.Shelf.Strings.IndexAnyAll
import Derived.Shelf.Strings.Prefix
import Derived.Shelf.Strings.Runes
import Derived.Shelf.Strings.Search1
import Derived.SizedLaws
import Derived.Sort.OwnSortedInts
import Derived.Sort.Row
import Derived.StillTail
import Derived.Tactics
import Derived.Test.YtkiepfhcnicfgaaProg
import Derived.Test.YtkiepfhcnicfgaaRows
import Derived.WalkKit
import Derived.WideKeyRuns
import Derived.WideLaws
import Derived.Test.YtkiepfhcnicfgaaPart7
set_option linter.all false
set_option linter.unusedVariables false
namespace Go.AL
open Go.Proofs
set_option maxRecDepth 10000
attribute [local irreducible] AWp AList RStep seqQ blockQ retQ DSteps DT DU DM DZ awR rQ SStep letterB digitB preB nameOk anyB rightL checkI
set_option maxHeartbeats 8000000 in
theorem right21_c {f : List Cap} {hi : Int} {n0 : Nat} (hF : Fo OwnN n0 0 hi f) (hf : f.length ≤ 1048576) (hhi : hi ≤ 65536) : ACalls Try.prog 21 [.c (.p (forestP f)), intsV (levelsM f), i64 hi] [] (fun q _ => q = .ret (bl true)) := by
  have hal := above_len f
  refine acalls_by Try.func21 Try.ntmps21 ?_
  simp only [argFr]
  repeat' (first
    | (show lMakeSlice; refine k_makeM (n := f.length + 1) (f := encI1) 0 ?_)
    | (show lOp; refine op0 (by first | (show kAssign; exact b_assign) | (show kMove; exact b_move) | (show kCall; first | exact b_call ((above_c f hf)) | exact m_lenSl) | (show kBinopAdd; exact b_add)) ?_)
    | (show lNil; refine al_nil ?_)
    | (show qSeq; refine n_seq ?_)
    | (show cReg; refine aw_reg ?_)
    | (show cSeq; refine aw_seq ?_)
    | (show cBlk; refine aw_block ?_))
  refine aw_roundsP (ι := Nat) 1 (fun i => [.arr 3 1 ((endsM f i).map encI1)]) (fun i n => [(0, .c (.p (forestP f))), (2, i64 hi), (7, intsV (aboveM f)), (8, .c (.ms 0 (f.length + 1))), (9, i64 (i : Int))]) (fun _ _ => []) (fun i => i ≤ f.length) (fun i => f.length - i) 0 1 (fun _ => rfl) (Nat.zero_le _) (by omega) (by simp) rfl rfl (by simp [Fr.get]) ?_
  intro i n g h1 hg
  have hg1 : 1 + g.length = n := by simp at hg; omega
  clear hg
  by_cases hi' : i < f.length
  · have hno := node_at hF hi'
    have hab := above_at f hi'
    obtain ⟨t0, t1⟩ := hno.top
    have o1 := hno.frm
    have o2 := hno.til
    have o3 := hno.size
    have o4 := hno.last
    have o5 := hno.inn
    have hown := ownN32_c (at' f (i : Int)).name hno.name
    have hel := last_len f i
    rw [← hab] at t0 t1 o4 o5
    have esub : at' (aboveM f) (i : Int) + 1 - 1 = at' (aboveM f) (i : Int) := by omega
    have henext : (endsM f i).set (at' (aboveM f) (i : Int) + 1).toNat (at' f (i : Int)).til = endsM f (i + 1) := by rw [hab]; rfl
    rw [← esub] at o5
    by_cases hp : at' (aboveM f) (i : Int) + 1 > 0
    · obtain ⟨o6, o7⟩ := o5 (by omega)
      repeat' (first
        | (refine aw_T ?_ (hb := decide_eq_true (show (i : Int) < f.length by omega)))
        | (show lAlloc; refine k_alloc ?_)
        | (show lStore; first | refine k_storeElM (i := (at' (aboveM f) (i : Int) + 1).toNat) (f := encI1) (at' f (i : Int)).til ?_ | refine k_store ?_)
        | (show lOp; refine op0 (by first | (show kAssign; exact b_assign) | (show kMove; exact b_move) | (show kCall; first | exact b_call (hown) | exact m_lenSl) | (show kLoad; first | exact b_loadRp | exact b_loadPtr) | (show kFieldaddr; exact b_fieldPtr) | (show kIndexaddr; first | exact m_indexSl | exact m_indexMs) | (show kBinopAdd; exact b_add) | (show kBinopLss; exact b_lss) | (show kBinopGtr; exact b_gtr) | (show kPick; first | exact b_pickT | exact b_pickF) | (show kUnopNot; exact b_not)) ?_)
        | (show lGu; first | refine al_yes ?_ | refine al_none ?_ | refine al_splitD (fun h => ?_) (fun h => ?_))
        | (show lNil; refine al_nil ?_)
        | (show qSeq; first | refine n_seq ?_ | refine p_seq ?_)
        | (show qBlk; first | refine n_block ?_ | refine p_block ?_)
        | (show cReg; refine aw_reg ?_)
        | (show cSeq; refine aw_seq ?_)
        | (show cBlk; refine aw_block ?_)
        | (show cSkip; refine aw_skip ?_)
        | (show cRet; refine aw_ret ?_)
        | (show cIf; first | refine aw_T ?_ | refine aw_ifD (fun h => ?_) (fun h => ?_))
        | (show cRegD; refine aw_drN Try_mixed ?_)
        | (show dOp; refine ds_op (by first | (show kMove; exact b_move) | (show kBinopGtr; exact b_gtr) | (show kPick; exact b_pickT)) ?_)
        | (show dGu; first | refine ds_none ?_ | (refine ds_yes (by first | (show kMove; exact b_move) | (show kLoad; first | exact b_loadRp | exact b_loadPtr | exact m_loadEpt) | (show kFieldaddr; first | exact b_fieldRp | exact b_fieldPtr) | (show kIndexaddr; first | exact m_indexSl | exact m_indexMs) | (show kBinopSub; exact b_sub) | (show kBinopLss; exact b_lss) | (show kBinopGtr; exact b_gtr) | (show kPick; first | exact b_pickT | exact b_pickF)) ?_) | refine ds_splitD (fun h => ?_) (fun h => ?_))
        | (show dNil; refine ds_nil ?_)
        | (show eRet; refine ret1 Try.results21 ?_)
        | (exfalso; omega))
      all_goals first
        | exact ⟨i + 1, n + 1, by omega, by omega, by simp; omega, by rw [← henext]; rfl, dropGP (p := 1) (j := 1) hg1 rfl rfl, by simp [Fr.get], by omega⟩
        | (exfalso; omega)
    · repeat' (first
        | (refine aw_T ?_ (hb := decide_eq_true (show (i : Int) < f.length by omega)))
        | (show lAlloc; refine k_alloc ?_)
        | (show lStore; first | refine k_storeElM (i := (at' (aboveM f) (i : Int) + 1).toNat) (f := encI1) (at' f (i : Int)).til ?_ | refine k_store ?_)
        | (show lOp; refine op0 (by first | (show kAssign; exact b_assign) | (show kMove; exact b_move) | (show kCall; first | exact b_call (hown) | exact m_lenSl) | (show kLoad; first | exact b_loadRp | exact b_loadPtr) | (show kFieldaddr; exact b_fieldPtr) | (show kIndexaddr; first | exact m_indexSl | exact m_indexMs) | (show kBinopAdd; exact b_add) | (show kBinopLss; exact b_lss) | (show kBinopGtr; exact b_gtr) | (show kPick; first | exact b_pickT | exact b_pickF) | (show kUnopNot; exact b_not)) ?_)
        | (show lGu; first | refine al_yes ?_ | refine al_none ?_ | refine al_splitD (fun h => ?_) (fun h => ?_))
        | (show lNil; refine al_nil ?_)
        | (show qSeq; first | refine n_seq ?_ | refine p_seq ?_)
        | (show qBlk; first | refine n_block ?_ | refine p_block ?_)
        | (show cReg; refine aw_reg ?_)
        | (show cSeq; refine aw_seq ?_)
        | (show cBlk; refine aw_block ?_)
        | (show cSkip; refine aw_skip ?_)
        | (show cRet; refine aw_ret ?_)
        | (show cIf; first | refine aw_T ?_ | refine aw_ifD (fun h => ?_) (fun h => ?_))
        | (show cRegD; refine aw_drN Try_mixed ?_)
        | (show dOp; refine ds_op (by first | (show kMove; exact b_move) | (show kBinopGtr; exact b_gtr) | (show kPick; exact b_pickF)) ?_)
        | (show dGu; first | refine ds_none ?_ | refine ds_noneU ?_ | (refine ds_yes (by first | (show kMove; exact b_move) | (show kLoad; first | exact b_loadPtr | exact m_loadEpt) | (show kFieldaddr; exact b_fieldPtr) | (show kIndexaddr; exact m_indexMs) | (show kBinopLss; exact b_lss)) ?_))
        | (show dNil; refine ds_nil ?_)
        | (show eRet; refine ret1 Try.results21 ?_)
        | (exfalso; omega))
      all_goals first
        | exact ⟨i + 1, n + 1, by omega, by omega, by simp; omega, by rw [← henext]; rfl, dropGP (p := 1) (j := 1) hg1 rfl rfl, by simp [Fr.get], by omega⟩
        | (exfalso; omega)
  · have : i = f.length := by omega
    subst this
    repeat' (first
      | (refine aw_F ?_ (hb := decide_eq_false (show ¬(f.length : Int) < f.length by omega)))
      | (show lOp; refine op0 (by first | (show kAssign; exact b_assign) | (show kMove; exact b_move) | (show kCall; exact m_lenSl) | (show kBinopLss; exact b_lss)) ?_)
      | (show lNil; refine al_nil ?_)
      | (show qSeq; first | refine n_seq ?_ | refine x_seq ?_)
      | (show qBlk; refine x_eq ?_)
      | (show cReg; refine aw_reg ?_)
      | (show cSeq; refine aw_seq ?_)
      | (show cExit; refine aw_exit ?_)
      | (show cRet; refine aw_ret ?_)
      | (show eRet; refine ret1 Try.results21 ?_))
    rfl
theorem check10_c {f : List Cap} {hi : Int} {n0 : Nat} (hF : Fo OwnN n0 0 hi f) (hf : f.length ≤ 1048576) (hhi : hi ≤ 65536) : ACalls Try.prog 10 [.c (.p (forestP f)), i64 hi] [] (fun q _ => q = .ret (i64 0)) := by
  have h0 := hF.le
  refine acalls_by Try.func10 Try.ntmps10 ?_
  simp only [argFr]
  repeat' (first
    | (show lOp; refine op0 (by first | (show kAssign; exact b_assign) | (show kMove; exact b_move) | (show kCall; first | exact b_call ((levels_c hF hf)) | exact b_call ((right21_c hF hf hhi)) | exact m_lenSl) | (show kBinopLss; exact b_lss) | (show kBinopGtr; exact b_gtr) | (show kPick; first | exact b_pickT | exact b_pickF) | (show kUnopNot; exact b_not) | (show kExtract; exact b_extract)) ?_)
    | (show lGu; first | refine al_yes ?_ | refine al_none ?_ | refine al_splitD (fun h => ?_) (fun h => ?_))
    | (show lNil; refine al_nil ?_)
    | (show qSeq; first | refine n_seq ?_ | refine p_seq ?_)
    | (show cReg; refine aw_reg ?_)
    | (show cSeq; refine aw_seq ?_)
    | (show cSkip; refine aw_skip ?_)
    | (show cRet; refine aw_ret ?_)
    | (show cIf; first | refine aw_T ?_ | refine aw_F ?_ | refine aw_ifD (fun h => ?_) (fun h => ?_))
    | (show eRet; refine ret1 Try.results10 ?_)
    | (exfalso; omega))
  all_goals first | rfl | (exfalso; omega)
end Go.AL
set_option linter.unusedVariables false
namespace Go.AL
open Go.Proofs
set_option maxRecDepth 10000
attribute [local irreducible] AWp AList RStep seqQ blockQ retQ DSteps DT DU DM DZ awR rQ SStep letterB digitB preB nameOk anyB rightL checkI
theorem within_heavy (c : Core) (hc : CoreBig c) (hh : heavyB c = true) (input : ByteArray) (D S : Int) : ACalls Try.prog 4 [coreV c, strA input, .agg [.p (lI D), .p (lI S)]] [] (fun q _ => q = .ret (bl true)) := by
  have h9 := heavy_c c hc
  rw [hh] at h9
  refine acalls_by Try.func4 Try.ntmps4 ?_
  simp only [argFr]
  repeat' (first
    | (show lBox; refine k_box ?_)
    | (show lOp; refine op0 (by first | (show kAssign; exact b_assign) | (show kCall; first | exact b_call (works_c) | exact b_call (h9)) | (show kLoad; exact b_loadPtr) | (show kUnopNot; exact b_not)) ?_)
    | (show lNil; refine al_nil ?_)
    | (show qSeq; first | refine n_seq ?_ | refine p_seq ?_)
    | (show cReg; refine aw_reg ?_)
    | (show cSeq; refine aw_seq ?_)
    | (show cSkip; refine aw_skip ?_)
    | (show cRet; refine aw_ret ?_)
    | (show cIf; first | refine aw_T ?_ | refine aw_F ?_)
    | (show eRet; refine ret1 Try.results4 ?_))
  rfl
theorem within_bad (c : Core) (hc : CoreBig c) (hh : heavyB c = false) (input : ByteArray) (D S code : Int) (hcode : code ≠ 0)
    (h1 : ACalls Try.prog 7 [coreV c, strA input, .agg [.p (lI D), .p (lI S)]] [] (fun q _ => q = .ret (.tup [zeroOV, usedV 0 0, i64 code]))) :
    ACalls Try.prog 4 [coreV c, strA input, .agg [.p (lI D), .p (lI S)]] [] (fun q _ => q = .ret (bl true)) := by
  have h9 := heavy_c c hc
  rw [hh] at h9
  refine acalls_by Try.func4 Try.ntmps4 ?_
  simp only [argFr]
  repeat' (first
    | (refine aw_T ?_ (hb := decide_eq_true hcode))
    | (show lAlloc; refine k_alloc ?_)
    | (show lBox; refine k_box ?_)
    | (show lStore; refine k_store ?_)
    | (show lOp; refine op0 (by first | (show kAssign; exact b_assign) | (show kMove; exact b_move) | (show kCall; first | exact b_call (works_c) | exact b_call (h9) | exact b_call (h1) | exact b_lenNil) | (show kLoad; exact b_loadPtr) | (show kFieldaddr; exact b_fieldPtr) | (show kBinopEql; first | exact b_eql | exact b_eqlAgg) | (show kBinopNeq; exact b_neq) | (show kPick; exact b_pickT) | (show kUnopNot; exact b_not) | (show kExtract; exact b_extract) | (show kBuild; exact b_buildSt)) ?_)
    | (show lGu; refine al_yes ?_)
    | (show lNil; refine al_nil ?_)
    | (show qSeq; first | refine n_seq ?_ | refine p_seq ?_)
    | (show cReg; refine aw_reg ?_)
    | (show cSeq; refine aw_seq ?_)
    | (show cSkip; refine aw_skip ?_)
    | (show cRet; refine aw_ret ?_)
    | (show cIf; refine aw_F ?_)
    | (show eRet; refine ret1 Try.results4 ?_))
  rfl
theorem within_ok (c : Core) (hc : CoreBig c) (hh : heavyB c = false) (input : ByteArray) (D S ud us : Int) (o : Out) (hf : o.forest.length ≤ 1048576) (hin : input.size ≤ 65536) (hfin : 0 ≤ o.fin ∧ o.fin ≤ input.size) (hd : 1 ≤ ud ∧ ud ≤ D) (hs : 1 ≤ us ∧ us ≤ S) (hg : Good OwnN 0 o)
    (h1 : ACalls Try.prog 7 [coreV c, strA input, .agg [.p (lI D), .p (lI S)]] [] (fun q _ => q = .ret (.tup [outV o, usedV ud us, i64 0]))) :
    ACalls Try.prog 4 [coreV c, strA input, .agg [.p (lI D), .p (lI S)]] [] (fun q _ => q = .ret (bl true)) := by
  have h9 := heavy_c c hc
  rw [hh] at h9
  obtain ⟨kind, fin, label, forest⟩ := o
  obtain ⟨g0, g1, g2, g3⟩ := hg
  dsimp only at hf hfin g0 g1 g2 g3
  rcases g0 with rfl | rfl | rfl
  · obtain ⟨rfl, rfl, rfl⟩ := g1 rfl
    refine acalls_by Try.func4 Try.ntmps4 ?_
    simp only [argFr]
    repeat' (first
      | (refine aw_F ?_ (hb := decide_eq_false (show ¬(0 : Int) ≠ 0 by omega)))
      | (show lAlloc; refine k_alloc ?_)
      | (show lBox; refine k_box ?_)
      | (show lStore; refine k_store ?_)
      | (show lOp; refine op0 (by first | (show kAssign; exact b_assign) | (show kMove; exact b_move) | (show kCall; first | exact b_call (works_c) | exact b_call (h9) | exact b_call (h1) | exact m_lenSl | exact b_lenStr) | (show kLoad; exact b_loadPtr) | (show kFieldaddr; exact b_fieldPtr) | (show kBinopEql; first | exact b_eql | exact b_strEql) | (show kBinopNeq; exact b_neq) | (show kBinopLss; exact b_lss) | (show kBinopGtr; exact b_gtr) | (show kPick; first | exact b_pickT | exact b_pickF) | (show kUnopNot; exact b_not) | (show kExtract; exact b_extract)) ?_)
      | (show lGu; first | refine al_yes ?_ | refine al_none ?_ | refine al_noneU ?_ | refine al_splitD (fun h => ?_) (fun h => ?_))
      | (show lNil; refine al_nil ?_)
      | (show qSeq; first | refine n_seq ?_ | refine p_seq ?_)
      | (show cReg; refine aw_reg ?_)
      | (show cSeq; refine aw_seq ?_)
      | (show cSkip; refine aw_skip ?_)
      | (show cRet; refine aw_ret ?_)
      | (show cIf; refine aw_T ?_)
      | (show eRet; refine ret1 Try.results4 ?_)
      | (exfalso; omega))
    all_goals first | rfl | (exfalso; omega)
  · obtain ⟨rfl, n, hF⟩ := g2 rfl
    have h10 := check10_c hF hf (by omega)
    refine acalls_by Try.func4 Try.ntmps4 ?_
    simp only [argFr]
    repeat' (first
      | (refine aw_F ?_ (hb := decide_eq_false (show ¬(0 : Int) ≠ 0 by omega)))
      | (show lAlloc; refine k_alloc ?_)
      | (show lBox; refine k_box ?_)
      | (show lStore; refine k_store ?_)
      | (show lOp; refine op0 (by first | (show kAssign; exact b_assign) | (show kMove; exact b_move) | (show kCall; first | exact b_call (works_c) | exact b_call (h9) | exact b_call (h1) | exact b_call (h10) | exact b_lenStr) | (show kLoad; exact b_loadPtr) | (show kFieldaddr; exact b_fieldPtr) | (show kBinopEql; first | exact b_eql | exact b_strEql) | (show kBinopNeq; exact b_neq) | (show kBinopLss; exact b_lss) | (show kBinopGtr; exact b_gtr) | (show kPick; first | exact b_pickT | exact b_pickF) | (show kUnopNot; exact b_not) | (show kExtract; exact b_extract)) ?_)
      | (show lGu; first | refine al_yes ?_ | refine al_none ?_ | refine al_splitD (fun h => ?_) (fun h => ?_))
      | (show lNil; refine al_nil ?_)
      | (show qSeq; first | refine n_seq ?_ | refine p_seq ?_)
      | (show cReg; refine aw_reg ?_)
      | (show cSeq; refine aw_seq ?_)
      | (show cSkip; refine aw_skip ?_)
      | (show cRet; refine aw_ret ?_)
      | (show cIf; first | refine aw_T ?_ | refine aw_ifD (fun h => ?_) (fun h => ?_))
      | (show eRet; refine ret1 Try.results4 ?_)
      | (exfalso; omega))
    all_goals first | rfl | (exfalso; omega)
  · obtain ⟨hl, rfl⟩ := g3 rfl
    refine acalls_by Try.func4 Try.ntmps4 ?_
    simp only [argFr]
    repeat' (first
      | (refine aw_F ?_ (hb := decide_eq_false (show ¬(0 : Int) ≠ 0 by omega)))
      | (show lAlloc; refine k_alloc ?_)
      | (show lBox; refine k_box ?_)
      | (show lStore; refine k_store ?_)
      | (show lOp; refine op0 (by first | (show kAssign; exact b_assign) | (show kMove; exact b_move) | (show kCall; first | exact b_call (works_c) | exact b_call (h9) | exact b_call (h1) | exact m_lenSl | exact b_lenStr) | (show kLoad; exact b_loadPtr) | (show kFieldaddr; exact b_fieldPtr) | (show kBinopEql; exact b_eql) | (show kBinopNeq; first | exact b_neq | exact b_strNeq) | (show kBinopLss; exact b_lss) | (show kBinopGtr; exact b_gtr) | (show kPick; first | exact b_pickT | exact b_pickF) | (show kUnopNot; exact b_not) | (show kExtract; exact b_extract)) ?_)
      | (show lGu; first | refine al_yes ?_ | refine al_none ?_ | refine al_splitD (fun h => ?_) (fun h => ?_))
      | (show lNil; refine al_nil ?_)
      | (show qSeq; first | refine n_seq ?_ | refine p_seq ?_)
      | (show cReg; refine aw_reg ?_)
      | (show cSeq; refine aw_seq ?_)
      | (show cSkip; refine aw_skip ?_)
      | (show cRet; refine aw_ret ?_)
      | (show cIf; first | refine aw_T ?_ | refine aw_ifD (fun h => ?_) (fun h => ?_))
      | (show eRet; refine ret1 Try.results4 ?_)
      | (exfalso; omega))
    all_goals first | rfl | (exfalso; omega) | exact congrArg (fun q => CE.ret (bl q)) (decide_eq_true hl)
theorem names_right {c : Core} (hR : Right c) (r n : Int) : ((at' (at' c.rules r).body n).op = 3 → (at' (at' c.rules r).body n).name ≠ ⟨#[]⟩) ∧ ((at' (at' c.rules r).body n).op = 8 → OwnN (at' (at' c.rules r).body n).name) := by
  have key : ∀ (rules : Int) (b : List Node) (d : Int), rightL rules b d = true → ∀ nd ∈ b, nd.op = 3 ∨ nd.op = 8 → nameOk nd.name = true ∧ anyB nd.name = false := by
    intro rules b
    induction b with
    | nil => intro d _ nd h; cases h
    | cons a l ih =>
      intro d h nd hn hop
      simp only [rightL, Bool.and_eq_true] at h
      rcases List.mem_cons.1 hn with rfl | hn
      · exact (of_decide_eq_true h.1).2.2.2.2.1 hop
      · exact ih _ h.2 nd hn hop
  have hdef : (default : Node).op = 0 := rfl
  have hd : ∀ nd : Node, nd.op = 0 → (nd.op = 3 → nd.name ≠ ⟨#[]⟩) ∧ (nd.op = 8 → OwnN nd.name) := fun nd h => ⟨fun q => by omega, fun q => by omega⟩
  rw [at'_nat c.rules r, at'_nat _ n]
  by_cases hr : r.toNat < c.rules.length
  · have hm := at'_memI (l := c.rules) (x := (r.toNat : Int)) (by omega) (by omega)
    by_cases hk : n.toNat < (at' c.rules (r.toNat : Int)).body.length
    · have hm2 := at'_memI (l := (at' c.rules (r.toNat : Int)).body) (x := (n.toNat : Int)) (by omega) (by omega)
      have hk' := key _ _ _ (hR.right _ hm) _ hm2
      refine ⟨fun q e => ?_, fun q => ?_⟩
      · have h1 := (hk' (.inl q)).1
        rw [e] at h1
        unfold nameOk at h1
        exact (of_decide_eq_true h1).1 rfl
      · obtain ⟨h1, h2⟩ := hk' (.inr q)
        exact own_of h1 h2
    · rw [at'_out hk]; exact hd _ hdef
  · rw [at'_out hr, show (default : Rule).body = [] from rfl, at'_out (by simp)]; exact hd _ hdef
/-- GrowWithin, of every input. -/
theorem growWithin_c (c : Core) (hc : CoreBig c) (input : ByteArray) (D S : Int) :
    ACalls Try.prog 4 [coreV c, strA input, .agg [.p (lI D), .p (lI S)]] [] (fun q _ => q = .ret (bl true)) := by
  cases hh : heavyB c with
  | true => exact within_heavy c hc hh input D S
  | false =>
    rcases run_all (hc.light hh) hc.cls input with ⟨code, h0, h⟩ | ⟨hk, hs, hl, hin, hok, hst⟩
    · exact within_bad c hc hh input D S code h0 (h D S)
    · have cD : clampI D 32768 = min (max D 0) 32768 := rfl
      have cS : clampI S 1048576 = min (max S 0) 1048576 := rfl
      have hR := right_of hk
      have hwf := wf_right hR hl input D S hin
      have hst0 := hR.start
      cases he : evalD (envM c hs input D S) (clampI D 32768).toNat c.start (lastOf (envM c hs input D S) c.start) 0 ⟨0, 0, []⟩ with
      | stop code s' => exact within_bad c hc hh input D S code (evalD_code _ _ _ _ _ _ _ _ he) (hst D S code s' he)
      | ok o s' =>
        have hb := hwf.body c.start hst0.1 hst0.2
        obtain ⟨g1, g2, g3⟩ := evalD_ok hwf _ _ _ _ hst0.1 hst0.2 (by simp only [lastOf]; omega) (by simp only [lastOf]; omega) (Int.le_refl 0) (by omega) ⟨0, 0, []⟩ o s' ⟨⟨Int.le_refl _, by show (0 : Int) ≤ clampI S 1048576; omega⟩, ⟨Int.le_refl _, by show (0 : Int) ≤ 32768; omega⟩, fun p hp => (by cases hp)⟩ he
        have gs : s'.us ≤ clampI S 1048576 := g2.us.2
        have gf : o.forest.length ≤ 1048576 := g1.caps.1
        have hmo := evalD_mo _ _ _ _ _ _ _ _ he
        have hmo1 : (0 : Int) < s'.us := hmo.1
        have hmo2 : clampI D 32768 - ((((clampI D 32768).toNat : Nat) : Int) - 1) ≤ s'.ud := hmo.2.2
        have hne : (clampI D 32768).toNat ≠ 0 := by
          intro e
          rw [e] at he
          cases he
        have hud : s'.ud ≤ clampI D 32768 := by
          have hag := evalD_ag (envM c hs input D S) (clampI D 32768) (clampI S 1048576) (clampI D 32768).toNat (clampI D 32768).toNat c.start (lastOf (envM c hs input D S) c.start) 0 rfl ⟨0, 0, []⟩ o s' (by show (0 : Int) ≤ clampI S 1048576; omega) (by show (0 : Int) ≤ clampI D 32768; omega) he
          rcases hag with ⟨w1, _, _⟩ | ⟨code, s2, he2, _⟩
          · exact w1
          · have he2 : evalD (envM c hs input D S) (clampI D 32768).toNat c.start (lastOf (envM c hs input D S) c.start) 0 ⟨0, 0, []⟩ = .stop code s2 := he2
            rw [he] at he2
            cases he2
        have hgood := (evalD_good (N := OwnN) (envM c hs input D S) (names_right hR) _ c.start (lastOf (envM c hs input D S) c.start) 0 ⟨0, 0, []⟩ o s' (fun p hp => (by cases hp)) he).1
        exact within_ok c hc hh input D S s'.ud s'.us o gf hin g1.fin ⟨by omega, by omega⟩ ⟨by omega, by omega⟩ hgood (hok D S o s' he)
end Go.AL
set_option linter.unusedVariables false
namespace Go.AL
open Go.Proofs Go.ChangeShapes Go.WideShapes Go.RowKit Go.ChangeAt Go.Deep
open Go.ChangeMaps (open_string shut_string)
set_option maxRecDepth 10000
/-! ### A grammar that came in -/
abbrev FW (W : World) : Nat → Nat → Prop := fun b k => b < W.heap.size
theorem weights_mem {H : Type} {P : Program} {e : TypeId} {p : Nat → Bool} {d : DataW H} : ∀ {l : List (DataW H)}, d ∈ l → (DataW.weightsAll P e l).all p = true → (DataW.weights P e d).all p = true
  | [], h, _ => by cases h
  | a :: l, h, hw => by
    simp only [DataW.weightsAll, List.all_append, Bool.and_eq_true] at hw
    rcases List.mem_cons.1 h with rfl | h
    · exact hw.1
    · exact weights_mem h hw.2
section
variable {H : Type} {enc : TypeId × Value → H} {W : World}
theorem sl_came {α : Type} [Inhabited α] (encA : α → List PV) (G : α → Prop) {t e : TypeId} {sz : Nat} (ht : Try.prog.underlying t = some (.slice e)) (hc : Try.prog.cellsOf e = sz) (hp : 0 < sz) (hb : 0 < Try.prog.bytesOf e)
    (one : ∀ n cs x, DataW.trod enc Try.prog W 0 (fun _ => true) true n e cs = some x → (DataW.weights Try.prog e x.1).all (· ≤ reachBytes) = true → ∃ p : α, cs.length = sz ∧ (encA p).length = sz ∧ (∀ (j : Nat) u y, cs[j]? = some u → (encA p)[j]? = some y → RP W (FW W) y u) ∧ G p)
    {fuel : Nat} {cs : List Value} {x : DataW H × List MemPlace} (h : DataW.trod enc Try.prog W 0 (fun _ => true) true fuel t cs = some x) (hw : (DataW.weights Try.prog t x.1).all (· ≤ reachBytes) = true) :
    ∃ (xs : List α) (v : Value), cs = [v] ∧ RP W (FW W) (.sl sz (xs.map encA)) v ∧ (∀ p ∈ xs, G p) ∧ xs.length ≤ reachBytes := by
  rcases open_slice ht h with ⟨rfl, rfl⟩ | ⟨a, len, cap, m, n, D, Pl, rfl, _, hl, _, hm, rfl, hel⟩
  · exact ⟨[], _, rfl, .sl0 .., by simp, by simp⟩
  · simp only [DataW.weights, ht, List.all_cons, List.all_append, Bool.and_eq_true] at hw
    obtain ⟨hw0, hw1, _⟩ := hw
    have hw0 := of_decide_eq_true hw0
    rw [List.length_map, List.length_range] at hw0
    have hlen : len ≤ reachBytes := by
      refine Nat.le_trans ?_ hw0
      exact Nat.le_trans (Nat.le_add_right _ _) (Nat.le_mul_of_pos_right _ hb)
    by_cases h0 : len = 0
    · subst h0; exact ⟨[], _, rfl, .sl0 .., by simp, by simp⟩
    have hm' : m = cap := by simpa using hm
    subst hm'
    have key : ∀ i, i < len → ∃ p : α × List Value, p.2.length = sz ∧ (encA p.1).length = sz ∧ (∀ (j : Nat) u, p.2[j]? = some u → W.cell? ((a.add (i * sz)).add j) = some u) ∧ (∀ (j : Nat) u y, p.2[j]? = some u → (encA p.1)[j]? = some y → RP W (FW W) y u) ∧ G p.1 := fun i hi => by
      obtain ⟨cs', g1, g2⟩ := hel i (by omega)
      obtain ⟨p, q1, q2, q3, q4⟩ := one _ _ _ g2 (weights_mem (List.mem_map.2 ⟨i, List.mem_range.2 hi, rfl⟩) hw1)
      rw [hc] at g1
      obtain ⟨_, _, g3⟩ := World.cells?_some g1
      refine ⟨(p, cs'), q1, q2, fun j u hj => ?_, q3, q4⟩
      have hlt : j < sz := by
        have := (List.getElem?_eq_some_iff.1 hj).1
        rw [q1] at this; exact this
      rw [g3 j hlt, hj]
    obtain ⟨V, hV⟩ := choose_lt key
    obtain ⟨b, o, sp⟩ := a
    have hs : sp = none := by
      obtain ⟨z1, z2, z3, z4, z5⟩ := hV 0 (by omega)
      have hz : (V 0).2[0]? = some ((V 0).2[0]'(by omega)) := List.getElem?_eq_getElem (by omega)
      have := z3 0 _ hz
      simp only [Nat.zero_mul, Addr.add, if_true, World.cell?] at this
      split at this
      · split at this
        · cases this
        · rename_i hn; simpa using hn
      · cases this
    subst hs
    have hV' : ∀ i, i < len → ∀ (j : Nat) u, (V i).2[j]? = some u → W.cell? ⟨b, o + (i * sz + j), none⟩ = some u := fun i hi j u hj => by
      have := (hV i hi).2.2.1 j u hj
      rw [add_add] at this
      rw [add_plain'] at this
      exact this
    have hll : (((List.range len).map fun i => (V i).1).map encA).length = len := by simp
    have hcell : ∀ j, j < len * sz → (V (j / sz)).2[j % sz]? = some ((V (j / sz)).2.getD (j % sz) undef) ∧ j / sz < len := fun j hj => by
      have h5 : j % sz < sz := Nat.mod_lt _ hp
      have h6 : j / sz < len := Nat.div_lt_of_lt_mul (by rw [Nat.mul_comm]; exact hj)
      have : j % sz < (V (j / sz)).2.length := by rw [(hV _ h6).1]; exact h5
      refine ⟨?_, h6⟩
      rw [List.getD_eq_getElem?_getD, List.getElem?_eq_getElem this]; rfl
    refine ⟨(List.range len).map fun i => (V i).1, _, rfl, ?_, fun p hp' => ?_, by simpa using hlen⟩
    · have key2 := RP.sl (w := W) (F := FW W) (b := b) (o := o) (cap := m) (sz := sz) (l := ((List.range len).map fun i => (V i).1).map encA) (fun j => (V (j / sz)).2.getD (j % sz) undef) (by rw [hll]; exact hl) (fun e he => ?_) (fun j hj => ?_) (fun j hj => ?_) (fun i e he j x hx => ?_)
      · rw [hll] at key2; exact key2
      · simp only [List.mem_map, List.mem_range] at he
        obtain ⟨p, ⟨i, hi, rfl⟩, rfl⟩ := he
        exact (hV i hi).2.1
      · rw [hll] at hj
        obtain ⟨h7, h6⟩ := hcell j hj
        have := hV' _ h6 _ _ h7
        exact World.block_lt_of_cell? W _ this
      · rw [hll] at hj
        obtain ⟨h7, h6⟩ := hcell j hj
        have := hV' _ h6 _ _ h7
        rw [show j / sz * sz + j % sz = j from Nat.div_add_mod' j sz] at this
        exact this
      · rw [List.getElem?_map, List.getElem?_map, Option.map_eq_some_iff] at he
        obtain ⟨p, hp', rfl⟩ := he
        rw [Option.map_eq_some_iff] at hp'
        obtain ⟨i', hi', rfl⟩ := hp'
        obtain ⟨hi3, hi4⟩ := List.getElem?_eq_some_iff.1 hi'
        rw [List.getElem_range] at hi4
        subst hi4
        have hi : i < len := by simpa using hi3
        obtain ⟨z1, z2, z3, z4, z5⟩ := hV i hi
        have hj5 : j < sz := by rw [← z2]; exact (List.getElem?_eq_some_iff.1 hx).1
        have e1 : (i * sz + j) / sz = i := by rw [Nat.mul_comm, Nat.mul_add_div hp, Nat.div_eq_of_lt hj5, Nat.add_zero]
        have e2 : (i * sz + j) % sz = j := by rw [Nat.mul_comm, Nat.mul_add_mod, Nat.mod_eq_of_lt hj5]
        rw [e1, e2]
        refine z4 j _ x ?_ hx
        rw [List.getD_eq_getElem?_getD, List.getElem?_eq_getElem (by omega)]; rfl
    · simp only [List.mem_map, List.mem_range] at hp'
      obtain ⟨i, hi, rfl⟩ := hp'
      exact (hV i hi).2.2.2.2
theorem okW_of {z : Int} (h : (Lit.int IntKind.u64 z).wf = true) : okW z := by
  simp only [Lit.wf] at h
  have e0 : IntKind.u64.min = 0 := by decide
  have e1 : IntKind.u64.max = 18446744073709551615 := by decide
  simp [e0, e1] at h
  exact ⟨by omega, by omega⟩
def okNode (n : Node) : Prop := okC' n.cl ∧ n.name.size ≤ reachBytes
def okRule (r : Rule) : Prop := r.name.size ≤ reachBytes ∧ r.body.length ≤ reachBytes ∧ ∀ n ∈ r.body, okNode n
theorem one_node (n : Nat) (cs : List Value) (x : DataW H × List MemPlace) (h : DataW.trod enc Try.prog W 0 (fun _ => true) true n 61 cs = some x) (hw : (DataW.weights Try.prog 61 x.1).all (· ≤ reachBytes) = true) :
    ∃ p : Node, cs.length = 7 ∧ (encNode p).length = 7 ∧ (∀ (j : Nat) u y, cs[j]? = some u → (encNode p)[j]? = some y → RP W (FW W) y u) ∧ okNode p := by
  have hc : Try.prog.cellsOf 61 = 7 := by kernel_rfl
  have hc3 : Try.prog.cellsOf 3 = 1 := by kernel_rfl
  have hc59 : Try.prog.cellsOf 59 = 4 := by kernel_rfl
  have hc23 : Try.prog.cellsOf 23 = 1 := by kernel_rfl
  have hc9 : Try.prog.cellsOf 9 = 1 := by kernel_rfl
  obtain ⟨y0, y1, y2, y3, m, rfl, hl, h0, h1, h2, h3⟩ := Joins.trod_struct4 Try.underlying61 h
  rw [hc] at hl
  obtain ⟨op, he, _⟩ := DataW.trod_int Try.underlying3 h0
  obtain ⟨ru, he2, _⟩ := DataW.trod_int Try.underlying3 h2
  obtain ⟨nm, he3, hx3, _⟩ := DataW.trod_string Try.underlying9 h3
  obtain ⟨xs, m', _, _, hl1, hxl, h1⟩ := DataW.trod_array Try.underlying59 h1
  match cs, hl with
  | [a, b0, b1, b2, b3, r0, s0], _ =>
    simp only [hc3, hc59, hc9, hc23, List.drop_zero, List.take_succ_cons, List.take_zero, List.drop_succ_cons, Nat.mul_one] at he he2 he3 h1
    have hu : ∀ i, i < 4 → ∀ v, ((([b0, b1, b2, b3] : List Value).drop i).take 1) = [v] → ∃ z, v = .int .u64 z ∧ okW z := fun i hi v hv => by
      have := h1 i hi
      rw [hv] at this
      rw [List.getElem?_eq_getElem (by omega)] at this
      obtain ⟨z, hz, _, hwf⟩ := DataW.trod_int Try.underlying23 this
      injection hz with hz
      exact ⟨z, hz, okW_of hwf⟩
    obtain ⟨z0, rfl, w0⟩ := hu 0 (by omega) b0 rfl
    obtain ⟨z1, rfl, w1⟩ := hu 1 (by omega) b1 rfl
    obtain ⟨z2, rfl, w2⟩ := hu 2 (by omega) b2 rfl
    obtain ⟨z3, rfl, w3⟩ := hu 3 (by omega) b3 rfl
    injection he with he _
    injection he2 with he2 _
    injection he3 with he3 _
    subst he
    subst he2
    subst he3
    refine ⟨⟨op, ⟨z0, z1, z2, z3⟩, ru, nm⟩, rfl, rfl, fun j u y hj hy => ?_, ⟨w0, w1, w2, w3⟩, ?_⟩
    · match j, hj, hy with
      | 0, hj, hy => injection hj with hj; injection hy with hy; subst hj; subst hy; exact .lit rfl
      | 1, hj, hy => injection hj with hj; injection hy with hy; subst hj; subst hy; exact .lit rfl
      | 2, hj, hy => injection hj with hj; injection hy with hy; subst hj; subst hy; exact .lit rfl
      | 3, hj, hy => injection hj with hj; injection hy with hy; subst hj; subst hy; exact .lit rfl
      | 4, hj, hy => injection hj with hj; injection hy with hy; subst hj; subst hy; exact .lit rfl
      | 5, hj, hy => injection hj with hj; injection hy with hy; subst hj; subst hy; exact .lit rfl
      | 6, hj, hy => injection hj with hj; injection hy with hy; subst hj; subst hy; exact .lit rfl
      | n + 7, hj, _ => cases hj
    · subst hx3
      simp only [DataW.weights, Try.underlying61, DataW.weightsEach, Array.toList_map, List.map_cons, List.map_nil, List.all_append, Bool.and_eq_true, List.all_cons] at hw
      have hz := of_decide_eq_true hw.2.2.2.1.1
      simpa using hz
theorem one_rule (n : Nat) (cs : List Value) (x : DataW H × List MemPlace) (h : DataW.trod enc Try.prog W 0 (fun _ => true) true n 57 cs = some x) (hw : (DataW.weights Try.prog 57 x.1).all (· ≤ reachBytes) = true) :
    ∃ p : Rule, cs.length = 2 ∧ (encRule p).length = 2 ∧ (∀ (j : Nat) u y, cs[j]? = some u → (encRule p)[j]? = some y → RP W (FW W) y u) ∧ okRule p := by
  have hc : Try.prog.cellsOf 57 = 2 := by kernel_rfl
  have hc55 : Try.prog.cellsOf 55 = 1 := by kernel_rfl
  have hc9 : Try.prog.cellsOf 9 = 1 := by kernel_rfl
  obtain ⟨y0, y1, m, rfl, hl, h0, h1⟩ := trod_struct2 Try.underlying57 h
  rw [hc] at hl
  obtain ⟨nm, he, hx0, _⟩ := DataW.trod_string Try.underlying9 h0
  simp only [DataW.weights, Try.underlying57, DataW.weightsEach, List.map_cons, List.map_nil, List.all_append, Bool.and_eq_true, List.all_cons] at hw
  match cs, hl with
  | [a, b], _ =>
    simp only [hc9, hc55, List.drop_zero, List.take_succ_cons, List.take_zero, List.drop_succ_cons] at he h1
    injection he with he _
    subst he
    obtain ⟨xs, v, hv, hrp, hG, hlen⟩ := sl_came encNode okNode Try.underlying55 (by kernel_rfl) (by decide) (by rw [show Try.prog.bytesOf 61 = 64 from by kernel_rfl]; decide) one_node h1 hw.2.1
    injection hv with hv _
    subst hv
    refine ⟨⟨nm, xs⟩, rfl, rfl, fun j u y hj hy => ?_, ?_, hlen, hG⟩
    · match j, hj, hy with
      | 0, hj, hy => injection hj with hj; injection hy with hy; subst hj; subst hy; exact .lit rfl
      | 1, hj, hy => injection hj with hj; injection hy with hy; subst hj; subst hy; exact hrp
      | n + 2, hj, _ => cases hj
    · subst hx0
      have hw1 := hw.1
      simp only [DataW.weights, List.all_cons, Bool.and_eq_true] at hw1
      have hz := of_decide_eq_true hw1.1
      simpa using hz
theorem core_came {v : Value} {r : Reach} {b0 : Nat} {d : DataW H} {ps : List MemPlace} (hval : Value.okWide Try.prog W r b0 35 v) (h : DataW.Trod enc Try.prog W 0 (fun _ => true) true 35 v d ps) (hw : (DataW.weights Try.prog 35 d).all (· ≤ reachBytes) = true) :
    ∃ c : Core, RV [] W (FW W) (coreV c) v ∧ c.rules.length ≤ reachBytes ∧ ∀ r ∈ c.rules, okRule r := by
  have hc : Try.prog.cellsOf 35 = 2 := by kernel_rfl
  have hc33 : Try.prog.cellsOf 33 = 1 := by kernel_rfl
  have hc3 : Try.prog.cellsOf 3 = 1 := by kernel_rfl
  obtain ⟨fuel, h⟩ := h
  unfold Value.okWide at hval
  rw [Try.underlying35] at hval
  obtain ⟨cs, rfl, hsz, _⟩ := hval
  obtain ⟨y0, y1, m, hx, hl, h0, h1⟩ := trod_struct2 Try.underlying35 h
  injection hx with hx _
  subst hx
  simp only [DataW.weights, Try.underlying35, DataW.weightsEach, List.map_cons, List.map_nil, List.all_append, Bool.and_eq_true] at hw
  obtain ⟨l⟩ := cs
  simp only [Value.cells] at hl h0 h1
  rw [hc] at hl
  match l, hl with
  | [a, b], _ =>
    simp only [hc3, hc33, List.drop_zero, List.take_succ_cons, List.take_zero, List.drop_succ_cons] at h0 h1
    obtain ⟨z, hz, _⟩ := DataW.trod_int Try.underlying3 h1
    injection hz with hz _
    subst hz
    obtain ⟨xs, v, hv, hrp, hG, hlen⟩ := sl_came encRule okRule Try.underlying33 (by kernel_rfl) (by decide) (by rw [show Try.prog.bytesOf 57 = 40 from by kernel_rfl]; decide) one_rule h0 hw.1
    injection hv with hv _
    subst hv
    refine ⟨⟨xs, z⟩, ⟨_, rfl, rfl, fun j x hj => ?_⟩, hlen, hG⟩
    match j, hj with
    | 0, hj => injection hj with hj; subst hj; exact hrp
    | 1, hj => injection hj with hj; subst hj; exact RP.lit rfl
    | n + 2, hj => cases hj
theorem lim_came {v : Value} {r : Reach} {b0 : Nat} {d : DataW H} {ps : List MemPlace} (hval : Value.okWide Try.prog W r b0 37 v) (h : DataW.Trod enc Try.prog W 0 (fun _ => true) true 37 v d ps) :
    ∃ D S : Int, RV [] W (FW W) (.agg [.p (lI D), .p (lI S)]) v := by
  have hc : Try.prog.cellsOf 37 = 2 := by kernel_rfl
  have hc3 : Try.prog.cellsOf 3 = 1 := by kernel_rfl
  obtain ⟨fuel, h⟩ := h
  unfold Value.okWide at hval
  rw [Try.underlying37] at hval
  obtain ⟨cs, rfl, hsz, _⟩ := hval
  obtain ⟨y0, y1, m, hx, hl, h0, h1⟩ := trod_struct2 Try.underlying37 h
  obtain ⟨l⟩ := cs
  simp only [Value.cells] at hl h0 h1
  rw [hc] at hl
  match l, hl with
  | [a, b], _ =>
    simp only [hc3, List.drop_zero, List.take_succ_cons, List.take_zero, List.drop_succ_cons] at h0 h1
    obtain ⟨z, hz, _⟩ := DataW.trod_int Try.underlying3 h0
    obtain ⟨z', hz', _⟩ := DataW.trod_int Try.underlying3 h1
    injection hz with hz _
    subst hz
    injection hz' with hz' _
    subst hz'
    refine ⟨z, z', _, rfl, rfl, fun j x hj => ?_⟩
    match j, hj with
    | 0, hj => injection hj with hj; subst hj; exact RP.lit rfl
    | 1, hj => injection hj with hj; subst hj; exact RP.lit rfl
    | n + 2, hj => cases hj
end
theorem big_of {c : Core} (h1 : c.rules.length ≤ reachBytes) (h2 : ∀ r ∈ c.rules, okRule r) : CoreBig c := ⟨h1, h2⟩
end Go.AL
set_option linter.unusedVariables false
namespace Go.AL
open Go.Proofs Go.ChangeShapes Go.WideShapes Go.RowKit Go.ChangeAt Go.Deep
open Go.ChangeMaps (open_string shut_string)
set_option maxRecDepth 10000
theorem start_nil (W : World) : Inv [] (fun b k => b < W.heap.size) [] W := by
  have hfp : ∀ b k, ¬ FP [] [] b k := by
    rintro b k ⟨j, o, l, g1, g2, g3⟩
    cases j <;> cases g1
  refine ⟨rfl, fun b k hf => hf, fun b k hf => absurd hf (hfp b k), fun j o l g1 g2 => ?_, fun i j o l o' l' hne g1 _ g3 _ => ?_, fun b k hf hF => hfp b k hf⟩
  · cases j <;> cases g1
  · cases i <;> cases g1
/-! ### What the row asks -/
theorem post_below {H : Type} {enc : TypeId × Value → H} {P : Program} {f : Func} {s : ChangeSpec} {apart fresh handsOn again : Bool} {W W' : World} {args : Array Value} {v : Value} {ds gs : List (DataW H)} {before pa pv : List MemPlace}
    (hW : DataW.Whole enc P f.params.toList s.vars apart W args.toList ds gs before)
    (hres : ∀ (b : Nat) (sp : Nat → Bool) (hd : Bool), DataW.TrodAll enc P W' b sp hd f.resultTypes.toList (v.resultList f.resultTypes.size) (s.fn H (ds ++ gs)).results [])
    (hargs : ∀ sp : Nat → Bool, (∀ p ∈ before, sp p.block = true) → DataW.TrodAll enc P W' 0 sp true f.params.toList args.toList (s.fn H (ds ++ gs)).args pa)
    (hvars : ∀ sp : Nat → Bool, (∀ p ∈ before, sp p.block = true) → DataW.TrodVars enc P W' sp s.vars (s.fn H (ds ++ gs)).vars pv)
    (hps : before = pa ++ pv) (hb : Below W.heap.size W W')
    (hok : ∀ (j : Nat) (t : TypeId) (r : Value), f.resultTypes[j]? = some t → (v.resultList f.resultTypes.size)[j]? = some r → Value.okWide P W' .any 0 t r) :
    s.post enc P f apart fresh handsOn again W args v W' := by
  subst hps
  have hlt : ∀ p ∈ pa ++ pv, p.block < W.heap.size := fun p hp => hW.lt p hp
  refine ⟨ds, gs, pa ++ pv, [], pa, pv, hW, hres _ _ _, hargs _ fun p hp => by simpa using hlt p hp, hvars _ fun p hp => by simpa using hlt p hp, hb.frame _, fun _ => ?_⟩
  obtain ⟨_, _, _, _, _, hz, hn⟩ := hW
  refine ⟨hok, _, _, [] ++ pa ++ pv, ⟨[] ++ pa, pv, trodAll_append (hargs _ fun _ _ => rfl) (hres _ _ _), hvars _ fun _ _ => rfl, rfl, fun b off hp => ?_, fun ha => by simpa using hn ha⟩, fun p hp _ => by simpa using hp⟩
  have hp : MemPlace.cell b off ∈ pa ++ pv := by simpa using hp
  have hbl : b < W.heap.size := hlt _ hp
  rw [hb.frozen (p := ⟨b, off, none⟩) hbl]
  exact hz b off hp
theorem own : ownKnob Try.prog.godebug = none := by kernel_rfl
theorem laid_out : laidOutB Try.prog = true := by kernel_rfl
theorem stays {H : Type} {enc : TypeId × Value → H} {W W' : World} {t : TypeId} (ht : t = 35 ∨ t = 37 ∨ t = 9) {v : Value} {d : DataW H} {ps : List MemPlace} (h : DataW.Trod enc Try.prog W 0 (fun _ => true) true t v d ps) (hb : Below W.heap.size W W') (hlt : ∀ x ∈ ps, x.block < W.heap.size) {sp : Nat → Bool} (hs : ∀ x ∈ ps, sp x.block = true) : DataW.Trod enc Try.prog W' 0 sp true t v d ps := by
  rcases ht with rfl | rfl | rfl
  · exact WideElems.Trod_stays laid_out (by kernel_rfl) (of_decide_eq_true (by kernel_rfl)) h (fun x hx => hb.same (hlt x hx)) (fun x hx => hs x hx)
  · exact WideElems.Trod_stays laid_out (by kernel_rfl) (of_decide_eq_true (by kernel_rfl)) h (fun x hx => hb.same (hlt x hx)) (fun x hx => hs x hx)
  · exact WideElems.Trod_stays laid_out (by kernel_rfl) (of_decide_eq_true (by kernel_rfl)) h (fun x hx => hb.same (hlt x hx)) (fun x hx => hs x hx)
end Go.AL
set_option linter.unusedVariables false
namespace Go.AL
open Go.Proofs Go.ChangeShapes Go.WideShapes Go.RowKit Go.ChangeAt Go.Deep
open Go.ChangeMaps (open_string shut_string)
set_option maxRecDepth 10000
set_option maxRecDepth 100000 in
theorem liftedWithin (os : Os) (started : os.Started) (H : Type) (enc : TypeId × Value → H) :
    ReturnsInHanded {} Try.checked os 4 .any (Go.Proofs.Ytkiepfhcnicfgaa.Rows.growWithinSpec.pre6 enc Try.prog Try.f4 Go.Proofs.Ytkiepfhcnicfgaa.Rows.growWithinRow.domain false) (Go.Proofs.Ytkiepfhcnicfgaa.Rows.growWithinSpec.post enc Try.prog Try.f4 false true false false) := by
  refine returnsInHanded_of_change_sized (C := Try.checked) own started (by kernel_rfl) Try.func4
    (ChangeSpec.witness6 (enc := enc) (C := Try.checked) false ⟨#[], #[.agg #[.slice none 0 0, .int .i64 0], .string ⟨#[]⟩, .agg #[.int .i64 0, .int .i64 0]], []⟩ 8 (by kernel_rfl) (by kernel_rfl) (by kernel_rfl) (by kernel_rfl)) ?_
  intro W base args ds gs before hval0 hW _ hsz _
  have hval : ∀ (j : Nat) t v, Try.f4.params[j]? = some t → args[j]? = some v → Value.okWide Try.prog W .any base t v := hval0
  have hW' := hW
  obtain ⟨p, q, hA0, hV, rfl, _, _⟩ := hW
  have hA : DataW.TrodAll enc Try.prog W 0 (fun _ => true) true Try.f4.params.toList args.toList ds p := hA0
  rw [Try.params4] at hA hval
  obtain ⟨v0, vs0, d0, ds0, p0, q0, hargs, rfl, rfl, h0, r0⟩ := trodAll_cons hA
  obtain ⟨v1, vs1, d1, ds1, p1, q1, rfl, rfl, rfl, h1, r1⟩ := trodAll_cons r0
  obtain ⟨v2, vs2, d2, ds2, p2, q2, rfl, rfl, rfl, h2, r2⟩ := trodAll_cons r1
  obtain ⟨rfl, rfl, rfl⟩ := trodAll_nil r2
  obtain rfl : args = #[v0, v1, v2] := by cases args; simp_all
  obtain ⟨rfl, rfl⟩ := trodVars_none hV
  have hsz0 : (DataW.weights Try.prog 35 d0).all (· ≤ reachBytes) = true := by
    rw [Try.params4] at hsz
    simp only [DataW.weightsEach, List.cons_append, List.all_append, Bool.and_eq_true] at hsz
    exact hsz.1
  obtain ⟨c, hc, hcl, hcr⟩ := core_came (hval 0 35 v0 rfl rfl) h0 hsz0
  obtain ⟨s, rfl, _, _, hs⟩ := open_string Try.underlying9 (hval 1 9 v1 rfl rfl) h1
  obtain ⟨D, S, hl2⟩ := lim_came (hval 2 37 v2 rfl rfl) h2
  clear hA0 hval0
  simp only [List.append_nil] at hW'
  refine (growWithin_c c (big_of hcl hcr) s D S [] _ W #[v0, .string s, v2] (start_nil W) rfl (fun j x hj => ?_)).mono fun e W' he => ?_
  · match j, hj with
    | 0, hj => injection hj with hj; subst hj; exact hc
    | 1, hj => injection hj with hj; subst hj; exact RP.lit rfl
    | 2, hj => injection hj with hj; subst hj; exact hl2
    | j + 3, hj => cases hj
  · obtain ⟨m', F', σ', r, rfl, hr, hi', hst⟩ := he
    cases e with
    | panicked ch => exact hr.elim
    | outgrown => exact hr.elim
    | returned u =>
      have hu : u = .bool true := RP.eq_lit hr
      subst hu
      have hb : Below W.heap.size W W' := by
        refine ⟨hst.os, hst.tape, hst.output, hst.size, fun b hb => hst.blk b hb fun z ⟨j, o, l, g1, g2, g3⟩ => ?_⟩
        cases j <;> cases g1
      have hlt : ∀ x ∈ p0 ++ (p1 ++ p2), x.block < W.heap.size := fun x hx => hW'.lt x (by simpa using hx)
      refine ⟨_, rfl, post_below (pa := p0 ++ (p1 ++ p2)) (pv := []) hW' (fun _ _ _ => trodAll_cons_mk (shut_bool Try.underlying4 _) trodAll_mk0) (fun sp hs => ?_) (fun _ _ => rfl) (by simp) hb (ok_one (by kernel_rfl) rfl (okWide_bool_mk Try.underlying4 _))⟩
      have hs : ∀ x ∈ p0 ++ (p1 ++ p2), sp x.block = true := fun x hx => hs x (by simpa using hx)
      have k0 := stays (.inl rfl) h0 hb (fun x hx => hlt x (by simp [hx])) (fun x hx => hs x (by simp [hx]))
      have k1 := stays (.inr (.inr rfl)) h1 hb (fun x hx => hlt x (by simp [hx])) (fun x hx => hs x (by simp [hx]))
      have k2 := stays (.inr (.inl rfl)) h2 hb (fun x hx => hlt x (by simp [hx])) (fun x hx => hs x (by simp [hx]))
      have := trodAll_cons_mk k0 (trodAll_cons_mk k1 (trodAll_cons_mk k2 (trodAll_mk0 (enc := enc) (P := Try.prog) (w := W') (base := 0) (spare := sp) (held := true))))
      have h2 : DataW.TrodAll enc Try.prog W' 0 sp true [35, 9, 37] [v0, .string s, v2] [d0, d1, d2] (p0 ++ (p1 ++ p2)) := by simpa using this
      rw [Try.params4]
      exact h2
theorem saidWithin : Go.Proofs.Ytkiepfhcnicfgaa.Rows.GrowWithinSaid :=
  OpenClaim.holds_of_wide 4 Try.f4 rfl rfl rfl rfl rfl rfl rfl ⟨rfl, rfl, rfl, rfl, rfl⟩ rfl rfl rfl rfl rfl (by kernel_rfl) Try.func4 (by kernel_rfl)
    (of_decide_eq_true (by kernel_rfl)) (by unfold Func.isWrapper; first | (rw [if_pos (by decide +kernel)]; kernel_rfl) | (rw [if_neg (by decide +kernel)]; exact ⟨rfl, rfl⟩))
    (fun os started H enc _ => liftedWithin os started H enc)
end Go.AL
namespace Go.Proofs.Ytkiepfhcnicfgaa
theorem growWithin_holds : Rows.GrowWithinSaid := Go.AL.saidWithin
end Go.Proofs.Ytkiepfhcnicfgaa
