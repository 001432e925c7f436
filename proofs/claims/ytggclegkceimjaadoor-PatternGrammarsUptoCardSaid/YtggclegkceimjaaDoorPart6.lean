/-
  What is proved: for every pattern, the law dowellaw22.PatternGrammars answers true and leaves its argument as it read before: the program's Grammar and the document's come to the same error or to the same rules, twice over, and what the program answers shares no memory with anything. (The tied card of the second form.)
  Conditions: what the call reads is of bulk at most 1,048,576 (the second form's own bound; the proof doesn't use it); the three listed package-level tables of the standard library hold what the program's text lays there (the card ties that).
-/
import Derived.Below
import Derived.Carry
import Derived.ChangeKeysEq
import Derived.Deep.DeepHandedRow
import Derived.Deep.Draws
import Derived.Deep.Slices
import Derived.KernelRfl
import Derived.Laws.CopyRow
import Derived.Laws.Cover3
import Derived.Laws.IdiomCopy
import Derived.Laws.IdiomStrings
import Derived.Laws.OwnMore
import Derived.Laws.Rows
import Derived.Laws.Small
import Derived.Laws.StructEq
import Derived.Lib.AppendZeros
import Derived.Lib.LaidTab
import Derived.Maps.AppendAt
import Derived.OpenShut
import Derived.Orders
import Derived.ProofKit
import Derived.Shelf.LaysM
import Derived.Shelf.Strconv.Itoa0
import Derived.Shelf.Strconv.Itoa1
import Derived.Shelf.Strconv.Itoa2
import Derived.Shelf.Strconv.Itoa3
import Derived.StillTail
import Derived.Tactics
import Derived.Test.YtggclegkceimjaaDoorCards
import Derived.Test.YtggclegkceimjaaDoorProg
import Derived.Test.YtggclegkceimjaaDoorTie
import Derived.WalkKit
import Derived.Test.YtggclegkceimjaaDoorPart5
set_option linter.all false
set_option linter.unusedVariables false
namespace Go.AL
open Go.Proofs
set_option maxRecDepth 10000
attribute [local irreducible] AWp AList RStep seqQ blockQ retQ DSteps DT awR rQ SStep
theorem startS_ok : startS.ok := ⟨fun _ => by decide, by decide⟩
abbrev gfR (M n : Nat) (err : Int) : List AObj := [.cells [cNil, cNil], .dead, .cells (bC (err1 err) (M + 0) n [])]
set_option maxHeartbeats 8000000 in
theorem grammarR_err (t : T) (ht : t.size ≤ 4096) (hck : checkF t.enc = 0) (he : (wayR t endE startS).2.err ≠ 0) : ACalls Tryd.prog 6 [pat t.enc] [] (fun r σ' => r = .ret (.tup [.agg [cNil, cNil], i64 (wayR t endE startS).2.err])) := by
  have hc := check18_c t.enc (by have : t.enc.length = t.size := rfl
                                 omega)
  rw [hck] at hc
  have hw := rway_c t endE startS ht endE_ok startS_ok
  refine acalls_by Tryd.func6 Tryd.ntmps6 ?_
  simp only [argFr]
  repeat' (first
    | (show lAt 18; refine k_nilF 17 2 10 ?_)
    | (show cAt 5; refine kw_moveB 1 2 (p := err1 0) (q := []) (M := 3) rfl rfl rfl (by decide) (σ' := gfR 3 startS.rules.length startS.err ++ ([] ++ [.arr 52 3 (startS.rules.map encRl)])) rfl ?_; refine aw_reg ?_)
    | (refine aw_T ?_ (hb := decide_eq_true (by omega)))
    | (show cAtD 7; refine' aw_dt 7 6 (gfR M1 (wayR t endE startS).2.rules.length (wayR t endE startS).2.err ++ (g1 ++ [.arr 52 3 ((wayR t endE startS).2.rules.map encRl)])) Tryd_mixed _)
    | (show lAlloc; refine k_alloc ?_)
    | (show lBox; refine k_box ?_)
    | (show lBuildSlice; refine k_buildSl1 ?_)
    | (show lCall; refine k_callB3 hw (gg := []) rfl (fun g1 M1 hM1 => ?_))
    | (show lOp; refine op0 (by first | (show kAssign; exact b_assign) | (show kMove; exact b_move) | (show kCall; exact b_call (hc)) | (show kLoad; exact b_loadPtr) | (show kFieldaddr; exact b_fieldPtr) | (show kBinopNeq; exact b_neq) | (show kNilcheck; exact b_nilPtr) | (show kBuild; exact b_buildSt) | (show kBuildslice; exact b_buildSl2)) ?_)
    | (show lNil; refine al_nil ?_)
    | (show qSeq; first | refine n_seq ?_ | refine p_seq ?_)
    | (show cReg; refine aw_reg ?_)
    | (show cSeq; refine aw_seq ?_)
    | (show cSkip; refine aw_skip ?_)
    | (show cRet; refine aw_ret ?_)
    | (show cIf; refine aw_F ?_)
    | (show tNil; refine dt_nil ?_)
    | (show tNone; refine dt_turnN (by exact t_store (hσ := rfl)) ?_)
    | (show tSome; first | (refine dt_pre (by first | (show kMove; exact b_move) | (show kLoad; exact b_loadPtr) | (show kFieldaddr; exact b_fieldPtr) | (show kNilcheck; exact b_nilPtr) | (show kBuild; exact b_buildSt)) (by decide +kernel) ?_) | (refine dt_pre2 (by first | (show kMove; exact b_move) | (show kLoad; exact b_loadPtr) | (show kFieldaddr; exact b_fieldPtr) | (show kNilcheck; exact b_nilPtr)) (by first | (show kMove; exact b_move) | (show kLoad; exact b_loadPtr) | (show kFieldaddr; exact b_fieldPtr) | (show kNilcheck; exact b_nilPtr)) ?_))
    | (show eRet; refine retC2 Tryd.results6 ?_))
  rfl
open Classical in
noncomputable def deepB (rs : List Rl) (i : Nat) : Bool := decide (deepTo rs i)
theorem deepB_zero (rs : List Rl) : deepB rs 0 = false := by
  simp only [deepB, decide_eq_false_iff_not]; rintro ⟨j, hj, _⟩; omega
theorem deepB_next (rs : List Rl) (i : Nat) (h : i < rs.length) : deepB rs (i + 1) = (deepB rs i || decide (nestE (at' rs (i : Int)).body > 100)) := by
  have h1 : deepTo rs (i + 1) ↔ deepTo rs i ∨ nestE (at' rs (i : Int)).body > 100 := by
    constructor
    · rintro ⟨j, h1, h2, h3⟩
      by_cases hj : j < i
      · exact .inl ⟨j, hj, h2, h3⟩
      · have : j = i := by omega
        subst this; exact .inr h3
    · rintro (⟨j, h1, h2, h3⟩ | h3)
      · exact ⟨j, by omega, h2, h3⟩
      · exact ⟨i, by omega, h, h3⟩
  unfold deepB
  rw [Bool.eq_iff_iff]
  simp [h1]
/-- What the reference's second part holds in memory. -/
abbrev gfPre (M n N i : Nat) (g : List AObj) (rs : List Rl) (err : Int) : List AObj := gfR M n err ++ (g ++ [.arr 52 3 (rs.map encRl), .cells [cNil, .ms (N + 0) i]])
theorem gfPre_len {M n N i : Nat} {g : List AObj} {rs : List Rl} {err : Int} (hM : 3 + g.length = M) : (gfPre M n N i g rs err).length = M + 2 := by
  simp only [gfPre, gfR, List.length_append, List.length_cons, List.length_nil]; omega
theorem gfPre_set {M n N i N' i' : Nat} {g tl : List AObj} {rs : List Rl} {err : Int} (hM : 3 + g.length = M) : (gfPre M n N i g rs err ++ tl).set (M + 1) (.cells [cNil, .ms (N' + 0) i']) = gfPre M n N' i' g rs err ++ tl := by
  rw [List.set_append_left _ _ (by rw [gfPre_len hM]; omega)]
  congr 1
  exact setGP hM (j := 1) rfl rfl
set_option maxHeartbeats 8000000 in
theorem grammarR_mid (t : T) (ht : t.size ≤ 4096) (hck : checkF t.enc = 0) (he : (wayR t endE startS).2.err = 0) : ACalls Tryd.prog 6 [pat t.enc] [] (fun r σ' => (endErr (builtP t) ≠ 0 ∧ r = .ret (.tup [.agg [cNil, cNil], i64 (endErr (builtP t))])) ∨ (endErr (builtP t) = 0 ∧ ∃ i, r = .ret (.tup [.agg [cNil, .ms i (builtP t).rules.length], i64 0]) ∧ σ'[i]? = some (.arr 52 3 ((builtP t).rules.map encRl)))) := by
  have hc := check18_c t.enc (by have : t.enc.length = t.size := rfl
                                 omega)
  rw [hck] at hc
  have hw := rway_c t endE startS ht endE_ok startS_ok
  have hsame := (way_same t endE startS rfl startS_P).2 he
  rw [hsame] at hw he
  have hwP := wayP_P t endE startS startS_P
  have hpos := hwP.1.pos
  have hbl := builtP_small t
  refine acalls_by Tryd.func6 Tryd.ntmps6 ?_
  simp only [argFr]
  repeat' (first
    | (show lAt 18; refine k_nilF 17 2 10 ?_)
    | (show cAt 5; refine kw_moveB 1 2 (p := err1 0) (q := []) (M := 3) rfl rfl rfl (by decide) (σ' := gfR 3 startS.rules.length startS.err ++ ([] ++ [.arr 52 3 (startS.rules.map encRl)])) rfl ?_; refine aw_reg ?_)
    | (refine aw_F ?_ (hb := decide_eq_false (by omega)))
    | (show lAlloc; refine k_alloc ?_)
    | (show lBox; refine k_box ?_)
    | (show lStore; first | refine k_storePart (f := encRl) (⟨(at' (wayP t endE startS).2.rules ((0 : Nat) : Int)).name, (wayP t endE startS).1⟩ : Rl) ?_ | refine k_store ?_)
    | (show lBuildSlice; refine k_buildSl1 ?_)
    | (show lCall; refine k_callB3 hw (gg := []) rfl (fun g1 M1 hM1 => ?_))
    | (show lOp; refine op0 (by first | (show kAssign; exact b_assign) | (show kMove; exact b_move) | (show kCall; exact b_call (hc)) | (show kLoad; exact b_loadPtr) | (show kFieldaddr; first | exact b_fieldPtr | exact b_fieldEpt) | (show kIndexaddr; exact m_indexMs) | (show kBinopNeq; exact b_neq) | (show kNilcheck; exact b_nilPtr) | (show kBuild; exact b_buildSt) | (show kBuildslice; exact b_buildSl2)) ?_)
    | (show lNil; refine al_nil ?_)
    | (show qSeq; refine n_seq ?_)
    | (show cReg; refine aw_reg ?_)
    | (show cSeq; refine aw_seq ?_)
    | (show cBlk; refine aw_block ?_)
    | (show cSkip; refine aw_skip ?_))
  have hrs : (builtP t).rules = (wayP t endE startS).2.rules.set (Int.toNat 0) ⟨(at' (wayP t endE startS).2.rules ((0 : Nat) : Int)).name, (wayP t endE startS).1⟩ := rfl
  have hrl : (wayP t endE startS).2.rules.length = (builtP t).rules.length := by rw [hrs, List.length_set]
  have hfo := builtP_fo t
  have hle := builtP_len t
  have herr : (wayP t endE startS).2.err = (builtP t).err := rfl
  have hB : (builtP t).err = 0 := he
  rw [hrl, ← hrs]
  generalize builtP t = B at *
  clear hrs hrl herr
  have hP := gfPre_len (n := B.rules.length) (N := M1 + 2) (i := 0) (rs := B.rules) (err := (wayP t endE startS).2.err) hM1
  refine kw_ownC (M1 + 1) 1 52 3 (L := [cNil, cNil]) (n := M1 + 2) (getGP hM1 (j := 1) rfl rfl) rfl (by simp; omega) (σ' := gfPre M1 B.rules.length (M1 + 2) 0 g1 B.rules (wayP t endE startS).2.err ++ ([] ++ [.arr 52 3 []])) ?_ ?_
  · rw [List.set_append_left _ _ (by simp; omega)]
    congr 1
    exact setGP hM1 (j := 1) rfl rfl
  refine aw_rounds (ι := Nat × List AObj) (fun i => [(2, .c (.ptr 0 0)), (5, .c (.ptr 2 0)), (7, .c (.ptr (M1 + 1) 0)), (8, i64 (sumB (B.rules.take i.1))), (9, bl (deepB B.rules i.1)), (10, i64 i.1)]) (fun i => gfPre M1 B.rules.length (M1 + 2 + i.2.length) i.1 g1 B.rules (wayP t endE startS).2.err ++ (i.2 ++ [.arr 52 3 ((B.rules.take i.1).map encRl)])) (fun i => i.1 ≤ B.rules.length) (fun i => B.rules.length - i.1) (0, []) (by simp) (by simp) (by simp [Fr.get, sumB, deepB_zero]) ?_
  rintro ⟨k, g2⟩ hk1
  dsimp only at hk1 ⊢
  obtain ⟨N, hN⟩ : ∃ N, M1 + 2 + g2.length = N := ⟨_, rfl⟩
  rw [hN]
  have hPl := gfPre_len (n := B.rules.length) (N := N) (i := k) (rs := B.rules) (err := (wayP t endE startS).2.err) hM1
  have hsr := sumB_rng B.rules hbl k
  by_cases hk : k < B.rules.length
  · have hsn := sumB_next B.rules k hk
    have hdn := deepB_next B.rules k hk
    have hbk := hbl _ (at'_mem (show 0 ≤ (k : Int) by omega) (show (k : Int) < B.rules.length by omega))
    have hn := rnest_c (at' B.rules (k : Int)).body (.inr (hfo k hk)) (by omega)
    generalize deepB B.rules k = db at *
    have hnk : k ≤ (B.rules.take k).length := by simp; omega
    have hlt : (gfPre M1 B.rules.length N k g1 B.rules (wayP t endE startS).2.err ++ (g2 ++ [AObj.arr 52 3 ((B.rules.take k).map encRl)])).length = N + 1 := by rw [List.length_append, hPl]; simp; omega
    have hrow : (B.rules.take k).take k ++ [(⟨(at' B.rules (k : Int)).name, (at' B.rules (k : Int)).body⟩ : Rl)] = B.rules.take (k + 1) := by
      rw [List.take_take, Nat.min_self, List.take_add_one, at'_getElem? hk]; rfl
    have hσ1 : (gfPre M1 B.rules.length N k g1 B.rules (wayP t endE startS).2.err ++ (g2 ++ [AObj.arr 52 3 ((B.rules.take k).map encRl)])).set (N + 0) .dead ++ [.arr 52 3 (((B.rules.take k).take k ++ [(⟨(at' B.rules (k : Int)).name, (at' B.rules (k : Int)).body⟩ : Rl)]).map encRl)] = gfPre M1 B.rules.length N k g1 B.rules (wayP t endE startS).2.err ++ (g2 ++ [.dead, .arr 52 3 ((B.rules.take (k + 1)).map encRl)]) := by
      rw [hrow]; exact snocGP hN rfl rfl hPl
    cases db
    · repeat' (first
        | (refine aw_T ?_ (hb := decide_eq_true (by omega)))
        | (show cAtD 17; refine' aw_dt 23 22 (gfPre M1 B.rules.length N k g1 B.rules (wayP t endE startS).2.err ++ (g2 ++ [.dead, .arr 52 3 ((B.rules.take (k + 1)).map encRl)])) Tryd_mixed _)
        | (show lStore; refine k_store ?_ (ho := getL (getGP hM1 (j := 1) rfl rfl)) (hσ := gfPre_set hM1))
        | (show lOp; refine op0 (by first | (show kAssign; exact b_assign) | (show kMove; exact b_move) | (show kCall; first | exact b_call (hn) | exact m_lenSl | exact b_lenMs) | (show kLoad; first | exact m_loadEpt (ho := getL (getGP hM1 (j := 0) rfl rfl)) | exact b_loadPtr) | (show kFieldaddr; first | exact b_fieldPtr | exact b_fieldEpt) | (show kIndexaddr; exact m_indexMs (ho := getL (getGP hM1 (j := 0) rfl rfl))) | (show kBinopAdd; exact b_add) | (show kBinopLss; exact b_lss) | (show kBinopGtr; exact b_gtr) | (show kPick; exact b_pickF) | (show kNilcheck; exact b_nilPtr)) ?_)
        | (show lGu; refine al_yes ?_)
        | (show lNil; refine al_nil ?_)
        | (show qSeq; refine n_seq ?_)
        | (show qBlk; refine n_block ?_)
        | (show cReg; refine aw_reg ?_)
        | (show cSeq; refine aw_seq ?_)
        | (show cBlk; refine aw_block ?_)
        | (show cSkip; refine aw_skip ?_)
        | (show tNil; refine dt_nil ?_)
        | (show tSome; first | refine dt_turn (by exact t_app1 (f := encRl) (⟨(at' B.rules (k : Int)).name, (at' B.rules (k : Int)).body⟩ : Rl) (ho := getGP hN (j := 0) rfl hPl) (hn := hnk) (hm := hlt) (hσ := hσ1)) ?_ | (refine dt_pre (by first | (show kMove; exact b_move) | (show kCall; exact b_appE0) | (show kLoad; first | exact m_loadEpt (ho := getL (getGP hM1 (j := 0) rfl rfl)) | exact b_loadPtr (ho := getL (getGP hM1 (j := 1) rfl rfl)) | exact b_loadPtr) | (show kFieldaddr; first | exact b_fieldPtr | exact b_fieldEpt) | (show kIndexaddr; exact m_indexMs (ho := getL (getGP hM1 (j := 0) rfl rfl))) | (show kNilcheck; exact b_nilPtr) | (show kBuild; exact b_buildSt) | (show kBuildslice; first | exact b_buildE0 | exact b_buildSl1)) (by decide +kernel) ?_)))
      refine ⟨(k + 1, g2 ++ [.dead]), by dsimp only; omega, ?_, by simp [Fr.get, hsn, hdn], by dsimp only; omega⟩
      have e1 : M1 + 2 + (g2 ++ [AObj.dead]).length = N + 1 := by simp; omega
      dsimp only
      rw [e1]
      simp only [List.append_assoc, List.cons_append, List.nil_append]
    · repeat' (first
        | (refine aw_T ?_ (hb := decide_eq_true (by omega)))
        | (show cAtD 17; refine' aw_dt 23 22 (gfPre M1 B.rules.length N k g1 B.rules (wayP t endE startS).2.err ++ (g2 ++ [.dead, .arr 52 3 ((B.rules.take (k + 1)).map encRl)])) Tryd_mixed _)
        | (show lStore; refine k_store ?_ (ho := getL (getGP hM1 (j := 1) rfl rfl)) (hσ := gfPre_set hM1))
        | (show lOp; refine op0 (by first | (show kAssign; exact b_assign) | (show kMove; exact b_move) | (show kCall; first | exact m_lenSl | exact b_lenMs) | (show kLoad; first | exact m_loadEpt (ho := getL (getGP hM1 (j := 0) rfl rfl)) | exact b_loadPtr) | (show kFieldaddr; first | exact b_fieldPtr | exact b_fieldEpt) | (show kIndexaddr; exact m_indexMs (ho := getL (getGP hM1 (j := 0) rfl rfl))) | (show kBinopAdd; exact b_add) | (show kBinopLss; exact b_lss) | (show kPick; exact b_pickT) | (show kNilcheck; exact b_nilPtr)) ?_)
        | (show lGu; refine al_none ?_)
        | (show lNil; refine al_nil ?_)
        | (show qSeq; refine n_seq ?_)
        | (show qBlk; refine n_block ?_)
        | (show cReg; refine aw_reg ?_)
        | (show cSeq; refine aw_seq ?_)
        | (show cBlk; refine aw_block ?_)
        | (show cSkip; refine aw_skip ?_)
        | (show tNil; refine dt_nil ?_)
        | (show tSome; first | refine dt_turn (by exact t_app1 (f := encRl) (⟨(at' B.rules (k : Int)).name, (at' B.rules (k : Int)).body⟩ : Rl) (ho := getGP hN (j := 0) rfl hPl) (hn := hnk) (hm := hlt) (hσ := hσ1)) ?_ | (refine dt_pre (by first | (show kMove; exact b_move) | (show kCall; exact b_appE0) | (show kLoad; first | exact m_loadEpt (ho := getL (getGP hM1 (j := 0) rfl rfl)) | exact b_loadPtr (ho := getL (getGP hM1 (j := 1) rfl rfl)) | exact b_loadPtr) | (show kFieldaddr; first | exact b_fieldPtr | exact b_fieldEpt) | (show kIndexaddr; exact m_indexMs (ho := getL (getGP hM1 (j := 0) rfl rfl))) | (show kNilcheck; exact b_nilPtr) | (show kBuild; exact b_buildSt) | (show kBuildslice; first | exact b_buildE0 | exact b_buildSl1)) (by decide +kernel) ?_)))
      refine ⟨(k + 1, g2 ++ [.dead]), by dsimp only; omega, ?_, by simp [Fr.get, hsn, hdn], by dsimp only; omega⟩
      have e1 : M1 + 2 + (g2 ++ [AObj.dead]).length = N + 1 := by simp; omega
      dsimp only
      rw [e1]
      simp only [List.append_assoc, List.cons_append, List.nil_append]
  · have ek : k = B.rules.length := by omega
    subst ek
    rw [List.take_of_length_le (Nat.le_refl _)] at hsr ⊢
    have hend : endErr B = if sumB B.rules > 4096 then 52 else errAt 0 B.rules B.rules.length := by rw [endErr, if_pos hB]
    by_cases hS : sumB B.rules > 4096
    · rw [if_pos hS] at hend
      repeat' (first
        | (refine aw_F ?_ (hb := decide_eq_false (by omega)))
        | (refine aw_T ?_ (hb := decide_eq_true (by omega)))
        | (show lStore; refine k_store ?_)
        | (show lOp; refine op0 (by first | (show kAssign; exact b_assign) | (show kMove; exact b_move) | (show kCall; exact b_lenMs) | (show kLoad; exact b_loadPtr) | (show kFieldaddr; exact b_fieldPtr) | (show kBinopLss; exact b_lss) | (show kBinopGtr; exact b_gtr) | (show kNilcheck; exact b_nilPtr) | (show kBuild; exact b_buildSt)) ?_)
        | (show lNil; refine al_nil ?_)
        | (show qSeq; first | refine n_seq ?_ | refine p_seq ?_ | refine x_seq ?_)
        | (show qBlk; refine x_eq ?_)
        | (show cReg; refine aw_reg ?_)
        | (show cSeq; refine aw_seq ?_)
        | (show cExit; refine aw_exit ?_)
        | (show cRet; refine aw_ret ?_)
        | (show eRet; refine retC2 Tryd.results6 ?_))
      exact .inl ⟨by rw [hend]; decide, by rw [hend]; rfl⟩
    · rw [if_neg hS] at hend
      by_cases hd : deepTo B.rules B.rules.length
      · have hdb : deepB B.rules B.rules.length = true := by simp only [deepB, decide_eq_true_eq]; exact hd
        rw [errAt, if_pos ⟨rfl, hd⟩] at hend
        rw [hdb]
        repeat' (first
          | (refine aw_F ?_ (hb := decide_eq_false (by omega)))
          | (show lStore; refine k_store ?_)
          | (show lOp; refine op0 (by first | (show kAssign; exact b_assign) | (show kMove; exact b_move) | (show kCall; exact b_lenMs) | (show kLoad; exact b_loadPtr) | (show kFieldaddr; exact b_fieldPtr) | (show kBinopLss; exact b_lss) | (show kBinopGtr; exact b_gtr) | (show kNilcheck; exact b_nilPtr) | (show kBuild; exact b_buildSt)) ?_)
          | (show lNil; refine al_nil ?_)
          | (show qSeq; first | refine n_seq ?_ | refine p_seq ?_ | refine x_seq ?_)
          | (show qBlk; refine x_eq ?_)
          | (show cReg; refine aw_reg ?_)
          | (show cSeq; refine aw_seq ?_)
          | (show cSkip; refine aw_skip ?_)
          | (show cExit; refine aw_exit ?_)
          | (show cRet; refine aw_ret ?_)
          | (show cIf; refine aw_T ?_)
          | (show eRet; refine retC2 Tryd.results6 ?_))
        exact .inl ⟨by rw [hend]; decide, by rw [hend]; rfl⟩
      · have hdb : deepB B.rules B.rules.length = false := by simp only [deepB, decide_eq_false_iff_not]; exact hd
        rw [errAt, if_neg (fun h => hd h.2)] at hend
        rw [hdb]
        repeat' (first
          | (refine aw_F ?_ (hb := decide_eq_false (by omega)))
          | (show lStore; refine k_store ?_)
          | (show lOp; refine op0 (by first | (show kAssign; exact b_assign) | (show kMove; exact b_move) | (show kCall; exact b_lenMs) | (show kLoad; first | exact b_loadPtr (ho := getL (getGP hM1 (j := 1) rfl rfl)) | exact b_loadPtr) | (show kFieldaddr; exact b_fieldPtr) | (show kBinopLss; exact b_lss) | (show kBinopGtr; exact b_gtr) | (show kNilcheck; exact b_nilPtr)) ?_)
          | (show lNil; refine al_nil ?_)
          | (show qSeq; first | refine n_seq ?_ | refine x_seq ?_)
          | (show qBlk; refine x_eq ?_)
          | (show cReg; refine aw_reg ?_)
          | (show cSeq; refine aw_seq ?_)
          | (show cSkip; refine aw_skip ?_)
          | (show cExit; refine aw_exit ?_)
          | (show cRet; refine aw_ret ?_)
          | (show cIf; refine aw_F ?_)
          | (show eRet; refine retC2 Tryd.results6 ?_))
        exact .inr ⟨hend, N + 0, rfl, getGP hN (j := 0) rfl (by simp; omega)⟩
/-- The error of both. -/
theorem err_same (t : T) : (wayR t endE startS).2.err = (builtP t).err := (way_same t endE startS rfl startS_P).1
theorem endErr_err {B : GS} (h : B.err ≠ 0) : endErr B = B.err := by rw [endErr, if_neg h, errAt, if_neg (fun h' => h h'.1)]
theorem grammarR_c (t : T) (ht : t.size ≤ 4096) (hck : checkF t.enc = 0) : ACalls Tryd.prog 6 [pat t.enc] [] (fun r σ' => (endErr (builtP t) ≠ 0 ∧ r = .ret (.tup [.agg [cNil, cNil], i64 (endErr (builtP t))])) ∨ (endErr (builtP t) = 0 ∧ ∃ i, r = .ret (.tup [.agg [cNil, .ms i (builtP t).rules.length], i64 0]) ∧ σ'[i]? = some (.arr 52 3 ((builtP t).rules.map encRl)))) := by
  by_cases he : (wayR t endE startS).2.err = 0
  · exact grammarR_mid t ht hck he
  · have h1 := err_same t
    have hB : (builtP t).err ≠ 0 := by rw [← h1]; exact he
    refine (grammarR_err t ht hck he).mono fun r σ' h => .inl ⟨by rw [endErr_err hB]; exact hB, ?_⟩
    rw [endErr_err hB, ← h1]; exact h
end Go.AL
set_option linter.unusedVariables false
namespace Go.AL
open Go.Proofs
set_option maxRecDepth 10000
attribute [local irreducible] AWp AList RStep seqQ blockQ retQ DSteps DT awR rQ SStep
def plusB (n : Nat) : ByteArray := wordB n ++ ⟨#[43]⟩
abbrev nilE (_ : Unit) : List PV := [.lit (.slice none 0 0)]
abbrev txtE (b : ByteArray) : List PV := [.lit (.string b)]
def moreW (n : Nat) : List ByteArray := List.replicate 20 (plusB n)
abbrev moreE (n : Nat) : List PV := [.sl 1 ((moreW n).map txtE)]
theorem fit_plus (n : Nat) : StrFit (wordB n) ⟨#[43]⟩ := ⟨by simp [wordB, wordL, ByteArray.size]⟩
theorem fit_dot (n : Nat) : StrFit (wordB n) ⟨#[46]⟩ := ⟨by simp [wordB, wordL, ByteArray.size]⟩
theorem rotL {g g' y z : List AObj} {n : Nat} {o x : AObj} (h : g.length = n) : ((g ++ [o]) ++ (g' ++ y)).set (n + 0) x ++ z = (g ++ x :: (g' ++ y)) ++ z := by
  subst h
  rw [List.append_assoc, Nat.add_zero, List.set_append_right _ _ (Nat.le_refl _), Nat.sub_self]
  simp
theorem at'_rep {α : Type} [Inhabited α] {n j : Nat} {x : α} (h : j < n) : at' (List.replicate n x) (j : Int) = x := by simp [at', List.getD_eq_getElem?_getD, h]
theorem take_two {g : List AObj} {a b : AObj} {n : Nat} (h : g.length = n) : (g ++ [a, b]).take (n + 1) = g ++ [a] := by
  subst h; rw [show [a, b] = [a] ++ [b] from rfl, ← List.append_assoc]; exact List.take_left' (by simp)
theorem drop_two {g : List AObj} {a b : AObj} {n : Nat} (h : g.length = n) : (g ++ [a, b]).drop (n + 1) = [b] := by
  subst h; rw [show [a, b] = [a] ++ [b] from rfl, ← List.append_assoc]; exact List.drop_left' (by simp)
section
variable {P : Program} {N : Nat} {Q : AE → St → Prop} {fr : Fr} {α β : Type}
/-- The inner array is frozen, the outer one told last. -/
theorem kw_fr2 {c : Code} {e1 e2 : TypeId} {s1 s2 : Nat} {g g' : List AObj} {n n' i j : Nat} {f1 : α → List PV} {xs : List α} {f2 : β → List PV} {ys : List β} (t1 t2 : Nat) (hg : g.length = n) (hg' : ((g ++ [AObj.arr e1 s1 (xs.map f1)]) ++ g').length = n')
    (h : ∀ G M, G.length = M → AWp P N c Q ⟨(t1, .c (.ms (M + 0) i)) :: (t2, .c (.p (.sl s2 ((ys.take j).map f2)))) :: fr, G ++ [.arr e1 s1 (xs.map f1)]⟩) (h1 : fr.get t1 = .c (.ms (n + 0) i) := by exact rfl) (h2 : fr.get t2 = .c (.ms (n' + 0) j) := by exact rfl) (hj : j ≤ ys.length := by simp) (hne : t2 ≠ t1 := by decide) :
    AWp P N c Q ⟨fr, (g ++ [.arr e1 s1 (xs.map f1)]) ++ (g' ++ [.arr e2 s2 (ys.map f2)])⟩ := by
  refine kw_freezeM (f := f2) (xs := ys) t2 ?_ h2 (getG hg' (j := 0) rfl) hj
  refine kw_rot t1 (id' := n' + 1) (σ' := (g ++ .dead :: (g' ++ [.dead])) ++ [.arr e1 s1 (xs.map f1)]) ?_ (by simp only [Fr.get]; rw [if_neg hne]; exact h1) (getL (getG0 hg rfl)) (by simp at hg'; simp; omega) (rotL hg)
  exact h _ _ (by simp at hg'; simp; omega)
end
set_option maxHeartbeats 8000000 in
theorem freeTexts_c (c : Nat) (hc : c ≤ 100000) : ACalls Tryd.prog 24 [.c (.p (.sl 1 ((List.replicate c ()).map nilE)))] [] (fun r _ => r = .ret (bl true)) := by
  have hl : (List.replicate c ()).length = c := List.length_replicate
  generalize hT : List.replicate c () = T at *
  refine acalls_by Tryd.func24 Tryd.ntmps24 ?_
  simp only [argFr]
  repeat' (first
    | (show lOp; refine op0 (by (show kAssign; exact b_assign)) ?_)
    | (show lNil; refine al_nil ?_)
    | (show qSeq; refine n_seq ?_)
    | (show cReg; refine aw_reg ?_)
    | (show cSeq; refine aw_seq ?_)
    | (show cBlk; refine aw_block ?_))
  refine aw_rounds (ι := Nat) (fun i => [(0, .c (.p (.sl 1 (T.map nilE)))), (3, i64 i)]) (fun _ => []) (fun i => i ≤ c) (fun i => c - i) 0 (by omega) rfl (by simp [Fr.get]) ?_
  rintro k g1
  by_cases hk : k < c
  · repeat' (first
      | (refine aw_T ?_ (hb := decide_eq_true (by omega)))
      | (show lOp; refine op0 (by first | (show kAssign; exact b_assign) | (show kMove; exact b_move) | (show kCall; exact m_lenSl) | (show kBinopLss; exact b_lss)) ?_)
      | (show lNil; refine al_nil ?_)
      | (show qSeq; refine n_seq ?_)
      | (show cReg; refine aw_reg ?_)
      | (show cSeq; refine aw_seq ?_)
      | (show cBlk; refine aw_block ?_)
      | (show cSkip; refine aw_skip ?_))
    refine aw_rounds (ι := Nat) (fun i => [(0, .c (.p (.sl 1 (T.map nilE)))), (3, i64 k), (4, i64 0)]) (fun _ => []) (fun i => True) (fun i => i) 0 trivial rfl (by simp [Fr.get]) ?_
    rintro j -
    repeat' (first
      | (refine aw_F ?_ (hb := decide_eq_false (by omega)))
      | (show lOp; refine op0 (by first | (show kAssign; exact b_assign) | (show kMove; exact b_move) | (show kCall; exact b_lenNil) | (show kLoad; exact b_loadRp) | (show kIndexaddr; exact m_indexSl) | (show kBinopAdd; exact b_add) | (show kBinopLss; exact b_lss)) ?_)
      | (show lNil; refine al_nil ?_)
      | (show qSeq; first | refine n_seq ?_ | refine x_seq ?_)
      | (show qBlk; first | refine n_block ?_ | refine x_eq ?_)
      | (show cReg; refine aw_reg ?_)
      | (show cSeq; refine aw_seq ?_)
      | (show cExit; refine aw_exit ?_))
    exact ⟨k + 1, by omega, rfl, by simp [Fr.get], by omega⟩
  · repeat' (first
      | (refine aw_F ?_ (hb := decide_eq_false (by omega)))
      | (show cAt 9; refine kw_own 5 48 1 ?_; refine aw_reg ?_)
      | (show lOp; refine op0 (by first | (show kAssign; exact b_assign) | (show kMove; exact b_move) | (show kCall; exact m_lenSl) | (show kBinopLss; exact b_lss)) ?_)
      | (show lNil; refine al_nil ?_)
      | (show qSeq; first | refine n_seq ?_ | refine x_seq ?_)
      | (show qBlk; refine x_eq ?_)
      | (show cReg; refine aw_reg ?_)
      | (show cSeq; refine aw_seq ?_)
      | (show cBlk; refine aw_block ?_)
      | (show cExit; refine aw_exit ?_))
    refine aw_roundsG (ι := Nat) (fun i n => [(0, .c (.p (.sl 1 (T.map nilE)))), (6, i64 i), (5, .c (.ms (n + 0) i))]) (fun i n => [.arr 48 1 ((List.range i).map moreE)]) (fun i => i ≤ c) (fun i => c - i) 0 0 (by omega) (by simp) rfl (by simp [Fr.get]) ?_
    rintro i n g hi hg
    have hw := word_c i (by omega)
    by_cases hic : i < c
    · repeat' (first
        | (refine aw_T ?_ (hb := decide_eq_true (by omega)))
        | (show cAt 13; refine kw_own 7 9 1 ?_; refine aw_reg ?_)
        | (show lOp; refine op0 (by first | (show kAssign; exact b_assign) | (show kMove; exact b_move) | (show kCall; exact m_lenSl) | (show kLoad; exact b_loadRp) | (show kIndexaddr; exact m_indexSl) | (show kBinopLss; exact b_lss)) ?_)
        | (show lNil; refine al_nil ?_)
        | (show qSeq; refine n_seq ?_)
        | (show cReg; refine aw_reg ?_)
        | (show cSeq; refine aw_seq ?_)
        | (show cBlk; refine aw_block ?_)
        | (show cSkip; refine aw_skip ?_))
      refine aw_roundsP (ι := Nat) (n + 1) (fun _ => g ++ [.arr 48 1 ((List.range i).map moreE)]) (fun j n' => [(0, .c (.p (.sl 1 (T.map nilE)))), (6, i64 i), (5, .c (.ms (n + 0) i)), (8, i64 j), (7, .c (.ms (n' + 0) j))]) (fun j n' => [.arr 9 1 ((List.replicate j (plusB i)).map txtE)]) (fun j => j ≤ 20) (fun j => 20 - j) 0 (n + 1) (fun _ => by simp; omega) (by omega) (by omega) (by simp; omega) (take_two hg) (drop_two hg) (by simp [Fr.get]) ?_
      rintro j n' g' hj hg'
      by_cases hj20 : j < 20
      · repeat' (first
          | (refine aw_T ?_ (hb := decide_eq_true (by omega)))
          | (show lCall; refine k_app1 (f := txtE) (plusB i) ?_)
          | (show lOp; refine op0 (by first | (show kAssign; exact b_assign) | (show kMove; exact b_move) | (show kCall; exact b_call (hw)) | (show kBinopAdd; first | exact b_strAdd (fit_plus i) | exact b_add) | (show kBinopLss; exact b_lss) | (show kBuildslice; exact b_buildSl1)) ?_)
          | (show lNil; refine al_nil ?_)
          | (show qSeq; refine n_seq ?_)
          | (show qBlk; refine n_block ?_)
          | (show cReg; refine aw_reg ?_)
          | (show cSeq; refine aw_seq ?_)
          | (show cBlk; refine aw_block ?_)
          | (show cSkip; refine aw_skip ?_))
        refine ⟨j + 1, n' + 1, by omega, by simp at hg'; omega, by simp at hg'; simp; omega, List.take_left' (by simp; omega), dropG hg' ?_, by simp [Fr.get], by omega⟩
        simp [List.replicate_succ']
      · have hj20' : j = 20 := by omega
        subst hj20'
        repeat' (first
          | (refine aw_F ?_ (hb := decide_eq_false (by omega)))
          | (show cAt 17; refine kw_fr2 5 7 hg hg' (fun G M hG => ?_); refine aw_reg ?_)
          | (show lCall; refine k_app1 (f := moreE) i ?_)
          | (show lOp; refine op0 (by first | (show kAssign; exact b_assign) | (show kMove; exact b_move) | (show kBinopAdd; exact b_add) | (show kBinopLss; exact b_lss) | (show kBuildslice; exact b_buildSl1)) ?_)
          | (show lNil; refine al_nil ?_)
          | (show qSeq; first | refine n_seq ?_ | refine x_seq ?_)
          | (show qBlk; first | refine n_block ?_ | refine x_eq ?_)
          | (show cReg; refine aw_reg ?_)
          | (show cSeq; refine aw_seq ?_)
          | (show cExit; refine aw_exit ?_))
        refine ⟨i + 1, M + 1, by omega, by simp; omega, dropG0 hG ?_, by simp [Fr.get], by omega⟩
        rw [List.take_of_length_le (by simp), List.range_succ]
        rfl
    · have hic' : i = c := by omega
      subst hic'
      repeat' (first
        | (refine aw_F ?_ (hb := decide_eq_false (by omega)))
        | (show lOp; refine op0 (by first | (show kAssign; exact b_assign) | (show kMove; exact b_move) | (show kCall; exact m_lenSl) | (show kBinopLss; exact b_lss)) ?_)
        | (show lNil; refine al_nil ?_)
        | (show qSeq; first | refine n_seq ?_ | refine x_seq ?_)
        | (show qBlk; refine x_eq ?_)
        | (show cReg; refine aw_reg ?_)
        | (show cSeq; refine aw_seq ?_)
        | (show cBlk; refine aw_block ?_)
        | (show cExit; refine aw_exit ?_))
      have hrl : (List.range i).length = i := List.length_range
      refine aw_rounds (ι := Nat) (fun q => [(0, .c (.p (.sl 1 (T.map nilE)))), (5, .c (.ms (n + 0) i)), (9, i64 q)]) (fun _ => g ++ [.arr 48 1 ((List.range i).map moreE)]) (fun q => q ≤ i) (fun q => i - q) 0 (by omega) rfl (by simp [Fr.get]) ?_
      rintro q hq
      by_cases hqi : q < i
      · have hw := word_c q (by omega)
        have hat : at' (List.range i) (q : Int) = q := by simp [at', List.getD_eq_getElem?_getD, hqi]
        repeat' (first
          | (refine aw_T ?_ (hb := decide_eq_true (by omega)))
          | (show lOp; refine op0 (by first | (show kAssign; exact b_assign) | (show kMove; exact b_move) | (show kCall; exact m_lenSl) | (show kBinopLss; exact b_lss)) ?_)
          | (show lNil; refine al_nil ?_)
          | (show qSeq; refine n_seq ?_)
          | (show cReg; refine aw_reg ?_)
          | (show cSeq; refine aw_seq ?_)
          | (show cBlk; refine aw_block ?_)
          | (show cSkip; refine aw_skip ?_))
        refine aw_rounds (ι := Nat) (fun j => [(0, .c (.p (.sl 1 (T.map nilE)))), (5, .c (.ms (n + 0) i)), (9, i64 q), (10, i64 j)]) (fun _ => g ++ [.arr 48 1 ((List.range i).map moreE)]) (fun j => j ≤ 20) (fun j => 20 - j) 0 (by omega) rfl (by simp [Fr.get]) ?_
        rintro j hj
        have h20 : (moreW (at' (List.range i) (q : Int))).length = 20 := by simp [moreW]
        have hval : j < 20 → at' (moreW (at' (List.range i) (q : Int))) (j : Int) = plusB q := fun hj => by
          rw [hat]; exact at'_rep hj
        by_cases hj20 : j < 20
        · have hv := hval hj20
          repeat' (first
            | (refine aw_T ?_ (hb := decide_eq_true (by omega)))
            | (show lOp; refine op0 (by first | (show kAssign; exact b_assign) | (show kMove; exact b_move) | (show kCall; first | exact b_call (hw) | exact m_lenSl | exact b_lenNil) | (show kLoad; first | exact b_loadRp | exact m_loadEpt) | (show kIndexaddr; first | exact m_indexSl | exact m_indexMs) | (show kBinopAdd; first | exact b_strAdd (fit_dot q) | exact b_strAdd (fit_plus q) | exact b_add) | (show kBinopNeq; exact b_strNeq) | (show kBinopLss; exact b_lss) | (show kBinopGeq; exact b_geq)) ?_)
            | (show lNil; refine al_nil ?_)
            | (show qSeq; first | refine n_seq ?_ | refine p_seq ?_)
            | (show qBlk; first | refine n_block ?_ | refine p_block ?_)
            | (show cReg; refine aw_reg ?_)
            | (show cSeq; refine aw_seq ?_)
            | (show cBlk; refine aw_block ?_)
            | (show cSkip; refine aw_skip ?_)
            | (show cRet; refine aw_ret ?_)
            | (show cIf; refine aw_ifD (fun h => ?_) (fun h => ?_))
            | (show eRet; refine ret1 Tryd.results24 ?_))
          · exact absurd hv h
          · exact ⟨j + 1, by omega, rfl, by simp [Fr.get], by omega⟩
        · repeat' (first
            | (refine aw_F ?_ (hb := decide_eq_false (by omega)))
            | (show lOp; refine op0 (by first | (show kAssign; exact b_assign) | (show kMove; exact b_move) | (show kCall; exact m_lenSl) | (show kLoad; exact m_loadEpt) | (show kIndexaddr; exact m_indexMs) | (show kBinopLss; exact b_lss)) ?_)
            | (show lNil; refine al_nil ?_)
            | (show qSeq; first | refine n_seq ?_ | refine x_seq ?_)
            | (show qBlk; refine x_eq ?_)
            | (show cReg; refine aw_reg ?_)
            | (show cSeq; refine aw_seq ?_)
            | (show cBlk; refine aw_block ?_)
            | (show cExit; refine aw_exit ?_))
          refine aw_rounds (ι := Nat) (fun _ => [(0, .c (.p (.sl 1 (T.map nilE)))), (5, .c (.ms (n + 0) i)), (9, i64 q), (12, i64 0)]) (fun _ => g ++ [.arr 48 1 ((List.range i).map moreE)]) (fun _ => True) (fun j => j) 0 trivial rfl (by simp [Fr.get]) ?_
          rintro _ -
          repeat' (first
            | (refine aw_F ?_ (hb := decide_eq_false (by omega)))
            | (show lOp; refine op0 (by first | (show kAssign; exact b_assign) | (show kMove; exact b_move) | (show kCall; exact b_lenNil) | (show kLoad; exact b_loadRp) | (show kIndexaddr; exact m_indexSl) | (show kBinopAdd; exact b_add) | (show kBinopLss; exact b_lss)) ?_)
            | (show lNil; refine al_nil ?_)
            | (show qSeq; first | refine n_seq ?_ | refine x_seq ?_)
            | (show qBlk; first | refine n_block ?_ | refine x_eq ?_)
            | (show cReg; refine aw_reg ?_)
            | (show cSeq; refine aw_seq ?_)
            | (show cExit; refine aw_exit ?_))
          exact ⟨q + 1, by omega, rfl, by simp [Fr.get], by omega⟩
      · repeat' (first
          | (refine aw_F ?_ (hb := decide_eq_false (by omega)))
          | (show lOp; refine op0 (by first | (show kAssign; exact b_assign) | (show kMove; exact b_move) | (show kCall; exact m_lenSl) | (show kBinopLss; exact b_lss)) ?_)
          | (show lNil; refine al_nil ?_)
          | (show qSeq; first | refine n_seq ?_ | refine x_seq ?_)
          | (show qBlk; refine x_eq ?_)
          | (show cReg; refine aw_reg ?_)
          | (show cSeq; refine aw_seq ?_)
          | (show cExit; refine aw_exit ?_)
          | (show cRet; refine aw_ret ?_)
          | (show eRet; refine ret1 Tryd.results24 ?_))
        rfl
end Go.AL
set_option linter.unusedVariables false
namespace Go.AL
open Go.Proofs
set_option maxRecDepth 10000
attribute [local irreducible] AWp AList RStep seqQ blockQ retQ DSteps DT awR rQ SStep
/-- A rule that has but a name. -/
abbrev nameE (b : ByteArray) : List PV := [.lit (.string b), .lit (.slice none 0 0), .lit (.slice none 0 0)]
abbrev anyR : List C := [.any, .any, .any]
/-- The first j rules are laid anew. -/
def laid (b : ByteArray) (n j : Nat) : List (List C) := List.replicate j ((nameE b).map .p) ++ List.replicate (n - j) anyR
theorem laid_at {b : ByteArray} {n j : Nat} (h : j < n) : (laid b n j)[j]? = some anyR := by
  rw [laid, List.getElem?_append_right (by simp), List.length_replicate, Nat.sub_self, List.getElem?_replicate, if_pos (by omega)]
theorem laid_set {b : ByteArray} {n j : Nat} (h : j < n) : (laid b n j).set j ((nameE b).map .p) = laid b n (j + 1) := by
  have hr : n - j = (n - (j + 1)) + 1 := by omega
  rw [laid, hr, List.replicate_succ, List.set_append_right _ _ (by simp), List.length_replicate, Nat.sub_self, List.set_cons_zero, laid, List.replicate_succ', List.append_assoc]
  rfl
theorem laid_all {b : ByteArray} {n : Nat} : laid b n n = (List.replicate n b).map (fun b => (nameE b).map .p) := by simp [laid]
abbrev listC (n1 n2 : Nat) : AObj := .arrC 28 2 [[cNil, .ms 1 n1], [cNil, .ms 2 n2]]
abbrev textE (b : ByteArray) : List PV := [.lit (.string b), .lit (.string ⟨#[]⟩)]
abbrev rw0 (n i : Nat) : List (List PV) := (List.replicate n (wordB i)).map nameE
abbrev e6 (n i : Nat) : List PV := [.sl 3 ((List.replicate n (wordB i) ++ List.replicate 20 (plusB i)).map nameE)]
abbrev e7 (i : Nat) : List PV := [.sl 2 ((List.replicate 20 (plusB i)).map textE)]
structure FO (n i : Nat) (σ : List AObj) (a6 a7 : Nat) : Prop where
  c0 : σ[0]? = some (listC n n)
  r1 : σ[1]? = some (if 0 < i then .ext (Fz 3 (rw0 n 0)) else .ext (Tl 52 3 (rw0 n 0)))
  r2 : σ[2]? = some (if 1 < i then .ext (Fz 3 (rw0 n 1)) else .ext (Tl 52 3 (rw0 n 1)))
  l6 : σ[a6]? = some (.arr 26 1 ((List.range i).map (e6 n)))
  l7 : σ[a7]? = some (.arr 25 1 ((List.range i).map e7))
/-- Within a round: the rules' list is o, the other's is o'. -/
structure FI (n i q o o' : Nat) (X : AObj) (σ : List AObj) (a6 a7 i9 i10 : Nat) : Prop where
  c0 : σ[0]? = some (listC n n)
  l6 : σ[a6]? = some (.arr 26 1 ((List.range i).map (e6 n)))
  l7 : σ[a7]? = some (.arr 25 1 ((List.range i).map e7))
  m9 : σ[i9]? = some (.ext (Tl 52 3 ((List.replicate n (wordB i) ++ List.replicate q (plusB i)).map nameE)))
  m10 : σ[i10]? = some (.arr 70 2 ((List.replicate q (plusB i)).map textE))
  own : (q = 0 ∧ i9 = o) ∨ (3 ≤ i9 ∧ σ[o]? = some (.ext (Fz 3 (rw0 n i))))
  oth : σ[o']? = some X
  n10 : 3 ≤ i10
/-- The memory behind a round of the appends. -/
abbrev fiσ (n i q : Nat) (σ : List AObj) (i9 i10 : Nat) : List AObj := (σ.set i9 (AObj.ext (Fz 3 ((List.replicate n (wordB i) ++ List.replicate q (plusB i)).map nameE))) ++ [AObj.ext (Tl 52 3 ((List.replicate n (wordB i) ++ List.replicate q (plusB i) ++ [plusB i]).map nameE))]).set i10 .dead ++ [AObj.arr 70 2 (((List.replicate q (plusB i)).take q ++ [plusB i]).map textE)]
theorem FI.m10' {n i q o o' : Nat} {X : AObj} {σ : List AObj} {a6 a7 i9 i10 : Nat} (h : FI n i q o o' X σ a6 a7 i9 i10) : (σ.set i9 (AObj.ext (Fz 3 ((List.replicate n (wordB i) ++ List.replicate q (plusB i)).map nameE))) ++ [AObj.ext (Tl 52 3 ((List.replicate n (wordB i) ++ List.replicate q (plusB i) ++ [plusB i]).map nameE))])[i10]? = some (AObj.arr 70 2 ((List.replicate q (plusB i)).map textE)) :=
  get_app (get_set h.m10 (ne_get h.m9 h.m10 (by intro h; cases h)))
theorem FI.next {n i q o o' : Nat} {X : AObj} {σ : List AObj} {a6 a7 i9 i10 : Nat} (h : FI n i q o o' X σ a6 a7 i9 i10) (ho : o < 3 ∧ 0 < o) (ho' : o' < 3 ∧ 0 < o' ∧ o' ≠ o) : FI n i (q + 1) o o' X (fiσ n i q σ i9 i10) a6 a7 σ.length (σ.length + 1) := by
  have h9 := get_lt h.m9
  have h10 := get_lt h.m10
  have hn10 := h.n10
  have ne : ∀ {a : Nat} {y : AObj}, σ[a]? = some y → a ≠ i9 → a ≠ i10 → (fiσ n i q σ i9 i10)[a]? = some y := fun hy h1 h2 => get_app (get_set (get_app (get_set hy (Ne.symm h1))) (Ne.symm h2))
  have e9 : ∀ {a : Nat} {e : TypeId} {s : Nat} {l : List (List PV)}, σ[a]? = some (.arr e s l) → a ≠ i9 := fun hy => ne_get hy h.m9 (by intro h; cases h)
  have e10 : a6 ≠ i10 ∧ a7 ≠ i10 := ⟨ne_get h.l6 h.m10 (by intro h; injection h with h; exact absurd h (by decide)), ne_get h.l7 h.m10 (by intro h; injection h with h; exact absurd h (by decide))⟩
  have hlen1 : (σ.set i9 (AObj.ext (Fz 3 ((List.replicate n (wordB i) ++ List.replicate q (plusB i)).map nameE))) ++ [AObj.ext (Tl 52 3 ((List.replicate n (wordB i) ++ List.replicate q (plusB i) ++ [plusB i]).map nameE))]).length = σ.length + 1 := by simp
  refine ⟨ne h.c0 (ne_get h.c0 h.m9 (by intro h; cases h)) (by omega), ne h.l6 (e9 h.l6) e10.1, ne h.l7 (e9 h.l7) e10.2, ?_, ?_, ?_, ?_, by omega⟩
  · have : (fiσ n i q σ i9 i10)[σ.length]? = some (AObj.ext (Tl 52 3 ((List.replicate n (wordB i) ++ List.replicate q (plusB i) ++ [plusB i]).map nameE))) := get_app (get_set (get_last (by simp)) (by omega))
    rw [this, List.replicate_succ', List.append_assoc]
  · have : (fiσ n i q σ i9 i10)[σ.length + 1]? = some (AObj.arr 70 2 (((List.replicate q (plusB i)).take q ++ [plusB i]).map textE)) := get_last (by simp)
    rw [this, List.take_of_length_le (by simp), List.replicate_succ']
  · refine .inr ⟨by omega, ?_⟩
    rcases h.own with ⟨hq, h1⟩ | ⟨h1, h2⟩
    · subst hq; subst h1
      have : (fiσ n i 0 σ i9 i10)[i9]? = some (AObj.ext (Fz 3 ((List.replicate n (wordB i) ++ List.replicate 0 (plusB i)).map nameE))) := get_app (get_set (get_app (get_set_self h.m9)) (by omega))
      rw [this]; simp
    · exact ne h2 (by omega) (by omega)
  · refine ne h.oth ?_ (by omega)
    rcases h.own with ⟨_, h1⟩ | ⟨h1, _⟩ <;> omega
/-- The memory behind a round of the outer loop. -/
abbrev foσ (n i : Nat) (σ : List AObj) (a6 a7 i10 : Nat) : List AObj := ((σ.set i10 .dead).set a6 .dead ++ [AObj.arr 26 1 (((List.range i).take i ++ [i]).map (e6 n))]).set a7 .dead ++ [AObj.arr 25 1 (((List.range i).take i ++ [i]).map e7)]
theorem FI.h6 {n i q o o' : Nat} {X : AObj} {σ : List AObj} {a6 a7 i9 i10 : Nat} (h : FI n i q o o' X σ a6 a7 i9 i10) : (σ.set i10 .dead)[a6]? = some (.arr 26 1 ((List.range i).map (e6 n))) :=
  get_set h.l6 (Ne.symm (ne_get h.l6 h.m10 (by intro h; injection h with h; exact absurd h (by decide))))
theorem FI.h7 {n i q o o' : Nat} {X : AObj} {σ : List AObj} {a6 a7 i9 i10 : Nat} (h : FI n i q o o' X σ a6 a7 i9 i10) : ((σ.set i10 .dead).set a6 .dead ++ [AObj.arr 26 1 (((List.range i).take i ++ [i]).map (e6 n))])[a7]? = some (.arr 25 1 ((List.range i).map e7)) :=
  get_app (get_set (get_set h.l7 (Ne.symm (ne_get h.l7 h.m10 (by intro h; injection h with h; exact absurd h (by decide))))) (ne_get h.l6 h.l7 (by intro h; injection h with h; exact absurd h (by decide))))
theorem FI.keep {n i q o o' : Nat} {X Y : AObj} {σ : List AObj} {a6 a7 i9 i10 a : Nat} (h : FI n i q o o' X σ a6 a7 i9 i10) (hy : σ[a]? = some Y) (h1 : a < 3) (h2 : ∀ e s l, Y ≠ .arr e s l) : (foσ n i σ a6 a7 i10)[a]? = some Y := by
  have hn := h.n10
  have n6 : a6 ≠ a := ne_get h.l6 hy (Ne.symm (h2 _ _ _))
  have n7 : a7 ≠ a := ne_get h.l7 hy (Ne.symm (h2 _ _ _))
  exact get_app (get_set (get_app (get_set (get_set hy (by omega)) n6)) n7)
theorem FI.new6 {n i q o o' : Nat} {X : AObj} {σ : List AObj} {a6 a7 i9 i10 : Nat} (h : FI n i q o o' X σ a6 a7 i9 i10) : (foσ n i σ a6 a7 i10)[σ.length]? = some (.arr 26 1 ((List.range (i + 1)).map (e6 n))) := by
  have hl := get_lt h.l7
  have : (foσ n i σ a6 a7 i10)[σ.length]? = some (.arr 26 1 (((List.range i).take i ++ [i]).map (e6 n))) := get_app (get_set (get_last (by simp)) (by omega))
  rw [this, List.take_of_length_le (by simp), List.range_succ]
theorem FI.new7 {n i q o o' : Nat} {X : AObj} {σ : List AObj} {a6 a7 i9 i10 : Nat} (h : FI n i q o o' X σ a6 a7 i9 i10) : (foσ n i σ a6 a7 i10)[σ.length + 1]? = some (.arr 25 1 ((List.range (i + 1)).map e7)) := by
  have : (foσ n i σ a6 a7 i10)[σ.length + 1]? = some (.arr 25 1 (((List.range i).take i ++ [i]).map e7)) := get_last (by simp)
  rw [this, List.take_of_length_le (by simp), List.range_succ]
theorem FI.ownF {n i o o' : Nat} {X : AObj} {σ : List AObj} {a6 a7 i9 i10 : Nat} (h : FI n i 20 o o' X σ a6 a7 i9 i10) : σ[o]? = some (.ext (Fz 3 (rw0 n i))) := by
  rcases h.own with ⟨h1, _⟩ | ⟨_, h1⟩
  · omega
  · exact h1
set_option maxHeartbeats 8000000 in
theorem freeOuter_c (n : Nat) (hn : n ≤ 1000) : ACalls Tryd.prog 25 [.c (.ms 0 2)] [listC n n, .arrC 52 3 (List.replicate n anyR), .arrC 52 3 (List.replicate n anyR)] (fun r _ => r = .ret (bl true)) := by
  have e0 : List.replicate n anyR = laid (wordB 0) n 0 := by simp [laid]
  have e1 : List.replicate n anyR = laid (wordB 1) n 0 := by simp [laid]
  have hw0 := word_c 0 (by omega)
  have hw1 := word_c 1 (by omega)
  refine acalls_by Tryd.func25 Tryd.ntmps25 ?_
  simp only [argFr]
  repeat' (first
    | (show lOp; refine op0 (by (show kAssign; exact b_assign)) ?_)
    | (show lNil; refine al_nil ?_)
    | (show qSeq; refine n_seq ?_)
    | (show cReg; refine aw_reg ?_)
    | (show cSeq; refine aw_seq ?_)
    | (show cBlk; refine aw_block ?_))
  refine aw_rounds (ι := Nat) (fun i => [(0, .c (.ms 0 2)), (3, i64 i)]) (fun i => [listC n n, .arrC 52 3 (laid (wordB 0) n (if 0 < i then n else 0)), .arrC 52 3 (laid (wordB 1) n (if 1 < i then n else 0))]) (fun i => i ≤ 2) (fun i => 2 - i) 0 (by omega) (by rw [if_neg (by omega), if_neg (by omega), ← e0, ← e1]) (by simp [Fr.get]) ?_
  rintro i hi
  by_cases hi0 : i = 0
  · subst hi0
    rw [if_neg (by omega), if_neg (by omega)]
    repeat' (first
      | (refine aw_T ?_ (hb := decide_eq_true (by omega)))
      | (show lOp; refine op0 (by first | (show kAssign; exact b_assign) | (show kMove; exact b_move) | (show kCall; exact b_lenMs) | (show kBinopLss; exact b_lss)) ?_)
      | (show lNil; refine al_nil ?_)
      | (show qSeq; refine n_seq ?_)
      | (show cReg; refine aw_reg ?_)
      | (show cSeq; refine aw_seq ?_)
      | (show cBlk; refine aw_block ?_)
      | (show cSkip; refine aw_skip ?_))
    refine aw_rounds (ι := Nat) (fun j => [(0, .c (.ms 0 2)), (3, i64 0), (4, i64 j)]) (fun j => [listC n n, .arrC 52 3 (laid (wordB 0) n j), .arrC 52 3 (laid (wordB 1) n 0)]) (fun j => j ≤ n) (fun j => n - j) 0 (by omega) rfl (by simp [Fr.get]) ?_
    rintro j hj
    by_cases hjn : j < n
    · have hat := laid_at (b := wordB 0) hjn
      have hset := laid_set (b := wordB 0) hjn
      have hat' : (laid (wordB 0) n j)[(j : Int).toNat]? = some anyR := by rw [Int.toNat_natCast]; exact hat
      repeat' (first
        | (refine aw_T ?_ (hb := decide_eq_true (by omega)))
        | (show lStore; refine k_storeEptC (id := 1) rfl hat' ?_)
        | (show lOp; refine op0 (by first | (show kAssign; exact b_assign) | (show kMove; exact b_move) | (show kCall; exact b_lenMs) | (show kLoad; exact b_loadEptC (id := 0) (i := 0) rfl rfl) | (show kFieldaddr; exact b_fieldEpt) | (show kIndexaddr; exact b_indexMsC (id := 0) rfl) | (show kBinopAdd; exact b_add) | (show kBinopLss; exact b_lss)) ?_)
        | (show lNil; refine al_nil ?_)
        | (show qSeq; refine n_seq ?_)
        | (show qBlk; refine n_block ?_)
        | (show cReg; refine aw_reg ?_)
        | (show cSeq; refine aw_seq ?_)
        | (show cBlk; refine aw_block ?_)
        | (show cSkip; refine aw_skip ?_)
        | (show cRegD; refine aw_drN Tryd_mixed ?_)
        | (show dOp; refine ds_op (by first | (show kMove; exact b_move) | (show kCall; exact b_call (hw0)) | (show kLoad; exact b_loadEptC (id := 0) (i := 0) rfl rfl) | (show kFieldaddr; exact b_fieldEpt) | (show kIndexaddr; first | exact b_indexMsC (id := 0) rfl | exact b_indexMsC (id := 1) rfl) | (show kBuild; exact b_buildSt)) ?_)
        | (show dNil; refine ds_nil ?_))
      refine ⟨j + 1, by omega, ?_, by simp [Fr.get], by omega⟩
      rw [← hset]; rfl
    · have hjn' : j = n := by omega
      subst hjn'
      repeat' (first
        | (refine aw_F ?_ (hb := decide_eq_false (by omega)))
        | (show lOp; refine op0 (by first | (show kAssign; exact b_assign) | (show kMove; exact b_move) | (show kCall; exact b_lenMs) | (show kLoad; exact b_loadEptC (id := 0) (i := 0) rfl rfl) | (show kFieldaddr; exact b_fieldEpt) | (show kIndexaddr; exact b_indexMsC (id := 0) rfl) | (show kBinopLss; exact b_lss)) ?_)
        | (show lNil; refine al_nil ?_)
        | (show qSeq; first | refine n_seq ?_ | refine x_seq ?_)
        | (show qBlk; refine x_eq ?_)
        | (show cReg; refine aw_reg ?_)
        | (show cSeq; refine aw_seq ?_)
        | (show cBlk; refine aw_block ?_)
        | (show cExit; refine aw_exit ?_))
      refine aw_rounds (ι := Nat) (fun _ => [(0, .c (.ms 0 2)), (3, i64 0), (5, i64 0)]) (fun _ => [listC j j, .arrC 52 3 (laid (wordB 0) j j), .arrC 52 3 (laid (wordB 1) j 0)]) (fun _ => True) (fun j => j) 0 trivial rfl (by simp [Fr.get]) ?_
      rintro _ -
      repeat' (first
        | (refine aw_F ?_ (hb := decide_eq_false (by omega)))
        | (show lOp; refine op0 (by first | (show kAssign; exact b_assign) | (show kMove; exact b_move) | (show kCall; exact b_lenNil) | (show kLoad; exact b_loadEptC (id := 0) (i := 0) rfl rfl) | (show kFieldaddr; exact b_fieldEpt) | (show kIndexaddr; exact b_indexMsC (id := 0) rfl) | (show kBinopAdd; exact b_add) | (show kBinopLss; exact b_lss)) ?_)
        | (show lNil; refine al_nil ?_)
        | (show qSeq; first | refine n_seq ?_ | refine x_seq ?_)
        | (show qBlk; first | refine n_block ?_ | refine x_eq ?_)
        | (show cReg; refine aw_reg ?_)
        | (show cSeq; refine aw_seq ?_)
        | (show cExit; refine aw_exit ?_))
      exact ⟨1, by omega, rfl, by simp [Fr.get], by omega⟩
  by_cases hi1 : i = 1
  · subst hi1
    rw [if_pos (by omega), if_neg (by omega)]
    repeat' (first
      | (refine aw_T ?_ (hb := decide_eq_true (by omega)))
      | (show lOp; refine op0 (by first | (show kAssign; exact b_assign) | (show kMove; exact b_move) | (show kCall; exact b_lenMs) | (show kBinopLss; exact b_lss)) ?_)
      | (show lNil; refine al_nil ?_)
      | (show qSeq; refine n_seq ?_)
      | (show cReg; refine aw_reg ?_)
      | (show cSeq; refine aw_seq ?_)
      | (show cBlk; refine aw_block ?_)
      | (show cSkip; refine aw_skip ?_))
    refine aw_rounds (ι := Nat) (fun j => [(0, .c (.ms 0 2)), (3, i64 1), (4, i64 j)]) (fun j => [listC n n, .arrC 52 3 (laid (wordB 0) n n), .arrC 52 3 (laid (wordB 1) n j)]) (fun j => j ≤ n) (fun j => n - j) 0 (by omega) rfl (by simp [Fr.get]) ?_
    rintro j hj
    by_cases hjn : j < n
    · have hat := laid_at (b := wordB 1) hjn
      have hset := laid_set (b := wordB 1) hjn
      have hat' : (laid (wordB 1) n j)[(j : Int).toNat]? = some anyR := by rw [Int.toNat_natCast]; exact hat
      repeat' (first
        | (refine aw_T ?_ (hb := decide_eq_true (by omega)))
        | (show lStore; refine k_storeEptC (id := 2) rfl hat' ?_)
        | (show lOp; refine op0 (by first | (show kAssign; exact b_assign) | (show kMove; exact b_move) | (show kCall; exact b_lenMs) | (show kLoad; exact b_loadEptC (id := 0) (i := 1) rfl rfl) | (show kFieldaddr; exact b_fieldEpt) | (show kIndexaddr; exact b_indexMsC (id := 0) rfl) | (show kBinopAdd; exact b_add) | (show kBinopLss; exact b_lss)) ?_)
        | (show lNil; refine al_nil ?_)
        | (show qSeq; refine n_seq ?_)
        | (show qBlk; refine n_block ?_)
        | (show cReg; refine aw_reg ?_)
        | (show cSeq; refine aw_seq ?_)
        | (show cBlk; refine aw_block ?_)
        | (show cSkip; refine aw_skip ?_)
        | (show cRegD; refine aw_drN Tryd_mixed ?_)
        | (show dOp; refine ds_op (by first | (show kMove; exact b_move) | (show kCall; exact b_call (hw1)) | (show kLoad; exact b_loadEptC (id := 0) (i := 1) rfl rfl) | (show kFieldaddr; exact b_fieldEpt) | (show kIndexaddr; first | exact b_indexMsC (id := 0) rfl | exact b_indexMsC (id := 2) rfl) | (show kBuild; exact b_buildSt)) ?_)
        | (show dNil; refine ds_nil ?_))
      refine ⟨j + 1, by omega, ?_, by simp [Fr.get], by omega⟩
      rw [← hset]; rfl
    · have hjn' : j = n := by omega
      subst hjn'
      repeat' (first
        | (refine aw_F ?_ (hb := decide_eq_false (by omega)))
        | (show lOp; refine op0 (by first | (show kAssign; exact b_assign) | (show kMove; exact b_move) | (show kCall; exact b_lenMs) | (show kLoad; exact b_loadEptC (id := 0) (i := 1) rfl rfl) | (show kFieldaddr; exact b_fieldEpt) | (show kIndexaddr; exact b_indexMsC (id := 0) rfl) | (show kBinopLss; exact b_lss)) ?_)
        | (show lNil; refine al_nil ?_)
        | (show qSeq; first | refine n_seq ?_ | refine x_seq ?_)
        | (show qBlk; refine x_eq ?_)
        | (show cReg; refine aw_reg ?_)
        | (show cSeq; refine aw_seq ?_)
        | (show cBlk; refine aw_block ?_)
        | (show cExit; refine aw_exit ?_))
      refine aw_rounds (ι := Nat) (fun _ => [(0, .c (.ms 0 2)), (3, i64 1), (5, i64 0)]) (fun _ => [listC j j, .arrC 52 3 (laid (wordB 0) j j), .arrC 52 3 (laid (wordB 1) j j)]) (fun _ => True) (fun j => j) 0 trivial rfl (by simp [Fr.get]) ?_
      rintro _ -
      repeat' (first
        | (refine aw_F ?_ (hb := decide_eq_false (by omega)))
        | (show lOp; refine op0 (by first | (show kAssign; exact b_assign) | (show kMove; exact b_move) | (show kCall; exact b_lenNil) | (show kLoad; exact b_loadEptC (id := 0) (i := 1) rfl rfl) | (show kFieldaddr; exact b_fieldEpt) | (show kIndexaddr; exact b_indexMsC (id := 0) rfl) | (show kBinopAdd; exact b_add) | (show kBinopLss; exact b_lss)) ?_)
        | (show lNil; refine al_nil ?_)
        | (show qSeq; first | refine n_seq ?_ | refine x_seq ?_)
        | (show qBlk; first | refine n_block ?_ | refine x_eq ?_)
        | (show cReg; refine aw_reg ?_)
        | (show cSeq; refine aw_seq ?_)
        | (show cExit; refine aw_exit ?_))
      exact ⟨2, by omega, rfl, by simp [Fr.get], by omega⟩
  have hi2 : i = 2 := by omega
  subst hi2
  rw [if_pos (by omega), if_pos (by omega), laid_all, laid_all]
  repeat' (first
    | (refine aw_F ?_ (hb := decide_eq_false (by omega)))
    | (show lOp; refine op0 (by first | (show kAssign; exact b_assign) | (show kMove; exact b_move) | (show kCall; exact b_lenMs) | (show kBinopLss; exact b_lss)) ?_)
    | (show lNil; refine al_nil ?_)
    | (show qSeq; first | refine n_seq ?_ | refine x_seq ?_)
    | (show qBlk; refine x_eq ?_)
    | (show cReg; refine aw_reg ?_)
    | (show cSeq; refine aw_seq ?_)
    | (show cBlk; refine aw_block ?_)
    | (show cExit; refine aw_exit ?_))
  refine kw_toA 1 (l := (List.replicate n (wordB 0)).map nameE) (by rw [List.map_map]; rfl) ?_ (hσ := rfl)
  refine kw_toA 2 (l := (List.replicate n (wordB 1)).map nameE) (by rw [List.map_map]; rfl) ?_ (hσ := rfl)
  refine kw_toT 1 rfl rfl ?_
  refine kw_toT 2 rfl rfl ?_
  refine kw_own 6 26 1 ?_ (hm := rfl) (hσ := rfl)
  refine kw_own 7 25 1 ?_ (hm := rfl) (hσ := rfl)
  skip
  refine aw_rounds (ι := Nat × List AObj × Nat × Nat) (fun i => [(0, .c (.ms 0 2)), (8, i64 i.1), (6, .c (.ms i.2.2.1 i.1)), (7, .c (.ms i.2.2.2 i.1))]) (fun i => i.2.1) (fun i => i.1 ≤ 2 ∧ FO n i.1 i.2.1 i.2.2.1 i.2.2.2) (fun i => 2 - i.1) (0, _, 3, 4) ⟨by omega, ⟨rfl, rfl, rfl, rfl, rfl⟩⟩ rfl (by simp [Fr.get]) ?_
  rintro ⟨i, σ, a6, a7⟩ ⟨hi, hF⟩
  dsimp only at hi hF ⊢
  have c0 := hF.c0
  by_cases hi0 : i = 0
  · subst hi0
    repeat' (first
      | (refine aw_T ?_ (hb := decide_eq_true (by omega)))
      | (show cAt 19; refine kw_own 10 70 2 ?_ (hm := rfl) (hσ := rfl); refine aw_reg ?_)
      | (show lOp; refine op0 (by first | (show kAssign; exact b_assign) | (show kMove; exact b_move) | (show kCall; exact b_lenMs) | (show kLoad; exact b_loadEptC (id := 0) (i := 0) c0 rfl) | (show kFieldaddr; exact b_fieldEpt) | (show kIndexaddr; exact b_indexMsC (id := 0) c0) | (show kBinopLss; exact b_lss)) ?_)
      | (show lNil; refine al_nil ?_)
      | (show qSeq; refine n_seq ?_)
      | (show cReg; refine aw_reg ?_)
      | (show cSeq; refine aw_seq ?_)
      | (show cBlk; refine aw_block ?_)
      | (show cSkip; refine aw_skip ?_))
    have hlt := get_lt hF.r2
    have hr1 : σ[1]? = some (.ext (Tl 52 3 (rw0 n 0))) := hF.r1
    have hr2 : σ[2]? = some (.ext (Tl 52 3 (rw0 n 1))) := hF.r2
    refine aw_rounds (ι := Nat × List AObj × Nat × Nat) (fun j => [(0, .c (.ms 0 2)), (8, i64 0), (6, .c (.ms a6 0)), (7, .c (.ms a7 0)), (11, i64 j.1), (9, .c (.ms j.2.2.1 (n + j.1))), (10, .c (.ms j.2.2.2 j.1))]) (fun j => j.2.1) (fun j => j.1 ≤ 20 ∧ FI n 0 j.1 1 2 (.ext (Tl 52 3 (rw0 n 1))) j.2.1 a6 a7 j.2.2.1 j.2.2.2) (fun j => 20 - j.1) (0, _, 1, σ.length) ⟨by omega, ⟨get_app hF.c0, get_app hF.l6, get_app hF.l7, get_app (by simpa using hr1), get_last rfl, .inl ⟨rfl, rfl⟩, get_app hr2, by dsimp only; omega⟩⟩ rfl (by simp [Fr.get]) ?_
    rintro ⟨j, σj, i9, i10⟩ ⟨hj, hI⟩
    dsimp only at hj hI ⊢
    by_cases hj20 : j < 20
    · have h9l : n + j = (List.replicate n (wordB 0) ++ List.replicate j (plusB 0)).length := by simp
      repeat' (first
        | (refine aw_T ?_ (hb := decide_eq_true (by omega)))
        | (show lCall; first | refine k_appT (f := nameE) (plusB 0) hI.m9 h9l ?_ | refine k_app1 (f := textE) (plusB 0) ?_ (ho := hI.m10') (hm := rfl) (hσ := rfl))
        | (show lOp; refine op0 (by first | (show kAssign; exact b_assign) | (show kMove; exact b_move) | (show kCall; exact b_call (hw0)) | (show kBinopAdd; first | exact b_strAdd (fit_plus 0) | exact b_add) | (show kBinopLss; exact b_lss) | (show kBuild; exact b_buildSt) | (show kBuildslice; exact b_buildSl1)) ?_)
        | (show lNil; refine al_nil ?_)
        | (show qSeq; refine n_seq ?_)
        | (show qBlk; refine n_block ?_)
        | (show cReg; refine aw_reg ?_)
        | (show cSeq; refine aw_seq ?_)
        | (show cBlk; refine aw_block ?_)
        | (show cSkip; refine aw_skip ?_))
      exact ⟨(j + 1, _, σj.length, σj.length + 1), ⟨by dsimp only; omega, hI.next (by omega) (by omega)⟩, rfl, by simp [Fr.get, Nat.add_assoc], by dsimp only; omega⟩
    · have hj' : j = 20 := by omega
      subst hj'
      have h9l : n + 20 = (List.replicate n (wordB 0) ++ List.replicate 20 (plusB 0)).length := by simp
      repeat' (first
        | (refine aw_F ?_ (hb := decide_eq_false (by omega)))
        | (show lAt 98; refine k_msTA (f := nameE) 9 (by decide) hI.m9 h9l ?_)
        | (show lAt 98; refine k_freezeA (f := textE) 10 ?_ (ho := hI.m10) (hσ := rfl))
        | (show lCall; first | refine k_app1 (f := e6 n) 0 ?_ (ho := hI.h6) (hm := rfl) (hσ := rfl) | refine k_app1 (f := e7) 0 ?_ (ho := hI.h7) (hm := rfl) (hσ := rfl))
        | (show lOp; refine op0 (by first | (show kAssign; exact b_assign) | (show kMove; exact b_move) | (show kBinopAdd; exact b_add) | (show kBinopLss; exact b_lss) | (show kBuildslice; exact b_buildSl1)) ?_)
        | (show lNil; refine al_nil ?_)
        | (show qSeq; first | refine n_seq ?_ | refine x_seq ?_)
        | (show qBlk; first | refine n_block ?_ | refine x_eq ?_)
        | (show cReg; refine aw_reg ?_)
        | (show cSeq; refine aw_seq ?_)
        | (show cExit; refine aw_exit ?_))
      have k1 := hI.keep hI.c0 (by omega) (by intros; intro h; cases h)
      have k2 := hI.keep hI.ownF (by omega) (by intros; intro h; cases h)
      have k3 := hI.keep hI.oth (by omega) (by intros; intro h; cases h)
      exact ⟨(1, _, σj.length, σj.length + 1), ⟨by dsimp only; omega, ⟨k1, k2, k3, hI.new6, hI.new7⟩⟩, rfl, by simp [Fr.get], by dsimp only; omega⟩
  by_cases hi1 : i = 1
  · subst hi1
    repeat' (first
      | (refine aw_T ?_ (hb := decide_eq_true (by omega)))
      | (show cAt 19; refine kw_own 10 70 2 ?_ (hm := rfl) (hσ := rfl); refine aw_reg ?_)
      | (show lOp; refine op0 (by first | (show kAssign; exact b_assign) | (show kMove; exact b_move) | (show kCall; exact b_lenMs) | (show kLoad; exact b_loadEptC (id := 0) (i := 1) c0 rfl) | (show kFieldaddr; exact b_fieldEpt) | (show kIndexaddr; exact b_indexMsC (id := 0) c0) | (show kBinopLss; exact b_lss)) ?_)
      | (show lNil; refine al_nil ?_)
      | (show qSeq; refine n_seq ?_)
      | (show cReg; refine aw_reg ?_)
      | (show cSeq; refine aw_seq ?_)
      | (show cBlk; refine aw_block ?_)
      | (show cSkip; refine aw_skip ?_))
    have hlt := get_lt hF.r2
    have hr1 : σ[1]? = some (.ext (Fz 3 (rw0 n 0))) := hF.r1
    have hr2 : σ[2]? = some (.ext (Tl 52 3 (rw0 n 1))) := hF.r2
    refine aw_rounds (ι := Nat × List AObj × Nat × Nat) (fun j => [(0, .c (.ms 0 2)), (8, i64 1), (6, .c (.ms a6 1)), (7, .c (.ms a7 1)), (11, i64 j.1), (9, .c (.ms j.2.2.1 (n + j.1))), (10, .c (.ms j.2.2.2 j.1))]) (fun j => j.2.1) (fun j => j.1 ≤ 20 ∧ FI n 1 j.1 2 1 (.ext (Fz 3 (rw0 n 0))) j.2.1 a6 a7 j.2.2.1 j.2.2.2) (fun j => 20 - j.1) (0, _, 2, σ.length) ⟨by omega, ⟨get_app hF.c0, get_app hF.l6, get_app hF.l7, get_app (by simpa using hr2), get_last rfl, .inl ⟨rfl, rfl⟩, get_app hr1, by dsimp only; omega⟩⟩ rfl (by simp [Fr.get]) ?_
    rintro ⟨j, σj, i9, i10⟩ ⟨hj, hI⟩
    dsimp only at hj hI ⊢
    by_cases hj20 : j < 20
    · have h9l : n + j = (List.replicate n (wordB 1) ++ List.replicate j (plusB 1)).length := by simp
      repeat' (first
        | (refine aw_T ?_ (hb := decide_eq_true (by omega)))
        | (show lCall; first | refine k_appT (f := nameE) (plusB 1) hI.m9 h9l ?_ | refine k_app1 (f := textE) (plusB 1) ?_ (ho := hI.m10') (hm := rfl) (hσ := rfl))
        | (show lOp; refine op0 (by first | (show kAssign; exact b_assign) | (show kMove; exact b_move) | (show kCall; exact b_call (hw1)) | (show kBinopAdd; first | exact b_strAdd (fit_plus 1) | exact b_add) | (show kBinopLss; exact b_lss) | (show kBuild; exact b_buildSt) | (show kBuildslice; exact b_buildSl1)) ?_)
        | (show lNil; refine al_nil ?_)
        | (show qSeq; refine n_seq ?_)
        | (show qBlk; refine n_block ?_)
        | (show cReg; refine aw_reg ?_)
        | (show cSeq; refine aw_seq ?_)
        | (show cBlk; refine aw_block ?_)
        | (show cSkip; refine aw_skip ?_))
      exact ⟨(j + 1, _, σj.length, σj.length + 1), ⟨by dsimp only; omega, hI.next (by omega) (by omega)⟩, rfl, by simp [Fr.get, Nat.add_assoc], by dsimp only; omega⟩
    · have hj' : j = 20 := by omega
      subst hj'
      have h9l : n + 20 = (List.replicate n (wordB 1) ++ List.replicate 20 (plusB 1)).length := by simp
      repeat' (first
        | (refine aw_F ?_ (hb := decide_eq_false (by omega)))
        | (show lAt 98; refine k_msTA (f := nameE) 9 (by decide) hI.m9 h9l ?_)
        | (show lAt 98; refine k_freezeA (f := textE) 10 ?_ (ho := hI.m10) (hσ := rfl))
        | (show lCall; first | refine k_app1 (f := e6 n) 1 ?_ (ho := hI.h6) (hm := rfl) (hσ := rfl) | refine k_app1 (f := e7) 1 ?_ (ho := hI.h7) (hm := rfl) (hσ := rfl))
        | (show lOp; refine op0 (by first | (show kAssign; exact b_assign) | (show kMove; exact b_move) | (show kBinopAdd; exact b_add) | (show kBinopLss; exact b_lss) | (show kBuildslice; exact b_buildSl1)) ?_)
        | (show lNil; refine al_nil ?_)
        | (show qSeq; first | refine n_seq ?_ | refine x_seq ?_)
        | (show qBlk; first | refine n_block ?_ | refine x_eq ?_)
        | (show cReg; refine aw_reg ?_)
        | (show cSeq; refine aw_seq ?_)
        | (show cExit; refine aw_exit ?_))
      have k1 := hI.keep hI.c0 (by omega) (by intros; intro h; cases h)
      have k2 := hI.keep hI.ownF (by omega) (by intros; intro h; cases h)
      have k3 := hI.keep hI.oth (by omega) (by intros; intro h; cases h)
      exact ⟨(2, _, σj.length, σj.length + 1), ⟨by dsimp only; omega, ⟨k1, k3, k2, hI.new6, hI.new7⟩⟩, rfl, by simp [Fr.get], by dsimp only; omega⟩
  have hi2 : i = 2 := by omega
  subst hi2
  have hr1 : σ[1]? = some (.ext (Fz 3 (rw0 n 0))) := hF.r1
  have hr2 : σ[2]? = some (.ext (Fz 3 (rw0 n 1))) := hF.r2
  have l6 := hF.l6
  have l7 := hF.l7
  have l6' : σ[a6]? = some (.arr 26 1 [e6 n 0, e6 n 1]) := hF.l6
  have l7' : σ[a7]? = some (.arr 25 1 [e7 0, e7 1]) := hF.l7
  have hne : ∀ k, plusB k ≠ wordB k := fun k h => by
    have := congrArg (fun b => b.data.size) h
    simp [plusB, wordB, wordL] at this
  repeat' (first
    | (refine aw_F ?_ (hb := decide_eq_false (by omega)))
    | (show lOp; refine op0 (by first | (show kAssign; exact b_assign) | (show kMove; exact b_move) | (show kCall; exact b_lenMs) | (show kBinopLss; exact b_lss)) ?_)
    | (show lNil; refine al_nil ?_)
    | (show qSeq; first | refine n_seq ?_ | refine x_seq ?_)
    | (show qBlk; refine x_eq ?_)
    | (show cReg; refine aw_reg ?_)
    | (show cSeq; refine aw_seq ?_)
    | (show cBlk; refine aw_block ?_)
    | (show cExit; refine aw_exit ?_))
  refine aw_rounds (ι := Nat) (fun q => [(0, .c (.ms 0 2)), (6, .c (.ms a6 2)), (7, .c (.ms a7 2)), (12, bl true), (13, i64 q)]) (fun _ => σ) (fun q => q ≤ 2) (fun q => 2 - q) 0 (by omega) rfl (by simp [Fr.get]) ?_
  rintro q hq
  by_cases hq0 : q = 0
  · subst hq0
    have hRl : (List.replicate n (wordB 0) ++ List.replicate 20 (plusB 0)).length = n + 20 := by simp
    repeat' (first
      | (refine aw_T ?_ (hb := decide_eq_true (by omega)))
      | (show lOp; refine op0 (by first | (show kAssign; exact b_assign) | (show kMove; exact b_move) | (show kCall; exact b_lenMs) | (show kBinopLss; exact b_lss)) ?_)
      | (show lNil; refine al_nil ?_)
      | (show qSeq; refine n_seq ?_)
      | (show cReg; refine aw_reg ?_)
      | (show cSeq; refine aw_seq ?_)
      | (show cBlk; refine aw_block ?_)
      | (show cSkip; refine aw_skip ?_))
    refine aw_rounds (ι := Nat) (fun j => [(0, .c (.ms 0 2)), (6, .c (.ms a6 2)), (7, .c (.ms a7 2)), (12, bl true), (13, i64 0), (14, i64 j)]) (fun _ => σ) (fun j => j ≤ n + 20) (fun j => n + 20 - j) 0 (by omega) rfl (by simp [Fr.get]) ?_
    rintro j hj
    by_cases hjl : j < n + 20
    · have hat : at' (List.replicate n (wordB 0) ++ List.replicate 20 (plusB 0)) (j : Int) = if j < n then wordB 0 else plusB 0 := by
        simp only [at', Int.toNat_natCast, List.getD_eq_getElem?_getD, List.getElem?_append, List.length_replicate, List.getElem?_replicate]
        by_cases h : j < n
        · simp [h]
        · simp [h, show j - n < 20 by omega]
      by_cases hjn : j < n
      · rw [if_pos hjn] at hat
        have hji : (j : Int) < (n : Int) := by omega
        have hcond : (decide (at' (List.replicate n (wordB 0) ++ List.replicate 20 (plusB 0)) (j : Int) = wordB 0) == decide ((j : Int) < (n : Int))) = true := by rw [hat]; simp [hjn]
        repeat' (first
          | (refine aw_T ?_ (hb := decide_eq_true (by omega)))
          | (show lOp; refine op0 (by first | (show kAssign; exact b_assign) | (show kMove; exact b_move) | (show kCall; exact m_lenSl) | (show kLoad; exact b_loadEpt (i := 0) (el := e6 n 0) (l := [e6 n 0, e6 n 1]) rfl (ho := l6')) | (show kIndexaddr; exact b_indexMs (ho := l6')) | (show kBinopAdd; exact b_add) | (show kBinopLss; exact b_lss)) ?_)
          | (show lNil; refine al_nil ?_)
          | (show qSeq; refine n_seq ?_)
          | (show qBlk; refine n_block ?_)
          | (show cReg; refine aw_reg ?_)
          | (show cSeq; refine aw_seq ?_)
          | (show cBlk; refine aw_block ?_)
          | (show cSkip; refine aw_skip ?_)
          | (show cRegD; refine aw_drN Tryd_mixed ?_)
          | (show dOp; refine ds_op (by first | (show kMove; exact b_move) | (show kPick; exact b_pickT)) ?_)
          | (show dGu; first | refine ds_none ?_ | (refine ds_yes (by first | (show kMove; exact b_move) | (show kCall; first | exact b_call (hw0) | exact b_lenMs) | (show kLoad; first | exact b_loadEptC (id := 0) (i := 0) c0 rfl | exact b_loadEpt (i := 0) (el := e6 n 0) (l := [e6 n 0, e6 n 1]) rfl (ho := l6') | exact b_loadRp) | (show kFieldaddr; first | exact b_fieldRp | exact b_fieldEpt) | (show kIndexaddr; first | exact b_indexMsC (id := 0) c0 | exact b_indexMs (ho := l6') | exact m_indexSl) | (show kBinopEql; first | exact b_eqlBool Tryd.underlying4 | exact b_strEql) | (show kBinopLss; exact b_lss) | (show kPick; exact b_pickT)) ?_))
          | (show dNil; refine ds_nil ?_))
        exact ⟨j + 1, by omega, rfl, by simp [Fr.get], by omega⟩
      · rw [if_neg hjn] at hat
        have hji : ¬ (j : Int) < (n : Int) := by omega
        have hcond : (decide (at' (List.replicate n (wordB 0) ++ List.replicate 20 (plusB 0)) (j : Int) = wordB 0) == decide ((j : Int) < (n : Int))) = true := by rw [hat]; simp [hjn, hne 0]
        repeat' (first
          | (refine aw_T ?_ (hb := decide_eq_true (by omega)))
          | (show lOp; refine op0 (by first | (show kAssign; exact b_assign) | (show kMove; exact b_move) | (show kCall; exact m_lenSl) | (show kLoad; exact b_loadEpt (i := 0) (el := e6 n 0) (l := [e6 n 0, e6 n 1]) rfl (ho := l6')) | (show kIndexaddr; exact b_indexMs (ho := l6')) | (show kBinopAdd; exact b_add) | (show kBinopLss; exact b_lss)) ?_)
          | (show lNil; refine al_nil ?_)
          | (show qSeq; refine n_seq ?_)
          | (show qBlk; refine n_block ?_)
          | (show cReg; refine aw_reg ?_)
          | (show cSeq; refine aw_seq ?_)
          | (show cBlk; refine aw_block ?_)
          | (show cSkip; refine aw_skip ?_)
          | (show cRegD; refine aw_drN Tryd_mixed ?_)
          | (show dOp; refine ds_op (by first | (show kMove; exact b_move) | (show kPick; exact b_pickT)) ?_)
          | (show dGu; (refine ds_yes (by first | (show kMove; exact b_move) | (show kCall; first | exact b_call (hw0) | exact b_lenMs) | (show kLoad; first | exact b_loadEptC (id := 0) (i := 0) c0 rfl | exact b_loadEpt (i := 0) (el := e6 n 0) (l := [e6 n 0, e6 n 1]) rfl (ho := l6') | exact b_loadRp) | (show kFieldaddr; first | exact b_fieldRp | exact b_fieldEpt) | (show kIndexaddr; first | exact b_indexMsC (id := 0) c0 | exact b_indexMs (ho := l6') | exact m_indexSl) | (show kBinopAdd; exact b_strAdd (fit_plus 0)) | (show kBinopEql; first | exact b_eqlBool Tryd.underlying4 | exact b_strEql) | (show kBinopLss; exact b_lss) | (show kPick; exact b_pickF)) ?_))
          | (show dNil; refine ds_nil ?_))
        have hv1 : decide (at' (List.replicate n (wordB 0) ++ List.replicate 20 (plusB 0)) (j : Int) = wordB 0 ++ ⟨#[43]⟩) = true := by rw [hat]; exact decide_eq_true rfl
        exact ⟨j + 1, by omega, rfl, (by intro p hp; simp only [List.mem_cons, List.not_mem_nil, or_false] at hp; rcases hp with rfl | rfl | rfl | rfl | rfl | rfl; all_goals first | rfl | exact congrArg (fun b => AV.c (C.p (PV.lit (Value.bool b)))) hv1 | (simp [Fr.get]; done)), by omega⟩
    · repeat' (first
        | (refine aw_F ?_ (hb := decide_eq_false (by omega)))
        | (show lOp; refine op0 (by first | (show kAssign; exact b_assign) | (show kMove; exact b_move) | (show kCall; exact m_lenSl) | (show kLoad; exact b_loadEpt (i := 0) (el := e6 n 0) (l := [e6 n 0, e6 n 1]) rfl (ho := l6')) | (show kIndexaddr; exact b_indexMs (ho := l6')) | (show kBinopLss; exact b_lss)) ?_)
        | (show lNil; refine al_nil ?_)
        | (show qSeq; first | refine n_seq ?_ | refine x_seq ?_)
        | (show qBlk; refine x_eq ?_)
        | (show cReg; refine aw_reg ?_)
        | (show cSeq; refine aw_seq ?_)
        | (show cBlk; refine aw_block ?_)
        | (show cExit; refine aw_exit ?_))
      refine aw_rounds (ι := Nat) (fun j => [(0, .c (.ms 0 2)), (6, .c (.ms a6 2)), (7, .c (.ms a7 2)), (12, bl true), (13, i64 0), (15, i64 j)]) (fun _ => σ) (fun j => j ≤ 20) (fun j => 20 - j) 0 (by omega) rfl (by simp [Fr.get]) ?_
      rintro j2 hj2
      have hRl2 : (List.replicate 20 (plusB 0)).length = 20 := by simp
      by_cases hjl2 : j2 < 20
      · have hat2 : at' (List.replicate 20 (plusB 0)) (j2 : Int) = plusB 0 := at'_rep hjl2
        have hji2 : ¬ (j2 : Int) < 0 := by omega
        have hcond2 : (decide (at' (List.replicate 20 (plusB 0)) (j2 : Int) = wordB 0) == decide ((j2 : Int) < 0)) = true := by rw [hat2]; simp [hne 0]
        repeat' (first
          | (refine aw_T ?_ (hb := decide_eq_true (by omega)))
          | (show lOp; refine op0 (by first | (show kAssign; exact b_assign) | (show kMove; exact b_move) | (show kCall; exact m_lenSl) | (show kLoad; exact b_loadEpt (i := 0) (el := e7 0) (l := [e7 0, e7 1]) rfl (ho := l7')) | (show kIndexaddr; exact b_indexMs (ho := l7')) | (show kBinopAdd; exact b_add) | (show kBinopLss; exact b_lss)) ?_)
          | (show lNil; refine al_nil ?_)
          | (show qSeq; refine n_seq ?_)
          | (show qBlk; refine n_block ?_)
          | (show cReg; refine aw_reg ?_)
          | (show cSeq; refine aw_seq ?_)
          | (show cBlk; refine aw_block ?_)
          | (show cSkip; refine aw_skip ?_)
          | (show cRegD; refine aw_drN Tryd_mixed ?_)
          | (show dOp; refine ds_op (by first | (show kMove; exact b_move) | (show kPick; exact b_pickT)) ?_)
          | (show dGu; (refine ds_yes (by first | (show kMove; exact b_move) | (show kCall; first | exact b_call (hw0) | exact b_lenNil) | (show kLoad; first | exact b_loadEptC (id := 0) (i := 0) c0 rfl | exact b_loadEpt (i := 0) (el := e7 0) (l := [e7 0, e7 1]) rfl (ho := l7') | exact b_loadRp) | (show kFieldaddr; first | exact b_fieldRp | exact b_fieldEpt) | (show kIndexaddr; first | exact b_indexMsC (id := 0) c0 | exact b_indexMs (ho := l7') | exact m_indexSl) | (show kBinopAdd; exact b_strAdd (fit_plus 0)) | (show kBinopEql; first | exact b_eqlBool Tryd.underlying4 | exact b_strEql) | (show kBinopLss; exact b_lss) | (show kPick; exact b_pickF)) ?_))
          | (show dNil; refine ds_nil ?_))
        have hv2 : decide (at' (List.replicate 20 (plusB 0)) (j2 : Int) = wordB 0 ++ ⟨#[43]⟩) = true := by rw [hat2]; exact decide_eq_true rfl
        exact ⟨j2 + 1, by omega, rfl, (by intro p hp; simp only [List.mem_cons, List.not_mem_nil, or_false] at hp; rcases hp with rfl | rfl | rfl | rfl | rfl | rfl; all_goals first | rfl | exact congrArg (fun b => AV.c (C.p (PV.lit (Value.bool b)))) hv2 | (simp [Fr.get]; done)), by omega⟩
      · repeat' (first
          | (refine aw_F ?_ (hb := decide_eq_false (by omega)))
          | (show lOp; refine op0 (by first | (show kAssign; exact b_assign) | (show kMove; exact b_move) | (show kCall; exact m_lenSl) | (show kLoad; exact b_loadEpt (i := 0) (el := e7 0) (l := [e7 0, e7 1]) rfl (ho := l7')) | (show kIndexaddr; exact b_indexMs (ho := l7')) | (show kBinopLss; exact b_lss)) ?_)
          | (show lNil; refine al_nil ?_)
          | (show qSeq; first | refine n_seq ?_ | refine x_seq ?_)
          | (show qBlk; refine x_eq ?_)
          | (show cReg; refine aw_reg ?_)
          | (show cSeq; refine aw_seq ?_)
          | (show cBlk; refine aw_block ?_)
          | (show cExit; refine aw_exit ?_))
        refine aw_rounds (ι := Nat) (fun j => [(0, .c (.ms 0 2)), (6, .c (.ms a6 2)), (7, .c (.ms a7 2)), (12, bl true), (13, i64 0), (16, i64 j)]) (fun _ => σ) (fun j => j ≤ n) (fun j => n - j) 0 (by omega) rfl (by simp [Fr.get]) ?_
        rintro j3 hj3
        by_cases hjl3 : j3 < n
        · have hat3 : at' (List.replicate n (wordB 0)) (j3 : Int) = wordB 0 := at'_rep hjl3
          have hRl3 : (List.replicate n (wordB 0)).length = n := by simp
          repeat' (first
            | (refine aw_T ?_ (hb := decide_eq_true (by omega)))
            | (show lOp; refine op0 (by first | (show kAssign; exact b_assign) | (show kMove; exact b_move) | (show kCall; exact b_lenMs) | (show kLoad; exact b_loadEptC (id := 0) (i := 0) c0 rfl) | (show kFieldaddr; exact b_fieldEpt) | (show kIndexaddr; exact b_indexMsC (id := 0) c0) | (show kBinopAdd; exact b_add) | (show kBinopLss; exact b_lss)) ?_)
            | (show lNil; refine al_nil ?_)
            | (show qSeq; refine n_seq ?_)
            | (show qBlk; refine n_block ?_)
            | (show cReg; refine aw_reg ?_)
            | (show cSeq; refine aw_seq ?_)
            | (show cBlk; refine aw_block ?_)
            | (show cSkip; refine aw_skip ?_)
            | (show cRegD; refine aw_drN Tryd_mixed ?_)
            | (show dOp; refine ds_op (by first | (show kMove; exact b_move) | (show kPick; exact b_pickT)) ?_)
            | (show dGu; (refine ds_yes (by first | (show kMove; exact b_move) | (show kCall; exact b_call (hw0)) | (show kLoad; first | exact b_loadEptC (id := 0) (i := 0) c0 rfl | exact b_loadRp) | (show kFieldaddr; first | exact b_fieldRp | exact b_fieldEpt) | (show kIndexaddr; first | exact b_indexF hr1 hRl3.symm | exact b_indexMsC (id := 0) c0) | (show kBinopEql; exact b_strEql)) ?_))
            | (show dNil; refine ds_nil ?_))
          have hv3 : decide (at' (List.replicate n (wordB 0)) (j3 : Int) = wordB 0) = true := by rw [hat3]; exact decide_eq_true rfl
          exact ⟨j3 + 1, by omega, rfl, (by intro p hp; simp only [List.mem_cons, List.not_mem_nil, or_false] at hp; rcases hp with rfl | rfl | rfl | rfl | rfl | rfl; all_goals first | rfl | exact congrArg (fun b => AV.c (C.p (PV.lit (Value.bool b)))) hv3 | (simp [Fr.get]; done)), by omega⟩
        · repeat' (first
            | (refine aw_F ?_ (hb := decide_eq_false (by omega)))
            | (show lOp; refine op0 (by first | (show kAssign; exact b_assign) | (show kMove; exact b_move) | (show kCall; exact b_lenMs) | (show kLoad; exact b_loadEptC (id := 0) (i := 0) c0 rfl) | (show kFieldaddr; exact b_fieldEpt) | (show kIndexaddr; exact b_indexMsC (id := 0) c0) | (show kBinopLss; exact b_lss)) ?_)
            | (show lNil; refine al_nil ?_)
            | (show qSeq; first | refine n_seq ?_ | refine x_seq ?_)
            | (show qBlk; refine x_eq ?_)
            | (show cReg; refine aw_reg ?_)
            | (show cSeq; refine aw_seq ?_)
            | (show cBlk; refine aw_block ?_)
            | (show cExit; refine aw_exit ?_))
          refine aw_rounds (ι := Nat) (fun j => [(0, .c (.ms 0 2)), (6, .c (.ms a6 2)), (7, .c (.ms a7 2)), (12, bl true), (13, i64 0), (17, i64 0)]) (fun _ => σ) (fun j => True) (fun j => j) 0 trivial rfl (by simp [Fr.get]) ?_
          rintro _ -
          repeat' (first
            | (refine aw_F ?_ (hb := decide_eq_false (by omega)))
            | (show lOp; refine op0 (by first | (show kAssign; exact b_assign) | (show kMove; exact b_move) | (show kCall; exact b_lenNil) | (show kLoad; exact b_loadEptC (id := 0) (i := 0) c0 rfl) | (show kFieldaddr; exact b_fieldEpt) | (show kIndexaddr; exact b_indexMsC (id := 0) c0) | (show kBinopAdd; exact b_add) | (show kBinopLss; exact b_lss)) ?_)
            | (show lNil; refine al_nil ?_)
            | (show qSeq; first | refine n_seq ?_ | refine x_seq ?_)
            | (show qBlk; first | refine n_block ?_ | refine x_eq ?_)
            | (show cReg; refine aw_reg ?_)
            | (show cSeq; refine aw_seq ?_)
            | (show cExit; refine aw_exit ?_))
          exact ⟨1, by omega, rfl, by simp [Fr.get], by omega⟩
  by_cases hq1 : q = 1
  · subst hq1
    have hRl : (List.replicate n (wordB 1) ++ List.replicate 20 (plusB 1)).length = n + 20 := by simp
    repeat' (first
      | (refine aw_T ?_ (hb := decide_eq_true (by omega)))
      | (show lOp; refine op0 (by first | (show kAssign; exact b_assign) | (show kMove; exact b_move) | (show kCall; exact b_lenMs) | (show kBinopLss; exact b_lss)) ?_)
      | (show lNil; refine al_nil ?_)
      | (show qSeq; refine n_seq ?_)
      | (show cReg; refine aw_reg ?_)
      | (show cSeq; refine aw_seq ?_)
      | (show cBlk; refine aw_block ?_)
      | (show cSkip; refine aw_skip ?_))
    refine aw_rounds (ι := Nat) (fun j => [(0, .c (.ms 0 2)), (6, .c (.ms a6 2)), (7, .c (.ms a7 2)), (12, bl true), (13, i64 1), (14, i64 j)]) (fun _ => σ) (fun j => j ≤ n + 20) (fun j => n + 20 - j) 0 (by omega) rfl (by simp [Fr.get]) ?_
    rintro j hj
    by_cases hjl : j < n + 20
    · have hat : at' (List.replicate n (wordB 1) ++ List.replicate 20 (plusB 1)) (j : Int) = if j < n then wordB 1 else plusB 1 := by
        simp only [at', Int.toNat_natCast, List.getD_eq_getElem?_getD, List.getElem?_append, List.length_replicate, List.getElem?_replicate]
        by_cases h : j < n
        · simp [h]
        · simp [h, show j - n < 20 by omega]
      by_cases hjn : j < n
      · rw [if_pos hjn] at hat
        have hji : (j : Int) < (n : Int) := by omega
        have hcond : (decide (at' (List.replicate n (wordB 1) ++ List.replicate 20 (plusB 1)) (j : Int) = wordB 1) == decide ((j : Int) < (n : Int))) = true := by rw [hat]; simp [hjn]
        repeat' (first
          | (refine aw_T ?_ (hb := decide_eq_true (by omega)))
          | (show lOp; refine op0 (by first | (show kAssign; exact b_assign) | (show kMove; exact b_move) | (show kCall; exact m_lenSl) | (show kLoad; exact b_loadEpt (i := 1) (el := e6 n 1) (l := [e6 n 0, e6 n 1]) rfl (ho := l6')) | (show kIndexaddr; exact b_indexMs (ho := l6')) | (show kBinopAdd; exact b_add) | (show kBinopLss; exact b_lss)) ?_)
          | (show lNil; refine al_nil ?_)
          | (show qSeq; refine n_seq ?_)
          | (show qBlk; refine n_block ?_)
          | (show cReg; refine aw_reg ?_)
          | (show cSeq; refine aw_seq ?_)
          | (show cBlk; refine aw_block ?_)
          | (show cSkip; refine aw_skip ?_)
          | (show cRegD; refine aw_drN Tryd_mixed ?_)
          | (show dOp; refine ds_op (by first | (show kMove; exact b_move) | (show kPick; exact b_pickT)) ?_)
          | (show dGu; first | refine ds_none ?_ | (refine ds_yes (by first | (show kMove; exact b_move) | (show kCall; first | exact b_call (hw1) | exact b_lenMs) | (show kLoad; first | exact b_loadEptC (id := 0) (i := 1) c0 rfl | exact b_loadEpt (i := 1) (el := e6 n 1) (l := [e6 n 0, e6 n 1]) rfl (ho := l6') | exact b_loadRp) | (show kFieldaddr; first | exact b_fieldRp | exact b_fieldEpt) | (show kIndexaddr; first | exact b_indexMsC (id := 0) c0 | exact b_indexMs (ho := l6') | exact m_indexSl) | (show kBinopEql; first | exact b_eqlBool Tryd.underlying4 | exact b_strEql) | (show kBinopLss; exact b_lss) | (show kPick; exact b_pickT)) ?_))
          | (show dNil; refine ds_nil ?_))
        exact ⟨j + 1, by omega, rfl, by simp [Fr.get], by omega⟩
      · rw [if_neg hjn] at hat
        have hji : ¬ (j : Int) < (n : Int) := by omega
        have hcond : (decide (at' (List.replicate n (wordB 1) ++ List.replicate 20 (plusB 1)) (j : Int) = wordB 1) == decide ((j : Int) < (n : Int))) = true := by rw [hat]; simp [hjn, hne 1]
        repeat' (first
          | (refine aw_T ?_ (hb := decide_eq_true (by omega)))
          | (show lOp; refine op0 (by first | (show kAssign; exact b_assign) | (show kMove; exact b_move) | (show kCall; exact m_lenSl) | (show kLoad; exact b_loadEpt (i := 1) (el := e6 n 1) (l := [e6 n 0, e6 n 1]) rfl (ho := l6')) | (show kIndexaddr; exact b_indexMs (ho := l6')) | (show kBinopAdd; exact b_add) | (show kBinopLss; exact b_lss)) ?_)
          | (show lNil; refine al_nil ?_)
          | (show qSeq; refine n_seq ?_)
          | (show qBlk; refine n_block ?_)
          | (show cReg; refine aw_reg ?_)
          | (show cSeq; refine aw_seq ?_)
          | (show cBlk; refine aw_block ?_)
          | (show cSkip; refine aw_skip ?_)
          | (show cRegD; refine aw_drN Tryd_mixed ?_)
          | (show dOp; refine ds_op (by first | (show kMove; exact b_move) | (show kPick; exact b_pickT)) ?_)
          | (show dGu; (refine ds_yes (by first | (show kMove; exact b_move) | (show kCall; first | exact b_call (hw1) | exact b_lenMs) | (show kLoad; first | exact b_loadEptC (id := 0) (i := 1) c0 rfl | exact b_loadEpt (i := 1) (el := e6 n 1) (l := [e6 n 0, e6 n 1]) rfl (ho := l6') | exact b_loadRp) | (show kFieldaddr; first | exact b_fieldRp | exact b_fieldEpt) | (show kIndexaddr; first | exact b_indexMsC (id := 0) c0 | exact b_indexMs (ho := l6') | exact m_indexSl) | (show kBinopAdd; exact b_strAdd (fit_plus 1)) | (show kBinopEql; first | exact b_eqlBool Tryd.underlying4 | exact b_strEql) | (show kBinopLss; exact b_lss) | (show kPick; exact b_pickF)) ?_))
          | (show dNil; refine ds_nil ?_))
        have hv1 : decide (at' (List.replicate n (wordB 1) ++ List.replicate 20 (plusB 1)) (j : Int) = wordB 1 ++ ⟨#[43]⟩) = true := by rw [hat]; exact decide_eq_true rfl
        exact ⟨j + 1, by omega, rfl, (by intro p hp; simp only [List.mem_cons, List.not_mem_nil, or_false] at hp; rcases hp with rfl | rfl | rfl | rfl | rfl | rfl; all_goals first | rfl | exact congrArg (fun b => AV.c (C.p (PV.lit (Value.bool b)))) hv1 | (simp [Fr.get]; done)), by omega⟩
    · repeat' (first
        | (refine aw_F ?_ (hb := decide_eq_false (by omega)))
        | (show lOp; refine op0 (by first | (show kAssign; exact b_assign) | (show kMove; exact b_move) | (show kCall; exact m_lenSl) | (show kLoad; exact b_loadEpt (i := 1) (el := e6 n 1) (l := [e6 n 0, e6 n 1]) rfl (ho := l6')) | (show kIndexaddr; exact b_indexMs (ho := l6')) | (show kBinopLss; exact b_lss)) ?_)
        | (show lNil; refine al_nil ?_)
        | (show qSeq; first | refine n_seq ?_ | refine x_seq ?_)
        | (show qBlk; refine x_eq ?_)
        | (show cReg; refine aw_reg ?_)
        | (show cSeq; refine aw_seq ?_)
        | (show cBlk; refine aw_block ?_)
        | (show cExit; refine aw_exit ?_))
      refine aw_rounds (ι := Nat) (fun j => [(0, .c (.ms 0 2)), (6, .c (.ms a6 2)), (7, .c (.ms a7 2)), (12, bl true), (13, i64 1), (15, i64 j)]) (fun _ => σ) (fun j => j ≤ 20) (fun j => 20 - j) 0 (by omega) rfl (by simp [Fr.get]) ?_
      rintro j2 hj2
      have hRl2 : (List.replicate 20 (plusB 1)).length = 20 := by simp
      by_cases hjl2 : j2 < 20
      · have hat2 : at' (List.replicate 20 (plusB 1)) (j2 : Int) = plusB 1 := at'_rep hjl2
        have hji2 : ¬ (j2 : Int) < 0 := by omega
        have hcond2 : (decide (at' (List.replicate 20 (plusB 1)) (j2 : Int) = wordB 1) == decide ((j2 : Int) < 0)) = true := by rw [hat2]; simp [hne 1]
        repeat' (first
          | (refine aw_T ?_ (hb := decide_eq_true (by omega)))
          | (show lOp; refine op0 (by first | (show kAssign; exact b_assign) | (show kMove; exact b_move) | (show kCall; exact m_lenSl) | (show kLoad; exact b_loadEpt (i := 1) (el := e7 1) (l := [e7 0, e7 1]) rfl (ho := l7')) | (show kIndexaddr; exact b_indexMs (ho := l7')) | (show kBinopAdd; exact b_add) | (show kBinopLss; exact b_lss)) ?_)
          | (show lNil; refine al_nil ?_)
          | (show qSeq; refine n_seq ?_)
          | (show qBlk; refine n_block ?_)
          | (show cReg; refine aw_reg ?_)
          | (show cSeq; refine aw_seq ?_)
          | (show cBlk; refine aw_block ?_)
          | (show cSkip; refine aw_skip ?_)
          | (show cRegD; refine aw_drN Tryd_mixed ?_)
          | (show dOp; refine ds_op (by first | (show kMove; exact b_move) | (show kPick; exact b_pickT)) ?_)
          | (show dGu; (refine ds_yes (by first | (show kMove; exact b_move) | (show kCall; first | exact b_call (hw1) | exact b_lenNil) | (show kLoad; first | exact b_loadEptC (id := 0) (i := 1) c0 rfl | exact b_loadEpt (i := 1) (el := e7 1) (l := [e7 0, e7 1]) rfl (ho := l7') | exact b_loadRp) | (show kFieldaddr; first | exact b_fieldRp | exact b_fieldEpt) | (show kIndexaddr; first | exact b_indexMsC (id := 0) c0 | exact b_indexMs (ho := l7') | exact m_indexSl) | (show kBinopAdd; exact b_strAdd (fit_plus 1)) | (show kBinopEql; first | exact b_eqlBool Tryd.underlying4 | exact b_strEql) | (show kBinopLss; exact b_lss) | (show kPick; exact b_pickF)) ?_))
          | (show dNil; refine ds_nil ?_))
        have hv2 : decide (at' (List.replicate 20 (plusB 1)) (j2 : Int) = wordB 1 ++ ⟨#[43]⟩) = true := by rw [hat2]; exact decide_eq_true rfl
        exact ⟨j2 + 1, by omega, rfl, (by intro p hp; simp only [List.mem_cons, List.not_mem_nil, or_false] at hp; rcases hp with rfl | rfl | rfl | rfl | rfl | rfl; all_goals first | rfl | exact congrArg (fun b => AV.c (C.p (PV.lit (Value.bool b)))) hv2 | (simp [Fr.get]; done)), by omega⟩
      · repeat' (first
          | (refine aw_F ?_ (hb := decide_eq_false (by omega)))
          | (show lOp; refine op0 (by first | (show kAssign; exact b_assign) | (show kMove; exact b_move) | (show kCall; exact m_lenSl) | (show kLoad; exact b_loadEpt (i := 1) (el := e7 1) (l := [e7 0, e7 1]) rfl (ho := l7')) | (show kIndexaddr; exact b_indexMs (ho := l7')) | (show kBinopLss; exact b_lss)) ?_)
          | (show lNil; refine al_nil ?_)
          | (show qSeq; first | refine n_seq ?_ | refine x_seq ?_)
          | (show qBlk; refine x_eq ?_)
          | (show cReg; refine aw_reg ?_)
          | (show cSeq; refine aw_seq ?_)
          | (show cBlk; refine aw_block ?_)
          | (show cExit; refine aw_exit ?_))
        refine aw_rounds (ι := Nat) (fun j => [(0, .c (.ms 0 2)), (6, .c (.ms a6 2)), (7, .c (.ms a7 2)), (12, bl true), (13, i64 1), (16, i64 j)]) (fun _ => σ) (fun j => j ≤ n) (fun j => n - j) 0 (by omega) rfl (by simp [Fr.get]) ?_
        rintro j3 hj3
        by_cases hjl3 : j3 < n
        · have hat3 : at' (List.replicate n (wordB 1)) (j3 : Int) = wordB 1 := at'_rep hjl3
          have hRl3 : (List.replicate n (wordB 1)).length = n := by simp
          repeat' (first
            | (refine aw_T ?_ (hb := decide_eq_true (by omega)))
            | (show lOp; refine op0 (by first | (show kAssign; exact b_assign) | (show kMove; exact b_move) | (show kCall; exact b_lenMs) | (show kLoad; exact b_loadEptC (id := 0) (i := 1) c0 rfl) | (show kFieldaddr; exact b_fieldEpt) | (show kIndexaddr; exact b_indexMsC (id := 0) c0) | (show kBinopAdd; exact b_add) | (show kBinopLss; exact b_lss)) ?_)
            | (show lNil; refine al_nil ?_)
            | (show qSeq; refine n_seq ?_)
            | (show qBlk; refine n_block ?_)
            | (show cReg; refine aw_reg ?_)
            | (show cSeq; refine aw_seq ?_)
            | (show cBlk; refine aw_block ?_)
            | (show cSkip; refine aw_skip ?_)
            | (show cRegD; refine aw_drN Tryd_mixed ?_)
            | (show dOp; refine ds_op (by first | (show kMove; exact b_move) | (show kPick; exact b_pickT)) ?_)
            | (show dGu; (refine ds_yes (by first | (show kMove; exact b_move) | (show kCall; exact b_call (hw1)) | (show kLoad; first | exact b_loadEptC (id := 0) (i := 1) c0 rfl | exact b_loadRp) | (show kFieldaddr; first | exact b_fieldRp | exact b_fieldEpt) | (show kIndexaddr; first | exact b_indexF hr2 hRl3.symm | exact b_indexMsC (id := 0) c0) | (show kBinopEql; exact b_strEql)) ?_))
            | (show dNil; refine ds_nil ?_))
          have hv3 : decide (at' (List.replicate n (wordB 1)) (j3 : Int) = wordB 1) = true := by rw [hat3]; exact decide_eq_true rfl
          exact ⟨j3 + 1, by omega, rfl, (by intro p hp; simp only [List.mem_cons, List.not_mem_nil, or_false] at hp; rcases hp with rfl | rfl | rfl | rfl | rfl | rfl; all_goals first | rfl | exact congrArg (fun b => AV.c (C.p (PV.lit (Value.bool b)))) hv3 | (simp [Fr.get]; done)), by omega⟩
        · repeat' (first
            | (refine aw_F ?_ (hb := decide_eq_false (by omega)))
            | (show lOp; refine op0 (by first | (show kAssign; exact b_assign) | (show kMove; exact b_move) | (show kCall; exact b_lenMs) | (show kLoad; exact b_loadEptC (id := 0) (i := 1) c0 rfl) | (show kFieldaddr; exact b_fieldEpt) | (show kIndexaddr; exact b_indexMsC (id := 0) c0) | (show kBinopLss; exact b_lss)) ?_)
            | (show lNil; refine al_nil ?_)
            | (show qSeq; first | refine n_seq ?_ | refine x_seq ?_)
            | (show qBlk; refine x_eq ?_)
            | (show cReg; refine aw_reg ?_)
            | (show cSeq; refine aw_seq ?_)
            | (show cBlk; refine aw_block ?_)
            | (show cExit; refine aw_exit ?_))
          refine aw_rounds (ι := Nat) (fun j => [(0, .c (.ms 0 2)), (6, .c (.ms a6 2)), (7, .c (.ms a7 2)), (12, bl true), (13, i64 1), (17, i64 0)]) (fun _ => σ) (fun j => True) (fun j => j) 0 trivial rfl (by simp [Fr.get]) ?_
          rintro _ -
          repeat' (first
            | (refine aw_F ?_ (hb := decide_eq_false (by omega)))
            | (show lOp; refine op0 (by first | (show kAssign; exact b_assign) | (show kMove; exact b_move) | (show kCall; exact b_lenNil) | (show kLoad; exact b_loadEptC (id := 0) (i := 1) c0 rfl) | (show kFieldaddr; exact b_fieldEpt) | (show kIndexaddr; exact b_indexMsC (id := 0) c0) | (show kBinopAdd; exact b_add) | (show kBinopLss; exact b_lss)) ?_)
            | (show lNil; refine al_nil ?_)
            | (show qSeq; first | refine n_seq ?_ | refine x_seq ?_)
            | (show qBlk; first | refine n_block ?_ | refine x_eq ?_)
            | (show cReg; refine aw_reg ?_)
            | (show cSeq; refine aw_seq ?_)
            | (show cExit; refine aw_exit ?_))
          exact ⟨2, by omega, rfl, by simp [Fr.get], by omega⟩
  have hq2 : q = 2 := by omega
  subst hq2
  repeat' (first
    | (refine aw_F ?_ (hb := decide_eq_false (by omega)))
    | (show lOp; refine op0 (by first | (show kAssign; exact b_assign) | (show kMove; exact b_move) | (show kCall; exact b_lenMs) | (show kBinopLss; exact b_lss)) ?_)
    | (show lNil; refine al_nil ?_)
    | (show qSeq; first | refine n_seq ?_ | refine x_seq ?_)
    | (show qBlk; refine x_eq ?_)
    | (show cReg; refine aw_reg ?_)
    | (show cSeq; refine aw_seq ?_)
    | (show cExit; refine aw_exit ?_)
    | (show cRet; refine aw_ret ?_)
    | (show eRet; refine ret1 Tryd.results25 ?_))
  rfl
end Go.AL
set_option linter.unusedVariables false
namespace Go.AL
open Go.Proofs
set_option maxRecDepth 10000
attribute [local irreducible] AWp AList RStep seqQ blockQ retQ DSteps DT awR rQ SStep
/-- What the two grammars are in memory; the bodies' objects are told by Bd. -/
structure GG (rs : List Rl) (Bd : Nat → AObj) (σ : List AObj) : Prop where
  c0 : σ[0]? = some (listC rs.length rs.length)
  r1 : σ[1]? = some (.arrC 52 3 (rowsC 3 rs rs.length))
  r2 : σ[2]? = some (.arrC 52 3 (rowsC (3 + rs.length) rs rs.length))
  bd : ∀ q, q < 2 * rs.length → σ[3 + q]? = some (Bd q)
  lt : 3 + 2 * rs.length ≤ σ.length
theorem GG.app {rs : List Rl} {Bd : Nat → AObj} {σ z : List AObj} {a : Nat} {x : AObj} (h : GG rs Bd σ) (ha : 3 + 2 * rs.length ≤ a) : GG rs Bd (σ.set a x ++ z) :=
  ⟨get_app (get_set h.c0 (by omega)), get_app (get_set h.r1 (by omega)), get_app (get_set h.r2 (by omega)), fun q hq => get_app (get_set (h.bd q hq) (by omega)), by have := h.lt; simp; omega⟩
theorem GG.grow {rs : List Rl} {Bd : Nat → AObj} {σ z : List AObj} (h : GG rs Bd σ) : GG rs Bd (σ ++ z) :=
  ⟨get_app h.c0, get_app h.r1, get_app h.r2, fun q hq => get_app (h.bd q hq), by have := h.lt; simp; omega⟩
theorem GG.body {rs : List Rl} {Bd : Nat → AObj} {σ : List AObj} {q : Nat} {x : AObj} (h : GG rs Bd σ) (hq : q < 2 * rs.length) : GG rs (fun p => if p = q then x else Bd p) (σ.set (3 + q) x) := by
  refine ⟨get_set h.c0 (by omega), get_set h.r1 (by omega), get_set h.r2 (by omega), fun p hp => ?_, by have := h.lt; simp; omega⟩
  by_cases e : p = q
  · subst e; simp only [if_true]; exact get_set_self (h.bd p hp)
  · simp only [if_neg e]; exact get_set (h.bd p hp) (by omega)
theorem rowsC_end {b : Nat} {rs : List Rl} {j : Nat} (h : j < rs.length) : (rowsC b rs rs.length)[j]? = some (rowC (at' rs (j : Int)) (.ms (b + j) (at' rs (j : Int)).body.length)) := by
  have e := at'_getElem? h
  rw [List.getElem?_eq_getElem h] at e
  injection e with e
  simp [rowsC, List.getElem?_mapIdx, h, e]
theorem rowsC_len {b : Nat} {rs : List Rl} {i : Nat} : (rowsC b rs i).length = rs.length := by simp [rowsC]
theorem GG.congr {rs : List Rl} {Bd Bd' : Nat → AObj} {σ : List AObj} (h : GG rs Bd σ) (e : ∀ q, q < 2 * rs.length → Bd q = Bd' q) : GG rs Bd' σ :=
  ⟨h.c0, h.r1, h.r2, fun q hq => by rw [← e q hq]; exact h.bd q hq, h.lt⟩
theorem GG.put {rs : List Rl} {Bd : Nat → AObj} {σ : List AObj} {q : Nat} {x y : AObj} (h : GG rs (fun p => if p = q then y else Bd p) σ) (hq : q < 2 * rs.length) : GG rs (fun p => if p = q then x else Bd p) (σ.set (3 + q) x) :=
  (h.body (x := x) hq).congr fun p _ => by
    by_cases e : p = q
    · simp [e]
    · simp [e]
def bodyLen (rs : List Rl) (q : Nat) : Nat := if q < rs.length then (at' rs (q : Int)).body.length else (at' rs ((q - rs.length : Nat) : Int)).body.length
abbrev bdA (bs : Nat → List Nd) (q : Nat) : AObj := .arr 58 10 ((bs q).map encNd)
abbrev markN (q : Nat) : Nd := nd (-((q : Int) + 1)) 0
/-- The first c bodies are written. -/
structure WL (rs : List Rl) (bs : Nat → List Nd) (c : Nat) : Prop where
  len : ∀ q, q < 2 * rs.length → (bs q).length = bodyLen rs q
  done : ∀ q, q < c → bs q = List.replicate (bodyLen rs q) (markN q)
theorem WL.next {rs : List Rl} {bs : Nat → List Nd} {c : Nat} (h : WL rs bs c) : WL rs (fun p => if p = c then List.replicate (bodyLen rs c) (markN c) else bs p) (c + 1) := by
  refine ⟨fun q hq => ?_, fun q hq => ?_⟩
  · by_cases e : q = c
    · subst e; simp
    · simp only [if_neg e]; exact h.len q hq
  · by_cases e : q = c
    · subst e; simp
    · simp only [if_neg e]; exact h.done q (by omega)
theorem GG.start {rs : List Rl} {bs : Nat → List Nd} {σ : List AObj} (h : GG rs (bdA bs) σ) (q : Nat) : GG rs (fun p => if p = q then .arr 58 10 ((bs q).map encNd) else bdA bs p) σ :=
  h.congr fun p _ => by
    by_cases e : p = q
    · subst e; simp
    · simp only [if_neg e]
theorem GG.fin {rs : List Rl} {bs : Nat → List Nd} {b X : List Nd} {q : Nat} {σ : List AObj} (h : GG rs (fun p => if p = q then .arr 58 10 (b.map encNd) else bdA bs p) σ) (e : b = X) : GG rs (bdA fun p => if p = q then X else bs p) σ := by
  subst e
  exact h.congr fun p _ => by
    by_cases e : p = q
    · subst e; simp
    · simp only [bdA, if_neg e]
/-! ### The appends -/
abbrev moreN (q : Nat) : Nd := nd (-100000 - ((q : Int) + 1)) 0
abbrev marks (rs : List Rl) (q : Nat) : List Nd := List.replicate (bodyLen rs q) (markN q)
abbrev fullB (rs : List Rl) (q k : Nat) : List Nd := marks rs q ++ List.replicate k (moreN q)
def B3 (rs : List Rl) (c q : Nat) : AObj := if q < c then .ext (Fz 10 ((marks rs q).map encNd)) else .arr 58 10 ((marks rs q).map encNd)
abbrev eB (rs : List Rl) (q : Nat) : List PV := [.sl 10 ((fullB rs q 20).map encNd)]
abbrev B4 (rs : List Rl) (c k p : Nat) : AObj := if p = c then (if k = 0 then .ext (Tl 58 10 ((marks rs c).map encNd)) else .ext (Fz 10 ((marks rs c).map encNd))) else B3 rs c p
/-- Within the appends to body c. -/
structure GI (rs : List Rl) (c k : Nat) (σ : List AObj) (a14 a11 : Nat) : Prop where
  g : GG rs (B4 rs c k) σ
  m14 : σ[a14]? = some (.ext (Tl 58 10 ((fullB rs c k).map encNd)))
  own : (k = 0 ∧ a14 = 3 + c) ∨ (0 < k ∧ 3 + 2 * rs.length ≤ a14)
  l11 : σ[a11]? = some (.arr 50 1 ((List.range c).map (eB rs)))
  n11 : 3 + 2 * rs.length ≤ a11
abbrev giσ (rs : List Rl) (c k : Nat) (σ : List AObj) (a14 : Nat) : List AObj := σ.set a14 (.ext (Fz 10 ((fullB rs c k).map encNd))) ++ [.ext (Tl 58 10 ((fullB rs c k ++ [moreN c]).map encNd))]
theorem GI.next {rs : List Rl} {c k : Nat} {σ : List AObj} {a14 a11 : Nat} (h : GI rs c k σ a14 a11) (hc : c < 2 * rs.length) : GI rs c (k + 1) (giσ rs c k σ a14) σ.length a11 := by
  have hlt := h.g.lt
  refine ⟨?_, ?_, .inr ⟨by omega, by omega⟩, get_app (get_set h.l11 (ne_get h.m14 h.l11 (by intro h; cases h))), h.n11⟩
  · rcases h.own with ⟨hk, ha⟩ | ⟨hk, ha⟩
    · subst hk; subst ha
      have h2 : GG rs (fun p => if p = c then AObj.ext (Fz 10 ((fullB rs c 0).map encNd)) else B3 rs c p) (giσ rs c 0 σ (3 + c)) := ((h.g.congr (Bd' := fun p => if p = c then AObj.ext (Tl 58 10 ((marks rs c).map encNd)) else B3 rs c p) fun p _ => by
        by_cases e : p = c
        · subst e; simp [B4]
        · simp only [B4, if_neg e]).put hc).grow
      refine h2.congr fun p _ => ?_
      by_cases e : p = c
      · subst e; simp [fullB, B4]
      · simp only [B4, if_neg e]
    · refine (h.g.app ha).congr fun p _ => ?_
      simp only [B4, if_neg (show ¬ k = 0 by omega), if_neg (show ¬ k + 1 = 0 by omega)]
  · rw [giσ, get_last (by simp), List.append_assoc, ← List.replicate_succ']
theorem GI.first {rs : List Rl} {c : Nat} {σ : List AObj} {a11 : Nat} (h : GG rs (B3 rs c) σ) (hc : c < 2 * rs.length) (l11 : σ[a11]? = some (.arr 50 1 ((List.range c).map (eB rs)))) (n11 : 3 + 2 * rs.length ≤ a11) : GI rs c 0 (σ.set (3 + c) (.ext (Tl 58 10 ((marks rs c).map encNd)))) (3 + c) a11 := by
  have hb := h.bd c hc
  refine ⟨?_, ?_, .inl ⟨rfl, rfl⟩, get_set l11 (by omega), n11⟩
  · have h2 := h.body (x := .ext (Tl 58 10 ((marks rs c).map encNd))) hc
    refine h2.congr fun p _ => ?_
    simp only [B4, if_true]
  · rw [get_set_self hb]; simp
theorem B3_self {rs : List Rl} {c : Nat} : B3 rs c c = .arr 58 10 ((marks rs c).map encNd) := by simp [B3]
theorem B3_lt {rs : List Rl} {c q : Nat} (h : q < c) : B3 rs c q = .ext (Fz 10 ((marks rs q).map encNd)) := by simp [B3, h]
abbrev gσ11 (rs : List Rl) (c : Nat) (σ : List AObj) (a11 : Nat) : List AObj := σ.set a11 .dead ++ [.arr 50 1 (((List.range c).take c ++ [c]).map (eB rs))]
theorem GI.last {rs : List Rl} {c : Nat} {σ : List AObj} {a14 a11 : Nat} (h : GI rs c 20 σ a14 a11) : GG rs (B3 rs (c + 1)) (gσ11 rs c σ a11) :=
  (h.g.app h.n11).congr fun p hp => by
    by_cases e : p = c
    · subst e; simp [B4, B3]
    · by_cases e2 : p < c
      · simp [B4, B3, e, e2, show p < c + 1 by omega]
      · simp [B4, B3, e, e2, show ¬ p < c + 1 by omega]
theorem GI.l11' {rs : List Rl} {c : Nat} {σ : List AObj} {a14 a11 : Nat} (h : GI rs c 20 σ a14 a11) : (gσ11 rs c σ a11)[σ.length]? = some (.arr 50 1 ((List.range (c + 1)).map (eB rs))) := by
  rw [gσ11, get_last (by simp), List.take_of_length_le (by simp), List.range_succ]
theorem WL.toB3 {rs : List Rl} {bs : Nat → List Nd} {σ : List AObj} (h : GG rs (bdA bs) σ) (hW : WL rs bs (2 * rs.length)) : GG rs (B3 rs 0) σ :=
  h.congr fun q hq => by simp only [bdA, hW.done q hq]; simp [B3]
theorem fullB_len {rs : List Rl} {q k : Nat} : (fullB rs q k).length = bodyLen rs q + k := by simp
theorem fullB_at {rs : List Rl} {q j : Nat} (h : j < bodyLen rs q + 20) : at' (fullB rs q 20) (j : Int) = if j < bodyLen rs q then markN q else moreN q := by
  simp only [at', Int.toNat_natCast, List.getD_eq_getElem?_getD, List.getElem?_append, List.length_replicate, List.getElem?_replicate]
  by_cases h2 : j < bodyLen rs q
  · simp [h2]
  · simp [h2, show j - bodyLen rs q < 20 by omega]
theorem eB_at {rs : List Rl} {n c : Nat} (h : c < n) : ((List.range n).map (eB rs))[((c : Int) + 1 - 1).toNat]? = some (eB rs c) := by
  rw [show ((c : Int) + 1 - 1).toNat = c by omega, List.getElem?_map, List.getElem?_range h]; rfl
theorem rowsC_any {b : Nat} {rs : List Rl} {i : Nat} : (rowsC b rs i).map (fun e => e.map fun _ => C.any) = List.replicate rs.length anyR := by
  apply List.ext_getElem?
  intro j
  simp only [rowsC, List.getElem?_map, List.getElem?_mapIdx, List.getElem?_replicate]
  by_cases h : j < rs.length
  · rw [List.getElem?_eq_getElem h, if_pos h]
    simp only [Option.map_some]
    split <;> simp [rowC, encRl]
  · rw [List.getElem?_eq_none (by omega), if_neg h]; rfl
theorem fg_pass {rs : List Rl} {Bd : Nat → AObj} {σ : List AObj} (h : GG rs Bd σ) (k : Nat) (id off : Nat) (oc : AObj) (h1 : ([(0, 0), (1, 0), (2, 0)] : List (Nat × Nat))[k]? = some (id, off)) (h2 : ([listC rs.length rs.length, .arrC 52 3 (List.replicate rs.length anyR), .arrC 52 3 (List.replicate rs.length anyR)] : List AObj)[k]? = some oc) :
    ∃ o, ((σ.set 1 (.arrC 52 3 ((rowsC 3 rs rs.length).map fun e => e.map fun _ => C.any))).set 2 (.arrC 52 3 ((rowsC (3 + rs.length) rs rs.length).map fun e => e.map fun _ => C.any)))[id]? = some o ∧ passO (ren1 [(0, 0), (1, 0), (2, 0)]) ([(0, 0), (1, 0), (2, 0)] : List (Nat × Nat)).length o off oc := by
  have hp : ∀ o, o = AObj.arrC 52 3 (List.replicate rs.length anyR) → passO (ren1 [(0, 0), (1, 0), (2, 0)]) ([(0, 0), (1, 0), (2, 0)] : List (Nat × Nat)).length o 0 (.arrC 52 3 (List.replicate rs.length anyR)) := by
    rintro o rfl
    refine ⟨?_, ?_⟩
    · rw [List.map_replicate]; rfl
    · rw [List.all_replicate]; split <;> rfl
  match k, h1, h2 with
  | 0, h1, h2 =>
    injection h1 with h1; injection h1 with h1 h1'; injection h2 with h2
    subst h1; subst h1'; subst h2
    exact ⟨_, get_set (get_set h.c0 (by decide)) (by decide), rfl, rfl⟩
  | 1, h1, h2 =>
    injection h1 with h1; injection h1 with h1 h1'; injection h2 with h2
    subst h1; subst h1'; subst h2
    exact ⟨_, get_set (get_set_self h.r1) (by decide), hp _ (by rw [rowsC_any])⟩
  | 2, h1, h2 =>
    injection h1 with h1; injection h1 with h1 h1'; injection h2 with h2
    subst h1; subst h1'; subst h2
    exact ⟨_, get_set_self (get_set h.r2 (by decide)), hp _ (by rw [rowsC_any])⟩
  | n + 3, h1, _ => cases h1
end Go.AL
set_option linter.unusedVariables false
namespace Go.AL
open Go.Proofs
set_option maxRecDepth 10000
attribute [local irreducible] AWp AList RStep seqQ blockQ retQ DSteps DT awR rQ SStep
set_option maxHeartbeats 8000000 in
theorem freeGrammars_c (rs : List Rl) (hn : rs.length ≤ 256) (hbl : ∀ r ∈ rs, r.body.length ≤ 100000) (bs : Nat → List Nd) (σ : List AObj) (hG : GG rs (bdA bs) σ) (hW : WL rs bs 0) : ACalls Tryd.prog 10 [.c (.ms 0 2)] σ (fun r _ => r = .ret (bl true)) := by
  refine acalls_by Tryd.func10 Tryd.ntmps10 ?_
  simp only [argFr]
  refine aw_seq ?_
  all_goals skip
  repeat' (first
    | (show lOp; refine op0 (by (show kAssign; exact b_assign)) ?_)
    | (show lNil; refine al_nil ?_)
    | (show qSeq; refine n_seq ?_)
    | (show cReg; refine aw_reg ?_)
    | (show cSeq; refine aw_seq ?_)
    | (show cBlk; refine aw_block ?_))
  refine kw_own 3 48 1 ?_ (hm := rfl) (hσ := rfl)
  refine aw_rounds (ι := Nat × List AObj × Nat) (fun i => [(0, .c (.ms 0 2)), (3, .c (.ms i.2.2 (i.1 * rs.length))), (4, i64 i.1)]) (fun i => i.2.1) (fun i => i.1 ≤ 2 ∧ GG rs (bdA bs) i.2.1 ∧ 3 + 2 * rs.length ≤ i.2.2 ∧ i.2.1[i.2.2]? = some (.arr 48 1 ((List.replicate (i.1 * rs.length) ()).map nilE))) (fun i => 2 - i.1) (0, _, σ.length) ⟨by omega, hG.grow, by have := hG.lt; dsimp only; omega, by simp⟩ rfl (by simp [Fr.get]) ?_
  clear hG
  rintro ⟨i, σ, a3⟩ ⟨hi, hG, ha3, h3⟩
  dsimp only at hi hG ha3 h3 ⊢
  by_cases hi0 : i = 0
  · subst hi0
    repeat' (first
      | (refine aw_T ?_ (hb := decide_eq_true (by omega)))
      | (show lOp; refine op0 (by first | (show kAssign; exact b_assign) | (show kMove; exact b_move) | (show kCall; exact b_lenMs) | (show kBinopLss; exact b_lss)) ?_)
      | (show lNil; refine al_nil ?_)
      | (show qSeq; refine n_seq ?_)
      | (show cReg; refine aw_reg ?_)
      | (show cSeq; refine aw_seq ?_)
      | (show cBlk; refine aw_block ?_)
      | (show cSkip; refine aw_skip ?_))
    refine aw_rounds (ι := Nat × List AObj × Nat) (fun j => [(0, .c (.ms 0 2)), (3, .c (.ms j.2.2 (0 * rs.length + j.1))), (4, i64 0), (5, i64 j.1)]) (fun j => j.2.1) (fun j => j.1 ≤ rs.length ∧ GG rs (bdA bs) j.2.1 ∧ 3 + 2 * rs.length ≤ j.2.2 ∧ j.2.1[j.2.2]? = some (.arr 48 1 ((List.replicate (0 * rs.length + j.1) ()).map nilE))) (fun j => rs.length - j.1) (0, σ, a3) ⟨by omega, hG, ha3, h3⟩ rfl (by simp [Fr.get]) ?_
    clear hG ha3 h3
    rintro ⟨j, σ, a3⟩ ⟨hj, hG, ha3, h3⟩
    dsimp only at hj hG ha3 h3 ⊢
    by_cases hjn : j < rs.length
    · have hrow : (rowsC 3 rs rs.length)[(j : Int).toNat]? = some (rowC (at' rs (j : Int)) (.ms (3 + j) (at' rs (j : Int)).body.length)) := by rw [Int.toNat_natCast]; exact rowsC_end hjn
      repeat' (first
        | (refine aw_T ?_ (hb := decide_eq_true (by omega)))
        | (show lCall; refine k_app1 (f := nilE) () ?_ (ho := h3) (hm := rfl) (hσ := rfl))
        | (show lOp; refine op0 (by first | (show kAssign; exact b_assign) | (show kMove; exact b_move) | (show kCall; exact b_lenMs) | (show kLoad; first | exact b_loadEptC (id := 0) (i := 0) hG.c0 rfl | exact b_loadEptC (id := 1) hG.r1 hrow) | (show kFieldaddr; exact b_fieldEpt) | (show kIndexaddr; first | exact b_indexMsC (id := 0) hG.c0 | exact b_indexMsC (id := 1) hG.r1) | (show kBinopAdd; exact b_add) | (show kBinopLss; exact b_lss) | (show kBuildslice; exact b_buildSl1)) ?_)
        | (show lNil; refine al_nil ?_)
        | (show qSeq; refine n_seq ?_)
        | (show qBlk; refine n_block ?_)
        | (show cReg; refine aw_reg ?_)
        | (show cSeq; refine aw_seq ?_)
        | (show cBlk; refine aw_block ?_)
        | (show cSkip; refine aw_skip ?_))
      have hlt := hG.lt
      refine ⟨(j + 1, _, σ.length), ⟨by dsimp only; omega, hG.app ha3, by dsimp only; omega, get_last (by simp) |>.trans ?_⟩, rfl, by simp [Fr.get, Nat.add_assoc], by dsimp only; omega⟩
      rw [List.take_of_length_le (by simp), ← Nat.add_assoc, List.replicate_succ'] 
    · have hjn' : j = rs.length := by omega
      subst hjn'
      repeat' (first
        | (refine aw_F ?_ (hb := decide_eq_false (by omega)))
        | (show lOp; refine op0 (by first | (show kAssign; exact b_assign) | (show kMove; exact b_move) | (show kCall; exact b_lenMs) | (show kLoad; exact b_loadEptC (id := 0) (i := 0) hG.c0 rfl) | (show kFieldaddr; exact b_fieldEpt) | (show kIndexaddr; exact b_indexMsC (id := 0) hG.c0) | (show kBinopAdd; exact b_add) | (show kBinopLss; exact b_lss)) ?_)
        | (show lNil; refine al_nil ?_)
        | (show qSeq; first | refine n_seq ?_ | refine x_seq ?_)
        | (show qBlk; first | refine n_block ?_ | refine x_eq ?_)
        | (show cReg; refine aw_reg ?_)
        | (show cSeq; refine aw_seq ?_)
        | (show cExit; refine aw_exit ?_))
      exact ⟨(1, σ, a3), ⟨by dsimp only; omega, hG, ha3, by dsimp only; rw [h3]; congr 4; omega⟩, rfl, by simp [Fr.get], by dsimp only; omega⟩
  by_cases hi1 : i = 1
  · subst hi1
    repeat' (first
      | (refine aw_T ?_ (hb := decide_eq_true (by omega)))
      | (show lOp; refine op0 (by first | (show kAssign; exact b_assign) | (show kMove; exact b_move) | (show kCall; exact b_lenMs) | (show kBinopLss; exact b_lss)) ?_)
      | (show lNil; refine al_nil ?_)
      | (show qSeq; refine n_seq ?_)
      | (show cReg; refine aw_reg ?_)
      | (show cSeq; refine aw_seq ?_)
      | (show cBlk; refine aw_block ?_)
      | (show cSkip; refine aw_skip ?_))
    refine aw_rounds (ι := Nat × List AObj × Nat) (fun j => [(0, .c (.ms 0 2)), (3, .c (.ms j.2.2 (1 * rs.length + j.1))), (4, i64 1), (5, i64 j.1)]) (fun j => j.2.1) (fun j => j.1 ≤ rs.length ∧ GG rs (bdA bs) j.2.1 ∧ 3 + 2 * rs.length ≤ j.2.2 ∧ j.2.1[j.2.2]? = some (.arr 48 1 ((List.replicate (1 * rs.length + j.1) ()).map nilE))) (fun j => rs.length - j.1) (0, σ, a3) ⟨by omega, hG, ha3, h3⟩ rfl (by simp [Fr.get]) ?_
    clear hG ha3 h3
    rintro ⟨j, σ, a3⟩ ⟨hj, hG, ha3, h3⟩
    dsimp only at hj hG ha3 h3 ⊢
    by_cases hjn : j < rs.length
    · have hrow : (rowsC (3 + rs.length) rs rs.length)[(j : Int).toNat]? = some (rowC (at' rs (j : Int)) (.ms ((3 + rs.length) + j) (at' rs (j : Int)).body.length)) := by rw [Int.toNat_natCast]; exact rowsC_end hjn
      repeat' (first
        | (refine aw_T ?_ (hb := decide_eq_true (by omega)))
        | (show lCall; refine k_app1 (f := nilE) () ?_ (ho := h3) (hm := rfl) (hσ := rfl))
        | (show lOp; refine op0 (by first | (show kAssign; exact b_assign) | (show kMove; exact b_move) | (show kCall; exact b_lenMs) | (show kLoad; first | exact b_loadEptC (id := 0) (i := 1) hG.c0 rfl | exact b_loadEptC (id := 2) hG.r2 hrow) | (show kFieldaddr; exact b_fieldEpt) | (show kIndexaddr; first | exact b_indexMsC (id := 0) hG.c0 | exact b_indexMsC (id := 2) hG.r2) | (show kBinopAdd; exact b_add) | (show kBinopLss; exact b_lss) | (show kBuildslice; exact b_buildSl1)) ?_)
        | (show lNil; refine al_nil ?_)
        | (show qSeq; refine n_seq ?_)
        | (show qBlk; refine n_block ?_)
        | (show cReg; refine aw_reg ?_)
        | (show cSeq; refine aw_seq ?_)
        | (show cBlk; refine aw_block ?_)
        | (show cSkip; refine aw_skip ?_))
      have hlt := hG.lt
      refine ⟨(j + 1, _, σ.length), ⟨by dsimp only; omega, hG.app ha3, by dsimp only; omega, get_last (by simp) |>.trans ?_⟩, rfl, by simp [Fr.get, Nat.add_assoc], by dsimp only; omega⟩
      rw [List.take_of_length_le (by simp), ← Nat.add_assoc, List.replicate_succ'] 
    · have hjn' : j = rs.length := by omega
      subst hjn'
      repeat' (first
        | (refine aw_F ?_ (hb := decide_eq_false (by omega)))
        | (show lOp; refine op0 (by first | (show kAssign; exact b_assign) | (show kMove; exact b_move) | (show kCall; exact b_lenMs) | (show kLoad; exact b_loadEptC (id := 0) (i := 1) hG.c0 rfl) | (show kFieldaddr; exact b_fieldEpt) | (show kIndexaddr; exact b_indexMsC (id := 0) hG.c0) | (show kBinopAdd; exact b_add) | (show kBinopLss; exact b_lss)) ?_)
        | (show lNil; refine al_nil ?_)
        | (show qSeq; first | refine n_seq ?_ | refine x_seq ?_)
        | (show qBlk; first | refine n_block ?_ | refine x_eq ?_)
        | (show cReg; refine aw_reg ?_)
        | (show cSeq; refine aw_seq ?_)
        | (show cExit; refine aw_exit ?_))
      exact ⟨(2, σ, a3), ⟨by dsimp only; omega, hG, ha3, by dsimp only; rw [h3]; congr 4; omega⟩, rfl, by simp [Fr.get]; try omega, by dsimp only; omega⟩
  have hi2 : i = 2 := by omega
  subst hi2
  have hft : ACalls Tryd.prog 24 [.c (.p (.sl 1 (((List.replicate (2 * rs.length) ()).take (2 * rs.length)).map nilE)))] [] (fun r _ => r = .ret (bl true)) := by
    rw [List.take_of_length_le (by simp)]; exact freeTexts_c _ (by omega)
  repeat' (first
    | (refine aw_F ?_ (hb := decide_eq_false (by omega)))
    | (show lAt 50; refine k_freezeM (f := nilE) 3 ?_ (ho := h3) (hσ := rfl) (hn := by simp))
    | (show lOp; refine op0 (by first | (show kAssign; exact b_assign) | (show kMove; exact b_move) | (show kCall; first | exact b_call (hft) | exact b_lenMs) | (show kBinopLss; exact b_lss)) ?_)
    | (show lNil; refine al_nil ?_)
    | (show qSeq; first | refine n_seq ?_ | refine x_seq ?_)
    | (show qBlk; refine x_eq ?_)
    | (show cReg; refine aw_reg ?_)
    | (show cSeq; refine aw_seq ?_)
    | (show cBlk; refine aw_block ?_)
    | (show cExit; refine aw_exit ?_))
  have hG1 : GG rs (bdA bs) (σ.set a3 AObj.dead) := by
    have := hG.app (x := .dead) (z := []) ha3
    rwa [List.append_nil] at this
  clear hG h3
  refine aw_rounds (ι := Nat × List AObj × (Nat → List Nd)) (fun i => [(0, .c (.ms 0 2)), (6, bl true), (7, i64 ((i.1 * rs.length : Nat) : Int)), (8, i64 i.1)]) (fun i => i.2.1) (fun i => i.1 ≤ 2 ∧ GG rs (bdA i.2.2) i.2.1 ∧ WL rs i.2.2 (i.1 * rs.length)) (fun i => 2 - i.1) (0, _, bs) ⟨by omega, hG1, by simpa using hW⟩ rfl (by simp [Fr.get]) ?_
  clear hG1 hW
  rintro ⟨i, σ, bs⟩ ⟨hi, hG, hW⟩
  dsimp only at hi hG hW ⊢
  by_cases hi0 : i = 0
  · subst hi0
    repeat' (first
      | (refine aw_T ?_ (hb := decide_eq_true (by omega)))
      | (show lOp; refine op0 (by first | (show kAssign; exact b_assign) | (show kMove; exact b_move) | (show kCall; exact b_lenMs) | (show kBinopLss; exact b_lss)) ?_)
      | (show lNil; refine al_nil ?_)
      | (show qSeq; refine n_seq ?_)
      | (show cReg; refine aw_reg ?_)
      | (show cSeq; refine aw_seq ?_)
      | (show cBlk; refine aw_block ?_)
      | (show cSkip; refine aw_skip ?_))
    refine aw_rounds (ι := Nat × List AObj × (Nat → List Nd)) (fun j => [(0, .c (.ms 0 2)), (6, bl true), (7, i64 ((0 * rs.length + j.1 : Nat) : Int)), (8, i64 0), (9, i64 j.1)]) (fun j => j.2.1) (fun j => j.1 ≤ rs.length ∧ GG rs (bdA j.2.2) j.2.1 ∧ WL rs j.2.2 (0 * rs.length + j.1)) (fun j => rs.length - j.1) (0, σ, bs) ⟨by omega, hG, hW⟩ rfl (by simp [Fr.get]) ?_
    clear hG hW
    rintro ⟨j, σ, bs⟩ ⟨hj, hG, hW⟩
    dsimp only at hj hG hW ⊢
    by_cases hjn : j < rs.length
    · have hrow : (rowsC (3) rs rs.length)[(j : Int).toNat]? = some (rowC (at' rs (j : Int)) (.ms (3 + j) (at' rs (j : Int)).body.length)) := by rw [Int.toNat_natCast]; exact rowsC_end hjn
      have hbj := hbl _ (at'_mem (show 0 ≤ (j : Int) by omega) (show (j : Int) < rs.length by omega))
      have hqn : 0 * rs.length + j < 2 * rs.length := by omega
      have hL : bodyLen rs (0 * rs.length + j) = (at' rs (j : Int)).body.length := by unfold bodyLen; rw [if_pos (by omega)]; congr 4; omega
      have hlen := hW.len _ hqn
      repeat' (first
        | (refine aw_T ?_ (hb := decide_eq_true (by omega)))
        | (show lOp; refine op0 (by first | (show kAssign; exact b_assign) | (show kMove; exact b_move) | (show kCall; exact b_lenMs) | (show kLoad; exact b_loadEptC (id := 0) (i := 0) hG.c0 rfl) | (show kFieldaddr; exact b_fieldEpt) | (show kIndexaddr; exact b_indexMsC (id := 0) hG.c0) | (show kBinopAdd; exact b_add) | (show kBinopLss; exact b_lss)) ?_)
        | (show lNil; refine al_nil ?_)
        | (show qSeq; refine n_seq ?_)
        | (show cReg; refine aw_reg ?_)
        | (show cSeq; refine aw_seq ?_)
        | (show cBlk; refine aw_block ?_)
        | (show cSkip; refine aw_skip ?_))
      refine aw_rounds (ι := Nat × List AObj × List Nd) (fun k => [(0, .c (.ms 0 2)), (6, bl true), (7, i64 (((0 * rs.length + j : Nat) : Int) + 1)), (8, i64 0), (9, i64 j), (10, i64 k.1)]) (fun k => k.2.1) (fun k => k.1 ≤ (at' rs (j : Int)).body.length ∧ k.2.2.length = (at' rs (j : Int)).body.length ∧ k.2.2.take k.1 = List.replicate k.1 (markN (0 * rs.length + j)) ∧ GG rs (fun p => if p = 0 * rs.length + j then .arr 58 10 (k.2.2.map encNd) else bdA bs p) k.2.1) (fun k => (at' rs (j : Int)).body.length - k.1) (0, σ, bs (0 * rs.length + j)) ⟨by omega, by dsimp only; omega, by simp, hG.start _⟩ rfl (by simp [Fr.get]) ?_
      clear hG
      rintro ⟨k, σ, b⟩ ⟨hk, hbl2, hbk, hG⟩
      dsimp only at hk hbl2 hbk hG ⊢
      by_cases hkl : k < (at' rs (j : Int)).body.length
      · have hb0 := hG.bd _ hqn
        simp only [if_true] at hb0
        have hb1 : σ[3 + j]? = some (.arr 58 10 (b.map encNd)) := by rw [show 3 + j = 3 + (0 * rs.length + j) by omega]; exact hb0
        repeat' (first
          | (refine aw_T ?_ (hb := decide_eq_true (by omega)))
          | (show lStore; refine k_storeElM (f := encNd) (markN (0 * rs.length + j)) ?_ (ho := hb1) (hσ := rfl))
          | (show lOp; refine op0 (by first | (show kAssign; exact b_assign) | (show kMove; exact b_move) | (show kCall; exact b_lenMs) | (show kLoad; first | exact b_loadEptC (id := 0) (i := 0) hG.c0 rfl | exact b_loadEptC (id := 1) hG.r1 hrow) | (show kFieldaddr; exact b_fieldEpt) | (show kIndexaddr; first | exact b_indexMsC (id := 0) hG.c0 | exact b_indexMsC (id := 1) hG.r1 | exact m_indexMs (ho := hb1)) | (show kBinopAdd; exact b_add) | (show kBinopLss; exact b_lss) | (show kUnopNeg; exact b_neg) | (show kBuild; exact b_buildSt)) ?_)
          | (show lNil; refine al_nil ?_)
          | (show qSeq; refine n_seq ?_)
          | (show qBlk; refine n_block ?_)
          | (show cReg; refine aw_reg ?_)
          | (show cSeq; refine aw_seq ?_)
          | (show cBlk; refine aw_block ?_)
          | (show cSkip; refine aw_skip ?_))
        have hG2 := hG.put (x := .arr 58 10 ((b.set (k : Int).toNat (markN (0 * rs.length + j))).map encNd)) hqn
        rw [show 3 + (0 * rs.length + j) = 3 + j by omega] at hG2
        exact ⟨(k + 1, _, b.set (k : Int).toNat (markN (0 * rs.length + j))), ⟨by dsimp only; omega, by rw [List.length_set]; exact hbl2, by rw [Int.toNat_natCast, take_set_next hbk (by omega), List.replicate_succ'], hG2⟩, rfl, by simp [Fr.get], by dsimp only; omega⟩
      · repeat' (first
          | (refine aw_F ?_ (hb := decide_eq_false (by omega)))
          | (show lOp; refine op0 (by first | (show kAssign; exact b_assign) | (show kMove; exact b_move) | (show kCall; exact b_lenMs) | (show kLoad; first | exact b_loadEptC (id := 0) (i := 0) hG.c0 rfl | exact b_loadEptC (id := 1) hG.r1 hrow) | (show kFieldaddr; exact b_fieldEpt) | (show kIndexaddr; first | exact b_indexMsC (id := 0) hG.c0 | exact b_indexMsC (id := 1) hG.r1) | (show kBinopAdd; exact b_add) | (show kBinopLss; exact b_lss)) ?_)
          | (show lNil; refine al_nil ?_)
          | (show qSeq; first | refine n_seq ?_ | refine x_seq ?_)
          | (show qBlk; first | refine n_block ?_ | refine x_eq ?_)
          | (show cReg; refine aw_reg ?_)
          | (show cSeq; refine aw_seq ?_)
          | (show cExit; refine aw_exit ?_))
        have hbe : b = List.replicate (bodyLen rs (0 * rs.length + j)) (markN (0 * rs.length + j)) := by rw [hL, ← List.take_of_length_le (l := b) (i := k) (by omega), hbk, show k = (at' rs (j : Int)).body.length by omega]
        exact ⟨(j + 1, σ, _), ⟨by dsimp only; omega, hG.fin hbe, hW.next⟩, rfl, by simp [Fr.get]; try omega, by dsimp only; omega⟩
    · have hjn' : j = rs.length := by omega
      subst hjn'
      repeat' (first
        | (refine aw_F ?_ (hb := decide_eq_false (by omega)))
        | (show lOp; refine op0 (by first | (show kAssign; exact b_assign) | (show kMove; exact b_move) | (show kCall; exact b_lenMs) | (show kLoad; exact b_loadEptC (id := 0) (i := 0) hG.c0 rfl) | (show kFieldaddr; exact b_fieldEpt) | (show kIndexaddr; exact b_indexMsC (id := 0) hG.c0) | (show kBinopAdd; exact b_add) | (show kBinopLss; exact b_lss)) ?_)
        | (show lNil; refine al_nil ?_)
        | (show qSeq; first | refine n_seq ?_ | refine x_seq ?_)
        | (show qBlk; first | refine n_block ?_ | refine x_eq ?_)
        | (show cReg; refine aw_reg ?_)
        | (show cSeq; refine aw_seq ?_)
        | (show cExit; refine aw_exit ?_))
      exact ⟨(1, σ, bs), ⟨by dsimp only; omega, hG, by dsimp only; rw [show 1 * rs.length = 0 * rs.length + rs.length by omega]; exact hW⟩, rfl, by simp [Fr.get]; try omega, by dsimp only; omega⟩
  by_cases hi1 : i = 1
  · subst hi1
    repeat' (first
      | (refine aw_T ?_ (hb := decide_eq_true (by omega)))
      | (show lOp; refine op0 (by first | (show kAssign; exact b_assign) | (show kMove; exact b_move) | (show kCall; exact b_lenMs) | (show kBinopLss; exact b_lss)) ?_)
      | (show lNil; refine al_nil ?_)
      | (show qSeq; refine n_seq ?_)
      | (show cReg; refine aw_reg ?_)
      | (show cSeq; refine aw_seq ?_)
      | (show cBlk; refine aw_block ?_)
      | (show cSkip; refine aw_skip ?_))
    refine aw_rounds (ι := Nat × List AObj × (Nat → List Nd)) (fun j => [(0, .c (.ms 0 2)), (6, bl true), (7, i64 ((1 * rs.length + j.1 : Nat) : Int)), (8, i64 1), (9, i64 j.1)]) (fun j => j.2.1) (fun j => j.1 ≤ rs.length ∧ GG rs (bdA j.2.2) j.2.1 ∧ WL rs j.2.2 (1 * rs.length + j.1)) (fun j => rs.length - j.1) (0, σ, bs) ⟨by omega, hG, hW⟩ rfl (by simp [Fr.get]) ?_
    clear hG hW
    rintro ⟨j, σ, bs⟩ ⟨hj, hG, hW⟩
    dsimp only at hj hG hW ⊢
    by_cases hjn : j < rs.length
    · have hrow : (rowsC (3 + rs.length) rs rs.length)[(j : Int).toNat]? = some (rowC (at' rs (j : Int)) (.ms (3 + rs.length + j) (at' rs (j : Int)).body.length)) := by rw [Int.toNat_natCast]; exact rowsC_end hjn
      have hbj := hbl _ (at'_mem (show 0 ≤ (j : Int) by omega) (show (j : Int) < rs.length by omega))
      have hqn : 1 * rs.length + j < 2 * rs.length := by omega
      have hL : bodyLen rs (1 * rs.length + j) = (at' rs (j : Int)).body.length := by unfold bodyLen; rw [if_neg (by omega)]; congr 4; omega
      have hlen := hW.len _ hqn
      repeat' (first
        | (refine aw_T ?_ (hb := decide_eq_true (by omega)))
        | (show lOp; refine op0 (by first | (show kAssign; exact b_assign) | (show kMove; exact b_move) | (show kCall; exact b_lenMs) | (show kLoad; exact b_loadEptC (id := 0) (i := 1) hG.c0 rfl) | (show kFieldaddr; exact b_fieldEpt) | (show kIndexaddr; exact b_indexMsC (id := 0) hG.c0) | (show kBinopAdd; exact b_add) | (show kBinopLss; exact b_lss)) ?_)
        | (show lNil; refine al_nil ?_)
        | (show qSeq; refine n_seq ?_)
        | (show cReg; refine aw_reg ?_)
        | (show cSeq; refine aw_seq ?_)
        | (show cBlk; refine aw_block ?_)
        | (show cSkip; refine aw_skip ?_))
      refine aw_rounds (ι := Nat × List AObj × List Nd) (fun k => [(0, .c (.ms 0 2)), (6, bl true), (7, i64 (((1 * rs.length + j : Nat) : Int) + 1)), (8, i64 1), (9, i64 j), (10, i64 k.1)]) (fun k => k.2.1) (fun k => k.1 ≤ (at' rs (j : Int)).body.length ∧ k.2.2.length = (at' rs (j : Int)).body.length ∧ k.2.2.take k.1 = List.replicate k.1 (markN (1 * rs.length + j)) ∧ GG rs (fun p => if p = 1 * rs.length + j then .arr 58 10 (k.2.2.map encNd) else bdA bs p) k.2.1) (fun k => (at' rs (j : Int)).body.length - k.1) (0, σ, bs (1 * rs.length + j)) ⟨by omega, by dsimp only; omega, by simp, hG.start _⟩ rfl (by simp [Fr.get]) ?_
      clear hG
      rintro ⟨k, σ, b⟩ ⟨hk, hbl2, hbk, hG⟩
      dsimp only at hk hbl2 hbk hG ⊢
      by_cases hkl : k < (at' rs (j : Int)).body.length
      · have hb0 := hG.bd _ hqn
        simp only [if_true] at hb0
        have hb1 : σ[3 + rs.length + j]? = some (.arr 58 10 (b.map encNd)) := by rw [show 3 + rs.length + j = 3 + (1 * rs.length + j) by omega]; exact hb0
        repeat' (first
          | (refine aw_T ?_ (hb := decide_eq_true (by omega)))
          | (show lStore; refine k_storeElM (f := encNd) (markN (1 * rs.length + j)) ?_ (ho := hb1) (hσ := rfl))
          | (show lOp; refine op0 (by first | (show kAssign; exact b_assign) | (show kMove; exact b_move) | (show kCall; exact b_lenMs) | (show kLoad; first | exact b_loadEptC (id := 0) (i := 1) hG.c0 rfl | exact b_loadEptC (id := 2) hG.r2 hrow) | (show kFieldaddr; exact b_fieldEpt) | (show kIndexaddr; first | exact b_indexMsC (id := 0) hG.c0 | exact b_indexMsC (id := 2) hG.r2 | exact m_indexMs (ho := hb1)) | (show kBinopAdd; exact b_add) | (show kBinopLss; exact b_lss) | (show kUnopNeg; exact b_neg) | (show kBuild; exact b_buildSt)) ?_)
          | (show lNil; refine al_nil ?_)
          | (show qSeq; refine n_seq ?_)
          | (show qBlk; refine n_block ?_)
          | (show cReg; refine aw_reg ?_)
          | (show cSeq; refine aw_seq ?_)
          | (show cBlk; refine aw_block ?_)
          | (show cSkip; refine aw_skip ?_))
        have hG2 := hG.put (x := .arr 58 10 ((b.set (k : Int).toNat (markN (1 * rs.length + j))).map encNd)) hqn
        rw [show 3 + (1 * rs.length + j) = 3 + rs.length + j by omega] at hG2
        exact ⟨(k + 1, _, b.set (k : Int).toNat (markN (1 * rs.length + j))), ⟨by dsimp only; omega, by rw [List.length_set]; exact hbl2, by rw [Int.toNat_natCast, take_set_next hbk (by omega), List.replicate_succ'], hG2⟩, rfl, by simp [Fr.get], by dsimp only; omega⟩
      · repeat' (first
          | (refine aw_F ?_ (hb := decide_eq_false (by omega)))
          | (show lOp; refine op0 (by first | (show kAssign; exact b_assign) | (show kMove; exact b_move) | (show kCall; exact b_lenMs) | (show kLoad; first | exact b_loadEptC (id := 0) (i := 1) hG.c0 rfl | exact b_loadEptC (id := 2) hG.r2 hrow) | (show kFieldaddr; exact b_fieldEpt) | (show kIndexaddr; first | exact b_indexMsC (id := 0) hG.c0 | exact b_indexMsC (id := 2) hG.r2) | (show kBinopAdd; exact b_add) | (show kBinopLss; exact b_lss)) ?_)
          | (show lNil; refine al_nil ?_)
          | (show qSeq; first | refine n_seq ?_ | refine x_seq ?_)
          | (show qBlk; first | refine n_block ?_ | refine x_eq ?_)
          | (show cReg; refine aw_reg ?_)
          | (show cSeq; refine aw_seq ?_)
          | (show cExit; refine aw_exit ?_))
        have hbe : b = List.replicate (bodyLen rs (1 * rs.length + j)) (markN (1 * rs.length + j)) := by rw [hL, ← List.take_of_length_le (l := b) (i := k) (by omega), hbk, show k = (at' rs (j : Int)).body.length by omega]
        exact ⟨(j + 1, σ, _), ⟨by dsimp only; omega, hG.fin hbe, hW.next⟩, rfl, by simp [Fr.get]; try omega, by dsimp only; omega⟩
    · have hjn' : j = rs.length := by omega
      subst hjn'
      repeat' (first
        | (refine aw_F ?_ (hb := decide_eq_false (by omega)))
        | (show lOp; refine op0 (by first | (show kAssign; exact b_assign) | (show kMove; exact b_move) | (show kCall; exact b_lenMs) | (show kLoad; exact b_loadEptC (id := 0) (i := 1) hG.c0 rfl) | (show kFieldaddr; exact b_fieldEpt) | (show kIndexaddr; exact b_indexMsC (id := 0) hG.c0) | (show kBinopAdd; exact b_add) | (show kBinopLss; exact b_lss)) ?_)
        | (show lNil; refine al_nil ?_)
        | (show qSeq; first | refine n_seq ?_ | refine x_seq ?_)
        | (show qBlk; first | refine n_block ?_ | refine x_eq ?_)
        | (show cReg; refine aw_reg ?_)
        | (show cSeq; refine aw_seq ?_)
        | (show cExit; refine aw_exit ?_))
      exact ⟨(2, σ, bs), ⟨by dsimp only; omega, hG, by dsimp only; rw [show 2 * rs.length = 1 * rs.length + rs.length by omega]; exact hW⟩, rfl, by simp [Fr.get]; try omega, by dsimp only; omega⟩
  have hi2 : i = 2 := by omega
  subst hi2
  have hG1 := WL.toB3 hG hW
  repeat' (first
    | (refine aw_F ?_ (hb := decide_eq_false (by omega)))
    | (show lOp; refine op0 (by first | (show kAssign; exact b_assign) | (show kMove; exact b_move) | (show kCall; exact b_lenMs) | (show kBinopLss; exact b_lss)) ?_)
    | (show lNil; refine al_nil ?_)
    | (show qSeq; first | refine n_seq ?_ | refine x_seq ?_)
    | (show qBlk; refine x_eq ?_)
    | (show cReg; refine aw_reg ?_)
    | (show cSeq; refine aw_seq ?_)
    | (show cBlk; refine aw_block ?_)
    | (show cExit; refine aw_exit ?_))
  refine kw_own 11 50 1 ?_ (hm := rfl) (hσ := rfl)
  refine aw_rounds (ι := Nat × List AObj × Nat) (fun i => [(0, .c (.ms 0 2)), (6, bl true), (7, i64 ((i.1 * rs.length : Nat) : Int)), (11, .c (.ms i.2.2 (i.1 * rs.length))), (12, i64 i.1)]) (fun i => i.2.1) (fun i => i.1 ≤ 2 ∧ GG rs (B3 rs (i.1 * rs.length)) i.2.1 ∧ 3 + 2 * rs.length ≤ i.2.2 ∧ i.2.1[i.2.2]? = some (.arr 50 1 ((List.range (i.1 * rs.length)).map (eB rs)))) (fun i => 2 - i.1) (0, _, σ.length) ⟨by omega, by rw [Nat.zero_mul]; exact hG1.grow, hG1.lt, by rw [Nat.zero_mul]; exact get_last rfl⟩ rfl (by simp [Fr.get]) ?_
  clear hG hW hG1
  rintro ⟨i, σ, a11⟩ ⟨hi, hG, hn11, hl11⟩
  dsimp only at hi hG hn11 hl11 ⊢
  by_cases hi0 : i = 0
  · subst hi0
    repeat' (first
      | (refine aw_T ?_ (hb := decide_eq_true (by omega)))
      | (show lOp; refine op0 (by first | (show kAssign; exact b_assign) | (show kMove; exact b_move) | (show kCall; exact b_lenMs) | (show kBinopLss; exact b_lss)) ?_)
      | (show lNil; refine al_nil ?_)
      | (show qSeq; refine n_seq ?_)
      | (show cReg; refine aw_reg ?_)
      | (show cSeq; refine aw_seq ?_)
      | (show cBlk; refine aw_block ?_)
      | (show cSkip; refine aw_skip ?_))
    refine aw_rounds (ι := Nat × List AObj × Nat) (fun j => [(0, .c (.ms 0 2)), (6, bl true), (7, i64 ((0 * rs.length + j.1 : Nat) : Int)), (11, .c (.ms j.2.2 (0 * rs.length + j.1))), (12, i64 0), (13, i64 j.1)]) (fun j => j.2.1) (fun j => j.1 ≤ rs.length ∧ GG rs (B3 rs (0 * rs.length + j.1)) j.2.1 ∧ 3 + 2 * rs.length ≤ j.2.2 ∧ j.2.1[j.2.2]? = some (.arr 50 1 ((List.range (0 * rs.length + j.1)).map (eB rs)))) (fun j => rs.length - j.1) (0, σ, a11) ⟨by omega, hG, hn11, hl11⟩ rfl (by simp [Fr.get]) ?_
    clear hG hn11 hl11
    rintro ⟨j, σ, a11⟩ ⟨hj, hG, hn11, hl11⟩
    dsimp only at hj hG hn11 hl11 ⊢
    by_cases hjn : j < rs.length
    · have hrow : (rowsC (3) rs rs.length)[(j : Int).toNat]? = some (rowC (at' rs (j : Int)) (.ms (3 + j) (at' rs (j : Int)).body.length)) := by rw [Int.toNat_natCast]; exact rowsC_end hjn
      have hbj := hbl _ (at'_mem (show 0 ≤ (j : Int) by omega) (show (j : Int) < rs.length by omega))
      have hqn : 0 * rs.length + j < 2 * rs.length := by omega
      have hL : bodyLen rs (0 * rs.length + j) = (at' rs (j : Int)).body.length := by unfold bodyLen; rw [if_pos (by omega)]; congr 4; omega
      have hb0 := hG.bd _ hqn
      rw [B3_self] at hb0
      have hlt := hG.lt
      have hF := GI.first hG hqn hl11 hn11
      repeat' (first
        | (refine aw_T ?_ (hb := decide_eq_true (by omega)))
        | (show lOp; refine op0 (by first | (show kAssign; exact b_assign) | (show kMove; exact b_move) | (show kCall; exact b_lenMs) | (show kLoad; first | exact b_loadEptC (id := 0) (i := 0) hG.c0 rfl | exact b_loadEptC (id := 1) hG.r1 hrow) | (show kFieldaddr; exact b_fieldEpt) | (show kIndexaddr; first | exact b_indexMsC (id := 0) hG.c0 | exact b_indexMsC (id := 1) hG.r1) | (show kBinopAdd; exact b_add) | (show kBinopLss; exact b_lss)) ?_)
        | (show lNil; refine al_nil ?_)
        | (show qSeq; refine n_seq ?_)
        | (show cReg; refine aw_reg ?_)
        | (show cSeq; refine aw_seq ?_)
        | (show cBlk; refine aw_block ?_)
        | (show cSkip; refine aw_skip ?_))
      refine kw_toT _ hb0 rfl ?_
      clear hG hl11 hn11 hb0 hlt
      refine aw_rounds (ι := Nat × List AObj × Nat) (fun k => [(0, .c (.ms 0 2)), (6, bl true), (7, i64 (((0 * rs.length + j : Nat) : Int) + 1)), (11, .c (.ms a11 (0 * rs.length + j))), (12, i64 0), (13, i64 j), (14, .c (.ms k.2.2 ((at' rs (j : Int)).body.length + k.1))), (15, i64 k.1)]) (fun k => k.2.1) (fun k => k.1 ≤ 20 ∧ GI rs (0 * rs.length + j) k.1 k.2.1 k.2.2 a11) (fun k => 20 - k.1) (0, _, 3 + (0 * rs.length + j)) ⟨by omega, hF⟩ rfl (by simp [Fr.get]; try omega) ?_
      clear hF
      rintro ⟨k, σ, a14⟩ ⟨hk, hI⟩
      dsimp only at hk hI ⊢
      have hfl : (at' rs (j : Int)).body.length + k = (fullB rs (0 * rs.length + j) k).length := by rw [fullB_len, hL]
      by_cases hk20 : k < 20
      · repeat' (first
          | (refine aw_T ?_ (hb := decide_eq_true (by omega)))
          | (show lCall; refine k_appT (f := encNd) (moreN (0 * rs.length + j)) hI.m14 hfl ?_)
          | (show lOp; refine op0 (by first | (show kAssign; exact b_assign) | (show kMove; exact b_move) | (show kBinopAdd; exact b_add) | (show kBinopSub; exact b_sub) | (show kBinopLss; exact b_lss) | (show kBuild; exact b_buildSt) | (show kBuildslice; exact b_buildSl1)) ?_)
          | (show lNil; refine al_nil ?_)
          | (show qSeq; refine n_seq ?_)
          | (show qBlk; refine n_block ?_)
          | (show cReg; refine aw_reg ?_)
          | (show cSeq; refine aw_seq ?_)
          | (show cBlk; refine aw_block ?_)
          | (show cSkip; refine aw_skip ?_))
        exact ⟨(k + 1, _, σ.length), ⟨by dsimp only; omega, hI.next hqn⟩, rfl, by simp [Fr.get, Nat.add_assoc], by dsimp only; omega⟩
      · have hk' : k = 20 := by omega
        subst hk'
        repeat' (first
          | (refine aw_F ?_ (hb := decide_eq_false (by omega)))
          | (show lAt 135; refine k_msTA (f := encNd) 14 (by decide) hI.m14 hfl ?_)
          | (show lCall; refine k_app1 (f := eB rs) (0 * rs.length + j) ?_ (ho := hI.l11) (hm := rfl) (hσ := rfl))
          | (show lOp; refine op0 (by first | (show kAssign; exact b_assign) | (show kMove; exact b_move) | (show kBinopAdd; exact b_add) | (show kBinopLss; exact b_lss) | (show kBuildslice; exact b_buildSl1)) ?_)
          | (show lNil; refine al_nil ?_)
          | (show qSeq; first | refine n_seq ?_ | refine x_seq ?_)
          | (show qBlk; first | refine n_block ?_ | refine x_eq ?_)
          | (show cReg; refine aw_reg ?_)
          | (show cSeq; refine aw_seq ?_)
          | (show cExit; refine aw_exit ?_))
        have hlt := hI.g.lt
        exact ⟨(j + 1, _, σ.length), ⟨by dsimp only; omega, hI.last, by dsimp only; omega, hI.l11'⟩, rfl, by simp [Fr.get, Nat.add_assoc]; try omega, by dsimp only; omega⟩
    · have hjn' : j = rs.length := by omega
      subst hjn'
      repeat' (first
        | (refine aw_F ?_ (hb := decide_eq_false (by omega)))
        | (show lOp; refine op0 (by first | (show kAssign; exact b_assign) | (show kMove; exact b_move) | (show kCall; exact b_lenMs) | (show kLoad; exact b_loadEptC (id := 0) (i := 0) hG.c0 rfl) | (show kFieldaddr; exact b_fieldEpt) | (show kIndexaddr; exact b_indexMsC (id := 0) hG.c0) | (show kBinopAdd; exact b_add) | (show kBinopLss; exact b_lss)) ?_)
        | (show lNil; refine al_nil ?_)
        | (show qSeq; first | refine n_seq ?_ | refine x_seq ?_)
        | (show qBlk; first | refine n_block ?_ | refine x_eq ?_)
        | (show cReg; refine aw_reg ?_)
        | (show cSeq; refine aw_seq ?_)
        | (show cExit; refine aw_exit ?_))
      have e : 0 * rs.length + rs.length = 1 * rs.length := by omega
      rw [e] at hG hl11 ⊢
      exact ⟨(1, σ, a11), ⟨by dsimp only; omega, hG, hn11, hl11⟩, rfl, by simp [Fr.get], by dsimp only; omega⟩
  by_cases hi1 : i = 1
  · subst hi1
    repeat' (first
      | (refine aw_T ?_ (hb := decide_eq_true (by omega)))
      | (show lOp; refine op0 (by first | (show kAssign; exact b_assign) | (show kMove; exact b_move) | (show kCall; exact b_lenMs) | (show kBinopLss; exact b_lss)) ?_)
      | (show lNil; refine al_nil ?_)
      | (show qSeq; refine n_seq ?_)
      | (show cReg; refine aw_reg ?_)
      | (show cSeq; refine aw_seq ?_)
      | (show cBlk; refine aw_block ?_)
      | (show cSkip; refine aw_skip ?_))
    refine aw_rounds (ι := Nat × List AObj × Nat) (fun j => [(0, .c (.ms 0 2)), (6, bl true), (7, i64 ((1 * rs.length + j.1 : Nat) : Int)), (11, .c (.ms j.2.2 (1 * rs.length + j.1))), (12, i64 1), (13, i64 j.1)]) (fun j => j.2.1) (fun j => j.1 ≤ rs.length ∧ GG rs (B3 rs (1 * rs.length + j.1)) j.2.1 ∧ 3 + 2 * rs.length ≤ j.2.2 ∧ j.2.1[j.2.2]? = some (.arr 50 1 ((List.range (1 * rs.length + j.1)).map (eB rs)))) (fun j => rs.length - j.1) (0, σ, a11) ⟨by omega, hG, hn11, hl11⟩ rfl (by simp [Fr.get]) ?_
    clear hG hn11 hl11
    rintro ⟨j, σ, a11⟩ ⟨hj, hG, hn11, hl11⟩
    dsimp only at hj hG hn11 hl11 ⊢
    by_cases hjn : j < rs.length
    · have hrow : (rowsC (3 + rs.length) rs rs.length)[(j : Int).toNat]? = some (rowC (at' rs (j : Int)) (.ms (3 + rs.length + j) (at' rs (j : Int)).body.length)) := by rw [Int.toNat_natCast]; exact rowsC_end hjn
      have hbj := hbl _ (at'_mem (show 0 ≤ (j : Int) by omega) (show (j : Int) < rs.length by omega))
      have hqn : 1 * rs.length + j < 2 * rs.length := by omega
      have hL : bodyLen rs (1 * rs.length + j) = (at' rs (j : Int)).body.length := by unfold bodyLen; rw [if_neg (by omega)]; congr 4; omega
      have hb0 := hG.bd _ hqn
      rw [B3_self] at hb0
      have hlt := hG.lt
      have hF := GI.first hG hqn hl11 hn11
      repeat' (first
        | (refine aw_T ?_ (hb := decide_eq_true (by omega)))
        | (show lOp; refine op0 (by first | (show kAssign; exact b_assign) | (show kMove; exact b_move) | (show kCall; exact b_lenMs) | (show kLoad; first | exact b_loadEptC (id := 0) (i := 1) hG.c0 rfl | exact b_loadEptC (id := 2) hG.r2 hrow) | (show kFieldaddr; exact b_fieldEpt) | (show kIndexaddr; first | exact b_indexMsC (id := 0) hG.c0 | exact b_indexMsC (id := 2) hG.r2) | (show kBinopAdd; exact b_add) | (show kBinopLss; exact b_lss)) ?_)
        | (show lNil; refine al_nil ?_)
        | (show qSeq; refine n_seq ?_)
        | (show cReg; refine aw_reg ?_)
        | (show cSeq; refine aw_seq ?_)
        | (show cBlk; refine aw_block ?_)
        | (show cSkip; refine aw_skip ?_))
      refine kw_toT _ hb0 rfl ?_
      clear hG hl11 hn11 hb0 hlt
      refine aw_rounds (ι := Nat × List AObj × Nat) (fun k => [(0, .c (.ms 0 2)), (6, bl true), (7, i64 (((1 * rs.length + j : Nat) : Int) + 1)), (11, .c (.ms a11 (1 * rs.length + j))), (12, i64 1), (13, i64 j), (14, .c (.ms k.2.2 ((at' rs (j : Int)).body.length + k.1))), (15, i64 k.1)]) (fun k => k.2.1) (fun k => k.1 ≤ 20 ∧ GI rs (1 * rs.length + j) k.1 k.2.1 k.2.2 a11) (fun k => 20 - k.1) (0, _, 3 + (1 * rs.length + j)) ⟨by omega, hF⟩ rfl (by simp [Fr.get]; try omega) ?_
      clear hF
      rintro ⟨k, σ, a14⟩ ⟨hk, hI⟩
      dsimp only at hk hI ⊢
      have hfl : (at' rs (j : Int)).body.length + k = (fullB rs (1 * rs.length + j) k).length := by rw [fullB_len, hL]
      by_cases hk20 : k < 20
      · repeat' (first
          | (refine aw_T ?_ (hb := decide_eq_true (by omega)))
          | (show lCall; refine k_appT (f := encNd) (moreN (1 * rs.length + j)) hI.m14 hfl ?_)
          | (show lOp; refine op0 (by first | (show kAssign; exact b_assign) | (show kMove; exact b_move) | (show kBinopAdd; exact b_add) | (show kBinopSub; exact b_sub) | (show kBinopLss; exact b_lss) | (show kBuild; exact b_buildSt) | (show kBuildslice; exact b_buildSl1)) ?_)
          | (show lNil; refine al_nil ?_)
          | (show qSeq; refine n_seq ?_)
          | (show qBlk; refine n_block ?_)
          | (show cReg; refine aw_reg ?_)
          | (show cSeq; refine aw_seq ?_)
          | (show cBlk; refine aw_block ?_)
          | (show cSkip; refine aw_skip ?_))
        exact ⟨(k + 1, _, σ.length), ⟨by dsimp only; omega, hI.next hqn⟩, rfl, by simp [Fr.get, Nat.add_assoc], by dsimp only; omega⟩
      · have hk' : k = 20 := by omega
        subst hk'
        repeat' (first
          | (refine aw_F ?_ (hb := decide_eq_false (by omega)))
          | (show lAt 135; refine k_msTA (f := encNd) 14 (by decide) hI.m14 hfl ?_)
          | (show lCall; refine k_app1 (f := eB rs) (1 * rs.length + j) ?_ (ho := hI.l11) (hm := rfl) (hσ := rfl))
          | (show lOp; refine op0 (by first | (show kAssign; exact b_assign) | (show kMove; exact b_move) | (show kBinopAdd; exact b_add) | (show kBinopLss; exact b_lss) | (show kBuildslice; exact b_buildSl1)) ?_)
          | (show lNil; refine al_nil ?_)
          | (show qSeq; first | refine n_seq ?_ | refine x_seq ?_)
          | (show qBlk; first | refine n_block ?_ | refine x_eq ?_)
          | (show cReg; refine aw_reg ?_)
          | (show cSeq; refine aw_seq ?_)
          | (show cExit; refine aw_exit ?_))
        have hlt := hI.g.lt
        exact ⟨(j + 1, _, σ.length), ⟨by dsimp only; omega, hI.last, by dsimp only; omega, hI.l11'⟩, rfl, by simp [Fr.get, Nat.add_assoc]; try omega, by dsimp only; omega⟩
    · have hjn' : j = rs.length := by omega
      subst hjn'
      repeat' (first
        | (refine aw_F ?_ (hb := decide_eq_false (by omega)))
        | (show lOp; refine op0 (by first | (show kAssign; exact b_assign) | (show kMove; exact b_move) | (show kCall; exact b_lenMs) | (show kLoad; exact b_loadEptC (id := 0) (i := 1) hG.c0 rfl) | (show kFieldaddr; exact b_fieldEpt) | (show kIndexaddr; exact b_indexMsC (id := 0) hG.c0) | (show kBinopAdd; exact b_add) | (show kBinopLss; exact b_lss)) ?_)
        | (show lNil; refine al_nil ?_)
        | (show qSeq; first | refine n_seq ?_ | refine x_seq ?_)
        | (show qBlk; first | refine n_block ?_ | refine x_eq ?_)
        | (show cReg; refine aw_reg ?_)
        | (show cSeq; refine aw_seq ?_)
        | (show cExit; refine aw_exit ?_))
      have e : 1 * rs.length + rs.length = 2 * rs.length := by omega
      rw [e] at hG hl11 ⊢
      exact ⟨(2, σ, a11), ⟨by dsimp only; omega, hG, hn11, hl11⟩, rfl, by simp [Fr.get], by dsimp only; omega⟩
  have hi2 : i = 2 := by omega
  subst hi2
  repeat' (first
    | (refine aw_F ?_ (hb := decide_eq_false (by omega)))
    | (show lOp; refine op0 (by first | (show kAssign; exact b_assign) | (show kMove; exact b_move) | (show kCall; exact b_lenMs) | (show kBinopLss; exact b_lss)) ?_)
    | (show lNil; refine al_nil ?_)
    | (show qSeq; first | refine n_seq ?_ | refine x_seq ?_)
    | (show qBlk; refine x_eq ?_)
    | (show cReg; refine aw_reg ?_)
    | (show cSeq; refine aw_seq ?_)
    | (show cBlk; refine aw_block ?_)
    | (show cExit; refine aw_exit ?_))
  refine aw_rounds (ι := Nat) (fun i => [(0, .c (.ms 0 2)), (6, bl true), (7, i64 ((i * rs.length : Nat) : Int)), (11, .c (.ms a11 (2 * rs.length))), (16, i64 i)]) (fun _ => σ) (fun i => i ≤ 2) (fun i => 2 - i) 0 (by omega) rfl (by simp [Fr.get]) ?_
  rintro i hi
  by_cases hi0 : i = 0
  · subst hi0
    repeat' (first
      | (refine aw_T ?_ (hb := decide_eq_true (by omega)))
      | (show lOp; refine op0 (by first | (show kAssign; exact b_assign) | (show kMove; exact b_move) | (show kCall; exact b_lenMs) | (show kBinopLss; exact b_lss)) ?_)
      | (show lNil; refine al_nil ?_)
      | (show qSeq; refine n_seq ?_)
      | (show cReg; refine aw_reg ?_)
      | (show cSeq; refine aw_seq ?_)
      | (show cBlk; refine aw_block ?_)
      | (show cSkip; refine aw_skip ?_))
    refine aw_rounds (ι := Nat) (fun j => [(0, .c (.ms 0 2)), (6, bl true), (7, i64 ((0 * rs.length + j : Nat) : Int)), (11, .c (.ms a11 (2 * rs.length))), (16, i64 0), (17, i64 j)]) (fun _ => σ) (fun j => j ≤ rs.length) (fun j => rs.length - j) 0 (by omega) rfl (by simp [Fr.get]) ?_
    rintro j hj
    by_cases hjn : j < rs.length
    · have hrow : (rowsC (3) rs rs.length)[(j : Int).toNat]? = some (rowC (at' rs (j : Int)) (.ms (3 + j) (at' rs (j : Int)).body.length)) := by rw [Int.toNat_natCast]; exact rowsC_end hjn
      have hbj := hbl _ (at'_mem (show 0 ≤ (j : Int) by omega) (show (j : Int) < rs.length by omega))
      have hqn : 0 * rs.length + j < 2 * rs.length := by omega
      have hL : bodyLen rs (0 * rs.length + j) = (at' rs (j : Int)).body.length := by unfold bodyLen; rw [if_pos (by omega)]; congr 4; omega
      have hel := eB_at (rs := rs) hqn
      have hb0 := hG.bd _ hqn
      rw [B3_lt hqn] at hb0
      have hb1 : σ[3 + j]? = some (.ext (Fz 10 ((marks rs (0 * rs.length + j)).map encNd))) := by rw [show 3 + j = 3 + (0 * rs.length + j) by omega]; exact hb0
      have hfl : (fullB rs (0 * rs.length + j) 20).length = (at' rs (j : Int)).body.length + 20 := by rw [fullB_len, hL]
      have hml : (at' rs (j : Int)).body.length = (marks rs (0 * rs.length + j)).length := by rw [List.length_replicate, hL]
      repeat' (first
        | (refine aw_T ?_ (hb := decide_eq_true (by omega)))
        | (show lOp; refine op0 (by first | (show kAssign; exact b_assign) | (show kMove; exact b_move) | (show kCall; exact b_lenMs) | (show kLoad; first | exact b_loadEptC (id := 0) (i := 0) hG.c0 rfl | exact b_loadEptC (id := 1) hG.r1 hrow) | (show kFieldaddr; exact b_fieldEpt) | (show kIndexaddr; first | exact b_indexMsC (id := 0) hG.c0 | exact b_indexMsC (id := 1) hG.r1) | (show kBinopAdd; exact b_add) | (show kBinopLss; exact b_lss)) ?_)
        | (show lNil; refine al_nil ?_)
        | (show qSeq; refine n_seq ?_)
        | (show cReg; refine aw_reg ?_)
        | (show cSeq; refine aw_seq ?_)
        | (show cBlk; refine aw_block ?_)
        | (show cSkip; refine aw_skip ?_))
      refine aw_rounds (ι := Nat) (fun k => [(0, .c (.ms 0 2)), (6, bl true), (7, i64 (((0 * rs.length + j : Nat) : Int) + 1)), (11, .c (.ms a11 (2 * rs.length))), (16, i64 0), (17, i64 j), (18, i64 (at' rs (j : Int)).body.length), (19, i64 k)]) (fun _ => σ) (fun k => k ≤ (at' rs (j : Int)).body.length + 20) (fun k => (at' rs (j : Int)).body.length + 20 - k) 0 (by omega) rfl (by simp [Fr.get]) ?_
      rintro k hk
      by_cases hkl : k < (at' rs (j : Int)).body.length + 20
      · have hat := fullB_at (rs := rs) (q := 0 * rs.length + j) (j := k) (by omega)
        by_cases hkb : k < (at' rs (j : Int)).body.length
        · rw [if_pos (by omega)] at hat
          repeat' (first
            | (refine aw_T ?_ (hb := decide_eq_true (by omega)))
            | (refine aw_F ?_ (hb := decide_eq_false (by omega)))
            | (show lOp; refine op0 (by first | (show kAssign; exact b_assign) | (show kMove; exact b_move) | (show kCall; exact m_lenSl) | (show kLoad; first | exact b_loadEpt hel (ho := hl11) | exact b_loadRp) | (show kFieldaddr; exact b_fieldRp) | (show kIndexaddr; first | exact b_indexMs (ho := hl11) | exact m_indexSl) | (show kBinopAdd; exact b_add) | (show kBinopSub; exact b_sub) | (show kBinopEql; exact b_eql) | (show kBinopLss; exact b_lss) | (show kBinopGeq; exact b_geq) | (show kPick; exact b_pickT) | (show kUnopNeg; exact b_neg)) ?_)
            | (show lGu; refine al_yes ?_)
            | (show lNil; refine al_nil ?_)
            | (show qSeq; refine n_seq ?_)
            | (show qBlk; refine n_block ?_)
            | (show cReg; refine aw_reg ?_)
            | (show cSeq; refine aw_seq ?_)
            | (show cBlk; refine aw_block ?_)
            | (show cSkip; refine aw_skip ?_))
          have hv : decide ((at' (fullB rs (0 * rs.length + j) 20) (k : Int)).op = -(((0 * rs.length + j : Nat) : Int) + 1)) = true := by rw [hat]; exact decide_eq_true rfl
          exact ⟨k + 1, by omega, rfl, (by intro p hp; simp only [List.mem_cons, List.not_mem_nil, or_false] at hp; rcases hp with rfl | rfl | rfl | rfl | rfl | rfl | rfl | rfl; all_goals first | rfl | exact congrArg (fun b => AV.c (C.p (PV.lit (Value.bool b)))) hv | (simp [Fr.get]; done)), by omega⟩
        · rw [if_neg (by omega)] at hat
          repeat' (first
            | (refine aw_T ?_ (hb := decide_eq_true (by omega)))
            | (show lOp; refine op0 (by first | (show kAssign; exact b_assign) | (show kMove; exact b_move) | (show kCall; exact m_lenSl) | (show kLoad; first | exact b_loadEpt hel (ho := hl11) | exact b_loadRp) | (show kFieldaddr; exact b_fieldRp) | (show kIndexaddr; first | exact b_indexMs (ho := hl11) | exact m_indexSl) | (show kBinopAdd; exact b_add) | (show kBinopSub; exact b_sub) | (show kBinopEql; exact b_eql) | (show kBinopLss; exact b_lss) | (show kBinopGeq; exact b_geq) | (show kPick; exact b_pickT) | (show kUnopNeg; exact b_neg)) ?_)
            | (show lGu; refine al_yes ?_)
            | (show lNil; refine al_nil ?_)
            | (show qSeq; refine n_seq ?_)
            | (show qBlk; refine n_block ?_)
            | (show cReg; refine aw_reg ?_)
            | (show cSeq; refine aw_seq ?_)
            | (show cBlk; refine aw_block ?_)
            | (show cSkip; refine aw_skip ?_))
          have hv : decide ((at' (fullB rs (0 * rs.length + j) 20) (k : Int)).op = -100000 - (((0 * rs.length + j : Nat) : Int) + 1)) = true := by rw [hat]; exact decide_eq_true rfl
          exact ⟨k + 1, by omega, rfl, (by intro p hp; simp only [List.mem_cons, List.not_mem_nil, or_false] at hp; rcases hp with rfl | rfl | rfl | rfl | rfl | rfl | rfl | rfl; all_goals first | rfl | exact congrArg (fun b => AV.c (C.p (PV.lit (Value.bool b)))) hv | (simp [Fr.get]; done)), by omega⟩
      · repeat' (first
          | (refine aw_F ?_ (hb := decide_eq_false (by omega)))
          | (show lOp; refine op0 (by first | (show kAssign; exact b_assign) | (show kMove; exact b_move) | (show kCall; exact m_lenSl) | (show kLoad; exact b_loadEpt hel (ho := hl11)) | (show kIndexaddr; exact b_indexMs (ho := hl11)) | (show kBinopSub; exact b_sub) | (show kBinopLss; exact b_lss)) ?_)
          | (show lNil; refine al_nil ?_)
          | (show qSeq; first | refine n_seq ?_ | refine x_seq ?_)
          | (show qBlk; refine x_eq ?_)
          | (show cReg; refine aw_reg ?_)
          | (show cSeq; refine aw_seq ?_)
          | (show cBlk; refine aw_block ?_)
          | (show cExit; refine aw_exit ?_))
        refine aw_rounds (ι := Nat) (fun k => [(0, .c (.ms 0 2)), (6, bl true), (7, i64 (((0 * rs.length + j : Nat) : Int) + 1)), (11, .c (.ms a11 (2 * rs.length))), (16, i64 0), (17, i64 j), (18, i64 (at' rs (j : Int)).body.length), (21, i64 k)]) (fun _ => σ) (fun k => k ≤ (at' rs (j : Int)).body.length) (fun k => (at' rs (j : Int)).body.length - k) 0 (by omega) rfl (by simp [Fr.get]) ?_
        rintro k2 hk2
        by_cases hk2l : k2 < (at' rs (j : Int)).body.length
        · have hat : at' (marks rs (0 * rs.length + j)) (k2 : Int) = markN (0 * rs.length + j) := at'_rep (by omega)
          repeat' (first
            | (refine aw_T ?_ (hb := decide_eq_true (by omega)))
            | (show lOp; refine op0 (by first | (show kAssign; exact b_assign) | (show kMove; exact b_move) | (show kLoad; first | exact b_loadEptC (id := 0) (i := 0) hG.c0 rfl | exact b_loadEptC (id := 1) hG.r1 hrow | exact b_loadRp) | (show kFieldaddr; first | exact b_fieldRp | exact b_fieldEpt) | (show kIndexaddr; first | exact b_indexMsC (id := 0) hG.c0 | exact b_indexMsC (id := 1) hG.r1 | exact b_indexF hb1 hml) | (show kBinopAdd; exact b_add) | (show kBinopEql; exact b_eql) | (show kBinopLss; exact b_lss) | (show kPick; exact b_pickT) | (show kUnopNeg; exact b_neg)) ?_)
            | (show lGu; refine al_yes ?_)
            | (show lNil; refine al_nil ?_)
            | (show qSeq; refine n_seq ?_)
            | (show qBlk; refine n_block ?_)
            | (show cReg; refine aw_reg ?_)
            | (show cSeq; refine aw_seq ?_)
            | (show cBlk; refine aw_block ?_)
            | (show cSkip; refine aw_skip ?_))
          have hv : decide ((at' (marks rs (0 * rs.length + j)) (k2 : Int)).op = -(((0 * rs.length + j : Nat) : Int) + 1)) = true := by rw [hat]; exact decide_eq_true rfl
          exact ⟨k2 + 1, by omega, rfl, (by intro p hp; simp only [List.mem_cons, List.not_mem_nil, or_false] at hp; rcases hp with rfl | rfl | rfl | rfl | rfl | rfl | rfl | rfl; all_goals first | rfl | exact congrArg (fun b => AV.c (C.p (PV.lit (Value.bool b)))) hv | (simp [Fr.get]; done)), by omega⟩
        · repeat' (first
            | (refine aw_F ?_ (hb := decide_eq_false (by omega)))
            | (show lOp; refine op0 (by first | (show kAssign; exact b_assign) | (show kMove; exact b_move) | (show kBinopAdd; exact b_add) | (show kBinopLss; exact b_lss)) ?_)
            | (show lNil; refine al_nil ?_)
            | (show qSeq; first | refine n_seq ?_ | refine x_seq ?_)
            | (show qBlk; first | refine n_block ?_ | refine x_eq ?_)
            | (show cReg; refine aw_reg ?_)
            | (show cSeq; refine aw_seq ?_)
            | (show cExit; refine aw_exit ?_))
          exact ⟨j + 1, by omega, rfl, by simp [Fr.get]; try omega, by omega⟩
    · have hjn' : j = rs.length := by omega
      subst hjn'
      repeat' (first
        | (refine aw_F ?_ (hb := decide_eq_false (by omega)))
        | (show lOp; refine op0 (by first | (show kAssign; exact b_assign) | (show kMove; exact b_move) | (show kCall; exact b_lenMs) | (show kLoad; exact b_loadEptC (id := 0) (i := 0) hG.c0 rfl) | (show kFieldaddr; exact b_fieldEpt) | (show kIndexaddr; exact b_indexMsC (id := 0) hG.c0) | (show kBinopAdd; exact b_add) | (show kBinopLss; exact b_lss)) ?_)
        | (show lNil; refine al_nil ?_)
        | (show qSeq; first | refine n_seq ?_ | refine x_seq ?_)
        | (show qBlk; first | refine n_block ?_ | refine x_eq ?_)
        | (show cReg; refine aw_reg ?_)
        | (show cSeq; refine aw_seq ?_)
        | (show cExit; refine aw_exit ?_))
      exact ⟨1, by omega, rfl, by simp [Fr.get]; try omega, by omega⟩
  by_cases hi1 : i = 1
  · subst hi1
    repeat' (first
      | (refine aw_T ?_ (hb := decide_eq_true (by omega)))
      | (show lOp; refine op0 (by first | (show kAssign; exact b_assign) | (show kMove; exact b_move) | (show kCall; exact b_lenMs) | (show kBinopLss; exact b_lss)) ?_)
      | (show lNil; refine al_nil ?_)
      | (show qSeq; refine n_seq ?_)
      | (show cReg; refine aw_reg ?_)
      | (show cSeq; refine aw_seq ?_)
      | (show cBlk; refine aw_block ?_)
      | (show cSkip; refine aw_skip ?_))
    refine aw_rounds (ι := Nat) (fun j => [(0, .c (.ms 0 2)), (6, bl true), (7, i64 ((1 * rs.length + j : Nat) : Int)), (11, .c (.ms a11 (2 * rs.length))), (16, i64 1), (17, i64 j)]) (fun _ => σ) (fun j => j ≤ rs.length) (fun j => rs.length - j) 0 (by omega) rfl (by simp [Fr.get]) ?_
    rintro j hj
    by_cases hjn : j < rs.length
    · have hrow : (rowsC (3 + rs.length) rs rs.length)[(j : Int).toNat]? = some (rowC (at' rs (j : Int)) (.ms (3 + rs.length + j) (at' rs (j : Int)).body.length)) := by rw [Int.toNat_natCast]; exact rowsC_end hjn
      have hbj := hbl _ (at'_mem (show 0 ≤ (j : Int) by omega) (show (j : Int) < rs.length by omega))
      have hqn : 1 * rs.length + j < 2 * rs.length := by omega
      have hL : bodyLen rs (1 * rs.length + j) = (at' rs (j : Int)).body.length := by unfold bodyLen; rw [if_neg (by omega)]; congr 4; omega
      have hel := eB_at (rs := rs) hqn
      have hb0 := hG.bd _ hqn
      rw [B3_lt hqn] at hb0
      have hb1 : σ[3 + rs.length + j]? = some (.ext (Fz 10 ((marks rs (1 * rs.length + j)).map encNd))) := by rw [show 3 + rs.length + j = 3 + (1 * rs.length + j) by omega]; exact hb0
      have hfl : (fullB rs (1 * rs.length + j) 20).length = (at' rs (j : Int)).body.length + 20 := by rw [fullB_len, hL]
      have hml : (at' rs (j : Int)).body.length = (marks rs (1 * rs.length + j)).length := by rw [List.length_replicate, hL]
      repeat' (first
        | (refine aw_T ?_ (hb := decide_eq_true (by omega)))
        | (show lOp; refine op0 (by first | (show kAssign; exact b_assign) | (show kMove; exact b_move) | (show kCall; exact b_lenMs) | (show kLoad; first | exact b_loadEptC (id := 0) (i := 1) hG.c0 rfl | exact b_loadEptC (id := 2) hG.r2 hrow) | (show kFieldaddr; exact b_fieldEpt) | (show kIndexaddr; first | exact b_indexMsC (id := 0) hG.c0 | exact b_indexMsC (id := 2) hG.r2) | (show kBinopAdd; exact b_add) | (show kBinopLss; exact b_lss)) ?_)
        | (show lNil; refine al_nil ?_)
        | (show qSeq; refine n_seq ?_)
        | (show cReg; refine aw_reg ?_)
        | (show cSeq; refine aw_seq ?_)
        | (show cBlk; refine aw_block ?_)
        | (show cSkip; refine aw_skip ?_))
      refine aw_rounds (ι := Nat) (fun k => [(0, .c (.ms 0 2)), (6, bl true), (7, i64 (((1 * rs.length + j : Nat) : Int) + 1)), (11, .c (.ms a11 (2 * rs.length))), (16, i64 1), (17, i64 j), (18, i64 (at' rs (j : Int)).body.length), (19, i64 k)]) (fun _ => σ) (fun k => k ≤ (at' rs (j : Int)).body.length + 20) (fun k => (at' rs (j : Int)).body.length + 20 - k) 0 (by omega) rfl (by simp [Fr.get]) ?_
      rintro k hk
      by_cases hkl : k < (at' rs (j : Int)).body.length + 20
      · have hat := fullB_at (rs := rs) (q := 1 * rs.length + j) (j := k) (by omega)
        by_cases hkb : k < (at' rs (j : Int)).body.length
        · rw [if_pos (by omega)] at hat
          repeat' (first
            | (refine aw_T ?_ (hb := decide_eq_true (by omega)))
            | (refine aw_F ?_ (hb := decide_eq_false (by omega)))
            | (show lOp; refine op0 (by first | (show kAssign; exact b_assign) | (show kMove; exact b_move) | (show kCall; exact m_lenSl) | (show kLoad; first | exact b_loadEpt hel (ho := hl11) | exact b_loadRp) | (show kFieldaddr; exact b_fieldRp) | (show kIndexaddr; first | exact b_indexMs (ho := hl11) | exact m_indexSl) | (show kBinopAdd; exact b_add) | (show kBinopSub; exact b_sub) | (show kBinopEql; exact b_eql) | (show kBinopLss; exact b_lss) | (show kBinopGeq; exact b_geq) | (show kPick; exact b_pickT) | (show kUnopNeg; exact b_neg)) ?_)
            | (show lGu; refine al_yes ?_)
            | (show lNil; refine al_nil ?_)
            | (show qSeq; refine n_seq ?_)
            | (show qBlk; refine n_block ?_)
            | (show cReg; refine aw_reg ?_)
            | (show cSeq; refine aw_seq ?_)
            | (show cBlk; refine aw_block ?_)
            | (show cSkip; refine aw_skip ?_))
          have hv : decide ((at' (fullB rs (1 * rs.length + j) 20) (k : Int)).op = -(((1 * rs.length + j : Nat) : Int) + 1)) = true := by rw [hat]; exact decide_eq_true rfl
          exact ⟨k + 1, by omega, rfl, (by intro p hp; simp only [List.mem_cons, List.not_mem_nil, or_false] at hp; rcases hp with rfl | rfl | rfl | rfl | rfl | rfl | rfl | rfl; all_goals first | rfl | exact congrArg (fun b => AV.c (C.p (PV.lit (Value.bool b)))) hv | (simp [Fr.get]; done)), by omega⟩
        · rw [if_neg (by omega)] at hat
          repeat' (first
            | (refine aw_T ?_ (hb := decide_eq_true (by omega)))
            | (show lOp; refine op0 (by first | (show kAssign; exact b_assign) | (show kMove; exact b_move) | (show kCall; exact m_lenSl) | (show kLoad; first | exact b_loadEpt hel (ho := hl11) | exact b_loadRp) | (show kFieldaddr; exact b_fieldRp) | (show kIndexaddr; first | exact b_indexMs (ho := hl11) | exact m_indexSl) | (show kBinopAdd; exact b_add) | (show kBinopSub; exact b_sub) | (show kBinopEql; exact b_eql) | (show kBinopLss; exact b_lss) | (show kBinopGeq; exact b_geq) | (show kPick; exact b_pickT) | (show kUnopNeg; exact b_neg)) ?_)
            | (show lGu; refine al_yes ?_)
            | (show lNil; refine al_nil ?_)
            | (show qSeq; refine n_seq ?_)
            | (show qBlk; refine n_block ?_)
            | (show cReg; refine aw_reg ?_)
            | (show cSeq; refine aw_seq ?_)
            | (show cBlk; refine aw_block ?_)
            | (show cSkip; refine aw_skip ?_))
          have hv : decide ((at' (fullB rs (1 * rs.length + j) 20) (k : Int)).op = -100000 - (((1 * rs.length + j : Nat) : Int) + 1)) = true := by rw [hat]; exact decide_eq_true rfl
          exact ⟨k + 1, by omega, rfl, (by intro p hp; simp only [List.mem_cons, List.not_mem_nil, or_false] at hp; rcases hp with rfl | rfl | rfl | rfl | rfl | rfl | rfl | rfl; all_goals first | rfl | exact congrArg (fun b => AV.c (C.p (PV.lit (Value.bool b)))) hv | (simp [Fr.get]; done)), by omega⟩
      · repeat' (first
          | (refine aw_F ?_ (hb := decide_eq_false (by omega)))
          | (show lOp; refine op0 (by first | (show kAssign; exact b_assign) | (show kMove; exact b_move) | (show kCall; exact m_lenSl) | (show kLoad; exact b_loadEpt hel (ho := hl11)) | (show kIndexaddr; exact b_indexMs (ho := hl11)) | (show kBinopSub; exact b_sub) | (show kBinopLss; exact b_lss)) ?_)
          | (show lNil; refine al_nil ?_)
          | (show qSeq; first | refine n_seq ?_ | refine x_seq ?_)
          | (show qBlk; refine x_eq ?_)
          | (show cReg; refine aw_reg ?_)
          | (show cSeq; refine aw_seq ?_)
          | (show cBlk; refine aw_block ?_)
          | (show cExit; refine aw_exit ?_))
        refine aw_rounds (ι := Nat) (fun k => [(0, .c (.ms 0 2)), (6, bl true), (7, i64 (((1 * rs.length + j : Nat) : Int) + 1)), (11, .c (.ms a11 (2 * rs.length))), (16, i64 1), (17, i64 j), (18, i64 (at' rs (j : Int)).body.length), (21, i64 k)]) (fun _ => σ) (fun k => k ≤ (at' rs (j : Int)).body.length) (fun k => (at' rs (j : Int)).body.length - k) 0 (by omega) rfl (by simp [Fr.get]) ?_
        rintro k2 hk2
        by_cases hk2l : k2 < (at' rs (j : Int)).body.length
        · have hat : at' (marks rs (1 * rs.length + j)) (k2 : Int) = markN (1 * rs.length + j) := at'_rep (by omega)
          repeat' (first
            | (refine aw_T ?_ (hb := decide_eq_true (by omega)))
            | (show lOp; refine op0 (by first | (show kAssign; exact b_assign) | (show kMove; exact b_move) | (show kLoad; first | exact b_loadEptC (id := 0) (i := 1) hG.c0 rfl | exact b_loadEptC (id := 2) hG.r2 hrow | exact b_loadRp) | (show kFieldaddr; first | exact b_fieldRp | exact b_fieldEpt) | (show kIndexaddr; first | exact b_indexMsC (id := 0) hG.c0 | exact b_indexMsC (id := 2) hG.r2 | exact b_indexF hb1 hml) | (show kBinopAdd; exact b_add) | (show kBinopEql; exact b_eql) | (show kBinopLss; exact b_lss) | (show kPick; exact b_pickT) | (show kUnopNeg; exact b_neg)) ?_)
            | (show lGu; refine al_yes ?_)
            | (show lNil; refine al_nil ?_)
            | (show qSeq; refine n_seq ?_)
            | (show qBlk; refine n_block ?_)
            | (show cReg; refine aw_reg ?_)
            | (show cSeq; refine aw_seq ?_)
            | (show cBlk; refine aw_block ?_)
            | (show cSkip; refine aw_skip ?_))
          have hv : decide ((at' (marks rs (1 * rs.length + j)) (k2 : Int)).op = -(((1 * rs.length + j : Nat) : Int) + 1)) = true := by rw [hat]; exact decide_eq_true rfl
          exact ⟨k2 + 1, by omega, rfl, (by intro p hp; simp only [List.mem_cons, List.not_mem_nil, or_false] at hp; rcases hp with rfl | rfl | rfl | rfl | rfl | rfl | rfl | rfl; all_goals first | rfl | exact congrArg (fun b => AV.c (C.p (PV.lit (Value.bool b)))) hv | (simp [Fr.get]; done)), by omega⟩
        · repeat' (first
            | (refine aw_F ?_ (hb := decide_eq_false (by omega)))
            | (show lOp; refine op0 (by first | (show kAssign; exact b_assign) | (show kMove; exact b_move) | (show kBinopAdd; exact b_add) | (show kBinopLss; exact b_lss)) ?_)
            | (show lNil; refine al_nil ?_)
            | (show qSeq; first | refine n_seq ?_ | refine x_seq ?_)
            | (show qBlk; first | refine n_block ?_ | refine x_eq ?_)
            | (show cReg; refine aw_reg ?_)
            | (show cSeq; refine aw_seq ?_)
            | (show cExit; refine aw_exit ?_))
          exact ⟨j + 1, by omega, rfl, by simp [Fr.get]; try omega, by omega⟩
    · have hjn' : j = rs.length := by omega
      subst hjn'
      repeat' (first
        | (refine aw_F ?_ (hb := decide_eq_false (by omega)))
        | (show lOp; refine op0 (by first | (show kAssign; exact b_assign) | (show kMove; exact b_move) | (show kCall; exact b_lenMs) | (show kLoad; exact b_loadEptC (id := 0) (i := 1) hG.c0 rfl) | (show kFieldaddr; exact b_fieldEpt) | (show kIndexaddr; exact b_indexMsC (id := 0) hG.c0) | (show kBinopAdd; exact b_add) | (show kBinopLss; exact b_lss)) ?_)
        | (show lNil; refine al_nil ?_)
        | (show qSeq; first | refine n_seq ?_ | refine x_seq ?_)
        | (show qBlk; first | refine n_block ?_ | refine x_eq ?_)
        | (show cReg; refine aw_reg ?_)
        | (show cSeq; refine aw_seq ?_)
        | (show cExit; refine aw_exit ?_))
      exact ⟨2, by omega, rfl, by simp [Fr.get]; try omega, by omega⟩
  have hi2 : i = 2 := by omega
  subst hi2
  have hfo := freeOuter_c rs.length (by omega)
  refine kw_anyC 1 hG.r1 rfl ?_
  refine kw_anyC 2 (get_set hG.r2 (by decide)) rfl ?_
  repeat' (first
    | (refine aw_F ?_ (hb := decide_eq_false (by omega)))
    | (show lAt 225; refine k_yes (k_callLast [(0, 0), (1, 0), (2, 0)] hfo rfl rfl rfl (by decide) (fg_pass hG) ?_))
    | (show lOp; refine op0 (by first | (show kAssign; exact b_assign) | (show kMove; exact b_move) | (show kCall; exact b_lenMs) | (show kBinopLss; exact b_lss) | (show kPick; exact b_pickT)) ?_)
    | (show lGu; refine al_yes ?_)
    | (show lNil; refine al_nil ?_)
    | (show qSeq; first | refine n_seq ?_ | refine x_seq ?_)
    | (show qBlk; refine x_eq ?_)
    | (show cReg; refine aw_reg ?_)
    | (show cSeq; refine aw_seq ?_)
    | (show cExit; refine aw_exit ?_)
    | (show cRet; refine aw_ret ?_)
    | (show eRet; refine ret1 Tryd.results10 ?_))
  rfl
end Go.AL
set_option linter.unusedVariables false
namespace Go.AL
open Go.Proofs
set_option maxRecDepth 10000
attribute [local irreducible] AWp AList RStep seqQ blockQ retQ DSteps DT awR rQ SStep
theorem grammarP_chk (xs : List Part) (hl : xs.length ≤ 1000000) (hck : checkF xs ≠ 0) : ACalls Tryd.prog 5 [pat xs] [.ext tabX] (fun r σ' => r = .ret (.tup [.agg [cNil, cNil], i64 (checkF xs)]) ∧ ∃ g, σ' = .ext tabX :: g) := by
  have hc := check_c xs hl
  refine acalls_by Tryd.func5 Tryd.ntmps5 ?_
  simp only [argFr]
  repeat' (first
    | (show lAlloc; refine k_alloc ?_)
    | (show lStore; refine k_store ?_)
    | (show lOp; refine op0 (by first | (show kAssign; exact b_assign) | (show kMove; exact b_move) | (show kCall; exact b_call (hc)) | (show kBinopNeq; exact b_neq) | (show kBuild; exact b_buildSt)) ?_)
    | (show lNil; refine al_nil ?_)
    | (show qSeq; first | refine n_seq ?_ | refine p_seq ?_)
    | (show cReg; refine aw_reg ?_)
    | (show cSeq; refine aw_seq ?_)
    | (show cRet; refine aw_ret ?_)
    | (show cIf; refine aw_T ?_)
    | (show eRet; refine retC2 Tryd.results5 ?_))
  exact ⟨rfl, _, rfl⟩
theorem grammarR_chk (xs : List Part) (hl : xs.length ≤ 1000000) (hck : checkF xs ≠ 0) : ACalls Tryd.prog 6 [pat xs] [] (fun r σ' => r = .ret (.tup [.agg [cNil, cNil], i64 (checkF xs)])) := by
  have hc := check18_c xs hl
  refine acalls_by Tryd.func6 Tryd.ntmps6 ?_
  simp only [argFr]
  repeat' (first
    | (show lAlloc; refine k_alloc ?_)
    | (show lStore; refine k_store ?_)
    | (show lOp; refine op0 (by first | (show kAssign; exact b_assign) | (show kMove; exact b_move) | (show kCall; exact b_call (hc)) | (show kBinopNeq; exact b_neq) | (show kBuild; exact b_buildSt)) ?_)
    | (show lNil; refine al_nil ?_)
    | (show qSeq; first | refine n_seq ?_ | refine p_seq ?_)
    | (show cReg; refine aw_reg ?_)
    | (show cSeq; refine aw_seq ?_)
    | (show cRet; refine aw_ret ?_)
    | (show cIf; refine aw_T ?_)
    | (show eRet; refine retC2 Tryd.results6 ?_))
  rfl
/-- What a call of the program's Grammar leaves. -/
def PhiG (e : Int) (rs : List Rl) (rv : AV) (news : List AObj) : Prop :=
  ∃ M, 0 < M ∧ rv = .tup [.agg [cNil, .ms M rs.length], i64 e] ∧ news = List.replicate (M - 1) .dead ++ (.arrC 52 3 (rowsC (M + 1) rs rs.length) :: clones rs rs.length)
abbrev CallG (e : Int) (rs : List Rl) (xs : List Part) : Prop := ACalls Tryd.prog 5 [pat xs] [.ext tabX] (fun r σ' => ∃ rv news, PhiG e rs rv news ∧ r = .ret rv ∧ σ' = .ext tabX :: news)
abbrev rulesP (rs : List Rl) : PV := .sl 3 (rs.map encRl)
abbrev CallR (e : Int) (rs : List Rl) (xs : List Part) : Prop := ACalls Tryd.prog 6 [pat xs] [] (fun r _ => r = .ret (.tup [.agg [cNil, .p (rulesP rs)], i64 e]))
theorem callG_bad {e : Int} {xs : List Part} (h : ACalls Tryd.prog 5 [pat xs] [.ext tabX] (fun r σ' => r = .ret (.tup [.agg [cNil, cNil], i64 e]) ∧ ∃ g, σ' = .ext tabX :: g)) : CallG e [] xs := by
  have h2 := acalls_ownNil 52 3 (σ := [.ext tabX]) (h.mono fun r σ' ⟨h1, g, h2⟩ => ⟨h1, g, h2⟩) rfl
  refine acalls_kill (h2.mono fun r σ' ⟨g, h1, h3⟩ => ?_)
  subst h1; subst h3
  refine ⟨_, ⟨_, _, ⟨1 + g.length, by omega, rfl, rfl⟩, rfl, rfl⟩, ?_⟩
  have := Kill.pad [.ext tabX] g [.arrC 52 3 []]
  rw [show 1 + g.length - 1 = g.length by omega]
  exact this
theorem callR_bad {e : Int} {xs : List Part} (h : ACalls Tryd.prog 6 [pat xs] [] (fun r σ' => r = .ret (.tup [.agg [cNil, cNil], i64 e]))) : CallR e [] xs :=
  acalls_told1 (h.mono fun r σ' h1 => ⟨_, h1, told_tup2 (told_agg2 (told_c .p) told_nil) told_lit⟩)
theorem callG_good (t : T) (ht : t.size ≤ 4096) (hck : checkF t.enc = 0) (hend : endErr (builtP t) = 0) : CallG 0 (builtP t).rules t.enc := by
  refine acalls_kill ((grammarP_good t ht hck hend).mono fun r σ' ⟨o1, o2, o3, g, M, hM, h1, h2⟩ => ?_)
  subst h1; subst h2
  refine ⟨_, ⟨_, _, ⟨M, by omega, rfl, rfl⟩, rfl, rfl⟩, ?_⟩
  have := Kill.pad [.ext tabX] (o1 :: o2 :: o3 :: g) (.arrC 52 3 (rowsC (M + 1) (builtP t).rules (builtP t).rules.length) :: clones (builtP t).rules (builtP t).rules.length)
  rw [show (o1 :: o2 :: o3 :: g).length = M - 1 by simp; omega] at this
  exact this
theorem callR_good (t : T) (ht : t.size ≤ 4096) (hck : checkF t.enc = 0) (hend : endErr (builtP t) = 0) : CallR 0 (builtP t).rules t.enc :=
  acalls_told1 ((grammarR_c t ht hck).mono fun r σ' h => by
    rcases h with ⟨h, _⟩ | ⟨_, i, h1, h2⟩
    · exact absurd hend h
    · exact ⟨_, h1, told_tup2 (told_agg2 (told_c .p) (told_c (.arr h2 (by simp) (List.take_of_length_le (by simp))))) told_lit⟩)
/-- Of any pattern: both make the same. -/
theorem calls_both (xs : List Part) (hl : xs.length ≤ 1000000) : ∃ e rs, CallG e rs xs ∧ CallR e rs xs ∧ rs.length ≤ 256 ∧ ∀ r ∈ rs, r.body.length ≤ 100000 := by
  by_cases hck : checkF xs = 0
  · have hlen : xs.length ≤ 4096 := by
      simp only [checkF] at hck
      split at hck
      · cases hck
      · omega
    have hsh : shapedGo xs 0 = true := by
      simp only [checkF] at hck
      rw [if_neg (by omega)] at hck
      split at hck
      · cases hck
      · rename_i h; simpa using h
    obtain ⟨t, rfl⟩ := tree_of_shaped hsh
    have ht : t.size ≤ 4096 := hlen
    by_cases hend : endErr (builtP t) = 0
    · exact ⟨0, (builtP t).rules, callG_good t ht hck hend, callR_good t ht hck hend, builtP_len t, builtP_small t⟩
    · refine ⟨endErr (builtP t), [], callG_bad (grammarP_bad t ht hck hend), callR_bad ((grammarR_c t ht hck).mono fun r σ' h => ?_), by simp, by simp⟩
      rcases h with ⟨_, h⟩ | ⟨h, _⟩
      · exact h
      · exact absurd h hend
  · exact ⟨checkF xs, [], callG_bad (grammarP_chk xs hl hck), callR_bad (grammarR_chk xs hl hck), by simp, by simp⟩
theorem phiG_flat {e : Int} {rs : List Rl} (rv : AV) (news : List AObj) (h : PhiG e rs rv news) : flatV rv = true ∧ news.all flatO = true := by
  obtain ⟨M, hM, rfl, rfl⟩ := h
  refine ⟨?_, ?_⟩
  · simp [flatV, flatV0, flatC, flatP, hM]
  · simp only [List.all_append, List.all_replicate, List.all_cons, Bool.and_eq_true]
    refine ⟨by split <;> rfl, ?_, ?_⟩
    · refine List.all_eq_true.2 fun a ha => ?_
      obtain ⟨j, hj, rfl⟩ := List.mem_mapIdx.1 ha
      simp [hj, rowC, flatC, flatP, Nat.blt_eq]
      omega
    · refine List.all_eq_true.2 fun o ho => ?_
      obtain ⟨r, _, rfl⟩ := List.mem_map.1 ho
      refine List.all_eq_true.2 fun a ha => ?_
      obtain ⟨x, _, rfl⟩ := List.mem_map.1 ha
      rfl
end Go.AL
set_option linter.unusedVariables false
namespace Go.AL
open Go.Proofs
set_option maxRecDepth 10000
attribute [local irreducible] AWp AList RStep seqQ blockQ retQ DSteps DT awR rQ SStep
/-- A grammar of the call's own, in memory. -/
structure GM (rs : List Rl) (A : Nat) (σ : List AObj) : Prop where
  r : σ[A]? = some (.arrC 52 3 (rowsC (A + 1) rs rs.length))
  b : ∀ j, j < rs.length → σ[A + 1 + j]? = some (.arr 58 10 ((at' rs (j : Int)).body.map encNd))
theorem GM.app {rs : List Rl} {A : Nat} {σ z : List AObj} (h : GM rs A σ) : GM rs A (σ ++ z) := ⟨get_app h.r, fun j hj => get_app (h.b j hj)⟩
theorem GM.set {rs : List Rl} {A i : Nat} {σ : List AObj} {x : AObj} (h : GM rs A σ) (hi : i < A) : GM rs A (σ.set i x) := ⟨get_set h.r (by omega), fun j hj => get_set (h.b j hj) (by omega)⟩
theorem rowsC_mv {b s : Nat} {rs : List Rl} : (rowsC (b + 1) rs rs.length).map (fun e => e.map (mvC s)) = rowsC (s + b) rs rs.length := by
  apply List.ext_getElem?
  intro j
  simp only [rowsC, List.getElem?_map, List.getElem?_mapIdx]
  by_cases h : j < rs.length
  · rw [List.getElem?_eq_getElem h]
    simp [h, rowC, mvC]
    omega
  · rw [List.getElem?_eq_none (by omega)]; rfl
theorem clones_mv {rs : List Rl} {s i : Nat} : (clones rs i).map (mvO s) = clones rs i := by
  simp only [clones, List.map_map]
  refine List.map_congr_left fun r _ => rfl
theorem clones_at {rs : List Rl} {j : Nat} (h : j < rs.length) : (clones rs rs.length)[j]? = some (.arr 58 10 ((at' rs (j : Int)).body.map encNd)) := by
  rw [clones, List.take_of_length_le (Nat.le_refl _), List.getElem?_map, at'_getElem? h]; rfl
theorem GM.new {rs : List Rl} {M : Nat} {σ : List AObj} (hM : 0 < M) : GM rs (σ.length + M - 1) (σ ++ (List.replicate (M - 1) AObj.dead ++ (.arrC 52 3 (rowsC (M + 1) rs rs.length) :: clones rs rs.length)).map (mvO σ.length)) := by
  have e : (σ ++ (List.replicate (M - 1) AObj.dead ++ (.arrC 52 3 (rowsC (M + 1) rs rs.length) :: clones rs rs.length)).map (mvO σ.length)) = (σ ++ List.replicate (M - 1) AObj.dead) ++ (.arrC 52 3 (rowsC (σ.length + M - 1 + 1) rs rs.length) :: clones rs rs.length) := by
    rw [List.map_append, List.map_replicate, List.map_cons, clones_mv, List.append_assoc]
    simp only [mvO, rowsC_mv]
    rw [show σ.length + M - 1 + 1 = σ.length + M by omega]
  have hl : (σ ++ List.replicate (M - 1) AObj.dead).length = σ.length + M - 1 := by simp; omega
  rw [e]
  refine ⟨?_, fun j hj => ?_⟩
  · rw [List.getElem?_append_right (by omega), hl, Nat.sub_self]; rfl
  · rw [List.getElem?_append_right (by omega), hl, show σ.length + M - 1 + 1 + j - (σ.length + M - 1) = j + 1 by omega, List.getElem?_cons_succ]
    exact clones_at hj
theorem GM.lend {rs : List Rl} {A : Nat} {σ : List AObj} (h : GM rs A σ) : LV σ (.agg [cNil, .ms A rs.length]) (gramA (.lit (.slice none 0 0)) (rulesS rs)) := by
  refine LV.agg (l' := [.lit (.slice none 0 0), rulesS rs]) rfl fun j c x hc hx => ?_
  match j, hc, hx with
  | 0, hc, hx =>
    injection hc with hc; injection hx with hx
    subst hc; subst hx; exact .p
  | 1, hc, hx =>
    injection hc with hc; injection hx with hx
    subst hc; subst hx
    have hat : ∀ {i : Nat} {a : List C} {b : List PV}, (rowsC (A + 1) rs rs.length)[i]? = some a → (rs.map encRl)[i]? = some b → i < rs.length ∧ a = rowC (at' rs (i : Int)) (.ms (A + 1 + i) (at' rs (i : Int)).body.length) ∧ b = encRl (at' rs (i : Int)) := by
      intro i a b ha hb
      have hi : i < rs.length := by have := (List.getElem?_eq_some_iff.1 ha).1; rwa [rowsC_len] at this
      rw [rowsC_end hi] at ha
      rw [List.getElem?_map, at'_getElem? hi] at hb
      injection ha with ha; injection hb with hb
      exact ⟨hi, ha.symm, hb.symm⟩
    refine LC.arrC h.r (by rw [rowsC_len]) (by rw [rowsC_len, List.length_map]) (fun i a b ha hb => ?_) (fun i a b j x y ha hb hx hy => ?_)
    · obtain ⟨_, rfl, rfl⟩ := hat ha hb; rfl
    · obtain ⟨hi, rfl, rfl⟩ := hat ha hb
      match j, hx, hy with
      | 0, hx, hy => injection hx with hx; injection hy with hy; subst hx; subst hy; exact .p
      | 1, hx, hy => injection hx with hx; injection hy with hy; subst hx; subst hy; exact .p
      | 2, hx, hy => injection hx with hx; injection hy with hy; subst hx; subst hy; exact .arr (h.b i hi) (by simp) (List.take_of_length_le (by simp))
      | n + 3, hx, hy => cases hx
  | n + 2, hc, hx => cases hc
theorem want_lend {rs : List Rl} {σ : List AObj} : LV σ (.agg [cNil, .p (rulesP rs)]) (gramA (.lit (.slice none 0 0)) (rulesS rs)) := by
  refine LV.agg (l' := [.lit (.slice none 0 0), rulesS rs]) rfl fun j c x hc hx => ?_
  match j, hc, hx with
  | 0, hc, hx => injection hc with hc; injection hx with hx; subst hc; subst hx; exact .p
  | 1, hc, hx => injection hc with hc; injection hx with hx; subst hc; subst hx; exact .p
  | n + 2, hc, hx => cases hc
/-! ### What FreeGrammars begins with -/
abbrev fgσ (rs : List Rl) : List AObj := listC rs.length rs.length :: .arrC 52 3 (rowsC 3 rs rs.length) :: .arrC 52 3 (rowsC (3 + rs.length) rs rs.length) :: (clones rs rs.length ++ clones rs rs.length)
def bs0 (rs : List Rl) (q : Nat) : List Nd := if q < rs.length then (at' rs (q : Int)).body else (at' rs ((q - rs.length : Nat) : Int)).body
theorem fg_GG (rs : List Rl) : GG rs (bdA (bs0 rs)) (fgσ rs) := by
  have hcl : (clones rs rs.length).length = rs.length := clones_len (Nat.le_refl _)
  refine ⟨rfl, rfl, rfl, fun q hq => ?_, by simp [hcl]; omega⟩
  rw [show 3 + q = q + 1 + 1 + 1 by omega]
  simp only [fgσ, List.getElem?_cons_succ]
  by_cases h : q < rs.length
  · rw [List.getElem?_append_left (by omega), clones_at h, bdA, bs0, if_pos h]
  · rw [List.getElem?_append_right (by omega), hcl, clones_at (by omega), bdA, bs0, if_neg h]
theorem fg_WL (rs : List Rl) : WL rs (bs0 rs) 0 := by
  refine ⟨fun q hq => ?_, fun q hq => by omega⟩
  simp only [bs0, bodyLen]
  split <;> rfl
/-- Where they lie for the caller. -/
def fgρ (L A1 A2 n : Nat) : List (Nat × Nat) := (L, 0) :: (A1, 0) :: (A2, 0) :: ((List.range n).map (fun j => (A1 + 1 + j, 0)) ++ (List.range n).map (fun j => (A2 + 1 + j, 0)))
theorem fgρ_len {L A1 A2 n : Nat} : (fgρ L A1 A2 n).length = 3 + 2 * n := by simp [fgρ]; omega
theorem fgρ_b1 {L A1 A2 n j : Nat} (h : j < n) : (fgρ L A1 A2 n)[3 + j]? = some (A1 + 1 + j, 0) := by
  rw [show 3 + j = j + 1 + 1 + 1 by omega]
  simp only [fgρ, List.getElem?_cons_succ]
  rw [List.getElem?_append_left (by simpa using h), List.getElem?_map, List.getElem?_range h]; rfl
theorem fgρ_b2 {L A1 A2 n j : Nat} (h : j < n) : (fgρ L A1 A2 n)[3 + n + j]? = some (A2 + 1 + j, 0) := by
  rw [show 3 + n + j = n + j + 1 + 1 + 1 by omega]
  simp only [fgρ, List.getElem?_cons_succ]
  rw [List.getElem?_append_right (by simp), List.length_map, List.length_range, show n + j - n = j by omega, List.getElem?_map, List.getElem?_range h]; rfl
theorem ren1_at {ρl : List (Nat × Nat)} {k : Nat} {p : Nat × Nat} (h : ρl[k]? = some p) : ren1 ρl k = p := by
  simp [ren1, List.getD_eq_getElem?_getD, h]
theorem fgρ_nodup {L A1 A2 n : Nat} (h1 : A1 + n < A2) (h2 : A2 + n < L) : ((fgρ L A1 A2 n).map (·.1)).Nodup := by
  have hr : ∀ A, ((List.range n).map fun j => A + 1 + j).Nodup := fun A => by
    refine List.pairwise_map.2 (List.Pairwise.imp ?_ List.nodup_range)
    intro a b hab h
    exact hab (by omega)
  simp only [fgρ, List.map_cons, List.map_append, List.map_map, Function.comp_def, List.nodup_cons, List.nodup_append, List.mem_cons, List.mem_append, List.mem_map, List.mem_range, not_or, not_exists, not_and]
  refine ⟨⟨by omega, by omega, fun x hx => by omega, fun x hx => by omega⟩, ⟨by omega, fun x hx => by omega, fun x hx => by omega⟩, ⟨fun x hx => by omega, fun x hx => by omega⟩, hr A1, hr A2, ?_⟩
  rintro a ⟨x, hx, rfl⟩ b ⟨y, hy, rfl⟩
  omega
theorem rowsC_ren {b A : Nat} {rs : List Rl} {ρ : Ren} (h : ∀ j, j < rs.length → (ρ (b + j)).1 = A + j) : (rowsC b rs rs.length).map (fun e => e.map (renC ρ)) = rowsC A rs rs.length := by
  apply List.ext_getElem?
  intro j
  simp only [rowsC, List.getElem?_map, List.getElem?_mapIdx]
  by_cases hj : j < rs.length
  · rw [List.getElem?_eq_getElem hj]
    simp [hj, rowC, renC, h j hj]
  · rw [List.getElem?_eq_none (by omega)]; rfl
theorem rowsC_ok {b m : Nat} {rs : List Rl} (h : b + rs.length ≤ m) : ((rowsC b rs rs.length).all fun e => e.all (okC m)) = true := by
  refine List.all_eq_true.2 fun a ha => ?_
  obtain ⟨j, hj, rfl⟩ := List.mem_mapIdx.1 ha
  simp [hj, rowC, okC, Nat.blt_eq]
  omega
theorem fg_handed {rs : List Rl} {L A1 A2 : Nat} {σ : List AObj} (hL : σ[L]? = some (.arrC 28 2 [[cNil, .ms A1 rs.length], [cNil, .ms A2 rs.length]])) (g1 : GM rs A1 σ) (g2 : GM rs A2 σ) (k id off : Nat) (oc : AObj) (hk : (fgρ L A1 A2 rs.length)[k]? = some (id, off)) (ho : (fgσ rs)[k]? = some oc) :
    ∃ o, σ[id]? = some o ∧ passO (ren1 (fgρ L A1 A2 rs.length)) (fgρ L A1 A2 rs.length).length o off oc := by
  have hcl : (clones rs rs.length).length = rs.length := clones_len (Nat.le_refl _)
  match k, hk, ho with
  | 0, hk, ho =>
    injection hk with hk; injection hk with hk hk'; injection ho with ho
    subst hk; subst hk'; subst ho
    refine ⟨_, hL, rfl, ?_⟩
    rw [fgρ_len]
    simp [okC, Nat.blt_eq]; omega
  | 1, hk, ho =>
    injection hk with hk; injection hk with hk hk'; injection ho with ho
    subst hk; subst hk'; subst ho
    refine ⟨_, g1.r, ?_, rowsC_ok (by rw [fgρ_len]; omega)⟩
    rw [rowsC_ren (A := A1 + 1)]
    intro j hj
    rw [ren1_at (fgρ_b1 hj)]
  | 2, hk, ho =>
    injection hk with hk; injection hk with hk hk'; injection ho with ho
    subst hk; subst hk'; subst ho
    refine ⟨_, g2.r, ?_, rowsC_ok (by rw [fgρ_len]; omega)⟩
    rw [rowsC_ren (A := A2 + 1)]
    intro j hj
    rw [ren1_at (fgρ_b2 hj)]
  | q + 3, hk, ho =>
    simp only [fgσ, List.getElem?_cons_succ] at ho
    by_cases hq : q < rs.length
    · rw [show q + 3 = 3 + q by omega, fgρ_b1 hq] at hk
      injection hk with hk; injection hk with hk hk'
      rw [List.getElem?_append_left (by omega), clones_at hq] at ho
      injection ho with ho
      subst hk; subst hk'; subst ho
      exact ⟨_, g1.b q hq, rfl⟩
    · have hq2 : q - rs.length < rs.length := by
        have := (List.getElem?_eq_some_iff.1 ho).1
        simp [hcl] at this
        omega
      rw [show q + 3 = 3 + rs.length + (q - rs.length) by omega, fgρ_b2 hq2] at hk
      injection hk with hk; injection hk with hk hk'
      rw [List.getElem?_append_right (by omega), hcl, clones_at hq2] at ho
      injection ho with ho
      subst hk; subst hk'; subst ho
      exact ⟨_, g2.b _ hq2, rfl⟩
end Go.AL
set_option linter.unusedVariables false
namespace Go.AL
open Go.Proofs
set_option maxRecDepth 10000
attribute [local irreducible] AWp AList RStep seqQ blockQ retQ DSteps DT awR rQ SStep
section
variable {N : Nat} {Q : AE → St → Prop} {ops : Array Oper} {rest : List Oper} {σ : List AObj} {fr : Fr} {d : Nat} {ty : TypeId} {pos : String} {aft : Array Edge}
theorem al_name {φ : List AObj → Prop} (h : φ σ) (k : ∀ σ', φ σ' → AList Tryd.prog N ops Q rest ⟨fr, σ'⟩) : AList Tryd.prog N ops Q rest ⟨fr, σ⟩ := k _ h
theorem k_call5 {e : Int} {rs : List Rl} {xs zs : List Part} {y : Operand} {os : Array Operand} {ts : Array TypeId} (h5 : CallG e rs xs) (h0 : σ[0]? = some (.ext tabX)) (own : σ[1]? = some (.arr 44 5 ((xs ++ zs).map encPart)))
    (k : ∀ σ' A, GM rs A σ' → (∃ z, σ' = σ ++ z) → σ.length ≤ A → A + rs.length < σ'.length → AList Tryd.prog N ops Q rest ⟨(d, .tup [.agg [cNil, .ms A rs.length], i64 e]) :: fr, σ'⟩)
    (hd : Nat.blt d N = true := by rfl) (hy : ev fr y = .c (.p (.lit (.func (.func 5) #[] #[]))) := by exact rfl) (hx : os.toList.map (ev fr) = [.c (.ms 1 xs.length)] := by (try simp only [↓ev, litAV, ↓Fr.get, ↓reduceIte, Nat.reduceEqDiff, List.map]) <;> rfl) (hg : os.toList.all goodConst = true := by rfl) :
    AList Tryd.prog N ops Q (⟨some d, .call { callee := .value y, args := os, argTypes := ts }, ty, pos, aft, none⟩ :: rest) ⟨fr, σ⟩ := by
  have hlen : 1 < σ.length := get_lt own
  refine k_callLend (X := tabX) (Φ := PhiG e rs) (fun _ _ _ _ h => h) h5 phiG_flat h0 (.cons (.c (.arr own (by simp) (by simp))) .nil) (fun rv news ⟨M, hM, e1, e2⟩ => ?_) hd hy hx hg
  subst e1; subst e2
  have hcl : (clones rs rs.length).length = rs.length := clones_len (Nat.le_refl _)
  exact k _ (σ.length + M - 1) (GM.new hM) ⟨_, rfl⟩ (by omega) (by simp [hcl]; omega)
theorem k_list {p q : Nat} {x y : C} (k : AList Tryd.prog N ops Q rest ⟨(d, .c (.ms σ.length 2)) :: fr, σ ++ [.arrC 28 2 [[cNil, x], [cNil, y]]]⟩) (hp : fr.get p = .agg [cNil, x] := by exact rfl) (hq : fr.get q = .agg [cNil, y] := by exact rfl) (hx : sureC x = true := by rfl) (hy : sureC y = true := by rfl) (hd : Nat.blt d N = true := by rfl) :
    AList Tryd.prog N ops Q (⟨some d, .buildSlice 38 2 #[(0, .tmp p), (1, .tmp q)], ty, pos, aft, none⟩ :: rest) ⟨fr, σ⟩ := by
  refine w_buildSliceC (e := 28) (sz := 2) (z := .agg #[.slice none 0 0, .slice none 0 0]) (l := [[cNil, x], [cNil, y]]) rfl (by decide) ?_ ?_ rfl (by simp) hd rfl k
  · show ([(0, Operand.tmp p), (1, Operand.tmp q)].all fun p => goodConst p.2 && sureV (ev fr p.2)) = true
    simp only [List.all_cons, List.all_nil, goodConst, ev, hp, hq]
    simp [sureV, hx, hy]; rfl
  · show fillA _ _ [(0, ev fr (.tmp p)), (1, ev fr (.tmp q))] = _
    simp only [ev, hp, hq]
    rfl
end
/-- What the law knows of its memory. -/
structure LW (rs : List Rl) (L : List Part) (A1 A2 c1 c2 c3 : Nat) (τ : List AObj) : Prop where
  h0 : τ[0]? = some (.ext tabX)
  own : τ[1]? = some (.arr 44 5 (L.map encPart))
  c1 : τ[c1]? = some (.cells [cNil, .ms A1 rs.length])
  c2 : τ[c2]? = some (.cells [cNil, .ms A2 rs.length])
  c3 : τ[c3]? = some (.cells [cNil, .p (rulesP rs)])
  g1 : GM rs A1 τ
  g2 : GM rs A2 τ
  lo : 2 ≤ A1
  mid : A1 + rs.length < A2
  hi : A2 + rs.length < τ.length
theorem LW.set {rs : List Rl} {L L' : List Part} {A1 A2 c1 c2 c3 : Nat} {τ : List AObj} (h : LW rs L A1 A2 c1 c2 c3 τ) : LW rs L' A1 A2 c1 c2 c3 (τ.set 1 (.arr 44 5 (L'.map encPart))) := by
  have n1 := ne_get h.own h.c1 (by intro h; cases h)
  have n2 := ne_get h.own h.c2 (by intro h; cases h)
  have n3 := ne_get h.own h.c3 (by intro h; cases h)
  have := h.lo
  have := h.mid
  exact ⟨get_set h.h0 (by decide), get_set_self h.own, get_set h.c1 n1, get_set h.c2 n2, get_set h.c3 n3, h.g1.set (by omega), h.g2.set (by omega), h.lo, h.mid, by rw [List.length_set]; exact h.hi⟩
theorem fgρ_pos {L A1 A2 n : Nat} (hL : 0 < L) (h1 : 0 < A1) (h2 : 0 < A2) : ∀ p ∈ fgρ L A1 A2 n, p.1 ≠ 0 := by
  intro p hp
  simp only [fgρ, List.mem_cons, List.mem_append, List.mem_map, List.mem_range] at hp
  rcases hp with rfl | rfl | rfl | ⟨j, _, rfl⟩ | ⟨j, _, rfl⟩
  · show L ≠ 0; omega
  · show A1 ≠ 0; omega
  · show A2 ≠ 0; omega
  · show A1 + 1 + j ≠ 0; omega
  · show A2 + 1 + j ≠ 0; omega
set_option maxHeartbeats 8000000 in
theorem patternGrammars_c (xs : List Part) : ACalls Tryd.prog 3 [pat xs] [.ext tabX] (fun r σ' => r = .ret (bl true) ∧ σ'[0]? = some (.ext tabX)) := by
  by_cases hxl : (xs.length : Int) > 65545
  · skip
    refine acalls_by Tryd.func3 Tryd.ntmps3 ?_
    simp only [argFr]
    repeat' (first
      | (show lOp; refine op0 (by first | (show kAssign; exact b_assign) | (show kMove; exact b_move) | (show kCall; exact m_lenSl) | (show kBinopGtr; exact b_gtr)) ?_)
      | (show lNil; refine al_nil ?_)
      | (show qSeq; first | refine n_seq ?_ | refine p_seq ?_)
      | (show cReg; refine aw_reg ?_)
      | (show cSeq; refine aw_seq ?_)
      | (show cRet; refine aw_ret ?_)
      | (show cIf; refine aw_T ?_)
      | (show eRet; refine ret1 Tryd.results3 ?_))
    exact ⟨rfl, rfl⟩
  · obtain ⟨e, rs, h5, h6, hn, hbl⟩ := calls_both xs (by omega)
    have hlend := lendParts_c xs (by omega)
    have hee : ¬ (e ≠ e) := by simp
    have hg7 := grammars_c rs (fun r hr => by have := hbl r hr; omega) (by omega)
    have hk8 : ACalls Tryd.prog 8 [.c (.ms 0 xs.length), pat xs] [.arr 44 5 ((xs ++ [markP 77, moreP 77]).map encPart)] (fun r σ' => ∃ x : Unit, True ∧ r = .ret (bl true) ∧ σ' = [.arr 44 5 ((xs ++ [markP 77, moreP 77]).map encPart)]) := (keptParts_c xs (by omega)).mono fun r σ' ⟨h1, h2⟩ => ⟨(), trivial, h1, h2⟩
    have hs9 : ACalls Tryd.prog 9 [.c (.ms 0 xs.length)] [.arr 44 5 ((xs ++ [markP 77, moreP 77]).map encPart)] (fun r σ' => ∃ L' : List Part, True ∧ r = .ret (.tup []) ∧ σ' = [.arr 44 5 (L'.map encPart)]) := (spoilParts_c (xs ++ [markP 77, moreP 77]) xs.length (by simp) (by simp; omega)).mono fun r σ' ⟨h1, L', _, h2⟩ => ⟨L', trivial, h1, h2⟩
    have hfg : ACalls Tryd.prog 10 [.c (.ms 0 2)] (fgσ rs) (fun r _ => r = .ret (bl true)) := freeGrammars_c rs hn hbl (bs0 rs) _ (fg_GG rs) (fg_WL rs)
    refine acalls_by Tryd.func3 Tryd.ntmps3 ?_
    simp only [argFr]
    repeat' (first
      | (refine aw_F ?_ (hb := decide_eq_false (by assumption)))
      | (show lCall; refine k_callNew hlend ?_ (hm := rfl) (hσ := rfl))
      | (show lOp; refine op0 (by first | (show kAssign; exact b_assign) | (show kMove; exact b_move) | (show kCall; exact m_lenSl) | (show kBinopGtr; exact b_gtr)) ?_)
      | (show lNil; refine al_nil ?_)
      | (show qSeq; refine n_seq ?_)
      | (show cReg; refine aw_reg ?_)
      | (show cSeq; refine aw_seq ?_)
      | (show cSkip; refine aw_skip ?_))
    refine k_call5 (zs := [markP 77, moreP 77]) h5 rfl rfl (fun σ1 A1 g1 hz1 hA1 hl1 => ?_)
    repeat' (first
      | (show lAlloc; refine k_alloc ?_ (hn := rfl) (hσ := rfl))
      | (show lStore; refine k_store ?_ (ho := get_last rfl) (hσ := set_last))
      | (show lOp; refine op0 (by first | (show kAssign; exact b_assign) | (show kMove; exact b_move) | (show kExtract; exact b_extract)) ?_)
      | (show lNil; refine al_nil ?_)
      | (show qSeq; refine n_seq ?_)
      | (show cReg; refine aw_reg ?_)
      | (show cSeq; refine aw_seq ?_))
    obtain ⟨z1, rfl⟩ := hz1
    refine k_call5 (zs := [markP 77, moreP 77]) h5 rfl rfl (fun σ2 A2 g2 hz2 hA2 hl2 => ?_)
    repeat' (first
      | (show lAlloc; refine k_alloc ?_ (hn := rfl) (hσ := rfl))
      | (show lStore; refine k_store ?_ (ho := get_last rfl) (hσ := set_last))
      | (show lOp; refine op0 (by first | (show kAssign; exact b_assign) | (show kMove; exact b_move) | (show kCall; exact b_call (h6)) | (show kBinopNeq; exact b_neq) | (show kExtract; exact b_extract)) ?_)
      | (show lGu; refine al_yes ?_)
      | (show lNil; refine al_nil ?_)
      | (show qSeq; refine n_seq ?_)
      | (show cReg; refine aw_reg ?_)
      | (show cSeq; refine aw_seq ?_))
    obtain ⟨z2, rfl⟩ := hz2
    refine al_name (φ := LW rs (xs ++ [markP 77, moreP 77]) A1 A2 _ _ _) ⟨get_app (get_app (get_app (get_app rfl))), get_app (get_app (get_app (get_app rfl))), get_app (get_app (get_app (get_last rfl))), get_app (get_last rfl), get_last rfl, g1.app.app.app.app, g2.app.app, by simpa using hA1, by simp only [List.length_append, List.length_cons, List.length_nil] at hl1 hA2; omega, by simp only [List.length_append, List.length_cons, List.length_nil] at hl2 ⊢; omega⟩ (fun σ3 hW => ?_)
    clear g1 g2 hA1 hl1 hA2 hl2
    repeat' (first
      | (show lAt 48; refine k_yes (k_callA 1 hk8 hW.own (fun _ _ => ?_)))
      | (show lCall; refine k_callA 1 hs9 hW.set.own (fun L' _ => ?_))
      | (show lOp; refine op0 (by first | (show kMove; exact b_move) | (show kCall; first | exact b_lendV hg7 (.cons hW.g1.lend (.cons want_lend .nil)) | exact b_lendV hg7 (.cons hW.g2.lend (.cons want_lend .nil))) | (show kLoad; first | exact b_loadPtr (ho := hW.c1) | exact b_loadPtr (ho := hW.c2) | exact b_loadPtr (ho := hW.c3)) | (show kPick; exact b_pickF) | (show kUnopNot; exact b_not)) ?_)
      | (show lGu; refine al_yes ?_)
      | (show lNil; refine al_nil ?_)
      | (show qSeq; refine n_seq ?_)
      | (show cReg; refine aw_reg ?_)
      | (show cSeq; refine aw_seq ?_)
      | (show cSkip; refine aw_skip ?_)
      | (show cIf; refine aw_F ?_))
    refine al_name (φ := LW rs L' A1 A2 _ _ _) (hW.set (L' := xs ++ [markP 77, moreP 77])).set (fun σ4 hV => ?_)
    clear hW
    have hlt0 := get_lt hV.h0
    have hρ0 : ∀ p ∈ fgρ σ4.length A1 A2 rs.length, p.1 ≠ 0 := fgρ_pos hlt0 (by have := hV.lo; omega) (by have := hV.lo; have := hV.mid; omega)
    have hnd := fgρ_nodup (L := σ4.length) hV.mid hV.hi
    have hh := fun (k id off : Nat) (oc : AObj) => fg_handed (σ := σ4 ++ [.arrC 28 2 [[cNil, .ms A1 rs.length], [cNil, .ms A2 rs.length]]]) (L := σ4.length) (get_last rfl) hV.g1.app hV.g2.app k id off oc
    have hcl : (clones rs rs.length).length = rs.length := clones_len (Nat.le_refl _)
    have hln : (fgρ σ4.length A1 A2 rs.length).length = (fgσ rs).length := by rw [fgρ_len]; show _ = (clones rs rs.length ++ clones rs rs.length).length + 1 + 1 + 1; rw [List.length_append, hcl]; omega
    have hok : ([.c (.ms 0 2)] : List AV).all (okV (fgρ σ4.length A1 A2 rs.length).length) = true := by
      rw [fgρ_len]; show (Nat.blt 0 (3 + 2 * rs.length) && true) = true; rw [Bool.and_true, Nat.blt_eq]; omega
    repeat' (first
      | (show lAt 59; refine k_yes (k_list ?_))
      | (show lAt 60; refine k_yes (k_callLast0 (X := tabX) (fgρ σ4.length A1 A2 rs.length) (get_app hV.h0) hρ0 hfg rfl hok hln hnd hh ?_))
      | (show lOp; refine op0 (by first | (show kAssign; exact b_assign) | (show kMove; exact b_move) | (show kCall; exact b_lendV hg7 (.cons hV.g1.lend (.cons want_lend .nil))) | (show kLoad; first | exact b_loadPtr (ho := hV.c1) | exact b_loadPtr (ho := hV.c2) | exact b_loadPtr (ho := hV.c3)) | (show kPick; exact b_pickT)) ?_)
      | (show lGu; refine al_yes ?_)
      | (show lNil; refine al_nil ?_)
      | (show qSeq; refine n_seq ?_)
      | (show cRet; refine aw_ret ?_)
      | (show eRet; refine ret1 Tryd.results3 ?_))
    refine ⟨rfl, List.getElem?_set_self (by simp)⟩
end Go.AL
set_option linter.unusedVariables false
namespace Go.AL
open Go.Proofs Go.ChangeShapes Go.WideShapes Go.RowKit Go.Deep
set_option maxRecDepth 10000
/-! ### A pattern that came in -/
def valsP (p : Part) : List Value := [.int .i64 p.op, .int .u64 p.cl.c0, .int .u64 p.cl.c1, .int .u64 p.cl.c2, .int .u64 p.cl.c3]
theorem one_part {H : Type} {enc : TypeId × Value → H} {W : World} {base n : Nat} {sp : Nat → Bool} {held : Bool} {cs : List Value} {x : DataW H × List MemPlace} (h : DataW.trod enc Tryd.prog W base sp held n 44 cs = some x) : ∃ p : Part, cs = valsP p := by
  have hc : Tryd.prog.cellsOf 44 = 5 := by kernel_rfl
  have hc3 : Tryd.prog.cellsOf 3 = 1 := by kernel_rfl
  have hc42 : Tryd.prog.cellsOf 42 = 4 := by kernel_rfl
  have hc40 : Tryd.prog.cellsOf 40 = 1 := by kernel_rfl
  obtain ⟨y0, y1, m, _, hl, h0, h1⟩ := trod_struct2 Tryd.underlying44 h
  rw [hc] at hl
  obtain ⟨e, he, _⟩ := DataW.trod_int Tryd.underlying3 h0
  obtain ⟨xs, m', _, _, hl1, hxl, h1⟩ := DataW.trod_array Tryd.underlying42 h1
  match cs, hl with
  | [a, b0, b1, b2, b3], _ =>
    simp only [hc3, hc42, hc40, List.drop_zero, List.take_succ_cons, List.take_zero, List.drop_succ_cons, Nat.mul_one] at he h1
    have hu : ∀ i, i < 4 → ∀ v, ((([b0, b1, b2, b3] : List Value).drop i).take 1) = [v] → ∃ z, v = .int .u64 z := fun i hi v hv => by
      have := h1 i hi
      rw [hv] at this
      rw [List.getElem?_eq_getElem (by omega)] at this
      obtain ⟨z, hz, _⟩ := DataW.trod_int Tryd.underlying40 this
      injection hz with hz
      exact ⟨z, hz⟩
    obtain ⟨z0, rfl⟩ := hu 0 (by omega) b0 rfl
    obtain ⟨z1, rfl⟩ := hu 1 (by omega) b1 rfl
    obtain ⟨z2, rfl⟩ := hu 2 (by omega) b2 rfl
    obtain ⟨z3, rfl⟩ := hu 3 (by omega) b3 rfl
    injection he with he _
    subst he
    exact ⟨⟨e, ⟨z0, z1, z2, z3⟩⟩, rfl⟩
theorem encPart_vals (p : Part) : encPart p = (valsP p).map .lit := rfl
theorem pat_came {H : Type} {enc : TypeId × Value → H} {W : World} {v : Value} {r : Reach} {b0 : Nat} {d : DataW H} {ps : List MemPlace} (hval : Value.okWide Tryd.prog W r b0 23 v) (h : DataW.Trod enc Tryd.prog W 0 (fun _ => true) true 23 v d ps) (h0 : ∀ k n, W.cell? ⟨0, k, none⟩ ≠ some (.int .i64 n)) :
    ∃ xs : List Part, RP W (fun b k => b < W.heap.size ∧ b ≠ 0) (.sl 5 (xs.map encPart)) v := by
  have hc : Tryd.prog.cellsOf 44 = 5 := by kernel_rfl
  obtain ⟨fuel, h⟩ := h
  obtain ⟨a', n', c', rfl⟩ := okWide_slice Tryd.underlying23 hval
  rcases open_slice Tryd.underlying23 h with ⟨hv, _⟩ | ⟨a, len, cap, m, n, D, Pl, hv, _, hl, _, hm, _, hel⟩
  · injection hv with hv _
    rw [hv]
    exact ⟨[], .sl0 ..⟩
  · injection hv with hv _
    rw [hv]
    by_cases hlen : len = 0
    · subst hlen; exact ⟨[], .sl0 ..⟩
    · have hm' : m = cap := by simpa using hm
      subst hm'
      have key : ∀ i, i < len → ∃ p : Part, ∀ j u, (valsP p)[j]? = some u → W.cell? ((a.add (i * 5)).add j) = some u := fun i hi => by
        obtain ⟨cs', g1, g2⟩ := hel i (by omega)
        obtain ⟨p, rfl⟩ := one_part g2
        rw [hc] at g1
        obtain ⟨_, _, g3⟩ := World.cells?_some g1
        refine ⟨p, fun j u hj => ?_⟩
        have hlt : j < 5 := (List.getElem?_eq_some_iff.1 hj).1
        rw [g3 j hlt, hj]
      obtain ⟨V, hV⟩ := choose_lt key
      obtain ⟨b, o, sp⟩ := a
      have hs : sp = none := by
        have := hV 0 (by omega) 0 _ rfl
        simp only [Nat.zero_mul, Addr.add, if_true, World.cell?] at this
        split at this
        · split at this
          · cases this
          · rename_i hn; simpa using hn
        · cases this
      subst hs
      have hV' : ∀ i, i < len → ∀ j u, (valsP (V i))[j]? = some u → W.cell? ⟨b, o + (i * 5 + j), none⟩ = some u := fun i hi j u hj => by
        have := hV i hi j u hj
        rw [add_add] at this
        rw [add_plain'] at this
        exact this
      have hb0 : b ≠ 0 := by
        rintro rfl
        exact h0 _ _ (hV' 0 (by omega) 0 _ rfl)
      refine ⟨(List.range len).map V, ?_⟩
      have hll : (((List.range len).map V).map encPart).length = len := by simp
      have key2 := RP.sl (w := W) (F := fun b k => b < W.heap.size ∧ b ≠ 0) (b := b) (o := o) (cap := m) (sz := 5) (l := ((List.range len).map V).map encPart) (fun j => (valsP (V (j / 5))).getD (j % 5) undef) (by rw [hll]; exact hl) (fun e he => ?_) (fun j hj => ⟨?_, hb0⟩) (fun j hj => ?_) (fun i e he j x hx => ?_)
      · rw [hll] at key2; exact key2
      · simp only [List.mem_map] at he
        obtain ⟨p, _, rfl⟩ := he; rfl
      · have := hV' 0 (by omega) 0 _ rfl
        exact World.block_lt_of_cell? W _ this
      · rw [hll] at hj
        have h5 : j % 5 < 5 := Nat.mod_lt _ (by omega)
        have h6 : j / 5 < len := by omega
        have h7 : (valsP (V (j / 5)))[j % 5]? = some ((valsP (V (j / 5))).getD (j % 5) undef) := by
          have : j % 5 < (valsP (V (j / 5))).length := h5
          rw [List.getD_eq_getElem?_getD, List.getElem?_eq_getElem this]; rfl
        have := hV' _ h6 _ _ h7
        rw [show j / 5 * 5 + j % 5 = j by omega] at this
        exact this
      · rw [List.getElem?_map, List.getElem?_map, Option.map_eq_some_iff] at he
        obtain ⟨p, hp, rfl⟩ := he
        rw [Option.map_eq_some_iff] at hp
        obtain ⟨i', hi', rfl⟩ := hp
        have hi2 := List.getElem?_eq_some_iff.1 hi'
        obtain ⟨hi3, hi4⟩ := hi2
        rw [List.getElem_range] at hi4
        subst hi4
        rw [encPart_vals, List.getElem?_map, Option.map_eq_some_iff] at hx
        obtain ⟨u, hu, rfl⟩ := hx
        have hj5 : j < 5 := (List.getElem?_eq_some_iff.1 hu).1
        rw [show (i * 5 + j) / 5 = i by omega, show (i * 5 + j) % 5 = j by omega, List.getD_eq_getElem?_getD, hu]
        refine .lit ?_
        match j, hu with
        | 0, hu => injection hu with hu; subst hu; rfl
        | 1, hu => injection hu with hu; subst hu; rfl
        | 2, hu => injection hu with hu; subst hu; rfl
        | 3, hu => injection hu with hu; subst hu; rfl
        | 4, hu => injection hu with hu; subst hu; rfl
        | n + 5, hu => exact absurd hj5 (by omega)
/-! ### The table -/
theorem tab_gty : (Tryd.prog.globals[0]?).map (·.type) = some 130 := by kernel_rfl
theorem tab_laid {W : World} (h : laidMetH Tryd.prog Go.Proofs.YtggclegkceimjaaDoor.Rows.patternGrammarsUptoRow.laid W) : W.var? Tryd.prog "internal/strconv.uint64pow10" = some tabV := by
  have h' : laidMet Tryd.prog Go.Proofs.YtggclegkceimjaaDoor.Rows.patternGrammarsUptoRow.laid W := h
  obtain ⟨ps, ⟨_, _, _, _, _, _, _, _, _, _, ⟨_, _, _, _, _, _, _, _, _, _, ⟨g', t', cs, fuel, p, q, hg', ht', hvar, hd, _, _⟩, _⟩, _⟩, _⟩ := h'
  obtain rfl := Option.some.inj (tab_glob.symm.trans hg')
  obtain rfl := Option.some.inj (tab_gty.symm.trans ht')
  have e := Lib.cells_of_tab (k := .u64) (zs := Lib.pow10Tab) Tryd.underlying130 Tryd.underlying40 (by kernel_rfl) (by kernel_rfl) (n := 20) hd
  rw [hvar, tabV, ← e]
theorem tab_cells {W : World} (h : W.var? Tryd.prog "internal/strconv.uint64pow10" = some tabV) : ∃ t lo hi, W.heap[0]? = some (.cells tabV t (lo, hi)) := by
  simp only [World.var?, tab_glob, Option.bind_some] at h
  split at h
  · rename_i cs t fr he
    injection h with h
    subst h
    exact ⟨t, fr.1, fr.2, he⟩
  · cases h
theorem tab_no {W : World} (h : W.var? Tryd.prog "internal/strconv.uint64pow10" = some tabV) (k : Nat) (n : Int) : W.cell? ⟨0, k, none⟩ ≠ some (.int .i64 n) := by
  obtain ⟨t, lo, hi, he⟩ := tab_cells h
  intro hc
  simp only [World.cell?, he] at hc
  have hc : tabV[k]? = some (.int .i64 n) := hc
  have := Array.mem_of_getElem? hc
  simp [tabV] at this
theorem start_inv {W : World} (h : W.var? Tryd.prog "internal/strconv.uint64pow10" = some tabV) : ∃ l0, Inv [l0] (fun b k => b < W.heap.size ∧ b ≠ 0) [.ext tabX] W := by
  obtain ⟨t, lo, hi, he⟩ := tab_cells h
  have one : ∀ {α : Type} {y : α} (j : Nat) x, ([y] : List α)[j]? = some x → x = y ∧ j = 0 := fun j x hx => by
    cases j with
    | zero => injection hx with hx; exact ⟨hx.symm, rfl⟩
    | succ j => cases hx
  have hfp : ∀ b k, FP [.ext tabX] [.at t (pairN lo hi)] b k → b = 0 := by
    rintro b k ⟨j, o, l, g1, g2, g3⟩
    obtain ⟨rfl, rfl⟩ := one j o g1
    exact g3
  refine ⟨.at t (pairN lo hi), rfl, fun b k hf => hf.1, fun b k hf => ?_, fun j o l g1 g2 => ?_, fun i j o l o' l' hne g1 _ g3 _ => ?_, fun b k hf hF => hF.2 (hfp b k hf)⟩
  · rw [hfp b k hf]; exact (Array.getElem?_eq_some_iff.1 he).1
  · obtain ⟨rfl, rfl⟩ := one j o g1
    obtain ⟨rfl, _⟩ := one 0 l g2
    exact ⟨h, tabV, t, lo, hi, he, rfl, rfl⟩
  · obtain ⟨_, rfl⟩ := one i o g1
    obtain ⟨_, rfl⟩ := one j o' g3
    exact absurd rfl hne
/-! ### What the row asks -/
theorem post_below {H : Type} {enc : TypeId × Value → H} {P : Program} {f : Func} {s : ChangeSpec} {apart fresh handsOn again : Bool} {W W' : World} {args : Array Value} {v : Value} {ds gs : List (DataW H)} {before pa pv : List MemPlace}
    (hW : DataW.Whole enc P f.params.toList s.vars apart W args.toList ds gs before)
    (hres : ∀ (b : Nat) (sp : Nat → Bool) (hd : Bool), DataW.TrodAll enc P W' b sp hd f.resultTypes.toList (v.resultList f.resultTypes.size) (s.fn H (ds ++ gs)).results [])
    (hargs : ∀ sp : Nat → Bool, (∀ p ∈ before, sp p.block = true) → DataW.TrodAll enc P W' 0 sp true f.params.toList args.toList (s.fn H (ds ++ gs)).args pa)
    (hvars : ∀ sp : Nat → Bool, (∀ p ∈ before, sp p.block = true) → DataW.TrodVars enc P W' sp s.vars (s.fn H (ds ++ gs)).vars pv)
    (hps : before = pa ++ pv) (hb : Below W.heap.size W W')
    (hok : ∀ (j : Nat) (t : TypeId) (r : Value), f.resultTypes[j]? = some t → (v.resultList f.resultTypes.size)[j]? = some r → Value.okWide P W' .any 0 t r) :
    s.post enc P f apart fresh handsOn again W args v W' := by
  subst hps
  have hlt : ∀ p ∈ pa ++ pv, p.block < W.heap.size := fun p hp => hW.lt p hp
  refine ⟨ds, gs, pa ++ pv, [], pa, pv, hW, hres _ _ _, hargs _ fun p hp => by simpa using hlt p hp, hvars _ fun p hp => by simpa using hlt p hp, hb.frame _, fun _ => ?_⟩
  obtain ⟨_, _, _, _, _, hz, hn⟩ := hW
  refine ⟨hok, _, _, [] ++ pa ++ pv, ⟨[] ++ pa, pv, trodAll_append (hargs _ fun _ _ => rfl) (hres _ _ _), hvars _ fun _ _ => rfl, rfl, fun b off hp => ?_, fun ha => by simpa using hn ha⟩, fun p hp _ => by simpa using hp⟩
  have hp : MemPlace.cell b off ∈ pa ++ pv := by simpa using hp
  have hbl : b < W.heap.size := hlt _ hp
  rw [hb.frozen (p := ⟨b, off, none⟩) hbl]
  exact hz b off hp
theorem laid_out : laidOutB Tryd.prog = true := by kernel_rfl
theorem contract (H : Type) (enc : TypeId × Value → H) (W : World) (base : Nat) (args : Array Value) (ds gs : List (DataW H)) (before : List MemPlace)
    (hval : ∀ (j : Nat) t v, Tryd.f3.params[j]? = some t → args[j]? = some v → Value.okWide Tryd.prog W .any base t v)
    (hW : DataW.Whole enc Tryd.prog Tryd.f3.params.toList Go.Proofs.YtggclegkceimjaaDoor.Rows.patternGrammarsSpec.vars false W args.toList ds gs before) (hL : laidMetH Tryd.prog Go.Proofs.YtggclegkceimjaaDoor.Rows.patternGrammarsUptoRow.laid W) :
    Calls Tryd.prog 3 args W fun e W' => ∃ v, e = .returned v ∧ Go.Proofs.YtggclegkceimjaaDoor.Rows.patternGrammarsSpec.post enc Tryd.prog Tryd.f3 false true false false W args v W' := by
  have hW' := hW
  obtain ⟨p, q, hA0, hV, rfl, hfz, hnd⟩ := hW
  have hA : DataW.TrodAll enc Tryd.prog W 0 (fun _ => true) true Tryd.f3.params.toList args.toList ds p := hA0
  rw [Tryd.params3] at hA hval
  obtain ⟨v0, vs0, d0, ds0, p0, q0, hargs, rfl, rfl, h0, r0⟩ := trodAll_cons hA
  obtain ⟨rfl, rfl, rfl⟩ := trodAll_nil r0
  obtain rfl : args = #[v0] := by cases args; simp_all
  obtain ⟨rfl, rfl⟩ := trodVars_none hV
  have htab := tab_laid hL
  obtain ⟨l0, hi⟩ := start_inv htab
  obtain ⟨xs, hrp⟩ := pat_came (hval 0 23 v0 rfl rfl) h0 (tab_no htab)
  clear hA0
  simp only [List.append_nil] at hW'
  refine (patternGrammars_c xs [l0] _ W #[v0] hi rfl (fun j x hj => ?_)).mono fun e W' he => ?_
  · cases j with
    | zero => injection hj with hj; subst hj; exact hrp
    | succ j => cases hj
  · obtain ⟨m', F', σ', r, ⟨rfl, hσ0⟩, hr, hi', hst⟩ := he
    cases e with
    | panicked ch => exact hr.elim
    | outgrown => exact hr.elim
    | returned u =>
      have hu : u = .bool true := RP.eq_lit hr
      subst hu
      obtain ⟨k, rfl⟩ := hst.ext
      have ok0 : tabX.ok W _ l0 := hi.obj 0 _ _ rfl rfl
      have ok1 : tabX.ok W' F' l0 := hi'.obj 0 _ _ hσ0 rfl
      have hb : Below W.heap.size W W' := by
        refine ⟨hst.os, hst.tape, hst.output, hst.size, fun b hb => ?_⟩
        by_cases hb0 : b = 0
        · subst hb0; exact tab_same ok0 ok1
        · refine hst.blk b hb fun z ⟨j, o, l, g1, g2, g3⟩ => ?_
          cases j with
          | zero => injection g1 with g1; subst g1; exact hb0 g3
          | succ j => cases g1
      have hlt : ∀ x ∈ p0, x.block < W.heap.size := fun x hx => hW'.lt x (by simpa using hx)
      refine ⟨_, rfl, post_below (pa := p0) (pv := []) hW' (fun _ _ _ => trodAll_cons_mk (shut_bool Tryd.underlying4 _) trodAll_mk0) (fun sp hs => ?_) (fun _ _ => rfl) (by simp) hb (ok_one (by kernel_rfl) rfl (okWide_bool_mk Tryd.underlying4 _))⟩
      have h1 : DataW.Trod enc Tryd.prog W' 0 sp true 23 v0 d0 p0 := WideElems.Trod_stays laid_out (by kernel_rfl) (of_decide_eq_true (by kernel_rfl)) h0 (fun x hx => hb.same (hlt x hx)) (fun x hx => hs x (by simpa using hx))
      have := trodAll_cons_mk h1 (trodAll_mk0 (enc := enc) (P := Tryd.prog) (w := W') (base := 0) (spare := sp) (held := true))
      have h2 : DataW.TrodAll enc Tryd.prog W' 0 sp true [23] [v0] [d0] p0 := by simpa using this
      rw [Tryd.params3]
      exact h2
/-! ### The row and its card -/
theorem own : ownKnob Tryd.prog.godebug = none := by kernel_rfl
/-- A world for the witness: the settled one, the three tables laid. -/
def laidTab (d : DataW Unit) : Array Value := match d with
  | .agg l => (l.map fun | .lit (.int k z) => Value.int k z | _ => undef).toArray
  | _ => #[]
noncomputable def laidWorld (os : Os) : World :=
  let w0 := World.holding Tryd.prog os ⟨#[], #[], []⟩
  let put : Nat → Array Value → Array Obj → Array Obj := fun g vs h => h.modify g fun
      | .cells _ t frozen => .cells vs t frozen
      | o => o
  { w0 with heap := put ((Tryd.prog.globalNamed "math/bits.deBruijn32tab").getD 0) (laidTab Go.Proofs.YtggclegkceimjaaDoor.Rows.laid_math_bits_deBruijn32tab) (put ((Tryd.prog.globalNamed "math/bits.deBruijn64tab").getD 0) (laidTab Go.Proofs.YtggclegkceimjaaDoor.Rows.laid_math_bits_deBruijn64tab) (put 0 (laidTab Go.Proofs.YtggclegkceimjaaDoor.Rows.laid_internal_strconv_uint64pow10) w0.heap)) }
theorem laid_met (os : Os) : laidMet Tryd.prog Go.Proofs.YtggclegkceimjaaDoor.Rows.patternGrammarsUptoRow.laid ((laidWorld os).forCall (fun _ _ => 0) ⟨#[], #[.slice none 0 0], []⟩).memory :=
  laidMet_of_run' 8 (by kernel_rfl) (by kernel_rfl)
theorem reads (os : Os) {H : Type} (enc : TypeId × Value → H) : ∃ places, DataW.whole enc Tryd.prog ((laidWorld os).forCall (fun _ _ => 0) ⟨#[], #[.slice none 0 0], []⟩).memory Tryd.f3.params.toList Go.Proofs.YtggclegkceimjaaDoor.Rows.patternGrammarsSpec.vars false #[Value.slice none 0 0].toList 8 = some ([.nil], [], places) :=
  ⟨[], by kernel_rfl⟩
open Go.Proofs.YtggclegkceimjaaDoor in
set_option maxRecDepth 100000 in
theorem liftedUpto (os : Os) (started : os.Started) (H : Type) (enc : TypeId × Value → H) (F : Stop.Interp) :
    ReturnsInHanded {} Tryd.checked os 3 .any ((Rows.OpenSpec.upto Rows.patternGrammarsSpec).preRow enc Tryd.prog Tryd.f3 Rows.patternGrammarsUptoRow.domain false Rows.patternGrammarsUptoRow.laid) (((Rows.OpenSpec.upto Rows.patternGrammarsSpec).at F).post enc Tryd.prog Tryd.f3 false true false false) := by
  obtain ⟨places, hx⟩ := reads os enc
  refine returnsInHanded_of_row (C := Tryd.checked) (s := Rows.OpenSpec.upto Rows.patternGrammarsSpec) own started (by kernel_rfl) Tryd.func3
    (witness_row_at (enc := enc) (C := Tryd.checked) false (laidWorld os) #[.slice none 0 0] rfl (by kernel_rfl) (by kernel_rfl) (by kernel_rfl)
      (OpenSpec.preRow_of_cond 8 hx (by kernel_rfl) (fun k hk => by cases hk; kernel_rfl) (by kernel_rfl) (laid_met os))) ?_
  intro W base args ds gs before hval hW _ _ _ hL _ _
  exact contract H enc W base args ds gs before hval hW hL
open Go.Proofs.YtggclegkceimjaaDoor in
theorem saidUpto : Rows.PatternGrammarsUptoSaid :=
  OpenClaim.holds_of_cond 3 Tryd.f3 rfl rfl rfl rfl rfl rfl rfl ⟨rfl, rfl, rfl, rfl, rfl⟩ rfl rfl rfl rfl rfl (by kernel_rfl) Tryd.func3 (by kernel_rfl)
    (of_decide_eq_true (by kernel_rfl)) (by unfold Func.isWrapper; first | (rw [if_pos (by decide +kernel)]; kernel_rfl) | (rw [if_neg (by decide +kernel)]; exact ⟨rfl, rfl⟩))
    (fun os started H enc _ F => by rw [OpenClaim.pre_eq_preRow]; exact liftedUpto os started H enc F)
open Go.Proofs.YtggclegkceimjaaDoor in
theorem plain (f : FuncId) (fn : Func) (hf : Tryd.pinned.checked.prog.funcNamed "dowel/dowellaw22.PatternGrammars" = some f) (hfn : Tryd.pinned.checked.prog.funcs[f]? = some fn) :
    false = Tryd.pinned.checked.prog.looks [] ∧ ∀ (j : Nat) t, fn.params[j]? = some t → Tryd.pinned.checked.prog.wantsStandIn t = false := by
  obtain rfl : f = 3 := Option.some.inj ((show Tryd.prog.funcNamed "dowel/dowellaw22.PatternGrammars" = some 3 by kernel_rfl).symm.trans hf) |>.symm
  obtain rfl : fn = Tryd.f3 := (Option.some.inj (Tryd.func3.symm.trans hfn)).symm
  refine ⟨by kernel_rfl, fun j t ht => ?_⟩
  rw [Tryd.params3] at ht
  obtain rfl : t = 23 := by simpa using Array.mem_of_getElem? ht
  exact (show Tryd.prog.wantsStandIn 23 = false by kernel_rfl)
open Go.Proofs.YtggclegkceimjaaDoor in
theorem cardUpto : Rows.PatternGrammarsUptoCardSaid :=
  Claim7.holds_tied_plain_at .later [] _ _ _ _ saidUpto (fun _ h => by cases h) (by kernel_rfl) (fun _ h => by cases h) patternGrammarsUpto_row_tie rfl ⟨rfl, rfl⟩ (by kernel_rfl) rfl plain (by kernel_rfl)
end Go.AL
namespace Go.Proofs.YtggclegkceimjaaDoor
theorem patternGrammars_holds : Rows.PatternGrammarsUptoCardSaid := Go.AL.cardUpto
end Go.Proofs.YtggclegkceimjaaDoor
