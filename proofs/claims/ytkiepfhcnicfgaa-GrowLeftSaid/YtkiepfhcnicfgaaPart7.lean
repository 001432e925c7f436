/-
  What is proved: for every two bytes, every number and every text, the law dowellaw17.GrowLeft answers true, and its arguments read as they did before: the left-recursive grammar that the law builds takes one a and as many b as there are, its captures lie to the left, and what is left over is the text behind.
  Conditions: none beyond the given statement's own.
-/
import Derived.Below
import Derived.Carry
import Derived.ChangeKeysEq
import Derived.ChangeMaps5
import Derived.ChangeSame
import Derived.Deep.Draws
import Derived.Ground.Names2Prog
import Derived.JoinedAt
import Derived.JoinedOf
import Derived.KernelRfl
import Derived.Laws.CopyRow
import Derived.Laws.Cover3
import Derived.Laws.IdiomCopy
import Derived.Laws.IdiomStrings
import Derived.Laws.OwnMore
import Derived.Laws.Rows
import Derived.Laws.Small
import Derived.Laws.Strings3
import Derived.Laws.StructEq
import Derived.Lib.AppendZeros
import Derived.Maps.AppendAt
import Derived.OpenShut
import Derived.Orders
import Derived.ProofKit
import Derived.Recover
import Derived.RowKit3
import Derived.Shelf.Slices.Cells
import Derived.Shelf.Slices.CompactI
import Derived.Shelf.Slices.In.SortNone
import Derived.Shelf.Small.Strs
import Derived.Shelf.Small.Utf8
import Derived.Shelf.Small.Wraps
import Derived.Shelf.Sort.Plain
import Derived.Shelf.Strings.AsciiSet
import Derived.Shelf.Strings.IndexAny
import Derived.Shelf.Strings.IndexAnyAll
import Derived.Shelf.Strings.Prefix
import Derived.Shelf.Strings.Runes
import Derived.Shelf.Strings.Search1
import Derived.Sort.OwnSortedInts
import Derived.Sort.Row
import Derived.StillTail
import Derived.Tactics
import Derived.Test.YtkiepfhcnicfgaaProg
import Derived.Test.YtkiepfhcnicfgaaRows
import Derived.WalkKit
import Derived.WideKeyRuns
import Derived.WideLaws
import Derived.Test.YtkiepfhcnicfgaaPart6
set_option linter.all false
set_option linter.unusedVariables false
namespace Go.AL
open Go.Proofs
set_option maxRecDepth 10000
attribute [local irreducible] AWp AList RStep seqQ blockQ retQ DSteps DT DU DM DZ awR rQ SStep letterB digitB preB nameOk anyB rightL checkI
section
variable {P : Program} {σ : List AObj} {fr : Fr} {d : Option Nat} {ty : TypeId} {pos : String} {aft : Array Edge} {g : Option (Nat × Bool)}
theorem b_convW {src dst : TypeId} {x : Operand} {k k' : IntKind} {n n' : Int} (hw : k'.wrap n = n') (hs : (P.underlying src).isSome = true) (hd : P.underlying dst = some (.int k')) (hx : ev fr x = .c (.p (.lit (.int k n))) := by exact rfl) : RStep P σ fr ⟨d, .convert src dst x, ty, pos, aft, g⟩ (.c (.p (.lit (.int k' n')))) := by
  have hk : P.intKind dst = k' := by simp [Program.intKind, hd]
  exact r_conv hx (fun w => by
    have := run_convert_int (P := P) w src dst k n hs (by rw [hk]; exact hd)
    rw [hk, hw] at this; exact this) rfl
theorem b_remW {t t' : TypeId} {x y : Operand} {k : IntKind} {a b c : Int} (h : a.tmod b = c) (hb : b ≠ 0) (hx : ev fr x = .c (.p (.lit (.int k a))) := by exact rfl) (hy : ev fr y = .c (.p (.lit (.int k b))) := by exact rfl) : RStep P σ fr ⟨d, .binOp .rem t x y t', ty, pos, aft, g⟩ (.c (.p (.lit (.int k c)))) :=
  r_bin hx hy (fun w => by simp [eqGuard, binOp, Op.intDiv, hb, h]) rfl
end
theorem wrap_u64r (n : Int) : 0 ≤ IntKind.u64.wrap n ∧ IntKind.u64.wrap n < 18446744073709551616 := by
  simp only [IntKind.wrap, IntKind.bits, IntKind.signed]
  have e : (2 : Int) ^ 64 = 18446744073709551616 := by decide
  simp only [e, Bool.false_and]
  rw [if_neg (by simp)]
  omega
theorem rem60 (n : Int) : ∃ m : Nat, m < 60 ∧ (IntKind.u64.wrap n).tmod 60 = (m : Int) := by
  obtain ⟨h0, h1⟩ := wrap_u64r n
  generalize IntKind.u64.wrap n = u at h0 h1
  have e : u.tmod 60 = u % 60 := Int.tmod_eq_emod_of_nonneg h0
  refine ⟨(u % 60).toNat, by omega, ?_⟩
  rw [e]
  omega
abbrev oOut (j : Nat) : AObj := .cells [.p (lI 1), .p (lI ((j : Int) + 1)), .p (lS ⟨#[]⟩), .p (forestP (forL j))]
abbrev oUsed (ud us : Int) : AObj := .cells [.p (lI ud), .p (lI us)]
abbrev eOut (j : Nat) : Ent := ⟨13, 11, fun n => .c (.ptr n 0), .cells (zC (Value.agg #[.int .i64 0, .int .i64 0, .string ⟨#[]⟩, .slice none 0 0])), some 15, oOut j⟩
abbrev eUsed (ud us : Int) : Ent := ⟨14, 12, fun n => .c (.ptr n 0), .cells (zC (Value.agg #[.int .i64 0, .int .i64 0])), some 16, oUsed ud us⟩
def inL (a b : UInt8) (m : Nat) (tail : ByteArray) : ByteArray := ⟨(a :: List.replicate m b).toArray⟩ ++ tail
theorem ba_get (s : ByteArray) (i : Nat) : s[i]? = s.data.toList[i]? := by
  by_cases h : i < s.size
  · rw [getElem?_pos s i h, List.getElem?_eq_getElem (by simpa using h)]
    rfl
  · rw [getElem?_neg s i h, List.getElem?_eq_none (by simpa using h)]
theorem inL_list (a b : UInt8) (m : Nat) (tail : ByteArray) : (inL a b m tail).data.toList = a :: (List.replicate m b ++ tail.data.toList) := by
  simp [inL, ByteArray.data_append]
theorem inL_size (a b : UInt8) (m : Nat) (tail : ByteArray) : (inL a b m tail).size = m + 1 + tail.size := by
  have := congrArg List.length (inL_list a b m tail)
  simp only [Array.length_toList, List.length_cons, List.length_append, List.length_replicate] at this
  show (inL a b m tail).data.size = m + 1 + tail.data.size
  omega
theorem inL_a (a b : UInt8) (m : Nat) (tail : ByteArray) : (inL a b m tail)[0]? = some a := by
  rw [ba_get, inL_list]; rfl
theorem inL_b (a b : UInt8) (m : Nat) (tail : ByteArray) (j : Nat) (h : j < m) : (inL a b m tail)[j + 1]? = some b := by
  rw [ba_get, inL_list, List.getElem?_cons_succ, List.getElem?_append_left (by simpa using h)]
  simp [h]
theorem inL_t (a b : UInt8) (m : Nat) (tail : ByteArray) : (inL a b m tail)[m + 1]? = tail[0]? := by
  rw [ba_get, ba_get, inL_list, List.getElem?_cons_succ, List.getElem?_append_right (by simp)]
  simp
theorem forL_get : ∀ (j i : Nat), i < j → at' (forL j) (i : Int) = ⟨eN, 0, (j : Int) + 1 - i, if i + 1 = j then 0 else 1⟩
  | j + 1, 0, _ => by
    show Cap.mk eN 0 ((j : Int) + 2) (if j = 0 then 0 else 1) = _
    congr 1
    · push_cast; omega
  | j + 1, i + 1, h => by
    have := forL_get j i (by omega)
    have e : at' (forL (j + 1)) ((i + 1 : Nat) : Int) = at' (forL j) (i : Int) := by
      simp [forL, at']
    rw [e, this]
    congr 1
    · push_cast; omega
    · by_cases h : i + 1 = j
      · rw [if_pos h, if_pos (by omega)]
      · rw [if_neg h, if_neg (by omega)]
theorem cap_eq (s : ByteArray) (x y z : Int) : eqCells [.string s, .int .i64 x, .int .i64 y, .int .i64 z] [.string s, .int .i64 x, .int .i64 y, .int .i64 z] = true := by
  simp [eqCells, vbeq, beq_bytes]
theorem hmvL (j : Nat) (ud us : Int) : ∀ e ∈ [eOut j, eUsed ud us], Mv e.v := by
  intro e he
  simp only [List.mem_cons, List.not_mem_nil, or_false] at he
  rcases he with rfl | rfl <;> exact mv_ptr
abbrev outO (j : Nat) (ud us : Int) : List AObj := [oOut j, oUsed ud us]
set_option maxHeartbeats 4000000 in
theorem growLeft_c (a b : UInt8) (n : Int) (tail : ByteArray) : ACalls Try.prog 3 [lU8 a.toNat, lU8 b.toNat, i64 n, strA tail] [] (fun q _ => q = .ret (bl true)) := by
  obtain ⟨m, hm, hm'⟩ := rem60 n
  have hm64 : IntKind.i64.wrap (m : Int) = m := wrap_in (by constructor <;> omega)
  by_cases hte : tail = ⟨#[]⟩
  · have hbx : tail[0]? ≠ some b := by
      subst hte
      intro h
      cases h
    have hts : tail.size = 0 := by rw [hte]; rfl
    refine acalls_by Try.func3 Try.ntmps3 ?_
    simp only [argFr]
    repeat' (first
      | (show lBuildSlice; refine k_buildSl1 ?_)
      | (show lOp; refine op0 (by first | (show kAssign; exact b_assign) | (show kMove; exact b_move) | (show kCall; first | exact b_call (works_c) | exact b_lenStr) | (show kBinopNeq; exact b_strNeq) | (show kBinopGtr; exact b_gtr) | (show kPick; exact b_pickF) | (show kUnopNot; exact b_not) | (show kConvert; first | exact b_convW rfl (congrArg Option.isSome Try.underlying3) Try.underlying23 | exact b_convW hm64 (congrArg Option.isSome Try.underlying23) Try.underlying3) | (show kBinopRem; exact b_remW hm' (by decide))) ?_)
      | (show lGu; first | refine al_yes ?_ | refine al_none ?_ | refine al_splitD (fun h => ?_) (fun h => ?_))
      | (show lNil; refine al_nil ?_)
      | (show qSeq; first | refine n_seq ?_ | refine p_seq ?_)
      | (show cReg; refine aw_reg ?_)
      | (show cSeq; refine aw_seq ?_)
      | (show cBlk; refine aw_block ?_)
      | (show cSkip; refine aw_skip ?_)
      | (show cRet; refine aw_ret ?_)
      | (show cIf; first | refine aw_F ?_ | refine aw_ifD (fun h => ?_) (fun h => ?_))
      | (show eRet; refine ret1 Try.results3 ?_)
      | (exfalso; omega))
    · exact absurd hte h
    have hta : tail.size ≤ 1000 := by omega
    clear hm' hm64
    refine kw_sub [(0, lU8 a.toNat), (1, lU8 b.toNat), (2, i64 m), (3, strA tail), (9, .c (.ms 0 1)), (10, i64 0)] ?_ (by simp [Fr.get])
    refine aw_roundsG (ι := Nat) (fun j n => [(0, lU8 a.toNat), (1, lU8 b.toNat), (2, i64 m), (3, strA tail), (9, .c (.ms (n + 0) (j + 1))), (10, i64 j)]) (fun j n => [.arr 5 1 ((a :: List.replicate j b).map encByte)]) (fun j => j ≤ m) (fun j => m - j) 0 0 (by omega) (by simp) rfl (by simp [Fr.get]) ?_
    intro j n g h1 hg
    by_cases hj : j < m
    · repeat' (first
        | (refine aw_T ?_ (hb := decide_eq_true (by omega)))
        | (show lCall; refine k_app1 (f := encByte) b ?_)
        | (show lOp; refine op0 (by first | (show kAssign; exact b_assign) | (show kMove; exact b_move) | (show kBinopAdd; exact b_add) | (show kBinopLss; exact b_lss) | (show kBuildslice; exact b_buildSl1)) ?_)
        | (show lNil; refine al_nil ?_)
        | (show qSeq; refine n_seq ?_)
        | (show qBlk; refine n_block ?_)
        | (show cReg; refine aw_reg ?_)
        | (show cSeq; refine aw_seq ?_)
        | (show cBlk; refine aw_block ?_)
        | (show cSkip; refine aw_skip ?_))
      exact ⟨j + 1, n + 1, by omega, by simp; omega, dropG0 (j := 1) hg (by simp [List.take_of_length_le, List.replicate_succ']), by simp [Fr.get], by omega⟩
    have : j = m := by omega
    subst this
    obtain ⟨ud, us, hus, hrun⟩ := run_left a b (n := j) (input := inL a b j tail) (D := 400) (S := 4000) (by omega) (by rw [inL_size]; omega) (inL_a a b j tail) (inL_b a b j tail) (by rw [inL_t]; exact hbx) (by omega) (by omega) (by omega) (by omega)
    have hl := left_c a b
    have hfit : StrFit ⟨(a :: List.replicate j b).toArray⟩ tail := ⟨by simp only [ByteArray.size, List.size_toArray, List.length_cons, List.length_replicate]; have : (tail.data.size : Int) ≤ 1000 := by exact_mod_cast hta
                                                                       omega⟩
    have hfl := forL_len j
    have hdn : (g ++ [AObj.dead]).length + [eOut j, eUsed ud us].length = n + 3 := by simp; omega
    have hds : (g ++ [AObj.dead]) ++ (List.replicate [eOut j, eUsed ud us].length .dead ++ [eOut j, eUsed ud us].map Ent.fin) = g ++ [.dead, .dead, .dead, oOut j, oUsed ud us] := by rw [List.append_assoc]; rfl
    repeat' (first
      | (refine aw_F ?_ (hb := decide_eq_false (by omega)))
      | (show cAtD 11; refine kw_freeze (xs := (a :: List.replicate j b).map encByte) (n := j + 1) (ys := (a :: List.replicate j b).map encByte) 9 (by rw [List.take_of_length_le (by simp)]) ?_)
      | (show cAtD 11; refine aw_m [eOut j, eUsed ud us] [0,1,2,3,4,5,6,7,8,9,10,11,12,13,14,15,16] [17] (hmvL j ud us) Try_mixed ?_)
      | (refine dm_nil (n := n + 3) (σ' := g ++ [.dead, .dead, .dead, oOut j, oUsed ud us]) ?_ hdn hds)
      | (show lOp; refine op0 (by first | (show kAssign; exact b_assign) | (show kMove; exact b_move) | (show kCall; exact m_lenSl) | (show kLoad; exact b_loadPtr) | (show kFieldaddr; exact b_fieldPtr) | (show kBinopAdd; exact b_add) | (show kBinopNeq; exact b_neq) | (show kBinopLss; exact b_lss) | (show kPick; first | exact b_pickT | exact b_pickF)) ?_)
      | (show lGu; first | refine al_yes ?_ | refine al_none ?_ | refine al_splitD (fun h => ?_) (fun h => ?_))
      | (show lNil; refine al_nil ?_)
      | (show qSeq; first | refine n_seq ?_ | refine p_seq ?_ | refine x_seq ?_)
      | (show qBlk; refine x_eq ?_)
      | (show cReg; refine aw_reg ?_)
      | (show cSeq; refine aw_seq ?_)
      | (show cBlk; refine aw_block ?_)
      | (show cSkip; refine aw_skip ?_)
      | (show cExit; refine aw_exit ?_)
      | (show cRet; refine aw_ret ?_)
      | (show cIf; refine aw_T ?_)
      | (show DM _ _ _ _ _ _ _ _ _ _; first | refine dm_app 0 (e := eOut j) (fun G => s_alloc) ?_ | refine dm_app 1 (e := eUsed ud us) (fun G => s_alloc) ?_ | refine dm_set 0 (e := eOut j) (fun G id hid => t_store (hσ := rfl) (ho := hid)) ?_ | refine dm_set 1 (e := eUsed ud us) (fun G id hid => t_store (hσ := rfl) (ho := hid)) ?_)
      | (show DM _ _ _ _ _ _ _ _ (Oper.mk (some _) _ _ _ _ none :: _) _; refine dm_still (fun G => by first | (show kMove; exact b_move) | (show kCall; first | exact b_call (hl) | exact b_call (hrun)) | (show kBinopAdd; exact b_strAdd hfit) | (show kExtract; exact b_extract) | (show kConvert; exact b_bytesStr (l := a :: List.replicate j b) Try.underlying24 Try.underlying5 Try.underlying9 (by simp)) | (show kBuild; exact b_buildSt)) ?_)
      | (show eRet; refine ret1 Try.results3 ?_)
      | (exfalso; omega))
    refine aw_roundsG (ι := Nat) (fun i n' => [(2, i64 j), (11, .c (.ptr (n' + 0) 0)), (14, i64 i)]) (fun _ _ => outO j ud us) (fun i => i ≤ j) (fun i => j - i) 0 (n + 3) (by omega) (by simp; omega) (dropG0 (j := 3) hg rfl) (by simp [Fr.get, tell]) ?_
    intro i n2 g2 k1 hg2
    by_cases hi : i < j
    · have hget := forL_get j i hi
      have hlen : i < (forL j).length := by omega
      by_cases hlast : i + 1 = j
      · rw [if_pos hlast] at hget
        have heq : eqCells [.string (at' (forL j) (i : Int)).name, .int .i64 (at' (forL j) (i : Int)).frm, .int .i64 (at' (forL j) (i : Int)).til, .int .i64 (at' (forL j) (i : Int)).kids] [.string eN, .int .i64 0, .int .i64 ((j : Int) + 1 - i), .int .i64 0] = true := by
          rw [hget]; exact cap_eq _ _ _ _
        repeat' (first
          | (refine aw_T ?_ (hb := decide_eq_true (by omega)))
          | (show lOp; refine op0 (by first | (show kAssign; exact b_assign) | (show kMove; exact b_move) | (show kLoad; first | exact b_loadRp | exact b_loadPtr) | (show kFieldaddr; exact b_fieldPtr) | (show kIndexaddr; exact m_indexSl) | (show kBinopAdd; exact b_add) | (show kBinopSub; exact b_sub) | (show kBinopEql; exact b_eql) | (show kBinopNeq; exact b_neqAgg (hr := heq)) | (show kBinopLss; exact b_lss) | (show kBuild; exact b_buildSt)) ?_)
          | (show lNil; refine al_nil ?_)
          | (show qSeq; refine n_seq ?_)
          | (show qBlk; refine n_block ?_)
          | (show cReg; refine aw_reg ?_)
          | (show cSeq; refine aw_seq ?_)
          | (show cBlk; refine aw_block ?_)
          | (show cSkip; refine aw_skip ?_)
          | (show cIf; refine aw_F ?_))
        exact ⟨i + 1, n2, by omega, by simp; omega, dropG0 (j := 0) hg2 rfl, by simp [Fr.get], by omega⟩
      · rw [if_neg hlast] at hget
        have heq : eqCells [.string (at' (forL j) (i : Int)).name, .int .i64 (at' (forL j) (i : Int)).frm, .int .i64 (at' (forL j) (i : Int)).til, .int .i64 (at' (forL j) (i : Int)).kids] [.string eN, .int .i64 0, .int .i64 ((j : Int) + 1 - i), .int .i64 1] = true := by
          rw [hget]; exact cap_eq _ _ _ _
        repeat' (first
          | (refine aw_T ?_ (hb := decide_eq_true (by omega)))
          | (refine aw_F ?_ (hb := decide_eq_false (by omega)))
          | (show lOp; refine op0 (by first | (show kAssign; exact b_assign) | (show kMove; exact b_move) | (show kLoad; first | exact b_loadRp | exact b_loadPtr) | (show kFieldaddr; exact b_fieldPtr) | (show kIndexaddr; exact m_indexSl) | (show kBinopAdd; exact b_add) | (show kBinopSub; exact b_sub) | (show kBinopEql; exact b_eql) | (show kBinopNeq; exact b_neqAgg (hr := heq)) | (show kBinopLss; exact b_lss) | (show kBuild; exact b_buildSt)) ?_)
          | (show lNil; refine al_nil ?_)
          | (show qSeq; refine n_seq ?_)
          | (show qBlk; refine n_block ?_)
          | (show cReg; refine aw_reg ?_)
          | (show cSeq; refine aw_seq ?_)
          | (show cBlk; refine aw_block ?_)
          | (show cSkip; refine aw_skip ?_)
          | (show cIf; refine aw_F ?_))
        exact ⟨i + 1, n2, by omega, by simp; omega, dropG0 (j := 0) hg2 rfl, by simp [Fr.get], by omega⟩
    · repeat' (first
        | (refine aw_F ?_ (hb := decide_eq_false (by omega)))
        | (show lOp; refine op0 (by first | (show kAssign; exact b_assign) | (show kMove; exact b_move) | (show kBinopLss; exact b_lss)) ?_)
        | (show lNil; refine al_nil ?_)
        | (show qSeq; first | refine n_seq ?_ | refine x_seq ?_)
        | (show qBlk; refine x_eq ?_)
        | (show cReg; refine aw_reg ?_)
        | (show cSeq; refine aw_seq ?_)
        | (show cExit; refine aw_exit ?_)
        | (show cRet; refine aw_ret ?_)
        | (show eRet; refine ret1 Try.results3 ?_))
      rfl
  · have hpos : 0 < tail.size := by
      rcases Nat.eq_zero_or_pos tail.size with h | h
      · exact absurd (ByteArray.ext (Array.eq_empty_of_size_eq_zero h)) hte
      · exact h
    refine acalls_by Try.func3 Try.ntmps3 ?_
    simp only [argFr]
    repeat' (first
      | (show lBuildSlice; refine k_buildSl1 ?_)
      | (show lOp; refine op0 (by first | (show kAssign; exact b_assign) | (show kMove; exact b_move) | (show kCall; first | exact b_call (works_c) | exact b_lenStr) | (show kBinopEql; exact b_eql) | (show kBinopNeq; exact b_strNeq) | (show kBinopGtr; exact b_gtr) | (show kPick; first | exact b_pickT | exact b_pickF) | (show kUnopNot; exact b_not) | (show kIndex; exact b_indexStrM (h1 := by omega)) | (show kConvert; first | exact b_convW rfl (congrArg Option.isSome Try.underlying3) Try.underlying23 | exact b_convW hm64 (congrArg Option.isSome Try.underlying23) Try.underlying3) | (show kBinopRem; exact b_remW hm' (by decide))) ?_)
      | (show lGu; first | refine al_yes ?_ | refine al_none ?_ | refine al_splitD (fun h => ?_) (fun h => ?_))
      | (show lNil; refine al_nil ?_)
      | (show qSeq; first | refine n_seq ?_ | refine p_seq ?_)
      | (show cReg; refine aw_reg ?_)
      | (show cSeq; refine aw_seq ?_)
      | (show cBlk; refine aw_block ?_)
      | (show cSkip; refine aw_skip ?_)
      | (show cRet; refine aw_ret ?_)
      | (show cIf; first | refine aw_T ?_ | refine aw_F ?_ | refine aw_ifD (fun h => ?_) (fun h => ?_))
      | (show eRet; refine ret1 Try.results3 ?_))
    · rfl
    · rfl
    rename_i hb0
    have hbx : tail[0]? ≠ some b := by
      rw [byte_at hpos]
      intro h
      injection h with h
      exact hb0 (by rw [show Int.toNat 0 = 0 from rfl, h])
    have hta : tail.size ≤ 1000 := by omega
    clear hm' hm64
    refine kw_sub [(0, lU8 a.toNat), (1, lU8 b.toNat), (2, i64 m), (3, strA tail), (9, .c (.ms 0 1)), (10, i64 0)] ?_ (by simp [Fr.get])
    refine aw_roundsG (ι := Nat) (fun j n => [(0, lU8 a.toNat), (1, lU8 b.toNat), (2, i64 m), (3, strA tail), (9, .c (.ms (n + 0) (j + 1))), (10, i64 j)]) (fun j n => [.arr 5 1 ((a :: List.replicate j b).map encByte)]) (fun j => j ≤ m) (fun j => m - j) 0 0 (by omega) (by simp) rfl (by simp [Fr.get]) ?_
    intro j n g h1 hg
    by_cases hj : j < m
    · repeat' (first
        | (refine aw_T ?_ (hb := decide_eq_true (by omega)))
        | (show lCall; refine k_app1 (f := encByte) b ?_)
        | (show lOp; refine op0 (by first | (show kAssign; exact b_assign) | (show kMove; exact b_move) | (show kBinopAdd; exact b_add) | (show kBinopLss; exact b_lss) | (show kBuildslice; exact b_buildSl1)) ?_)
        | (show lNil; refine al_nil ?_)
        | (show qSeq; refine n_seq ?_)
        | (show qBlk; refine n_block ?_)
        | (show cReg; refine aw_reg ?_)
        | (show cSeq; refine aw_seq ?_)
        | (show cBlk; refine aw_block ?_)
        | (show cSkip; refine aw_skip ?_))
      exact ⟨j + 1, n + 1, by omega, by simp; omega, dropG0 (j := 1) hg (by simp [List.take_of_length_le, List.replicate_succ']), by simp [Fr.get], by omega⟩
    have : j = m := by omega
    subst this
    obtain ⟨ud, us, hus, hrun⟩ := run_left a b (n := j) (input := inL a b j tail) (D := 400) (S := 4000) (by omega) (by rw [inL_size]; omega) (inL_a a b j tail) (inL_b a b j tail) (by rw [inL_t]; exact hbx) (by omega) (by omega) (by omega) (by omega)
    have hl := left_c a b
    have hfit : StrFit ⟨(a :: List.replicate j b).toArray⟩ tail := ⟨by simp only [ByteArray.size, List.size_toArray, List.length_cons, List.length_replicate]; have : (tail.data.size : Int) ≤ 1000 := by exact_mod_cast hta
                                                                       omega⟩
    have hfl := forL_len j
    have hdn : (g ++ [AObj.dead]).length + [eOut j, eUsed ud us].length = n + 3 := by simp; omega
    have hds : (g ++ [AObj.dead]) ++ (List.replicate [eOut j, eUsed ud us].length .dead ++ [eOut j, eUsed ud us].map Ent.fin) = g ++ [.dead, .dead, .dead, oOut j, oUsed ud us] := by rw [List.append_assoc]; rfl
    repeat' (first
      | (refine aw_F ?_ (hb := decide_eq_false (by omega)))
      | (show cAtD 11; refine kw_freeze (xs := (a :: List.replicate j b).map encByte) (n := j + 1) (ys := (a :: List.replicate j b).map encByte) 9 (by rw [List.take_of_length_le (by simp)]) ?_)
      | (show cAtD 11; refine aw_m [eOut j, eUsed ud us] [0,1,2,3,4,5,6,7,8,9,10,11,12,13,14,15,16] [17] (hmvL j ud us) Try_mixed ?_)
      | (refine dm_nil (n := n + 3) (σ' := g ++ [.dead, .dead, .dead, oOut j, oUsed ud us]) ?_ hdn hds)
      | (show lOp; refine op0 (by first | (show kAssign; exact b_assign) | (show kMove; exact b_move) | (show kCall; exact m_lenSl) | (show kLoad; exact b_loadPtr) | (show kFieldaddr; exact b_fieldPtr) | (show kBinopAdd; exact b_add) | (show kBinopNeq; exact b_neq) | (show kBinopLss; exact b_lss) | (show kPick; first | exact b_pickT | exact b_pickF)) ?_)
      | (show lGu; first | refine al_yes ?_ | refine al_none ?_ | refine al_splitD (fun h => ?_) (fun h => ?_))
      | (show lNil; refine al_nil ?_)
      | (show qSeq; first | refine n_seq ?_ | refine p_seq ?_ | refine x_seq ?_)
      | (show qBlk; refine x_eq ?_)
      | (show cReg; refine aw_reg ?_)
      | (show cSeq; refine aw_seq ?_)
      | (show cBlk; refine aw_block ?_)
      | (show cSkip; refine aw_skip ?_)
      | (show cExit; refine aw_exit ?_)
      | (show cRet; refine aw_ret ?_)
      | (show cIf; refine aw_T ?_)
      | (show DM _ _ _ _ _ _ _ _ _ _; first | refine dm_app 0 (e := eOut j) (fun G => s_alloc) ?_ | refine dm_app 1 (e := eUsed ud us) (fun G => s_alloc) ?_ | refine dm_set 0 (e := eOut j) (fun G id hid => t_store (hσ := rfl) (ho := hid)) ?_ | refine dm_set 1 (e := eUsed ud us) (fun G id hid => t_store (hσ := rfl) (ho := hid)) ?_)
      | (show DM _ _ _ _ _ _ _ _ (Oper.mk (some _) _ _ _ _ none :: _) _; refine dm_still (fun G => by first | (show kMove; exact b_move) | (show kCall; first | exact b_call (hl) | exact b_call (hrun)) | (show kBinopAdd; exact b_strAdd hfit) | (show kExtract; exact b_extract) | (show kConvert; exact b_bytesStr (l := a :: List.replicate j b) Try.underlying24 Try.underlying5 Try.underlying9 (by simp)) | (show kBuild; exact b_buildSt)) ?_)
      | (show eRet; refine ret1 Try.results3 ?_)
      | (exfalso; omega))
    refine aw_roundsG (ι := Nat) (fun i n' => [(2, i64 j), (11, .c (.ptr (n' + 0) 0)), (14, i64 i)]) (fun _ _ => outO j ud us) (fun i => i ≤ j) (fun i => j - i) 0 (n + 3) (by omega) (by simp; omega) (dropG0 (j := 3) hg rfl) (by simp [Fr.get, tell]) ?_
    intro i n2 g2 k1 hg2
    by_cases hi : i < j
    · have hget := forL_get j i hi
      have hlen : i < (forL j).length := by omega
      by_cases hlast : i + 1 = j
      · rw [if_pos hlast] at hget
        have heq : eqCells [.string (at' (forL j) (i : Int)).name, .int .i64 (at' (forL j) (i : Int)).frm, .int .i64 (at' (forL j) (i : Int)).til, .int .i64 (at' (forL j) (i : Int)).kids] [.string eN, .int .i64 0, .int .i64 ((j : Int) + 1 - i), .int .i64 0] = true := by
          rw [hget]; exact cap_eq _ _ _ _
        repeat' (first
          | (refine aw_T ?_ (hb := decide_eq_true (by omega)))
          | (show lOp; refine op0 (by first | (show kAssign; exact b_assign) | (show kMove; exact b_move) | (show kLoad; first | exact b_loadRp | exact b_loadPtr) | (show kFieldaddr; exact b_fieldPtr) | (show kIndexaddr; exact m_indexSl) | (show kBinopAdd; exact b_add) | (show kBinopSub; exact b_sub) | (show kBinopEql; exact b_eql) | (show kBinopNeq; exact b_neqAgg (hr := heq)) | (show kBinopLss; exact b_lss) | (show kBuild; exact b_buildSt)) ?_)
          | (show lNil; refine al_nil ?_)
          | (show qSeq; refine n_seq ?_)
          | (show qBlk; refine n_block ?_)
          | (show cReg; refine aw_reg ?_)
          | (show cSeq; refine aw_seq ?_)
          | (show cBlk; refine aw_block ?_)
          | (show cSkip; refine aw_skip ?_)
          | (show cIf; refine aw_F ?_))
        exact ⟨i + 1, n2, by omega, by simp; omega, dropG0 (j := 0) hg2 rfl, by simp [Fr.get], by omega⟩
      · rw [if_neg hlast] at hget
        have heq : eqCells [.string (at' (forL j) (i : Int)).name, .int .i64 (at' (forL j) (i : Int)).frm, .int .i64 (at' (forL j) (i : Int)).til, .int .i64 (at' (forL j) (i : Int)).kids] [.string eN, .int .i64 0, .int .i64 ((j : Int) + 1 - i), .int .i64 1] = true := by
          rw [hget]; exact cap_eq _ _ _ _
        repeat' (first
          | (refine aw_T ?_ (hb := decide_eq_true (by omega)))
          | (refine aw_F ?_ (hb := decide_eq_false (by omega)))
          | (show lOp; refine op0 (by first | (show kAssign; exact b_assign) | (show kMove; exact b_move) | (show kLoad; first | exact b_loadRp | exact b_loadPtr) | (show kFieldaddr; exact b_fieldPtr) | (show kIndexaddr; exact m_indexSl) | (show kBinopAdd; exact b_add) | (show kBinopSub; exact b_sub) | (show kBinopEql; exact b_eql) | (show kBinopNeq; exact b_neqAgg (hr := heq)) | (show kBinopLss; exact b_lss) | (show kBuild; exact b_buildSt)) ?_)
          | (show lNil; refine al_nil ?_)
          | (show qSeq; refine n_seq ?_)
          | (show qBlk; refine n_block ?_)
          | (show cReg; refine aw_reg ?_)
          | (show cSeq; refine aw_seq ?_)
          | (show cBlk; refine aw_block ?_)
          | (show cSkip; refine aw_skip ?_)
          | (show cIf; refine aw_F ?_))
        exact ⟨i + 1, n2, by omega, by simp; omega, dropG0 (j := 0) hg2 rfl, by simp [Fr.get], by omega⟩
    · repeat' (first
        | (refine aw_F ?_ (hb := decide_eq_false (by omega)))
        | (show lOp; refine op0 (by first | (show kAssign; exact b_assign) | (show kMove; exact b_move) | (show kBinopLss; exact b_lss)) ?_)
        | (show lNil; refine al_nil ?_)
        | (show qSeq; first | refine n_seq ?_ | refine x_seq ?_)
        | (show qBlk; refine x_eq ?_)
        | (show cReg; refine aw_reg ?_)
        | (show cSeq; refine aw_seq ?_)
        | (show cExit; refine aw_exit ?_)
        | (show cRet; refine aw_ret ?_)
        | (show eRet; refine ret1 Try.results3 ?_))
      rfl
end Go.AL
set_option linter.unusedVariables false
namespace Go.AL
open Go.Proofs Go.ChangeShapes Go.WideShapes Go.RowKit Go.ChangeAt
open Go.ChangeMaps (open_string shut_string)
set_option maxRecDepth 10000
theorem start_nil (W : World) : Inv [] (fun b k => b < W.heap.size) [] W := by
  have hfp : ∀ b k, ¬ FP [] [] b k := by
    rintro b k ⟨j, o, l, g1, g2, g3⟩
    cases j <;> cases g1
  refine ⟨rfl, fun b k hf => hf, fun b k hf => absurd hf (hfp b k), fun j o l g1 g2 => ?_, fun i j o l o' l' hne g1 _ g3 _ => ?_, fun b k hf hF => hfp b k hf⟩
  · cases j <;> cases g1
  · cases i <;> cases g1
/-! ### What the row asks -/
theorem post_below {H : Type} {enc : TypeId × Value → H} {P : Program} {f : Func} {s : ChangeSpec} {apart fresh handsOn again : Bool} {W W' : World} {args : Array Value} {v : Value} {ds gs : List (DataW H)} {before pa pv : List MemPlace}
    (hW : DataW.Whole enc P f.params.toList s.vars apart W args.toList ds gs before)
    (hres : ∀ (b : Nat) (sp : Nat → Bool) (hd : Bool), DataW.TrodAll enc P W' b sp hd f.resultTypes.toList (v.resultList f.resultTypes.size) (s.fn H (ds ++ gs)).results [])
    (hargs : ∀ sp : Nat → Bool, (∀ p ∈ before, sp p.block = true) → DataW.TrodAll enc P W' 0 sp true f.params.toList args.toList (s.fn H (ds ++ gs)).args pa)
    (hvars : ∀ sp : Nat → Bool, (∀ p ∈ before, sp p.block = true) → DataW.TrodVars enc P W' sp s.vars (s.fn H (ds ++ gs)).vars pv)
    (hps : before = pa ++ pv) (hb : Below W.heap.size W W')
    (hok : ∀ (j : Nat) (t : TypeId) (r : Value), f.resultTypes[j]? = some t → (v.resultList f.resultTypes.size)[j]? = some r → Value.okWide P W' .any 0 t r) :
    s.post enc P f apart fresh handsOn again W args v W' := by
  subst hps
  have hlt : ∀ p ∈ pa ++ pv, p.block < W.heap.size := fun p hp => hW.lt p hp
  refine ⟨ds, gs, pa ++ pv, [], pa, pv, hW, hres _ _ _, hargs _ fun p hp => by simpa using hlt p hp, hvars _ fun p hp => by simpa using hlt p hp, hb.frame _, fun _ => ?_⟩
  obtain ⟨_, _, _, _, _, hz, hn⟩ := hW
  refine ⟨hok, _, _, [] ++ pa ++ pv, ⟨[] ++ pa, pv, trodAll_append (hargs _ fun _ _ => rfl) (hres _ _ _), hvars _ fun _ _ => rfl, rfl, fun b off hp => ?_, fun ha => by simpa using hn ha⟩, fun p hp _ => by simpa using hp⟩
  have hp : MemPlace.cell b off ∈ pa ++ pv := by simpa using hp
  have hbl : b < W.heap.size := hlt _ hp
  rw [hb.frozen (p := ⟨b, off, none⟩) hbl]
  exact hz b off hp
theorem own : ownKnob Try.prog.godebug = none := by kernel_rfl
theorem u8_came {z : Int} (h : (Lit.int IntKind.u8 z).wf = true) : ∃ a : UInt8, z = (a.toNat : Int) := by
  simp only [Lit.wf] at h
  refine ⟨UInt8.ofNat z.toNat, ?_⟩
  have e0 : IntKind.u8.min = 0 := by decide
  have e1 : IntKind.u8.max = 255 := by decide
  have : (UInt8.ofNat z.toNat).toNat = z.toNat % 256 := by simp
  rw [this]
  simp [e0, e1] at h
  omega
set_option maxRecDepth 100000 in
theorem lifted (os : Os) (started : os.Started) (H : Type) (enc : TypeId × Value → H) :
    ReturnsInHanded {} Try.checked os 3 .any (Go.Proofs.Ytkiepfhcnicfgaa.Rows.growLeftSpec.pre6 enc Try.prog Try.f3 Go.Proofs.Ytkiepfhcnicfgaa.Rows.growLeftRow.domain false) (Go.Proofs.Ytkiepfhcnicfgaa.Rows.growLeftSpec.post enc Try.prog Try.f3 false true false false) := by
  refine returnsInHanded_of_change (C := Try.checked) own started (by kernel_rfl) Try.func3
    (ChangeSpec.witness6 (enc := enc) (C := Try.checked) false ⟨#[], #[.int .u8 0, .int .u8 0, .int .i64 0, .string ⟨#[]⟩], []⟩ 8 (by kernel_rfl) (by kernel_rfl) (by kernel_rfl) (by kernel_rfl)) ?_
  intro W base args ds gs before hval0 hW _ _
  have hval : ∀ (j : Nat) t v, Try.f3.params[j]? = some t → args[j]? = some v → Value.okWide Try.prog W .any base t v := hval0
  have hW' := hW
  obtain ⟨p, q, hA0, hV, rfl, _, _⟩ := hW
  have hA : DataW.TrodAll enc Try.prog W 0 (fun _ => true) true Try.f3.params.toList args.toList ds p := hA0
  rw [Try.params3] at hA hval
  obtain ⟨v0, vs0, d0, ds0, p0, q0, hargs, rfl, rfl, h0, r0⟩ := trodAll_cons hA
  obtain ⟨v1, vs1, d1, ds1, p1, q1, rfl, rfl, rfl, h1, r1⟩ := trodAll_cons r0
  obtain ⟨v2, vs2, d2, ds2, p2, q2, rfl, rfl, rfl, h2, r2⟩ := trodAll_cons r1
  obtain ⟨v3, vs3, d3, ds3, p3, q3, rfl, rfl, rfl, h3, r3⟩ := trodAll_cons r2
  obtain ⟨rfl, rfl, rfl⟩ := trodAll_nil r3
  obtain rfl : args = #[v0, v1, v2, v3] := by cases args; simp_all
  obtain ⟨rfl, rfl⟩ := trodVars_none hV
  obtain ⟨z0, rfl, rfl, rfl, w0⟩ := open_int Try.underlying5 (hval 0 5 v0 rfl rfl) h0
  obtain ⟨z1, rfl, rfl, rfl, w1⟩ := open_int Try.underlying5 (hval 1 5 v1 rfl rfl) h1
  obtain ⟨n, rfl, rfl, rfl, wn⟩ := open_int Try.underlying3 (hval 2 3 v2 rfl rfl) h2
  obtain ⟨s, rfl, rfl, rfl, hs⟩ := open_string Try.underlying9 (hval 3 9 v3 rfl rfl) h3
  obtain ⟨a, rfl⟩ := u8_came w0
  obtain ⟨b, rfl⟩ := u8_came w1
  clear hA0 hval0
  simp only [List.append_nil] at hW'
  refine (growLeft_c a b n s [] _ W #[.int .u8 a.toNat, .int .u8 b.toNat, .int .i64 n, .string s] (start_nil W) rfl (fun j x hj => ?_)).mono fun e W' he => ?_
  · match j, hj with
    | 0, hj => injection hj with hj; subst hj; exact RP.lit rfl
    | 1, hj => injection hj with hj; subst hj; exact RP.lit rfl
    | 2, hj => injection hj with hj; subst hj; exact RP.lit rfl
    | 3, hj => injection hj with hj; subst hj; exact RP.lit rfl
    | j + 4, hj => cases hj
  · obtain ⟨m', F', σ', r, rfl, hr, hi', hst⟩ := he
    cases e with
    | panicked ch => exact hr.elim
    | outgrown => exact hr.elim
    | returned u =>
      have hu : u = .bool true := RP.eq_lit hr
      subst hu
      have hb : Below W.heap.size W W' := by
        refine ⟨hst.os, hst.tape, hst.output, hst.size, fun b hb => hst.blk b hb fun z ⟨j, o, l, g1, g2, g3⟩ => ?_⟩
        cases j <;> cases g1
      exact ⟨_, rfl, post_below (pa := []) (pv := []) hW' (fun _ _ _ => trodAll_cons_mk (shut_bool Try.underlying4 _) trodAll_mk0) (fun sp _ => trodAll_cons_mk (shut_int Try.underlying5 w0) (trodAll_cons_mk (shut_int Try.underlying5 w1) (trodAll_cons_mk (shut_int Try.underlying3 wn) (trodAll_cons_mk (shut_string Try.underlying9 hs) trodAll_mk0)))) (fun _ _ => rfl) rfl hb (ok_one (by kernel_rfl) rfl (okWide_bool_mk Try.underlying4 _))⟩
theorem saidLeft : Go.Proofs.Ytkiepfhcnicfgaa.Rows.GrowLeftSaid :=
  OpenClaim.holds_of_wide 3 Try.f3 rfl rfl rfl rfl rfl rfl rfl ⟨rfl, rfl, rfl, rfl, rfl⟩ rfl rfl rfl rfl rfl (by kernel_rfl) Try.func3 (by kernel_rfl)
    (of_decide_eq_true (by kernel_rfl)) (by unfold Func.isWrapper; first | (rw [if_pos (by decide +kernel)]; kernel_rfl) | (rw [if_neg (by decide +kernel)]; exact ⟨rfl, rfl⟩))
    (fun os started H enc _ => lifted os started H enc)
end Go.AL
namespace Go.Proofs.Ytkiepfhcnicfgaa
theorem growLeft_holds : Rows.GrowLeftSaid := Go.AL.saidLeft
end Go.Proofs.Ytkiepfhcnicfgaa
