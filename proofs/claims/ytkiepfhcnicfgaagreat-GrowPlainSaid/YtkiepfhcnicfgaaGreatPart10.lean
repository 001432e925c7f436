/-
  Part 10 of the proof: what the functions that the law reaches come to.
-/
import Derived.Test.YtkiepfhcnicfgaaGreatPart9
set_option linter.all false
set_option maxRecDepth 100000
set_option maxHeartbeats 8000000
namespace Go.AL
open Go.Proofs
attribute [local irreducible] AWp AList RStep seqQ blockQ retQ DSteps DT DU DM DZ awR rQ SStep
def z163 : Value := .agg (List.replicate 256 (Value.bool false)).toArray
instance : TV Tryz.prog 163 true 256 := TV.of Tryz.underlying163 rfl (by kernel_rfl) (by decide) (by decide)
instance : TZ Tryz.prog 163 z163 := TZ.of (by kernel_rfl) (by kernel_rfl)
instance : TA Tryz.prog 163 256 4 := ⟨Tryz.underlying163⟩
def bitC (b : Bool) : C := .p (lB b)
theorem z163_cells : zC z163 = (List.replicate 256 false).map bitC := by rfl
section
variable {P : Program} {σ : List AObj} {fr : Fr} {d : Option Nat} {ty : TypeId} {pos : String} {aft : Array Edge} {g : Option (Nat × Bool)}
theorem b_quoI {t t' : TypeId} {x : Operand} {n : Nat} (h : n < 256) (hx : ev fr x = i64 n := by exact rfl) : RStep P σ fr ⟨d, .binOp .quo t x (.const (.int .i64 64)) t', ty, pos, aft, g⟩ (i64 ((n / 64 : Nat) : Int)) := by
 refine r_bin hx rfl (fun w => ?_) rfl
 have e : (n : Int).tdiv 64 = ((n / 64 : Nat) : Int) := by rw [Int.tdiv_eq_ediv_of_nonneg (by omega)]; rfl
 simp only [eqGuard, binOp, Op.intDiv]
 simp [e]
 exact wrap_in (by constructor <;> omega)
theorem b_remI {t t' : TypeId} {x : Operand} {n : Nat} (h : n < 256) (hx : ev fr x = i64 n := by exact rfl) : RStep P σ fr ⟨d, .binOp .rem t x (.const (.int .i64 64)) t', ty, pos, aft, g⟩ (i64 ((n % 64 : Nat) : Int)) := by
 refine r_bin hx rfl (fun w => ?_) rfl
 have e : (n : Int).tmod 64 = ((n % 64 : Nat) : Int) := by rw [Int.tmod_eq_emod_of_nonneg (by omega)]; rfl
 simp [eqGuard, binOp, Op.intDiv, e]
theorem b_shrI {t t' : TypeId} {x y : Operand} {n : Int} {k : Nat} (h : k < 64) (hx : ev fr x = .c (.p (lU n)) := by exact rfl) (hy : ev fr y = i64 k := by exact rfl) : RStep P σ fr ⟨d, .binOp .shr t x y t', ty, pos, aft, g⟩ (.c (.p (lU (n / 2 ^ k)))) :=
 r_bin hx hy (fun w => by
  simp only [eqGuard, binOp]
  rw [shift_shr .u64 .i64 n (k : Int) (by omega) (by simp [IntKind.bits]; omega)]
  simp) rfl
theorem b_shlI {t t' : TypeId} {y : Operand} {k : Nat} (h : k < 64) (hy : ev fr y = i64 k := by exact rfl) : RStep P σ fr ⟨d, .binOp .shl t (.const (.int .u64 1)) y t', ty, pos, aft, g⟩ (.c (.p (lU ((2 ^ k : Nat) : Int)))) := by
 refine r_bin rfl hy (fun w => ?_) rfl
 have e : IntKind.u64.wrap (1 * 2 ^ ((k : Int).toNat)) = ((2 ^ k : Nat) : Int) := by
  rw [Int.toNat_natCast, Int.one_mul]
  have h1 : (2 : Nat) ^ k < 2 ^ 64 := Nat.pow_lt_pow_right (by omega) h
  have h2 : ((2 : Int) ^ k) = ((2 ^ k : Nat) : Int) := by simp
  rw [h2]
  exact wrap_u64 h1
 simp only [eqGuard, binOp]
 rw [shift_shl .u64 .i64 1 (k : Int) (by omega) (by simp [IntKind.bits]; omega), e]
 simp
end
/-- A class's words, as cells. -/
def words (c : Cls) : List Int := [c.c0, c.c1, c.c2, c.c3]
def wC (n : Int) : C := .p (lU n)
theorem words_at (c : Cls) {j : Nat} (h : j < 4) : at' (words c) (j : Int) = wordOf c j := by
 have : j = 0 \/ j = 1 \/ j = 2 \/ j = 3 := by omega
 rcases this with rfl | rfl | rfl | rfl <;> rfl
theorem has44_c (c : Cls) (b : UInt8) : ACalls Tryz.prog 44 [clsV c, lU8 b.toNat] [] (fun r _ => r = .ret (bl (openB c b.toNat))) := by
 have hb : b.toNat < 256 := b.toNat_lt
 have hm : b.toNat % 64 < 64 := Nat.mod_lt _ (by omega)
 have e : openB c b.toNat = decide (bits .and .u64 (wordOf c (b.toNat / 64) / 2 ^ (b.toNat % 64)) 1 = 1) := rfl
 rw [e]
 have hj : b.toNat / 64 = 0 \/ b.toNat / 64 = 1 \/ b.toNat / 64 = 2 \/ b.toNat / 64 = 3 := by omega
 rcases hj with hj | hj | hj | hj
 all_goals rw [hj]
 ·skip
  refine acalls_by Tryz.func44 Tryz.ntmps44 ?_
  simp only [argFr]
  repeat' (first| (show lOp; refine op0 (by first | (show kBinopAnd; exact b_and1) | (show kBinopShr; exact b_shrU64 (k := b.toNat % 64) (by omega)) | (show kBinopQuo; exact b_quoU8 hb hj) | (show kBinopRem; exact b_remU8 hb)) ?_)| (show eRet; refine ret1 Tryz.results44 ?_)| (refine wS ?_)| fail)
  rfl
 ·skip
  refine acalls_by Tryz.func44 Tryz.ntmps44 ?_
  simp only [argFr]
  repeat' (first| (show lOp; refine op0 (by first | (show kBinopAnd; exact b_and1) | (show kBinopShr; exact b_shrU64 (k := b.toNat % 64) (by omega)) | (show kBinopQuo; exact b_quoU8 hb hj) | (show kBinopRem; exact b_remU8 hb)) ?_)| (show eRet; refine ret1 Tryz.results44 ?_)| (refine wS ?_)| fail)
  rfl
 ·skip
  refine acalls_by Tryz.func44 Tryz.ntmps44 ?_
  simp only [argFr]
  repeat' (first| (show lOp; refine op0 (by first | (show kBinopAnd; exact b_and1) | (show kBinopShr; exact b_shrU64 (k := b.toNat % 64) (by omega)) | (show kBinopQuo; exact b_quoU8 hb hj) | (show kBinopRem; exact b_remU8 hb)) ?_)| (show eRet; refine ret1 Tryz.results44 ?_)| (refine wS ?_)| fail)
  rfl
 ·skip
  refine acalls_by Tryz.func44 Tryz.ntmps44 ?_
  simp only [argFr]
  repeat' (first| (show lOp; refine op0 (by first | (show kBinopAnd; exact b_and1) | (show kBinopShr; exact b_shrU64 (k := b.toNat % 64) (by omega)) | (show kBinopQuo; exact b_quoU8 hb hj) | (show kBinopRem; exact b_remU8 hb)) ?_)| (show eRet; refine ret1 Tryz.results44 ?_)| (refine wS ?_)| fail)
  rfl
theorem bits_load {bs : List Bool} (h : bs.length = 256) : loaded true 256 ((bs.map bitC).drop 0) = some (.agg (bs.map bitC)) := by
 simp [loaded, h, List.take_of_length_le]
theorem bits_sure (bs : List Bool) : sureV (.agg (bs.map bitC)) = true := by
 simp [sureV, bitC, sureC]
theorem bits_lay {us bs : List Bool} (ha : us.length = 256) (hb : bs.length = 256) : lay (us.map bitC) 0 (AV.agg (bs.map bitC)).cells = bs.map bitC := by
 show lay (us.map bitC) 0 (bs.map bitC) = _
 unfold lay
 simp [ha, hb, List.drop_of_length_le]
theorem bits_le {us : List Bool} (ha : us.length = 256) : Nat.ble (0 + 256) (us.map bitC).length = true := by
 rw [List.length_map, ha]; rfl
theorem bits_n {bs : List Bool} (h : bs.length = 256) : (AV.agg (bs.map bitC)).cells.length = 256 := by
 show (bs.map bitC).length = 256
 rw [List.length_map, h]
theorem bits_ne {bs : List Bool} (h : bs.length = 256) : (bs.map bitC).isEmpty = false := by
 cases bs with
 | nil => cases h
 | cons a t => rfl
theorem set_to {α : Type} [Inhabited α] {ls L : List α} {i : Nat} (hi : i < ls.length) {v : α} (h : ∀ k : Nat, k < i -> at' ls (k : Int) = at' L (k : Int)) (hv : v = at' L (i : Int)) : ∀ k : Nat, k < i + 1 -> at' (ls.set i v) (k : Int) = at' L (k : Int) := fun k hk => by
 by_cases e : i = k
 ·subst e
  rw [at'_set_self hi, hv]
 ·rw [at'_set_ne e]
  exact h k (by omega)
theorem open_len (c : Cls) : (openM c).length = 256 := by simp [openM]
theorem open92_c (c : Cls) : ACalls Tryz.prog 92 [clsV c] [] (fun r _ => r = .ret (.agg ((openM c).map bitC))) := by
 refine acalls_by Tryz.func92 Tryz.ntmps92 ?_
 simp only [argFr]
 repeat' (first| (show lAlloc; refine k_alloc (zc := (List.replicate 256 false).map bitC) ?_ (hz := z163_cells))| (refine wS ?_)| fail)
 refine aw_roundsP (ι := Nat × List Bool) 3 (fun i => [.cells ((words c).map wC), .cells ((List.replicate 256 false).map bitC), .cells (i.2.map bitC)]) (fun i n => [(1, .c (.ptr 0 0)), (2, .c (.ptr 1 0)), (3, .c (.ptr 2 0)), (4, i64 (i.1 : Int))]) (fun _ _ => []) (fun i => i.1 <= 256 /\ i.2.length = 256 /\ ∀ k : Nat, k < i.1 -> at' i.2 (k : Int) = at' (openM c) (k : Int)) (fun i => 256 - i.1) (0, List.replicate 256 false) 3 (fun _ => rfl) ⟨by simp, by simp, by simp⟩ (by omega) (by simp) rfl rfl (by simp [Fr.get]) ?_
 rintro ⟨i, bs⟩ n g ⟨h1, h2, h3⟩ hg
 dsimp only at h1 h2 h3 hg ⊢
 have hg3 : 3 + g.length = n := by simp at hg; omega
 clear hg
 by_cases hi : i < 256
 ·have hw := words_at c (j := i / 64) (by omega)
  have hm : i % 64 < 64 := Nat.mod_lt _ (by omega)
  have hlen : i / 64 < (words c).length := by show i / 64 < 4; omega
  have hv : decide (bits .and .u64 (at' (words c) ((i / 64 : Nat) : Int) / 2 ^ (i % 64)) 1 = 1) = at' (openM c) (i : Int) := by rw [open_at c hi, hw]; rfl
  repeat' (first| (refine aw_T ?_ (hb := dT (show (i : Int) < 256 by omega)))| (show lStore; refine k_storeAt (f := bitC) (xs := bs) i (decide (bits .and .u64 (at' (words c) ((i / 64 : Nat) : Int) / 2 ^ (i % 64)) 1 = 1)) (by omega) ?_)| (show lOp; refine op0 (by first | (show kLoad; exact b_loadAt (f := wC) (xs := words c) (i / 64) hlen) | (show kBinopAnd; exact b_and1) | (show kBinopShr; exact b_shrI hm) | (show kBinopQuo; exact b_quoI hi) | (show kBinopRem; exact b_remI hi)) ?_)| (refine wS ?_)| fail)
  exact ⟨(i + 1, bs.set i (decide (bits .and .u64 (at' (words c) ((i / 64 : Nat) : Int) / 2 ^ (i % 64)) 1 = 1))), n, ⟨by dsimp only; omega, by simp [h2], set_to (by omega) h3 hv⟩, by omega, by simp; omega, rfl, dropGP (p := 3) (j := 0) hg3 rfl rfl, by simp [Fr.get], by dsimp only; omega⟩
 ·have hbs : bs = openM c := ext_at' (by rw [h2, open_len]) (fun k hk => h3 k (by omega))
  subst hbs
  repeat' (first| (refine aw_F ?_ (hb := dF (show ¬(i : Int) < 256 by omega)))| (show lStore; refine k_store (y := .agg ((openM c).map bitC)) (l' := (openM c).map bitC) ?_ (hsure := bits_sure _) (hn := bits_n h2) (hle := bits_le (by simp)) (hl := bits_lay (by simp) h2))| (show lOp; refine op0 (by (show kLoad; exact b_loadPtr (v := .agg ((openM c).map bitC)) (hl := bits_load h2))) ?_)| (show eRet; refine retC1 Tryz.results92 ?_)| (refine wS ?_)| fail)
  rfl
theorem close_next (s : List Bool) (b : Nat) : closeF s (b + 1) = if at' s (b : Int) = true then setWord (closeF s b) (b / 64) (bits .or .u64 (wordOf (closeF s b) (b / 64)) ((2 ^ (b % 64) : Nat) : Int)) else closeF s b := rfl
theorem words_set (c : Cls) {j : Nat} (hj : j < 4) (v : Int) : (words c).set j v = words (setWord c j v) := by
 have : j = 0 \/ j = 1 \/ j = 2 \/ j = 3 := by omega
 rcases this with rfl | rfl | rfl | rfl <;> rfl
theorem close93_c (s : List Bool) (hs : s.length = 256) : ACalls Tryz.prog 93 [.agg (s.map bitC)] [] (fun r _ => r = .ret (clsV (closeM s))) := by
 refine acalls_by Tryz.func93 Tryz.ntmps93 ?_
 simp only [argFr]
 repeat' (first| (show lBox; refine k_box (l := s.map bitC) ?_ (hne := bits_ne hs) (hsure := bits_sure s))| (refine wS ?_)| fail)
 refine aw_roundsP (ι := Nat) 3 (fun i => [.cells (s.map bitC), .cells ((words ⟨0, 0, 0, 0⟩).map wC), .cells ((words (closeF s i)).map wC)]) (fun i n => [(1, .c (.ptr 0 0)), (2, .c (.ptr 1 0)), (3, .c (.ptr 2 0)), (4, i64 (i : Int))]) (fun _ _ => []) (fun i => i <= 256) (fun i => 256 - i) 0 3 (fun _ => rfl) (Nat.zero_le _) (by omega) (by simp) rfl rfl (by simp [Fr.get]) ?_
 intro i n g h1 hg
 have hg3 : 3 + g.length = n := by simp at hg; omega
 clear hg
 by_cases hi : i < 256
 ·have hw := words_at (closeF s i) (j := i / 64) (by omega)
  have hm : i % 64 < 64 := Nat.mod_lt _ (by omega)
  have hlen : i / 64 < (words (closeF s i)).length := by show i / 64 < 4; omega
  have hnx := close_next s i
  by_cases hb : at' s (i : Int) = true
  ·rw [if_pos hb] at hnx
   have hset := words_set (closeF s i) (j := i / 64) (by omega) (bits .or .u64 (at' (words (closeF s i)) ((i / 64 : Nat) : Int)) ((2 ^ (i % 64) : Nat) : Int))
   rw [hw] at hset
   rw [<- hnx] at hset
   repeat' (first| (refine aw_T ?_ (hb := dT (show (i : Int) < 256 by omega)))| (refine aw_T ?_ (hb := hb))| (show lStore; refine k_storeAt (f := wC) (xs := words (closeF s i)) (i / 64) (bits .or .u64 (at' (words (closeF s i)) ((i / 64 : Nat) : Int)) ((2 ^ (i % 64) : Nat) : Int)) hlen ?_)| (show lOp; refine op0 (by (show kLoad; exact b_loadAt (f := bitC) (xs := s) i (by omega))) ?_)| (show cRegD; refine aw_dr 11 Tryz_mixed ?_)| (show dOp; refine ds_op (by first | (show kLoad; exact b_loadAt (f := wC) (xs := words (closeF s i)) (i / 64) hlen) | (show RStep _ _ _ (Oper.mk _ (.binOp .or _ _ _ _) _ _ _ _) _; exact b_orU) | (show RStep _ _ _ (Oper.mk _ (.binOp .shl _ _ _ _) _ _ _ _) _; exact b_shlI hm) | (show kBinopQuo; exact b_quoI hi) | (show kBinopRem; exact b_remI hi)) ?_)| (refine wS ?_)| fail)
   exact ⟨i + 1, n, by omega, by omega, by simp; omega, by rw [hw, hset]; rfl, dropGP (p := 3) (j := 0) hg3 rfl rfl, by simp [Fr.get], by omega⟩
  ·rw [if_neg hb] at hnx
   have hb' : at' s (i : Int) = false := by simpa using hb
   repeat' (first| (refine aw_T ?_ (hb := dT (show (i : Int) < 256 by omega)))| (refine aw_F ?_ (hb := hb'))| (show lOp; refine op0 (by (show kLoad; exact b_loadAt (f := bitC) (xs := s) i (by omega))) ?_)| (refine wS ?_)| fail)
   exact ⟨i + 1, n, by omega, by omega, by simp; omega, by rw [hnx]; rfl, dropGP (p := 3) (j := 0) hg3 rfl rfl, by simp [Fr.get], by omega⟩
 ·have : i = 256 := by omega
  subst this
  repeat' (first| (refine aw_F ?_ (hb := dF (show ¬((256 : Nat) : Int) < 256 by omega)))| (show eRet; refine retC1 Tryz.results93 ?_)| (refine wS ?_)| fail)
  rfl
end Go.AL
namespace Go.AL
open Go.Proofs
attribute [local irreducible] AWp AList RStep seqQ blockQ retQ DSteps DT DU DM DZ awR rQ SStep
theorem b_loadBit {P : Program} {σ : List AObj} {fr : Fr} {d : Option Nat} {ty : TypeId} {pos : String} {aft : Array Edge} {g : Option (Nat × Bool)} {t : TypeId} {x : Operand} {id off : Nat} {xs : List Bool} (i : Nat) (v : Bool) (hv : at' xs (i : Int) = v) (hi : i < xs.length) [TV P t false 1] (hx : ev fr x = .c (.ptr id off) := by exact rfl) (ho : σ[id]? = some (.cells (xs.map bitC)) := by first | exact rfl | exact getGP (by assumption) rfl rfl) (hoff : off = i := by omega) : RStep P σ fr ⟨d, .load t x, ty, pos, aft, g⟩ (bl v) := by
 subst hv
 exact b_loadAt (f := bitC) i hi hx ho hoff
abbrev bX (a : Cls) : Ent := ⟨4, 7, fun n => .c (.ptr n 0), .cells (zC z163), some 6, .cells ((openM a).map bitC)⟩
abbrev bY (b : Cls) : Ent := ⟨5, 8, fun n => .c (.ptr n 0), .cells (zC z163), some 7, .cells ((openM b).map bitC)⟩
theorem hmvB (a b : Cls) : ∀ e ∈ [bX a, bY b], Mv e.v := by
 intro e he
 simp only [List.mem_cons, List.not_mem_nil, or_false] at he
 rcases he with rfl | rfl <;> exact mv_ptr
theorem z_len : (zC z163).length = 256 := by rw [z163_cells]; simp
theorem bits_layZ {bs : List Bool} (hb : bs.length = 256) : lay (zC z163) 0 (AV.agg (bs.map bitC)).cells = bs.map bitC := by
 rw [z163_cells]; exact bits_lay (by simp) hb
abbrev preT2 (a b : Cls) (s : List Bool) : List AObj := [.cells ((words a).map wC), .cells ((words b).map wC), .cells ((words ⟨0, 0, 0, 0⟩).map wC), .dead, .dead, .cells ((openM a).map bitC), .cells ((openM b).map bitC), .cells (s.map bitC)]
theorem two_len (a b : List Bool) : (twoS a b).length = 256 := by simp [twoS]
theorem two_at (a b : List Bool) {i : Nat} (h : i < 256) : at' (twoS a b) (i : Int) = (at' a (i : Int) || at' b (i : Int)) := by
 unfold twoS
 simp [at', h]
theorem two84_c (a b : Cls) : ACalls Tryz.prog 84 [i64 1, clsV a, clsV b] [] (fun r _ => r = .ret (clsV (twoM a b))) := by
 have h1 := open92_c a
 have h2 := open92_c b
 have hla := open_len a
 have hlb := open_len b
 have hcl := close93_c (twoS (openM a) (openM b)) (two_len _ _)
 have hdn : [AObj.cells ((words a).map wC), .cells ((words b).map wC), .cells ((words ⟨0, 0, 0, 0⟩).map wC)].length + [bX a, bY b].length = 5 := rfl
 have hds : [AObj.cells ((words a).map wC), .cells ((words b).map wC), .cells ((words ⟨0, 0, 0, 0⟩).map wC)] ++ (List.replicate [bX a, bY b].length .dead ++ [bX a, bY b].map Ent.fin) = [.cells ((words a).map wC), .cells ((words b).map wC), .cells ((words ⟨0, 0, 0, 0⟩).map wC), .dead, .dead, .cells ((openM a).map bitC), .cells ((openM b).map bitC)] := rfl
 refine acalls_by Tryz.func84 Tryz.ntmps84 ?_
 simp only [argFr]
 repeat' (first| (show cAtD 1; refine aw_m [bX a, bY b] [0,1,2,3,4,5,6,7] [] (hmvB a b) Tryz_mixed ?_)| (refine dm_nil (n := 5) (σ' := [.cells ((words a).map wC), .cells ((words b).map wC), .cells ((words ⟨0, 0, 0, 0⟩).map wC), .dead, .dead, .cells ((openM a).map bitC), .cells ((openM b).map bitC)]) ?_ hdn hds)| (show lAlloc; refine k_alloc (zc := (List.replicate 256 false).map bitC) ?_ (hz := z163_cells))| (show DM _ _ _ _ _ _ _ _ _ _; first | refine dm_app 0 (e := bX a) (fun G => s_alloc) ?_ | refine dm_app 1 (e := bY b) (fun G => s_alloc) ?_ | refine dm_set 0 (e := bX a) (fun G id hid => t_store (y := .agg ((openM a).map bitC)) (l' := (openM a).map bitC) (hσ := rfl) (ho := hid) (hsure := bits_sure _) (hn := bits_n hla) (hle := Nat.le_of_eq z_len.symm) (hl := bits_layZ hla)) ?_ | refine dm_set 1 (e := bY b) (fun G id hid => t_store (y := .agg ((openM b).map bitC)) (l' := (openM b).map bitC) (hσ := rfl) (ho := hid) (hsure := bits_sure _) (hn := bits_n hlb) (hle := Nat.le_of_eq z_len.symm) (hl := bits_layZ hlb)) ?_)| (show DM _ _ _ _ _ _ _ _ (Oper.mk (some _) _ _ _ _ none :: _) _; refine dm_still (fun G => by first | (show kCall; first | exact b_call (h1) | exact b_call (h2)) | exact rS) ?_)| (refine wS ?_)| fail)
 refine aw_roundsP (ι := Nat × List Bool) 8 (fun i => preT2 a b i.2) (fun i n => [(0, i64 1), (6, .c (.ptr 2 0)), (7, .c (.ptr 5 0)), (8, .c (.ptr 6 0)), (9, .c (.ptr 7 0)), (10, i64 (i.1 : Int))]) (fun _ _ => []) (fun i => i.1 <= 256 /\ i.2.length = 256 /\ ∀ k : Nat, k < i.1 -> at' i.2 (k : Int) = at' (twoS (openM a) (openM b)) (k : Int)) (fun i => 256 - i.1) (0, List.replicate 256 false) 8 (fun _ => rfl) ⟨by simp, by simp, by simp⟩ (by omega) (by simp) rfl rfl (by simp [Fr.get, tell]) ?_
 rintro ⟨i, s⟩ n g ⟨j1, j2, j3⟩ hg
 dsimp only at j1 j2 j3 hg ⊢
 have hg8 : 8 + g.length = n := by simp at hg; omega
 clear hg
 by_cases hi : i < 256
 ·have hv := two_at (openM a) (openM b) hi
  cases ha : at' (openM a) (i : Int) with
  | true =>
   rw [ha, Bool.true_or] at hv
   repeat' (first| (refine aw_T ?_ (hb := dT (show (i : Int) < 256 by omega)))| (show lStore; refine k_storeAt (f := bitC) (xs := s) i true (by omega) ?_)| (show lOp; refine op0 (by (show kLoad; exact b_loadBit (xs := openM a) i true ha (by omega))) ?_)| (refine wS ?_)| fail)
   exact ⟨(i + 1, s.set i true), n, ⟨by dsimp only; omega, by simp [j2], set_to (by omega) j3 hv.symm⟩, by omega, by simp; omega, rfl, dropGP (p := 8) (j := 0) hg8 rfl rfl, by simp [Fr.get], by dsimp only; omega⟩
  | false =>
   rw [ha, Bool.false_or] at hv
   repeat' (first| (refine aw_T ?_ (hb := dT (show (i : Int) < 256 by omega)))| (show lStore; refine k_storeAt (f := bitC) (xs := s) i (at' (openM b) (i : Int)) (by omega) ?_)| (show lOp; refine op0 (by (show kLoad; first | exact b_loadBit (xs := openM a) i false ha (by omega) | exact b_loadBit (xs := openM b) i (at' (openM b) (i : Int)) rfl (by omega))) ?_)| (refine wS ?_)| fail)
   exact ⟨(i + 1, s.set i (at' (openM b) (i : Int))), n, ⟨by dsimp only; omega, by simp [j2], set_to (by omega) j3 hv.symm⟩, by omega, by simp; omega, rfl, dropGP (p := 8) (j := 0) hg8 rfl rfl, by simp [Fr.get], by dsimp only; omega⟩
 ·have hs : s = twoS (openM a) (openM b) := ext_at' (by rw [j2, two_len]) (fun k hk => j3 k (by omega))
  subst hs
  repeat' (first| (refine aw_F ?_ (hb := dF (show ¬(i : Int) < 256 by omega)))| (show lOp; refine op0 (by first | (show kCall; exact b_call (hcl)) | (show kLoad; exact b_loadPtr (v := .agg ((twoS (openM a) (openM b)).map bitC)) (hl := bits_load j2))) ?_)| (show eRet; refine retC1 Tryz.results84 ?_)| (refine wS ?_)| fail)
  rfl
def withM (a b : Cls) (also : Bool) : Cls := if also = true then twoM a b else a
theorem with75_c (a b : Cls) (also : Bool) : ACalls Tryz.prog 75 [clsV a, clsV b, bl also] [] (fun r _ => r = .ret (clsV (withM a b also))) := by
 have h := two84_c a b
 cases also with
 | true =>
  refine acalls_by Tryz.func75 Tryz.ntmps75 ?_
  simp only [argFr]
  repeat' (first| (show lOp; refine op0 (by (show kCall; exact b_call (h))) ?_)| (show eRet; refine retC1 Tryz.results75 ?_)| (refine wS ?_)| fail)
  rfl
 | false =>
  refine acalls_by Tryz.func75 Tryz.ntmps75 ?_
  simp only [argFr]
  repeat' (first| (show eRet; refine retC1 Tryz.results75 ?_)| (refine wS ?_)| fail)
  rfl
end Go.AL
