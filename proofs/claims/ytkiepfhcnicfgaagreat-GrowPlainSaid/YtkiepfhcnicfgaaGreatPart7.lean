/-
  Part 7 of the proof: what the functions that the law reaches come to.
-/
import Derived.Test.YtkiepfhcnicfgaaGreatPart6
set_option linter.all false
set_option maxRecDepth 100000
set_option maxHeartbeats 8000000
namespace Go.AL
open Go.Proofs
attribute [local irreducible] AWp AList RStep seqQ blockQ retQ DSteps DT DU DM DZ awR rQ SStep letterB digitB preB nameOk anyB rightL checkI
def encB1 (b : Bool) : List PV := [lB b]
theorem not_yes {b : Bool} (h : b = true) : (!b) = false := by rw [h]; rfl
theorem not_no {b : Bool} (h : b = false) : (!b) = true := by rw [h]; rfl
theorem at'_set_ne {α : Type} [Inhabited α] {l : List α} {i k : Nat} {v : α} (h : i ≠ k) : at' (l.set i v) (k : Int) = at' l (k : Int) := by
 simp [at', List.getD_eq_getElem?_getD, h]
theorem ext_at' {α : Type} [Inhabited α] {a b : List α} (hl : a.length = b.length) (h : ∀ k : Nat, k < a.length -> at' a (k : Int) = at' b (k : Int)) : a = b := by
 apply List.ext_getElem hl
 intro i h1 h2
 have e1 := at'_getElem? h1
 have e2 := at'_getElem? h2
 rw [h i h1, <- e2, List.getElem?_eq_getElem h1, List.getElem?_eq_getElem h2] at e1
 exact Option.some.inj e1
/-- All rules that are come to, going left. -/
def reachF (ls : List (List Int)) : Nat -> List Int -> List Bool -> Option (List Bool)
 | 0, _, _ => none
 | f + 1, todo, seen =>
  if todo = [] then some seen
  else if 0 <= at' todo ((todo.length : Int) - 1) /\ at' todo ((todo.length : Int) - 1) < ls.length then
   if at' seen (at' todo ((todo.length : Int) - 1)) = true then reachF ls f (todo.take (todo.length - 1)) seen
   else reachF ls f (todo.take (todo.length - 1) ++ at' ls (at' todo ((todo.length : Int) - 1))) (seen.set (at' todo ((todo.length : Int) - 1)).toNat true)
  else none
structure HeadsIn (ls : List (List Int)) (hs : List Bool) : Prop where
 n : ls.length <= 1000
 small : ∀ l ∈ ls, l.length <= 1000000
 len : hs.length = ls.length
 reach : ∀ r : Nat, r < ls.length -> ∃ F seen, F <= 1000000 /\ reachF ls F (at' ls (r : Int)) (List.replicate ls.length false) = some seen /\ at' hs (r : Int) = at' seen (r : Int)
theorem heads_c (c : Core) (ls : List (List Int)) (hs : List Bool) (hl : ACalls Tryz.prog 35 [coreV c] [] (fun q _ => q = .ret (.tup [.c (.p (.sl 1 (ls.map encL))), i64 0]))) (h : HeadsIn ls hs) :
  ACalls Tryz.prog 18 [coreV c] [] (fun q _ => q = .ret (.tup [.c (.p (headsP hs)), i64 0])) := by
 have hn := h.n
 have hlen := h.len
 refine acalls_by Tryz.func18 Tryz.ntmps18 ?_
 simp only [argFr]
 repeat' (first| (refine aw_F ?_ (hb := rfl))| (show lMakeSlice; refine k_makeM (f := encB1) false ?_)| (show lOp; refine op0 (by (show kCall; exact b_call (hl))) ?_)| (refine wS ?_)| fail)
 refine aw_roundsP (ι := Nat × List Bool) 2 (fun i => [.cells [.p (rulesP c.rules), .p (lI c.start)], .arr 4 1 (i.2.map encB1)]) (fun i n => [(4, .c (.p (.sl 1 (ls.map encL)))), (6, .c (.ms 1 ls.length)), (22, .c (.p (.sl 1 (ls.map encL)))), (23, i64 ls.length), (24, i64 i.1)]) (fun i n => []) (fun i => i.1 <= ls.length /\ i.2.length = ls.length /\ ∀ k : Nat, k < i.1 -> at' i.2 (k : Int) = at' hs (k : Int)) (fun i => ls.length - i.1) (0, List.replicate ls.length false) 2 (fun _ => rfl) ⟨by simp, by simp, by simp⟩ (by omega) (by simp) rfl rfl (by simp [Fr.get]) ?_
 rintro ⟨i, bs⟩ n g ⟨h1, h2, h3⟩ hg
 dsimp only at h1 h2 h3 hg ⊢
 have hg2 : 2 + g.length = n := by simp at hg; omega
 clear hg
 by_cases hi : i < ls.length
 ·obtain ⟨F, seen, hF, hre, hat⟩ := h.reach i hi
  have hsm := h.small _ (at'_mem (show (0 : Int) <= i by omega) (show (i : Int) < ls.length by omega))
  repeat' (first| (refine aw_T ?_ (hb := eT))| (show lMakeSlice; refine k_makeM (f := encB1) false ?_)| (show lBuildSlice; refine k_buildOwn0 ?_)| (show lCall; refine k_appSl (f := encI1) (xs := []) ?_)| (refine wS ?_)| fail)
  refine kw_rot 8 ?_
  refine kw_rot 9 ?_
  refine aw_roundsP (ι := Nat × List Int × Nat × List Bool) 2 (fun _ => [.cells [.p (rulesP c.rules), .p (lI c.start)], .arr 4 1 (bs.map encB1)]) (fun j n => [(4, .c (.p (.sl 1 (ls.map encL)))), (6, .c (.ms 1 ls.length)), (22, .c (.p (.sl 1 (ls.map encL)))), (23, i64 ls.length), (24, i64 i), (7, i64 i), (8, .c (.ms (n + 0) ls.length)), (9, .c (.ms (n + 1) j.2.2.1))]) (fun j n => [.arr 4 1 (j.2.2.2.map encB1), .arr 3 1 (j.2.1.map encI1)]) (fun j => j.2.2.1 <= j.2.1.length /\ j.2.2.1 + 1000000 * j.1 <= 1000000 * (F + 1) /\ j.2.2.2.length = ls.length /\ reachF ls j.1 (j.2.1.take j.2.2.1) j.2.2.2 = some seen) (fun j => j.1) (F, at' ls (i : Int), 0 + (at' ls (i : Int)).length, List.replicate ls.length false) (n + 3) (fun _ => rfl) ⟨by simp, by dsimp only; omega, by simp, by simpa using hre⟩ (by omega) (by simp; omega) rfl (dropGP (p := 2) (j := 3) hg2 rfl rfl) (by simp [Fr.get]) ?_
  rintro ⟨f, xs, tn, sn⟩ n2 g2 ⟨k1, k2, k3, k4⟩ hg
  dsimp only at k1 k2 k3 k4 hg ⊢
  have hg3 : 2 + g2.length = n2 := by simp at hg; omega
  clear hg
  cases f with
  | zero => cases k4
  | succ f =>
   simp only [reachF] at k4
   have htl : (xs.take tn).length = tn := by rw [List.length_take]; omega
   by_cases t0 : tn = 0
   ·subst t0
    rw [if_pos (by simp)] at k4
    injection k4 with k4
    subst k4
    repeat' (first| (refine aw_F ?_ (hb := eF))| (show lStore; refine k_storeElM (i := i) (f := encB1) (at' sn (i : Int)) ?_)| (refine wS ?_)| fail)
    refine ⟨(i + 1, bs.set i (at' sn (i : Int))), n2 + 2, ⟨by dsimp only; omega, by simp [h2], fun k hk => ?_⟩, by omega, by simp; omega, rfl, dropGP (p := 2) (j := 2) hg3 rfl rfl, by simp [Fr.get], by dsimp only; omega⟩
    dsimp only at hk ⊢
    by_cases hki : i = k
    ·subst hki
     rw [at'_set_self (by omega), hat]
    ·rw [at'_set_ne hki]
     exact h3 k (by omega)
   ·rw [if_neg (by intro hh; rw [hh] at htl; simp at htl; omega), htl] at k4
    have hat2 : at' (xs.take tn) ((tn : Int) - 1) = at' xs ((tn : Int) - 1) := by
     obtain ⟨q, rfl⟩ : ∃ q, tn = q + 1 := ⟨tn - 1, by omega⟩
     have : ((q + 1 : Nat) : Int) - 1 = (q : Int) := by omega
     rw [this]
     simp only [at', List.getD_eq_getElem?_getD, Int.toNat_natCast]
     rw [List.getElem?_take, if_pos (by omega)]
    have htt : (xs.take tn).take (tn - 1) = xs.take (tn - 1) := by rw [List.take_take, Nat.min_eq_left (by omega)]
    rw [hat2, htt] at k4
    split at k4
    case isFalse => cases k4
    rename_i hr
    obtain ⟨r0, r1⟩ := hr
    have hsub : ((tn : Int) - 1).toNat = tn - 1 := by omega
    have hsm2 := h.small _ (at'_mem r0 r1)
    cases hsn : at' sn (at' xs ((tn : Int) - 1)) with
    | true =>
     rw [if_pos hsn] at k4
     repeat' (first| (refine aw_T ?_ (hb := eT))| (refine aw_F ?_ (hb := not_yes hsn))| (refine wS ?_)| fail)
     exact ⟨(f, xs, ((tn : Int) - 1).toNat, sn), n2, ⟨by dsimp only; omega, by dsimp only; omega, k3, by dsimp only; rw [hsub]; exact k4⟩, by omega, by simp; omega, rfl, dropGP (p := 2) (j := 0) hg3 rfl rfl, by simp [Fr.get], by dsimp only; omega⟩
    | false =>
     rw [if_neg (by rw [hsn]; simp)] at k4
     repeat' (first| (refine aw_T ?_ (hb := eT))| (refine aw_T ?_ (hb := not_no hsn))| (show cAt 15; refine kw_rot 8 ?_; refine aw_reg ?_)| (show lStore; refine k_storeElM (i := (at' xs ((tn : Int) - 1)).toNat) (f := encB1) true ?_)| (show lCall; refine k_appSl (f := encI1) ?_)| (refine wS ?_)| fail)
     refine ⟨(f, xs.take ((tn : Int) - 1).toNat ++ at' ls (at' xs ((tn : Int) - 1)), ((tn : Int) - 1).toNat + (at' ls (at' xs ((tn : Int) - 1))).length, sn.set (at' xs ((tn : Int) - 1)).toNat true), n2 + 2, ⟨by simp; omega, by dsimp only; omega, by simp [k3], ?_⟩, by omega, by simp; omega, rfl, dropGP (p := 2) (j := 2) hg3 (by simp) rfl, by simp [Fr.get], by dsimp only; omega⟩
     dsimp only
     rw [List.take_of_length_le (by simp; omega), hsub]
     exact k4
 ·have : i = ls.length := by omega
  subst this
  repeat' (first| (refine aw_F ?_ (hb := eF))| (show cAt 18; refine kw_freezeM (f := encB1) 6 ?_; refine aw_reg ?_)| (show eRet; refine ret2 Tryz.results18 ?_)| (refine wS ?_)| fail)
  have hbs : bs = hs := ext_at' (by omega) (fun k hk => h3 k (by omega))
  rw [List.take_of_length_le (by omega), hbs]
  rfl
end Go.AL
namespace Go.AL
open Go.Proofs
attribute [local irreducible] AWp AList RStep seqQ blockQ retQ DSteps DT DU DM DZ awR rQ SStep letterB digitB preB nameOk anyB rightL checkI
/-- The rules that are heads, told from the k-th on. -/
def idxF (hs : List Bool) : Nat -> Nat -> List Int -> List Int
 | 0, _, l => l
 | m + 1, k, l => if at' hs (k : Int) = true then idxF hs m (k + 1) (l ++ [(k : Int)]) else idxF hs m (k + 1) l
def idxM (hs : List Bool) : List Int := idxF hs hs.length 0 []
theorem heads12_c (c : Core) (hs : List Bool) (hl : hs.length <= 1000000) (h : ACalls Tryz.prog 18 [coreV c] [] (fun q _ => q = .ret (.tup [.c (.p (headsP hs)), i64 0]))) :
  ACalls Tryz.prog 12 [coreV c] [] (fun q _ => q = .ret (.tup [intsV (idxM hs), i64 0])) := by
 refine acalls_by Tryz.func12 Tryz.ntmps12 ?_
 simp only [argFr]
 repeat' (first| (refine aw_F ?_ (hb := rfl))| (show lOp; refine op0 (by (show kCall; exact b_call (h))) ?_)| (refine wS ?_)| fail)
 refine kw_own 6 3 1 ?_
 refine aw_roundsG (ι := Nat × List Int) (fun i n => [(6, .c (.ms (n + 0) i.2.length)), (17, .c (.p (headsP hs))), (18, i64 hs.length), (19, i64 i.1)]) (fun i n => [.arr 3 1 (i.2.map encI1)]) (fun i => i.1 <= hs.length /\ i.2.length <= i.1 /\ idxF hs (hs.length - i.1) i.1 i.2 = idxM hs) (fun i => hs.length - i.1) (0, []) 1 ⟨by simp, by simp, rfl⟩ (by simp) rfl (by simp [Fr.get]) ?_
 rintro ⟨k, l⟩ n g ⟨h1, h2, h3⟩ hg
 dsimp only at h1 h2 h3 ⊢
 by_cases hk : k < hs.length
 ·obtain ⟨m, hm⟩ : ∃ m, hs.length - k = m + 1 := ⟨hs.length - k - 1, by omega⟩
  rw [hm] at h3
  simp only [idxF] at h3
  cases hb : at' hs (k : Int) with
  | true =>
   rw [if_pos hb] at h3
   repeat' (first| (refine aw_T ?_ (hb := eT))| (refine aw_T ?_ (hb := hb))| (show lCall; refine k_app1 (f := encI1) (k : Int) ?_)| (refine wS ?_)| fail)
   exact ⟨(k + 1, l ++ [(k : Int)]), n + 1, ⟨by dsimp only; omega, by simp; omega, by dsimp only; rw [show hs.length - (k + 1) = m by omega]; exact h3⟩, by simp; omega, dropG0 (j := 1) hg (by simp), by simp [Fr.get], by dsimp only; omega⟩
  | false =>
   rw [if_neg (by rw [hb]; simp)] at h3
   repeat' (first| (refine aw_T ?_ (hb := eT))| (refine aw_F ?_ (hb := hb))| (refine wS ?_)| fail)
   exact ⟨(k + 1, l), n, ⟨by dsimp only; omega, by dsimp only; omega, by dsimp only; rw [show hs.length - (k + 1) = m by omega]; exact h3⟩, by simp; omega, dropG0 (j := 0) hg rfl, by simp [Fr.get], by dsimp only; omega⟩
 ·have : k = hs.length := by omega
  subst this
  rw [Nat.sub_self] at h3
  simp only [idxF] at h3
  repeat' (first| (refine aw_F ?_ (hb := eF))| (show cAt 11; refine kw_freezeA (f := encI1) 6 ?_; refine aw_reg ?_)| (show eRet; refine ret2 Tryz.results12 ?_)| (refine wS ?_)| fail)
  rw [h3]
end Go.AL
namespace Go.AL
open Go.Proofs
attribute [local irreducible] AWp AList RStep seqQ blockQ retQ DSteps DT DU DM DZ awR rQ SStep letterB digitB preB nameOk anyB rightL checkI
theorem b_nilIface {P : Program} {σ : List AObj} {fr : Fr} {d : Option Nat} {ty : TypeId} {pos : String} {aft : Array Edge} {g : Option (Nat × Bool)} {t t' : TypeId} {x : Operand} (hu : P.underlying t = some (.interface (P.methodsAt t))) (hx : ev fr x = .c (.p (.lit .nilIface)) := by exact rfl) : RStep P σ fr ⟨d, .binOp .eql t x (.const .nilIface) t', ty, pos, aft, g⟩ (bl true) :=
 r_bin hx rfl (fun w => by simp [eqGuard, binOp, run_equal_nil_nil w t hu]) rfl
theorem leftQ_normal {R : List AObj -> Prop} {s : St} (h : R s.σ) : leftQ R .normal s := h
theorem def16_ret {σ : List AObj} {ix ir im io iu ie : Nat} {L : List C} {l : List ((Int × Int) × Out)} (hx : σ[ix]? = some (.cells [.ptr ir 0])) (hr : σ[ir]? = some (.cells L)) (hL : L[9]? = some (.mpr im)) (hm : σ[im]? = some (.ext (seedsX l))) :
  ADCalls Tryz.prog 21 [.c (.ptr ix 0), .c (.ptr io 0), .c (.ptr iu 0), .c (.ptr ie 0)] σ uRet (fun u' σ'' => settle u' = .returning /\ σ'' = σ.set im (.ext (seedsX []))) := by
 refine adcalls_rec (n := 21) (z := .lit .nilIface) (R := fun σ'' => σ'' = σ.set im (.ext (seedsX []))) Tryz.func21 rfl rfl Tryz.ntmps21 Tryz.results21 (by simp) rfl (.inl ⟨rfl, rfl⟩) ?_
 simp only [argFr]
 have hld : loaded false 1 (L.drop 9) = some (.c (.mpr im)) := by
  have : L.drop 9 = .mpr im :: L.drop 10 := by
   have hlt := (List.getElem?_eq_some_iff.1 hL).1
   rw [List.drop_eq_getElem_cons hlt]
   congr 1
   exact Option.some.inj ((List.getElem?_eq_getElem hlt).symm.trans hL)
  rw [this]; rfl
 repeat' (first| (show lCall; refine k_mapClear (enc := encII) Tryz.underlying75 hm rfl ?_)| (show lOp; refine op0 (by first | (show kLoad; first | exact b_loadPtr (ho := hx) | exact b_loadPtr (ho := hr) (hl := hld)) | (show kBinopEql; exact b_nilIface (by kernel_rfl))) ?_)| (refine wS ?_)| fail)
 rfl
end Go.AL
namespace Go.AL
open Go.Proofs
attribute [local irreducible] AWp AList RStep seqQ blockQ retQ DSteps DT DU DM DZ awR rQ SStep letterB digitB preB nameOk anyB rightL checkI AWr AEr
instance : TSt Tryz.prog 78 [(0, 2), (2, 1), (3, 1), (4, 1), (5, 2), (7, 2), (9, 1)] := TSt.of Tryz.underlying78 (by kernel_rfl) (by kernel_rfl)
theorem at'_rangeMap {α : Type} [Inhabited α] {n q : Nat} (f : Nat -> α) (h : q < n) : at' ((List.range n).map f) (q : Int) = f q := by
 simp [at', List.getD_eq_getElem?_getD, h]
abbrev usedV (d s : Int) : AV := .agg [.p (lI d), .p (lI s)]
def clampI (x m : Int) : Int := min (max x 0) m
def partsM (c : Core) : List (List (Int × Int)) := c.rules.map fun r => (List.range r.body.length).map fun (i : Nat) => partsI r.body (i : Int)
abbrev envM (c : Core) (hs : List Bool) (input : ByteArray) (D S : Int) : Env := ⟨c, partsM c, hs, input, clampI D 32768, clampI S 1048576⟩
structure RunIn (c : Core) (I : Int -> List Info) (hs : List Bool) (input : ByteArray) (D S : Int) : Prop where
 heads : ACalls Tryz.prog 18 [coreV c] [] (fun q _ => q = .ret (.tup [.c (.p (headsP hs)), i64 0]))
 facts : ∀ r : Nat, r < c.rules.length -> ACalls Tryz.prog 19 [coreV c, i64 r] [] (fun q _ => q = .ret (.tup [.c (.p (infosP (I r))), i64 0]))
 star : ∀ r k : Nat, r < c.rules.length -> k < (at' c.rules (r : Int)).body.length -> (at' (at' c.rules (r : Int)).body (k : Int)).op = 6 -> 1 <= k /\ k <= (I r).length /\ (at' (I r) ((k : Int) - 1)).may.f1 = false
 wf : WF (envM c hs input D S)
 start : 0 <= c.start /\ c.start < c.rules.length
abbrev pre7 (c : Core) (D S : Int) : List AObj := [.cells [.p (rulesP c.rules), .p (lI c.start)], .cells [.p (lI D), .p (lI S)], .cells zeroC, .cells [.p (lI 0), .p (lI 0)], .cells [.p (lI 0)]]
abbrev fr7 (c : Core) (hs : List Bool) (input : ByteArray) : Fr := [(1, strA input), (3, .c (.ptr 0 0)), (5, .c (.ptr 1 0)), (6, .c (.ptr 2 0)), (7, .c (.ptr 3 0)), (8, .c (.ptr 4 0)), (9, .c (.p (headsP hs)))]
def encQs (l : List (Int × Int)) : List PV := [.sl 2 (l.map encP2)]
abbrev runK (c : Core) (hs : List Bool) (input : ByteArray) (D S : Int) (ps : C) (m : Nat) : List C := [.p (rulesP c.rules), .p (lI c.start), ps, .p (headsP hs), .p (lS input), .p (lI (clampI D 32768)), .p (lI (clampI S 1048576)), .p (lI 0), .p (lI 0), .mpr m]
abbrev preR (c : Core) (hs : List Bool) (input : ByteArray) (D S : Int) (g : List AObj) (n : Nat) (ps : C) : List AObj := pre7 c D S ++ (g ++ [AObj.ext (MapX encII []), AObj.cells (runK c hs input D S ps (n + 0)), AObj.cells [C.ptr (n + 1) 0]])
theorem run_c (c : Core) (I : Int -> List Info) (hs : List Bool) (input : ByteArray) (D S : Int) (h : RunIn c I hs input D S) (hD : 1 <= clampI D 32768) (o : Out) (s' : MS)
  (hev : evalD (envM c hs input D S) (clampI D 32768).toNat c.start (lastOf (envM c hs input D S) c.start) 0 ⟨0, 0, []⟩ = .ok o s') :
  ACalls Tryz.prog 8 [coreV c, strA input, .agg [.p (lI D), .p (lI S)]] [] (fun q _ => q = .ret (.tup [outV o, usedV s'.ud s'.us, i64 0])) := by
 have hnr : 0 < c.rules.length /\ c.rules.length <= 256 := h.wf.nr
 have hin : input.size <= 65536 := h.wf.input
 refine acalls_body Tryz.func8 rfl Tryz.ntmps8 (by simp) fun K => ?_
 simp only [argFr]
 repeat' (first| (refine awr_seq ?_)| (refine aw_F ?_ (hb := dF (show ¬(0 : Int) ≠ 0 by omega)))| (show lOp; refine op0 (by (show kCall; exact b_call (h.heads))) ?_)| (refine wS ?_)| fail)
 refine aw_roundsP (ι := Nat) 5 (fun _ => pre7 c D S) (fun i n => fr7 c hs input ++ [(32, .c (.p (rulesP c.rules))), (33, i64 c.rules.length), (34, i64 i)]) (fun _ _ => []) (fun i => i <= c.rules.length) (fun i => c.rules.length - i) 0 5 (fun _ => rfl) (by simp) (by omega) (by simp) rfl rfl (by simp [Fr.get]) ?_
 intro i n g h1 hg
 have hg5 : 5 + g.length = n := by simp at hg; omega
 clear hg
 by_cases hi : i < c.rules.length
 ·have hfa := h.facts i hi
  have hwb : 0 < (at' c.rules (i : Int)).body.length /\ (at' c.rules (i : Int)).body.length <= 16384 := h.wf.body i (by omega) (by show (i : Int) < c.rules.length; omega)
  repeat' (first| (refine aw_T ?_ (hb := eT))| (show lOp; refine op0 (by (show kCall; exact b_call (hfa))) ?_)| (refine wS ?_)| fail)
  refine aw_roundsP (ι := Nat) 5 (fun _ => pre7 c D S) (fun k n => fr7 c hs input ++ [(10, i64 i), (11, .c (.p (infosP (I i)))), (32, .c (.p (rulesP c.rules))), (33, i64 c.rules.length), (34, i64 i), (48, .c (.p (bodyP (at' c.rules (i : Int)).body))), (49, i64 (at' c.rules (i : Int)).body.length), (50, i64 k)]) (fun _ _ => []) (fun k => k <= (at' c.rules (i : Int)).body.length) (fun k => (at' c.rules (i : Int)).body.length - k) 0 n (fun _ => rfl) (by simp) (by omega) (by simp; omega) rfl (dropGP (p := 5) (j := 0) hg5 rfl rfl) (by simp [Fr.get]) ?_
  clear hg5
  intro k n g k1 hg
  have hg5 : 5 + g.length = n := by simp at hg; omega
  clear hg
  by_cases hk : k < (at' c.rules (i : Int)).body.length
  ·by_cases p6 : (at' (at' c.rules (i : Int)).body (k : Int)).op = 6
   ·obtain ⟨q1, q2, q3⟩ := h.star i k hi hk p6
    repeat' (first| (refine aw_T ?_ (hb := eT))| (refine aw_F ?_ (hb := q3))| (refine al_yes ?_ (hb := decide_eq_true p6))| (refine wS ?_)| fail)
    exact ⟨k + 1, n + 1, by omega, by omega, by simp; omega, rfl, dropGP (p := 5) (j := 1) hg5 rfl rfl, by simp [Fr.get], by omega⟩
   ·repeat' (first| (refine aw_T ?_ (hb := eT))| (refine aw_F ?_ (hb := rfl))| (refine wS ?_)| fail)
    exact ⟨k + 1, n + 1, by omega, by omega, by simp; omega, rfl, dropGP (p := 5) (j := 1) hg5 rfl rfl, by simp [Fr.get], by omega⟩
  ·repeat' (first| (refine aw_F ?_ (hb := eF))| (refine wS ?_)| fail)
   exact ⟨i + 1, n, by omega, by omega, by simp; omega, rfl, dropGP (p := 5) (j := 0) hg5 rfl rfl, by simp [Fr.get], by omega⟩
 ·have : i = c.rules.length := by omega
  subst this
  repeat' (first| (refine aw_F ?_ (hb := eF))| (refine awr_seq ?_)| (show lMakeMap; refine k_makeMap encII ?_)| (refine wS ?_)| fail)
  have hps : (partsM c).length = c.rules.length := by simp [partsM]
  have hown : ((pre7 c D S ++ (g ++ [AObj.ext (MapX encII []), AObj.cells (runK c hs input D S (.p (.lit (.slice none 0 0))) (n + 0)), AObj.cells [C.ptr (n + 1) 0]])) ++ [AObj.arr 29 1 []]).set (n + 1) (.cells ((runK c hs input D S (.p (.lit (.slice none 0 0))) (n + 0)).set 2 (.ms (n + 3) 0))) = (pre7 c D S ++ (g ++ [AObj.ext (MapX encII []), AObj.cells (runK c hs input D S (.ms (n + 3) 0) (n + 0)), AObj.cells [C.ptr (n + 1) 0]])) ++ [AObj.arr 29 1 []] := by
   rw [List.set_append_left _ _ (by simp; omega), setGP (p := 5) hg5 rfl rfl]; rfl
  refine kw_ownC (n + 1) 2 29 1 (n := n + 3) (getGP (p := 5) hg5 rfl rfl) rfl (lenGP (p := 5) hg5 rfl rfl) hown ?_
  refine aw_roundsN (ι := Nat) (n + 3) (fun i n' => pre7 c D S ++ (g ++ [AObj.ext (MapX encII []), AObj.cells (runK c hs input D S (.ms (n' + 0) i) (n + 0)), AObj.cells [C.ptr (n + 1) 0]])) (fun i n' => fr7 c hs input ++ [(15, .c (.ptr (n + 2) 0)), (98, .c (.p (rulesP c.rules))), (99, i64 c.rules.length), (100, i64 i)]) (fun i n' => [.arr 29 1 (((partsM c).take i).map encQs)]) (fun i => i <= c.rules.length) (fun i => c.rules.length - i) 0 (n + 3) (fun i n' => by simp; omega) (by simp) (by omega) (by simp; omega) (by rw [List.take_append_of_le_length (by simp; omega), List.take_of_length_le (by simp; omega)] <;> rfl) (by rw [List.drop_append_of_le_length (by simp; omega), List.drop_of_length_le (by simp; omega)] <;> rfl) (by simp [Fr.get]) ?_
  have hA : (pre7 c D S ++ g).length = n := by simp; omega
  intro i n2 g2 k1 hg2
  have hB : ((pre7 c D S ++ (g ++ [AObj.ext (MapX encII []), AObj.cells (runK c hs input D S (.ms (n2 + 0) i) (n + 0)), AObj.cells [C.ptr (n + 1) 0]])) ++ g2).length = n2 := by simp; omega
  by_cases hi2 : i < c.rules.length
  ·have hwb : 0 < (at' c.rules (i : Int)).body.length /\ (at' c.rules (i : Int)).body.length <= 16384 := h.wf.body i (by omega) (by show (i : Int) < c.rules.length; omega)
   have hpm : at' (partsM c) (i : Int) = (List.range (at' c.rules (i : Int)).body.length).map fun (q : Nat) => partsI (at' c.rules (i : Int)).body (q : Int) := by
    simp [partsM, at', List.getD_eq_getElem?_getD, hi2]
   have hptk : (partsM c).take i ++ [at' (partsM c) (i : Int)] = (partsM c).take (i + 1) := by
    rw [List.take_add_one, at'_getElem? (by omega)]; rfl
   have hti : i <= ((partsM c).take i).length := by rw [List.length_take]; omega
   repeat' (first| (refine aw_T ?_ (hb := eT))| (show lStore; refine k_store (l' := (encRule (at' c.rules (i : Int))).map .p) ?_)| (show lMakeSlice; refine k_makeM (f := encP2) ((0 : Int), (0 : Int)) ?_)| (refine wS ?_)| fail)
   refine aw_roundsN (ι := Nat × List (Int × Int)) (n + 3) (fun j n' => preR c hs input D S g n (.ms (n' + 0) i)) (fun j n' => fr7 c hs input ++ [(15, .c (.ptr (n + 2) 0)), (17, .c (.ptr (n' + 1) 0)), (18, .c (.ms (n' + 2) (at' c.rules (i : Int)).body.length)), (98, .c (.p (rulesP c.rules))), (99, i64 c.rules.length), (100, i64 i), (110, i64 (at' c.rules (i : Int)).body.length), (111, i64 j.1)]) (fun j n' => [.arr 29 1 (((partsM c).take i).map encQs), .cells ((encRule (at' c.rules (i : Int))).map .p), .arr 65 2 (j.2.map encP2)]) (fun j => j.1 <= (at' c.rules (i : Int)).body.length /\ j.2.length = (at' c.rules (i : Int)).body.length /\ ∀ q : Nat, q < j.1 -> at' j.2 (q : Int) = partsI (at' c.rules (i : Int)).body (q : Int)) (fun j => (at' c.rules (i : Int)).body.length - j.1) (0, List.replicate (at' c.rules (i : Int)).body.length (0, 0)) n2 (fun i n' => by simp; omega) ⟨by simp, by simp, by simp⟩ (by omega) (by simp; omega) (by rw [List.take_append_of_le_length (by simp; omega), List.take_of_length_le (by simp; omega)] <;> rfl) (dropG (j := 0) hB rfl) (by simp [Fr.get]) ?_
   clear hB hg2
   rintro ⟨k, l⟩ n2 g2 ⟨q1, q2, q3⟩ hg2
   dsimp only at q1 q2 q3 ⊢
   have hB : (preR c hs input D S g n (.ms (n2 + 0) i) ++ g2).length = n2 := by simp; omega
   by_cases hk : k < (at' c.rules (i : Int)).body.length
   ·have hpc := parts_c (at' c.rules (i : Int)).body (k : Int) (by omega) (by omega)
    have hat1 : at' (l.set k ((partsI (at' c.rules (i : Int)).body (k : Int)).1, (at' l (k : Int)).2)) (k : Int) = ((partsI (at' c.rules (i : Int)).body (k : Int)).1, (at' l (k : Int)).2) := at'_set_self (by omega)
    repeat' (first| (refine aw_T ?_ (hb := eT))| (show cAtD 27; refine' aw_dt 15 13 (preR c hs input D S g n (.ms (n2 + 0) i) ++ (g2 ++ [AObj.arr 29 1 (((partsM c).take i).map encQs), AObj.cells ((encRule (at' c.rules (i : Int))).map .p), AObj.arr 65 2 ((l.set k ((partsI (at' c.rules (i : Int)).body (k : Int)).1, (at' l (k : Int)).2)).map encP2)])) Tryz_mixed _)| (show lStore; refine k_storePart (i := k) (f := encP2) ((at' (l.set k ((partsI (at' c.rules (i : Int)).body (k : Int)).1, (at' l (k : Int)).2)) (k : Int)).1, (partsI (at' c.rules (i : Int)).body (k : Int)).2) ?_)| (show tNil; refine dt_nil ?_)| (show tNone; refine dt_turnN (by exact t_storePart (i := k) (f := encP2) ((partsI (at' c.rules (i : Int)).body (k : Int)).1, (at' l (k : Int)).2)) ?_)| (show tSome; first | (refine dt_pre (by first | (show kCall; exact b_call (hpc)) | exact rS) (by decide +kernel) ?_) | refine dt_pre2 (by exact rS) (by exact rS) ?_ | refine dt_post2 (by exact rS) (by exact rS) ?_)| (refine wS ?_)| fail)
    refine ⟨(k + 1, (l.set k ((partsI (at' c.rules (i : Int)).body (k : Int)).1, (at' l (k : Int)).2)).set k ((at' (l.set k ((partsI (at' c.rules (i : Int)).body (k : Int)).1, (at' l (k : Int)).2)) (k : Int)).1, (partsI (at' c.rules (i : Int)).body (k : Int)).2)), n2, ⟨by dsimp only; omega, by simp [q2], fun q hq => ?_⟩, by omega, by simp; omega, by rw [List.take_append_of_le_length (by simp; omega), List.take_of_length_le (by simp; omega)] <;> rfl, dropG (j := 0) hB rfl, by simp [Fr.get], by dsimp only; omega⟩
    dsimp only at hq ⊢
    by_cases hqk : k = q
    ·subst hqk
     rw [at'_set_self (by simp; omega), hat1]
    ·rw [at'_set_ne hqk, at'_set_ne hqk]
     exact q3 q (by omega)
   ·have : k = (at' c.rules (i : Int)).body.length := by omega
    subst this
    have hl : l = at' (partsM c) (i : Int) := by
     rw [hpm]
     refine ext_at' (by simp [q2]) (fun q hq => ?_)
     rw [q3 q (by omega), at'_rangeMap _ (by omega)]
    have hlB : l.take (at' c.rules (i : Int)).body.length = l := List.take_of_length_le (by omega)
    have hst : (preR c hs input D S g n (.ms (n2 + 0) i) ++ (g2 ++ [AObj.dead, AObj.cells ((encRule (at' c.rules (i : Int))).map .p), AObj.dead, AObj.arr 29 1 ((((partsM c).take i).take i ++ [l.take (at' c.rules (i : Int)).body.length]).map encQs)])).set (n + 1) (.cells (runK c hs input D S (.ms (n2 + 3) (i + 1)) (n + 0))) = preR c hs input D S g n (.ms (n2 + 3) (i + 1)) ++ (g2 ++ [AObj.dead, AObj.cells ((encRule (at' c.rules (i : Int))).map .p), AObj.dead, AObj.arr 29 1 ((((partsM c).take i).take i ++ [l.take (at' c.rules (i : Int)).body.length]).map encQs)]) := by
     rw [List.set_append_left _ _ (by simp; omega), setGP (p := 5) hg5 rfl rfl]; rfl
    have hB2 : (preR c hs input D S g n (.ms (n2 + 3) (i + 1)) ++ g2).length = n2 := by simp; omega
    repeat' (first| (refine aw_F ?_ (hb := eF))| (show cAtD 29; refine kw_freezeM (f := encP2) 18 ?_)| (show cAtD 29; refine' aw_dt 8 7 (preR c hs input D S g n (.ms (n2 + 0) i) ++ (g2 ++ [AObj.dead, AObj.cells ((encRule (at' c.rules (i : Int))).map .p), AObj.dead, AObj.arr 29 1 ((((partsM c).take i).take i ++ [l.take (at' c.rules (i : Int)).body.length]).map encQs)])) Tryz_mixed _)| (show lStore; refine k_store (l' := runK c hs input D S (.ms (n2 + 3) (i + 1)) (n + 0)) ?_ (hσ := hst))| (show tNil; refine dt_nil ?_)| (show tSome; first | refine dt_turn (by exact t_app1 (f := encQs) (l.take (at' c.rules (i : Int)).body.length) (hn := hti)) ?_ | refine dt_pre (by exact rS) (by decide +kernel) ?_ | refine dt_pre2 (by exact rS) (by exact rS) ?_)| (refine wS ?_)| fail)
    exact ⟨i + 1, n2 + 3, by omega, by omega, by simp; omega, by rw [List.take_append_of_le_length (by simp; omega), List.take_of_length_le (by simp; omega)] <;> rfl, dropG (j := 3) hB2 (by rw [hlB, hl, List.take_take, Nat.min_self, hptk]; rfl), by simp [Fr.get], by omega⟩
  ·have : i = c.rules.length := by omega
   subst this
   repeat' (first| (refine aw_F ?_ (hb := eF))| (refine wS ?_)| fail)
   have hptk : (partsM c).take c.rules.length = partsM c := List.take_of_length_le (by omega)
   have hn4 : c.rules.length <= (((partsM c).take c.rules.length).map encQs).length := by rw [List.length_map, hptk]; omega
   have hL4 : (runK c hs input D S (.ms (n2 + 0) c.rules.length) (n + 0)).set 2 (.p (.sl 1 ((((partsM c).take c.rules.length).map encQs).take c.rules.length))) = runK c hs input D S (.p (partsP (partsM c))) (n + 0) := by
    rw [hptk, List.take_of_length_le (by rw [List.length_map]; omega)]; rfl
   have hf4 : ((preR c hs input D S g n (.ms (n2 + 0) c.rules.length) ++ (g2 ++ [AObj.arr 29 1 (((partsM c).take c.rules.length).map encQs)])).set (n2 + 0) .dead).set (n + 1) (.cells (runK c hs input D S (.p (partsP (partsM c))) (n + 0))) = preR c hs input D S g n (.p (partsP (partsM c))) ++ (g2 ++ [AObj.dead]) := by
    rw [setG hB rfl, List.set_append_left _ _ (by simp; omega), setGP (p := 5) hg5 rfl rfl]; rfl
   refine awr_freezeIn (n2 + 0) (n + 1) 2 (getG hB rfl) (getL (getGP (p := 5) hg5 rfl rfl)) rfl hn4 hL4 hf4 ?_
   refine awr_defer (l := [(n + 2, 0), (2, 0), (3, 0), (4, 0)]) (fun vs => ?_)
   have hdN : (((clampI D 32768).toNat : Nat) : Int) = clampI D 32768 := by omega
   have hwh := whole_c h.wf (d := (clampI D 32768).toNat) (show (((clampI D 32768).toNat : Nat) : Int) <= clampI D 32768 by omega) (step_all h.wf _ (show (((clampI D 32768).toNat : Nat) : Int) <= clampI D 32768 + 1 by omega)) (rule := c.start) (a := 0) (s := ⟨0, 0, []⟩) (s' := s') (o := o) h.start.1 h.start.2 (by omega) (by omega) ⟨⟨Int.le_refl 0, h.wf.limS.1⟩, ⟨Int.le_refl 0, by decide⟩, fun p hp => by cases hp⟩ hev
   rw [show (envM c hs input D S).limD + 1 - (((clampI D 32768).toNat : Nat) : Int) = 1 by show clampI D 32768 + 1 - _ = 1; omega] at hwh
   have hcs : ((preR c hs input D S g n (.p (partsP (partsM c))) ++ (g2 ++ [AObj.dead])).set (n + 1) (.cells ((runC (envM c hs input D S) s'.ud s'.us 1).map (renC (ren2 [(n + 1, 0), (n, 0)] (preR c hs input D S g n (.p (partsP (partsM c))) ++ (g2 ++ [AObj.dead])).length))))).set n (.ext (seedsX s'.seeds)) = (pre7 c D S ++ (g ++ [AObj.ext (seedsX s'.seeds), AObj.cells (runC (envM c hs input D S) s'.ud s'.us n), AObj.cells [C.ptr (n + 1) 0]])) ++ (g2 ++ [AObj.dead]) := by
    rw [List.set_append_left _ _ (by simp; omega), setGP (p := 5) hg5 rfl rfl, List.set_append_left _ _ (by simp; omega), show n = n + 0 from rfl, setGP (p := 5) hg5 rfl rfl]; rfl
   have hB3 : ((pre7 c D S ++ (g ++ [AObj.ext (seedsX s'.seeds), AObj.cells (runC (envM c hs input D S) s'.ud s'.us n), AObj.cells [C.ptr (n + 1) 0]])) ++ g2).length = n2 := by simp; omega
   have hσo : ((pre7 c D S ++ (g ++ [AObj.ext (seedsX s'.seeds), AObj.cells (runC (envM c hs input D S) s'.ud s'.us n), AObj.cells [C.ptr (n + 1) 0]])) ++ (g2 ++ [AObj.dead, AObj.cells (outC o)])).set 2 (.cells (outC o)) = ([AObj.cells [C.p (rulesP c.rules), C.p (lI c.start)], AObj.cells [C.p (lI D), C.p (lI S)], AObj.cells (outC o), AObj.cells [C.p (lI 0), C.p (lI 0)], AObj.cells [C.p (lI 0)]] ++ (g ++ [AObj.ext (seedsX s'.seeds), AObj.cells (runC (envM c hs input D S) s'.ud s'.us n), AObj.cells [C.ptr (n + 1) 0]])) ++ (g2 ++ [AObj.dead, AObj.cells (outC o)]) := rfl
   repeat' (first| (show cAtD 33; refine' aw_dt 6 5 (([AObj.cells [C.p (rulesP c.rules), C.p (lI c.start)], AObj.cells [C.p (lI D), C.p (lI S)], AObj.cells (outC o), AObj.cells [C.p (lI 0), C.p (lI 0)], AObj.cells [C.p (lI 0)]] ++ (g ++ [AObj.ext (seedsX s'.seeds), AObj.cells (runC (envM c hs input D S) s'.ud s'.us n), AObj.cells [C.ptr (n + 1) 0]])) ++ (g2 ++ [AObj.dead, AObj.cells (outC o)])) Tryz_mixed _)| (show lStore; refine k_store (l' := outC o) ?_)| (show lCall; refine k_callCX (n + 1) n hwh (getL (getGP (p := 5) hg5 rfl rfl)) (getL (getGP (p := 5) (j := 0) hg5 rfl rfl)) (by omega) rfl rfl hcs ?_)| (show tNil; refine dt_nil ?_)| (show tNone; refine dt_turnN (by exact t_store (l' := outC o) (hσ := hσo)) ?_)| (show tSome; first | refine dt_pre (by exact rS) (by decide +kernel) ?_ | refine dt_pre2 (by exact rS) (by exact rS) ?_)| (refine wS ?_)| fail)
   have hx : (([AObj.cells [C.p (rulesP c.rules), C.p (lI c.start)], AObj.cells [C.p (lI D), C.p (lI S)], AObj.cells (outC o), AObj.cells [C.p (lI s'.ud), C.p (lI s'.us)], AObj.cells [C.p (lI 0)]] ++ (g ++ [AObj.ext (seedsX s'.seeds), AObj.cells (runC (envM c hs input D S) s'.ud s'.us n), AObj.cells [C.ptr (n + 1) 0]])) ++ (g2 ++ [AObj.dead, AObj.cells (outC o)]))[n + 2]? = some (.cells [.ptr (n + 1) 0]) := getL (getGP (p := 5) hg5 rfl rfl)
   have hr : (([AObj.cells [C.p (rulesP c.rules), C.p (lI c.start)], AObj.cells [C.p (lI D), C.p (lI S)], AObj.cells (outC o), AObj.cells [C.p (lI s'.ud), C.p (lI s'.us)], AObj.cells [C.p (lI 0)]] ++ (g ++ [AObj.ext (seedsX s'.seeds), AObj.cells (runC (envM c hs input D S) s'.ud s'.us n), AObj.cells [C.ptr (n + 1) 0]])) ++ (g2 ++ [AObj.dead, AObj.cells (outC o)]))[n + 1]? = some (.cells (runC (envM c hs input D S) s'.ud s'.us n)) := getL (getGP (p := 5) hg5 rfl rfl)
   have hm : (([AObj.cells [C.p (rulesP c.rules), C.p (lI c.start)], AObj.cells [C.p (lI D), C.p (lI S)], AObj.cells (outC o), AObj.cells [C.p (lI s'.ud), C.p (lI s'.us)], AObj.cells [C.p (lI 0)]] ++ (g ++ [AObj.ext (seedsX s'.seeds), AObj.cells (runC (envM c hs input D S) s'.ud s'.us n), AObj.cells [C.ptr (n + 1) 0]])) ++ (g2 ++ [AObj.dead, AObj.cells (outC o)]))[n]? = some (.ext (seedsX s'.seeds)) := getL (getGP (p := 5) (j := 0) hg5 rfl rfl)
   refine (def16_ret (σ := (([AObj.cells [C.p (rulesP c.rules), C.p (lI c.start)], AObj.cells [C.p (lI D), C.p (lI S)], AObj.cells (outC o), AObj.cells [C.p (lI s'.ud), C.p (lI s'.us)], AObj.cells [C.p (lI 0)]] ++ (g ++ [AObj.ext (seedsX s'.seeds), AObj.cells (runC (envM c hs input D S) s'.ud s'.us n), AObj.cells [C.ptr (n + 1) 0]])) ++ (g2 ++ [AObj.dead, AObj.cells (outC o)]))) (io := 2) (iu := 3) (ie := 4) hx hr rfl hm).mono fun u' σ'' hh => ?_
   obtain ⟨hu, rfl⟩ := hh
   refine ⟨hu, [outV o, usedV s'.ud s'.us, i64 0], ?_, rfl⟩
   exact res_c3 (ia := 2) (ib := 3) (ic := 4) (la := outC o) (lb := [C.p (lI s'.ud), C.p (lI s'.us)]) (lc := [C.p (lI 0)]) Tryz.results8 rfl rfl rfl (by rw [List.getElem?_set_ne (by omega)]; rfl) (by rw [List.getElem?_set_ne (by omega)]; rfl) (by rw [List.getElem?_set_ne (by omega)]; rfl) rfl rfl rfl
end Go.AL
namespace Go.AL
open Go.Proofs
def eN : ByteArray := ⟨#[101]⟩
/-- The forest behind j further rounds. -/
def forL : Nat -> List Cap
 | 0 => []
 | j + 1 => ⟨eN, 0, (j : Int) + 2, if j = 0 then 0 else 1⟩ :: forL j
theorem forL_len : ∀ j, (forL j).length = j
 | 0 => rfl
 | j + 1 => by simp [forL, forL_len j]
theorem trees_forL : ∀ (j : Nat) (n : Int), trees (forL (j + 1)) n 1 = n /\ True
 | 0, n => by simp [forL, trees]
 | j + 1, n => by
  have := (trees_forL j n).1
  rw [forL]
  simp only [trees]
  simp [this]
theorem trees_forL0 (j : Nat) : trees (forL j) 0 0 = if j = 0 then 0 else 1 := by
 cases j with
 | zero => rfl
 | succ j =>
  rw [forL]
  simp only [trees, if_true]
  cases j with
  | zero => rfl
  | succ j =>
   have := (trees_forL j (0 + 1)).1
   simp at this ⊢
   exact this
def outL (j : Nat) : Out := ⟨1, (j : Int) + 1, ⟨#[]⟩, forL j⟩
theorem bit_pow : ∀ p, p < 64 -> ∀ q, q < 64 -> decide (bits .and .u64 (((2 ^ p : Nat) : Int) / 2 ^ q) 1 ≠ 0) = decide (p = q) := by decide +kernel
theorem bit_zero : ∀ q, q < 64 -> decide (bits .and .u64 ((0 : Int) / 2 ^ q) 1 ≠ 0) = false := by decide +kernel
theorem has_set (b x : UInt8) : hasB (setC b) x = decide (x = b) := by
 have hb : b.toNat < 256 := b.toNat_lt
 have hx : x.toNat < 256 := x.toNat_lt
 have hxb : (x = b) ↔ (x.toNat / 64 = b.toNat / 64 /\ b.toNat % 64 = x.toNat % 64) := by
  constructor
  ·rintro rfl; exact ⟨rfl, rfl⟩
  ·rintro ⟨h1, h2⟩
   have : x.toNat = b.toNat := by omega
   exact UInt8.toNat.inj this
 have hw : wordOf (setC b) (x.toNat / 64) = if x.toNat / 64 = b.toNat / 64 then ((2 ^ (b.toNat % 64) : Nat) : Int) else 0 := by
  have h4 : x.toNat / 64 = 0 \/ x.toNat / 64 = 1 \/ x.toNat / 64 = 2 \/ x.toNat / 64 = 3 := by omega
  rcases h4 with h4 | h4 | h4 | h4 <;> simp only [wordOf, setC, h4] <;> simp [eq_comm]
 unfold hasB
 rw [hw]
 by_cases he : x.toNat / 64 = b.toNat / 64
 ·rw [if_pos he, bit_pow _ (Nat.mod_lt _ (by omega)) _ (Nat.mod_lt _ (by omega))]
  simp [hxb, he]
 ·rw [if_neg he, bit_zero _ (Nat.mod_lt _ (by omega))]
  simp [hxb, he]
end Go.AL
namespace Go.AL
open Go.Proofs
abbrev envL (a b : UInt8) (input : ByteArray) (D S : Int) : Env := ⟨leftC a b, [[(-1, -1)], [(-1, -1), (-1, -1), (0, 1), (2, -1), (-1, -1), (3, 4)]], [false, true], input, D, S⟩
theorem parts_left (a b : UInt8) : partsM (leftC a b) = [[(-1, -1)], [(-1, -1), (-1, -1), (0, 1), (2, -1), (-1, -1), (3, 4)]] := rfl
section
variable {a b : UInt8} {input : ByteArray} {D S : Int} {d : Nat} {s : MS}
theorem ev_step {e : Env} {d : Nat} {rule node at_ : Int} {s : MS} (h : s.us ≠ e.limS) : evalD e (d + 1) rule node at_ s = stepG e (evalD e d) rule (at' (bodyOf e rule) node) (at' (at' e.parts rule) node) at_ (begun e d s) := by
 simp only [evalD, if_neg h]
theorem matched0 (fin : Int) (s : MS) : matchedR fin [] s = .ok ⟨1, fin, ⟨#[]⟩, []⟩ s := by
 simp [matchedR]
/-- A set of one byte. -/
theorem ev_set {node : Int} {x : UInt8} (hn : at' (leftB a b) node = setN x) (at_ : Nat) (h : s.us ≠ S) : evalD (envL a b input D S) (d + 1) 1 node at_ s = if input[at_]? = some x then .ok ⟨1, (at_ : Int) + 1, ⟨#[]⟩, []⟩ (begun (envL a b input D S) d s) else .ok zeroO (begun (envL a b input D S) d s) := by
 rw [ev_step (e := envL a b input D S) h]
 have e1 : at' (bodyOf (envL a b input D S) 1) node = setN x := hn
 rw [e1]
 unfold stepG
 rw [if_pos (show (setN x).op = 1 from rfl)]
 by_cases hlt : at_ < input.size
 ·rw [if_pos (by show (at_ : Int) < (input.size : Int); omega)]
  have hb := byte_at hlt
  have e2 : (envL a b input D S).input[((at_ : Int)).toNat]? = some (atB input at_) := by rw [Int.toNat_natCast]; exact hb
  rw [e2, hb]
  show (if hasB (setC x) (atB input at_) = true then _ else _) = _
  rw [has_set]
  by_cases hx : atB input at_ = x
  ·rw [if_pos (by simp [hx]), if_pos (by rw [hx]), matched0]
  ·rw [if_neg (by simp [hx]), if_neg (by intro h; injection h with h; exact hx h)]
 ·rw [if_neg (by show ¬ (at_ : Int) < (input.size : Int); omega)]
  have hnone : input[at_]? = none := by
   cases hq : input[at_]? with
   | none => rfl
   | some v =>
    exfalso
    have : (input[at_]?).isSome = true := by rw [hq]; rfl
    simp at this
    omega
  rw [hnone, if_neg (by simp)]
/-- The rule again: its seed. -/
theorem ev_seed {o : Out} {at_ : Int} (h : s.us ≠ S) (hs : seedOf (1, at_) s.seeds = some o) : evalD (envL a b input D S) (d + 1) 1 0 at_ s = .ok o (begun (envL a b input D S) d s) := by
 rw [ev_step (e := envL a b input D S) h]
 show stepG (envL a b input D S) _ 1 ruleN (-1, -1) at_ _ = _
 have hs' : seedOf (1, at_) (begun (envL a b input D S) d s).seeds = some o := hs
 unfold stepG
 rw [if_neg (by decide), if_neg (by decide), if_pos (by rfl), if_pos (by rfl)]
 show (match seedOf (1, at_) (begun (envL a b input D S) d s).seeds with | some o => Res.ok o _ | none => _) = _
 rw [hs']
end
end Go.AL
namespace Go.AL
open Go.Proofs
section
variable {a b : UInt8} {input : ByteArray} {D S : Int} {d : Nat} {s : MS}
/-- Same seeds, up to k steps more. -/
def Near (s s' : MS) (k : Int) : Prop := s'.seeds = s.seeds /\ s.us < s'.us /\ s'.us <= s.us + k
theorem begun_near (e : Env) (d : Nat) (s : MS) : Near s (begun e d s) 1 := ⟨rfl, by simp [begun]; omega, by simp [begun]⟩
theorem Near.trans {s s' s'' : MS} {k l : Int} (h : Near s s' k) (g : Near s' s'' l) : Near s s'' (k + l) := ⟨g.1.trans h.1, by have := h.2.1; have := g.2.1; omega, by have := h.2.2; have := g.2.2; omega⟩
theorem Near.mono {s s' : MS} {k l : Int} (h : Near s s' k) (g : k <= l) : Near s s' l := ⟨h.1, h.2.1, by have := h.2.2; omega⟩
theorem ev_set' {node : Int} {x : UInt8} (hn : at' (leftB a b) node = setN x) {at_ : Nat} (h : s.us < S) {o : Out} (ho : o = if input[at_]? = some x then ⟨1, (at_ : Int) + 1, ⟨#[]⟩, []⟩ else zeroO) : ∃ s', evalD (envL a b input D S) (d + 1) 1 node at_ s = .ok o s' /\ Near s s' 1 := by
 refine ⟨_, ?_, begun_near (envL a b input D S) d s⟩
 rw [ev_set hn at_ (by omega), ho]
 split <;> rfl
theorem hM : maxS = 1048576 := rfl
/-- The part behind the capture: the rule again, then b. -/
theorem ev_seq {o : Out} (h : s.us + 3 < S) (hs : seedOf (1, 0) s.seeds = some o) {p : Nat} (ho : o = zeroO \/ (o = outL p /\ p < 1000)) {o' : Out}
  (ho' : o' = if o = zeroO then zeroO else if input[p + 1]? = some b then ⟨1, (p : Int) + 2, ⟨#[]⟩, forL p⟩ else zeroO) :
  ∃ s', evalD (envL a b input D S) (d + 2) 1 2 0 s = .ok o' s' /\ Near s s' 3 := by
 rw [ev_step (e := envL a b input D S) (by show s.us ≠ S; omega)]
 show ∃ s', stepG (envL a b input D S) _ 1 (opN 4 ⟨#[]⟩) (0, 1) 0 _ = _ /\ _
 unfold stepG
 rw [if_neg (by decide), if_neg (by decide), if_neg (by decide), if_pos (by rfl)]
 have n1 := begun_near (envL a b input D S) (d + 1) s
 generalize begun (envL a b input D S) (d + 1) s = s1 at n1 ⊢
 have e1 := ev_seed (a := a) (b := b) (input := input) (D := D) (S := S) (d := d) (s := s1) (o := o) (at_ := 0) (by have := n1.2.2; omega) (by rw [n1.1]; exact hs)
 have n2 := begun_near (envL a b input D S) d s1
 generalize begun (envL a b input D S) d s1 = s2 at n2 e1
 dsimp only
 rw [e1]
 dsimp only
 rcases ho with rfl | ⟨rfl, hp⟩
 ·refine ⟨s2, ?_, (n1.trans n2).mono (by omega)⟩
  rw [ho', if_pos rfl]
  rfl
 ·rw [if_neg (by unfold outL zeroO; intro h; injection h with h; omega)] at ho'
  have hk : (outL p).kind = 1 := rfl
  simp only [hk, ne_eq, not_true_eq_false, if_false]
  obtain ⟨s3, e3, n3⟩ := ev_set' (a := a) (b := b) (input := input) (D := D) (S := S) (d := d) (s := s2) (node := 1) (x := b) rfl (at_ := p + 1) (by have := (n1.trans n2).2.2; omega) rfl
  have ec : (outL p).fin = ((p + 1 : Nat) : Int) := by simp [outL]
  rw [ec, e3]
  refine ⟨s3, ?_, ((n1.trans n2).trans n3).mono (by omega)⟩
  by_cases hb : input[p + 1]? = some b
  ·rw [if_pos hb] at ho'
   simp only [if_pos hb]
   have hl : (outL p).forest.length = p := forL_len p
   simp only [hl, not_true_eq_false, if_false, List.length_nil, List.append_nil]
   rw [if_neg (by rw [hM]; omega), matchedR, if_neg (by show ¬ (forL p).length > maxS; rw [forL_len, hM]; omega), ho']
   congr 2
   try (push_cast; omega)
  ·rw [if_neg hb] at ho'
   simp only [if_neg hb]
   rw [ho']
   rfl
theorem ev_cap {o : Out} (h : s.us + 4 < S) (hs : seedOf (1, 0) s.seeds = some o) {p : Nat} (ho : o = zeroO \/ (o = outL p /\ p < 1000)) {o' : Out}
  (ho' : o' = if o = zeroO then zeroO else if input[p + 1]? = some b then outL (p + 1) else zeroO) :
  ∃ s', evalD (envL a b input D S) (d + 3) 1 3 0 s = .ok o' s' /\ Near s s' 4 := by
 rw [ev_step (e := envL a b input D S) (by show s.us ≠ S; omega)]
 show ∃ s', stepG (envL a b input D S) _ 1 (opN 8 ⟨#[101]⟩) (2, -1) 0 _ = _ /\ _
 unfold stepG
 rw [if_neg (by decide), if_neg (by decide), if_neg (by decide), if_neg (by decide), if_neg (by decide), if_neg (by decide), if_neg (by decide), if_pos (by rfl)]
 have n1 := begun_near (envL a b input D S) (d + 2) s
 generalize begun (envL a b input D S) (d + 2) s = s1 at n1 ⊢
 obtain ⟨s2, e2, n2⟩ := ev_seq (a := a) (b := b) (input := input) (D := D) (S := S) (d := d) (s := s1) (o := o) (by have := n1.2.2; omega) (by rw [n1.1]; exact hs) ho rfl
 dsimp only
 rw [e2]
 dsimp only
 refine ⟨s2, ?_, (n1.trans n2).mono (by omega)⟩
 by_cases hz : o = zeroO
 ·simp only [if_pos hz] at ho' ⊢
  rw [ho']
  rfl
 ·simp only [if_neg hz] at ho' ⊢
  have hp : p < 1000 := by rcases ho with h | h; exact absurd h hz; exact h.2
  by_cases hb : input[p + 1]? = some b
  ·simp only [if_pos hb] at ho' ⊢
   simp only [ne_eq, not_true_eq_false, if_false, forL_len]
   rw [if_neg (by rw [hM]; omega), matchedR, if_neg (by simp only [List.length_cons, forL_len, hM]; omega), ho', trees_forL0]
   try rfl
  ·simp only [if_neg hb] at ho' ⊢
   rw [ho']
   rfl
/-- One round. -/
theorem ev_alt {o : Out} (h : s.us + 7 < S) (hs : seedOf (1, 0) s.seeds = some o) {p : Nat} (ho : o = zeroO \/ (o = outL p /\ p < 1000)) (ha : input[0]? = some a) {o' : Out}
  (ho' : o' = if o = zeroO then outL 0 else if input[p + 1]? = some b then outL (p + 1) else outL 0) :
  ∃ s', evalD (envL a b input D S) (d + 4) 1 5 0 s = .ok o' s' /\ Near s s' 6 := by
 rw [ev_step (e := envL a b input D S) (by show s.us ≠ S; omega)]
 show ∃ s', stepG (envL a b input D S) _ 1 (opN 5 ⟨#[]⟩) (3, 4) 0 _ = _ /\ _
 unfold stepG
 rw [if_neg (by decide), if_neg (by decide), if_neg (by decide), if_neg (by decide), if_pos (by rfl)]
 have n1 := begun_near (envL a b input D S) (d + 3) s
 generalize begun (envL a b input D S) (d + 3) s = s1 at n1 ⊢
 obtain ⟨s2, e2, n2⟩ := ev_cap (a := a) (b := b) (input := input) (D := D) (S := S) (d := d) (s := s1) (o := o) (by have := n1.2.2; omega) (by rw [n1.1]; exact hs) ho rfl
 dsimp only
 rw [e2]
 dsimp only
 obtain ⟨s3, e3, n3⟩ := ev_set' (a := a) (b := b) (input := input) (D := D) (S := S) (d := d + 2) (s := s2) (node := 4) (x := a) rfl (at_ := 0) (by have := (n1.trans n2).2.2; omega) rfl
 have e0 : (⟨1, ((0 : Nat) : Int) + 1, ⟨#[]⟩, []⟩ : Out) = outL 0 := rfl
 rw [if_pos ha, e0] at e3
 have e3' : evalD (envL a b input D S) (d + 3) 1 4 0 s2 = .ok (outL 0) s3 := e3
 by_cases hz : o = zeroO
 ·simp only [if_pos hz] at ho' ⊢
  refine ⟨s3, ?_, ((n1.trans n2).trans n3).mono (by omega)⟩
  rw [ho', <- e3']
  rfl
 ·simp only [if_neg hz] at ho' ⊢
  by_cases hb : input[p + 1]? = some b
  ·simp only [if_pos hb] at ho' ⊢
   refine ⟨s2, ?_, (n1.trans n2).mono (by omega)⟩
   rw [ho']
   rfl
  ·simp only [if_neg hb] at ho' ⊢
   refine ⟨s3, ?_, ((n1.trans n2).trans n3).mono (by omega)⟩
   rw [ho', <- e3']
   rfl
theorem grow_L (n : Nat) (hn : n < 999) (ha : input[0]? = some a) (hb : ∀ j, j < n -> input[j + 1]? = some b) (hx : input[n + 1]? ≠ some b) :
  ∀ (k j F : Nat) (s : MS), k + j = n -> k + 1 <= F -> s.us + 7 * (k + 1) < S -> s.seeds = [((1, 0), outL j)] ->
   ∃ s', growG (fun s => evalD (envL a b input D S) (d + 4) 1 5 0 s) (1, 0) F s = .ok (outL n) s' /\ s.us < s'.us
 | 0, j, F + 1, s, hk, hF, hS, hs => by
  obtain rfl : j = n := by omega
  obtain ⟨s2, e2, n2⟩ := ev_alt (a := a) (b := b) (input := input) (D := D) (S := S) (d := d) (s := s) (o := outL j) (by omega) (by rw [hs]; rfl) (.inr ⟨rfl, by omega⟩) ha rfl
  rw [if_neg (by unfold outL zeroO; intro h; injection h with h; omega), if_neg hx] at e2
  unfold growG
  simp only [e2]
  refine ⟨{ s2 with seeds := delS (1, 0) s2.seeds }, ?_, n2.2.1⟩
  have hsd : (seedOf (1, 0) s2.seeds).getD zeroO = outL j := by rw [n2.1, hs]; rfl
  rw [hsd, if_neg (by simp only [outL]; omega), if_neg (by simp [outL])]
 | k + 1, j, F + 1, s, hk, hF, hS, hs => by
  obtain ⟨s2, e2, n2⟩ := ev_alt (a := a) (b := b) (input := input) (D := D) (S := S) (d := d) (s := s) (o := outL j) (by omega) (by rw [hs]; rfl) (.inr ⟨rfl, by omega⟩) ha rfl
  rw [if_neg (by unfold outL zeroO; intro h; injection h with h; omega), if_pos (hb j (by omega))] at e2
  unfold growG
  simp only [e2]
  have hsd : (seedOf (1, 0) s2.seeds).getD zeroO = outL j := by rw [n2.1, hs]; rfl
  rw [hsd, if_pos ⟨rfl, .inr (by show ((j + 1 : Nat) : Int) + 1 > (j : Int) + 1; omega)⟩]
  obtain ⟨s3, e3, h3⟩ := grow_L n hn ha hb hx k (j + 1) F { s2 with seeds := setS (1, 0) (outL (j + 1)) s2.seeds } (by omega) (by omega) (by have := n2.2.2; show s2.us + _ < _; omega) (by rw [n2.1, hs]; rfl)
  exact ⟨s3, e3, Int.lt_trans n2.2.1 h3⟩
/-- All of it. -/
theorem whole_L {n : Nat} (hn : n < 999) (ha : input[0]? = some a) (hb : ∀ j, j < n -> input[j + 1]? = some b) (hx : input[n + 1]? ≠ some b) (hD : 10 <= D) (hS : 8 * ((n : Int) + 3) <= S) :
  ∃ s', evalD (envL a b input D S) D.toNat 0 0 0 ⟨0, 0, []⟩ = .ok (outL n) s' /\ 0 < s'.us := by
 obtain ⟨d, hd⟩ : ∃ d, D.toNat = (d + 4) + 1 := ⟨D.toNat - 5, by omega⟩
 rw [hd, ev_step (e := envL a b input D S) (by show (0 : Int) ≠ S; omega)]
 show ∃ s', stepG (envL a b input D S) _ 0 ruleN (-1, -1) 0 _ = _ /\ _
 unfold stepG
 rw [if_neg (by decide), if_neg (by decide), if_pos (by rfl), if_pos (by rfl)]
 have n1 := begun_near (envL a b input D S) (d + 4) ⟨0, 0, []⟩
 generalize begun (envL a b input D S) (d + 4) ⟨0, 0, []⟩ = s1 at n1 ⊢
 have h0 : seedOf ((1 : Int), (0 : Int)) s1.seeds = none := by rw [n1.1]; rfl
 have u1 : s1.us = 1 := by have := n1.2.1; have := n1.2.2; simp at *; omega
 rw [show ruleN.rule = 1 from rfl, h0]
 show ∃ s', growG (fun s => evalD (envL a b input D S) (d + 4) 1 5 0 s) (1, 0) ((S - s1.us).toNat + 1) { s1 with seeds := setS (1, 0) zeroO s1.seeds } = _ /\ _
 have hs1 : (setS ((1 : Int), (0 : Int)) zeroO s1.seeds) = [((1, 0), zeroO)] := by rw [n1.1]; rfl
 rw [hs1]
 obtain ⟨s2, e2, n2⟩ := ev_alt (a := a) (b := b) (input := input) (D := D) (S := S) (d := d) (s := { s1 with seeds := [((1, 0), zeroO)] }) (o := zeroO) (p := 0) (by show s1.us + 7 < S; omega) rfl (.inl rfl) ha rfl
 rw [if_pos rfl] at e2
 unfold growG
 simp only [e2]
 have hsd : (seedOf (1, 0) s2.seeds).getD zeroO = zeroO := by rw [n2.1]; rfl
 rw [hsd, if_pos (by simp [outL, zeroO])]
 have u2 : s2.us <= 7 := by have := n2.2.2; simp at this; omega
 obtain ⟨s3, e3, h3⟩ := grow_L (D := D) (S := S) (d := d) n hn ha hb hx n 0 (S - s1.us).toNat { s2 with seeds := setS (1, 0) (outL 0) s2.seeds } (by omega) (by omega) (by show s2.us + _ < _; omega) (by rw [n2.1]; rfl)
 refine ⟨s3, e3, ?_⟩
 have := n2.2.1
 simp at this h3
 omega
end
end Go.AL
namespace Go.AL
open Go.Proofs
abbrev psL : List (List (Int × Int)) := [[(-1, -1)], [(-1, -1), (-1, -1), (0, 1), (2, -1), (-1, -1), (3, 4)]]
section
variable (a b : UInt8)
theorem asciie : Ascii ⟨#[101]⟩ := by
 intro j c h
 match j, h with
 | 0, h => injection h with h; subst h; decide
 | j + 1, h => simp at h
theorem ascii0 : Ascii ⟨#[]⟩ := by
 intro j c h
 simp at h
theorem core_left : CoreIn (leftC a b) := by
 refine ⟨by simp [leftC], by show (7 : Int) <= _; omega, ?_⟩
 intro r hr
 simp only [leftC, List.mem_cons, List.not_mem_nil, or_false] at hr
 rcases hr with rfl | rfl
 ·refine ⟨by decide, fun n hn => ?_⟩
  simp only [List.mem_cons, List.not_mem_nil, or_false] at hn
  rcases hn with rfl
  exact ⟨by decide, fun _ => ascii0⟩
 ·refine ⟨by show (1 : Nat) < _; omega, fun n hn => ?_⟩
  simp only [List.mem_cons, List.not_mem_nil, or_false] at hn
  rcases hn with rfl | rfl | rfl | rfl | rfl | rfl
  ·exact ⟨by decide, fun _ => ascii0⟩
  ·exact ⟨by show (0 : Nat) < _; omega, fun _ => ascii0⟩
  ·exact ⟨by decide, fun _ => ascii0⟩
  ·exact ⟨by decide, fun _ => asciie⟩
  ·exact ⟨by show (0 : Nat) < _; omega, fun _ => ascii0⟩
  ·exact ⟨by decide, fun _ => ascii0⟩
theorem ok_set (n d : Int) (x : UInt8) (h : 0 <= d) : okN n d (setN x) = true := decide_eq_true ⟨h, by show (0 : Int) <= 1; decide, by show (1 : Int) <= 8; decide, fun q => absurd q (by show ¬ (1 : Int) = 2; decide), fun q => absurd q (by show ¬ ((1 : Int) = 3 \/ (1 : Int) = 8); decide), rfl⟩
theorem check_left : checkI (leftC a b) = 0 := by
 unfold checkI
 rw [if_neg (by rintro (h | h | h | h | h) <;> revert h <;> (first | (show ¬ ((2 : Nat) < 1); omega) | (show ¬ ((2 : Nat) > 256); omega) | (show ¬ ((0 : Int) < 0); omega) | (show ¬ ((0 : Int) >= 2); omega) | (show ¬ ((7 : Int) > 16384); omega)))]
 rw [if_pos]
 have e1 : rightL 2 [ruleN] 0 = true := by decide +kernel
 have e2 : rightL 2 (leftB a b) 0 = true := by
  simp only [rightL, Bool.and_eq_true]
  refine ⟨by decide +kernel, ok_set _ _ b (by decide), by decide +kernel, by decide +kernel, ok_set _ _ a (by decide), by decide +kernel, rfl⟩
 have e3 : nameOk ⟨#[83]⟩ = true := by decide +kernel
 have e4 : nameOk ⟨#[69]⟩ = true := by decide +kernel
 have e5 : (idxK (⟨#[83]⟩ : ByteArray) []).isSome = false := by decide +kernel
 have e6 : (idxK (⟨#[69]⟩ : ByteArray) ([] ++ [⟨#[83]⟩])).isSome = false := by decide +kernel
 show checkL 2 [⟨⟨#[83]⟩, [ruleN]⟩, ⟨⟨#[69]⟩, leftB a b⟩] [] = true
 simp only [checkL, e1, e2, e3, e4, e5, e6]
 rfl
theorem two_cases {P : Int -> Prop} {r : Int} (r0 : 0 <= r) (r1 : r < ((leftC a b).rules.length : Nat)) (h0 : P 0) (h1 : P 1) : P r := by
 have : r < 2 := r1
 obtain rfl | rfl : r = 0 \/ r = 1 := by omega
 ·exact h0
 ·exact h1
theorem one_cases {P : Int -> Prop} {k : Int} (k0 : 0 <= k) (k1 : k < ((at' (leftC a b).rules 0).body.length : Nat)) (h0 : P 0) : P k := by
 have : k < 1 := k1
 obtain rfl : k = 0 := by omega
 exact h0
theorem six_cases {P : Int -> Prop} {k : Int} (k0 : 0 <= k) (k1 : k < ((at' (leftC a b).rules 1).body.length : Nat)) (h0 : P 0) (h1 : P 1) (h2 : P 2) (h3 : P 3) (h4 : P 4) (h5 : P 5) : P k := by
 have : k < 6 := k1
 obtain rfl | rfl | rfl | rfl | rfl | rfl : k = 0 \/ k = 1 \/ k = 2 \/ k = 3 \/ k = 4 \/ k = 5 := by omega
 all_goals assumption
theorem solv_left : SolvIn (leftC a b) psL 2 where
 rules := by show (2 : Nat) <= 1000; omega
 body := fun r r0 r1 => two_cases a b (P := fun r => (at' (leftC a b).rules r).body.length <= 1000000) r0 r1 (by show (1 : Nat) <= _; omega) (by show (6 : Nat) <= _; omega)
 parts := rfl
 part := fun r r0 r1 => two_cases a b (P := fun r => (at' psL r).length = (at' (leftC a b).rules r).body.length) r0 r1 rfl rfl
 lt := fun r k r0 r1 k0 k1 => by
  have h2 : r < 2 := r1
  obtain rfl | rfl : r = 0 \/ r = 1 := by omega
  ·exact one_cases a b (P := fun k => (at' (at' psL 0) k).1 < 1 /\ (at' (at' psL 0) k).2 < 1) k0 k1 (by decide)
  ·exact six_cases a b (P := fun k => (at' (at' psL 1) k).1 < 6 /\ (at' (at' psL 1) k).2 < 6) k0 k1 (by decide) (by decide) (by decide) (by decide) (by decide) (by decide)
 rule := fun r k r0 r1 k0 k1 => by
  have h2 : r < 2 := r1
  obtain rfl | rfl : r = 0 \/ r = 1 := by omega
  ·exact one_cases a b (P := fun k => (at' [ruleN] k).op = 2 -> 0 <= (at' [ruleN] k).rule /\ (at' [ruleN] k).rule < 2) k0 k1 (by decide)
  ·exact six_cases a b (P := fun k => (at' (leftB a b) k).op = 2 -> 0 <= (at' (leftB a b) k).rule /\ (at' (leftB a b) k).rule < 2) k0 k1 (fun _ => by show (0 : Int) <= 1 /\ (1 : Int) < 2; omega) (fun h => absurd (show (1 : Int) = 2 from h) (by decide)) (fun h => absurd (show (4 : Int) = 2 from h) (by decide)) (fun h => absurd (show (8 : Int) = 2 from h) (by decide)) (fun h => absurd (show (1 : Int) = 2 from h) (by decide)) (fun h => absurd (show (5 : Int) = 2 from h) (by decide))
theorem facts_left : FactsIn (leftC a b) psL (leftC a b).rules.length where
 inn := solv_left a b
 ne := fun r r0 r1 => two_cases a b (P := fun r => 0 < (at' (leftC a b).rules r).body.length) r0 r1 (by show 0 < 1; omega) (by show 0 < 6; omega)
 n := rfl
theorem solve_left : SolveIn (leftC a b) psL [noMay, noMay] [noCls, noCls] where
 fin := facts_left a b
 div := fun r hr => by
  have h2 : r < 2 := hr
  obtain rfl | rfl : r = 0 \/ r = 1 := by omega
  ·rfl
  ·rfl
 comes := ⟨1, rfl⟩
 firsts := ⟨1, rfl⟩
theorem info_left : ∃ c0 i1 i2 i3 i4 i5, infoM (leftC a b) psL [noMay, noMay] [noCls, noCls] 1 = [⟨noMay, c0⟩, i1, i2, i3, i4, i5] := ⟨_, _, _, _, _, _, rfl⟩
theorem frn_left (c0 : Cls) (i1 i2 i3 i4 i5 : Info) : frnF (leftB a b) [(-1, -1), (-1, -1), (0, 1), (2, -1), (-1, -1), (3, 4)] [⟨noMay, c0⟩, i1, i2, i3, i4, i5] 10 [5] [] = some [1] := by
 simp [frnF, nextsI, at', noMay]
theorem find_left : FindIn (leftC a b) psL [noMay, noMay] [noCls, noCls] [[1], [1]] where
 solve := solve_left a b
 len := rfl
 prt := fun r hr => by
  have h2 : r < 2 := hr
  obtain rfl | rfl : r = 0 \/ r = 1 := by omega
  ·exact ⟨[(-1, -1)], 10, rfl, by omega, rfl⟩
  ·obtain ⟨c0, i1, i2, i3, i4, i5, e⟩ := info_left a b
   refine ⟨[(-1, -1), (-1, -1), (0, 1), (2, -1), (-1, -1), (3, 4)], 10, rfl, by omega, ?_⟩
   show frnF (leftB a b) _ (infoM (leftC a b) psL [noMay, noMay] [noCls, noCls] 1) 10 [5] [] = some [1]
   rw [e]
   exact frn_left a b c0 i1 i2 i3 i4 i5
 star := fun r k hr hk h6 => by
  exfalso
  have h2 : r < 2 := hr
  obtain rfl | rfl : r = 0 \/ r = 1 := by omega
  ·exact one_cases a b (P := fun k => (at' [ruleN] k).op ≠ 6) (k := k) (by omega) (by have : k < 1 := hk; show (k : Int) < ((1 : Nat) : Int); omega) (by decide) h6
  ·exact six_cases a b (P := fun k => (at' (leftB a b) k).op ≠ 6) (k := k) (by omega) (by have : k < 6 := hk; show (k : Int) < ((6 : Nat) : Int); omega) (by show (2 : Int) ≠ 6; decide) (by show (1 : Int) ≠ 6; decide) (by show (4 : Int) ≠ 6; decide) (by show (8 : Int) ≠ 6; decide) (by show (1 : Int) ≠ 6; decide) (by show (5 : Int) ≠ 6; decide) h6
theorem sorted1 : ([[1], [1]] : List (List Int)).map sortedI = [[1], [1]] := by
 have : sortedI [1] = [1] := by unfold sortedI; rw [List.mergeSort_singleton]; rfl
 simp [this]
theorem lefts_left : ACalls Tryz.prog 35 [coreV (leftC a b)] [] (fun q _ => q = .ret (.tup [.c (.p (.sl 1 (([[1], [1]] : List (List Int)).map encL))), i64 0])) := by
 have := left23_c (leftC a b) (core_left a b) (check_left a b) psL [noMay, noMay] [noCls, noCls] [[1], [1]] (find_left a b) (by decide)
 unfold leftsP at this
 rw [sorted1] at this
 exact this
theorem headsIn_left : HeadsIn [[1], [1]] [false, true] where
 n := by decide
 small := by decide
 len := rfl
 reach := fun r hr => by
  have h2 : r < 2 := hr
  obtain rfl | rfl : r = 0 \/ r = 1 := by omega
  ·exact ⟨5, [false, true], by omega, rfl, rfl⟩
  ·exact ⟨5, [false, true], by omega, rfl, rfl⟩
theorem heads_left : ACalls Tryz.prog 18 [coreV (leftC a b)] [] (fun q _ => q = .ret (.tup [.c (.p (headsP [false, true])), i64 0])) := heads_c (leftC a b) [[1], [1]] [false, true] (lefts_left a b) headsIn_left
theorem idx_left : ACalls Tryz.prog 12 [coreV (leftC a b)] [] (fun q _ => q = .ret (.tup [intsV [1], i64 0])) := heads12_c (leftC a b) [false, true] (by decide) (heads_left a b)
theorem runIn_left (input : ByteArray) (D S : Int) (hin : input.size <= 65536) : RunIn (leftC a b) (infoM (leftC a b) psL [noMay, noMay] [noCls, noCls]) [false, true] input D S where
 heads := heads_left a b
 facts := fun r hr => body14_c (leftC a b) (core_left a b) (check_left a b) psL _ _ (solve_left a b) r (by omega) (by omega)
 star := fun r k hr hk h6 => absurd ((find_left a b).star r k hr hk h6) (by
  exfalso
  have h2 : r < 2 := hr
  obtain rfl | rfl : r = 0 \/ r = 1 := by omega
  ·exact one_cases a b (P := fun k => (at' [ruleN] k).op ≠ 6) (k := k) (by omega) (by have : k < 1 := hk; show (k : Int) < ((1 : Nat) : Int); omega) (by decide) h6
  ·exact six_cases a b (P := fun k => (at' (leftB a b) k).op ≠ 6) (k := k) (by omega) (by have : k < 6 := hk; show (k : Int) < ((6 : Nat) : Int); omega) (by show (2 : Int) ≠ 6; decide) (by show (1 : Int) ≠ 6; decide) (by show (4 : Int) ≠ 6; decide) (by show (8 : Int) ≠ 6; decide) (by show (1 : Int) ≠ 6; decide) (by show (5 : Int) ≠ 6; decide) h6)
 wf := {
  nr := by show 0 < 2 /\ 2 <= 256; omega
  body := fun r r0 r1 => two_cases a b (P := fun r => 0 < (at' (leftC a b).rules r).body.length /\ (at' (leftC a b).rules r).body.length <= 16384) r0 r1 (by show 0 < 1 /\ 1 <= 16384; omega) (by show 0 < 6 /\ 6 <= 16384; omega)
  heads := rfl
  parts := rfl
  part := (solv_left a b).part
  rule := (solv_left a b).rule
  two := fun r k r0 r1 k0 k1 h => by
   have h2 : r < 2 := r1
   obtain rfl | rfl : r = 0 \/ r = 1 := by omega
   ·exact one_cases a b (P := fun k => (at' [ruleN] k).op = 4 \/ (at' [ruleN] k).op = 5 -> (0 <= (at' (at' psL 0) k).1 /\ (at' (at' psL 0) k).1 < 1) /\ (0 <= (at' (at' psL 0) k).2 /\ (at' (at' psL 0) k).2 < 1)) k0 k1 (by decide) h
   ·exact six_cases a b (P := fun k => (at' (leftB a b) k).op = 4 \/ (at' (leftB a b) k).op = 5 -> (0 <= (at' (at' psL 1) k).1 /\ (at' (at' psL 1) k).1 < 6) /\ (0 <= (at' (at' psL 1) k).2 /\ (at' (at' psL 1) k).2 < 6)) k0 k1 (by show (2 : Int) = 4 \/ (2 : Int) = 5 -> _; omega) (by show (1 : Int) = 4 \/ (1 : Int) = 5 -> _; omega) (fun _ => by decide) (by show (8 : Int) = 4 \/ (8 : Int) = 5 -> _; omega) (by show (1 : Int) = 4 \/ (1 : Int) = 5 -> _; omega) (fun _ => by decide) h
  one := fun r k r0 r1 k0 k1 h => by
   have h2 : r < 2 := r1
   obtain rfl | rfl : r = 0 \/ r = 1 := by omega
   ·exact one_cases a b (P := fun k => (at' [ruleN] k).op = 6 \/ (at' [ruleN] k).op = 7 \/ (at' [ruleN] k).op = 8 -> 0 <= (at' (at' psL 0) k).1 /\ (at' (at' psL 0) k).1 < 1) k0 k1 (by decide) h
   ·exact six_cases a b (P := fun k => (at' (leftB a b) k).op = 6 \/ (at' (leftB a b) k).op = 7 \/ (at' (leftB a b) k).op = 8 -> 0 <= (at' (at' psL 1) k).1 /\ (at' (at' psL 1) k).1 < 6) k0 k1 (by show (2 : Int) = 6 \/ (2 : Int) = 7 \/ (2 : Int) = 8 -> _; omega) (by show (1 : Int) = 6 \/ (1 : Int) = 7 \/ (1 : Int) = 8 -> _; omega) (by show (4 : Int) = 6 \/ (4 : Int) = 7 \/ (4 : Int) = 8 -> _; omega) (fun _ => by decide) (by show (1 : Int) = 6 \/ (1 : Int) = 7 \/ (1 : Int) = 8 -> _; omega) (by show (5 : Int) = 6 \/ (5 : Int) = 7 \/ (5 : Int) = 8 -> _; omega) h
  limD := by show 0 <= clampI D 32768 /\ clampI D 32768 <= 32768; unfold clampI; omega
  limS := by show 0 <= clampI S 1048576 /\ clampI S 1048576 <= 1048576; unfold clampI; omega
  input := hin }
 start := by show (0 : Int) <= 0 /\ (0 : Int) < 2; omega
/-- The run of left(a, b) at a, n times b, then no b. -/
theorem run_left {input : ByteArray} {D S : Int} {n : Nat} (hn : n < 999) (hin : input.size <= 65536) (ha : input[0]? = some a) (hb : ∀ j, j < n -> input[j + 1]? = some b) (hx : input[n + 1]? ≠ some b) (hD : 10 <= D) (hD' : D <= 32768) (hS : 8 * ((n : Int) + 3) <= S) (hS' : S <= 1048576) :
  ∃ ud us : Int, 0 < us /\ ACalls Tryz.prog 8 [coreV (leftC a b), strA input, .agg [.p (lI D), .p (lI S)]] [] (fun q _ => q = .ret (.tup [outV (outL n), usedV ud us, i64 0])) := by
 have cD : clampI D 32768 = D := by unfold clampI; omega
 have cS : clampI S 1048576 = S := by unfold clampI; omega
 obtain ⟨s', e, h⟩ := whole_L (a := a) (b := b) (input := input) (D := D) (S := S) hn ha hb hx hD hS
 refine ⟨s'.ud, s'.us, h, run_c (leftC a b) (infoM (leftC a b) psL [noMay, noMay] [noCls, noCls]) [false, true] input D S (runIn_left a b input D S hin) (by rw [cD]; omega) (outL n) s' ?_⟩
 unfold envM
 rw [cD, cS, parts_left]
 exact e
end
end Go.AL
namespace Go.AL
open Go.Proofs
attribute [local irreducible] AWp AList RStep seqQ blockQ retQ DSteps DT DU DM DZ awR rQ SStep letterB digitB preB nameOk anyB rightL checkI
theorem eqt50 (d : Nat) : EqT Tryz.prog (d + 2) 50 [.str, .int .i64, .int .i64, .int .i64] := eqT_struct' inferInstance Tryz.underlying50 (by kernel_rfl) (.cons (k1 := [_]) rfl (by decide) (eqt9 _) (.cons (k1 := [_]) rfl (by decide) (eqt3 _) (.cons (k1 := [_]) rfl (by decide) (eqt3 _) (.cons (k1 := [_]) (k2 := []) rfl (by decide) (eqt3 _) .nil))))
instance : TEq Tryz.prog 50 [.str, .int .i64, .int .i64, .int .i64] := ⟨eqt50 9998, inferInstance, by kernel_rfl⟩
def inW : ByteArray := ⟨#[97, 98, 98, 99]⟩
theorem run_w : ∃ ud us : Int, 0 < us /\ ACalls Tryz.prog 8 [coreV (leftC 97 98), strA inW, .agg [.p (lI 99), .p (lI 999)]] [] (fun q _ => q = .ret (.tup [outV ⟨1, 3, ⟨#[]⟩, [⟨eN, 0, 3, 1⟩, ⟨eN, 0, 2, 0⟩]⟩, usedV ud us, i64 0])) :=
 run_left 97 98 (n := 2) (by omega) (by decide) (by decide) (fun j hj => by
  match j, hj with
  | 0, _ => decide
  | 1, _ => decide) (by decide) (by omega) (by omega) (by decide) (by omega)
theorem works_c : ACalls Tryz.prog 4 [] [] (fun q _ => q = .ret (bl true)) := by
 obtain ⟨ud, us, hus, hrun⟩ := run_w
 have hl : ACalls Tryz.prog 11 [lU8 97, lU8 98] [] (fun r _ => r = .ret (coreV (leftC 97 98))) := left_c 97 98
 have hi := idx_left 97 98
 refine acalls_by Tryz.func4 Tryz.ntmps4 ?_
 simp only [argFr]
 repeat' (first| (show lOp; refine op0 (by first | (show kCall; first | exact b_call (hl) | exact b_call (hrun) | exact b_call (hi)) | (show kIndexaddr; exact m_indexSl (h1 := by decide))) ?_)| (show eRet; refine ret1 Tryz.results4 ?_)| (refine wS ?_)| fail)
 rfl
end Go.AL
namespace Go.AL
open Go.Proofs
attribute [local irreducible] AWp AList RStep seqQ blockQ DSteps DT DU DM DZ awR rQ SStep
theorem retP {P : Program} {fn : Func} {R : CE -> List AObj -> Prop} {x : PV} {s : St} (h : R (.panic x) s.σ) : retQ P fn R (.panic x) s := h
attribute [local irreducible] retQ
abbrev stopP (c : Int) : PV := .ifa 82 [lI c]
abbrev EvP (e : Env) (c : Int) (s : MS) : CE -> List AObj -> Prop := fun r σ' => r = .panic (stopP c) /\ ∃ g, σ' = .cells (runC e s.ud s.us 1) :: .ext (seedsX s.seeds) :: g
/-- What a call of 'step' comes to where a limit is met. -/
def StepP (e : Env) (d : Nat) : Prop := ∀ (rule node a : Int) (s : MS) (c : Int) (s' : MS), 0 <= rule -> rule < e.core.rules.length -> 0 <= node -> node < (bodyOf e rule).length -> 0 <= a -> a <= e.input.size -> SOK e s -> evalD e d rule node a s = .stop c s' ->
 ACalls Tryz.prog 42 [.c (.ptr 0 0), i64 rule, i64 node, i64 a, i64 (e.limD + 1 - d)] (msσ e s) (EvP e c s')
theorem joined_p (f g : List Cap) (h : f.length + g.length > maxS) (hl : f.length + g.length <= 1000000000) : ACalls Tryz.prog 68 [.c (.p (forestP f)), .c (.p (forestP g))] [] (fun r _ => r = .panic (stopP 2)) := by
 have h : f.length + g.length > 1048576 := h
 refine acalls_by Tryz.func68 Tryz.ntmps68 ?_
 simp only [argFr]
 repeat' (first| (refine aw_T ?_ (hb := eT))| (refine k_panic ?_)| (refine retP ?_)| (show lOp; refine op0 (by (show kMakeinterface; exact r_ifaceAgg (l := [lI 2]) rfl)) ?_)| (refine wS ?_)| fail)
 rfl
theorem whole_p {e : Env} (hw : WF e) {d : Nat} (hd : (d : Int) <= e.limD) (H : StepP e d) {rule a c : Int} {s s' : MS} (r0 : 0 <= rule) (r1 : rule < e.core.rules.length) (a0 : 0 <= a) (a1 : a <= e.input.size) (hs : SOK e s) (h : evalD e d rule (lastOf e rule) a s = .stop c s') :
  ACalls Tryz.prog 22 [.c (.ptr 0 0), i64 rule, i64 a, i64 (e.limD + 1 - d)] (msσ e s) (EvP e c s') := by
 have hb : 0 < (at' e.core.rules rule).body.length /\ (at' e.core.rules rule).body.length <= 16384 := hw.body rule r0 r1
 have hl := hw.limD
 have hn := hw.nr
 have hst := H rule (lastOf e rule) a s c s' r0 r1 (by simp only [lastOf, bodyOf]; omega) (by simp only [lastOf, bodyOf]; omega) a0 a1 hs h
 refine acalls_by Tryz.func22 Tryz.ntmps22 ?_
 simp only [argFr]
 repeat' (first| (refine retP ?_)| (show lCall; refine k_callCXp 0 1 hst rfl rfl (by decide) rfl rfl rfl ?_)| (refine wS ?_)| fail)
 exact ⟨rfl, _, rfl⟩
end Go.AL
namespace Go.AL
open Go.Proofs
attribute [local irreducible] AWp AList RStep seqQ blockQ retQ DSteps DT DU DM DZ awR rQ SStep
theorem star_p {e : Env} (hw : WF e) {d : Nat} (hd : (d : Int) <= e.limD) (H : StepC e d) (HP : StepP e d) {rule part a c : Int} {s s' : MS} {n : Nat} (r0 : 0 <= rule) (r1 : rule < e.core.rules.length) (p0 : 0 <= part) (p1 : part < (bodyOf e rule).length) (a0 : 0 <= a) (a1 : a <= e.input.size) (hs : SOK e s) (hn : e.limS - s.us < n) (h : starG (fun a s => evalD e d rule part a s) n a [] s = .stop c s') :
  ACalls Tryz.prog 69 [.c (.ptr 0 0), i64 rule, i64 part, i64 a, i64 (e.limD + 1 - d)] (msσ e s) (EvP e c s') := by
 have hl := hw.limD
 have hin := hw.input
 refine acalls_by Tryz.func69 Tryz.ntmps69 ?_
 simp only [argFr]
 repeat' (first| (refine wS ?_)| fail)
 refine kw_own 11 50 4 ?_
 refine aw_roundsP (ι := Nat × Int × List Cap × MS) 3 (fun i => runσ e i.2.2.2) (fun i n => [(0, .c (.ptr 0 0)), (1, i64 rule), (2, i64 part), (3, i64 i.2.1), (4, i64 (e.limD + 1 - d)), (10, .c (.ptr 2 0)), (11, .c (.ms (n + 0) i.2.2.1.length))]) (fun i n => [.arr 50 4 (i.2.2.1.map encCap)]) (fun i => (0 <= i.2.1 /\ i.2.1 <= e.input.size) /\ CapsOK i.2.2.1 /\ SOK e i.2.2.2 /\ e.limS - i.2.2.2.us < i.1 /\ starG (fun a s => evalD e d rule part a s) i.1 i.2.1 i.2.2.1 i.2.2.2 = .stop c s') (fun i => i.1) (n, a, [], s) 3 (fun _ => rfl) ⟨⟨a0, a1⟩, caps_nil, hs, hn, h⟩ (by omega) (by simp) rfl rfl (by simp [Fr.get]) ?_
 rintro ⟨k, a, f, s⟩ n g ⟨⟨a0, a1⟩, hf, hs, hn, h⟩ hg
 dsimp only at a0 a1 hf hs hn h hg ⊢
 have hg3 : 3 + g.length = n := by simp at hg; omega
 clear hg
 have hus := hs.us
 cases k with
 | zero => exfalso; omega
 | succ k =>
  simp only [starG] at h
  cases he : evalD e d rule part a s with
  | stop c1 s1 =>
   rw [he] at h
   injection h with q1 q2; subst q1; subst q2
   have hst := HP rule part a s c1 s1 r0 r1 p0 p1 a0 a1 hs he
   repeat' (first| (refine retP ?_)| (show lCall; refine k_callCXp 0 1 hst rfl rfl (by decide) rfl rfl (σ' := runσ e s1 ++ (g ++ [.arr 50 4 (f.map encCap)])) rfl ?_)| (refine wS ?_)| fail)
   exact ⟨rfl, _, rfl⟩
  | ok o1 s1 =>
   rw [he] at h
   dsimp only at h
   have hst := H rule part a s o1 s1 r0 r1 p0 p1 a0 a1 hs he
   obtain ⟨g1, g2, g3⟩ := evalD_ok hw d rule part a r0 r1 p0 p1 a0 a1 s o1 s1 hs he
   have hfl : f.length <= 1048576 := hf.1
   have hol : o1.forest.length <= 1048576 := g1.caps.1
   by_cases hk0 : o1.kind = 0
   ·rw [if_pos hk0, matchedR, if_neg (by show ¬ f.length > 1048576; omega)] at h
    cases h
   rw [if_neg hk0] at h
   by_cases hk2 : o1.kind = 2
   ·rw [if_pos hk2] at h
    cases h
   rw [if_neg hk2] at h
   split at h
   ·rename_i hgt
    have hgt : f.length + o1.forest.length > 1048576 := hgt
    injection h with q1 q2; subst q1; subst q2
    repeat' (first| (refine aw_F ?_ (hb := dF (by assumption)))| (refine aw_T ?_ (hb := eT))| (refine k_panic ?_)| (refine retP ?_)| (show lCall; refine k_callCX 0 1 hst rfl rfl (by decide) rfl rfl (σ' := runσ e s1 ++ (g ++ [.arr 50 4 (f.map encCap)])) rfl ?_)| (show lOp; refine op0 (by (show kMakeinterface; exact r_ifaceAgg (l := [lI 2]) rfl)) ?_)| (refine wS ?_)| fail)
    exact ⟨rfl, _, rfl⟩
   rename_i hle
   have hle : ¬ f.length + o1.forest.length > 1048576 := hle
   repeat' (first| (refine aw_F ?_ (hb := dF (by assumption)))| (refine aw_F ?_ (hb := eF))| (show lCall; first | refine k_callCX 0 1 hst rfl rfl (by decide) rfl rfl (σ' := runσ e s1 ++ (g ++ [.arr 50 4 (f.map encCap)])) rfl ?_ | refine k_appSl (f := encCap) ?_)| (refine wS ?_)| fail)
   exact ⟨(k, o1.fin, f ++ o1.forest, s1), n + 2, ⟨g1.fin, caps_append hf g1.caps (by show _ <= 1048576; omega), g2, by dsimp only; omega, h⟩, by omega, by simp; omega, rfl, dropGP hg3 (by simp) rfl, by simp [Fr.get], by dsimp only; omega⟩
theorem grow_p {e : Env} (hw : WF e) {d : Nat} (hd : (d : Int) <= e.limD) (H : StepC e d) (HP : StepP e d) {rule a c : Int} {s s' : MS} {n : Nat} (r0 : 0 <= rule) (r1 : rule < e.core.rules.length) (a0 : 0 <= a) (a1 : a <= e.input.size) (hs : SOK e s) (hfu : e.limS - s.us < n) (hn : seedOf (rule, a) s.seeds = none)
  (h : growG (fun s => evalD e d rule (lastOf e rule) a s) (rule, a) n { s with seeds := setS (rule, a) zeroO s.seeds } = .stop c s') :
  ACalls Tryz.prog 67 [.c (.ptr 0 0), i64 rule, i64 a, i64 (e.limD - d)] (msσ e s) (EvP e c s') := by
 have hl := hw.limD
 have hin := hw.input
 have hlk : (seedOf (rule, a) s.seeds).getD zeroO = zeroO := by rw [hn]; rfl
 have hbk : (seedOf (rule, a) s.seeds).isSome = false := by rw [hn]; rfl
 refine acalls_by Tryz.func67 Tryz.ntmps67 ?_
 simp only [argFr]
 repeat' (first| (show cAtD 2; refine aw_u [entGrow zeroO] [0,1,2,3,4,5,6,7,8,9,10] [11] Tryz_mixed ?_)| (show lMapUpdate; refine k_told 33 tells_zero (k_seedSet rule a zeroO ?_))| (show DU _ _ _ _ _ _ _ [] _ _; refine du_nil1 ?_)| (show DU _ _ _ _ _ _ _ _ _ _; first | refine du_app 0 (fun G => s_alloc) ?_ | refine du_set 0 (e := entGrow zeroO) (fun G id hid => t_store (hσ := rfl) (ho := hid)) ?_)| (show DU _ _ _ _ _ _ _ _ (Oper.mk (some _) _ _ _ _ none :: _) _; refine du_still (fun G => by first | (show kLookup; exact b_seedOk zeroO false hlk hbk) | exact rS) ?_)| (refine wS ?_)| fail)
 refine aw_roundsP (ι := Nat × MS) 5 (fun i => growσ e i.2 (rule, a)) (fun i n => [(0, .c (.ptr 0 0)), (1, i64 rule), (2, i64 a), (3, i64 (e.limD - d)), (8, .c (.ptr 2 0)), (9, .c (.ptr 3 0))]) (fun i n => []) (fun i => SOK e i.2 /\ e.limS - i.2.us < i.1 /\ growG (fun s => evalD e d rule (lastOf e rule) a s) (rule, a) i.1 i.2 = .stop c s') (fun i => i.1) (n, { s with seeds := setS (rule, a) zeroO s.seeds }) 5 (fun _ => rfl) ⟨hs.set _ (zero_ok e), hfu, h⟩ (by omega) (by simp) rfl rfl (by simp [Fr.get]) ?_
 rintro ⟨k, s⟩ n g ⟨hs, hfu, h⟩ hg
 dsimp only at hs hfu h hg ⊢
 have hg5 : 5 + g.length = n := by simp at hg; omega
 clear hg
 have hus := hs.us
 cases k with
 | zero => exfalso; omega
 | succ k =>
  simp only [growG] at h
  cases he : evalD e d rule (lastOf e rule) a s with
  | stop c1 s1 =>
   rw [he] at h
   injection h with q1 q2; subst q1; subst q2
   have hwh := whole_p hw hd HP r0 r1 a0 a1 hs he
   have hdep : e.limD + 1 - d = e.limD - d + 1 := by omega
   rw [hdep] at hwh
   repeat' (first| (refine retP ?_)| (show lCall; refine k_callCXp 0 1 hwh rfl rfl (by decide) rfl rfl (σ' := growσ e s1 (rule, a) ++ (g ++ [])) rfl ?_)| (refine wS ?_)| fail)
   exact ⟨rfl, _, rfl⟩
  | ok o1 s1 =>
   rw [he] at h
   dsimp only at h
   have hb := hw.body rule r0 r1
   obtain ⟨g1, g2, g3⟩ := evalD_ok hw d rule (lastOf e rule) a r0 r1 (by simp only [lastOf]; omega) (by simp only [lastOf]; omega) a0 a1 s o1 s1 hs he
   have hwh := whole_c hw hd H r0 r1 a0 a1 hs he
   have hdep : e.limD + 1 - d = e.limD - d + 1 := by omega
   rw [hdep] at hwh
   generalize hsd : (seedOf (rule, a) s1.seeds).getD zeroO = sd at h
   have hG := h
   clear h
   repeat' (first| (show cAtD 7; refine' aw_dt 7 6 (growσ e s1 (rule, a) ++ (g ++ [.cells (outC o1), .cells zeroC])) Tryz_mixed _)| (show lStore; first | refine k_store (l' := outC o1) ?_ | refine k_store (l' := outC sd) ?_)| (show lMapUpdate; refine k_seedSet rule a o1 ?_)| (show lCall; first | refine k_callCX 0 1 hwh rfl rfl (by decide) rfl rfl (σ' := growσ e s1 (rule, a) ++ (g ++ [])) rfl ?_ | refine k_seedDel rule a ?_)| (show tNil; refine dt_nil ?_)| (show tSome; first | refine dt_turn (by exact t_alloc) ?_ | (refine dt_pre2 (by first | (show kLookup; exact b_seedAt sd hsd) | exact rS) (by first | (show kLookup; exact b_seedAt sd hsd) | exact rS) ?_))| (show eRet; refine retC1 Tryz.results67 ?_)| (refine wS ?_)| (show lGu; refine al_splitD (fun h => ?_) (fun h => ?_))| (show cIf; refine aw_ifD (fun h => ?_) (fun h => ?_))| (exfalso; omega))
   all_goals first
    | (rw [if_pos ⟨by assumption, by first | exact .inl (by assumption) | exact .inr (by assumption)⟩] at hG
       exact ⟨(k, _), n + 2, ⟨g2.set _ g1, by dsimp only; omega, hG⟩, by omega, by simp; omega, rfl, dropGP hg5 (by simp) rfl, by simp [Fr.get], by dsimp only; omega⟩)
    | (exfalso
       rw [if_neg (by rintro ⟨q1, q2 | q2⟩ <;> first | omega | contradiction)] at hG
       split at hG <;> cases hG)
end Go.AL
namespace Go.AL
open Go.Proofs
attribute [local irreducible] AWp AList RStep seqQ blockQ retQ DSteps DT DU DM DZ DP awR rQ SStep
theorem matchedR_nil {fin c : Int} {s s' : MS} (h : matchedR fin [] s = .stop c s') : False := by
 unfold matchedR at h
 rw [if_neg (by simp)] at h
 cases h
theorem matchedR_le {fin c : Int} {f : List Cap} {s s' : MS} (hf : f.length <= maxS) (h : matchedR fin f s = .stop c s') : False := by
 unfold matchedR at h
 rw [if_neg (by omega)] at h
 cases h
theorem step_p {e : Env} (hw : WF e) {d : Nat} (hd : (d : Int) <= e.limD) (H : StepC e d) (HP : StepP e d) : StepP e (d + 1) := by
 intro rule node a s c s' r0 r1 n0 n1 a0 a1 hs h
 have hl := hw.limD
 have hls := hw.limS
 have hin := hw.input
 have hus := hs.us
 have hud := hs.ud
 have hnr := hw.nr
 have hpl := hw.parts
 have hb : 0 < (at' e.core.rules rule).body.length /\ (at' e.core.rules rule).body.length <= 16384 := hw.body rule r0 r1
 have hpp := hw.part rule r0 r1
 have n1' : node < (at' e.core.rules rule).body.length := n1
 have hdep : e.limD + 1 - ((d + 1 : Nat) : Int) = e.limD - d := by omega
 rw [hdep]
 simp only [evalD] at h
 split at h
 ·rename_i heq
  injection h with q1 q2; subst q1; subst q2
  refine acalls_by Tryz.func42 Tryz.ntmps42 ?_
  simp only [argFr]
  repeat' (first| (refine aw_F ?_ (hb := eF))| (refine aw_T ?_ (hb := decide_eq_true heq))| (refine k_panic ?_)| (refine retP ?_)| (show lAlloc; refine k_alloc ?_)| (show lOp; refine op0 (by first | (show kAssign; exact b_assign) | (show kMove; exact b_move) | (show kLoad; exact b_loadPtr) | (show kFieldaddr; exact b_fieldPtr) | (show kBinopGtr; exact b_gtr) | (show kNilcheck; exact b_nilPtr) | (show kMakeinterface; exact r_ifaceAgg (l := [lI 4]) rfl) | (show kBuild; exact b_buildSt)) ?_)| (show lNil; refine al_nil ?_)| (show qSeq; first | refine n_seq ?_ | refine q_seq ?_)| (show qBlk; refine q_block ?_)| (show cReg; refine aw_reg ?_)| (show cSeq; refine aw_seq ?_)| (show cBlk; refine aw_block ?_)| (show cRegD; refine aw_drN Tryz_mixed ?_)| (show dOp; refine ds_op (by first | (show kMove; exact b_move) | (show kLoad; exact b_loadPtr) | (show kFieldaddr; exact b_fieldPtr) | (show kBinopEql; exact b_eql) | (show kNilcheck; exact b_nilPtr)) ?_)| (show dNil; refine ds_nil ?_))
  exact ⟨rfl, _, rfl⟩
 rename_i hne
 have hrule := hw.rule rule node r0 r1 n0 n1
 have htwo := hw.two rule node r0 r1 n0 n1
 have hone := hw.one rule node r0 r1 n0 n1
 have H' : ∀ (rule node a : Int) (s : MS) (o : Out) (s' : MS), 0 <= rule -> rule < e.core.rules.length -> 0 <= node -> node < (bodyOf e rule).length -> 0 <= a -> a <= e.input.size -> SOK e s -> evalD e d rule node a s = .ok o s' ->
   ACalls Tryz.prog 42 [.c (.ptr 0 0), i64 rule, i64 node, i64 a, i64 (e.limD - d + 1)] (msσ e s) (EvR e o s') := fun rule node a s o s' q1 q2 q3 q4 q5 q6 q7 q8 => by
  have := H rule node a s o s' q1 q2 q3 q4 q5 q6 q7 q8
  rwa [show e.limD + 1 - d = e.limD - d + 1 by omega] at this
 have P' : ∀ (rule node a : Int) (s : MS) (c : Int) (s' : MS), 0 <= rule -> rule < e.core.rules.length -> 0 <= node -> node < (bodyOf e rule).length -> 0 <= a -> a <= e.input.size -> SOK e s -> evalD e d rule node a s = .stop c s' ->
   ACalls Tryz.prog 42 [.c (.ptr 0 0), i64 rule, i64 node, i64 a, i64 (e.limD - d + 1)] (msσ e s) (EvP e c s') := fun rule node a s c s' q1 q2 q3 q4 q5 q6 q7 q8 => by
  have := HP rule node a s c s' q1 q2 q3 q4 q5 q6 q7 q8
  rwa [show e.limD + 1 - d = e.limD - d + 1 by omega] at this
 refine acalls_by Tryz.func42 Tryz.ntmps42 ?_
 simp only [argFr]
 repeat' (first| (refine aw_F ?_ (hb := eF))| (show lAlloc; refine k_alloc ?_)| (show lStore; first | refine k_store (l' := runC e s.ud (s.us + 1) 1) ?_ | refine k_store (l' := runC e (max s.ud (e.limD - d)) (s.us + 1) 1) ?_ | refine k_store (l' := nodeC (at' (at' e.core.rules rule).body node)) ?_)| (show lOp; refine op0 (by first | (show kAssign; exact b_assign) | (show kMove; exact b_move) | (show kCall; exact b_max) | (show kLoad; first | exact b_loadRp | exact b_loadPtr) | (show kFieldaddr; first | exact b_fieldRp | exact b_fieldPtr) | (show kIndexaddr; exact m_indexSl) | (show kBinopAdd; exact b_add) | (show kBinopEql; exact b_eql) | (show kBinopGtr; exact b_gtr) | (show kNilcheck; exact b_nilPtr)) ?_)| (show lNil; refine al_nil ?_)| (show qSeq; refine n_seq ?_)| (show qBlk; refine n_block ?_)| (show cReg; refine aw_reg ?_)| (show cSeq; refine aw_seq ?_)| (show cBlk; refine aw_block ?_)| (show cSkip; refine aw_skip ?_)| (show cRegD; refine aw_drN Tryz_mixed ?_)| (show dOp; refine ds_op (by first | (show kAssign; exact b_assign) | (show kMove; exact b_move) | (show kLoad; first | exact b_loadRp | exact b_loadPtr) | (show kFieldaddr; exact b_fieldPtr) | (show kIndexaddr; first | exact m_indexSl | exact b_indexArrRp) | (show kBinopEql; exact b_eql) | (show kNilcheck; exact b_nilPtr)) ?_)| (show dNil; refine ds_nil ?_))
 refine kw_sub (σ := stepσ e (begun e d s) (at' (at' e.core.rules rule).body node)) [(0, .c (.ptr 0 0)), (1, i64 rule), (2, i64 node), (3, i64 a), (4, i64 (e.limD - d)), (10, .c (.ptr 2 0)), (11, .c (.ptr 3 0)), (12, i64 (at' (at' e.parts rule) node).1), (13, i64 (at' (at' e.parts rule) node).2), (97, i64 (at' (at' e.core.rules rule).body node).op), (98, bl (decide ((at' (at' e.core.rules rule).body node).op = 1)))] ?_ (by simp [Fr.get])
 simp only [bodyOf] at h hrule htwo hone
 clear hdep
 generalize at' (at' e.core.rules rule).body node = nd at h hrule htwo hone ⊢
 generalize at' (at' e.parts rule) node = pt at h htwo hone ⊢
 have hs1 : SOK e (begun e d s) := ⟨⟨by simp only [begun]; omega, by simp only [begun]; omega⟩, ⟨by simp only [begun]; omega, by simp only [begun]; omega⟩, hs.seeds⟩
 generalize begun e d s = s1 at h hs1 ⊢
 have hus1 := hs1.us
 unfold stepG at h
 by_cases p1 : nd.op = 1
 ·exfalso
  rw [if_pos p1] at h
  by_cases ha : a < e.input.size
  ·rw [if_pos ha] at h
   obtain ⟨b, hb⟩ : ∃ b, e.input[a.toNat]? = some b := ⟨_, getElem?_pos e.input a.toNat (by omega)⟩
   rw [hb] at h
   dsimp only at h
   by_cases hh : hasB nd.cl b = true
   ·rw [if_pos hh] at h
    exact matchedR_nil h
   ·rw [if_neg hh] at h
    cases h
  ·rw [if_neg ha] at h
   cases h
 rw [if_neg p1] at h
 by_cases p3 : nd.op = 3
 ·rw [if_pos p3] at h
  cases h
 rw [if_neg p3] at h
 by_cases p2 : nd.op = 2
 ·rw [if_pos p2] at h
  have hr := hrule p2
  have hhd := hw.heads
  have hbr := hw.body nd.rule hr.1 hr.2
  cases hh : at' e.heads nd.rule with
  | true =>
   rw [hh, if_pos rfl] at h
   cases hsd : seedOf (nd.rule, a) s1.seeds with
   | some o1 =>
    rw [hsd] at h
    cases h
   | none =>
    rw [hsd] at h
    dsimp only at h
    have hg := grow_p hw hd H HP hr.1 hr.2 a0 a1 hs1 (by omega) hsd h
    repeat' (first| (refine aw_T ?_ (hb := hh))| (refine aw_T ?_ (hb := dT (by assumption)))| (refine aw_F ?_ (hb := eF))| (refine retP ?_)| (show lCall; refine k_callCXp 0 1 hg rfl rfl (by decide) rfl rfl (σ' := stepσ e s' nd) rfl ?_)| (refine wS ?_)| fail)
    exact ⟨rfl, _, rfl⟩
  | false =>
   rw [hh, if_neg (by simp)] at h
   have hg := whole_p hw hd HP hr.1 hr.2 a0 a1 hs1 h
   rw [show e.limD + 1 - d = e.limD - d + 1 by omega] at hg
   repeat' (first| (refine aw_F ?_ (hb := hh))| (refine aw_T ?_ (hb := dT (by assumption)))| (refine aw_F ?_ (hb := eF))| (refine retP ?_)| (show lCall; refine k_callCXp 0 1 hg rfl rfl (by decide) rfl rfl (σ' := stepσ e s' nd) rfl ?_)| (refine wS ?_)| fail)
   exact ⟨rfl, _, rfl⟩
 rw [if_neg p2] at h
 by_cases p4 : nd.op = 4
 ·rw [if_pos p4] at h
  obtain ⟨hp, hq⟩ := htwo (.inl p4)
  cases he : evalD e d rule pt.1 a s1 with
  | stop c1 s2 =>
   rw [he] at h
   injection h with q1 q2; subst q1; subst q2
   have hst := P' rule pt.1 a s1 c1 s2 r0 r1 hp.1 hp.2 a0 a1 hs1 he
   repeat' (first| (refine aw_T ?_ (hb := dT (by assumption)))| (refine aw_F ?_ (hb := eF))| (refine retP ?_)| (show lCall; refine k_callCXp 0 1 hst rfl rfl (by decide) rfl rfl (σ' := stepσ e s2 nd) rfl ?_)| (refine wS ?_)| fail)
   exact ⟨rfl, _, rfl⟩
  | ok o1 s2 =>
  rw [he] at h
  dsimp only at h
  have hst := H' rule pt.1 a s1 o1 s2 r0 r1 hp.1 hp.2 a0 a1 hs1 he
  obtain ⟨g1, g2, g3⟩ := evalD_ok hw d rule pt.1 a r0 r1 hp.1 hp.2 a0 a1 s1 o1 s2 hs1 he
  have hol : o1.forest.length <= 1048576 := g1.caps.1
  by_cases k1 : o1.kind = 1
  ·rw [if_neg (by simpa using k1)] at h
   cases he2 : evalD e d rule pt.2 o1.fin s2 with
   | stop c1 s3 =>
    rw [he2] at h
    injection h with q1 q2; subst q1; subst q2
    have hst2 := P' rule pt.2 o1.fin s2 c1 s3 r0 r1 hq.1 hq.2 g1.fin.1 g1.fin.2 g2 he2
    repeat' (first| (refine aw_T ?_ (hb := dT (by assumption)))| (refine aw_F ?_ (hb := eF))| (refine retP ?_)| (show lStore; refine k_store (l' := outC o1) ?_)| (show lCall; first | refine k_callCX 0 1 hst rfl rfl (by decide) rfl rfl (σ' := stepσ e s2 nd) rfl ?_ | refine k_callCXp 0 1 hst2 rfl rfl (by decide) rfl rfl (σ' := stepσ e s3 nd ++ [.cells (outC o1)]) rfl ?_)| (refine wS ?_)| fail)
    exact ⟨rfl, _, rfl⟩
   | ok o2 s3 =>
   rw [he2] at h
   dsimp only at h
   have hst2 := H' rule pt.2 o1.fin s2 o2 s3 r0 r1 hq.1 hq.2 g1.fin.1 g1.fin.2 g2 he2
   obtain ⟨g4, g5, g6⟩ := evalD_ok hw d rule pt.2 o1.fin r0 r1 hq.1 hq.2 g1.fin.1 g1.fin.2 s2 o2 s3 g2 he2
   have hol2 : o2.forest.length <= 1048576 := g4.caps.1
   by_cases k2 : o2.kind = 1
   ·rw [if_neg (by simpa using k2)] at h
    split at h
    ·rename_i hgt
     injection h with q1 q2; subst q1; subst q2
     have hj := joined_p o1.forest o2.forest hgt (by omega)
     repeat' (first| (refine aw_T ?_ (hb := dT (by assumption)))| (refine aw_F ?_ (hb := eF))| (show cAtD 27; refine aw_p 7 (stopP 2) Tryz_mixed ?_ ?_)| (refine retP ?_)| (show lStore; first | refine k_store (l' := outC o1) ?_ | refine k_store (l' := outC o2) ?_)| (show lCall; first | refine k_callCX 0 1 hst rfl rfl (by decide) rfl rfl (σ' := stepσ e s2 nd) rfl ?_ | refine k_callCX 0 1 hst2 rfl rfl (by decide) rfl rfl (σ' := stepσ e s3 nd ++ [.cells (outC o1)]) rfl ?_)| (show DP _ _ _ _ _ _ _ [] _; exact dp_nil 182 rfl)| (show DP _ _ _ _ _ _ _ (Oper.mk (some 182) _ _ _ _ none :: _) _; refine dp_pan (p_call hj) ?_)| (show DP _ _ _ _ _ _ _ (Oper.mk (some _) _ _ _ _ none :: _) _; refine dp_op (by exact rS) ?_)| (refine wS ?_)| fail)
     exact ⟨rfl, _, rfl⟩
    rename_i hle
    exact (matchedR_le (by rw [List.length_append]; omega) h).elim
   ·rw [if_pos k2] at h
    cases h
  ·rw [if_pos k1] at h
   cases h
 rw [if_neg p4] at h
 by_cases p5 : nd.op = 5
 ·rw [if_pos p5] at h
  obtain ⟨hp, hq⟩ := htwo (.inr p5)
  cases he : evalD e d rule pt.1 a s1 with
  | stop c1 s2 =>
   rw [he] at h
   injection h with q1 q2; subst q1; subst q2
   have hst := P' rule pt.1 a s1 c1 s2 r0 r1 hp.1 hp.2 a0 a1 hs1 he
   repeat' (first| (refine aw_T ?_ (hb := dT (by assumption)))| (refine aw_F ?_ (hb := eF))| (refine retP ?_)| (show lCall; refine k_callCXp 0 1 hst rfl rfl (by decide) rfl rfl (σ' := stepσ e s2 nd) rfl ?_)| (refine wS ?_)| fail)
   exact ⟨rfl, _, rfl⟩
  | ok o1 s2 =>
  rw [he] at h
  dsimp only at h
  have hst := H' rule pt.1 a s1 o1 s2 r0 r1 hp.1 hp.2 a0 a1 hs1 he
  obtain ⟨g1, g2, g3⟩ := evalD_ok hw d rule pt.1 a r0 r1 hp.1 hp.2 a0 a1 s1 o1 s2 hs1 he
  have hol : o1.forest.length <= 1048576 := g1.caps.1
  by_cases k1 : o1.kind = 0
  ·rw [if_neg (by simpa using k1)] at h
   have hst2 := P' rule pt.2 a s2 c s' r0 r1 hq.1 hq.2 a0 a1 g2 h
   repeat' (first| (refine aw_T ?_ (hb := dT (by assumption)))| (refine aw_F ?_ (hb := eF))| (refine retP ?_)| (show lStore; refine k_store (l' := outC o1) ?_)| (show lCall; first | refine k_callCX 0 1 hst rfl rfl (by decide) rfl rfl (σ' := stepσ e s2 nd) rfl ?_ | refine k_callCXp 0 1 hst2 rfl rfl (by decide) rfl rfl (σ' := stepσ e s' nd ++ [.cells (outC o1)]) rfl ?_)| (refine wS ?_)| fail)
   exact ⟨rfl, _, rfl⟩
  ·rw [if_pos k1] at h
   cases h
 rw [if_neg p5] at h
 by_cases p6 : nd.op = 6
 ·rw [if_pos p6] at h
  have hp := hone (.inl p6)
  have hst := star_p hw hd H HP r0 r1 hp.1 hp.2 a0 a1 hs1 (by omega) h
  rw [show e.limD + 1 - d = e.limD - d + 1 by omega] at hst
  repeat' (first| (refine aw_T ?_ (hb := dT (by assumption)))| (refine aw_F ?_ (hb := eF))| (refine retP ?_)| (show lCall; refine k_callCXp 0 1 hst rfl rfl (by decide) rfl rfl (σ' := stepσ e s' nd) rfl ?_)| (refine wS ?_)| fail)
  exact ⟨rfl, _, rfl⟩
 rw [if_neg p6] at h
 by_cases p7 : nd.op = 7
 ·rw [if_pos p7] at h
  have hp := hone (.inr (.inl p7))
  cases he : evalD e d rule pt.1 a s1 with
  | stop c1 s2 =>
   rw [he] at h
   injection h with q1 q2; subst q1; subst q2
   have hst := P' rule pt.1 a s1 c1 s2 r0 r1 hp.1 hp.2 a0 a1 hs1 he
   repeat' (first| (refine aw_T ?_ (hb := dT (by assumption)))| (refine aw_F ?_ (hb := eF))| (refine retP ?_)| (show lCall; refine k_callCXp 0 1 hst rfl rfl (by decide) rfl rfl (σ' := stepσ e s2 nd) rfl ?_)| (refine wS ?_)| fail)
   exact ⟨rfl, _, rfl⟩
  | ok o1 s2 =>
  exfalso
  rw [he] at h
  dsimp only at h
  split at h
  ·cases h
  ·exact matchedR_nil h
 rw [if_neg p7] at h
 by_cases p8 : nd.op = 8
 ·rw [if_pos p8] at h
  have hp := hone (.inr (.inr p8))
  cases he : evalD e d rule pt.1 a s1 with
  | stop c1 s2 =>
   rw [he] at h
   injection h with q1 q2; subst q1; subst q2
   have hst := P' rule pt.1 a s1 c1 s2 r0 r1 hp.1 hp.2 a0 a1 hs1 he
   repeat' (first| (refine aw_T ?_ (hb := dT (by assumption)))| (refine aw_F ?_ (hb := eF))| (refine retP ?_)| (show lCall; refine k_callCXp 0 1 hst rfl rfl (by decide) rfl rfl (σ' := stepσ e s2 nd) rfl ?_)| (refine wS ?_)| fail)
   exact ⟨rfl, _, rfl⟩
  | ok o1 s2 =>
  rw [he] at h
  dsimp only at h
  have hst := H' rule pt.1 a s1 o1 s2 r0 r1 hp.1 hp.2 a0 a1 hs1 he
  obtain ⟨g1, g2, g3⟩ := evalD_ok hw d rule pt.1 a r0 r1 hp.1 hp.2 a0 a1 s1 o1 s2 hs1 he
  have hol : o1.forest.length <= 1048576 := g1.caps.1
  by_cases k1 : o1.kind = 1
  ·rw [if_neg (by simpa using k1)] at h
   split at h
   ·rename_i hgt
    injection h with q1 q2; subst q1; subst q2
    have ht := trees_c o1.forest g1.caps
    have hj := joined_p [⟨nd.name, a, o1.fin, trees o1.forest 0 0⟩] o1.forest (by simp only [List.length_cons, List.length_nil]; omega) (by simp only [List.length_cons, List.length_nil]; omega)
    repeat' (first| (refine aw_T ?_ (hb := dT (by assumption)))| (refine aw_F ?_ (hb := eF))| (show cAtD 43; refine aw_p 15 (stopP 2) Tryz_mixed ?_ ?_)| (refine retP ?_)| (show lStore; refine k_store (l' := outC o1) ?_)| (show lCall; refine k_callCX 0 1 hst rfl rfl (by decide) rfl rfl (σ' := stepσ e s2 nd) rfl ?_)| (show DP _ _ _ _ _ _ _ [] _; exact dp_nil 254 rfl)| (show DP _ _ _ _ _ _ _ (Oper.mk (some 254) _ _ _ _ none :: _) _; refine dp_pan (p_call hj) ?_)| (show DP _ _ _ _ _ _ _ (Oper.mk (some _) _ _ _ _ none :: _) _; refine dp_op (by first | (show kCall; exact b_call (ht)) | exact rS) ?_)| (refine wS ?_)| fail)
    exact ⟨rfl, _, rfl⟩
   rename_i hle
   exact (matchedR_le (by simp only [List.length_cons]; omega) h).elim
  ·rw [if_pos k1] at h
   cases h
 rw [if_neg p8] at h
 exact (matchedR_nil h).elim
/-- A step that may not lie in the others. -/
theorem step_0 {e : Env} (hw : WF e) : StepP e 0 := by
 intro rule node a s c s' r0 r1 n0 n1 a0 a1 hs h
 simp only [evalD] at h
 injection h with q1 q2; subst q1; subst q2
 have hl := hw.limD
 have hls := hw.limS
 refine acalls_by Tryz.func42 Tryz.ntmps42 ?_
 simp only [argFr]
 repeat' (first| (refine aw_T ?_ (hb := eT))| (refine k_panic ?_)| (refine retP ?_)| (show lAlloc; refine k_alloc ?_)| (show lOp; refine op0 (by first | (show kAssign; exact b_assign) | (show kMove; exact b_move) | (show kLoad; exact b_loadPtr) | (show kFieldaddr; exact b_fieldPtr) | (show kBinopGtr; exact b_gtr) | (show kNilcheck; exact b_nilPtr) | (show kMakeinterface; exact r_ifaceAgg (l := [lI 3]) rfl) | (show kBuild; exact b_buildSt)) ?_)| (show lNil; refine al_nil ?_)| (show qSeq; first | refine n_seq ?_ | refine q_seq ?_)| (show qBlk; refine q_block ?_)| (show cReg; refine aw_reg ?_)| (show cSeq; refine aw_seq ?_)| (show cBlk; refine aw_block ?_))
 exact ⟨rfl, _, rfl⟩
theorem stop_all {e : Env} (hw : WF e) : ∀ d : Nat, (d : Int) <= e.limD + 1 -> StepP e d
 | 0, _ => step_0 hw
 | d + 1, hd => step_p hw (by omega) (step_all hw d (by omega)) (stop_all hw d (by omega))
end Go.AL
namespace Go.AL
open Go.Proofs
attribute [local irreducible] AWp AList RStep seqQ blockQ retQ DSteps DT DU DM DZ DP awR rQ SStep letterB digitB preB nameOk anyB rightL checkI
theorem def16_pan {σ : List AObj} {ix ir im io iu ie : Nat} {L : List C} {l : List ((Int × Int) × Out)} (c : Int) (hx : σ[ix]? = some (.cells [.ptr ir 0])) (hr : σ[ir]? = some (.cells L)) (hL : L[9]? = some (.mpr im)) (hm : σ[im]? = some (.ext (seedsX l)))
  (ho : σ[io]? = some (.cells zeroC)) (hu : σ[iu]? = some (.cells [.p (lI 0), .p (lI 0)])) (he : σ[ie]? = some (.cells [.p (lI 0)])) (ho' : im ≠ io) (hu' : im ≠ iu) (he' : im ≠ ie) :
  ADCalls Tryz.prog 21 [.c (.ptr ix 0), .c (.ptr io 0), .c (.ptr iu 0), .c (.ptr ie 0)] σ (uPan (stopP c)) (fun u' σ'' => settle u' = .returning /\ ∃ g, σ'' = (σ.set im (.ext (seedsX []))).set ie (.cells [.p (lI c)]) ++ g) := by
 refine adcalls_rec (n := 21) (z := stopP c) (R := fun σ'' => ∃ g, σ'' = (σ.set im (.ext (seedsX []))).set ie (.cells [.p (lI c)]) ++ g) Tryz.func21 rfl rfl Tryz.ntmps21 Tryz.results21 (by simp) rfl (.inr rfl) ?_
 simp only [argFr]
 have hld : loaded false 1 (L.drop 9) = some (.c (.mpr im)) := by
  have : L.drop 9 = .mpr im :: L.drop 10 := by
   have hlt := (List.getElem?_eq_some_iff.1 hL).1
   rw [List.drop_eq_getElem_cons hlt]
   congr 1
   exact Option.some.inj ((List.getElem?_eq_getElem hlt).symm.trans hL)
  rw [this]; rfl
 generalize hσ1 : σ.set im (.ext (seedsX [])) = σ1
 have h1o : (σ1 ++ [AObj.cells [.p (lI c)]])[io]? = some (.cells zeroC) := getL (by rw [<- hσ1, List.getElem?_set_ne ho']; exact ho)
 have h1u : (σ1 ++ [AObj.cells [.p (lI c)]])[iu]? = some (.cells [.p (lI 0), .p (lI 0)]) := getL (by rw [<- hσ1, List.getElem?_set_ne hu']; exact hu)
 have h1e0 : σ1[ie]? = some (.cells [.p (lI 0)]) := by rw [<- hσ1, List.getElem?_set_ne he']; exact he
 have h1e : (σ1 ++ [AObj.cells [.p (lI c)]])[ie]? = some (.cells [.p (lI 0)]) := getL h1e0
 have hlen : σ1.length + 0 = σ1.length := rfl
 have hst : (σ1 ++ [AObj.cells [.p (lI c)]]).set ie (.cells [.p (lI c)]) = σ1.set ie (.cells [.p (lI c)]) ++ [AObj.cells [.p (lI c)]] := List.set_append_left _ _ (List.getElem?_eq_some_iff.1 h1e0).1
 have hs0 : (σ1 ++ [AObj.cells (zC (Value.agg #[Value.int IntKind.i64 0]))])[σ1.length]? = some (.cells (zC (Value.agg #[Value.int IntKind.i64 0]))) := by simp
 have hs1 : (σ1 ++ [AObj.cells (zC (Value.agg #[Value.int IntKind.i64 0]))]).set σ1.length (.cells [.p (lI c)]) = σ1 ++ [AObj.cells [.p (lI c)]] := by simp
 have hs2 : (σ1 ++ [AObj.cells [.p (lI c)]])[σ1.length]? = some (.cells [.p (lI c)]) := by simp
 repeat' (first| (refine ds_opN (b_storeSame (ho := h1o)) ?_)| (refine ds_opN (b_storeSame (ho := h1u)) ?_)| (show lStore; first | refine k_store (id := σ1.length) (l' := [.p (lI c)]) (ho := hs0) (hσ := hs1) ?_ | refine k_store (l' := [.p (lI c)]) (ho := h1e) (hσ := hst) ?_)| (show lCall; refine k_mapClear (enc := encII) Tryz.underlying75 hm hσ1 ?_)| (show lOp; refine op0 (by first | (show kLoad; first | exact b_loadPtr (ho := hx) | exact b_loadPtr (ho := hr) (hl := hld)) | (show kBinopEql; exact b_ifaceNe (by kernel_rfl)) | (show RStep _ _ _ (Oper.mk _ (.typeAssert _ _ _ _) _ _ _ _) _; exact b_tassert Tryz.underlying82)) ?_)| (show cRegD; refine aw_dr 6 Tryz_mixed ?_)| (show dOp; refine ds_op (by (show kLoad; exact b_loadPtr (ho := hs2))) ?_)| (refine wS ?_)| fail)
 exact leftQ_normal ⟨_, rfl⟩
theorem run_p (c : Core) (I : Int -> List Info) (hs : List Bool) (input : ByteArray) (D S : Int) (h : RunIn c I hs input D S) (code : Int) (s' : MS)
  (hev : evalD (envM c hs input D S) (clampI D 32768).toNat c.start (lastOf (envM c hs input D S) c.start) 0 ⟨0, 0, []⟩ = .stop code s') :
  ACalls Tryz.prog 8 [coreV c, strA input, .agg [.p (lI D), .p (lI S)]] [] (fun q _ => q = .ret (.tup [zeroOV, usedV 0 0, i64 code])) := by
 have hD : 0 <= clampI D 32768 := by unfold clampI; omega
 have hnr : 0 < c.rules.length /\ c.rules.length <= 256 := h.wf.nr
 have hin : input.size <= 65536 := h.wf.input
 refine acalls_body Tryz.func8 rfl Tryz.ntmps8 (by simp) fun K => ?_
 simp only [argFr]
 repeat' (first| (refine awr_seq ?_)| (refine aw_F ?_ (hb := dF (show ¬(0 : Int) ≠ 0 by omega)))| (show lOp; refine op0 (by (show kCall; exact b_call (h.heads))) ?_)| (refine wS ?_)| fail)
 refine aw_roundsP (ι := Nat) 5 (fun _ => pre7 c D S) (fun i n => fr7 c hs input ++ [(32, .c (.p (rulesP c.rules))), (33, i64 c.rules.length), (34, i64 i)]) (fun _ _ => []) (fun i => i <= c.rules.length) (fun i => c.rules.length - i) 0 5 (fun _ => rfl) (by simp) (by omega) (by simp) rfl rfl (by simp [Fr.get]) ?_
 intro i n g h1 hg
 have hg5 : 5 + g.length = n := by simp at hg; omega
 clear hg
 by_cases hi : i < c.rules.length
 ·have hfa := h.facts i hi
  have hwb : 0 < (at' c.rules (i : Int)).body.length /\ (at' c.rules (i : Int)).body.length <= 16384 := h.wf.body i (by omega) (by show (i : Int) < c.rules.length; omega)
  repeat' (first| (refine aw_T ?_ (hb := eT))| (show lOp; refine op0 (by (show kCall; exact b_call (hfa))) ?_)| (refine wS ?_)| fail)
  refine aw_roundsP (ι := Nat) 5 (fun _ => pre7 c D S) (fun k n => fr7 c hs input ++ [(10, i64 i), (11, .c (.p (infosP (I i)))), (32, .c (.p (rulesP c.rules))), (33, i64 c.rules.length), (34, i64 i), (48, .c (.p (bodyP (at' c.rules (i : Int)).body))), (49, i64 (at' c.rules (i : Int)).body.length), (50, i64 k)]) (fun _ _ => []) (fun k => k <= (at' c.rules (i : Int)).body.length) (fun k => (at' c.rules (i : Int)).body.length - k) 0 n (fun _ => rfl) (by simp) (by omega) (by simp; omega) rfl (dropGP (p := 5) (j := 0) hg5 rfl rfl) (by simp [Fr.get]) ?_
  clear hg5
  intro k n g k1 hg
  have hg5 : 5 + g.length = n := by simp at hg; omega
  clear hg
  by_cases hk : k < (at' c.rules (i : Int)).body.length
  ·by_cases p6 : (at' (at' c.rules (i : Int)).body (k : Int)).op = 6
   ·obtain ⟨q1, q2, q3⟩ := h.star i k hi hk p6
    repeat' (first| (refine aw_T ?_ (hb := eT))| (refine aw_F ?_ (hb := q3))| (refine al_yes ?_ (hb := decide_eq_true p6))| (refine wS ?_)| fail)
    exact ⟨k + 1, n + 1, by omega, by omega, by simp; omega, rfl, dropGP (p := 5) (j := 1) hg5 rfl rfl, by simp [Fr.get], by omega⟩
   ·repeat' (first| (refine aw_T ?_ (hb := eT))| (refine aw_F ?_ (hb := rfl))| (refine wS ?_)| fail)
    exact ⟨k + 1, n + 1, by omega, by omega, by simp; omega, rfl, dropGP (p := 5) (j := 1) hg5 rfl rfl, by simp [Fr.get], by omega⟩
  ·repeat' (first| (refine aw_F ?_ (hb := eF))| (refine wS ?_)| fail)
   exact ⟨i + 1, n, by omega, by omega, by simp; omega, rfl, dropGP (p := 5) (j := 0) hg5 rfl rfl, by simp [Fr.get], by omega⟩
 ·have : i = c.rules.length := by omega
  subst this
  repeat' (first| (refine aw_F ?_ (hb := eF))| (refine awr_seq ?_)| (show lMakeMap; refine k_makeMap encII ?_)| (refine wS ?_)| fail)
  have hps : (partsM c).length = c.rules.length := by simp [partsM]
  have hown : ((pre7 c D S ++ (g ++ [AObj.ext (MapX encII []), AObj.cells (runK c hs input D S (.p (.lit (.slice none 0 0))) (n + 0)), AObj.cells [C.ptr (n + 1) 0]])) ++ [AObj.arr 29 1 []]).set (n + 1) (.cells ((runK c hs input D S (.p (.lit (.slice none 0 0))) (n + 0)).set 2 (.ms (n + 3) 0))) = (pre7 c D S ++ (g ++ [AObj.ext (MapX encII []), AObj.cells (runK c hs input D S (.ms (n + 3) 0) (n + 0)), AObj.cells [C.ptr (n + 1) 0]])) ++ [AObj.arr 29 1 []] := by
   rw [List.set_append_left _ _ (by simp; omega), setGP (p := 5) hg5 rfl rfl]; rfl
  refine kw_ownC (n + 1) 2 29 1 (n := n + 3) (getGP (p := 5) hg5 rfl rfl) rfl (lenGP (p := 5) hg5 rfl rfl) hown ?_
  refine aw_roundsN (ι := Nat) (n + 3) (fun i n' => pre7 c D S ++ (g ++ [AObj.ext (MapX encII []), AObj.cells (runK c hs input D S (.ms (n' + 0) i) (n + 0)), AObj.cells [C.ptr (n + 1) 0]])) (fun i n' => fr7 c hs input ++ [(15, .c (.ptr (n + 2) 0)), (98, .c (.p (rulesP c.rules))), (99, i64 c.rules.length), (100, i64 i)]) (fun i n' => [.arr 29 1 (((partsM c).take i).map encQs)]) (fun i => i <= c.rules.length) (fun i => c.rules.length - i) 0 (n + 3) (fun i n' => by simp; omega) (by simp) (by omega) (by simp; omega) (by rw [List.take_append_of_le_length (by simp; omega), List.take_of_length_le (by simp; omega)] <;> rfl) (by rw [List.drop_append_of_le_length (by simp; omega), List.drop_of_length_le (by simp; omega)] <;> rfl) (by simp [Fr.get]) ?_
  have hA : (pre7 c D S ++ g).length = n := by simp; omega
  intro i n2 g2 k1 hg2
  have hB : ((pre7 c D S ++ (g ++ [AObj.ext (MapX encII []), AObj.cells (runK c hs input D S (.ms (n2 + 0) i) (n + 0)), AObj.cells [C.ptr (n + 1) 0]])) ++ g2).length = n2 := by simp; omega
  by_cases hi2 : i < c.rules.length
  ·have hwb : 0 < (at' c.rules (i : Int)).body.length /\ (at' c.rules (i : Int)).body.length <= 16384 := h.wf.body i (by omega) (by show (i : Int) < c.rules.length; omega)
   have hpm : at' (partsM c) (i : Int) = (List.range (at' c.rules (i : Int)).body.length).map fun (q : Nat) => partsI (at' c.rules (i : Int)).body (q : Int) := by
    simp [partsM, at', List.getD_eq_getElem?_getD, hi2]
   have hptk : (partsM c).take i ++ [at' (partsM c) (i : Int)] = (partsM c).take (i + 1) := by
    rw [List.take_add_one, at'_getElem? (by omega)]; rfl
   have hti : i <= ((partsM c).take i).length := by rw [List.length_take]; omega
   repeat' (first| (refine aw_T ?_ (hb := eT))| (show lStore; refine k_store (l' := (encRule (at' c.rules (i : Int))).map .p) ?_)| (show lMakeSlice; refine k_makeM (f := encP2) ((0 : Int), (0 : Int)) ?_)| (refine wS ?_)| fail)
   refine aw_roundsN (ι := Nat × List (Int × Int)) (n + 3) (fun j n' => preR c hs input D S g n (.ms (n' + 0) i)) (fun j n' => fr7 c hs input ++ [(15, .c (.ptr (n + 2) 0)), (17, .c (.ptr (n' + 1) 0)), (18, .c (.ms (n' + 2) (at' c.rules (i : Int)).body.length)), (98, .c (.p (rulesP c.rules))), (99, i64 c.rules.length), (100, i64 i), (110, i64 (at' c.rules (i : Int)).body.length), (111, i64 j.1)]) (fun j n' => [.arr 29 1 (((partsM c).take i).map encQs), .cells ((encRule (at' c.rules (i : Int))).map .p), .arr 65 2 (j.2.map encP2)]) (fun j => j.1 <= (at' c.rules (i : Int)).body.length /\ j.2.length = (at' c.rules (i : Int)).body.length /\ ∀ q : Nat, q < j.1 -> at' j.2 (q : Int) = partsI (at' c.rules (i : Int)).body (q : Int)) (fun j => (at' c.rules (i : Int)).body.length - j.1) (0, List.replicate (at' c.rules (i : Int)).body.length (0, 0)) n2 (fun i n' => by simp; omega) ⟨by simp, by simp, by simp⟩ (by omega) (by simp; omega) (by rw [List.take_append_of_le_length (by simp; omega), List.take_of_length_le (by simp; omega)] <;> rfl) (dropG (j := 0) hB rfl) (by simp [Fr.get]) ?_
   clear hB hg2
   rintro ⟨k, l⟩ n2 g2 ⟨q1, q2, q3⟩ hg2
   dsimp only at q1 q2 q3 ⊢
   have hB : (preR c hs input D S g n (.ms (n2 + 0) i) ++ g2).length = n2 := by simp; omega
   by_cases hk : k < (at' c.rules (i : Int)).body.length
   ·have hpc := parts_c (at' c.rules (i : Int)).body (k : Int) (by omega) (by omega)
    have hat1 : at' (l.set k ((partsI (at' c.rules (i : Int)).body (k : Int)).1, (at' l (k : Int)).2)) (k : Int) = ((partsI (at' c.rules (i : Int)).body (k : Int)).1, (at' l (k : Int)).2) := at'_set_self (by omega)
    repeat' (first| (refine aw_T ?_ (hb := eT))| (show cAtD 27; refine' aw_dt 15 13 (preR c hs input D S g n (.ms (n2 + 0) i) ++ (g2 ++ [AObj.arr 29 1 (((partsM c).take i).map encQs), AObj.cells ((encRule (at' c.rules (i : Int))).map .p), AObj.arr 65 2 ((l.set k ((partsI (at' c.rules (i : Int)).body (k : Int)).1, (at' l (k : Int)).2)).map encP2)])) Tryz_mixed _)| (show lStore; refine k_storePart (i := k) (f := encP2) ((at' (l.set k ((partsI (at' c.rules (i : Int)).body (k : Int)).1, (at' l (k : Int)).2)) (k : Int)).1, (partsI (at' c.rules (i : Int)).body (k : Int)).2) ?_)| (show tNil; refine dt_nil ?_)| (show tNone; refine dt_turnN (by exact t_storePart (i := k) (f := encP2) ((partsI (at' c.rules (i : Int)).body (k : Int)).1, (at' l (k : Int)).2)) ?_)| (show tSome; first | (refine dt_pre (by first | (show kCall; exact b_call (hpc)) | exact rS) (by decide +kernel) ?_) | refine dt_pre2 (by exact rS) (by exact rS) ?_ | refine dt_post2 (by exact rS) (by exact rS) ?_)| (refine wS ?_)| fail)
    refine ⟨(k + 1, (l.set k ((partsI (at' c.rules (i : Int)).body (k : Int)).1, (at' l (k : Int)).2)).set k ((at' (l.set k ((partsI (at' c.rules (i : Int)).body (k : Int)).1, (at' l (k : Int)).2)) (k : Int)).1, (partsI (at' c.rules (i : Int)).body (k : Int)).2)), n2, ⟨by dsimp only; omega, by simp [q2], fun q hq => ?_⟩, by omega, by simp; omega, by rw [List.take_append_of_le_length (by simp; omega), List.take_of_length_le (by simp; omega)] <;> rfl, dropG (j := 0) hB rfl, by simp [Fr.get], by dsimp only; omega⟩
    dsimp only at hq ⊢
    by_cases hqk : k = q
    ·subst hqk
     rw [at'_set_self (by simp; omega), hat1]
    ·rw [at'_set_ne hqk, at'_set_ne hqk]
     exact q3 q (by omega)
   ·have : k = (at' c.rules (i : Int)).body.length := by omega
    subst this
    have hl : l = at' (partsM c) (i : Int) := by
     rw [hpm]
     refine ext_at' (by simp [q2]) (fun q hq => ?_)
     rw [q3 q (by omega), at'_rangeMap _ (by omega)]
    have hlB : l.take (at' c.rules (i : Int)).body.length = l := List.take_of_length_le (by omega)
    have hst : (preR c hs input D S g n (.ms (n2 + 0) i) ++ (g2 ++ [AObj.dead, AObj.cells ((encRule (at' c.rules (i : Int))).map .p), AObj.dead, AObj.arr 29 1 ((((partsM c).take i).take i ++ [l.take (at' c.rules (i : Int)).body.length]).map encQs)])).set (n + 1) (.cells (runK c hs input D S (.ms (n2 + 3) (i + 1)) (n + 0))) = preR c hs input D S g n (.ms (n2 + 3) (i + 1)) ++ (g2 ++ [AObj.dead, AObj.cells ((encRule (at' c.rules (i : Int))).map .p), AObj.dead, AObj.arr 29 1 ((((partsM c).take i).take i ++ [l.take (at' c.rules (i : Int)).body.length]).map encQs)]) := by
     rw [List.set_append_left _ _ (by simp; omega), setGP (p := 5) hg5 rfl rfl]; rfl
    have hB2 : (preR c hs input D S g n (.ms (n2 + 3) (i + 1)) ++ g2).length = n2 := by simp; omega
    repeat' (first| (refine aw_F ?_ (hb := eF))| (show cAtD 29; refine kw_freezeM (f := encP2) 18 ?_)| (show cAtD 29; refine' aw_dt 8 7 (preR c hs input D S g n (.ms (n2 + 0) i) ++ (g2 ++ [AObj.dead, AObj.cells ((encRule (at' c.rules (i : Int))).map .p), AObj.dead, AObj.arr 29 1 ((((partsM c).take i).take i ++ [l.take (at' c.rules (i : Int)).body.length]).map encQs)])) Tryz_mixed _)| (show lStore; refine k_store (l' := runK c hs input D S (.ms (n2 + 3) (i + 1)) (n + 0)) ?_ (hσ := hst))| (show tNil; refine dt_nil ?_)| (show tSome; first | refine dt_turn (by exact t_app1 (f := encQs) (l.take (at' c.rules (i : Int)).body.length) (hn := hti)) ?_ | refine dt_pre (by exact rS) (by decide +kernel) ?_ | refine dt_pre2 (by exact rS) (by exact rS) ?_)| (refine wS ?_)| fail)
    exact ⟨i + 1, n2 + 3, by omega, by omega, by simp; omega, by rw [List.take_append_of_le_length (by simp; omega), List.take_of_length_le (by simp; omega)] <;> rfl, dropG (j := 3) hB2 (by rw [hlB, hl, List.take_take, Nat.min_self, hptk]; rfl), by simp [Fr.get], by omega⟩
  ·have : i = c.rules.length := by omega
   subst this
   repeat' (first| (refine aw_F ?_ (hb := eF))| (refine wS ?_)| fail)
   have hptk : (partsM c).take c.rules.length = partsM c := List.take_of_length_le (by omega)
   have hn4 : c.rules.length <= (((partsM c).take c.rules.length).map encQs).length := by rw [List.length_map, hptk]; omega
   have hL4 : (runK c hs input D S (.ms (n2 + 0) c.rules.length) (n + 0)).set 2 (.p (.sl 1 ((((partsM c).take c.rules.length).map encQs).take c.rules.length))) = runK c hs input D S (.p (partsP (partsM c))) (n + 0) := by
    rw [hptk, List.take_of_length_le (by rw [List.length_map]; omega)]; rfl
   have hf4 : ((preR c hs input D S g n (.ms (n2 + 0) c.rules.length) ++ (g2 ++ [AObj.arr 29 1 (((partsM c).take c.rules.length).map encQs)])).set (n2 + 0) .dead).set (n + 1) (.cells (runK c hs input D S (.p (partsP (partsM c))) (n + 0))) = preR c hs input D S g n (.p (partsP (partsM c))) ++ (g2 ++ [AObj.dead]) := by
    rw [setG hB rfl, List.set_append_left _ _ (by simp; omega), setGP (p := 5) hg5 rfl rfl]; rfl
   refine awr_freezeIn (n2 + 0) (n + 1) 2 (getG hB rfl) (getL (getGP (p := 5) hg5 rfl rfl)) rfl hn4 hL4 hf4 ?_
   refine awr_defer (l := [(n + 2, 0), (2, 0), (3, 0), (4, 0)]) (fun vs => ?_)
   have hdN : (((clampI D 32768).toNat : Nat) : Int) = clampI D 32768 := by omega
   have hwh := whole_p h.wf (d := (clampI D 32768).toNat) (show (((clampI D 32768).toNat : Nat) : Int) <= clampI D 32768 by omega) (stop_all h.wf _ (show (((clampI D 32768).toNat : Nat) : Int) <= clampI D 32768 + 1 by omega)) (rule := c.start) (a := 0) (s := ⟨0, 0, []⟩) (s' := s') (c := code) h.start.1 h.start.2 (by omega) (by omega) ⟨⟨Int.le_refl 0, h.wf.limS.1⟩, ⟨Int.le_refl 0, by decide⟩, fun p hp => by cases hp⟩ hev
   rw [show (envM c hs input D S).limD + 1 - (((clampI D 32768).toNat : Nat) : Int) = 1 by show clampI D 32768 + 1 - _ = 1; omega] at hwh
   have hcs : ((preR c hs input D S g n (.p (partsP (partsM c))) ++ (g2 ++ [AObj.dead])).set (n + 1) (.cells ((runC (envM c hs input D S) s'.ud s'.us 1).map (renC (ren2 [(n + 1, 0), (n, 0)] (preR c hs input D S g n (.p (partsP (partsM c))) ++ (g2 ++ [AObj.dead])).length))))).set n (.ext (seedsX s'.seeds)) = (pre7 c D S ++ (g ++ [AObj.ext (seedsX s'.seeds), AObj.cells (runC (envM c hs input D S) s'.ud s'.us n), AObj.cells [C.ptr (n + 1) 0]])) ++ (g2 ++ [AObj.dead]) := by
    rw [List.set_append_left _ _ (by simp; omega), setGP (p := 5) hg5 rfl rfl, List.set_append_left _ _ (by simp; omega), show n = n + 0 from rfl, setGP (p := 5) hg5 rfl rfl]; rfl
   repeat' (first| (show lCall; refine k_callCXp (n + 1) n hwh (getL (getGP (p := 5) hg5 rfl rfl)) (getL (getGP (p := 5) (j := 0) hg5 rfl rfl)) (by omega) rfl rfl hcs ?_)| (refine wS ?_)| fail)
   have hx : ((pre7 c D S ++ (g ++ [AObj.ext (seedsX s'.seeds), AObj.cells (runC (envM c hs input D S) s'.ud s'.us n), AObj.cells [C.ptr (n + 1) 0]])) ++ (g2 ++ [AObj.dead]))[n + 2]? = some (.cells [.ptr (n + 1) 0]) := getL (getGP (p := 5) hg5 rfl rfl)
   have hr : ((pre7 c D S ++ (g ++ [AObj.ext (seedsX s'.seeds), AObj.cells (runC (envM c hs input D S) s'.ud s'.us n), AObj.cells [C.ptr (n + 1) 0]])) ++ (g2 ++ [AObj.dead]))[n + 1]? = some (.cells (runC (envM c hs input D S) s'.ud s'.us n)) := getL (getGP (p := 5) hg5 rfl rfl)
   have hm : ((pre7 c D S ++ (g ++ [AObj.ext (seedsX s'.seeds), AObj.cells (runC (envM c hs input D S) s'.ud s'.us n), AObj.cells [C.ptr (n + 1) 0]])) ++ (g2 ++ [AObj.dead]))[n]? = some (.ext (seedsX s'.seeds)) := getL (getGP (p := 5) (j := 0) hg5 rfl rfl)
   refine (def16_pan (σ := (pre7 c D S ++ (g ++ [AObj.ext (seedsX s'.seeds), AObj.cells (runC (envM c hs input D S) s'.ud s'.us n), AObj.cells [C.ptr (n + 1) 0]])) ++ (g2 ++ [AObj.dead])) (io := 2) (iu := 3) (ie := 4) code hx hr rfl hm rfl rfl rfl (by omega) (by omega) (by omega)).mono fun u' σ'' hh => ?_
   obtain ⟨hu, gq, rfl⟩ := hh
   refine ⟨hu, [zeroOV, usedV 0 0, i64 code], ?_, rfl⟩
   exact res_c3 (ia := 2) (ib := 3) (ic := 4) (la := zeroC) (lb := [C.p (lI 0), C.p (lI 0)]) (lc := [C.p (lI code)]) Tryz.results8 rfl rfl rfl (by rw [List.getElem?_append_left (by simp), List.getElem?_set_ne (by omega), List.getElem?_set_ne (by omega)]; rfl) (by rw [List.getElem?_append_left (by simp), List.getElem?_set_ne (by omega), List.getElem?_set_ne (by omega)]; rfl) (by rw [List.getElem?_append_left (by simp)]; rw [List.getElem?_set_self (by simp)]) rfl rfl rfl
end Go.AL
namespace Go.AL
open Go.Proofs
attribute [local irreducible] AWp AList RStep seqQ blockQ retQ DSteps DT DU DM DZ awR rQ SStep letterB digitB preB nameOk anyB rightL checkI
/-- What Run asks of its grammar before it looks at the stars and the input. -/
structure RunF (c : Core) (I : Int -> List Info) (hs : List Bool) : Prop where
 heads : ACalls Tryz.prog 18 [coreV c] [] (fun q _ => q = .ret (.tup [.c (.p (headsP hs)), i64 0]))
 facts : ∀ r : Nat, r < c.rules.length -> ACalls Tryz.prog 19 [coreV c, i64 r] [] (fun q _ => q = .ret (.tup [.c (.p (infosP (I r))), i64 0]))
 star : ∀ r k : Nat, r < c.rules.length -> k < (at' c.rules (r : Int)).body.length -> (at' (at' c.rules (r : Int)).body (k : Int)).op = 6 -> 1 <= k /\ k <= (I r).length
 nr : 0 < c.rules.length /\ c.rules.length <= 256
 body : ∀ r : Int, 0 <= r -> r < c.rules.length -> 0 < (at' c.rules r).body.length /\ (at' c.rules r).body.length <= 16384
/-- A star whose part may match nothing. -/
def BadStar (c : Core) (I : Int -> List Info) (r k : Nat) : Prop := k < (at' c.rules (r : Int)).body.length /\ (at' (at' c.rules (r : Int)).body (k : Int)).op = 6 /\ (at' (I r) ((k : Int) - 1)).may.f1 = true
theorem run_long (c : Core) (I : Int -> List Info) (hs : List Bool) (input : ByteArray) (D S : Int) (h : RunF c I hs) (hb : ∀ r k, r < c.rules.length -> ¬BadStar c I r k) (hin : 65536 < input.size) :
  ACalls Tryz.prog 8 [coreV c, strA input, .agg [.p (lI D), .p (lI S)]] [] (fun q _ => q = .ret (.tup [zeroOV, usedV 0 0, i64 1])) := by
 have hnr := h.nr
 refine acalls_body Tryz.func8 rfl Tryz.ntmps8 (by simp) fun K => ?_
 simp only [argFr]
 repeat' (first| (refine awr_seq ?_)| (refine aw_F ?_ (hb := dF (show ¬(0 : Int) ≠ 0 by omega)))| (show lOp; refine op0 (by (show kCall; exact b_call (h.heads))) ?_)| (refine wS ?_)| fail)
 refine aw_roundsP (ι := Nat) 5 (fun _ => pre7 c D S) (fun i n => fr7 c hs input ++ [(32, .c (.p (rulesP c.rules))), (33, i64 c.rules.length), (34, i64 i)]) (fun _ _ => []) (fun i => i <= c.rules.length) (fun i => c.rules.length - i) 0 5 (fun _ => rfl) (by simp) (by omega) (by simp) rfl rfl (by simp [Fr.get]) ?_
 intro i n g h1 hg
 have hg5 : 5 + g.length = n := by simp at hg; omega
 clear hg
 by_cases hi : i < c.rules.length
 ·have hfa := h.facts i hi
  have hwb : 0 < (at' c.rules (i : Int)).body.length /\ (at' c.rules (i : Int)).body.length <= 16384 := h.body i (by omega) (by omega)
  repeat' (first| (refine aw_T ?_ (hb := eT))| (show lOp; refine op0 (by (show kCall; exact b_call (hfa))) ?_)| (refine wS ?_)| fail)
  refine aw_roundsP (ι := Nat) 5 (fun _ => pre7 c D S) (fun k n => fr7 c hs input ++ [(10, i64 i), (11, .c (.p (infosP (I i)))), (32, .c (.p (rulesP c.rules))), (33, i64 c.rules.length), (34, i64 i), (48, .c (.p (bodyP (at' c.rules (i : Int)).body))), (49, i64 (at' c.rules (i : Int)).body.length), (50, i64 k)]) (fun _ _ => []) (fun k => k <= (at' c.rules (i : Int)).body.length) (fun k => (at' c.rules (i : Int)).body.length - k) 0 n (fun _ => rfl) (by simp) (by omega) (by simp; omega) rfl (dropGP (p := 5) (j := 0) hg5 rfl rfl) (by simp [Fr.get]) ?_
  clear hg5
  intro k n g k1 hg
  have hg5 : 5 + g.length = n := by simp at hg; omega
  clear hg
  by_cases hk : k < (at' c.rules (i : Int)).body.length
  ·by_cases p6 : (at' (at' c.rules (i : Int)).body (k : Int)).op = 6
   ·obtain ⟨q1, q2⟩ := h.star i k hi hk p6
    have q3 : (at' (I i) ((k : Int) - 1)).may.f1 = false := by
     cases q : (at' (I i) ((k : Int) - 1)).may.f1 with
     | false => rfl
     | true => exact absurd ⟨hk, p6, q⟩ (hb i k hi)
    repeat' (first| (refine aw_T ?_ (hb := eT))| (refine aw_F ?_ (hb := q3))| (refine al_yes ?_ (hb := decide_eq_true p6))| (refine wS ?_)| fail)
    exact ⟨k + 1, n + 1, by omega, by omega, by simp; omega, rfl, dropGP (p := 5) (j := 1) hg5 rfl rfl, by simp [Fr.get], by omega⟩
   ·repeat' (first| (refine aw_T ?_ (hb := eT))| (refine aw_F ?_ (hb := rfl))| (refine wS ?_)| fail)
    exact ⟨k + 1, n + 1, by omega, by omega, by simp; omega, rfl, dropGP (p := 5) (j := 1) hg5 rfl rfl, by simp [Fr.get], by omega⟩
  ·repeat' (first| (refine aw_F ?_ (hb := eF))| (refine wS ?_)| fail)
   exact ⟨i + 1, n, by omega, by omega, by simp; omega, rfl, dropGP (p := 5) (j := 0) hg5 rfl rfl, by simp [Fr.get], by omega⟩
 ·have : i = c.rules.length := by omega
  subst this
  repeat' (first| (refine aw_F ?_ (hb := eF))| (refine awr_seq ?_)| (refine aw_T ?_ (hb := eT))| (show cRegD; refine aw_dr 4 Tryz_mixed ?_)| (show DSteps _ _ _ _ _ _ (Oper.mk none _ _ _ _ none :: _) _; refine ds_opN b_storeSame ?_)| (refine wS ?_)| fail)
  refine er_c3 Tryz.results8 ?_
  rfl
end Go.AL
namespace Go.AL
open Go.Proofs
section
variable {α : Type} [Inhabited α] [DecidableEq α]
theorem sum_set (ht : α -> Nat) : ∀ (l : List α) (k : Nat) (v : α), k < l.length -> ((l.set k v).map ht).sum + ht (at' l (k : Int)) = (l.map ht).sum + ht v
 | a :: l, 0, v, _ => by simp [at']; omega
 | a :: l, k + 1, v, h => by
  have := sum_set ht l k v (by simpa using h)
  have e : at' (a :: l) ((k + 1 : Nat) : Int) = at' l (k : Int) := by simp [at']
  rw [e]
  simp only [List.set_cons_succ, List.map_cons, List.sum_cons]
  omega
theorem at'_set_at {l : List α} {k : Nat} {v : α} (h : k < l.length) : at' (l.set k v) (k : Int) = v := at'_set_self h
def Under (n : Nat) (le : α -> α -> Prop) (nx : List α -> Int -> α) (l : List α) : Prop := l.length = n /\ ∀ k : Nat, k < n -> le (at' l (k : Int)) (nx l (k : Int))
/-- What is told of an order in which a table grows. -/
structure Grows (n : Nat) (le : α -> α -> Prop) (ht : α -> Nat) (nx : List α -> Int -> α) : Prop where
 trans : ∀ a b c, le a b -> le b c -> le a c
 lt : ∀ a b, le a b -> b ≠ a -> ht b < ht a
 mono : ∀ (l : List α) (j k : Nat) (v : α), Under n le nx l -> j < n -> k < n -> le (at' l (j : Int)) v -> le (nx l (k : Int)) (nx (l.set j v) (k : Int))
variable {n : Nat} {le : α -> α -> Prop} {ht : α -> Nat} {nx : List α -> Int -> α}
theorem Under.set (g : Grows n le ht nx) {l : List α} (h : Under n le nx l) {k : Nat} (hk : k < n) : Under n le nx (l.set k (nx l (k : Int))) := by
 refine ⟨by simp [h.1], fun j hj => ?_⟩
 have hm := g.mono l k j (nx l (k : Int)) h hk hj (h.2 k hk)
 by_cases hjk : k = j
 ·subst hjk
  rw [at'_set_at (by rw [h.1]; exact hk)]
  exact hm
 ·rw [at'_set_ne hjk]
  exact g.trans _ _ _ (h.2 j hj) hm
theorem pass_ends (g : Grows n le ht nx) : ∀ (m k : Nat) (l : List α) (ch : Bool), k + m = n -> Under n le nx l ->
  Under n le nx (passF nx m k l ch).1 /\ ((passF nx m k l ch).1.map ht).sum <= (l.map ht).sum /\ ((passF nx m k l ch).2 = true -> ch = true \/ ((passF nx m k l ch).1.map ht).sum < (l.map ht).sum)
 | 0, k, l, ch, _, h => ⟨h, Nat.le_refl _, fun h => .inl h⟩
 | m + 1, k, l, ch, hk, h => by
  have hkn : k < n := by omega
  unfold passF
  by_cases hc : nx l (k : Int) ≠ at' l (k : Int)
  ·rw [if_pos hc]
   obtain ⟨i1, i2, _⟩ := pass_ends g m (k + 1) (l.set k (nx l (k : Int))) true (by omega) (h.set g hkn)
   have hs := sum_set ht l k (nx l (k : Int)) (by rw [h.1]; exact hkn)
   have hl := g.lt _ _ (h.2 k hkn) hc
   exact ⟨i1, by omega, fun _ => .inr (by omega)⟩
  ·rw [if_neg hc]
   exact pass_ends g m (k + 1) l ch (by omega) h
/-- The fixpoint is reached. -/
theorem fix_ends (g : Grows n le ht nx) : ∀ (f : Nat) (l : List α), Under n le nx l -> (l.map ht).sum < f -> ∃ out, fixF nx f l = some out /\ Under n le nx out
 | 0, l, _, h => absurd h (by omega)
 | f + 1, l, hu, h => by
  obtain ⟨i1, i2, i3⟩ := pass_ends g l.length 0 l false (by rw [hu.1]; omega) hu
  unfold fixF
  cases hc : (passF nx l.length 0 l false).2 with
  | true =>
   rw [if_pos rfl]
   have := (i3 hc).resolve_left (by simp)
   exact fix_ends g f _ i1 (by omega)
  | false =>
   rw [if_neg (by simp)]
   exact ⟨_, rfl, i1⟩
end
end Go.AL
namespace Go.AL
open Go.Proofs
def leM (a b : May) : Prop := (a.f0 = true -> b.f0 = true) /\ (a.f1 = true -> b.f1 = true) /\ (a.f2 = true -> b.f2 = true) /\ (a.f3 = true -> b.f3 = true)
def htM (a : May) : Nat := (if a.f0 then 0 else 1) + (if a.f1 then 0 else 1) + (if a.f2 then 0 else 1) + (if a.f3 then 0 else 1)
theorem leM_refl (a : May) : leM a a := ⟨id, id, id, id⟩
theorem leM_trans (a b c : May) (h : leM a b) (g : leM b c) : leM a c := ⟨g.1 ∘ h.1, g.2.1 ∘ h.2.1, g.2.2.1 ∘ h.2.2.1, g.2.2.2 ∘ h.2.2.2⟩
theorem leM_lt (a b : May) (h : leM a b) (hne : b ≠ a) : htM b < htM a := by
 obtain ⟨a0, a1, a2, a3⟩ := a
 obtain ⟨b0, b1, b2, b3⟩ := b
 obtain ⟨h0, h1, h2, h3⟩ := h
 revert h0 h1 h2 h3 hne
 cases a0 <;> cases a1 <;> cases a2 <;> cases a3 <;> cases b0 <;> cases b1 <;> cases b2 <;> cases b3 <;> simp [htM]
theorem ff {P : Prop} (h : false = true) : P := by cases h
theorem leM_no (a : May) : leM noMay a := ⟨ff, ff, ff, ff⟩
theorem goes_mono {a b : May} (h : leM a b) : goesM a = true -> goesM b = true := by
 obtain ⟨h0, h1, h2, h3⟩ := h
 unfold goesM
 simp only [Bool.or_eq_true]
 rintro (h | h)
 ·first | exact .inl (h1 h) | exact .inl (h2 h)
 ·first | exact .inr (h2 h) | exact .inr (h1 h)
theorem or_mono {a b c d : Bool} (h : a = true -> c = true) (g : b = true -> d = true) : (a || b) = true -> (c || d) = true := by
 cases a <;> cases b <;> simp_all
theorem and_mono {a b c d : Bool} (h : a = true -> c = true) (g : b = true -> d = true) : (a && b) = true -> (c && d) = true := by
 cases a <;> cases b <;> simp_all
theorem come_mono {nd : Node} {l l' r r' : May} {rs rs' : List May} (hl : leM l l') (hr : leM r r') (hq : leM (at' rs nd.rule) (at' rs' nd.rule)) : leM (comeM nd l r rs) (comeM nd l' r' rs') := by
 unfold comeM
 have hg := goes_mono hl
 have hg' := goes_mono hr
 split
 ·exact leM_refl _
 split
 ·exact leM_refl _
 split
 ·exact hq
 split
 ·exact leM_refl _
 split
 ·exact ⟨or_mono hl.1 (and_mono hg hr.1), and_mono hl.2.1 hr.2.1, or_mono (and_mono hl.2.2.1 hg') (and_mono hl.2.1 hr.2.2.1), or_mono hl.2.2.2 (and_mono hg hr.2.2.2)⟩
 split
 ·exact ⟨and_mono hl.1 hr.1, or_mono hl.2.1 (and_mono hl.1 hr.2.1), or_mono hl.2.2.1 (and_mono hl.1 hr.2.2.1), or_mono hl.2.2.2 (and_mono hl.1 hr.2.2.2)⟩
 split
 ·exact ⟨ff, hl.1, and_mono hl.2.2.1 hl.1, hl.2.2.2⟩
 split
 ·exact ⟨hg, or_mono hl.1 hl.2.2.2, ff, ff⟩
 ·exact hl
def leLM (l l' : List May) : Prop := l.length = l'.length /\ ∀ k : Nat, leM (at' l (k : Int)) (at' l' (k : Int))
theorem at'_out {α : Type} [Inhabited α] {l : List α} {k : Nat} (h : ¬k < l.length) : at' l (k : Int) = default := by
 simp [at', List.getD_eq_getElem?_getD, List.getElem?_eq_none (Nat.le_of_not_lt h)]
theorem leLM_set {l l' : List May} (h : leLM l l') {k : Nat} {v v' : May} (hv : leM v v') : leLM (l.set k v) (l'.set k v') := by
 refine ⟨by simp [h.1], fun j => ?_⟩
 by_cases hjk : k = j
 ·subst hjk
  by_cases hk : k < l.length
  ·rw [at'_set_self hk, at'_set_self (by rw [<- h.1]; exact hk)]; exact hv
  ·rw [at'_out (by simpa using hk), at'_out (by rw [List.length_set, <- h.1]; exact hk)]; exact leM_refl _
 ·rw [at'_set_ne hjk, at'_set_ne hjk]; exact h.2 j
theorem atM_mono {l l' : List May} (h : leLM l l') (i : Int) : leM (atM l i) (atM l' i) := by
 unfold atM
 split
 ·exact leM_refl _
 ·have : i = (i.toNat : Int) := by omega
  rw [this]; exact h.2 _
theorem bodyF_mono {b : List Node} {ps : List (Int × Int)} {rs rs' : List May} (hq : ∀ r : Int, leM (at' rs r) (at' rs' r)) : ∀ (f k : Nat) (l l' : List May), leLM l l' -> leLM (bodyF b ps rs f k l) (bodyF b ps rs' f k l')
 | 0, _, _, _, h => h
 | f + 1, k, l, l', h => bodyF_mono hq f (k + 1) _ _ (leLM_set h (come_mono (atM_mono h _) (atM_mono h _) (hq _)))
theorem bodyM_mono {b : List Node} {ps : List (Int × Int)} {rs rs' : List May} (hq : ∀ r : Int, leM (at' rs r) (at' rs' r)) : leLM (bodyM b ps rs) (bodyM b ps rs') := bodyF_mono hq _ _ _ _ ⟨rfl, fun _ => leM_refl _⟩
theorem at'_nat {α : Type} [Inhabited α] (l : List α) (r : Int) : at' l r = at' l (r.toNat : Int) := by unfold at'; rw [Int.toNat_natCast]
theorem sum_rep (n k : Nat) : (List.replicate n k).sum = n * k := by
 induction n with
 | zero => simp
 | succ n ih => rw [List.replicate_succ, List.sum_cons, ih, Nat.succ_mul, Nat.add_comm]
/-- The first fixpoint ends. -/
theorem comes_ends (c : Core) (ps : List (List (Int × Int))) : ∃ rs, fixF (lastM c ps) (4 * c.rules.length + 1) (List.replicate c.rules.length noMay) = some rs := by
 have g : Grows c.rules.length leM htM (lastM c ps) := by
  refine ⟨leM_trans, leM_lt, fun l j k v hl hj hk hv => ?_⟩
  have hl := hl.1
  unfold lastM
  have hq : ∀ r : Int, leM (at' l r) (at' (l.set j v) r) := fun r => by
   have e : at' l r = at' l (r.toNat : Int) := at'_nat _ _
   have e' : at' (l.set j v) r = at' (l.set j v) (r.toNat : Int) := at'_nat _ _
   rw [e, e']
   by_cases hjr : j = r.toNat
   ·subst hjr
    rw [at'_set_self (by omega)]; exact hv
   ·rw [at'_set_ne hjr]; exact leM_refl _
  have := (bodyM_mono (b := (at' c.rules (k : Int)).body) (ps := at' ps (k : Int)) hq)
  have h2 := this.2 (((at' c.rules (k : Int)).body.length : Int) - 1).toNat
  have e : ∀ m : List May, at' m (((at' c.rules (k : Int)).body.length : Int) - 1) = at' m ((((at' c.rules (k : Int)).body.length : Int) - 1).toNat : Int) := fun m => at'_nat _ _
  rw [e, e]; exact h2
 obtain ⟨out, h, _⟩ := fix_ends g (4 * c.rules.length + 1) (List.replicate c.rules.length noMay) ⟨by simp, fun k hk => by
  have : at' (List.replicate c.rules.length noMay) (k : Int) = noMay := by simp [at', hk]
  rw [this]; exact leM_no _⟩ (by
  rw [List.map_replicate, sum_rep]
  show c.rules.length * 4 < _
  omega)
 exact ⟨out, h⟩
end Go.AL
namespace Go.AL
open Go.Proofs
theorem wrap_u64t {n : Int} (h0 : 0 <= n) (h1 : n < 18446744073709551616) : IntKind.u64.wrap n = n := by
 simp only [IntKind.wrap, IntKind.bits, IntKind.signed]
 have e : (2 : Int) ^ 64 = 18446744073709551616 := by decide
 simp only [e, Bool.false_and]
 rw [if_neg (by simp)]
 omega
def bv (x : Int) : BitVec 64 := BitVec.ofInt 64 x
def okW (x : Int) : Prop := 0 <= x /\ x < 18446744073709551616
theorem bv_toNat {x : Int} (h : okW x) : ((bv x).toNat : Int) = x := by
 unfold bv
 rw [BitVec.toNat_ofInt]
 have := h.1
 have := h.2
 have e : ((2 ^ 64 : Nat) : Int) = 18446744073709551616 := by decide
 rw [e, Int.toNat_of_nonneg (by omega)]
 omega
theorem bits_or (x y : Int) : okW (bits .or .u64 x y) /\ bv (bits .or .u64 x y) = bv x ||| bv y := by
 have hlt : (bv x ||| bv y).toNat < 18446744073709551616 := (bv x ||| bv y).isLt
 have hw : IntKind.u64.wrap (((bv x ||| bv y).toNat : Nat) : Int) = (((bv x ||| bv y).toNat : Nat) : Int) := wrap_u64t (by omega) (by omega)
 have e : bits .or .u64 x y = ((bv x ||| bv y).toNat : Int) := hw
 rw [e]
 refine ⟨⟨by omega, by omega⟩, ?_⟩
 have h2 : (((bv x ||| bv y).toNat : Int)) = (((bv x ||| bv y).toNat : Nat) : Int) := rfl
 unfold bv at *
 rw [BitVec.ofInt_natCast, BitVec.ofNat_toNat, BitVec.setWidth_eq]
def sub (a b : BitVec 64) : Prop := a ||| b = b
theorem sub_refl (a : BitVec 64) : sub a a := BitVec.or_self
theorem sub_trans {a b c : BitVec 64} (h : sub a b) (g : sub b c) : sub a c := by
 unfold sub at *
 rw [<- g, <- BitVec.or_assoc, h]
theorem sub_or {a b a' b' : BitVec 64} (h : sub a a') (g : sub b b') : sub (a ||| b) (a' ||| b') := by
 unfold sub at *
 rw [show (a ||| b) ||| (a' ||| b') = (a ||| a') ||| (b ||| b') by ac_rfl, h, g]
theorem sub_left {a b a' : BitVec 64} (h : sub a a') : sub a (a' ||| b) := by
 unfold sub at *
 rw [<- BitVec.or_assoc, h]
theorem sub_le {a b : BitVec 64} (h : sub a b) : a.toNat <= b.toNat := by
 unfold sub at h
 rw [<- h, BitVec.toNat_or]
 exact Nat.left_le_or
theorem sub_zero (b : BitVec 64) : sub (bv 0) b := by
 unfold sub bv
 simp
def okC' (c : Cls) : Prop := okW c.c0 /\ okW c.c1 /\ okW c.c2 /\ okW c.c3
def leC (a b : Cls) : Prop := okC' a /\ okC' b /\ sub (bv a.c0) (bv b.c0) /\ sub (bv a.c1) (bv b.c1) /\ sub (bv a.c2) (bv b.c2) /\ sub (bv a.c3) (bv b.c3)
def htC (c : Cls) : Nat := (18446744073709551616 - c.c0).toNat + (18446744073709551616 - c.c1).toNat + (18446744073709551616 - c.c2).toNat + (18446744073709551616 - c.c3).toNat
theorem leC_refl {a : Cls} (h : okC' a) : leC a a := ⟨h, h, sub_refl _, sub_refl _, sub_refl _, sub_refl _⟩
theorem leC_trans (a b c : Cls) (h : leC a b) (g : leC b c) : leC a c := ⟨h.1, g.2.1, sub_trans h.2.2.1 g.2.2.1, sub_trans h.2.2.2.1 g.2.2.2.1, sub_trans h.2.2.2.2.1 g.2.2.2.2.1, sub_trans h.2.2.2.2.2 g.2.2.2.2.2⟩
theorem le_word {x y : Int} (hx : okW x) (hy : okW y) (h : sub (bv x) (bv y)) : x <= y := by
 have := sub_le h
 rw [<- bv_toNat hx, <- bv_toNat hy]
 omega
theorem leC_lt (a b : Cls) (h : leC a b) (hne : b ≠ a) : htC b < htC a := by
 obtain ⟨⟨p0, p1, p2, p3⟩, ⟨q0, q1, q2, q3⟩, h0, h1, h2, h3⟩ := h
 have l0 := le_word p0 q0 h0
 have l1 := le_word p1 q1 h1
 have l2 := le_word p2 q2 h2
 have l3 := le_word p3 q3 h3
 obtain ⟨a0, a1, a2, a3⟩ := a
 obtain ⟨b0, b1, b2, b3⟩ := b
 have hne' : ¬(b0 = a0 /\ b1 = a1 /\ b2 = a2 /\ b3 = a3) := by
  rintro ⟨rfl, rfl, rfl, rfl⟩
  exact hne rfl
 simp only [okW] at p0 p1 p2 p3 q0 q1 q2 q3 l0 l1 l2 l3
 simp only [htC]
 omega
theorem okW0 : okW 0 := ⟨by omega, by omega⟩
theorem okC0 : okC' ⟨0, 0, 0, 0⟩ := ⟨okW0, okW0, okW0, okW0⟩
theorem leC_no {a : Cls} (h : okC' a) : leC ⟨0, 0, 0, 0⟩ a := ⟨okC0, h, sub_zero _, sub_zero _, sub_zero _, sub_zero _⟩
theorem union_ok (a b : Cls) : okC' (unionC a b) := ⟨(bits_or _ _).1, (bits_or _ _).1, (bits_or _ _).1, (bits_or _ _).1⟩
theorem union_mono {a a' b b' : Cls} (h : leC a a') (g : leC b b') : leC (unionC a b) (unionC a' b') := by
 refine ⟨union_ok _ _, union_ok _ _, ?_, ?_, ?_, ?_⟩
 ·show sub (bv (bits .or .u64 _ _)) (bv (bits .or .u64 _ _))
  rw [(bits_or _ _).2, (bits_or _ _).2]; exact sub_or h.2.2.1 g.2.2.1
 ·show sub (bv (bits .or .u64 _ _)) (bv (bits .or .u64 _ _))
  rw [(bits_or _ _).2, (bits_or _ _).2]; exact sub_or h.2.2.2.1 g.2.2.2.1
 ·show sub (bv (bits .or .u64 _ _)) (bv (bits .or .u64 _ _))
  rw [(bits_or _ _).2, (bits_or _ _).2]; exact sub_or h.2.2.2.2.1 g.2.2.2.2.1
 ·show sub (bv (bits .or .u64 _ _)) (bv (bits .or .u64 _ _))
  rw [(bits_or _ _).2, (bits_or _ _).2]; exact sub_or h.2.2.2.2.2 g.2.2.2.2.2
theorem first_mono {nd : Node} {l l' r r' : Cls} {m : May} {rs rs' : List Cls} (hc : okC' nd.cl) (hl : leC l l') (hr : leC r r') (hq : leC (at' rs nd.rule) (at' rs' nd.rule)) : leC (firstM nd l r m rs) (firstM nd l' r' m rs') := by
 unfold firstM
 split
 ·exact leC_refl hc
 split
 ·exact hq
 split
 ·split
  ·exact union_mono hl hr
  ·exact hl
 split
 ·split
  ·exact union_mono hl hr
  ·exact hl
 split
 ·exact hl
 ·exact leC_refl okC0
def leLC (l l' : List Cls) : Prop := l.length = l'.length /\ ∀ k : Nat, leC (at' l (k : Int)) (at' l' (k : Int))
theorem leLC_set {l l' : List Cls} (h : leLC l l') {k : Nat} {v v' : Cls} (hv : leC v v') : leLC (l.set k v) (l'.set k v') := by
 refine ⟨by simp [h.1], fun j => ?_⟩
 by_cases hjk : k = j
 ·subst hjk
  by_cases hk : k < l.length
  ·rw [at'_set_self hk, at'_set_self (by rw [<- h.1]; exact hk)]; exact hv
  ·rw [at'_out (by simpa using hk), at'_out (by rw [List.length_set, <- h.1]; exact hk)]; exact leC_refl okC0
 ·rw [at'_set_ne hjk, at'_set_ne hjk]; exact h.2 j
theorem atC_mono {l l' : List Cls} (h : leLC l l') (i : Int) : leC (atC l i) (atC l' i) := by
 unfold atC
 split
 ·exact leC_refl okC0
 ·rw [at'_nat l, at'_nat l']; exact h.2 _
theorem bytesF_mono {b : List Node} {ps : List (Int × Int)} {ms : List May} {rs rs' : List Cls} (hb : ∀ k : Nat, okC' (at' b (k : Int)).cl) (hq : ∀ r : Int, leC (at' rs r) (at' rs' r)) : ∀ (f k : Nat) (l l' : List Cls), leLC l l' -> leLC (bytesF b ps ms rs f k l) (bytesF b ps ms rs' f k l')
 | 0, _, _, _, h => h
 | f + 1, k, l, l', h => bytesF_mono hb hq f (k + 1) _ _ (leLC_set h (first_mono (hb k) (atC_mono h _) (atC_mono h _) (hq _)))
theorem rep_at (n : Nat) (k : Nat) : at' (List.replicate n (⟨0, 0, 0, 0⟩ : Cls)) (k : Int) = ⟨0, 0, 0, 0⟩ := by
 by_cases h : k < n
 ·simp [at', h]
 ·rw [at'_out (by simpa using h)]; rfl
theorem bytesM_mono {b : List Node} {ps : List (Int × Int)} {ms : List May} {rs rs' : List Cls} (hb : ∀ k : Nat, okC' (at' b (k : Int)).cl) (hq : ∀ r : Int, leC (at' rs r) (at' rs' r)) : leLC (bytesM b ps ms rs) (bytesM b ps ms rs') :=
 bytesF_mono hb hq _ _ _ _ ⟨rfl, fun k => by rw [rep_at]; exact leC_refl okC0⟩
/-- The second fixpoint ends. -/
theorem firsts_ends (c : Core) (ps : List (List (Int × Int))) (bs : List (List May)) (hcl : ∀ r k : Nat, okC' (at' (at' c.rules (r : Int)).body (k : Int)).cl) : ∃ F fs, fixF (lastC c ps bs) F (List.replicate c.rules.length noCls) = some fs := by
 have key : ∀ (l l' : List Cls) (k : Nat), (∀ r : Int, leC (at' l r) (at' l' r)) -> leC (lastC c ps bs l (k : Int)) (lastC c ps bs l' (k : Int)) := fun l l' k hq => by
  unfold lastC
  have h2 := (bytesM_mono (b := (at' c.rules (k : Int)).body) (ps := at' ps (k : Int)) (ms := at' bs (k : Int)) (hcl k) hq).2 (((at' c.rules (k : Int)).body.length : Int) - 1).toNat
  have e : ∀ m : List Cls, at' m (((at' c.rules (k : Int)).body.length : Int) - 1) = at' m ((((at' c.rules (k : Int)).body.length : Int) - 1).toNat : Int) := fun m => at'_nat _ _
  rw [e, e]; exact h2
 have g : Grows c.rules.length leC htC (lastC c ps bs) := by
  refine ⟨leC_trans, leC_lt, fun l j k v hu hj hk hv => key _ _ _ fun r => ?_⟩
  have hl := hu.1
  rw [at'_nat l, at'_nat (l.set j v)]
  by_cases hjr : j = r.toNat
  ·subst hjr
   rw [at'_set_self (by omega)]; exact hv
  ·rw [at'_set_ne hjr]
   by_cases hrl : r.toNat < c.rules.length
   ·exact leC_refl (hu.2 _ hrl).1
   ·rw [at'_out (by omega)]; exact leC_refl okC0
 obtain ⟨out, h, _⟩ := fix_ends g _ (List.replicate c.rules.length noCls) ⟨by simp, fun k hk => by
  have : at' (List.replicate c.rules.length noCls) (k : Int) = noCls := rep_at _ _
  rw [this]
  have hz : ∀ r : Int, leC (at' (List.replicate c.rules.length noCls) r) (at' (List.replicate c.rules.length noCls) r) := fun r => by
   rw [at'_nat, show at' (List.replicate c.rules.length noCls) (r.toNat : Int) = noCls from rep_at _ _]; exact leC_refl okC0
  exact leC_no (key _ _ k hz).1⟩ (Nat.lt_succ_self _)
 exact ⟨_, out, h⟩
end Go.AL
namespace Go.AL
open Go.Proofs
def InB (n : Nat) (l : List Int) : Prop := ∀ x ∈ l, 0 <= x /\ x < n
theorem at'_memI {α : Type} [Inhabited α] {l : List α} {x : Int} (h0 : 0 <= x) (h1 : x < l.length) : at' l x ∈ l := by
 have := at_get l x h0 h1
 exact List.mem_of_getElem? this
def headM (ls : List (List Int)) (r : Nat) : Bool := match reachF ls 1000000 (at' ls (r : Int)) (List.replicate ls.length false) with
 | some seen => at' seen (r : Int)
 | none => false
end Go.AL
