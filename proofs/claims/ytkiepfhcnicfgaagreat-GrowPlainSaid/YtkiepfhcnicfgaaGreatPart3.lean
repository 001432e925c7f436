/-
  Part 3 of the proof: the rules by which a call is walked.
-/
import Derived.Recover
import Derived.Sort.Row
import Derived.Test.YtkiepfhcnicfgaaGreatProg
import Derived.WideLaws
import Derived.Test.YtkiepfhcnicfgaaGreatPart2
set_option linter.all false
set_option maxRecDepth 100000
set_option maxHeartbeats 8000000
namespace Go.AL
open Go.RowKit
section
variable {P : Program} {σ : List AObj} {fr : Fr} {ty : TypeId} {pos : String} {aft : Array Edge}
theorem b_lendNewF {dd : Option Nat} {gu : Option (Nat × Bool)} {f : FuncId} [TFn P f] {y : Operand} {xs : Array Operand} {ts : Array TypeId} {cs args : List AV} {e : TypeId} {sz n : Nat} {l : List (List PV)} (h : ACalls P f args [] (fun r σ' => r = .ret (.c (.ms 0 n)) /\ ∃ gb, σ' = .arr e sz l :: gb)) (hl : LDL σ cs args)
  (hfl : ∀ el ∈ l, el.all flatP = true) (hn : n = l.length)
  (hy : ev fr y = .c (.p (.lit (.func (.func f) #[] #[]))) := by exact rfl) (hx : xs.toList.map (ev fr) = cs := by (try simp only [↓ev, litAV, ↓Fr.get, ↓reduceIte, Nat.reduceEqDiff, List.map]) <;> rfl) (hg : xs.toList.all goodConst = true := by rfl) :
  RStep P σ fr ⟨dd, .call { callee := .value y, args := xs, argTypes := ts }, ty, pos, aft, gu⟩ (.c (.p (.sl sz l))) := by
 intro m F w a i hs K Q hK
 have hf : a.eval y = .func (.func f) #[] #[] := by
  have := ev_rv (fr := fr) (m := m) (w := w) (F := F) (a := a) (good_of_lit hy) (fun t e => by subst e; exact hs t (by simp [Op.operands, Call.operands]))
  rw [hy] at this
  exact RP.eq_lit this
 obtain ⟨h1, h2⟩ := callArgs (a := a) (m := m) (w := w) (F := F) hx (fun x hx' hc => ev_rv hc fun t e => by subst e; exact hs t (by simp [Op.operands, Call.operands, hx'])) hg
 obtain ⟨l1, l2⟩ := hl.at
 have i1 : Inv [] (fun b k => F b k \/ ownD σ m b k) [] w := by
  refine ⟨rfl, fun b k hF => ?_, fun b k ⟨j, o, l, h, _⟩ => by simp at h, fun j o l h => by simp at h, fun j k o l o' l' _ h => by simp at h, fun b k ⟨j, o, l, h, _⟩ => by simp at h⟩
  rcases hF with hF | hF
  ·exact i.frz b k hF
  ·exact i.lt b k (ownD_fp hF)
 refine wp_callFn hf ((h [] _ w _ i1 (by rw [h1, l1]) (fun j z hj => ?_)).mono fun en w' he => ?_)
 ·obtain ⟨x, hx, hlx⟩ := l2 j z hj
  exact rv_lendD i hlx (h2 j x hx)
 ·obtain ⟨m', F', σ', r, ⟨rfl, gb, rfl⟩, hre, hi, hst⟩ := he
  have hno : ∀ b k, ¬ FP [] [] b k := fun b k ⟨j, o, l, h, _⟩ => by simp at h
  cases en with
  | panicked ch => exact hre.elim
  | outgrown => exact hre.elim
  | returned u =>
   obtain ⟨A, cap, g1, g2, g3⟩ := (show RC m' w' F' (.ms 0 n) u from hre)
   have hnew : ∀ b, A = some b -> w.heap.size <= b /\ b < w'.heap.size := fun b hb => by
    have hFP : FP (.arr e sz l :: gb) m' b 0 := ⟨0, _, _, rfl, g1, hb⟩
    refine ⟨?_, hi.lt b 0 hFP⟩
    rcases hst.new b 0 (.inl hFP) with h4 | h4 | h4
    ·exact (hno b 0 h4).elim
    ·exact absurd (hst.fm b 0 h4) (hi.dis b 0 hFP)
    ·exact h4
   refine hK u (fun b k => F b k \/ A = some b) w' ⟨fun _ _ h => .inl h, hst.os, hst.tape, hst.output, hst.size, fun b hb => hst.blk b hb (hno b), fun b k hF => hF.imp id fun h => (hnew b h).1, fun b k hF => hF.elim (fun h => .inr h) fun h => .inl (hnew b h).2⟩ ?_
   show RP w' _ (.sl sz l) u
   rw [g3]
   cases A with
   | none =>
    obtain ⟨xs, e1, _⟩ := hi.obj 0 _ _ rfl g1
    have h0 : l.length = 0 := by
     rcases e1.2 with ⟨_, h5⟩ | ⟨_, _, _, h4, _⟩
     ·exact h5
     ·simp [rowV] at h4
    have h00 : l = [] := List.eq_nil_of_length_eq_zero h0
    subst h00
    rw [hn]
    exact .sl0 ..
   | some b =>
    obtain ⟨us, hw, hss, hu⟩ := arr_cells hi rfl g1
    have key := RP.sl (w := w') (F := fun b' k => F b' k \/ some b = some b') (b := b) (o := 0) (cap := cap) (sz := sz) (l := l) us (by omega) hss (fun j _ => .inr rfl)
     (fun j hj => by rw [Nat.zero_add]; exact (hw j hj).1) (fun i' el he j x hx => by
      have hfx := List.all_eq_true.1 (hfl el (List.mem_of_getElem? he)) x (List.mem_of_getElem? hx)
      exact rp_flat hfx (hu i' el he j x hx))
    rw [hn]
    exact key
end
end Go.AL
namespace Go.AL
open Go.RowKit
section
variable {P : Program} {N : NN} {Q : AE -> St -> Prop} {ops : Array Oper} {l : List Oper} {σ σ' : List AObj} {fr : Fr}
theorem k_rot {id n id' : Nat} {e : TypeId} {sz : Nat} {xs : List (List PV)} (t : Nat) (k : AList P N ops Q l ⟨(t, .c (.ms id' n)) :: fr, σ'⟩) (h : fr.get t = .c (.ms id n) := by exact rfl) (ho : σ[id]? = some (.arr e sz xs) := by exact tGet) (hm : σ.length = id' := by exact tLen) (hσ : σ.set id .dead ++ [.arr e sz xs] = σ' := by first | exact snocG0 (by assumption) (by conv => lhs; simp only [List.set, List.cons_append, List.nil_append]) (by conv => lhs; simp only [List.set, List.cons_append, List.nil_append]) | exact snocG (by assumption) (by conv => lhs; simp only [List.set, List.cons_append, List.nil_append]) (by conv => lhs; simp only [List.set, List.cons_append, List.nil_append]) | exact snocGP (by assumption) (by conv => lhs; simp only [List.set, List.cons_append, List.nil_append]) (by conv => lhs; simp only [List.set, List.cons_append, List.nil_append]) rfl | (conv => lhs; simp only [List.set, List.cons_append, List.nil_append])) : AList P N ops Q l ⟨fr, σ⟩ := by
 subst hm; subst hσ
 exact alist_of (rel_rot h ho) k
theorem k_rotAt {n n2 id' : Nat} {e : TypeId} {sz : Nat} {xs : List (List PV)} (t id t2 id2 : Nat) (k : AList P N ops Q l ⟨(t, .c (.ms id' n)) :: fr, σ'⟩) (h2 : fr.get t2 = .c (.ms id2 n2) := by exact rfl) (h : fr.get t = .c (.ms id n) := by exact rfl) (ho : σ[id]? = some (.arr e sz xs) := by exact tGet) (hm : σ.length = id' := by exact tLen) (hσ : σ.set id .dead ++ [.arr e sz xs] = σ' := by first | exact snocG0 (by assumption) (by conv => lhs; simp only [List.set, List.cons_append, List.nil_append]) (by conv => lhs; simp only [List.set, List.cons_append, List.nil_append]) | exact snocG (by assumption) (by conv => lhs; simp only [List.set, List.cons_append, List.nil_append]) (by conv => lhs; simp only [List.set, List.cons_append, List.nil_append]) | exact snocGP (by assumption) (by conv => lhs; simp only [List.set, List.cons_append, List.nil_append]) (by conv => lhs; simp only [List.set, List.cons_append, List.nil_append]) rfl | (conv => lhs; simp only [List.set, List.cons_append, List.nil_append])) : AList P N ops Q l ⟨fr, σ⟩ := k_rot t k h ho hm hσ
end
end Go.AL
namespace Go.AL
open Go.RowKit
section
variable {P : Program} {N : NN} {Q : AE -> St -> Prop} {ops : Array Oper} {σ σ' : List AObj} {fr : Fr}
theorem rel_mvIn {i1 i2 off n : Nat} {o : AObj} {L : List C} (h1 : σ[i1]? = some o) (h2 : σ[i2]? = some (.cells L)) (hne : i1 ≠ i2) (hL : L[off]? = some (.ms i1 n)) (m : List Loc) (F : Nat -> Nat -> Prop) (a : Act) (w : World) (hr : Rel N m F ⟨fr, σ⟩ a w) :
  ∃ m' F', Rel N m' F' ⟨fr, (σ.set i1 AObj.dead ++ [o]).set i2 (.cells (L.set off (.ms σ.length n)))⟩ a w /\ Step m F σ w m' F' ((σ.set i1 AObj.dead ++ [o]).set i2 (.cells (L.set off (.ms σ.length n)))) w := by
 have i := hr.inv
 have hid : i1 < m.length := by rw [i.len]; exact (List.getElem?_eq_some_iff.1 h1).1
 have hm := List.getElem?_eq_getElem hid
 obtain ⟨i', st⟩ := inv_mv i h1 hm
 have h3 : (σ.set i1 AObj.dead ++ [o])[i2]? = some (.cells L) := by
  rw [List.getElem?_append_left (by rw [List.length_set]; exact (List.getElem?_eq_some_iff.1 h2).1), List.getElem?_set_ne hne]; exact h2
 have hid2 : i2 < (m ++ [m[i1]]).length := by rw [i'.len]; exact (List.getElem?_eq_some_iff.1 h3).1
 have hm2 := List.getElem?_eq_getElem hid2
 have hob2 := i'.obj i2 _ _ h3 hm2
 generalize (m ++ [m[i1]])[i2] = lc2 at hm2 hob2
 cases lc2 with
 | row _ _ => exact hob2.elim
 | «at» b2 o2 =>
  obtain ⟨g1, g2⟩ := inv_set (w' := w) (o' := .cells (L.set off (.ms σ.length n))) i' h3 hm2 (fun b k => by simp only [fp, List.length_set]) rfl ⟨rfl, rfl, rfl⟩ (fun _ _ => rfl) (fun _ _ _ => ⟨rfl, rfl⟩) (fun hRC hRP => by
   intro j c hj
   rw [List.getElem?_set] at hj
   split at hj
   ·rename_i hjo
    subst hjo
    split at hj
    ·injection hj with hj; subst hj
     obtain ⟨⟨u, k1, k2⟩, k3⟩ := hob2 off _ hL
     refine ⟨⟨u, k1, ?_⟩, k3⟩
     obtain ⟨A', cap', a1, a2, a3⟩ := k2
     rw [List.getElem?_append_left hid, hm] at a1
     injection a1 with a1
     exact ⟨A', cap', by rw [<- i.len, a1]; simp, a2, a3⟩
    ·cases hj
   ·exact hob2 j c hj)
  have st2 := st.trans i i' g2
  exact ⟨_, F, ⟨g1, fun t => (hr.fr t).step i st2, hr.size, hr.defers⟩, st2⟩
theorem kw_mvIn {c : Code} (i1 i2 off : Nat) {n M : Nat} {o : AObj} {L L' : List C} (h1 : σ[i1]? = some o) (h2 : σ[i2]? = some (.cells L)) (hne : i1 ≠ i2) (hL : L[off]? = some (.ms i1 n)) (hM : σ.length = M) (hL' : L.set off (.ms M n) = L') (hσ : (σ.set i1 AObj.dead ++ [o]).set i2 (.cells L') = σ') (k : AWp P N c Q ⟨fr, σ'⟩) : AWp P N c Q ⟨fr, σ⟩ := by
 subst hM; subst hL'; subst hσ
 exact awp_of (rel_mvIn h1 h2 hne hL) k
end
end Go.AL
namespace Go.AL
open Go.RowKit
section
variable {P : Program} {N : NN} {Q : AE -> St -> Prop} {ops : Array Oper} {rest : List Oper} {σ σ' : List AObj} {fr : Fr}
variable {ty : TypeId} {pos : String} {aft : Array Edge}
theorem k_makeM {α : Type} {f : α -> List PV} {d : Nat} {t e : TypeId} {sz by' : Nat} {z : Value} {x y : Operand} {n id : Nat} (v : α) [TSl P t e sz by'] [TZ P e z] (k : AList P N ops Q rest ⟨(d, .c (.ms id n)) :: fr, σ'⟩) (hx : ev fr x = i64 n := by exact rfl) (hy : ev fr y = i64 n := by exact rfl) (hb : by' * n <= 281474976710656 := by omega) (hd : Nat.blt d N = true := by rfl) (hzs : z.cells.size = sz := by rfl) (hz : zP z = f v := by rfl)
  (hm : σ.length = id := by exact tLen) (hσ : σ ++ [.arr e sz ((List.replicate n v).map f)] = σ' := by exact tAdd) :
  AList P N ops Q (⟨some d, .makeSlice t x y, ty, pos, aft, none⟩ :: rest) ⟨fr, σ⟩ := by
 subst hm; subst hσ
 have e1 : List.replicate n (zP z) = (List.replicate n v).map f := by rw [hz]; simp
 exact w_make (n := (n : Int)) hx hy (by omega) hb hd hzs (by rw [Int.toNat_natCast]; exact e1) rfl k
end
end Go.AL
namespace Go.AL
open Go.RowKit
structure KK where
 m0 : List Loc
 F0 : Nat -> Nat -> Prop
 σ0 : List AObj
 w0 : World
 i0 : Inv m0 F0 σ0 w0
def KK.fin (K : KK) (R : CE -> List AObj -> Prop) : Ending -> World -> Prop := fun e w' => ∃ m' F' σ' r, R r σ' /\ RCE m' w' F' r e /\ Inv m' F' σ' w' /\ Step K.m0 K.F0 K.σ0 K.w0 m' F' σ' w'
def AWr (P : Program) (fn : Func) (N : NN) (K : KK) (R : CE -> List AObj -> Prop) (c : Code) (s : St) : Prop :=
 ∀ m F a w, Rel N m F s a w -> Step K.m0 K.F0 K.σ0 K.w0 m F s.σ w -> c.wp P (bodyPostD P fn (K.fin R)) a w
def AEr (P : Program) (fn : Func) (N : NN) (K : KK) (R : CE -> List AObj -> Prop) : AE -> St -> Prop := fun x s =>
 ∀ m F a w e, Rel N m F s a w -> Step K.m0 K.F0 K.σ0 K.w0 m F s.σ w -> RE w F x e -> bodyPostD P fn (K.fin R) e a w
section
variable {P : Program} {fn : Func} {N : NN} {K : KK} {R : CE -> List AObj -> Prop} {Q : AE -> St -> Prop} {s : St}
theorem acalls_body {f : FuncId} {c : Code} {n : Nat} {args : List AV} {σ : List AObj} (hf : P.funcs[f]? = some fn) (hb : fn.body = some c) (hn : fn.ntmps = n) (hN : args.length <= n)
  (h : ∀ K : KK, AWr P fn ⟨n, []⟩ K R c ⟨argFr 0 args, σ⟩) : ACalls P f args σ R := by
 intro m F w vs i hs hv
 refine calls_of_wp_defers hf hb ?_
 have hr : Rel ⟨n, []⟩ m F ⟨argFr 0 args, σ⟩ { tmps := vs ++ Array.replicate (fn.ntmps - vs.size) undef, defers := [] } w := by
  refine ⟨i, fun t => ?_, by simp; omega, rfl⟩
  simp only [argFr_get, Nat.zero_le, if_true, Nat.sub_zero]
  cases hj : args[t]? with
  | none => trivial
  | some x =>
   have hlt : t < vs.size := by rw [hs]; exact (List.getElem?_eq_some_iff.1 hj).1
   have e : (vs ++ Array.replicate (fn.ntmps - vs.size) undef).getD t undef = vs.getD t undef := by
    simp only [Array.getD_eq_getD_getElem?, Array.getElem?_append_left hlt]
   rw [e]
   exact hv t x hj
 exact h ⟨m, F, σ, w, i⟩ m F _ w hr (Step.refl ..)
theorem awr_seq {x y : Code} (h : AWp P N x (seqQ (AWr P fn N K R y) (AEr P fn N K R)) s) : AWr P fn N K R (.seq x y) s := by
 intro m F a w hr hs
 refine wp_seq (wp_mono (h m F a w hr) fun e a1 w1 hp => ?_)
 obtain ⟨m1, F1, s1, x1, hq, he, hr1, hs1⟩ := hp
 have hs2 := hs.trans K.i0 hr.inv hs1
 cases e with
 | normal =>
  cases x1 <;> first | exact he.elim | skip
  exact hq m1 F1 a1 w1 hr1 hs2
 | exit i => cases x1 <;> first | exact he.elim | exact hq m1 F1 a1 w1 _ hr1 hs2 he
 | goto i => cases x1 <;> first | exact he.elim | exact hq m1 F1 a1 w1 _ hr1 hs2 he
 | ret => cases x1 <;> first | exact he.elim | exact hq m1 F1 a1 w1 _ hr1 hs2 he
 | panic ch => cases x1 <;> first | exact he.elim | exact hq m1 F1 a1 w1 _ hr1 hs2 he
 | outgrown => cases x1 <;> exact he.elim
theorem awr_weak {c : Code} {s' : St} (h : ∀ m F a w, Rel N m F s a w -> ∃ m' F', Rel N m' F' s' a w /\ Step m F s.σ w m' F' s'.σ w) (k : AWr P fn N K R c s') : AWr P fn N K R c s := by
 intro m F a w hr hs
 obtain ⟨m', F', hr', hs'⟩ := h m F a w hr
 exact k m' F' a w hr' (hs.trans K.i0 hr.inv hs')
theorem er_ret {n : Nat} (h : retQ P fn R .ret s) : AEr P fn ⟨n, []⟩ K R .ret s := by
 intro m F a w e hr hs he
 cases e <;> first | exact he.elim | skip
 obtain ⟨us, hu, hR⟩ := h
 obtain ⟨y, h1, h2⟩ := results_run hr hu
 show Leaves P fn a.tmps (K.fin R) a.defers .returning w
 rw [hr.defers]
 exact ⟨y, h1, m, F, s.σ, _, hR, h2, hr.inv, hs⟩
def ADCalls (P : Program) (f : FuncId) (args : List AV) (σ : List AObj) (U : World -> (Nat -> Nat -> Prop) -> FrameMode -> Prop) (R : FrameMode -> List AObj -> Prop) : Prop :=
 ∀ m F w (vs : Array Value) u, Inv m F σ w -> U w F u -> vs.size = args.length -> (∀ (j : Nat) x, args[j]? = some x -> RV m w F x (vs.getD j undef)) ->
  CallsD P f vs u w fun e u' w' => ∃ m' F' σ', R u' σ' /\ (∃ v, e = .returned v) /\ Inv m' F' σ' w' /\ Step m F σ w m' F' σ' w'
def uRet : World -> (Nat -> Nat -> Prop) -> FrameMode -> Prop := fun _ _ u => u = .returning
def uPan (x : PV) : World -> (Nat -> Nat -> Prop) -> FrameMode -> Prop := fun w F u => ∃ v, u = .panicking [{ v, recovered := false }] /\ RP w F x v
def defQ (P : Program) (fn : Func) (R : CE -> List AObj -> Prop) (g : FuncId) (l : List (Nat × Nat)) : AE -> St -> Prop
 | .ret, s => ADCalls P g (l.map fun p => .c (.ptr p.1 p.2)) s.σ uRet (fun u' σ'' => settle u' = .returning /\ ∃ vs, ResAll P s.fr σ'' fn.results.toList vs /\ R (.ret (pack vs)) σ'')
 | .panic x, s => ADCalls P g (l.map fun p => .c (.ptr p.1 p.2)) s.σ (uPan x) (fun u' σ'' => settle u' = .returning /\ ∃ vs, ResAll P s.fr σ'' fn.results.toList vs /\ R (.ret (pack vs)) σ'')
 | _, _ => False
theorem awr_defer {n g id t : Nat} {ty ty2 : TypeId} {pos pos2 : String} {aft aft2 : Array Edge} {cap : Array Operand} {l : List (Nat × Nat)} {rest : Code} {fr : Fr} {σ : List AObj} [TFn P g]
  (h : ∀ vs : Array Value, AWp P ⟨n, [⟨.fn (.func g) vs, #[]⟩]⟩ rest (defQ P fn R g l) ⟨(t, .c (.fnp g l)) :: fr, σ⟩)
  (hl : unPtr (cap.toList.map (ev fr)) = some l := by exact rfl) (hg : cap.toList.all goodConst = true := by rfl) (ht : Nat.blt t n = true := by rfl) :
  AWr P fn ⟨n, []⟩ K R (.seq (.region id #[⟨some t, .makeFunc (.func g) #[] cap, ty, pos, aft, none⟩, ⟨none, .defer { callee := .value (.tmp t), args := #[], argTypes := #[] }, ty2, pos2, aft2, none⟩] false) rest) ⟨fr, σ⟩ := by
 intro m F a w hr hs
 obtain ⟨h1, h2⟩ := callArgs (a := a) (m := m) (w := w) (F := F) (unPtr_map hl) (fun x hx' hc => ev_rv hc fun t _ => hr.fr t) hg
 let vs := cap.map a.eval
 have hvs : RC m w F (.fnp g l) (.func (.func g) #[] vs) := ⟨vs, rfl, by simpa [vs] using h1, fun j p hj => by
  obtain ⟨b, o, q1, q2⟩ := h2 j (.c (.ptr p.1 p.2)) (by rw [List.getElem?_map, hj]; rfl)
  exact ⟨b, o, q1, q2⟩⟩
 refine wp_seq (wp_region_list (wpList_plain rfl fun K1 hK1 => ?_))
 unfold Oper.wp
 rw [show (execOp a.eval ⟨some t, .makeFunc (.func g) #[] cap, ty, pos, aft, none⟩).run P w = .ok (.value (.func (.func g) #[] vs)) w by simp [execOp, Instr.makeFunc, Sem.run_bind, Sem.run_pure, vs]]
 refine hK1 _ _ (wpList_plain rfl fun K2 hK2 => ?_)
 have hlt : t < a.tmps.size := by rw [hr.size]; exact blt_lt ht
 have hev : (a.put (some t) (.func (.func g) #[] vs)).eval (.tmp t) = .func (.func g) #[] vs := by
  simp [Act.put, Act.eval, Array.getD_eq_getD_getElem?, hlt]
 unfold Oper.wp
 rw [show (execOp (a.put (some t) (.func (.func g) #[] vs)).eval ⟨none, .defer { callee := .value (.tmp t), args := #[], argTypes := #[] }, ty2, pos2, aft2, none⟩).run P w = .ok (.defer ⟨.fn (.func g) vs, #[]⟩) w by
  simp [execOp, resolve, hev, Deferred.ofValue, Sem.run_bind, Sem.run_pure]]
 refine hK2 _ _ (wpList_nil ?_)
 have hr1 : Rel ⟨n, [⟨.fn (.func g) vs, #[]⟩]⟩ m F ⟨(t, .c (.fnp g l)) :: fr, σ⟩ ({ (a.put (some t) (.func (.func g) #[] vs)) with defers := ⟨.fn (.func g) vs, #[]⟩ :: (a.put (some t) (.func (.func g) #[] vs)).defers }.put none undef) w := by
  refine ⟨hr.inv, fun t' => ?_, by simpa [Act.put] using hr.size, by simpa [Act.put] using hr.defers⟩
  simp only [Fr.get]
  split
  ·rename_i htt
   subst htt
   have : ({ (a.put (some t) (.func (.func g) #[] vs)) with defers := ⟨.fn (.func g) vs, #[]⟩ :: (a.put (some t) (.func (.func g) #[] vs)).defers }.put none undef).tmps.getD t undef = .func (.func g) #[] vs := by
    simp [Act.put, Array.getD_eq_getD_getElem?, hlt]
   rw [this]
   exact hvs
  ·rename_i htt
   have : ({ (a.put (some t) (.func (.func g) #[] vs)) with defers := ⟨.fn (.func g) vs, #[]⟩ :: (a.put (some t) (.func (.func g) #[] vs)).defers }.put none undef).tmps.getD t' undef = a.tmps.getD t' undef := by
    simp [Act.put, Array.getD_eq_getD_getElem?, Array.getElem?_setIfInBounds_ne htt]
   rw [this]
   exact hr.fr t'
 refine wp_mono (h vs m F _ w hr1) fun e a1 w1 hp => ?_
 obtain ⟨m1, F1, s1, x1, hq, he, hr2, hs1⟩ := hp
 have hinv : (invoke (.fn (.func g) vs) #[]).run P w1 = .ok (.enter g vs) w1 := by
  have := TFn.call (P := P) (f := g) vs w1
  simpa [invoke] using this
 have hsz : vs.size = (l.map fun p => (AV.c (.ptr p.1 p.2))).length := by simpa [vs] using h1
 have htold : ∀ (j : Nat) x, (l.map fun p => (AV.c (.ptr p.1 p.2)))[j]? = some x -> RV m1 w1 F1 x (vs.getD j undef) := fun j x hj => (h2 j x hj).step hr.inv hs1
 have hst2 := hs.trans K.i0 hr.inv hs1
 have fin : ∀ (U : World -> (Nat -> Nat -> Prop) -> FrameMode -> Prop) u, U w1 F1 u -> u ≠ .run -> ADCalls P g (l.map fun p => .c (.ptr p.1 p.2)) s1.σ U (fun u' σ'' => settle u' = .returning /\ ∃ vs, ResAll P s1.fr σ'' fn.results.toList vs /\ R (.ret (pack vs)) σ'') -> Leaves P fn a1.tmps (K.fin R) a1.defers u w1 := by
  intro U u hU hne hD
  rw [hr2.defers]
  refine leaves_cons hne hinv ((hD m1 F1 w1 vs u hr2.inv hU hsz htold).mono fun e2 u2 w2 he2 => ?_)
  obtain ⟨m3, F3, σ3, ⟨hst, us, hus, hRR⟩, ⟨v, rfl⟩, hi3, hs3⟩ := he2
  show Leaves P fn a1.tmps (K.fin R) [] (settle u2) w2
  rw [hst]
  have hr3 : Rel ⟨n, [⟨.fn (.func g) vs, #[]⟩]⟩ m3 F3 ⟨s1.fr, σ3⟩ a1 w2 := ⟨hi3, fun t => (hr2.fr t).step hr2.inv hs3, hr2.size, hr2.defers⟩
  obtain ⟨y, g1, g2⟩ := results_run hr3 hus
  exact ⟨y, g1, m3, F3, σ3, _, hRR, g2, hi3, hst2.trans K.i0 hr2.inv hs3⟩
 cases e with
 | normal => cases x1 <;> first | exact he.elim | exact hq.elim
 | exit i => cases x1 <;> first | exact he.elim | exact hq.elim
 | goto i => cases x1 <;> first | exact he.elim | exact hq.elim
 | ret =>
  cases x1 <;> first | exact he.elim | skip
  exact fin uRet .returning rfl (by simp) hq
 | panic ch =>
  cases x1 <;> first | exact he.elim | skip
  obtain ⟨v, rfl, hv⟩ := he
  exact fin (uPan _) _ ⟨v, rfl, hv⟩ (by simp) hq
 | outgrown => cases x1 <;> exact he.elim
end
end Go.AL
namespace Go.AL
open Go.RowKit
section
variable {P : Program} {fn : Func}
def leftQ (R : List AObj -> Prop) : AE -> St -> Prop
 | .normal, s | .ret, s => R s.σ
 | _, _ => False
def thenQ (P : Program) (N : NN) (y : Code) (t : Nat) (x : PV) (R : List AObj -> Prop) : AE -> St -> Prop
 | .normal, s => AWp P N y (leftQ R) ⟨(t, .c (.p x)) :: s.fr, s.σ⟩
 | _, _ => False
theorem adcalls_rec {g n id t : Nat} {c x y : Code} {args : List AV} {σ : List AObj} {z : PV} {R : List AObj -> Prop} {U : World -> (Nat -> Nat -> Prop) -> FrameMode -> Prop} {ty : TypeId} {pos : String} {aft : Array Edge} {ts : Array TypeId}
  (hf : P.funcs[g]? = some fn) (hb : fn.body = some c) (hc : c = .seq x (.seq (.region id #[⟨some t, .call { callee := .builtin .recover, args := #[], argTypes := ts }, ty, pos, aft, none⟩] false) y)) (hn : fn.ntmps = n) (hres : fn.results = #[]) (hN : args.length <= n) (ht : Nat.blt t n = true)
  (hU : (U = uRet /\ z = .lit .nilIface) \/ U = uPan z)
  (h : AWp P ⟨n, []⟩ x (thenQ P ⟨n, []⟩ y t z R) ⟨argFr 0 args, σ⟩) : ADCalls P g args σ U (fun u' σ'' => settle u' = .returning /\ R σ'') := by
 subst hc
 intro m F w vs u i hu hs hv
 refine callsD_of_wpS hf hb fun c₀ cs hm => ?_
 have hr : Rel ⟨n, []⟩ m F ⟨argFr 0 args, σ⟩ { tmps := vs ++ Array.replicate (fn.ntmps - vs.size) undef, defers := [] } w := by
  refine ⟨i, fun t => ?_, by simp; omega, rfl⟩
  simp only [argFr_get, Nat.zero_le, if_true, Nat.sub_zero]
  cases hj : args[t]? with
  | none => trivial
  | some x =>
   have hlt : t < vs.size := by rw [hs]; exact (List.getElem?_eq_some_iff.1 hj).1
   have e : (vs ++ Array.replicate (fn.ntmps - vs.size) undef).getD t undef = vs.getD t undef := by
    simp only [Array.getD_eq_getD_getElem?, Array.getElem?_append_left hlt]
   rw [e]
   exact hv t x hj
 refine wpS_seq (wpS_of_wp (wp_mono (h m F _ w hr) fun e a1 w1 hp => ?_))
 obtain ⟨m1, F1, s1, x1, hq, he, hr1, hs1⟩ := hp
 cases e with
 | exit i => cases x1 <;> first | exact he.elim | exact hq.elim
 | goto i => cases x1 <;> first | exact he.elim | exact hq.elim
 | ret => cases x1 <;> first | exact he.elim | exact hq.elim
 | panic ch => cases x1 <;> first | exact he.elim | exact hq.elim
 | outgrown => cases x1 <;> exact he.elim
 | normal =>
  cases x1 <;> first | exact he.elim | skip
  have hlt : t < a1.tmps.size := by rw [hr1.size]; exact blt_lt ht
  have key : ∀ (v : Value) (u' : FrameMode), RP w1 F1 z v -> settle u' = .returning -> Code.wpS P y (bodyPostS P fn c₀ cs fun e u' w' => ∃ m' F' σ', (settle u' = .returning /\ R σ') /\ (∃ v, e = .returned v) /\ Inv m' F' σ' w' /\ Step m F σ w m' F' σ' w') (a1.put (some t) v) ({ c₀ with mode := u' } :: cs) w1 := by
   intro v u' hz hset
   have hr2 : Rel ⟨n, []⟩ m1 F1 ⟨(t, .c (.p z)) :: s1.fr, s1.σ⟩ (a1.put (some t) v) w1 := by
    refine ⟨hr1.inv, fun t' => ?_, by simpa [Act.put] using hr1.size, by simpa [Act.put] using hr1.defers⟩
    simp only [Fr.get]
    split
    ·rename_i htt
     subst htt
     have : (a1.put (some t) v).tmps.getD t undef = v := by simp [Act.put, Array.getD_eq_getD_getElem?, hlt]
     rw [this]
     exact hz
    ·rename_i htt
     have : (a1.put (some t) v).tmps.getD t' undef = a1.tmps.getD t' undef := by simp [Act.put, Array.getD_eq_getD_getElem?, Array.getElem?_setIfInBounds_ne htt]
     rw [this]
     exact hr1.fr t'
   refine wpS_of_wp (wp_mono (hq m1 F1 _ w1 hr2) fun e a3 w3 hp => ?_)
   obtain ⟨m3, F3, s3, x3, hq3, he3, hr3, hs3⟩ := hp
   have hst := hs1.trans i hr1.inv hs3
   have hrs : (results fn a3.tmps).run P w3 = .ok (.tuple #[]) w3 := by
    obtain ⟨y, g1, g2⟩ := results_run (P := P) (fn := fn) (vs := []) hr3 (by rw [hres]; exact .nil)
    obtain ⟨ys, e1, e2, _⟩ := g2
    have : ys = #[] := by
     have : ys.size = 0 := e2
     exact Array.eq_empty_of_size_eq_zero this
    subst this; subst e1
    exact g1
   cases e with
   | normal =>
    cases x3 <;> first | exact he3.elim | skip
    exact ⟨hr3.defers, u', rfl, .tuple #[], hrs, m3, F3, s3.σ, ⟨hset, hq3⟩, ⟨_, rfl⟩, hr3.inv, hst⟩
   | ret =>
    cases x3 <;> first | exact he3.elim | skip
    exact ⟨hr3.defers, u', rfl, .tuple #[], hrs, m3, F3, s3.σ, ⟨hset, hq3⟩, ⟨_, rfl⟩, hr3.inv, hst⟩
   | exit i => cases x3 <;> first | exact he3.elim | exact hq3.elim
   | goto i => cases x3 <;> first | exact he3.elim | exact hq3.elim
   | panic ch => cases x3 <;> first | exact he3.elim | exact hq3.elim
   | outgrown => cases x3 <;> exact he3.elim
  show Code.wpS P (.seq _ y) _ a1 (c₀ :: cs) w1
  refine wpS_seq (wpS_region ?_)
  have hwant : Region.wanted ⟨some t, .call { callee := .builtin .recover, args := #[], argTypes := ts }, ty, pos, aft, none⟩ (yielded #[⟨some t, .call { callee := .builtin .recover, args := #[], argTypes := ts }, ty, pos, aft, none⟩] a1.tmps) = true := by simp [Region.wanted]
  have hrun : (execOp a1.eval ⟨some t, .call { callee := .builtin .recover, args := #[], argTypes := ts }, ty, pos, aft, none⟩).run P w1 = .ok .recover w1 := by
   simp [execOp, resolve, Sem.run_bind, Sem.run_pure, invoke, builtin]
  show wpOpsS P _ _ [0] a1 (c₀ :: cs) w1
  simp only [wpOpsS, List.getElem?_toArray, List.getElem?_cons_zero, hwant, if_true, hrun, recoverD]
  rcases hU with ⟨rfl, rfl⟩ | rfl
  ·have hu : u = .returning := hu
   subst hu
   rw [hm]
   have h0 : ({ c₀ with mode := FrameMode.returning } : Frame) = c₀ := by rw [<- hm]
   have := key .nilIface .returning (RP.lit rfl) rfl
   rw [h0] at this
   exact this
  ·obtain ⟨v, rfl, hz⟩ := hu
   rw [hm]
   refine key v _ ?_ rfl
   have := RP.mono (w' := w1) (F' := F1) (fun b k h => hs1.fm b k h) (fun b k hb => (hs1.cel b k (i.frz b k hb) (fun hf => i.dis b k hf hb)).1) hz
   exact this
end
end Go.AL
namespace Go.AL
open Go.RowKit
section
variable {P : Program} {fn : Func} {R : CE -> List AObj -> Prop} {fr : Fr} {σ : List AObj} {K : KK}
theorem res_c3 {a b c : Tmp} {ta tb tc : TypeId} {ga gb gc : Bool} {sa sb sc ia ib ic oa ob oc : Nat} {la lb lc : List C} {x y z : AV} [TV P ta ga sa] [TV P tb gb sb] [TV P tc gc sc] (hr : fn.results = #[.cell a ta, .cell b tb, .cell c tc])
  (hxa : fr.get a = .c (.ptr ia oa)) (hxb : fr.get b = .c (.ptr ib ob)) (hxc : fr.get c = .c (.ptr ic oc))
  (ha : σ[ia]? = some (.cells la)) (hb : σ[ib]? = some (.cells lb)) (hc : σ[ic]? = some (.cells lc))
  (qa : loaded ga sa (la.drop oa) = some x) (qb : loaded gb sb (lb.drop ob) = some y) (qc : loaded gc sc (lc.drop oc) = some z) : ResAll P fr σ fn.results.toList [x, y, z] := by
 rw [hr]
 exact .cons (.cell hxa ha qa) (.cons (.cell hxb hb qb) (.cons (.cell hxc hc qc) .nil))
theorem er_c3 {n : Nat} {a b c : Tmp} {ta tb tc : TypeId} {ga gb gc : Bool} {sa sb sc ia ib ic oa ob oc : Nat} {la lb lc : List C} {x y z : AV} [TV P ta ga sa] [TV P tb gb sb] [TV P tc gc sc] (hr : fn.results = #[.cell a ta, .cell b tb, .cell c tc]) (h : R (.ret (.tup [x, y, z])) σ)
  (hxa : fr.get a = .c (.ptr ia oa) := by exact rfl) (hxb : fr.get b = .c (.ptr ib ob) := by exact rfl) (hxc : fr.get c = .c (.ptr ic oc) := by exact rfl)
  (ha : σ[ia]? = some (.cells la) := by exact tGet) (hb : σ[ib]? = some (.cells lb) := by exact tGet) (hc : σ[ic]? = some (.cells lc) := by exact tGet)
  (qa : loaded ga sa (la.drop oa) = some x := by first | rfl | (simp only [loaded, List.drop, List.take, List.map, List.length, if_true, if_false, Bool.false_eq_true]; rfl) | (simp [loaded]; done)) (qb : loaded gb sb (lb.drop ob) = some y := by first | rfl | (simp only [loaded, List.drop, List.take, List.map, List.length, if_true, if_false, Bool.false_eq_true]; rfl) | (simp [loaded]; done)) (qc : loaded gc sc (lc.drop oc) = some z := by first | rfl | (simp only [loaded, List.drop, List.take, List.map, List.length, if_true, if_false, Bool.false_eq_true]; rfl) | (simp [loaded]; done)) : AEr P fn ⟨n, []⟩ K R .ret ⟨fr, σ⟩ :=
 er_ret ⟨[x, y, z], res_c3 hr hxa hxb hxc ha hb hc qa qb qc, h⟩
end
end Go.AL
namespace Go.AL
open Go.RowKit
theorem setCell_same {w : World} {b o : Nat} {v : Value} (h : w.cell? ⟨b, o, none⟩ = some v) : w.setCell ⟨b, o, none⟩ v = w := by
 rw [Go.Sort.setCell_eq]
 refine Go.Sort.mapBlock_id w b _ fun c e fz hb => ?_
 simp only [World.cell?, hb] at h
 simp only [Option.isSome_none, Bool.false_eq_true, if_false] at h
 apply Array.ext_getElem?
 intro k
 rw [Array.getElem?_setIfInBounds]
 split
 ·rename_i hk
  subst hk
  split
  ·exact h.symm
  ·rename_i hlt; rw [Array.getElem?_eq_none (by omega)]
 ·rfl
theorem setCells_same {b : Nat} : ∀ (vs : List Value) (o : Nat) (w : World), (∀ j v, vs[j]? = some v -> w.cell? ⟨b, o + j, none⟩ = some v) -> w.setCells b o vs = w
 | [], _, _, _ => rfl
 | v :: vs, o, w, h => by
  simp only [World.setCells]
  rw [setCell_same (by have := h 0 v rfl; rwa [Nat.add_zero] at this)]
  exact setCells_same vs (o + 1) w fun j u hj => by
   have := h (j + 1) u (by simpa using hj)
   rwa [show o + (j + 1) = o + 1 + j by omega] at this
def unLit : List C -> Option (List Value)
 | [] => some []
 | .p (.lit v) :: r => match unLit r with
  | some l => some (v :: l)
  | none => none
 | _ => none
theorem unLit_map : ∀ {l : List C} {v : List Value}, unLit l = some v -> l = v.map fun x => .p (.lit x)
 | [], v, h => by simp [unLit] at h; subst h; rfl
 | c :: r, v, h => by
  unfold unLit at h
  split at h
  ·rename_i h1; cases h1
  ·rename_i x r' h1
   injection h1 with h1 h2; subst h1; subst h2
   split at h
   ·rename_i vs h3
    injection h with h; subst h
    rw [unLit_map h3]; rfl
   ·cases h
  ·cases h
section
variable {P : Program} {N : NN} {Q : AE -> St -> Prop} {ops : Array Oper} {rest tail : List Oper} {σ σ' : List AObj} {fr : Fr}
variable {ty : TypeId} {pos : String} {aft : Array Edge} {v : AV}
theorem b_storeSame {g : Option (Nat × Bool)} {t : TypeId} {agg : Bool} {sz : Nat} {x z : Operand} {y : AV} {id off : Nat} {l : List C} {vs : List Value} [TV P t agg sz] (hx : ev fr x = .c (.ptr id off) := by exact rfl) (hy : ev fr z = y := by conv => lhs; whnf) (ho : σ[id]? = some (.cells l) := by exact tGet) (hc' : unLit y.cells = some vs := by exact rfl) (hl : (l.drop off).take sz = y.cells := by rfl) (hn : y.cells.length = sz := by rfl) (hsure : sureV y = true := by rfl) (hgc : goodConst z = true := by rfl) :
  RStep P σ fr ⟨none, .store t x z, ty, pos, aft, g⟩ (.c .any) := by
 have hc := unLit_map hc'
 intro m F w a i hs K Q hK
 have h := ev_rv (fr := fr) (m := m) (w := w) (F := F) (a := a) hgc (fun t e => hs t (by subst e; simp [Op.operands]))
 rw [hy] at h
 have hp := ev_rv (fr := fr) (m := m) (w := w) (F := F) (a := a) (good_of_nl hx (by simp)) (fun t e => hs t (by subst e; simp [Op.operands]))
 rw [hx] at hp
 obtain ⟨b, o', hm, hv⟩ := rv_ptr hp
 have hpos := TV.pos (P := P) (t := t) (agg := agg) (sz := sz)
 obtain ⟨e1, e2⟩ := rv_cells h (by omega) (rv_one hsure h)
 obtain ⟨us, hw, hr⟩ := obj_cells i ho hm
 have hlen : sz <= (l.drop off).length := by
  have := congrArg List.length hl
  rw [List.length_take, hn] at this
  omega
 have hle : off + sz <= l.length := by rw [List.length_drop] at hlen; omega
 have hrun := storeVar_run (P := P) (t := t) (agg := agg) (sz := sz) (w := w) (b := b) (o := o' + off) (u := a.eval z) (by omega)
  (fun j hj => by rw [Nat.add_assoc, (hw (off + j) (by omega)).1]; rfl) (fun j hj => by rw [Nat.add_assoc]; exact (hw (off + j) (by omega)).2) (rv_cells_one hsure h)
 have hsame : w.setCells b (o' + off) (a.eval z).cells.toList = w := by
  refine setCells_same _ _ _ fun j u hj => ?_
  have hjs : j < sz := by have := (List.getElem?_eq_some_iff.1 hj).1; simp at this; omega
  rw [Nat.add_assoc, (hw (off + j) (by omega)).1]
  obtain ⟨v0, hv0⟩ : ∃ v0, y.cells[j]? = some (.p (.lit v0)) := by
   have hjl : j < vs.length := by have := congrArg List.length hc; simp at this; omega
   rw [hc, List.getElem?_map, List.getElem?_eq_getElem hjl]
   exact ⟨_, rfl⟩
  have h1 := RP.eq_lit (show RP w F (.lit v0) _ from e2 j _ hv0)
  have hlj : l[off + j]? = some (.p (.lit v0)) := by
   rw [<- hl, List.getElem?_take, if_pos hjs, List.getElem?_drop] at hv0
   exact hv0
  have h2 := RP.eq_lit (show RP w F (.lit v0) _ from hr (off + j) _ hlj)
  rw [h2]
  have hju : (a.eval z).cells.getD j undef = u := by
   have : (a.eval z).cells[j]? = some u := by simpa using hj
   simp [Array.getD_eq_getD_getElem?, this]
  rw [<- hju, h1]
 rw [hsame] at hrun
 unfold Oper.wp
 have : (execOp a.eval ⟨none, .store t x z, ty, pos, aft, g⟩).run P w = .ok .skip w := by
  simp only [execOp, hv, Instr.storeAt, Instr.sureAddr, Sem.run_bind, Sem.run_pure, Result.andThen_ok, hrun]
 rw [this]
 exact hK _ F w (Grow.refl F w) trivial
theorem ds_opN {op : Op} (h : RStep P σ fr ⟨none, op, ty, pos, aft, none⟩ v) (k : DSteps P N ops Q σ tail rest fr) : DSteps P N ops Q σ tail (⟨none, op, ty, pos, aft, none⟩ :: rest) fr := by
 obtain ⟨fr', h1, h2⟩ := k
 exact ⟨fr', .cons (.of rfl h) h1, h2⟩
end
end Go.AL
namespace Go.AL
open Go.RowKit
section
variable {P : Program} {σ σ' : List AObj} {fr : Fr} {ty : TypeId} {pos : String} {aft : Array Edge} {α : Type}
theorem s_storeEpt {t e' : TypeId} {agg : Bool} {sz esz : Nat} {x z : Operand} {y : AV} {ys : List PV} {id i off : Nat} {l : List (List PV)} {el el' : List PV} [TV P t agg sz] (hx : ev fr x = .c (.ept id esz i off)) (hy : ev fr z = y) (ho : σ[id]? = some (.arr e' esz l)) (hel : l[i]? = some el) (hyc : y.cells = ys.map .p) (hsure : sureV y = true) (hn : ys.length = sz) (hle : off + sz <= el.length) (hl : lay el off ys = el')
  (hσ : σ.set id (.arr e' esz (l.set i el')) = σ') (hgc : goodConst z = true := by rfl) :
  SStep P σ fr ⟨none, .store t x z, ty, pos, aft, none⟩ (.c .any) σ' := by
 subst hσ
 subst hl
 refine s_of2 (fun m F w a iv hs => ?_)
 have h := hs z (by simp [Op.operands]) hgc
 rw [hy] at h
 have hp := hs x (by simp [Op.operands]) (good_of_nl hx (by simp))
 rw [hx] at hp
 obtain ⟨b, cap, hm, hv⟩ := rv_ept hp
 have hpos := TV.pos (P := P) (t := t) (agg := agg) (sz := sz)
 have hycl : y.cells.length = sz := by rw [hyc]; simpa using hn
 obtain ⟨e1, e2⟩ := rv_cells h (by omega) (rv_one hsure h)
 obtain ⟨us, hw, hsz, hr⟩ := arr_cells iv ho hm
 obtain ⟨xs, x1, x2, x3⟩ := iv.obj id _ _ ho hm
 have hin : ∀ j, j < sz -> i * esz + off + j < l.length * esz := fun j hj => by
  have := elt_lt hsz hel (j := off + j) (by omega)
  omega
 have hrun := storeVar_run (P := P) (t := t) (agg := agg) (sz := sz) (w := w) (b := b) (o := i * esz + off) (u := a.eval z) (by omega)
  (fun j hj => by rw [(hw _ (hin j hj)).1]; rfl) (fun j hj => (hw _ (hin j hj)).2) (rv_cells_one hsure h)
 obtain ⟨s1, s2, s3, s4, s5⟩ := heap_setCells b (a.eval z).cells.toList (i * esz + off) w
 have hxl : xs.length = l.length * esz := x1.1
 have helz : el.length = esz := hsz el (List.mem_of_getElem? hel)
 have hil : i < l.length := (List.getElem?_eq_some_iff.1 hel).1
 obtain ⟨q1, q2⟩ := setAll_get (a.eval z).cells.toList xs (i * esz + off) (by
  have := elt_lt hsz hel (j := off + sz - 1) (by omega)
  simp only [Array.length_toList]; omega)
 obtain ⟨h1, h2⟩ := inv_set (w' := w.setCells b (i * esz + off) (a.eval z).cells.toList) iv ho hm (o' := .arr e' esz (l.set i (lay el off ys))) (fun b' k' => Iff.rfl) s1 ⟨s3, s4, s5⟩
  (fun b' hb => by
   by_cases he : b' = b
   ·subst he; exact absurd rfl (hb 0)
   ·exact s2 b' he)
  (fun b' k' hf => by
   have hne : b' ≠ b := fun he => hf (by subst he; rfl)
   have := s2 b' hne
   exact ⟨cell_of_heap this, frozen_of_heap this⟩)
  (fun hRC hRP => by
   have hown := ownsRow_setCells (a.eval z).cells.toList (i * esz + off) w xs x1
   refine ⟨_, by simpa using hown, fun e he => ?_, fun i' e he j x hx => ?_⟩
   ·rcases List.mem_or_eq_of_mem_set he with he | he
    ·exact x2 e he
    ·rw [he, lay_length _ _ _ (by omega)]; exact helz
   ·rw [List.getD_eq_getElem?_getD, q2]
    simp only [Array.length_toList]
    by_cases hi' : i' = i
    ·subst hi'
     rw [List.getElem?_set_self hil] at he
     injection he with he; subst he
     rw [lay_get _ _ _ _ (by omega)] at hx
     split at hx
     ·rename_i hjn
      rw [if_pos (by omega)]
      have := e2 (j - off) (.p x) (by rw [hyc, List.getElem?_map, hx]; rfl)
      rw [Array.getD_eq_getD_getElem?] at this
      rw [Array.getElem?_toList, show i' * esz + j - (i' * esz + off) = j - off by omega]
      exact hRP _ _ this
     ·rename_i hjn
      rw [if_neg (by omega)]
      have := hRP _ _ (x3 i' el hel j x hx)
      rwa [List.getD_eq_getElem?_getD] at this
    ·rw [List.getElem?_set_ne (fun e => hi' e.symm)] at he
     have hjl : j < esz := by
      have := (List.getElem?_eq_some_iff.1 hx).1
      rw [x2 e (List.mem_of_getElem? he)] at this; exact this
     rw [if_neg (by
      intro hc
      rcases Nat.lt_or_ge i' i with hlt | hge
      ·have : i' * esz + esz <= i * esz := by rw [<- Nat.succ_mul]; exact Nat.mul_le_mul_right _ hlt
       omega
      ·have hlt : i < i' := by omega
       have : i * esz + esz <= i' * esz := by rw [<- Nat.succ_mul]; exact Nat.mul_le_mul_right _ hlt
       omega)]
     have := hRP _ _ (x3 i' e he j x hx)
     rwa [List.getD_eq_getElem?_getD] at this)
 refine ⟨undef, m, F, _, .inr ⟨?_, rfl⟩, h1, h2, trivial⟩
 simp only [execOp, hv, Instr.storeAt, Instr.sureAddr, Sem.run_bind, Sem.run_pure, Result.andThen_ok, hrun]
theorem t_storePart {t e' : TypeId} {agg : Bool} {sz esz : Nat} {x z : Operand} {y : AV} {ys : List PV} {id i off : Nat} {f : α -> List PV} {xs : List α} (v : α) [TV P t agg sz] [Inhabited α] (hx : ev fr x = .c (.ept id esz i off) := by exact rfl) (hy : ev fr z = y := by conv => lhs; whnf) (ho : σ[id]? = some (.arr e' esz (xs.map f)) := by exact tGet) (hi : i < xs.length := by first | omega | (simp only [List.length_set, List.length_append, List.length_replicate]; omega)) (hyc : unP y.cells = some ys := by exact rfl) (hsure : sureV y = true := by rfl) (hn : ys.length = sz := by rfl) (hle : off + sz <= (f (at' xs i)).length := by first | exact Nat.le_of_ble_eq_true rfl | (simp; done)) (hl : lay (f (at' xs i)) off ys = f v := by first | exact rfl | ((conv => lhs; simp only [lay, Int.reduceSub, Int.reduceToNat, Nat.reduceMul, Nat.reduceAdd, List.take_succ_cons, List.take_zero, List.drop_succ_cons, List.drop_zero, List.drop_nil, List.length_cons, List.length_nil, List.cons_append, List.nil_append]) <;> exact rfl))
  (hσ : σ.set id (.arr e' esz ((xs.set i v).map f)) = σ' := by exact tSet) (hgc : goodConst z = true := by rfl) :
  SStep P σ fr ⟨none, .store t x z, ty, pos, aft, none⟩ (.c .any) σ' := by
 have hel : (xs.map f)[i]? = some (f (at' xs i)) := by
  have := at_get xs (i : Int) (by omega) (by omega)
  rw [Int.toNat_natCast] at this
  rw [List.getElem?_map, this]; rfl
 refine s_storeEpt hx hy ho hel (unP_map hyc) hsure hn hle hl ?_ hgc
 rw [<- hσ]; congr 2; simp [List.map_set]
end
end Go.AL
namespace Go.AL
open Go.RowKit
section
variable {P : Program} {fn : Func} {N : NN} {K : KK} {R : CE -> List AObj -> Prop} {fr : Fr} {σ σ' : List AObj}
theorem awr_freezeIn {c : Code} (i1 i2 off : Nat) {n : Nat} {e : TypeId} {sz : Nat} {l : List (List PV)} {L L' : List C} (h1 : σ[i1]? = some (.arr e sz l)) (h2 : σ[i2]? = some (.cells L)) (hL : L[off]? = some (.ms i1 n)) (hn : n <= l.length) (hL' : L.set off (.p (.sl sz (l.take n))) = L') (hσ : (σ.set i1 .dead).set i2 (.cells L') = σ') (k : AWr P fn N K R c ⟨fr, σ'⟩) : AWr P fn N K R c ⟨fr, σ⟩ := by
 subst hL'; subst hσ
 exact awr_weak (rel_freezeIn h1 h2 hL hn) k
theorem ADCalls.mono {f : FuncId} {args : List AV} {U : World -> (Nat -> Nat -> Prop) -> FrameMode -> Prop} {R R' : FrameMode -> List AObj -> Prop} (h : ADCalls P f args σ U R) (hR : ∀ u s, R u s -> R' u s) : ADCalls P f args σ U R' :=
 fun m F w vs u i hu hs hv => (h m F w vs u i hu hs hv).mono fun e u' w' ⟨m', F', σ', a, b⟩ => ⟨m', F', σ', hR _ _ a, b⟩
end
end Go.AL
namespace Go.AL
open Go.RowKit
section
variable {P : Program} {N : NN} {Q : AE -> St -> Prop} {ops : Array Oper} {rest : List Oper} {σ σ' : List AObj} {fr : Fr}
variable {d : Nat} {ty : TypeId} {pos : String} {aft : Array Edge}
def isIf : PV -> Bool
 | .ifc _ _ => true
 | .ifa _ _ => true
 | _ => false
theorem rp_isIf {w : World} {F : Nat -> Nat -> Prop} {x : PV} {v : Value} (h : RP w F x v) (hi : isIf x = true) : ∃ t u, v = .iface t u := by
 cases h <;> first | exact ⟨_, _, rfl⟩ | cases hi
theorem k_panic {x : Operand} {pv : PV} (k : Q (.panic pv) ⟨fr, σ⟩) (hx : ev fr x = .c (.p pv) := by exact rfl) (hi : isIf pv = true := by rfl) : AList P N ops Q (⟨none, .panic x, ty, pos, aft, none⟩ :: rest) ⟨fr, σ⟩ := by
 intro m F a w hr
 refine wpList_plain rfl fun K hK => ?_
 have hv : RP w F pv (a.eval x) := by
  have := ev_rv (fr := fr) (m := m) (w := w) (F := F) (a := a) (x := x) (good_of_nl hx (fun v h => by injection h with h; rw [h] at hi; cases hi)) (fun t e => hr.fr t)
  rw [hx] at this
  exact this
 obtain ⟨t, u, e⟩ := rp_isIf hv hi
 have hrun : (execOp a.eval ⟨none, .panic x, ty, pos, aft, none⟩).run P w = .halt (.panic (.iface t u)) w := by
  simp [execOp, e, Instr.panic]
 unfold Oper.wp
 rw [hrun, Oper.upon_panic]
 exact ⟨m, F, ⟨fr, σ⟩, .panic pv, k, ⟨_, rfl, by rw [<- e]; exact hv⟩, hr, Step.refl ..⟩
theorem k_callCXp {f : FuncId} [TFn P f] {y : Operand} {xs : Array Operand} {ts : Array TypeId} {cargs : List AV} {lc lc' L L' : List C} {X X' : XO} {pv : PV} (i0 i1 : Nat)
  (h : ACalls P f cargs [.cells lc, .ext X] (fun r σ' => r = .panic pv /\ ∃ g, σ' = .cells lc' :: .ext X' :: g)) (h0 : σ[i0]? = some (.cells L)) (h1 : σ[i1]? = some (.ext X)) (hne : i0 ≠ i1)
  (hL : L = lc.map (renC (ren1 [(i0, 0), (i1, 0)]))) (hL' : L' = lc'.map (renC (ren2 [(i0, 0), (i1, 0)] σ.length)))
  (hσ : (σ.set i0 (.cells L')).set i1 (.ext X') = σ') (k : Q (.panic pv) ⟨fr, σ'⟩) (hlen : lc'.length = lc.length := by rfl) (hok : lc.all (okC 2) = true := by rfl) (hok' : lc'.all (okC 2) = true := by rfl)
  (hy : ev fr y = .c (.p (.lit (.func (.func f) #[] #[]))) := by exact rfl) (hx : xs.toList.map (ev fr) = cargs.map (renV (ren1 [(i0, 0), (i1, 0)])) := by (try simp only [↓ev, litAV, ↓Fr.get, ↓reduceIte, Nat.reduceEqDiff, List.map]) <;> rfl) (hoka : cargs.all (okV 2) = true := by rfl)
  (hd : Nat.blt d N = true := by rfl) (hg : xs.toList.all goodConst = true := by rfl) :
  AList P N ops Q (⟨some d, .call { callee := .value y, args := xs, argTypes := ts }, ty, pos, aft, none⟩ :: rest) ⟨fr, σ⟩ := by
 subst hL; subst hL'; subst hσ
 refine w_call (ι := Unit) (Φ := fun _ => True) (rr := fun _ => .panic pv) (σo := fun _ => [.cells lc', .ext X']) (σc := [.cells lc, .ext X]) (cargs := cargs) [(i0, 0), (i1, 0)] hy (h.mono fun r σ' ⟨h1, g, h2⟩ => ⟨(), trivial, h1, g, by rw [h2]; rfl⟩) hx hoka rfl (by simp [hne]) (fun q id off oc q1 q2 => ?_) (fun _ _ => ⟨?_, rfl⟩) hd (fun _ _ => ?_) hg
 ·match q, q1, q2 with
  | 0, q1, q2 =>
   injection q1 with q1; injection q1 with q1 q1'; injection q2 with q2
   subst q1; subst q1'; subst q2
   exact ⟨_, h0, _, rfl, by simp, by rw [List.drop_zero, List.take_of_length_le (by simp)], hok⟩
  | 1, q1, q2 =>
   injection q1 with q1; injection q1 with q1 q1'; injection q2 with q2
   subst q1; subst q1'; subst q2
   exact ⟨_, h1, rfl, rfl⟩
  | n + 2, q1, _ => cases q1
 ·simp only [okBack, hok', hlen, Bool.and_true, List.all_nil, Bool.true_and, List.length_cons, List.length_nil]
  exact Nat.beq_refl _
 ·have e0 : σ.getD i0 .dead = .cells (lc.map (renC (ren1 [(i0, 0), (i1, 0)]))) := by rw [List.getD_eq_getElem?_getD, h0]; rfl
  have e1 : (σ.set i0 (.cells (lc'.map (renC (ren2 [(i0, 0), (i1, 0)] σ.length))))).getD i1 .dead = .ext X := by rw [List.getD_eq_getElem?_getD, List.getElem?_set_ne hne, h1]; rfl
  simp only [back, e0, backO]
  rw [lay_whole (by simp [hlen])]
  simpa using k
end
end Go.AL
namespace Go.AL
open Go.RowKit
section
variable {P : Program} {N : NN} {Q : AE -> St -> Prop} {ops : Array Oper} {σ : List AObj} {pv : PV}
def GStepP (P : Program) (σ : List AObj) (ops : Array Oper) (pv : PV) (g : FrF) (o : Oper) (v : AV) : Prop :=
 ∀ m F w (a : Act), Inv m F σ w -> (∀ t, t ∈ o.looksAt ops -> RV m w F (g t) (a.tmps.getD t undef)) ->
  ∀ K Q, (∀ x F' w', Grow F w F' w' -> RV m w' F' v x -> K (a.put o.dst x) w') -> (∀ ch F' w', Grow F w F' w' -> RE w' F' (.panic pv) (.panic ch) -> Q (.panic ch) a w') -> if Region.wanted o (yielded ops a.tmps) then o.wp P a w K Q else K (a.put o.dst undef) w
theorem GStepP.congr {g g' : FrF} {o : Oper} {v : AV} (h : GStepP P σ ops pv g o v) (he : ∀ t ∈ o.looksAt ops, g' t = g t) : GStepP P σ ops pv g' o v :=
 fun m F w a i hs K Q hK hQ => h m F w a i (fun t ht => by rw [<- he t ht]; exact hs t ht) K Q hK hQ
theorem GStepP.still {g : FrF} {o : Oper} {v : AV} (h : GStep P σ ops g o v) : GStepP P σ ops pv g o v := fun m F w a i hs K Q hK _ => h m F w a i hs K Q hK
def PStep (P : Program) (σ : List AObj) (fr : Fr) (o : Oper) (pv : PV) : Prop :=
 ∀ m F w (a : Act), Inv m F σ w -> (∀ t, (.tmp t : Operand) ∈ o.op.operands -> RV m w F (fr.get t) (a.tmps.getD t undef)) ->
  ∀ (K : Act -> World -> Prop) Q, (∀ ch F' w', Grow F w F' w' -> RE w' F' (.panic pv) (.panic ch) -> Q (.panic ch) a w') -> o.wp P a w K Q
theorem GStepP.pan {fr : Fr} {o : Oper} {v : AV} (hg : o.guard = none) (h : PStep P σ fr o pv) : GStepP P σ ops pv fr.get o v := by
 intro m F w a i hs K Q _ hQ
 rw [if_pos (by simp [Region.wanted, hg])]
 exact h m F w a i (fun t ht => hs t (List.mem_append_left _ (List.mem_filterMap.2 ⟨.tmp t, by simpa using ht, rfl⟩))) K Q hQ
inductive RStepsP (P : Program) (σ : List AObj) (ops : Array Oper) (pv : PV) : List Oper -> Fr -> Fr -> Prop
 | nil {fr : Fr} : RStepsP P σ ops pv [] fr fr
 | cons {o : Oper} {l : List Oper} {fr fr' : Fr} {v : AV} (h : GStepP P σ ops pv fr.get o v) (t : RStepsP P σ ops pv l (fr.put o.dst v) fr') : RStepsP P σ ops pv (o :: l) fr fr'
def absP (P : Program) (σ : List AObj) (ops : Array Oper) (pv : PV) (n : Nat) (L : Array Bool -> FrF -> Prop) : Nat -> Array Bool -> FrF -> Prop
 | 0, listed, g => L listed g
 | f + 1, listed, g => Region.ready .any ops listed ≠ [] /\ ∀ i ∈ Region.ready .any ops listed, i < n /\ ∃ o v, ops[i]? = some o /\ GStepP P σ ops pv g o v /\ absP P σ ops pv n L f (listed.setIfInBounds i true) (g.put o.dst v)
theorem absP_first {n i : Nat} {oi : Oper} {v : AV} {L : Array Bool -> FrF -> Prop} (hi : ops[i]? = some oi)
  (hs : Region.sinkB .any ops n = true) (hc : Region.chainB .any ops n = true) (hn : n < ops.size) (hin : i < n)
  (hdone : ∀ listed a, L listed a -> ∀ j ∈ Region.ready .any ops listed, n <= j) :
  ∀ (f : Nat) (listed : Array Bool) (g : FrF), HeadInv .any ops n listed ->
   (∀ j oj, ops[j]? = some oj -> j ≠ i -> listed.getD j true = false -> (∀ e ∈ oj.after, Region.binds .any e = true -> e.on ≠ i) -> oi.apart ops oj = true) ->
   i ∈ Region.ready .any ops listed -> GStepP P σ ops pv g oi v ->
   absP P σ ops pv n L f (listed.setIfInBounds i true) (g.put oi.dst v) -> absP P σ ops pv n L (f + 1) listed g := by
 intro f
 induction f with
 | zero =>
  intro listed g inv _ hr hy H
  have hun := (mem_ready.1 hr).1
  refine ⟨fun h => (by rw [h] at hr; cases hr), fun j hj => ?_⟩
  have hjn : j < n := by
   rcases Nat.lt_or_ge j n with h | h
   ·exact h
   ·exact absurd hj (tail_waits hs hc hn inv _ i rfl hin hun j h)
  refine ⟨hjn, ?_⟩
  by_cases hji : j = i
  ·subst hji; exact ⟨oi, v, hi, hy, H⟩
  ·have := hdone _ _ H j (ready_mono hj hji)
   omega
 | succ f ih =>
  intro listed g inv hfree hr hy H
  have hun := (mem_ready.1 hr).1
  refine ⟨fun h => (by rw [h] at hr; cases hr), fun j hj => ?_⟩
  have hjn : j < n := by
   rcases Nat.lt_or_ge j n with h | h
   ·exact h
   ·exact absurd hj (tail_waits hs hc hn inv _ i rfl hin hun j h)
  refine ⟨hjn, ?_⟩
  by_cases hji : j = i
  ·subst hji; exact ⟨oi, v, hi, hy, H⟩
  ·obtain ⟨_, oj, u, hoj, hu, h1⟩ := H.2 j (ready_mono hj hji)
   obtain ⟨hjun, oj', hoj', hall⟩ := mem_ready.1 hj
   have hoo : oj' = oj := Option.some.inj (hoj'.symm.trans hoj)
   subst hoo
   have hnot : ∀ e ∈ oj'.after, Region.binds .any e = true -> e.on ≠ i := fun e he hb heq => by
    have h1 := hall e he hb
    rw [heq, getD_both hun] at h1
    cases h1
   obtain ⟨a1, a2, a3⟩ := Oper.apart_spec (hfree j oj' hoj hji hjun hnot)
   have hu' : GStepP P σ ops pv g oj' u := hu.congr fun t ht => (FrF.put_off g v fun e he hte => a1 e he (hte ▸ ht)).symm
   have hy' : GStepP P σ ops pv (g.put oj'.dst u) oi v := hy.congr fun t ht => FrF.put_off g u fun e he hte => a3 e he (hte ▸ ht)
   have hfree' : ∀ k ok, ops[k]? = some ok -> k ≠ i -> (listed.setIfInBounds j true).getD k true = false ->
     (∀ e ∈ ok.after, Region.binds .any e = true -> e.on ≠ i) -> oi.apart ops ok = true := fun k ok hk hki hun hno => by
    refine hfree k ok hk hki ?_ hno
    by_cases hjk : j = k
    ·subst hjk; exact hjun
    ·rw [getD_set_ne true hjk] at hun; exact hun
   refine ⟨oj', u, hoj, hu', ih (listed.setIfInBounds j true) _ (inv.set hj hjn) hfree' (ready_mono hr (Ne.symm hji)) hy' ?_⟩
   rw [Array.setIfInBounds_comm _ _ hji, <- FrF.put_comm g v u a2]
   exact h1
theorem absP_lex {n k2 : Nat} {L : FrF -> Prop} (hs : Region.sinkB .any ops n = true) (hc : Region.chainB .any ops n = true) (hn : n < ops.size) :
  ∀ (l : List Oper) (k : Nat) (listed : Array Bool) (fr fr' : Fr), (∀ j, j < l.length -> l[j]? = ops[k + j]?) -> k + l.length = n -> HeadInv .any ops n listed ->
  Region.lexHead .any ops k2 l.length k listed = true -> RStepsP P σ ops pv l fr fr' -> L fr'.get ->
  absP P σ ops pv n (fun listed' g => Region.seqB .any ops k2 n listed' = true /\ L g) l.length listed fr.get
 | [], k, listed, fr, fr', _, hk, _, hB, h, hL => by
  have : k = n := by simpa using hk
  subst this
  cases h
  exact ⟨by simpa [Region.lexHead] using hB, hL⟩
 | o :: l, k, listed, fr, fr', hl, hk, inv, hB, h, hL => by
  have h0 : ops[k]? = some o := by simpa using (hl 0 (by simp)).symm
  simp only [List.length_cons, Region.lexHead, Bool.and_eq_true] at hB
  obtain ⟨⟨hr, hf⟩, hB'⟩ := hB
  have hkn : k < n := by simp only [List.length_cons] at hk; omega
  have hr' : k ∈ Region.ready .any ops listed := by simpa using hr
  cases h with
  | cons hy ht =>
   refine absP_first h0 hs hc hn hkn (fun listed' a' hL => seqB_ready hL.1) l.length listed _ inv (Region.free_spec h0 hf) hr' hy ?_
   rw [<- FrF.put_get]
   exact absP_lex hs hc hn l (k + 1) _ _ _ (fun j hj => by have := hl (j + 1) (by simp; omega); simpa [Nat.add_assoc, Nat.add_comm 1 j] using this) (by simp only [List.length_cons] at hk; omega) (inv.set hr' hkn) hB' ht hL
theorem wpAny_of_absP {n k2 : Nat} {L : Array Bool -> FrF -> Prop} (hd : ops.all (dstOk N) = true) (hq : Q (.panic pv) ⟨[], σ⟩)
  (hL : ∀ listed g, L listed g -> ∀ m F a w, RelF N m F g σ a w -> wpAny P .any ops (Post N Q m F σ w) k2 listed a w) :
  ∀ (f : Nat) (listed : Array Bool) (g : FrF), absP P σ ops pv n L f listed g -> ∀ m F a w, RelF N m F g σ a w -> wpAny P .any ops (Post N Q m F σ w) (f + k2) listed a w
 | 0, listed, g, h, m, F, a, w, hr => by rw [Nat.zero_add]; exact hL _ _ h m F a w hr
 | f + 1, listed, g, h, m, F, a, w, hr => by
  rw [show f + 1 + k2 = (f + k2) + 1 by omega]
  refine ⟨fun h0 => absurd h0 h.1, fun i hi => ?_⟩
  obtain ⟨_, o, v, ho, hy, hrest⟩ := h.2 i hi
  unfold wpOp
  simp only [ho]
  have hdo : dstOk N o = true := Array.all_eq_true_iff_forall_mem.1 hd o (Array.mem_of_getElem? ho)
  have key := hy m F w a hr.inv (fun t _ => hr.fr t) (wpAny P .any ops (Post N Q m F σ w) (f + k2) (listed.setIfInBounds i true)) (Post N Q m F σ w) (fun x F' w' gr hx => by
   have hr1 := (hr.grow gr).put (dst_lt hdo) hx
   have := wpAny_of_absP hd hq hL f _ _ hrest m F' _ w' hr1
   exact wpAny_post_mono (fun e a1 w1 hp => hp.trans hr.inv hr1.inv gr.step) _ _ _ _ this)
   (fun ch F' w' gr hre => ⟨m, F', ⟨[], σ⟩, .panic pv, hq, hre, ⟨hr.inv.grow gr, fun t => trivial, hr.size, hr.defers⟩, gr.step⟩)
  split
  ·rename_i hw; rw [if_pos hw] at key; exact .inl key
  ·rename_i hw; rw [if_neg hw] at key; exact key
theorem aw_drawP {id : Nat} {l : List Oper} {fr fr' : Fr} (n : Nat) (hm : P.follows .mixedOrders = true) (hB : Region.lexTailB .any l.toArray n = true) (hd : l.toArray.all (dstOk N) = true) (hq : Q (.panic pv) ⟨[], σ⟩) (h : RStepsP P σ l.toArray pv (l.take n) fr fr') (k : AList P N l.toArray Q (l.drop n) ⟨fr', σ⟩) : AWp P N (.region id l.toArray true) Q ⟨fr, σ⟩ := by
 intro m F a w hr
 simp only [Region.lexTailB, Bool.and_eq_true, decide_eq_true_eq] at hB
 obtain ⟨⟨⟨⟨hsel, hn⟩, hs⟩, hc⟩, hlex⟩ := hB
 have hn' : n < l.length := by simpa using hn
 have htl : (l.take n).length = n := by simp; omega
 have hdl : (l.drop n).length = l.toArray.size - n := by simp
 have inv0 : HeadInv .any l.toArray n (Array.replicate l.toArray.size false) :=
  ⟨by simp, fun j oj _ hl => (by rw [getD_replicate_false] at hl; cases hl), fun t _ ht => getD_in (by simpa using ht) (getD_replicate_false _ _)⟩
 have H := absP_lex (P := P) (σ := σ) (ops := l.toArray) (k2 := l.toArray.size - n) (L := fun g => g = fr'.get) hs hc hn (l.take n) 0 _ fr fr' (fun j hj => by
  have hj' : j < n := by rw [htl] at hj; exact hj
  simp [hj']) (by simpa using htl) inv0 (by rw [htl]; exact hlex) h rfl
 refine wp_region_any hm ?_
 have hg : Grow F w F { w with drawn := w.drawn + 1 } := Grow.drew F w
 have hr1 : RelF N m F fr.get σ a { w with drawn := w.drawn + 1 } := ⟨hr.inv.grow hg, fun t => (hr.fr t).grow hr.inv hg, hr.size, hr.defers⟩
 have := wpAny_of_absP (Q := Q) (pv := pv) (k2 := l.toArray.size - n) hd hq (fun listed g hL m F a w hr => by
  obtain ⟨hL1, rfl⟩ := hL
  have hk := k m F a w ⟨hr.inv, hr.fr, hr.size, hr.defers⟩
  have := wpAny_of_seq (md := .any) (l.drop n) n listed a w (fun j => by simp [List.getElem?_drop]) (by rw [hdl]; exact hL1) hk
  rwa [hdl] at this) _ _ _ H m F a _ hr1
 rw [htl, show n + (l.toArray.size - n) = l.toArray.size by omega] at this
 exact wpAny_post_mono (fun e a1 w1 hp => hp.trans hr.inv hr1.inv hg.step) _ _ _ _ this
abbrev never (σ : List AObj) : AV := .c (.ptr σ.length 0)
theorem alist_never {ops : Array Oper} {l : List Oper} {fr : Fr} (t : Nat) (h : fr.get t = never σ) : AList P N ops Q l ⟨fr, σ⟩ := by
 intro m F a w hr
 have hx := hr.fr t
 rw [h] at hx
 have hl : m.length = σ.length := hr.inv.len
 exfalso
 obtain ⟨b, o, h0, _⟩ : ∃ b o, m[σ.length]? = some (.at b o) /\ a.tmps.getD t undef = .pointer (some ⟨b, o + 0, none⟩) := hx
 rw [List.getElem?_eq_none (by omega)] at h0
 cases h0
def DP (P : Program) (N : NN) (ops : Array Oper) (Q : AE -> St -> Prop) (σ : List AObj) (pv : PV) (tail head : List Oper) (fr : Fr) : Prop :=
 ∃ fr', RStepsP P σ ops pv head fr fr' /\ AList P N ops Q tail ⟨fr', σ⟩
theorem dp_nil {tail : List Oper} {fr : Fr} (t : Nat) (h : fr.get t = never σ) : DP P N ops Q σ pv tail [] fr := ⟨fr, .nil, alist_never t h⟩
theorem dp_op {tail r : List Oper} {fr : Fr} {d : Nat} {op : Op} {ty : TypeId} {pos : String} {aft : Array Edge} {v : AV} (h : RStep P σ fr ⟨some d, op, ty, pos, aft, none⟩ v) (t : DP P N ops Q σ pv tail r ((d, v) :: fr)) : DP P N ops Q σ pv tail (⟨some d, op, ty, pos, aft, none⟩ :: r) fr := by
 obtain ⟨fr', h1, h2⟩ := t
 exact ⟨fr', .cons (.still (.of rfl h)) h1, h2⟩
theorem dp_pan {tail r : List Oper} {fr : Fr} {d : Nat} {op : Op} {ty : TypeId} {pos : String} {aft : Array Edge} (h : PStep P σ fr ⟨some d, op, ty, pos, aft, none⟩ pv) (t : DP P N ops Q σ pv tail r ((d, never σ) :: fr)) : DP P N ops Q σ pv tail (⟨some d, op, ty, pos, aft, none⟩ :: r) fr := by
 obtain ⟨fr', h1, h2⟩ := t
 exact ⟨fr', .cons (.pan rfl h) h1, h2⟩
theorem aw_p {id : Nat} {l : List Oper} {fr : Fr} (n : Nat) (pv : PV) (hm : P.follows .mixedOrders = true) (hq : Q (.panic pv) ⟨[], σ⟩) (h : DP P N l.toArray Q σ pv (l.drop n) (l.take n) fr) (hB : Region.lexTailB .any l.toArray n = true := by kernel_rfl) (hd : l.toArray.all (dstOk N) = true := by kernel_rfl) : AWp P N (.region id l.toArray true) Q ⟨fr, σ⟩ := by
 obtain ⟨fr', h1, h2⟩ := h
 exact aw_drawP n hm hB hd hq h1 h2
theorem p_call {fr : Fr} {d : Option Nat} {ty : TypeId} {pos : String} {aft : Array Edge} {g : Option (Nat × Bool)} {f : FuncId} [TFn P f] {y : Operand} {xs : Array Operand} {ts : Array TypeId} {args : List AV} (h : ACalls P f args [] (fun r _ => r = .panic pv)) (hy : ev fr y = .c (.p (.lit (.func (.func f) #[] #[]))) := by exact rfl) (hx : xs.toList.map (ev fr) = args := by (try simp only [↓ev, litAV, ↓Fr.get, ↓reduceIte, Nat.reduceEqDiff, List.map]) <;> rfl)
  (hp : args.all pureV = true := by rfl) (hg : xs.toList.all goodConst = true := by rfl) : PStep P σ fr ⟨d, .call { callee := .value y, args := xs, argTypes := ts }, ty, pos, aft, g⟩ pv := by
 intro m F w a i hop K Q hQ
 have hs' : ∀ x, x ∈ xs -> goodConst x = true -> RV m w F (ev fr x) (a.eval x) := fun x hx hc => ev_rv hc fun t e => by subst e; exact hop t (by simp [Op.operands, Call.operands, hx])
 have hf : a.eval y = .func (.func f) #[] #[] := by
  have := ev_rv (fr := fr) (m := m) (w := w) (F := F) (a := a) (good_of_lit hy) (fun t e => by subst e; exact hop t (by simp [Op.operands, Call.operands]))
  rw [hy] at this
  exact RP.eq_lit this
 obtain ⟨h1, h2⟩ := callArgs hx hs' hg
 refine wp_callFn hf ((h [] F w _ i.none h1 (fun j y hj => rv_pure (List.all_eq_true.1 hp y (List.mem_of_getElem? hj)) (h2 j y hj))).mono fun e w' he => ?_)
 obtain ⟨m', F', σ', r, rfl, hr, hi, hst⟩ := he
 cases e with
 | returned u => exact hr.elim
 | panicked ch => exact hQ ch F' w' (hst.grow hi) hr
 | outgrown => exact hr.elim
end
end Go.AL
namespace Go.AL
open Go.RowKit
section
variable {P : Program} {σ : List AObj} {fr : Fr} {d : Option Nat} {ty : TypeId} {pos : String} {aft : Array Edge} {g : Option (Nat × Bool)}
theorem run_equalIn_iface_nil (w : World) (n : Nat) (t s : TypeId) (v : Value) (hu : P.underlying t = some (.interface (P.methodsAt t))) : (Op.equalIn (n + 1) t (.iface s v) .nilIface).run P w = .ok false w := by
 simp [Op.equalIn, run_underlying hu]
theorem run_equal_iface_nil (w : World) (t s : TypeId) (v : Value) (hu : P.underlying t = some (.interface (P.methodsAt t))) : (Op.equal t (.iface s v) .nilIface).run P w = .ok false w := run_equalIn_iface_nil w 9999 t s v hu
theorem b_ifaceNe {t t' : TypeId} {x : Operand} {pv : PV} (hu : P.underlying t = some (.interface (P.methodsAt t))) (hx : ev fr x = .c (.p pv) := by exact rfl) (hi : isIf pv = true := by rfl) : RStep P σ fr ⟨d, .binOp .eql t x (.const .nilIface) t', ty, pos, aft, g⟩ (bl false) :=
 rs_pure fun m F w a i hs => by
  have h1 := hs x (by simp [Op.operands]) (good_of_nl hx (fun v h => by injection h with h; rw [h] at hi; cases hi))
  rw [hx] at h1
  obtain ⟨s, u, e⟩ := rp_isIf h1 hi
  refine ⟨.bool false, ?_, RP.lit rfl⟩
  have hq := run_equal_iface_nil (P := P) w t s u hu
  have e2 : a.eval (.const .nilIface) = .nilIface := rfl
  simp [execOp, e, e2, eqGuard, binOp, hq, Result.andThen]
theorem b_tassert {t xT : TypeId} {x : Operand} {l : List PV} {fs : Array Field} (hu : P.underlying t = some (.struct fs)) (hx : ev fr x = .c (.p (.ifa t l)) := by exact rfl) : RStep P σ fr ⟨d, .typeAssert x xT t true, ty, pos, aft, g⟩ (.tup [.agg (l.map .p), bl true]) :=
 rs_pure fun m F w a i hs => by
  have h1 := hs x (by simp [Op.operands]) (good_of_nl hx (fun v h => by cases h))
  rw [hx] at h1
  have h1 : RP w F (.ifa t l) (a.eval x) := h1
  cases he : a.eval x with
  | iface s v =>
   rw [he] at h1
   cases h1 with
   | ifa vs hz hr =>
    refine ⟨.tuple #[.agg vs, .bool true], ?_, ⟨_, rfl, rfl, fun j y hj => ?_⟩⟩
    ·simp [execOp, he, Instr.typeAssert, run_underlying hu, Result.andThen]
    ·match j, hj with
     | 0, hj =>
      injection hj with hj; subst hj
      refine ⟨vs, rfl, by simp [hz], fun j y hj => ?_⟩
      rw [List.getElem?_map] at hj
      cases hl : l[j]? with
      | none => rw [hl] at hj; cases hj
      | some q =>
       rw [hl] at hj
       injection hj with hj; subst hj
       exact hr j q hl
     | 1, hj => injection hj with hj; subst hj; exact RP.lit rfl
     | n + 2, hj => cases hj
  | _ => rw [he] at h1; cases h1
end
end Go.AL
namespace Go.AL
section
variable {P : Program} {N : NN} {Q : AE -> St -> Prop} {ops : Array Oper} {rest : List Oper} {σ σ' : List AObj} {fr : Fr} {ty : TypeId} {pos : String} {aft : Array Edge} {α : Type}
end
end Go.AL
namespace Go.AL
section
variable {P : Program} {N : NN} {Q : AE -> St -> Prop} {ops : Array Oper} {rest : List Oper} {σ σ' : List AObj} {fr : Fr} {ty : TypeId} {pos : String} {aft : Array Edge} {α : Type}
theorem loaded_at {l : List C} {i : Nat} {c : C} (h : l[i]? = some c) : loaded false 1 (l.drop i) = some (.c c) := by
 have hlt := (List.getElem?_eq_some_iff.1 h).1
 rw [List.drop_eq_getElem_cons hlt]
 have : l[i] = c := by rw [List.getElem?_eq_getElem hlt] at h; exact Option.some.inj h
 rw [this]; rfl
theorem lay_at {l : List C} {i : Nat} {c : C} (h : i < l.length) : lay l i [c] = l.set i c := by
 unfold lay
 rw [List.set_eq_take_append_cons_drop, if_pos h]
 simp
theorem b_loadAt [Inhabited α] {d : Option Nat} {g : Option (Nat × Bool)} {t : TypeId} {x : Operand} {id off : Nat} {f : α -> C} {xs : List α} (i : Nat) (hi : i < xs.length) [TV P t false 1] (hx : ev fr x = .c (.ptr id off) := by exact rfl) (ho : σ[id]? = some (.cells (xs.map f)) := by exact tGet) (hoff : off = i := by omega) : RStep P σ fr ⟨d, .load t x, ty, pos, aft, g⟩ (.c (f (at' xs (i : Int)))) := by
 subst hoff
 refine b_loadPtr hx ho (loaded_at ?_)
 have e := at_get xs (off : Int) (by omega) (by omega)
 rw [Int.toNat_natCast] at e
 rw [List.getElem?_map, e]
 rfl
theorem k_storeAt {t : TypeId} {x z : Operand} {id off : Nat} {f : α -> C} {xs : List α} (i : Nat) (v : α) (hi : i < xs.length) [TV P t false 1] (k : AList P N ops Q rest ⟨fr, σ'⟩) (hx : ev fr x = .c (.ptr id off) := by exact rfl) (hy : ev fr z = .c (f v) := by exact rfl) (hsure : sureV (.c (f v)) = true := by rfl) (ho : σ[id]? = some (.cells (xs.map f)) := by exact tGet)
  (hσ : σ.set id (.cells ((xs.set i v).map f)) = σ' := by exact tSet) (hoff : off = i := by omega) (hgc : goodConst z = true := by rfl) :
  AList P N ops Q (⟨none, .store t x z, ty, pos, aft, none⟩ :: rest) ⟨fr, σ⟩ := by
 subst hoff
 refine w_store (sz := 1) hx hy ho hsure rfl (by rw [List.length_map]; omega) ?_ hσ k hgc
 show lay (xs.map f) off [f v] = _
 rw [lay_at (by simpa using hi), List.map_set]
end
end Go.AL
namespace Go.AL
open Go.RowKit
theorem shift0 (l : Loc) : shift l 0 = l := by cases l <;> simp [shift]
theorem ren_pure (ρ : Ren) (l : List PV) : (l.map C.p).map (renC ρ) = l.map C.p := by
 rw [List.map_map]; rfl
theorem acalls_out {P : Program} {f : FuncId} {args : List AV} {L0 lo : List PV} {e : TypeId} {sz n : Nat} {l : List (List PV)} {a b c : PV} (h : ACalls P f args [.cells (L0.map .p)] (fun r σ' => ∃ i, i ≠ 0 /\ r = .ret (.agg [.p a, .p b, .p c, .ms i n]) /\ σ'[0]? = some (.cells (lo.map .p)) /\ σ'[i]? = some (.arr e sz l))) :
  ACalls P f args [.cells (L0.map .p)] (fun r σ' => r = .ret (.agg [.p a, .p b, .p c, .ms 1 n]) /\ σ' = [.cells (lo.map .p), .arr e sz l]) := by
 intro m F w vs i hs hv
 refine (h m F w vs i hs hv).mono fun en w' he => ?_
 obtain ⟨m', F', σ', r, ⟨id, h0, rfl, ho, ha⟩, hr, hi, hst⟩ := he
 obtain ⟨mc, c1, c2, c3, c4⟩ := inv_in (ρl := [(0, 0), (id, 0)]) (σc := [.cells (lo.map .p), .arr e sz l]) hi rfl (by simpa using Ne.symm h0) (fun k id' off oc h1 h2 => by
  match k, h1, h2 with
  | 0, h1, h2 =>
   simp at h1 h2
   obtain ⟨rfl, rfl⟩ := h1; subst h2
   refine ⟨_, ho, lo.map .p, rfl, by simp, ?_, ?_⟩
   ·rw [ren_pure, List.drop_zero]; exact List.take_of_length_le (by simp)
   ·simp [okC]
  | 1, h1, h2 =>
   simp at h1 h2
   obtain ⟨rfl, rfl⟩ := h1; subst h2
   exact ⟨_, ha, rfl⟩
  | k + 2, h1, h2 => simp at h1)
 have hml : m.length = 1 := i.len
 obtain ⟨l0, rfl⟩ : ∃ l0, m = [l0] := by
  match m, hml with
  | [x], _ => exact ⟨x, rfl⟩
 obtain ⟨kk, hkk⟩ := hst.ext
 have e0 : mc[0]? = some l0 := by
  obtain ⟨x, q1, q2⟩ := c2 0 (by simp)
  rw [q2]
  have : m'[0]? = some l0 := by rw [hkk]; rfl
  have q1 : m'[0]? = some x := q1
  rw [this] at q1
  cases q1
  exact congrArg some (shift0 _)
 refine ⟨mc, F', _, _, ⟨rfl, rfl⟩, ?_, c3, ⟨?_, hst.fm, hst.os, hst.tape, hst.output, hst.size, hst.blk, hst.cel, fun b k hf => ?_⟩⟩
 ·cases en with
  | returned u => exact rv_unren (n := 2) c2 (by rfl) (show RV m' w' F' (renV (ren1 [(0, 0), (id, 0)]) (.agg [.p a, .p b, .p c, .ms 1 n])) u from hr)
  | panicked ch => exact hr.elim
  | outgrown => exact hr.elim
 ·match mc, e0 with
  | x :: r, e0 => simp at e0; subst e0; exact ⟨r, rfl⟩
 ·rcases hf with hf | hf
  ·obtain ⟨j, oj, lj, h1, h2, h3⟩ := hf
   obtain ⟨id', off, o, l', a1, a2, a3, a4, a5⟩ := c4 j oj lj h1 h2
   exact hst.new b k (.inl ⟨id', o, l', a2, a3, a5 b k h3⟩)
  ·exact hst.new b k (.inr hf)
end Go.AL
namespace Go.AL
open Go.RowKit
section
variable {P : Program} {N : NN} {Q : AE -> St -> Prop} {ops : Array Oper} {rest : List Oper} {σ σ' : List AObj} {fr : Fr}
variable {d : Nat} {ty : TypeId} {pos : String} {aft : Array Edge} {v : AV}
theorem k_callOut {f : FuncId} [TFn P f] {y : Operand} {xs : Array Operand} {ts : Array TypeId} {cargs : List AV} {lc lo : List PV} {a b c : PV} {e : TypeId} {sz n id : Nat} {l : List (List PV)}
  (h : ACalls P f cargs [.cells (lc.map .p)] (fun r σ' => r = .ret (.agg [.p a, .p b, .p c, .ms 1 n]) /\ σ' = [.cells (lo.map .p), .arr e sz l]))
  (k : AList P N ops Q rest ⟨(d, .agg [.p a, .p b, .p c, .ms id n]) :: fr, σ'⟩) (hlen : lo.length = lc.length := by rfl) (ho : σ[0]? = some (.cells (lc.map .p)) := by first | exact rfl | exact getGP (by assumption) rfl rfl)
  (hm : σ.length = id := by exact tLen) (hσ : σ.set 0 (.cells (lo.map .p)) ++ [.arr e sz l] = σ' := by first | rfl | exact addG (by conv => lhs; simp only [List.set, List.cons_append, List.nil_append]) | exact addG0 (by conv => lhs; simp only [List.set, List.cons_append, List.nil_append]) | (conv => lhs; simp only [List.set, List.cons_append, List.nil_append, List.append_assoc])) (hd : Nat.blt d N = true := by rfl)
  (hy : ev fr y = .c (.p (.lit (.func (.func f) #[] #[]))) := by exact rfl) (hx : xs.toList.map (ev fr) = cargs.map (renV (ren1 [(0, 0)])) := by (try simp only [↓ev, litAV, ↓Fr.get, ↓reduceIte, Nat.reduceEqDiff, List.map]) <;> rfl) (hok : cargs.all (okV 1) = true := by rfl) (hg : xs.toList.all goodConst = true := by rfl) :
  AList P N ops Q (⟨some d, .call { callee := .value y, args := xs, argTypes := ts }, ty, pos, aft, none⟩ :: rest) ⟨fr, σ⟩ := by
 subst hm; subst hσ
 refine k_callR (rv := .agg [.p a, .p b, .p c, .ms 1 n]) (σc := [.cells (lc.map .p)]) (σo := [.cells (lo.map .p), .arr e sz l]) [(0, 0)] (h.mono fun _ _ ⟨h1, h2⟩ => ⟨h1, [], by rw [h2]; rfl⟩) ⟨⟨_, ho, lc.map .p, rfl, by simp, ?_, ?_⟩, trivial⟩ (by simp) ?_ (σ' := σ.set 0 (.cells (lo.map .p)) ++ [.arr e sz l]) ?_ ?_ (by rfl) hok hy hx hd hg
 ·rw [ren_pure, List.drop_zero]; exact List.take_of_length_le (by simp)
 ·simp [okC]
 ·simp [okBack, okO, okC, hlen]
 ·have hb : σ.getD 0 .dead = .cells (lc.map .p) := by rw [List.getD_eq_getElem?_getD, ho]; rfl
  simp only [back, hb, List.append_nil]
  show σ.set 0 (.cells (lay (lc.map C.p) 0 ((lo.map C.p).map (renC _)))) ++ [.arr e sz l] = _
  rw [ren_pure, lay_all (by simp [hlen])]
 ·show AList P N ops Q rest ⟨(d, .agg [.p a, .p b, .p c, .ms (ren2 [(0, 0)] σ.length 1).1 n]) :: fr, _⟩
  exact k
end
end Go.AL
namespace Go.AL
open Go.RowKit
theorem retC3 {P : Program} {fn : Func} {R : CE -> List AObj -> Prop} {fr : Fr} {σ : List AObj} {c c' u : Tmp} {t t' : TypeId} {agg agg' : Bool} {sz sz' id id' off off' : Nat} {ob ob' : List C} {v v' x : AV} [TV P t agg sz] [TV P t' agg' sz'] (hr : fn.results = #[.cell c t, .cell c' t', .tmp u]) (h : R (.ret (.tup [v, v', x])) σ)
  (hx : fr.get c = .c (.ptr id off) := by exact rfl) (ho : σ[id]? = some (.cells ob) := by exact tGet) (hl : loaded agg sz (ob.drop off) = some v := by first | rfl | (simp only [loaded, List.drop, List.take, List.map, List.length, if_true, if_false, Bool.false_eq_true]; rfl) | (simp [loaded]; done))
  (hx' : fr.get c' = .c (.ptr id' off') := by exact rfl) (ho' : σ[id']? = some (.cells ob') := by exact tGet) (hl' : loaded agg' sz' (ob'.drop off') = some v' := by first | rfl | (simp only [loaded, List.drop, List.take, List.map, List.length, if_true, if_false, Bool.false_eq_true]; rfl) | (simp [loaded]; done))
  (hu : fr.get u = x := by conv => lhs; whnf) (hv : ∀ l, x ≠ .tup l := by intro l h; cases h) : retQ P fn R .ret ⟨fr, σ⟩ := by
 subst hu
 exact ⟨[v, v', fr.get u], by rw [hr]; exact .cons (.cell hx ho hl) (.cons (.cell hx' ho' hl') (.cons (.tmp u hv) .nil)), h⟩
variable {ty : TypeId} {pos : String} {aft : Array Edge} {P : Program} {σ σ' : List AObj} {fr : Fr} {d : Nat}
theorem t_callR {f : FuncId} [TFn P f] {y : Operand} {xs : Array Operand} {ts : Array TypeId} {cargs : List AV} {σc σo : List AObj} {rv v : AV} (ρl : List (Nat × Nat))
  (h : ACalls P f cargs σc (fun r σ' => r = .ret rv /\ ∃ gb, σ' = σo ++ gb)) (hp : PassL (ren1 ρl) ρl.length σ ρl σc) (hnd : (ρl.map (·.1)).Nodup) (hb : okBack σo.length σc σo = true) (hσ : back (ren2 ρl σ.length) σ ρl σo = σ' ++ [])
  (hv : renV (ren2 ρl σ.length) rv = v := by rfl) (hrv : okV σo.length rv = true := by rfl) (hok : cargs.all (okV ρl.length) = true := by rfl)
  (hy : ev fr y = .c (.p (.lit (.func (.func f) #[] #[]))) := by exact rfl) (hx : xs.toList.map (ev fr) = cargs.map (renV (ren1 ρl)) := by (try simp only [↓ev, litAV, ↓Fr.get, ↓reduceIte, Nat.reduceEqDiff, List.map]) <;> rfl) (hg : xs.toList.all goodConst = true := by rfl) :
  SStep P σ fr ⟨some d, .call { callee := .value y, args := xs, argTypes := ts }, ty, pos, aft, none⟩ v σ' := by
 rw [List.append_nil] at hσ
 subst hv; subst hσ
 obtain ⟨p1, p2⟩ := hp.at
 exact s_call ρl hy h hx hok p1 hnd p2 ⟨hb, hrv⟩ hg
end Go.AL
namespace Go.AL
open Go.RowKit
section
variable {P : Program} {N : NN} {Q : AE -> St -> Prop} {ops : Array Oper} {σ0 σ1 σ2 : List AObj} {p1 p2 : Nat}
def σof2 (σ0 σ1 σ2 : List AObj) (p1 p2 : Nat) (listed : Array Bool) : List AObj := if listed.getD p2 false then σ2 else if listed.getD p1 false then σ1 else σ0
def Fact2 (P : Program) (ops : Array Oper) (σ0 σ1 σ2 : List AObj) (p1 p2 : Nat) (i : Nat) (g : FrF) (o : Oper) (v : AV) : Prop :=
 ∀ listed, HeadInv .any ops ops.size listed -> i ∈ Region.ready .any ops listed -> WStep P ops (σof2 σ0 σ1 σ2 p1 p2 listed) g o v (σof2 σ0 σ1 σ2 p1 p2 (listed.setIfInBounds i true))
theorem Fact2.congr (i : Nat) (g g' : FrF) (o : Oper) (v : AV) (h : Fact2 P ops σ0 σ1 σ2 p1 p2 i g o v) (he : ∀ t ∈ o.looksAt ops, g' t = g t) : Fact2 P ops σ0 σ1 σ2 p1 p2 i g' o v :=
 fun listed inv hr => (h listed inv hr).congr he
theorem fact2_still {k : Nat} {g : FrF} {o : Oper} {v : AV} (k1 : k ≠ p1) (k2 : k ≠ p2) (h0 : reachB ops ops.size k p1 = true \/ GStep P σ0 ops g o v) (h1 : reachB ops ops.size p1 k = true \/ reachB ops ops.size k p2 = true \/ GStep P σ1 ops g o v) (h2 : reachB ops ops.size p2 k = true \/ GStep P σ2 ops g o v) :
  Fact2 P ops σ0 σ1 σ2 p1 p2 k g o v := fun listed inv hrd => by
 have e : σof2 σ0 σ1 σ2 p1 p2 (listed.setIfInBounds k true) = σof2 σ0 σ1 σ2 p1 p2 listed := by
  simp only [σof2]; rw [getD_set_ne false k1, getD_set_ne false k2]
 rw [e]
 simp only [σof2]
 have hun := getD_both (mem_ready.1 hrd).1
 cases l2 : listed.getD p2 false with
 | true =>
  rcases h2 with h | h
  ·rw [reach_listed inv l2 h] at hun; cases hun
  ·exact h.w
 | false =>
  cases l1 : listed.getD p1 false with
  | true =>
   rcases h1 with h | h | h
   ·rw [reach_listed inv l1 h] at hun; cases hun
   ·rw [reach_ready inv hrd h] at l2; cases l2
   ·exact h.w
  | false =>
   rcases h0 with h | h
   ·rw [reach_ready inv hrd h] at l1; cases l1
   ·exact h.w
theorem fact2_turn1 {g : FrF} {o : Oper} {v : AV} (hp : p1 ≠ p2) (hr : reachB ops ops.size p2 p1 = true) (h : WStep P ops σ0 g o v σ1) : Fact2 P ops σ0 σ1 σ2 p1 p2 p1 g o v := fun listed inv hrd => by
 have hun := getD_both (mem_ready.1 hrd).1
 have hlt : p1 < ops.size := by obtain ⟨_, oj, hoj, _⟩ := mem_ready.1 hrd; exact (Array.getElem?_eq_some_iff.1 hoj).1
 have l2 : listed.getD p2 false = false := by
  cases l2 : listed.getD p2 false with
  | false => rfl
  | true => rw [reach_listed inv l2 hr] at hun; cases hun
 have e1 : (listed.setIfInBounds p1 true).getD p1 false = true := set_getD_self (by rw [inv.size]; exact hlt)
 simp only [σof2, getD_set_ne false hp, l2, hun, e1]
 exact h
theorem fact2_turn2 {g : FrF} {o : Oper} {v : AV} (hp : p1 ≠ p2) (hr : reachB ops ops.size p2 p1 = true) (h : WStep P ops σ1 g o v σ2) : Fact2 P ops σ0 σ1 σ2 p1 p2 p2 g o v := fun listed inv hrd => by
 have hun := getD_both (mem_ready.1 hrd).1
 have hlt : p2 < ops.size := by obtain ⟨_, oj, hoj, _⟩ := mem_ready.1 hrd; exact (Array.getElem?_eq_some_iff.1 hoj).1
 have l1 := reach_ready inv hrd hr
 have e1 : (listed.setIfInBounds p2 true).getD p2 false = true := set_getD_self (by rw [inv.size]; exact hlt)
 simp only [σof2, l1, hun, e1]
 exact h
theorem wpAny_of_absX {k2 : Nat} {L : Array Bool -> FrF -> Prop} (hd : ops.all (dstOk N) = true)
  (hL : ∀ listed g, L listed g -> ∀ m F a w, RelF N m F g (σof2 σ0 σ1 σ2 p1 p2 listed) a w -> wpAny P .any ops (Post N Q m F (σof2 σ0 σ1 σ2 p1 p2 listed) w) k2 listed a w) :
  ∀ (f : Nat) (listed : Array Bool) (g : FrF), HeadInv .any ops ops.size listed -> absF ops (Fact2 P ops σ0 σ1 σ2 p1 p2) L f listed g -> ∀ m F a w, RelF N m F g (σof2 σ0 σ1 σ2 p1 p2 listed) a w -> wpAny P .any ops (Post N Q m F (σof2 σ0 σ1 σ2 p1 p2 listed) w) (f + k2) listed a w
 | 0, listed, g, _, h, m, F, a, w, hr => by rw [Nat.zero_add]; exact hL _ _ h m F a w hr
 | f + 1, listed, g, inv, h, m, F, a, w, hr => by
  rw [show f + 1 + k2 = (f + k2) + 1 by omega]
  refine ⟨fun h0 => absurd h0 h.1, fun i hi => ?_⟩
  obtain ⟨o, v, ho, hy, hrest⟩ := h.2 i hi
  have hin : i < ops.size := (Array.getElem?_eq_some_iff.1 ho).1
  unfold wpOp
  simp only [ho]
  have hdo : dstOk N o = true := Array.all_eq_true_iff_forall_mem.1 hd o (Array.mem_of_getElem? ho)
  have key := hy listed inv hi m F w a hr.inv (fun t _ => hr.fr t) (wpAny P .any ops (Post N Q m F (σof2 σ0 σ1 σ2 p1 p2 listed) w) (f + k2) (listed.setIfInBounds i true)) (Post N Q m F (σof2 σ0 σ1 σ2 p1 p2 listed) w) (fun x m' F' w' hi' hst hx => by
   have hr0 : RelF N m' F' g (σof2 σ0 σ1 σ2 p1 p2 (listed.setIfInBounds i true)) a w' := ⟨hi', fun t => (hr.fr t).step hr.inv hst, hr.size, hr.defers⟩
   have hr1 := hr0.put (dst_lt hdo) hx
   have := wpAny_of_absX hd hL f _ _ (inv.set hi hin) hrest m' F' _ w' hr1
   exact wpAny_post_mono (fun e a1 w1 hp => hp.trans hr.inv hr1.inv hst) _ _ _ _ this)
  split
  ·rename_i hw; rw [if_pos hw] at key; exact .inl key
  ·rename_i hw; rw [if_neg hw] at key; exact key
theorem aw_drawX {id : Nat} {l : List Oper} {fr fr' : Fr} (hd tl : List Nat) (hm : P.follows .mixedOrders = true) (hB : lexU l.toArray hd tl = true) (hdo : l.toArray.all (dstOk N) = true) (h2 : p2 ∈ hd)
  (h : FSteps l.toArray (Fact2 P l.toArray σ0 σ1 σ2 p1 p2) hd fr fr') (k : AList P N l.toArray Q (tl.map fun k => l.getD k default) ⟨fr', σ2⟩) : AWp P N (.region id l.toArray true) Q ⟨fr, σ0⟩ := by
 intro m F a w hr
 simp only [lexU, Bool.and_eq_true] at hB
 obtain ⟨⟨⟨hsel, hlen⟩, hw⟩, hlex⟩ := hB
 have hlen := Nat.eq_of_beq_eq_true hlen
 have hw' : ∀ t ∈ tl, ∀ i ∈ hd, reachB l.toArray l.toArray.size t i = true := fun t ht i hi => List.all_eq_true.1 (List.all_eq_true.1 hw t ht) i hi
 have inv0 : HeadInv .any l.toArray l.toArray.size (Array.replicate l.toArray.size false) :=
  ⟨by simp, fun j oj _ hl => (by rw [getD_replicate_false] at hl; cases hl), fun t h1 ht => absurd ht (by omega)⟩
 have H := absF_lex (fun i g g' o v h he => Fact2.congr i g g' o v h he) (L := fun g => g = fr'.get) hd _ fr fr' hw' inv0 hlex h rfl
 refine wp_region_any hm ?_
 have hg : Grow F w F { w with drawn := w.drawn + 1 } := Grow.drew F w
 have e0 : σof2 σ0 σ1 σ2 p1 p2 (Array.replicate l.toArray.size false) = σ0 := by simp only [σof2, getD_replicate_false]; rfl
 have hr1 : RelF N m F fr.get (σof2 σ0 σ1 σ2 p1 p2 (Array.replicate l.toArray.size false)) a { w with drawn := w.drawn + 1 } := by rw [e0]; exact ⟨hr.inv.grow hg, fun t => (hr.fr t).grow hr.inv hg, hr.size, hr.defers⟩
 have := wpAny_of_absX (Q := Q) (k2 := tl.length) hdo (fun listed g hL m F a w hr => by
  obtain ⟨⟨hL1, _, hL3⟩, rfl⟩ := hL
  have e1 : σof2 σ0 σ1 σ2 p1 p2 listed = σ2 := by simp only [σof2, hL3 p2 h2]; rfl
  rw [e1] at hr ⊢
  have hk := k m F a w ⟨hr.inv, hr.fr, hr.size, hr.defers⟩
  exact wpAny_of_seqI tl listed a w (fun j _ => by simp) hL1 hk) _ _ _ inv0 H m F a _ hr1
 rw [hlen, e0] at this
 have hr2 := hr1.inv
 rw [e0] at hr2
 exact wpAny_post_mono (fun e a1 w1 hp => hp.trans hr.inv hr2 hg.step) _ _ _ _ this
def DX (P : Program) (N : NN) (ops : Array Oper) (Q : AE -> St -> Prop) (σ0 σ1 σ2 : List AObj) (p1 p2 : Nat) (tail : List Oper) (hd : List Nat) (head : List Oper) (fr : Fr) : Prop :=
 ∃ fr', FSteps2 ops (Fact2 P ops σ0 σ1 σ2 p1 p2) hd head fr fr' /\ AList P N ops Q tail ⟨fr', σ2⟩
theorem aw_x {id : Nat} {l tail head : List Oper} {fr : Fr} (p1 p2 : Nat) (hd tl : List Nat) (σ1 σ2 : List AObj) (hm : P.follows .mixedOrders = true)
  (h : DX P N l.toArray Q σ0 σ1 σ2 p1 p2 tail hd head fr) (ht : picks l tl = tail := by conv => lhs; simp only [picks, pick]) (hh : picks l hd = head := by conv => lhs; simp only [picks, pick]) (h2 : p2 ∈ hd := by decide) (hlt : hd.all (fun k => Nat.blt k l.length) = true := by kernel_rfl)
  (hB : lexU l.toArray hd tl = true := by kernel_rfl) (hdo : l.toArray.all (dstOk N) = true := by kernel_rfl) : AWp P N (.region id l.toArray true) Q ⟨fr, σ0⟩ := by
 subst ht; subst hh
 rw [picks_eq, picks_eq] at h
 obtain ⟨fr', q1, q2⟩ := h
 exact aw_drawX hd tl hm hB hdo h2 (FSteps2.toF (fun k hk => blt_lt (List.all_eq_true.1 hlt k hk)) q1) q2
end
section
variable {P : Program} {N : NN} {Q : AE -> St -> Prop} {ops : Array Oper} {tail os : List Oper} {σ0 σ1 σ2 : List AObj} {p1 p2 : Nat} {fr : Fr} {r : List Nat} {k d : Nat}
variable {op : Op} {ty : TypeId} {pos : String} {aft : Array Edge} {v : AV}
theorem dx_nil (h : AList P N ops Q tail ⟨fr, σ2⟩) : DX P N ops Q σ0 σ1 σ2 p1 p2 tail [] [] fr := ⟨fr, .nil, h⟩
theorem dx_turn1 (h : SStep P σ0 fr ⟨some d, op, ty, pos, aft, none⟩ v σ1) (t : DX P N ops Q σ0 σ1 σ2 p1 p2 tail r os ((d, v) :: fr)) (hk : Nat.beq k p1 = true := by rfl) (hp : Nat.beq p1 p2 = false := by rfl) (hr : reachB ops ops.size p2 p1 = true := by decide +kernel) : DX P N ops Q σ0 σ1 σ2 p1 p2 tail (k :: r) (⟨some d, op, ty, pos, aft, none⟩ :: os) fr := by
 obtain ⟨fr', h1, h2⟩ := t
 have hk := Nat.eq_of_beq_eq_true hk
 subst hk
 exact ⟨fr', .cons (fact2_turn1 (Nat.ne_of_beq_eq_false hp) hr (h.w rfl)) h1, h2⟩
theorem dx_turn2 (h : SStep P σ1 fr ⟨some d, op, ty, pos, aft, none⟩ v σ2) (t : DX P N ops Q σ0 σ1 σ2 p1 p2 tail r os ((d, v) :: fr)) (hk : Nat.beq k p2 = true := by rfl) (hp : Nat.beq p1 p2 = false := by rfl) (hr : reachB ops ops.size p2 p1 = true := by decide +kernel) : DX P N ops Q σ0 σ1 σ2 p1 p2 tail (k :: r) (⟨some d, op, ty, pos, aft, none⟩ :: os) fr := by
 obtain ⟨fr', h1, h2⟩ := t
 have hk := Nat.eq_of_beq_eq_true hk
 subst hk
 exact ⟨fr', .cons (fact2_turn2 (Nat.ne_of_beq_eq_false hp) hr (h.w rfl)) h1, h2⟩
theorem dx_pre (h : RStep P σ0 fr ⟨some d, op, ty, pos, aft, none⟩ v) (hb : reachB ops ops.size p1 k = true) (hb2 : reachB ops ops.size p2 k = true) (t : DX P N ops Q σ0 σ1 σ2 p1 p2 tail r os ((d, v) :: fr)) (k1 : Nat.beq k p1 = false := by rfl) (k2 : Nat.beq k p2 = false := by rfl) : DX P N ops Q σ0 σ1 σ2 p1 p2 tail (k :: r) (⟨some d, op, ty, pos, aft, none⟩ :: os) fr := by
 obtain ⟨fr', h1, h2⟩ := t
 exact ⟨fr', .cons (fact2_still (Nat.ne_of_beq_eq_false k1) (Nat.ne_of_beq_eq_false k2) (.inr (.of rfl h)) (.inl hb) (.inl hb2)) h1, h2⟩
theorem dx_pre2 (h : RStep P σ0 fr ⟨some d, op, ty, pos, aft, none⟩ v) (h' : RStep P σ1 fr ⟨some d, op, ty, pos, aft, none⟩ v) (hb2 : reachB ops ops.size p2 k = true) (t : DX P N ops Q σ0 σ1 σ2 p1 p2 tail r os ((d, v) :: fr)) (k1 : Nat.beq k p1 = false := by rfl) (k2 : Nat.beq k p2 = false := by rfl) : DX P N ops Q σ0 σ1 σ2 p1 p2 tail (k :: r) (⟨some d, op, ty, pos, aft, none⟩ :: os) fr := by
 obtain ⟨fr', h1, h2⟩ := t
 exact ⟨fr', .cons (fact2_still (Nat.ne_of_beq_eq_false k1) (Nat.ne_of_beq_eq_false k2) (.inr (.of rfl h)) (.inr (.inr (.of rfl h'))) (.inl hb2)) h1, h2⟩
theorem dx_post (h : RStep P σ2 fr ⟨some d, op, ty, pos, aft, none⟩ v) (hb : reachB ops ops.size k p1 = true) (hb2 : reachB ops ops.size k p2 = true) (t : DX P N ops Q σ0 σ1 σ2 p1 p2 tail r os ((d, v) :: fr)) (k1 : Nat.beq k p1 = false := by rfl) (k2 : Nat.beq k p2 = false := by rfl) : DX P N ops Q σ0 σ1 σ2 p1 p2 tail (k :: r) (⟨some d, op, ty, pos, aft, none⟩ :: os) fr := by
 obtain ⟨fr', h1, h2⟩ := t
 exact ⟨fr', .cons (fact2_still (Nat.ne_of_beq_eq_false k1) (Nat.ne_of_beq_eq_false k2) (.inl hb) (.inr (.inl hb2)) (.inr (.of rfl h))) h1, h2⟩
end
end Go.AL
namespace Go.AL
section
variable {P : Program} {N : NN} {i j : Nat} {l : Array Oper} {Q : AE -> St -> Prop} {s : St} {c1 c2 : Code} {o1 o2 o3 : Operand} {oo : Option Operand} {d : Nat} {dd : Option Nat} {op : Op} {ty t : TypeId} {pos : String} {aft : Array Edge} {g : Nat × Bool} {gg : Option (Nat × Bool)} {r r2 : List Oper} {parts : Array (Nat × Operand)} {cl : Call} {A : St -> Prop} {x : AE} {fn : Func} {R : CE -> List AObj -> Prop} {σ σ2 : List AObj} {fr : Fr} {v : AV}
abbrev cReg : Prop := AWp P N (.region i l false) Q s
abbrev cRegD : Prop := AWp P N (.region i l true) Q s
abbrev cSeq : Prop := AWp P N (.seq c1 c2) Q s
abbrev cBlk : Prop := AWp P N (.block i c1) Q s
abbrev cSkip : Prop := AWp P N .skip Q s
abbrev cExit : Prop := AWp P N (.exit i) Q s
abbrev cRet : Prop := AWp P N .ret Q s
abbrev cLoop : Prop := AWp P N (.loop c1) Q s
abbrev cIf : Prop := AWp P N (.cond o1 c1 c2) Q s
abbrev lOp : Prop := AList P N l Q (Oper.mk (some d) op ty pos aft none :: r) s
abbrev lGu : Prop := AList P N l Q (Oper.mk dd op ty pos aft (some g) :: r) s
abbrev lNil : Prop := AList P N l Q [] s
abbrev lAlloc : Prop := AList P N l Q (Oper.mk dd (.alloc t) ty pos aft none :: r) s
abbrev lBox : Prop := AList P N l Q (Oper.mk dd (.box t o1) ty pos aft none :: r) s
abbrev lStore : Prop := AList P N l Q (Oper.mk dd (.store t o1 o2) ty pos aft none :: r) s
abbrev lMapUpdate : Prop := AList P N l Q (Oper.mk dd (.mapUpdate t o1 o2 o3) ty pos aft none :: r) s
abbrev lMakeMap : Prop := AList P N l Q (Oper.mk dd (.makeMap t oo) ty pos aft none :: r) s
abbrev lMakeSlice : Prop := AList P N l Q (Oper.mk dd (.makeSlice t o1 o2) ty pos aft none :: r) s
abbrev lBuildSlice : Prop := AList P N l Q (Oper.mk dd (.buildSlice t i parts) ty pos aft none :: r) s
abbrev lCall : Prop := AList P N l Q (Oper.mk dd (.call cl) ty pos aft none :: r) s
abbrev qSeq : Prop := seqQ A Q x s
abbrev qBlk : Prop := blockQ i Q x s
abbrev rRnd : Prop := awR P N c1 Q i s
abbrev rRq : Prop := rQ P N c1 Q i x s
abbrev eRet : Prop := retQ P fn R .ret s
abbrev eEnd : Prop := retQ P fn R .normal s
abbrev dOp : Prop := DSteps P N l Q σ r (Oper.mk (some d) op ty pos aft none :: r2) fr
abbrev dGu : Prop := DSteps P N l Q σ r (Oper.mk dd op ty pos aft (some g) :: r2) fr
abbrev dNil : Prop := DSteps P N l Q σ r [] fr
abbrev tNil : Prop := DT P N l Q σ σ2 i r j [] fr
abbrev tNone : Prop := DT P N l Q σ σ2 i r j (Oper.mk none op ty pos aft none :: r2) fr
abbrev tSome : Prop := DT P N l Q σ σ2 i r j (Oper.mk (some d) op ty pos aft none :: r2) fr
abbrev lAt (n : Nat) : Prop := AList P N l Q (Oper.mk (some n) op ty pos aft gg :: r) s
abbrev cAt (n : Nat) : Prop := AWp P N (.region n l false) Q s
abbrev cAtD (n : Nat) : Prop := AWp P N (.region n l true) Q s
end
abbrev kAssign {P : Program} {σ : List AObj} {fr : Fr} {dq : Option Nat} {ty : TypeId} {pos : String} {aft : Array Edge} {gg : Option (Nat × Bool)} {v : AV} {a : Operand} : Prop := RStep P σ fr (Oper.mk dq (.assign a) ty pos aft gg) v
abbrev kMove {P : Program} {σ : List AObj} {fr : Fr} {dq : Option Nat} {ty : TypeId} {pos : String} {aft : Array Edge} {gg : Option (Nat × Bool)} {v : AV} {a : Operand} : Prop := RStep P σ fr (Oper.mk dq (.move a) ty pos aft gg) v
abbrev kCall {P : Program} {σ : List AObj} {fr : Fr} {dq : Option Nat} {ty : TypeId} {pos : String} {aft : Array Edge} {gg : Option (Nat × Bool)} {v : AV} {a : Call} : Prop := RStep P σ fr (Oper.mk dq (.call a) ty pos aft gg) v
abbrev kLoad {P : Program} {σ : List AObj} {fr : Fr} {dq : Option Nat} {ty : TypeId} {pos : String} {aft : Array Edge} {gg : Option (Nat × Bool)} {v : AV} {a : TypeId} {b : Operand} : Prop := RStep P σ fr (Oper.mk dq (.load a b) ty pos aft gg) v
abbrev kFieldaddr {P : Program} {σ : List AObj} {fr : Fr} {dq : Option Nat} {ty : TypeId} {pos : String} {aft : Array Edge} {gg : Option (Nat × Bool)} {v : AV} {a : TypeId} {b : Operand} {c : Nat} : Prop := RStep P σ fr (Oper.mk dq (.fieldAddr a b c) ty pos aft gg) v
abbrev kIndexaddr {P : Program} {σ : List AObj} {fr : Fr} {dq : Option Nat} {ty : TypeId} {pos : String} {aft : Array Edge} {gg : Option (Nat × Bool)} {v : AV} {a : TypeId} {b : Operand} {c : Operand} : Prop := RStep P σ fr (Oper.mk dq (.indexAddr a b c) ty pos aft gg) v
abbrev kBinopAdd {P : Program} {σ : List AObj} {fr : Fr} {dq : Option Nat} {ty : TypeId} {pos : String} {aft : Array Edge} {gg : Option (Nat × Bool)} {v : AV} {a : TypeId} {b : Operand} {c : Operand} {d : TypeId} : Prop := RStep P σ fr (Oper.mk dq (.binOp .add a b c d) ty pos aft gg) v
abbrev kBinopSub {P : Program} {σ : List AObj} {fr : Fr} {dq : Option Nat} {ty : TypeId} {pos : String} {aft : Array Edge} {gg : Option (Nat × Bool)} {v : AV} {a : TypeId} {b : Operand} {c : Operand} {d : TypeId} : Prop := RStep P σ fr (Oper.mk dq (.binOp .sub a b c d) ty pos aft gg) v
abbrev kBinopEql {P : Program} {σ : List AObj} {fr : Fr} {dq : Option Nat} {ty : TypeId} {pos : String} {aft : Array Edge} {gg : Option (Nat × Bool)} {v : AV} {a : TypeId} {b : Operand} {c : Operand} {d : TypeId} : Prop := RStep P σ fr (Oper.mk dq (.binOp .eql a b c d) ty pos aft gg) v
abbrev kBinopNeq {P : Program} {σ : List AObj} {fr : Fr} {dq : Option Nat} {ty : TypeId} {pos : String} {aft : Array Edge} {gg : Option (Nat × Bool)} {v : AV} {a : TypeId} {b : Operand} {c : Operand} {d : TypeId} : Prop := RStep P σ fr (Oper.mk dq (.binOp .neq a b c d) ty pos aft gg) v
abbrev kBinopLss {P : Program} {σ : List AObj} {fr : Fr} {dq : Option Nat} {ty : TypeId} {pos : String} {aft : Array Edge} {gg : Option (Nat × Bool)} {v : AV} {a : TypeId} {b : Operand} {c : Operand} {d : TypeId} : Prop := RStep P σ fr (Oper.mk dq (.binOp .lss a b c d) ty pos aft gg) v
abbrev kBinopLeq {P : Program} {σ : List AObj} {fr : Fr} {dq : Option Nat} {ty : TypeId} {pos : String} {aft : Array Edge} {gg : Option (Nat × Bool)} {v : AV} {a : TypeId} {b : Operand} {c : Operand} {d : TypeId} : Prop := RStep P σ fr (Oper.mk dq (.binOp .leq a b c d) ty pos aft gg) v
abbrev kBinopGtr {P : Program} {σ : List AObj} {fr : Fr} {dq : Option Nat} {ty : TypeId} {pos : String} {aft : Array Edge} {gg : Option (Nat × Bool)} {v : AV} {a : TypeId} {b : Operand} {c : Operand} {d : TypeId} : Prop := RStep P σ fr (Oper.mk dq (.binOp .gtr a b c d) ty pos aft gg) v
abbrev kBinopGeq {P : Program} {σ : List AObj} {fr : Fr} {dq : Option Nat} {ty : TypeId} {pos : String} {aft : Array Edge} {gg : Option (Nat × Bool)} {v : AV} {a : TypeId} {b : Operand} {c : Operand} {d : TypeId} : Prop := RStep P σ fr (Oper.mk dq (.binOp .geq a b c d) ty pos aft gg) v
abbrev kBinopMul {P : Program} {σ : List AObj} {fr : Fr} {dq : Option Nat} {ty : TypeId} {pos : String} {aft : Array Edge} {gg : Option (Nat × Bool)} {v : AV} {a : TypeId} {b : Operand} {c : Operand} {d : TypeId} : Prop := RStep P σ fr (Oper.mk dq (.binOp .mul a b c d) ty pos aft gg) v
abbrev kPick {P : Program} {σ : List AObj} {fr : Fr} {dq : Option Nat} {ty : TypeId} {pos : String} {aft : Array Edge} {gg : Option (Nat × Bool)} {v : AV} {a : Operand} {b : Operand} {c : Operand} : Prop := RStep P σ fr (Oper.mk dq (.pick a b c) ty pos aft gg) v
abbrev kUnopNot {P : Program} {σ : List AObj} {fr : Fr} {dq : Option Nat} {ty : TypeId} {pos : String} {aft : Array Edge} {gg : Option (Nat × Bool)} {v : AV} {a : TypeId} {b : Operand} : Prop := RStep P σ fr (Oper.mk dq (.unOp .not a b) ty pos aft gg) v
abbrev kUnopNeg {P : Program} {σ : List AObj} {fr : Fr} {dq : Option Nat} {ty : TypeId} {pos : String} {aft : Array Edge} {gg : Option (Nat × Bool)} {v : AV} {a : TypeId} {b : Operand} : Prop := RStep P σ fr (Oper.mk dq (.unOp .neg a b) ty pos aft gg) v
abbrev kNilcheck {P : Program} {σ : List AObj} {fr : Fr} {dq : Option Nat} {ty : TypeId} {pos : String} {aft : Array Edge} {gg : Option (Nat × Bool)} {v : AV} {a : Operand} : Prop := RStep P σ fr (Oper.mk dq (.nilCheck a) ty pos aft gg) v
abbrev kSlice {P : Program} {σ : List AObj} {fr : Fr} {dq : Option Nat} {ty : TypeId} {pos : String} {aft : Array Edge} {gg : Option (Nat × Bool)} {v : AV} {a : TypeId} {b : Operand} {c : Option Operand} {d : Option Operand} {e : Option Operand} : Prop := RStep P σ fr (Oper.mk dq (.slice a b c d e) ty pos aft gg) v
abbrev kField {P : Program} {σ : List AObj} {fr : Fr} {dq : Option Nat} {ty : TypeId} {pos : String} {aft : Array Edge} {gg : Option (Nat × Bool)} {v : AV} {a : TypeId} {b : Operand} {c : Nat} : Prop := RStep P σ fr (Oper.mk dq (.field a b c) ty pos aft gg) v
abbrev kIndex {P : Program} {σ : List AObj} {fr : Fr} {dq : Option Nat} {ty : TypeId} {pos : String} {aft : Array Edge} {gg : Option (Nat × Bool)} {v : AV} {a : TypeId} {b : Operand} {c : Operand} : Prop := RStep P σ fr (Oper.mk dq (.index a b c) ty pos aft gg) v
abbrev kExtract {P : Program} {σ : List AObj} {fr : Fr} {dq : Option Nat} {ty : TypeId} {pos : String} {aft : Array Edge} {gg : Option (Nat × Bool)} {v : AV} {a : Operand} {b : Nat} : Prop := RStep P σ fr (Oper.mk dq (.extract a b) ty pos aft gg) v
abbrev kLookup {P : Program} {σ : List AObj} {fr : Fr} {dq : Option Nat} {ty : TypeId} {pos : String} {aft : Array Edge} {gg : Option (Nat × Bool)} {v : AV} {a : TypeId} {b : Operand} {c : Operand} {d : Bool} : Prop := RStep P σ fr (Oper.mk dq (.lookup a b c d) ty pos aft gg) v
abbrev kConvert {P : Program} {σ : List AObj} {fr : Fr} {dq : Option Nat} {ty : TypeId} {pos : String} {aft : Array Edge} {gg : Option (Nat × Bool)} {v : AV} {a : TypeId} {b : TypeId} {c : Operand} : Prop := RStep P σ fr (Oper.mk dq (.convert a b c) ty pos aft gg) v
abbrev kBinopAnd {P : Program} {σ : List AObj} {fr : Fr} {dq : Option Nat} {ty : TypeId} {pos : String} {aft : Array Edge} {gg : Option (Nat × Bool)} {v : AV} {a : TypeId} {b : Operand} {c : Operand} {d : TypeId} : Prop := RStep P σ fr (Oper.mk dq (.binOp .and a b c d) ty pos aft gg) v
abbrev kBinopShr {P : Program} {σ : List AObj} {fr : Fr} {dq : Option Nat} {ty : TypeId} {pos : String} {aft : Array Edge} {gg : Option (Nat × Bool)} {v : AV} {a : TypeId} {b : Operand} {c : Operand} {d : TypeId} : Prop := RStep P σ fr (Oper.mk dq (.binOp .shr a b c d) ty pos aft gg) v
abbrev kBinopQuo {P : Program} {σ : List AObj} {fr : Fr} {dq : Option Nat} {ty : TypeId} {pos : String} {aft : Array Edge} {gg : Option (Nat × Bool)} {v : AV} {a : TypeId} {b : Operand} {c : Operand} {d : TypeId} : Prop := RStep P σ fr (Oper.mk dq (.binOp .quo a b c d) ty pos aft gg) v
abbrev kBinopRem {P : Program} {σ : List AObj} {fr : Fr} {dq : Option Nat} {ty : TypeId} {pos : String} {aft : Array Edge} {gg : Option (Nat × Bool)} {v : AV} {a : TypeId} {b : Operand} {c : Operand} {d : TypeId} : Prop := RStep P σ fr (Oper.mk dq (.binOp .rem a b c d) ty pos aft gg) v
abbrev kMakeinterface {P : Program} {σ : List AObj} {fr : Fr} {dq : Option Nat} {ty : TypeId} {pos : String} {aft : Array Edge} {gg : Option (Nat × Bool)} {v : AV} {a : TypeId} {b : Operand} : Prop := RStep P σ fr (Oper.mk dq (.makeInterface a b) ty pos aft gg) v
abbrev kMakefunc {P : Program} {σ : List AObj} {fr : Fr} {dq : Option Nat} {ty : TypeId} {pos : String} {aft : Array Edge} {gg : Option (Nat × Bool)} {v : AV} {a : Fn} {b : Array Operand} {c : Array Operand} : Prop := RStep P σ fr (Oper.mk dq (.makeFunc a b c) ty pos aft gg) v
abbrev kBuild {P : Program} {σ : List AObj} {fr : Fr} {dq : Option Nat} {ty : TypeId} {pos : String} {aft : Array Edge} {gg : Option (Nat × Bool)} {v : AV} {a : TypeId} {b : Array (Nat × Operand)} : Prop := RStep P σ fr (Oper.mk dq (.build a b) ty pos aft gg) v
abbrev kBuildslice {P : Program} {σ : List AObj} {fr : Fr} {dq : Option Nat} {ty : TypeId} {pos : String} {aft : Array Edge} {gg : Option (Nat × Bool)} {v : AV} {a : TypeId} {b : Nat} {c : Array (Nat × Operand)} : Prop := RStep P σ fr (Oper.mk dq (.buildSlice a b c) ty pos aft gg) v
end Go.AL
