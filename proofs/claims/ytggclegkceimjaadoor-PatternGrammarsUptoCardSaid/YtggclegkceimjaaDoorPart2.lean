/-
  Part 2 of the proof: the rules by which a call is walked.
-/
import Derived.Below
import Derived.ChangeKeysEq
import Derived.Deep.Draws
import Derived.KernelRfl
import Derived.Laws.CopyRow
import Derived.Laws.Cover3
import Derived.Laws.IdiomCopy
import Derived.Laws.IdiomStrings
import Derived.Laws.OwnMore
import Derived.Laws.Rows
import Derived.Laws.StructEq
import Derived.Lib.AppendZeros
import Derived.Maps.AppendAt
import Derived.Orders
import Derived.StillTail
import Derived.Tactics
import Derived.Test.YtggclegkceimjaaDoorPart1
set_option linter.all false
set_option linter.unusedVariables false
set_option linter.unusedSimpArgs false
namespace Go.AL
open Go.RowKit
section
variable {P : Program} {N : Nat} {Q : AE → St → Prop} {ops : Array Oper} {rest tail : List Oper} {σ σ' : List AObj} {fr : Fr}
variable {d : Option Nat} {ty : TypeId} {pos : String} {aft : Array Edge} {g : Option (Nat × Bool)} {v : AV} {α : Type}
/-! ### 1. Regions that draw -/
def DSteps (P : Program) (N : Nat) (ops : Array Oper) (Q : AE → St → Prop) (σ : List AObj) (tail : List Oper) (head : List Oper) (fr : Fr) : Prop := ∃ fr', RSteps P σ ops head fr fr' ∧ AList P N ops Q tail ⟨fr', σ⟩
/-- What stands ahead of the first operation that turns an object. -/
def turns : Op → Bool
  | .store .. => true
  | .alloc .. => true
  | .box .. => true
  | .makeSlice .. => true
  | .call { callee := .builtin .append, .. } => true
  | .call { callee := .builtin .copy, .. } => true
  | _ => false
def headN : List Oper → Nat
  | [] => 0
  | [_] => 0
  | o :: l => if turns o.op then 0 else headN l + 1
theorem aw_dr {id : Nat} {l : List Oper} (n : Nat) (hm : P.follows .mixedOrders = true) (h : DSteps P N l.toArray Q σ (l.drop n) (l.take n) fr) (hB : Region.lexTailB .any l.toArray n = true := by kernel_rfl) (hd : l.toArray.all (dstOk N) = true := by kernel_rfl) : AWp P N (.region id l.toArray true) Q ⟨fr, σ⟩ := by
  obtain ⟨fr', h1, h2⟩ := h
  exact aw_draw n hm hB hd h1 h2
theorem aw_drN {id : Nat} {l : List Oper} {n : Nat} (hm : P.follows .mixedOrders = true) (h : DSteps P N l.toArray Q σ (l.drop n) (l.take n) fr) (hn : headN l = n := by rfl) (hB : Region.lexTailB .any l.toArray n = true := by kernel_rfl) (hd : l.toArray.all (dstOk N) = true := by kernel_rfl) : AWp P N (.region id l.toArray true) Q ⟨fr, σ⟩ := aw_dr n hm h hB hd
theorem ds_nil (h : AList P N ops Q tail ⟨fr, σ⟩) : DSteps P N ops Q σ tail [] fr := ⟨fr, .nil, h⟩
theorem ds_op {op : Op} {d : Nat} {v : AV} (h : RStep P σ fr ⟨some d, op, ty, pos, aft, none⟩ v) (k : DSteps P N ops Q σ tail rest ((d, v) :: fr)) : DSteps P N ops Q σ tail (⟨some d, op, ty, pos, aft, none⟩ :: rest) fr := by
  obtain ⟨fr', h1, h2⟩ := k
  exact ⟨fr', .cons (.of rfl h) h1, h2⟩
theorem wanted_self {b want : Bool} (h : b = want) : (b == want) = true := by rw [h]; cases want <;> rfl
theorem ds_yes {op : Op} {d : Nat} {v : AV} {j : Nat} {want b : Bool} {t : Nat} (h : RStep P σ fr ⟨some d, op, ty, pos, aft, some (j, want)⟩ v) (k : DSteps P N ops Q σ tail rest ((d, v) :: fr)) (ht : (ops[j]?).bind (·.dst) = some t := by rfl) (hv : fr.get t = bl b := by exact rfl) (hb : b = want := by first | rfl | assumption | exact decide_eq_true (by assumption) | exact decide_eq_false (by assumption)) : DSteps P N ops Q σ tail (⟨some d, op, ty, pos, aft, some (j, want)⟩ :: rest) fr := by
  obtain ⟨fr', h1, h2⟩ := k
  exact ⟨fr', .cons (.yes rfl ht hv (wanted_self hb) h) h1, h2⟩
/-- The guard isn't known yet: both ways. -/
theorem ds_split {op : Op} {d : Nat} {j : Nat} {want b : Bool} {t : Nat} (k1 : b = true → DSteps P N ops Q σ tail (⟨some d, op, ty, pos, aft, some (j, want)⟩ :: rest) fr) (k2 : b = false → DSteps P N ops Q σ tail (⟨some d, op, ty, pos, aft, some (j, want)⟩ :: rest) fr) (ht : (ops[j]?).bind (·.dst) = some t := by rfl) (hv : fr.get t = bl b := by exact rfl) : DSteps P N ops Q σ tail (⟨some d, op, ty, pos, aft, some (j, want)⟩ :: rest) fr := by
  cases h : b with
  | true => exact k1 h
  | false => exact k2 h
theorem al_split {op : Op} {d : Option Nat} {j : Nat} {want b : Bool} {t : Nat} (k1 : b = true → AList P N ops Q (⟨d, op, ty, pos, aft, some (j, want)⟩ :: rest) ⟨fr, σ⟩) (k2 : b = false → AList P N ops Q (⟨d, op, ty, pos, aft, some (j, want)⟩ :: rest) ⟨fr, σ⟩) (ht : (ops[j]?).bind (·.dst) = some t := by rfl) (hv : fr.get t = bl b := by exact rfl) : AList P N ops Q (⟨d, op, ty, pos, aft, some (j, want)⟩ :: rest) ⟨fr, σ⟩ := by
  cases h : b with
  | true => exact k1 h
  | false => exact k2 h
theorem aw_ifD {c : Operand} {x y : Code} {p : Prop} [Decidable p] (h1 : p → AWp P N x Q ⟨fr, σ⟩) (h2 : ¬p → AWp P N y Q ⟨fr, σ⟩) (hc : ev fr c = bl (decide p) := by exact rfl) : AWp P N (.cond c x y) Q ⟨fr, σ⟩ :=
  aw_if (fun h => h1 (of_decide_eq_true h)) (fun h => h2 (of_decide_eq_false h)) hc
theorem al_splitD {op : Op} {d : Option Nat} {j : Nat} {want : Bool} {t : Nat} {p : Prop} [Decidable p] (k1 : p → AList P N ops Q (⟨d, op, ty, pos, aft, some (j, want)⟩ :: rest) ⟨fr, σ⟩) (k2 : ¬p → AList P N ops Q (⟨d, op, ty, pos, aft, some (j, want)⟩ :: rest) ⟨fr, σ⟩) (ht : (ops[j]?).bind (·.dst) = some t := by rfl) (hv : fr.get t = bl (decide p) := by exact rfl) : AList P N ops Q (⟨d, op, ty, pos, aft, some (j, want)⟩ :: rest) ⟨fr, σ⟩ :=
  al_split (fun h => k1 (of_decide_eq_true h)) (fun h => k2 (of_decide_eq_false h)) ht hv
theorem ds_splitD {op : Op} {d : Nat} {j : Nat} {want : Bool} {t : Nat} {p : Prop} [Decidable p] (k1 : p → DSteps P N ops Q σ tail (⟨some d, op, ty, pos, aft, some (j, want)⟩ :: rest) fr) (k2 : ¬p → DSteps P N ops Q σ tail (⟨some d, op, ty, pos, aft, some (j, want)⟩ :: rest) fr) (ht : (ops[j]?).bind (·.dst) = some t := by rfl) (hv : fr.get t = bl (decide p) := by exact rfl) : DSteps P N ops Q σ tail (⟨some d, op, ty, pos, aft, some (j, want)⟩ :: rest) fr :=
  ds_split (fun h => k1 (of_decide_eq_true h)) (fun h => k2 (of_decide_eq_false h)) ht hv
/-- What isn't carried out gives nothing; what waits for it isn't carried out either. -/
theorem rv_undef (m : List Loc) (w : World) (F : Nat → Nat → Prop) : RV m w F (.tup []) undef := ⟨#[], rfl, rfl, fun j x hx => by simp at hx⟩
theorem get_of_tup {m : List Loc} {w : World} {F : Nat → Nat → Prop} {u : Value} (h : RV m w F (.tup []) u) : u = .tuple #[] := by
  obtain ⟨vs, h1, h2, _⟩ := h
  have : vs = #[] := Array.size_eq_zero_iff.1 (by simpa using h2)
  rw [h1, this]
theorem unwanted_undef {o : Oper} {j : Nat} {want : Bool} {t : Nat} {a : Act} (hg : o.guard = some (j, want)) (ht : (ops[j]?).bind (·.dst) = some t) (hu : a.tmps.getD t undef = .tuple #[]) : Region.wanted o (yielded ops a.tmps) = false := by
  have h3 : a.tmps[t]? = none ∨ a.tmps[t]? = some (.tuple #[]) := by
    cases h : a.tmps[t]? with
    | none => exact .inl rfl
    | some u => simp [Array.getD_eq_getD_getElem?, h] at hu; exact .inr (by rw [hu])
  simp only [Region.wanted, hg, yielded, ht, Option.bind_some]
  rcases h3 with h3 | h3 <;> rw [h3] <;> rfl
theorem al_skip' {o : Oper} (hw : ∀ (m : List Loc) F a w, Rel N m F ⟨fr, σ⟩ a w → Region.wanted o (yielded ops a.tmps) = false) (hd : dstOk N o = true) (k : AList P N ops Q rest ⟨fr.put o.dst (.tup []), σ⟩) : AList P N ops Q (o :: rest) ⟨fr, σ⟩ := by
  intro m F a w hr
  refine wpList_step fun K hK => ?_
  rw [if_neg (by rw [hw m F a w hr]; exact Bool.false_ne_true)]
  exact hK _ _ (k m F _ w (hr.put (dst_lt hd) (rv_undef m w F)))
theorem al_none {op : Op} {d : Nat} {j : Nat} {want b : Bool} {t : Nat} (k : AList P N ops Q rest ⟨(d, .tup []) :: fr, σ⟩) (ht : (ops[j]?).bind (·.dst) = some t := by rfl) (hv : fr.get t = bl b := by exact rfl) (hb : b = !want := by first | rfl | assumption | exact decide_eq_true (by assumption) | exact decide_eq_false (by assumption)) (hd : Nat.blt d N = true := by rfl) : AList P N ops Q (⟨some d, op, ty, pos, aft, some (j, want)⟩ :: rest) ⟨fr, σ⟩ :=
  al_skip' (fun m F a w hr => by rw [wanted_of rfl ht hv (hr.fr t), hb]; cases want <;> rfl) hd k
theorem al_noneU {op : Op} {d : Nat} {j : Nat} {want : Bool} {t : Nat} (k : AList P N ops Q rest ⟨(d, .tup []) :: fr, σ⟩) (ht : (ops[j]?).bind (·.dst) = some t := by rfl) (hv : fr.get t = .tup [] := by exact rfl) (hd : Nat.blt d N = true := by rfl) : AList P N ops Q (⟨some d, op, ty, pos, aft, some (j, want)⟩ :: rest) ⟨fr, σ⟩ :=
  al_skip' (fun m F a w hr => unwanted_undef rfl ht (get_of_tup (by have := hr.fr t; simp only at this; rw [hv] at this; exact this))) hd k
theorem gstep_skip {o : Oper} {g : FrF} (hw : ∀ (m : List Loc) F (w : World) (a : Act), (∀ t, t ∈ o.looksAt ops → RV m w F (g t) (a.tmps.getD t undef)) → Region.wanted o (yielded ops a.tmps) = false) : GStep P σ ops g o (.tup []) := by
  intro m F w a i hs K Q hK
  rw [hw m F w a hs, if_neg Bool.false_ne_true]
  exact hK _ _ _ (Grow.refl F w) (rv_undef m w F)
theorem ds_none {op : Op} {d : Nat} {j : Nat} {want b : Bool} {t : Nat} (k : DSteps P N ops Q σ tail rest ((d, .tup []) :: fr)) (ht : (ops[j]?).bind (·.dst) = some t := by rfl) (hv : fr.get t = bl b := by exact rfl) (hb : b = !want := by first | rfl | assumption | exact decide_eq_true (by assumption) | exact decide_eq_false (by assumption)) : DSteps P N ops Q σ tail (⟨some d, op, ty, pos, aft, some (j, want)⟩ :: rest) fr := by
  obtain ⟨fr', h1, h2⟩ := k
  refine ⟨fr', .cons (gstep_skip fun m F w a hs => ?_) h1, h2⟩
  rw [wanted_of rfl ht hv (hs t (List.mem_append_right _ (by simp [ht]))), hb]; cases want <;> rfl
theorem b_addW {d : Option Nat} {t t' : TypeId} {x y : Operand} {a b : Int} (hx : ev fr x = i64 a := by exact rfl) (hy : ev fr y = i64 b := by exact rfl) : RStep P σ fr ⟨d, .binOp .add t x y t', ty, pos, aft, g⟩ (i64 (IntKind.i64.wrap (a + b))) :=
  r_bin hx hy (fun w => by simp [eqGuard, binOp, Op.intArith]) rfl
/-! ### 2. Makes, literals, stores -/
theorem k_make {d : Nat} {t e : TypeId} {sz by' : Nat} {z : Value} {x y : Operand} {k1 k2 : IntKind} {n : Int} {id : Nat} [TSl P t e sz by'] [TZ P e z] (k : AList P N ops Q rest ⟨(d, .c (.ms id n.toNat)) :: fr, σ'⟩) (hx : ev fr x = .c (.p (.lit (.int k1 n))) := by exact rfl) (hy : ev fr y = .c (.p (.lit (.int k2 n))) := by exact rfl) (h0 : 0 ≤ n := by omega) (hb : by' * n.toNat ≤ 281474976710656 := by omega) (hd : Nat.blt d N = true := by rfl) (hzs : z.cells.size = sz := by rfl)
    (hm : σ.length = id := by first | exact lenG0 (by assumption) (by conv => lhs; simp only [List.length_cons, List.length_nil, Nat.zero_add, Nat.reduceAdd]) | exact lenG (by assumption) (by conv => lhs; simp only [List.length_cons, List.length_nil, Nat.zero_add, Nat.reduceAdd]) | exact lenGP (by assumption) (by conv => lhs; simp only [List.length_cons, List.length_nil, Nat.zero_add, Nat.reduceAdd]) rfl | (conv => lhs; simp only [List.length_append, List.length_cons, List.length_nil, Nat.zero_add, Nat.reduceAdd])) (hσ : σ ++ [.arr e sz (List.replicate n.toNat (zP z))] = σ' := by first | exact addG (by conv => lhs; simp only [List.set, List.cons_append, List.nil_append]) | exact addG0 (by conv => lhs; simp only [List.set, List.cons_append, List.nil_append]) | (conv => lhs; simp only [List.set, List.cons_append, List.nil_append])) :
    AList P N ops Q (⟨some d, .makeSlice t x y, ty, pos, aft, none⟩ :: rest) ⟨fr, σ⟩ := by
  subst hm
  exact w_make hx hy h0 hb hd hzs rfl hσ k
def unP : List C → Option (List PV)
  | [] => some []
  | c :: r => match c, unP r with
    | .p v, some vs => some (v :: vs)
    | _, _ => none
theorem unP_map : ∀ {l : List C} {v : List PV}, unP l = some v → l = v.map .p
  | [], v, h => by simp [unP] at h; subst h; rfl
  | c :: r, v, h => by
    simp only [unP] at h
    split at h
    · rename_i v' vs h1
      injection h with h; subst h
      rw [unP_map h1]; rfl
    · cases h
/-- A literal of one element, of things that don't change. -/
theorem b_buildSl1 {t e : TypeId} {sz by' : Nat} {z : Value} {x : Operand} {y : AV} {el : List PV} [TSl P t e sz by'] [TZ P e z] (hx : ev fr x = y := by conv => lhs; whnf) (hy' : unP y.cells = some el := by exact rfl) (hel : el.length = sz := by rfl) (hzs : z.cells.size = sz := by rfl) (hpos : 0 < sz ∧ sz ≤ 16777216 := by decide) (hg : goodConst x = true := by rfl) (hsure : sureV y = true := by rfl) :
    RStep P σ fr ⟨d, .buildSlice t 1 #[(0, x)], ty, pos, aft, g⟩ (.c (.p (.sl sz [el]))) := by
  have hy := unP_map hy'
  refine r_buildSlice (n := 1) (l := [el]) hzs (by omega) (by simp [hg, hx, hsure]) ?_ rfl (by simpa using hel)
  have hlen : y.cells.length = sz := by rw [hy]; simpa using hel
  have hz : (zC z).length = sz := by simp [zC, hzs]
  simp only [List.map_cons, List.map_nil, fillA, hx, Nat.zero_mul, hlen, true_and]
  rw [if_pos ⟨by simp [hz], hpos.1⟩]
  simp [lay, hy, hel, hz]
theorem k_buildSl1 {d : Nat} {t e : TypeId} {sz by' : Nat} {z : Value} {x : Operand} {y : AV} {el : List PV} {id : Nat} [TSl P t e sz by'] [TZ P e z] (k : AList P N ops Q rest ⟨(d, .c (.ms id 1)) :: fr, σ'⟩) (hx : ev fr x = y := by conv => lhs; whnf) (hy' : unP y.cells = some el := by exact rfl) (hel : el.length = sz := by rfl) (hzs : z.cells.size = sz := by rfl) (hpos : 0 < sz ∧ sz ≤ 16777216 := by decide) (hg : goodConst x = true := by rfl) (hsure : sureV y = true := by rfl) (hd : Nat.blt d N = true := by rfl) (hm : σ.length = id := by first | exact lenG0 (by assumption) (by conv => lhs; simp only [List.length_cons, List.length_nil, Nat.zero_add, Nat.reduceAdd]) | exact lenG (by assumption) (by conv => lhs; simp only [List.length_cons, List.length_nil, Nat.zero_add, Nat.reduceAdd]) | exact lenGP (by assumption) (by conv => lhs; simp only [List.length_cons, List.length_nil, Nat.zero_add, Nat.reduceAdd]) rfl | (conv => lhs; simp only [List.length_append, List.length_cons, List.length_nil, Nat.zero_add, Nat.reduceAdd])) (hσ : σ ++ [.arr e sz [el]] = σ' := by first | exact addG (by conv => lhs; simp only [List.set, List.cons_append, List.nil_append]) | exact addG0 (by conv => lhs; simp only [List.set, List.cons_append, List.nil_append]) | (conv => lhs; simp only [List.set, List.cons_append, List.nil_append])) :
    AList P N ops Q (⟨some d, .buildSlice t 1 #[(0, x)], ty, pos, aft, none⟩ :: rest) ⟨fr, σ⟩ := by
  subst hm
  have hy := unP_map hy'
  refine w_buildSlice (n := 1) (l := [el]) hzs (by omega) (by simp [hg, hx, hsure]) ?_ rfl (by simpa using hel) hd hσ k
  have hlen : y.cells.length = sz := by rw [hy]; simpa using hel
  have hz : (zC z).length = sz := by simp [zC, hzs]
  simp only [List.map_cons, List.map_nil, fillA, hx, Nat.zero_mul, hlen, true_and]
  rw [if_pos ⟨by simp [hz], hpos.1⟩]
  simp [lay, hy, hel, hz]
theorem fill2 {sz : Nat} {z : List C} {a b : List PV} {x y : AV} (hz : z.length = sz) (hp : 0 < sz) (ha : a.length = sz) (hb : b.length = sz) (hx : x.cells = a.map .p) (hy : y.cells = b.map .p) :
    fillA (fun i => some (i * sz, sz)) (z ++ z) [(0, x), (1, y)] = some ((a ++ b).map .p) := by
  have e1 : x.cells.length = sz := by rw [hx]; simpa using ha
  have e2 : y.cells.length = sz := by rw [hy]; simpa using hb
  have l1 : lay (z ++ z) (0 * sz) x.cells = x.cells ++ z := by
    simp only [lay, Nat.zero_mul, List.take_zero, List.nil_append, Nat.zero_add, e1]
    rw [← hz, List.drop_left]
  have l2 : lay (x.cells ++ z) (1 * sz) y.cells = x.cells ++ y.cells := by
    simp only [lay, Nat.one_mul, e2]
    rw [List.take_left' e1, List.drop_of_length_le (by simp [e1, hz]), List.append_nil]
  simp only [fillA, e1, e2, true_and]
  rw [if_pos ⟨by simp [hz], hp⟩, l1, if_pos ⟨by simp [hz, e1] <;> omega, hp⟩, l2, hx, hy]; simp
theorem fill3 {sz : Nat} {z : List C} {a b c : List PV} {x y u : AV} (hz : z.length = sz) (hp : 0 < sz) (ha : a.length = sz) (hb : b.length = sz) (hc : c.length = sz) (hx : x.cells = a.map .p) (hy : y.cells = b.map .p) (hu : u.cells = c.map .p) :
    fillA (fun i => some (i * sz, sz)) (z ++ (z ++ z)) [(0, x), (1, y), (2, u)] = some ((a ++ (b ++ c)).map .p) := by
  have e1 : x.cells.length = sz := by rw [hx]; simpa using ha
  have e2 : y.cells.length = sz := by rw [hy]; simpa using hb
  have e3 : u.cells.length = sz := by rw [hu]; simpa using hc
  have l1 : lay (z ++ (z ++ z)) (0 * sz) x.cells = x.cells ++ (z ++ z) := by
    simp only [lay, Nat.zero_mul, List.take_zero, List.nil_append, Nat.zero_add, e1]
    rw [← hz, List.drop_left]
  have l2 : lay (x.cells ++ (z ++ z)) (1 * sz) y.cells = x.cells ++ (y.cells ++ z) := by
    simp only [lay, Nat.one_mul, e2]
    rw [List.take_left' e1, List.drop_append, List.drop_of_length_le (by omega), e1, List.nil_append, show sz + sz - sz = sz by omega, ← hz, List.drop_left]; simp
  have l3 : lay (x.cells ++ (y.cells ++ z)) (2 * sz) u.cells = x.cells ++ (y.cells ++ u.cells) := by
    simp only [lay, e3]
    rw [← List.append_assoc, List.take_left' (by simp [e1, e2] <;> omega), List.drop_of_length_le (by simp [e1, e2, hz] <;> omega), List.append_nil]; simp
  simp only [fillA, e1, e2, e3, true_and]
  rw [if_pos ⟨by simp [hz], hp⟩, l1, if_pos ⟨by simp [hz, e1] <;> omega, hp⟩, l2, if_pos ⟨by simp [hz, e1, e2] <;> omega, hp⟩, l3, hx, hy, hu]; simp
theorem b_buildSl2 {t e : TypeId} {sz by' : Nat} {z : Value} {x0 x1 : Operand} {y0 y1 : AV} {a b : List PV} [TSl P t e sz by'] [TZ P e z] (hx0 : ev fr x0 = y0 := by conv => lhs; whnf) (hx1 : ev fr x1 = y1 := by conv => lhs; whnf) (h0 : unP y0.cells = some a := by exact rfl) (h1 : unP y1.cells = some b := by exact rfl) (ha : a.length = sz := by rfl) (hb : b.length = sz := by rfl) (hzs : z.cells.size = sz := by rfl) (hpos : 0 < sz ∧ sz ≤ 1000 := by decide) (hg0 : goodConst x0 = true := by rfl) (hg1 : goodConst x1 = true := by rfl) (hs0 : sureV y0 = true := by rfl) (hs1 : sureV y1 = true := by rfl) :
    RStep P σ fr ⟨d, .buildSlice t 2 #[(0, x0), (1, x1)], ty, pos, aft, g⟩ (.c (.p (.sl sz [a, b]))) := by
  refine r_buildSlice (n := 2) (l := [a, b]) hzs (by omega) (by simp [hg0, hg1, hx0, hx1, hs0, hs1]) ?_ rfl (by simp [ha, hb])
  simp only [List.map_cons, List.map_nil, hx0, hx1]
  have := fill2 (z := zC z) (by simp [zC, hzs]) hpos.1 ha hb (unP_map h0) (unP_map h1)
  simpa [List.replicate] using this
theorem b_buildSl3 {t e : TypeId} {sz by' : Nat} {z : Value} {x0 x1 x2 : Operand} {y0 y1 y2 : AV} {a b c : List PV} [TSl P t e sz by'] [TZ P e z] (hx0 : ev fr x0 = y0 := by conv => lhs; whnf) (hx1 : ev fr x1 = y1 := by conv => lhs; whnf) (hx2 : ev fr x2 = y2 := by conv => lhs; whnf) (h0 : unP y0.cells = some a := by exact rfl) (h1 : unP y1.cells = some b := by exact rfl) (h2 : unP y2.cells = some c := by exact rfl) (ha : a.length = sz := by rfl) (hb : b.length = sz := by rfl) (hc : c.length = sz := by rfl) (hzs : z.cells.size = sz := by rfl) (hpos : 0 < sz ∧ sz ≤ 1000 := by decide) (hg0 : goodConst x0 = true := by rfl) (hg1 : goodConst x1 = true := by rfl) (hg2 : goodConst x2 = true := by rfl) (hs0 : sureV y0 = true := by rfl) (hs1 : sureV y1 = true := by rfl) (hs2 : sureV y2 = true := by rfl) :
    RStep P σ fr ⟨d, .buildSlice t 3 #[(0, x0), (1, x1), (2, x2)], ty, pos, aft, g⟩ (.c (.p (.sl sz [a, b, c]))) := by
  refine r_buildSlice (n := 3) (l := [a, b, c]) hzs (by omega) (by simp [hg0, hg1, hg2, hx0, hx1, hx2, hs0, hs1, hs2]) ?_ rfl (by simp [ha, hb, hc])
  simp only [List.map_cons, List.map_nil, hx0, hx1, hx2]
  have := fill3 (z := zC z) (by simp [zC, hzs]) hpos.1 ha hb hc (unP_map h0) (unP_map h1) (unP_map h2)
  simpa [List.replicate] using this
theorem k_buildSl0 {d : Nat} {t e : TypeId} {sz by' : Nat} {z : Value} {id : Nat} [TSl P t e sz by'] [TZ P e z] (k : AList P N ops Q rest ⟨(d, .c (.ms id 0)) :: fr, σ'⟩) (hzs : z.cells.size = sz := by rfl) (hd : Nat.blt d N = true := by rfl) (hm : σ.length = id := by first | exact lenG0 (by assumption) (by conv => lhs; simp only [List.length_cons, List.length_nil, Nat.zero_add, Nat.reduceAdd]) | exact lenG (by assumption) (by conv => lhs; simp only [List.length_cons, List.length_nil, Nat.zero_add, Nat.reduceAdd]) | exact lenGP (by assumption) (by conv => lhs; simp only [List.length_cons, List.length_nil, Nat.zero_add, Nat.reduceAdd]) rfl | (conv => lhs; simp only [List.length_append, List.length_cons, List.length_nil, Nat.zero_add, Nat.reduceAdd])) (hσ : σ ++ [.arr e sz []] = σ' := by first | exact addG (by conv => lhs; simp only [List.set, List.cons_append, List.nil_append]) | exact addG0 (by conv => lhs; simp only [List.set, List.cons_append, List.nil_append]) | (conv => lhs; simp only [List.set, List.cons_append, List.nil_append])) :
    AList P N ops Q (⟨some d, .buildSlice t 0 #[], ty, pos, aft, none⟩ :: rest) ⟨fr, σ⟩ := by
  subst hm
  exact w_buildSlice (n := 0) (l := []) hzs (by omega) rfl rfl rfl (by simp) hd hσ k
/-- One element is appended. -/
theorem k_app1 {d : Nat} {t e : TypeId} {sz by' : Nat} {z : Value} {x y : Operand} {id n m : Nat} {f : α → List PV} {xs : List α} (el : α) [TSl P t e sz by'] [TZ P e z] (k : AList P N ops Q rest ⟨(d, .c (.ms m (n + 1))) :: fr, σ'⟩) (hx : ev fr x = .c (.ms id n) := by exact rfl) (ho : σ[id]? = some (.arr e sz (xs.map f)) := by first | exact rfl | exact getG0 (by assumption) rfl | exact getG (by assumption) rfl | exact getGP (by assumption) rfl rfl | exact getL (getG0 (by assumption) rfl) | exact getL (getG (by assumption) rfl)) (hn : n ≤ xs.length := by first | exact Nat.le_refl _ | omega | (simp; done)) (hy : ev fr y = .c (.p (.sl sz [f el])) := by exact rfl) (hb : (n + 1) * by' ≤ 140737488355328 := by omega)
    (hm : σ.length = m := by first | exact lenG0 (by assumption) (by conv => lhs; simp only [List.length_cons, List.length_nil, Nat.zero_add, Nat.reduceAdd]) | exact lenG (by assumption) (by conv => lhs; simp only [List.length_cons, List.length_nil, Nat.zero_add, Nat.reduceAdd]) | exact lenGP (by assumption) (by conv => lhs; simp only [List.length_cons, List.length_nil, Nat.zero_add, Nat.reduceAdd]) rfl | (conv => lhs; simp only [List.length_append, List.length_cons, List.length_nil, Nat.zero_add, Nat.reduceAdd])) (hd : Nat.blt d N = true := by rfl) (hzs : z.cells.size = sz := by rfl) (hσ : σ.set id .dead ++ [.arr e sz ((xs.take n ++ [el]).map f)] = σ' := by first | exact snocG0 (by assumption) (by conv => lhs; simp only [List.set, List.cons_append, List.nil_append]) (by conv => lhs; simp only [List.set, List.cons_append, List.nil_append]) | exact snocG (by assumption) (by conv => lhs; simp only [List.set, List.cons_append, List.nil_append]) (by conv => lhs; simp only [List.set, List.cons_append, List.nil_append]) | exact snocGP (by assumption) (by conv => lhs; simp only [List.set, List.cons_append, List.nil_append]) (by conv => lhs; simp only [List.set, List.cons_append, List.nil_append]) rfl | (conv => lhs; simp only [List.set, List.cons_append, List.nil_append])) :
    AList P N ops Q (⟨some d, .call { callee := .builtin .append, args := #[x, y], argTypes := #[t, t] }, ty, pos, aft, none⟩ :: rest) ⟨fr, σ⟩ := by
  have hnew : (xs.map f).take n ++ [f el] = (xs.take n ++ [el]).map f := by simp
  have hlen : ((xs.take n ++ [el]).map f).length = n + 1 := by simp; omega
  exact k_append (n := n) (new := (xs.take n ++ [el]).map f) (m := m) hb hnew (by rw [hlen]; exact k) hx ho (by simpa using hn) hy hm hd hzs hσ
/-- A whole slice that doesn't change is appended. -/
theorem k_appSl {d : Nat} {t e : TypeId} {sz by' : Nat} {z : Value} {x y : Operand} {id n m : Nat} {f : α → List PV} {xs ys : List α} [TSl P t e sz by'] [TZ P e z] (k : AList P N ops Q rest ⟨(d, .c (.ms m (n + ys.length))) :: fr, σ'⟩) (hx : ev fr x = .c (.ms id n) := by exact rfl) (ho : σ[id]? = some (.arr e sz (xs.map f)) := by first | exact rfl | exact getG0 (by assumption) rfl | exact getG (by assumption) rfl | exact getGP (by assumption) rfl rfl | exact getL (getG0 (by assumption) rfl) | exact getL (getG (by assumption) rfl)) (hn : n ≤ xs.length := by first | exact Nat.le_refl _ | omega | (simp; done)) (hy : ev fr y = .c (.p (.sl sz (ys.map f))) := by exact rfl) (hb : (n + ys.length) * by' ≤ 140737488355328 := by omega)
    (hm : σ.length = m := by first | exact lenG0 (by assumption) (by conv => lhs; simp only [List.length_cons, List.length_nil, Nat.zero_add, Nat.reduceAdd]) | exact lenG (by assumption) (by conv => lhs; simp only [List.length_cons, List.length_nil, Nat.zero_add, Nat.reduceAdd]) | exact lenGP (by assumption) (by conv => lhs; simp only [List.length_cons, List.length_nil, Nat.zero_add, Nat.reduceAdd]) rfl | (conv => lhs; simp only [List.length_append, List.length_cons, List.length_nil, Nat.zero_add, Nat.reduceAdd])) (hd : Nat.blt d N = true := by rfl) (hzs : z.cells.size = sz := by rfl) (hσ : σ.set id .dead ++ [.arr e sz ((xs.take n ++ ys).map f)] = σ' := by first | exact snocG0 (by assumption) (by conv => lhs; simp only [List.set, List.cons_append, List.nil_append]) (by conv => lhs; simp only [List.set, List.cons_append, List.nil_append]) | exact snocG (by assumption) (by conv => lhs; simp only [List.set, List.cons_append, List.nil_append]) (by conv => lhs; simp only [List.set, List.cons_append, List.nil_append]) | exact snocGP (by assumption) (by conv => lhs; simp only [List.set, List.cons_append, List.nil_append]) (by conv => lhs; simp only [List.set, List.cons_append, List.nil_append]) rfl | (conv => lhs; simp only [List.set, List.cons_append, List.nil_append])) :
    AList P N ops Q (⟨some d, .call { callee := .builtin .append, args := #[x, y], argTypes := #[t, t] }, ty, pos, aft, none⟩ :: rest) ⟨fr, σ⟩ := by
  have hnew : (xs.map f).take n ++ ys.map f = (xs.take n ++ ys).map f := by simp
  have hlen : ((xs.take n ++ ys).map f).length = n + ys.length := by simp; omega
  exact k_append (n := n) (new := (xs.take n ++ ys).map f) (m := m) (by simpa using hb) hnew (by rw [hlen]; exact k) hx ho (by simpa using hn) hy hm hd hzs hσ
/-- An element, told by what it is, is written over. -/
theorem k_storeElM {t e' : TypeId} {agg : Bool} {sz esz : Nat} {x z : Operand} {y : AV} {id i : Nat} {f : α → List PV} {xs : List α} (v : α) [TV P t agg sz] (k : AList P N ops Q rest ⟨fr, σ'⟩) (hx : ev fr x = .c (.ept id esz i 0) := by exact rfl) (hy : ev fr z = y := by conv => lhs; whnf) (ho : σ[id]? = some (.arr e' esz (xs.map f)) := by first | exact rfl | exact getG0 (by assumption) rfl | exact getG (by assumption) rfl | exact getGP (by assumption) rfl rfl | exact getL (getG0 (by assumption) rfl) | exact getL (getG (by assumption) rfl)) (hi : i < xs.length := by first | omega | (simp only [List.length_set, List.length_append, List.length_replicate]; omega)) (hes : ∀ a, (f a).length = esz := by intro a; rfl) (hyc : unP y.cells = some (f v) := by exact rfl) (hsure : sureV y = true := by rfl) (he : sz = esz := by rfl)
    (hσ : σ.set id (.arr e' esz ((xs.set i v).map f)) = σ' := by first | exact setG0 (by assumption) (by conv => lhs; simp only [List.set, List.cons_append, List.nil_append]) | exact setG (by assumption) (by conv => lhs; simp only [List.set, List.cons_append, List.nil_append]) | exact setGP (by assumption) (by conv => lhs; simp only [List.set, List.cons_append, List.nil_append]) rfl | exact setP rfl (by conv => lhs; simp only [List.set, List.cons_append, List.nil_append]) | (conv => lhs; simp only [List.set, List.cons_append, List.nil_append])) (hgc : goodConst z = true := by rfl) :
    AList P N ops Q (⟨none, .store t x z, ty, pos, aft, none⟩ :: rest) ⟨fr, σ⟩ := by
  have hcells : y.cells = (f v).map .p := unP_map hyc
  have hlen : (f v).length = sz := by rw [hes]; exact he.symm
  subst he
  have hi' : i < (xs.map f).length := by simpa using hi
  refine w_storeEpt hx hy ho (List.getElem?_eq_getElem hi') hcells hsure hlen (by simp [hes]) (el' := f v) (by simp only [lay, List.take_zero, List.nil_append, Nat.zero_add]; rw [List.drop_of_length_le (by simp [hes]), List.append_nil]) ?_ k hgc
  rw [← hσ]; congr 2; simp [List.map_set]
/-- A part of an element is written over. -/
theorem k_storePart {t e' : TypeId} {agg : Bool} {sz esz : Nat} {x z : Operand} {y : AV} {ys : List PV} {id i off : Nat} {f : α → List PV} {xs : List α} (v : α) [TV P t agg sz] [Inhabited α] (k : AList P N ops Q rest ⟨fr, σ'⟩) (hx : ev fr x = .c (.ept id esz i off) := by exact rfl) (hy : ev fr z = y := by conv => lhs; whnf) (ho : σ[id]? = some (.arr e' esz (xs.map f)) := by first | exact rfl | exact getG0 (by assumption) rfl | exact getG (by assumption) rfl | exact getGP (by assumption) rfl rfl | exact getL (getG0 (by assumption) rfl) | exact getL (getG (by assumption) rfl)) (hi : i < xs.length := by first | omega | (simp only [List.length_set, List.length_append, List.length_replicate]; omega)) (hyc : unP y.cells = some ys := by exact rfl) (hsure : sureV y = true := by rfl) (hn : ys.length = sz := by rfl) (hle : off + sz ≤ (f (at' xs i)).length := by first | exact Nat.le_of_ble_eq_true rfl | (simp; done)) (hl : lay (f (at' xs i)) off ys = f v := by first | exact rfl | ((conv => lhs; simp only [lay, Int.reduceSub, Int.reduceToNat, Nat.reduceMul, Nat.reduceAdd, List.take_succ_cons, List.take_zero, List.drop_succ_cons, List.drop_zero, List.drop_nil, List.length_cons, List.length_nil, List.cons_append, List.nil_append]) <;> exact rfl))
    (hσ : σ.set id (.arr e' esz ((xs.set i v).map f)) = σ' := by first | exact setG0 (by assumption) (by conv => lhs; simp only [List.set, List.cons_append, List.nil_append]) | exact setG (by assumption) (by conv => lhs; simp only [List.set, List.cons_append, List.nil_append]) | exact setGP (by assumption) (by conv => lhs; simp only [List.set, List.cons_append, List.nil_append]) rfl | exact setP rfl (by conv => lhs; simp only [List.set, List.cons_append, List.nil_append]) | (conv => lhs; simp only [List.set, List.cons_append, List.nil_append])) (hgc : goodConst z = true := by rfl) :
    AList P N ops Q (⟨none, .store t x z, ty, pos, aft, none⟩ :: rest) ⟨fr, σ⟩ := by
  have hel : (xs.map f)[i]? = some (f (at' xs i)) := by
    have := at_get xs (i : Int) (by omega) (by omega)
    rw [Int.toNat_natCast] at this
    rw [List.getElem?_map, this]; rfl
  refine w_storeEpt hx hy ho hel (unP_map hyc) hsure hn hle hl ?_ k hgc
  rw [← hσ]; congr 2; simp [List.map_set]
/-! ### 3. Ghosts -/
/-- A nil slice is an array of the call's own, without elements. -/
theorem k_own {l : List Oper} (t : Nat) (e : TypeId) (sz : Nat) {id : Nat} (k : AList P N ops Q l ⟨(t, .c (.ms id 0)) :: fr, σ'⟩) (h : fr.get t = .c (.p (.lit (.slice none 0 0))) := by exact rfl) (hm : σ.length = id := by first | exact lenG0 (by assumption) (by conv => lhs; simp only [List.length_cons, List.length_nil, Nat.zero_add, Nat.reduceAdd]) | exact lenG (by assumption) (by conv => lhs; simp only [List.length_cons, List.length_nil, Nat.zero_add, Nat.reduceAdd]) | exact lenGP (by assumption) (by conv => lhs; simp only [List.length_cons, List.length_nil, Nat.zero_add, Nat.reduceAdd]) rfl | (conv => lhs; simp only [List.length_append, List.length_cons, List.length_nil, Nat.zero_add, Nat.reduceAdd])) (hσ : σ ++ [.arr e sz []] = σ' := by first | exact addG (by conv => lhs; simp only [List.set, List.cons_append, List.nil_append]) | exact addG0 (by conv => lhs; simp only [List.set, List.cons_append, List.nil_append]) | (conv => lhs; simp only [List.set, List.cons_append, List.nil_append])) : AList P N ops Q l ⟨fr, σ⟩ := by
  subst hm; subst hσ
  exact gl_nil t e sz h k
theorem kw_own {c : Code} (t : Nat) (e : TypeId) (sz : Nat) {id : Nat} (k : AWp P N c Q ⟨(t, .c (.ms id 0)) :: fr, σ'⟩) (h : fr.get t = .c (.p (.lit (.slice none 0 0))) := by exact rfl) (hm : σ.length = id := by first | exact lenG0 (by assumption) (by conv => lhs; simp only [List.length_cons, List.length_nil, Nat.zero_add, Nat.reduceAdd]) | exact lenG (by assumption) (by conv => lhs; simp only [List.length_cons, List.length_nil, Nat.zero_add, Nat.reduceAdd]) | exact lenGP (by assumption) (by conv => lhs; simp only [List.length_cons, List.length_nil, Nat.zero_add, Nat.reduceAdd]) rfl | (conv => lhs; simp only [List.length_append, List.length_cons, List.length_nil, Nat.zero_add, Nat.reduceAdd])) (hσ : σ ++ [.arr e sz []] = σ' := by first | exact addG (by conv => lhs; simp only [List.set, List.cons_append, List.nil_append]) | exact addG0 (by conv => lhs; simp only [List.set, List.cons_append, List.nil_append]) | (conv => lhs; simp only [List.set, List.cons_append, List.nil_append])) : AWp P N c Q ⟨fr, σ⟩ := by
  subst hm; subst hσ
  exact gw_nil t e sz h k
theorem k_freezeM {l : List Oper} {e : TypeId} {sz n id : Nat} {f : α → List PV} {xs : List α} (t : Nat) (k : AList P N ops Q l ⟨(t, .c (.p (.sl sz ((xs.take n).map f)))) :: fr, σ'⟩) (h : fr.get t = .c (.ms id n) := by exact rfl) (ho : σ[id]? = some (.arr e sz (xs.map f)) := by first | exact rfl | exact getG0 (by assumption) rfl | exact getG (by assumption) rfl | exact getGP (by assumption) rfl rfl | exact getL (getG0 (by assumption) rfl) | exact getL (getG (by assumption) rfl)) (hn : n ≤ xs.length := by first | exact Nat.le_refl _ | omega | (simp; done)) (hσ : σ.set id .dead = σ' := by first | exact setG0 (by assumption) (by conv => lhs; simp only [List.set, List.cons_append, List.nil_append]) | exact setG (by assumption) (by conv => lhs; simp only [List.set, List.cons_append, List.nil_append]) | exact setGP (by assumption) (by conv => lhs; simp only [List.set, List.cons_append, List.nil_append]) rfl | exact setP rfl (by conv => lhs; simp only [List.set, List.cons_append, List.nil_append]) | (conv => lhs; simp only [List.set, List.cons_append, List.nil_append])) : AList P N ops Q l ⟨fr, σ⟩ := gl_freeze t id h ho (by simpa using hn) (by simp) hσ k
theorem k_freezeA {l : List Oper} {e : TypeId} {sz id : Nat} {f : α → List PV} {xs : List α} (t : Nat) (k : AList P N ops Q l ⟨(t, .c (.p (.sl sz (xs.map f)))) :: fr, σ'⟩) (h : fr.get t = .c (.ms id xs.length) := by exact rfl) (ho : σ[id]? = some (.arr e sz (xs.map f)) := by first | exact rfl | exact getG0 (by assumption) rfl | exact getG (by assumption) rfl | exact getGP (by assumption) rfl rfl | exact getL (getG0 (by assumption) rfl) | exact getL (getG (by assumption) rfl)) (hσ : σ.set id .dead = σ' := by first | exact setG0 (by assumption) (by conv => lhs; simp only [List.set, List.cons_append, List.nil_append]) | exact setG (by assumption) (by conv => lhs; simp only [List.set, List.cons_append, List.nil_append]) | exact setGP (by assumption) (by conv => lhs; simp only [List.set, List.cons_append, List.nil_append]) rfl | exact setP rfl (by conv => lhs; simp only [List.set, List.cons_append, List.nil_append]) | (conv => lhs; simp only [List.set, List.cons_append, List.nil_append])) : AList P N ops Q l ⟨fr, σ⟩ := gl_freeze t id h ho (by simp) (List.take_of_length_le (by simp)) hσ k
theorem kw_freezeM {c : Code} {e : TypeId} {sz n id : Nat} {f : α → List PV} {xs : List α} (t : Nat) (k : AWp P N c Q ⟨(t, .c (.p (.sl sz ((xs.take n).map f)))) :: fr, σ'⟩) (h : fr.get t = .c (.ms id n) := by exact rfl) (ho : σ[id]? = some (.arr e sz (xs.map f)) := by first | exact rfl | exact getG0 (by assumption) rfl | exact getG (by assumption) rfl | exact getGP (by assumption) rfl rfl | exact getL (getG0 (by assumption) rfl) | exact getL (getG (by assumption) rfl)) (hn : n ≤ xs.length := by first | exact Nat.le_refl _ | omega | (simp; done)) (hσ : σ.set id .dead = σ' := by first | exact setG0 (by assumption) (by conv => lhs; simp only [List.set, List.cons_append, List.nil_append]) | exact setG (by assumption) (by conv => lhs; simp only [List.set, List.cons_append, List.nil_append]) | exact setGP (by assumption) (by conv => lhs; simp only [List.set, List.cons_append, List.nil_append]) rfl | exact setP rfl (by conv => lhs; simp only [List.set, List.cons_append, List.nil_append]) | (conv => lhs; simp only [List.set, List.cons_append, List.nil_append])) : AWp P N c Q ⟨fr, σ⟩ := gw_freeze t id h ho (by simpa using hn) (by simp) hσ k
/-! ### 4. Loops whose memory has a part that isn't known -/
theorem aw_roundsG {ι : Type} {c : Code} (S : ι → Nat → Fr) (L : ι → Nat → List AObj) (Φ : ι → Prop) (μ : ι → Nat) (i0 : ι) (n0 : Nat) (hΦ : Φ i0) (hn : n0 ≤ σ.length) (hσ : σ.drop n0 = L i0 n0) (hS : ∀ p ∈ S i0 n0, fr.get p.1 = p.2)
    (round : ∀ i n (g : List AObj), Φ i → g.length = n → AWp P N c (fun x s' => match x with | .normal => ∃ j n', Φ j ∧ n' ≤ s'.σ.length ∧ s'.σ.drop n' = L j n' ∧ (∀ p ∈ S j n', s'.fr.get p.1 = p.2) ∧ μ j < μ i | x => Q x s') ⟨S i n, g ++ L i n⟩) : AWp P N (.loop c) Q ⟨fr, σ⟩ := by
  refine aw_rounds (ι := ι × List AObj) (fun p => S p.1 p.2.length) (fun p => p.2 ++ L p.1 p.2.length) (fun p => Φ p.1) (fun p => μ p.1) (i0, σ.take n0) hΦ ?_ ?_ (fun i hi => ?_)
  · have : (σ.take n0).length = n0 := by simp [hn]
    simp only [this]
    rw [← hσ, List.take_append_drop]
  · have : (σ.take n0).length = n0 := by simp [hn]
    simp only [this]
    exact hS
  · obtain ⟨i, gg⟩ := i
    refine (round i gg.length gg hi rfl).mono fun x s' h => ?_
    cases x with
    | normal =>
      obtain ⟨j, n', h1, h2, h3, h4, h5⟩ := h
      have : (s'.σ.take n').length = n' := by simp [h2]
      exact ⟨(j, s'.σ.take n'), h1, by simp only [this]; rw [← h3, List.take_append_drop], by simp only [this]; exact h4, h5⟩
    | _ => exact h
end
end Go.AL
set_option linter.unusedVariables false
set_option linter.unusedSimpArgs false
namespace Go.AL
open Go.RowKit
inductive CK where
  | int (k : IntKind)
  | bool
  | str
def fitB : CK → Value → Bool
  | .int k, .int k' _ => decide (k = k')
  | .bool, .bool _ => true
  | .str, .string _ => true
  | _, _ => false
def fitAll : List CK → List Value → Bool
  | [], [] => true
  | k :: ks, v :: vs => fitB k v && fitAll ks vs
  | _, _ => false
def vbeq : Value → Value → Bool
  | .int _ a, .int _ b => a == b
  | .bool a, .bool b => a == b
  | .string a, .string b => a == b
  | _, _ => false
def eqCells : List Value → List Value → Bool
  | [], [] => true
  | a :: as, b :: bs => vbeq a b && eqCells as bs
  | _, _ => false
theorem fitAll_len : ∀ {ks : List CK} {vs : List Value}, fitAll ks vs = true → vs.length = ks.length
  | [], [], _ => rfl
  | [], _ :: _, h => by simp [fitAll] at h
  | _ :: _, [], h => by simp [fitAll] at h
  | k :: ks, v :: vs, h => by simp only [fitAll, Bool.and_eq_true] at h; simp [fitAll_len h.2]
theorem fitAll_append : ∀ {ks1 ks2 : List CK} {vs : List Value}, fitAll (ks1 ++ ks2) vs = true → fitAll ks1 (vs.take ks1.length) = true ∧ fitAll ks2 (vs.drop ks1.length) = true
  | [], ks2, vs, h => by simpa [fitAll] using h
  | k :: ks1, ks2, [], h => by simp [fitAll] at h
  | k :: ks1, ks2, v :: vs, h => by
    simp only [List.cons_append, fitAll, Bool.and_eq_true] at h
    obtain ⟨h1, h2⟩ := fitAll_append (ks1 := ks1) h.2
    simp [fitAll, h.1, h1, h2]
theorem eqCells_append : ∀ {n : Nat} {as bs : List Value}, as.length = bs.length → eqCells as bs = (eqCells (as.take n) (bs.take n) && eqCells (as.drop n) (bs.drop n))
  | 0, as, bs, h => by simp [eqCells]
  | n + 1, [], [], h => by simp [eqCells]
  | n + 1, [], _ :: _, h => by simp at h
  | n + 1, _ :: _, [], h => by simp at h
  | n + 1, a :: as, b :: bs, h => by
    simp only [List.length_cons, Nat.add_right_cancel_iff] at h
    simp only [eqCells, List.take_succ_cons, List.drop_succ_cons]
    rw [eqCells_append (n := n) h, Bool.and_assoc]
/-- A type whose values, laid out, are compared cell by cell. -/
def EqT (P : Program) (d : Nat) (t : TypeId) (ks : List CK) : Prop :=
  ∀ (w : World) (xs ys : Array Value) (off : Nat), fitAll ks ((xs.toList.drop off).take ks.length) = true → fitAll ks ((ys.toList.drop off).take ks.length) = true →
    ∃ a b, (part t xs off).run P w = .ok a w ∧ (part t ys off).run P w = .ok b w ∧ (Op.equalIn d t a b).run P w = .ok (eqCells ((xs.toList.drop off).take ks.length) ((ys.toList.drop off).take ks.length)) w
theorem fit1 {k : CK} {xs : Array Value} {off : Nat} (h : fitAll [k] ((xs.toList.drop off).take 1) = true) : ∃ v, xs[off]? = some v ∧ fitB k v = true ∧ (xs.toList.drop off).take 1 = [v] := by
  cases hx : (xs.toList.drop off).take 1 with
  | nil => rw [hx] at h; simp [fitAll] at h
  | cons v r =>
    rw [hx] at h
    have hr : r = [] := by
      have := fitAll_len h
      simpa using this
    subst hr
    refine ⟨v, ?_, by simpa [fitAll] using h, rfl⟩
    have : ((xs.toList.drop off).take 1)[0]? = some v := by rw [hx]; rfl
    simpa [List.getElem?_take, List.getElem?_drop] using this
theorem eqT_scalar {P : Program} {d : Nat} {t : TypeId} {k : CK} (hv : TV P t false 1) (hu : (match k with | .int _ => ∃ k', P.underlying t = some (.int k') | .bool => P.underlying t = some .bool | .str => P.underlying t = some .string)) : EqT P (d + 1) t [k] := by
  intro w xs ys off hx hy
  obtain ⟨a, h1, h2, h3⟩ := fit1 hx
  obtain ⟨b, g1, g2, g3⟩ := fit1 hy
  have hp : ∀ (zs : Array Value) v, zs[off]? = some v → (part t zs off).run P w = .ok v w := by
    intro zs v hz
    simp only [part, Sem.run_bind, (hv.run w).1, Result.andThen_ok, Bool.false_eq_true, if_false, hz]
    rfl
  refine ⟨a, b, hp _ _ h1, hp _ _ g1, ?_⟩
  simp only [List.length_cons, List.length_nil, Nat.zero_add, h3, g3, eqCells, Bool.and_true]
  cases k with
  | int k =>
    obtain ⟨k', hu⟩ := hu
    cases a <;> simp [fitB] at h2
    cases b <;> simp [fitB] at g2
    subst h2; subst g2
    exact run_equalIn_int w d t _ k' _ _ hu
  | bool =>
    cases a <;> simp [fitB] at h2
    cases b <;> simp [fitB] at g2
    exact run_equalIn_bool' w d t _ _ hu
  | str =>
    cases a <;> simp [fitB] at h2
    cases b <;> simp [fitB] at g2
    rw [run_equalIn_string w d t _ _ hu, vbeq, beq_toListBytes]
theorem part_agg {P : Program} {t : TypeId} {n : Nat} (hv : TV P t true n) (w : World) (xs : Array Value) (off : Nat) : (part t xs off).run P w = .ok (.agg (xs.extract off (off + n))) w := by
  simp only [part, Sem.run_bind, (hv.run w).1, (hv.run w).2, Result.andThen_ok, if_true, Sem.run_pure]
theorem extract_toList (xs : Array Value) (off n : Nat) : (xs.extract off (off + n)).toList = (xs.toList.drop off).take n := by
  simp [Array.toList_extract, List.extract_eq_take_drop]
/-- An aggregate, from what is true of it as a whole. -/
theorem eqT_agg {P : Program} {d : Nat} {t : TypeId} {ks : List CK} (hv : TV P t true ks.length) (h : ∀ (w : World) (xs ys : Array Value), fitAll ks xs.toList = true → fitAll ks ys.toList = true → (Op.equalIn d t (.agg xs) (.agg ys)).run P w = .ok (eqCells xs.toList ys.toList) w) : EqT P d t ks := by
  intro w xs ys off hx hy
  refine ⟨_, _, part_agg hv w xs off, part_agg hv w ys off, ?_⟩
  rw [h w _ _ (by rw [extract_toList]; exact hx) (by rw [extract_toList]; exact hy), extract_toList, extract_toList]
inductive Flds (P : Program) (d : Nat) : Nat → List Field → List CK → Prop
  | nil {off : Nat} : Flds P d off [] []
  | cons {off : Nat} {f : Field} {fs : List Field} {k1 k2 : List CK} (ho : f.offset = off) (hn : f.name ≠ "_") (h : EqT P d f.type k1) (t : Flds P d (off + k1.length) fs k2) : Flds P d off (f :: fs) (k1 ++ k2)
theorem run_flds {P : Program} {d : Nat} {xs ys : Array Value} : ∀ {off : Nat} {fs : List Field} {ks : List CK} (w : World), Flds P d off fs ks → fitAll ks ((xs.toList.drop off).take ks.length) = true → fitAll ks ((ys.toList.drop off).take ks.length) = true →
    (Op.eqFields d xs ys fs).run P w = .ok (eqCells ((xs.toList.drop off).take ks.length) ((ys.toList.drop off).take ks.length)) w := by
  intro off fs ks w h
  induction h with
  | nil => intro _ _; simp [Op.eqFields, eqCells]
  | @cons off f fs k1 k2 ho hn h t ih =>
    intro hx hy
    subst ho
    have e1 : ∀ (zs : Array Value), ((zs.toList.drop f.offset).take (k1 ++ k2).length).take k1.length = (zs.toList.drop f.offset).take k1.length := fun zs => by
      rw [List.take_take]; congr 1; simp
    have e2 : ∀ (zs : Array Value), ((zs.toList.drop f.offset).take (k1 ++ k2).length).drop k1.length = (zs.toList.drop (f.offset + k1.length)).take k2.length := fun zs => by
      rw [List.drop_take, List.drop_drop]; simp
    have hlen := (fitAll_len hx).trans (fitAll_len hy).symm
    obtain ⟨x1, x2⟩ := fitAll_append hx
    obtain ⟨y1, y2⟩ := fitAll_append hy
    rw [e1] at x1 y1
    rw [e2] at x2 y2
    obtain ⟨a, b, p1, p2, p3⟩ := h w xs ys f.offset x1 y1
    rw [eqCells_append (n := k1.length) hlen, e1, e1, e2, e2]
    simp only [Op.eqFields]
    rw [if_pos hn]
    simp only [Sem.run_bind, p1, p2, p3, Result.andThen_ok]
    cases hb : eqCells (List.take k1.length (List.drop f.offset xs.toList)) (List.take k1.length (List.drop f.offset ys.toList)) with
    | false => simp
    | true => simpa using ih x2 y2
theorem eqT_struct {P : Program} {d : Nat} {t : TypeId} {ks : List CK} (hv : TV P t true ks.length) (ht : P.underlying t = some (.struct (P.fieldsOf t))) (hp : P.stoodInHeld t = false) (h : Flds P d 0 (P.fieldsOf t).toList ks) : EqT P (d + 1) t ks := by
  refine eqT_agg hv fun w xs ys hx hy => ?_
  have lx : xs.toList.take ks.length = xs.toList := List.take_of_length_le (by rw [fitAll_len hx]; exact Nat.le_refl _)
  have ly : ys.toList.take ks.length = ys.toList := List.take_of_length_le (by rw [fitAll_len hy]; exact Nat.le_refl _)
  rw [run_equalIn_struct w d t xs ys ht hp]
  have := run_flds (xs := xs) (ys := ys) w h (by simpa [lx] using hx) (by simpa [ly] using hy)
  simpa [lx, ly] using this
theorem eqT_struct' {P : Program} {d : Nat} {t : TypeId} {ks : List CK} {fs : Array Field} (hv : TV P t true ks.length) (hu : P.underlying t = some (.struct fs)) (hp : P.stoodInHeld t = false) (h : Flds P d 0 fs.toList ks) : EqT P (d + 1) t ks := by
  have e : P.fieldsOf t = fs := by simp [Program.fieldsOf, hu]
  exact eqT_struct hv (by rw [e]; exact hu) hp (by rw [e]; exact h)
theorem run_items {P : Program} {d : Nat} {e : TypeId} {k : CK} (h : EqT P d e [k]) {xs ys : Array Value} (w : World) : ∀ (n i : Nat), fitAll (List.replicate n k) ((xs.toList.drop i).take n) = true → fitAll (List.replicate n k) ((ys.toList.drop i).take n) = true →
    (Op.eqItems d e 1 xs ys (List.range' i n)).run P w = .ok (eqCells ((xs.toList.drop i).take n) ((ys.toList.drop i).take n)) w
  | 0, i, _, _ => by simp [Op.eqItems, eqCells, List.range']
  | n + 1, i, hx, hy => by
    have hlen := (fitAll_len hx).trans (fitAll_len hy).symm
    rw [show List.replicate (n + 1) k = [k] ++ List.replicate n k from rfl] at hx hy
    obtain ⟨x1, x2⟩ := fitAll_append hx
    obtain ⟨y1, y2⟩ := fitAll_append hy
    have e1 : ∀ (zs : Array Value), ((zs.toList.drop i).take (n + 1)).take [k].length = (zs.toList.drop i).take 1 := fun zs => by simp [List.take_take]
    have e2 : ∀ (zs : Array Value), ((zs.toList.drop i).take (n + 1)).drop [k].length = (zs.toList.drop (i + 1)).take n := fun zs => by simp [List.drop_take, List.drop_drop]
    rw [e1] at x1 y1
    rw [e2] at x2 y2
    obtain ⟨a, b, p1, p2, p3⟩ := h w xs ys i x1 y1
    have ih := run_items h w n (i + 1) x2 y2
    rw [eqCells_append (n := [k].length) hlen, e1, e1, e2, e2]
    simp only [List.range', Op.eqItems, Nat.mul_one, Sem.run_bind, p1, p2, p3, Result.andThen_ok]
    simp only [List.length_cons, List.length_nil, Nat.zero_add]
    cases hb : eqCells ((xs.toList.drop i).take 1) ((ys.toList.drop i).take 1) with
    | false => simp
    | true => simpa using ih
theorem eqT_array {P : Program} {d n : Nat} {t e : TypeId} {k : CK} [TA P t n e] (hv : TV P t true n) (hve : TV P e false 1) (he : EqT P d e [k]) (hc : P.cellsOf e = 1) (hi : (P.info? e).isSome = true) : EqT P (d + 1) t (List.replicate n k) := by
  refine eqT_agg (by simpa using hv) fun w xs ys hx hy => ?_
  obtain ⟨i, hi⟩ := Option.isSome_iff_exists.1 hi
  rw [run_equalIn_array w d xs ys (TA.und (P := P) (t := t)) hi, hc, List.range_eq_range']
  have lx := fitAll_len hx
  have ly := fitAll_len hy
  simp only [List.length_replicate] at lx ly
  have ex : xs.toList.take n = xs.toList := List.take_of_length_le (by rw [lx]; exact Nat.le_refl _)
  have ey : ys.toList.take n = ys.toList := List.take_of_length_le (by rw [ly]; exact Nat.le_refl _)
  have := run_items he (xs := xs) (ys := ys) w n 0 (by rw [List.drop_zero, ex]; exact hx) (by rw [List.drop_zero, ey]; exact hy)
  rw [this, List.drop_zero, List.drop_zero, ex, ey]
class TEq (P : Program) (t : TypeId) (ks : outParam (List CK)) : Prop where
  eq : EqT P 10000 t ks
  agg : TV P t true ks.length
  noGuard : P.eqGuardType P.depth t = false
section
variable {P : Program} {σ : List AObj} {fr : Fr} {d : Option Nat} {ty : TypeId} {pos : String} {aft : Array Edge} {g : Option (Nat × Bool)}
theorem rv_lits {m : List Loc} {w : World} {F : Nat → Nat → Prop} {l : List C} {vs : List Value} {u : Value} (hl : l = vs.map fun v => .p (.lit v)) (h : RV m w F (.agg l) u) : u = .agg vs.toArray := by
  obtain ⟨cs, rfl, h1, h2⟩ := h
  subst hl
  congr 1
  apply Array.ext'
  apply List.ext_getElem?
  intro j
  simp only [List.length_map] at h1
  by_cases hj : j < vs.length
  · have := h2 j (.p (.lit vs[j])) (by simp [hj])
    have e := RP.eq_lit this
    have hj' : j < cs.size := by omega
    rw [Array.getD_eq_getD_getElem?, Array.getElem?_eq_getElem hj', Option.getD_some] at e
    simp [hj, hj', e]
  · simp [hj, h1]
theorem eq_run {t : TypeId} {ks : List CK} [TEq P t ks] {xs ys : List Value} (hx : fitAll ks xs = true) (hy : fitAll ks ys = true) (w : World) : (Op.equalIn 10000 t (.agg xs.toArray) (.agg ys.toArray)).run P w = .ok (eqCells xs ys) w := by
  obtain ⟨a, b, p1, p2, p3⟩ := (TEq.eq (P := P) (t := t)) w xs.toArray ys.toArray 0 (by simpa [← fitAll_len hx] using hx) (by simpa [← fitAll_len hy] using hy)
  rw [part_agg (TEq.agg (P := P) (t := t))] at p1 p2
  injection p1 with p1 _
  injection p2 with p2 _
  have e1 : xs.toArray.extract 0 (0 + ks.length) = xs.toArray := by simp [← fitAll_len hx]
  have e2 : ys.toArray.extract 0 (0 + ks.length) = ys.toArray := by simp [← fitAll_len hy]
  rw [e1] at p1
  rw [e2] at p2
  subst p1; subst p2
  rw [p3]
  simp [← fitAll_len hx]
  rw [fitAll_len hx, ← fitAll_len hy]; simp
theorem r_binAgg {op : BinOp} {t t' : TypeId} {x y : Operand} {ks : List CK} {l1 l2 : List C} {v1 v2 : List Value} {z : Value} [TEq P t ks] (hx : ev fr x = .agg l1) (hy : ev fr y = .agg l2) (h1 : l1 = v1.map fun v => .p (.lit v)) (h2 : l2 = v2.map fun v => .p (.lit v))
    (hr : ∀ w, (binOp op t (.agg v1.toArray) (.agg v2.toArray)).run P w = .ok z w) (hz : z.oneCell' = true) (hg1 : goodConst x = true) (hg2 : goodConst y = true) : RStep P σ fr ⟨d, .binOp op t x y t', ty, pos, aft, g⟩ (.c (.p (.lit z))) :=
  rs_pure fun m F w a i hs => by
    have e1 := hs x (by simp [Op.operands]) hg1
    have e2 := hs y (by simp [Op.operands]) hg2
    rw [hx] at e1; rw [hy] at e2
    refine ⟨_, ?_, RP.lit hz⟩
    simp only [execOp, rv_lits h1 e1, rv_lits h2 e2, Sem.run_bind, run_eqGuard_agg _ op t x y _ _ (TEq.noGuard (P := P) (t := t)), Result.andThen_ok, hr, Sem.run_pure]
def lits : List C → Option (List Value)
  | [] => some []
  | c :: r => match c, lits r with
    | .p (.lit v), some vs => some (v :: vs)
    | _, _ => none
theorem lits_map : ∀ {l : List C} {v : List Value}, lits l = some v → l = v.map fun v => .p (.lit v)
  | [], v, h => by simp [lits] at h; subst h; rfl
  | c :: r, v, h => by
    simp only [lits] at h
    split at h
    · rename_i v' vs h1
      injection h with h; subst h
      rw [lits_map h1]; rfl
    · cases h
theorem b_eqlAgg {t t' : TypeId} {x y : Operand} {ks : List CK} {l1 l2 : List C} {v1 v2 : List Value} {r : Bool} [TEq P t ks] (hx : ev fr x = .agg l1 := by conv => lhs; whnf) (hy : ev fr y = .agg l2 := by conv => lhs; whnf) (h1 : lits l1 = some v1 := by exact rfl) (h2 : lits l2 = some v2 := by exact rfl)
    (f1 : fitAll ks v1 = true := by rfl) (f2 : fitAll ks v2 = true := by rfl) (hr : eqCells v1 v2 = r := by (simp only [eqCells, vbeq, Bool.and_true]; rfl)) (hg1 : goodConst x = true := by rfl) (hg2 : goodConst y = true := by rfl) : RStep P σ fr ⟨d, .binOp .eql t x y t', ty, pos, aft, g⟩ (bl r) :=
  r_binAgg hx hy (lits_map h1) (lits_map h2) (fun w => by rw [run_eql_struct, eq_run f1 f2, hr]; rfl) rfl hg1 hg2
theorem b_neqAgg {t t' : TypeId} {x y : Operand} {ks : List CK} {l1 l2 : List C} {v1 v2 : List Value} {r : Bool} [TEq P t ks] (hx : ev fr x = .agg l1 := by conv => lhs; whnf) (hy : ev fr y = .agg l2 := by conv => lhs; whnf) (h1 : lits l1 = some v1 := by exact rfl) (h2 : lits l2 = some v2 := by exact rfl)
    (f1 : fitAll ks v1 = true := by rfl) (f2 : fitAll ks v2 = true := by rfl) (hr : eqCells v1 v2 = r := by (simp only [eqCells, vbeq, Bool.and_true]; rfl)) (hg1 : goodConst x = true := by rfl) (hg2 : goodConst y = true := by rfl) : RStep P σ fr ⟨d, .binOp .neq t x y t', ty, pos, aft, g⟩ (bl (!r)) :=
  r_binAgg hx hy (lits_map h1) (lits_map h2) (fun w => by rw [run_neq_struct, eq_run f1 f2, hr]; rfl) rfl hg1 hg2
end
end Go.AL
set_option linter.unusedVariables false
set_option linter.unusedSimpArgs false
namespace Go.AL
open Go.RowKit
section
variable {P : Program} {N : Nat} {Q : AE → St → Prop} {ops : Array Oper} {rest : List Oper} {σ σ' : List AObj} {fr : Fr}
variable {d : Option Nat} {ty : TypeId} {pos : String} {aft : Array Edge} {g : Option (Nat × Bool)} {v : AV}
/-! ### 1. Function values -/
theorem r_makeFunc {f : FuncId} {cap : Array Operand} {l : List PV} (hx : cap.toList.map (ev fr) = l.map fun x => .c (.p x)) (hg : cap.toList.all goodConst = true) : RStep P σ fr ⟨d, .makeFunc (.func f) #[] cap, ty, pos, aft, g⟩ (.c (.p (.fn f l))) :=
  rs_pure fun m F w a i hs => by
    obtain ⟨h1, h2⟩ := callArgs (a := a) (m := m) (w := w) (F := F) hx (fun x hx' hc => hs x (by simpa [Op.operands] using hx') hc) hg
    refine ⟨.func (.func f) #[] (cap.map a.eval), ?_, ?_⟩
    · simp [execOp, Instr.makeFunc, Sem.run_bind, Sem.run_pure]
    · refine RP.fn _ (by simpa using h1) fun j x hj => ?_
      have := h2 j (.c (.p x)) (by rw [List.getElem?_map, hj]; rfl)
      exact this
def unPC : List AV → Option (List PV)
  | [] => some []
  | c :: r => match c, unPC r with
    | .c (.p v), some vs => some (v :: vs)
    | _, _ => none
theorem unPC_map : ∀ {l : List AV} {v : List PV}, unPC l = some v → l = v.map fun x => .c (.p x)
  | [], v, h => by simp [unPC] at h; subst h; rfl
  | c :: r, v, h => by
    simp only [unPC] at h
    split at h
    · rename_i v' vs h1
      injection h with h; subst h
      rw [unPC_map h1]; rfl
    · cases h
theorem b_makeFunc {f : FuncId} {cap : Array Operand} {l : List PV} (hx : unPC (cap.toList.map (ev fr)) = some l := by exact rfl) (hg : cap.toList.all goodConst = true := by rfl) : RStep P σ fr ⟨d, .makeFunc (.func f) #[] cap, ty, pos, aft, g⟩ (.c (.p (.fn f l))) := r_makeFunc (unPC_map hx) hg
theorem wp_callClo {f : FuncId} [TFn P f] {y : Operand} {xs : Array Operand} {ts : Array TypeId} {a : Act} {w : World} {cap : Array Value} (hy : a.eval y = .func (.func f) #[] cap) {K : Act → World → Prop} {Q : Exit → Act → World → Prop}
    (h : Calls P f (xs.map a.eval ++ cap) w fun | .returned v, w'' => K (a.put d v) w'' | .panicked ch, w'' => Q (.panic ch) a w'' | .outgrown, _ => LetsOut Q) :
    Oper.wp P ⟨d, .call { callee := .value y, args := xs, argTypes := ts }, ty, pos, aft, g⟩ a w K Q := by
  have hr : (execOp a.eval ⟨d, .call { callee := .value y, args := xs, argTypes := ts }, ty, pos, aft, g⟩).run P w = .ok (.enter f (xs.map a.eval ++ cap)) w := by
    simp only [execOp, resolve, hy, Deferred.ofValue, Sem.run_bind, Sem.run_pure, Result.andThen_ok, invoke]
    have := TFn.call (P := P) (f := f) (xs.map a.eval ++ cap) w
    simpa using this
  unfold Oper.wp
  rw [hr]
  exact h
/-- A function value that holds things is called. -/
theorem b_callFn {f : FuncId} [TFn P f] {y : Operand} {xs : Array Operand} {ts : Array TypeId} {args : List AV} {l : List PV} {v : AV} (h : ACalls P f (args ++ l.map fun x => .c (.p x)) [] (fun r _ => r = .ret v)) (hy : ev fr y = .c (.p (.fn f l)) := by exact rfl) (hx : xs.toList.map (ev fr) = args := by (try simp only [↓ev, litAV, ↓Fr.get, ↓reduceIte, Nat.reduceEqDiff, List.map]) <;> rfl) (hp : args.all pureV = true := by rfl) (hv : pureV v = true := by rfl) (hg : xs.toList.all goodConst = true := by rfl) :
    RStep P σ fr ⟨d, .call { callee := .value y, args := xs, argTypes := ts }, ty, pos, aft, g⟩ v := by
  intro m F w a i hs K Q hK
  have e1 := ev_rv (fr := fr) (m := m) (F := F) (w := w) (a := a) (x := y) (good_of_nl hy (by simp)) (fun t e => hs t (by subst e; simp [Op.operands, Call.operands]))
  rw [hy] at e1
  have e1 : RP w F (.fn f l) (a.eval y) := e1
  obtain ⟨vs, c1, c2, c3⟩ : ∃ vs : Array Value, a.eval y = .func (.func f) #[] vs ∧ vs.size = l.length ∧ ∀ j x, l[j]? = some x → RP w F x (vs.getD j undef) := by
    generalize a.eval y = u at e1
    cases e1 with
    | fn vs a1 a2 => exact ⟨vs, rfl, a1, a2⟩
  obtain ⟨h1, h2⟩ := callArgs (a := a) (m := m) (w := w) (F := F) hx (fun x hx' hc => ev_rv hc fun t e => hs t (by subst e; simp [Op.operands, Call.operands, hx'])) hg
  refine wp_callClo c1 ((h [] F w _ i.none ?_ (fun j z hj => ?_)).mono fun e w' he => ?_)
  · simp only [Array.size_append, List.length_append, List.length_map, c2]; omega
  · rw [Array.getD_eq_getD_getElem?, Array.getElem?_append]
    rw [List.getElem?_append] at hj
    split at hj
    · rename_i hlt
      rw [if_pos (by omega), ← Array.getD_eq_getD_getElem?]
      exact rv_pure (List.all_eq_true.1 hp z (List.mem_of_getElem? hj)) (h2 j z hj)
    · rename_i hlt
      rw [if_neg (by omega), h1, ← Array.getD_eq_getD_getElem?]
      simp only [List.getElem?_map, Option.map_eq_some_iff] at hj
      obtain ⟨x, hx, rfl⟩ := hj
      exact c3 _ x hx
  · obtain ⟨m', F', σ', r, rfl, hr, hi, hst⟩ := he
    cases e with
    | returned u => exact hK u F' w' (hst.grow hi) (rv_pure hv hr)
    | panicked ch => exact hr.elim
    | outgrown => exact hr.elim
/-! ### 2. An object is not written any more -/
theorem inv_kill {m : List Loc} {F : Nat → Nat → Prop} {w : World} (i : Inv m F σ w) {id : Nat} {o : AObj} {l : Loc} (ho : σ[id]? = some o) (hm : m[id]? = some l) :
    Inv m (fun b k => F b k ∨ fp o l b k) (σ.set id .dead) w ∧ Step m F σ w m (fun b k => F b k ∨ fp o l b k) (σ.set id .dead) w := by
  have hid : id < σ.length := (List.getElem?_eq_some_iff.1 ho).1
  have hget : ∀ (j : Nat) oj, (σ.set id .dead)[j]? = some oj → (j = id ∧ oj = .dead) ∨ (j ≠ id ∧ σ[j]? = some oj) := by
    intro j oj h
    by_cases hj : j = id
    · subst hj
      rw [List.getElem?_set_self hid] at h
      exact .inl ⟨rfl, by simpa using h.symm⟩
    · rw [List.getElem?_set_ne (fun e => hj e.symm)] at h
      exact .inr ⟨hj, h⟩
  have hFP : ∀ b k, FP (σ.set id .dead) m b k → ∃ (j : Nat) (oj : AObj) (lj : Loc), j ≠ id ∧ σ[j]? = some oj ∧ m[j]? = some lj ∧ fp oj lj b k := by
    rintro b k ⟨j, oj, lj, h1, h2, h3⟩
    rcases hget j oj h1 with ⟨rfl, rfl⟩ | ⟨hj, h1⟩
    · exact h3.elim
    · exact ⟨j, oj, lj, hj, h1, h2, h3⟩
  have hmono : ∀ b k, F b k → (F b k ∨ fp o l b k) := fun b k h => .inl h
  have hsame : ∀ b k, F b k → w.cell? ⟨b, k, none⟩ = w.cell? ⟨b, k, none⟩ := fun _ _ _ => rfl
  refine ⟨?_, ?_⟩
  · refine ⟨by simp [i.len], fun b k hF => ?_, fun b k hf => ?_, fun j oj lj h1 h2 => ?_, fun j k oj lj ok lk hne h1 h2 h3 h4 b q hf1 hf2 => ?_, fun b k hf hF => ?_⟩
    · rcases hF with hF | hF
      · exact i.frz b k hF
      · exact i.lt b k ⟨id, _, _, ho, hm, hF⟩
    · obtain ⟨j, oj, lj, _, h1, h2, h3⟩ := hFP b k hf
      exact i.lt b k ⟨j, oj, lj, h1, h2, h3⟩
    · rcases hget j oj h1 with ⟨rfl, rfl⟩ | ⟨hj, h1⟩
      · cases lj <;> trivial
      · have := ObjAt.mono (k := []) (i.obj j oj lj h1 h2) hmono hsame (fun _ _ _ => ⟨rfl, rfl⟩) (fun _ _ _ _ => rfl)
        simpa using this
    · rcases hget j oj h1 with ⟨rfl, rfl⟩ | ⟨hj, h1⟩
      · exact hf1.elim
      · rcases hget k ok h3 with ⟨rfl, rfl⟩ | ⟨hk, h3⟩
        · exact hf2.elim
        · exact i.sep j k oj lj ok lk hne h1 h2 h3 h4 b q hf1 hf2
    · obtain ⟨j, oj, lj, hj, h1, h2, h3⟩ := hFP b k hf
      rcases hF with hF | hF
      · exact i.dis b k ⟨j, oj, lj, h1, h2, h3⟩ hF
      · exact i.sep j id _ _ _ _ hj h1 h2 ho hm b k h3 hF
  · refine ⟨⟨[], by simp⟩, hmono, rfl, rfl, rfl, Nat.le_refl _, fun _ _ _ => rfl, fun _ _ _ _ => ⟨rfl, rfl⟩, fun b k hf => ?_⟩
    rcases hf with hf | hf | hf
    · obtain ⟨j, oj, lj, _, h1, h2, h3⟩ := hFP b k hf
      exact .inl ⟨j, oj, lj, h1, h2, h3⟩
    · exact .inr (.inl hf)
    · exact .inl ⟨id, _, _, ho, hm, hf⟩
theorem rel_freezeC {t id off : Nat} {L : List C} {ls : List PV} (h : fr.get t = .c (.ptr id off)) (ho : σ[id]? = some (.cells L)) (hL : L.drop off = ls.map .p) (m : List Loc) (F : Nat → Nat → Prop) (a : Act) (w : World) (hr : Rel N m F ⟨fr, σ⟩ a w) :
    ∃ m' F', Rel N m' F' ⟨(t, .c (.p (.rp ls))) :: fr, σ.set id .dead⟩ a w ∧ Step m F σ w m' F' (σ.set id .dead) w := by
  have hx := hr.fr t
  rw [h] at hx
  obtain ⟨b, o, hm, hv⟩ := rv_ptr hx
  have i := hr.inv
  obtain ⟨i', st⟩ := inv_kill i ho hm
  refine ⟨m, _, rel_over ⟨i', fun t => (hr.fr t).step i st, hr.size, hr.defers⟩ ?_, st⟩
  rw [hv]
  have hob := i.obj id _ _ ho hm
  have hat : ∀ j x, ls[j]? = some x → L[off + j]? = some (.p x) := fun j x hj => by
    have : (L.drop off)[j]? = some (.p x) := by rw [hL, List.getElem?_map, hj]; rfl
    simpa [List.getElem?_drop] using this
  refine RP.rp (fun j => (w.cell? ⟨b, o + off + j, none⟩).getD undef) (fun j hj => .inr ⟨rfl, by omega, ?_⟩) (fun j hj => ?_) (fun j x hj => ?_)
  · have := (List.getElem?_eq_some_iff.1 (hat j _ (List.getElem?_eq_getElem hj))).1; omega
  · obtain ⟨⟨u, e1, _⟩, _⟩ := hob (off + j) _ (hat j _ (List.getElem?_eq_getElem hj))
    rw [← Nat.add_assoc] at e1
    rw [e1]; rfl
  · obtain ⟨⟨u, e1, e2⟩, _⟩ := hob (off + j) _ (hat j x hj)
    rw [← Nat.add_assoc] at e1
    simp only [e1, Option.getD_some]
    exact RP.mono (fun b k hF => .inl hF) (fun _ _ _ => rfl) e2
theorem k_freezeC {l : List Oper} {id off : Nat} {L : List C} {ls : List PV} (t : Nat) (k : AList P N ops Q l ⟨(t, .c (.p (.rp ls))) :: fr, σ'⟩) (h : fr.get t = .c (.ptr id off) := by exact rfl) (ho : σ[id]? = some (.cells L) := by first | exact rfl | exact getG0 (by assumption) rfl | exact getG (by assumption) rfl | exact getGP (by assumption) rfl rfl | exact getL (getG0 (by assumption) rfl) | exact getL (getG (by assumption) rfl)) (hL : unP (L.drop off) = some ls := by exact rfl) (hσ : σ.set id .dead = σ' := by first | exact setG0 (by assumption) (by conv => lhs; simp only [List.set, List.cons_append, List.nil_append]) | exact setG (by assumption) (by conv => lhs; simp only [List.set, List.cons_append, List.nil_append]) | exact setGP (by assumption) (by conv => lhs; simp only [List.set, List.cons_append, List.nil_append]) rfl | exact setP rfl (by conv => lhs; simp only [List.set, List.cons_append, List.nil_append]) | (conv => lhs; simp only [List.set, List.cons_append, List.nil_append])) : AList P N ops Q l ⟨fr, σ⟩ := by
  subst hσ
  exact alist_of (rel_freezeC h ho (unP_map hL)) k
/-! ### 3. Appends of zeros, capacities -/
theorem zeroCells_get (z : Array Value) (n sz : Nat) (hz : z.size = sz) (hs : 0 < sz) (i j : Nat) (hj : j < sz) (hi : i < n) : (Builtin.zeroCells z n)[i * sz + j]? = z[j]? := by
  have := madeCells_get z n sz hz hs i j hj hi
  simpa [Builtin.zeroCells, madeCells, hz] using this
theorem w_appZeros {d : Nat} {t tn e : TypeId} {sz by' : Nat} {z : Value} {x y : Operand} {k : IntKind} {n : Int} {kn : IntKind} [TSl P t e sz by'] [TZ P e z] (hx : ev fr x = .c (.p (.lit (.slice none 0 0)))) (hy : ev fr y = .c (.p (.lit (.int k n)))) (h0 : 0 < n) (hb : by' * n.toNat ≤ 281474976710656) (htn : P.underlying tn = some (.int kn)) (hd : Nat.blt d N = true) (hzs : z.cells.size = sz)
    (hσ : σ ++ [.arr e sz (List.replicate n.toNat (zP z))] = σ') (kk : AList P N ops Q rest ⟨(d, .c (.ms σ.length n.toNat)) :: fr, σ'⟩) :
    AList P N ops Q (⟨some d, .call { callee := .builtin .append, args := #[x, y], argTypes := #[t, tn] }, ty, pos, aft, none⟩ :: rest) ⟨fr, σ⟩ := by
  subst hσ
  obtain ⟨n, rfl⟩ := Int.eq_ofNat_of_zero_le (Int.le_of_lt h0)
  simp only [Int.toNat_natCast] at *
  have h0' : 0 < n := by omega
  refine al_w (v := AV.c (C.ms σ.length n)) (σ' := σ ++ [AObj.arr e sz (List.replicate n (zP z))]) rfl hd (fun m F w a i hs => ?_) kk
  have h1 := hs x (good_of_lit hx)
  have h2 := hs y (good_of_lit hy)
  rw [hx] at h1; rw [hy] at h2
  obtain ⟨inf, hinf, hsize, hbytes⟩ := TSl.inf (P := P) (t := t) (e := e) (sz := sz) (bytes := by')
  have hpos := TSl.pos (P := P) (t := t) (e := e) (sz := sz) (bytes := by')
  have hund := TSl.und (P := P) (t := t) (e := e) (sz := sz) (bytes := by')
  obtain ⟨inf', hinf', hz⟩ := TZ.inf (P := P) (t := e) (z := z)
  rw [hinf] at hinf'; injection hinf' with hinf'; subst hinf'
  have hn : n ≤ 281474976710656 := Nat.le_trans (Nat.le_mul_of_pos_left _ hpos.2) hb
  have hrun := Lib.run_append_nil_zeros (P := P) w t tn ty e inf z k kn hund htn hinf hz n h0' (by rw [hsize]; exact hpos.1) (by omega) (by rw [hbytes, Nat.mul_comm]; exact hb)
  have hcap : n ≤ grownCap w n 0 e := grownCap_ge w n 0 e
  have hcapm : grownCap w n 0 e ≤ maxLen := grownCap_le_maxLen w n 0 e (by simp only [maxLen]; omega)
  generalize grownCap w n 0 e = cap at hrun hcap hcapm
  have hg : Grow F w F (w.drew.alloc (.cells (Builtin.zeroCells z.cells n ++ Builtin.zeroCells z.cells (cap - n)) e)) := by
    have := grow_alloc F w.drew (.cells (Builtin.zeroCells z.cells n ++ Builtin.zeroCells z.cells (cap - n)) e)
    exact ⟨this.fm, this.os, this.tape, this.output, this.size, this.blk, this.new, this.lt⟩
  have hown : (w.drew.alloc (.cells (Builtin.zeroCells z.cells n ++ Builtin.zeroCells z.cells (cap - n)) e)).ownsRow 0 e sz (rowV (some w.heap.size) n cap) n (Builtin.zeroCells z.cells n).toList := by
    refine ⟨by simp [Builtin.zeroCells, hzs], .inr ⟨w.heap.size, cap, Builtin.zeroCells z.cells n ++ Builtin.zeroCells z.cells (cap - n), rfl, Nat.zero_le _, ?_, hcap, hcapm, ?_, ?_⟩⟩
    · exact Array.getElem?_push_size
    · simp only [Array.size_append, size_zeroCells, hzs]
      rw [← Nat.add_mul]; congr 1; omega
    · rw [Array.toList_append, List.take_append_of_le_length (by simp [Builtin.zeroCells, hzs]), List.take_of_length_le (by simp [Builtin.zeroCells, hzs])]
  obtain ⟨g1, g2⟩ := inv_new (o := AObj.arr e sz (List.replicate n (zP z))) (l := .row (some w.heap.size) cap) i hg
    ⟨_, by simpa using hown, fun el he => by rw [List.eq_of_mem_replicate he]; simp [zP, hzs], fun q el hq j u hj => by
      have hqn : q < n := by
        have := (List.getElem?_eq_some_iff.1 hq).1
        simpa using this
      rw [List.getElem?_replicate, if_pos hqn] at hq
      injection hq with hq; subst hq
      simp only [zP, List.getElem?_map, Option.map_eq_some_iff] at hj
      obtain ⟨c, hc, rfl⟩ := hj
      have hjs : j < sz := by
        have := (List.getElem?_eq_some_iff.1 hc).1
        simpa [hzs] using this
      rw [List.getD_eq_getElem?_getD, Array.getElem?_toList, zeroCells_get _ _ _ hzs hpos.1 _ _ hjs hqn]
      have hc' : z.cells[j]? = some c := by simpa using hc
      rw [hc']
      exact RP.lit (TZ.one (P := P) (t := e) (z := z) c (Array.mem_of_getElem? hc'))⟩
    (fun b q hf => by
      have hf : some w.heap.size = some b := hf
      injection hf with hf
      subst hf
      exact ⟨Nat.le_refl _, (hown.lt w.heap.size rfl).2⟩)
  refine ⟨.slice (some ⟨w.heap.size, 0, none⟩) n cap, _, F, _, .inl ?_, g1, g2, some w.heap.size, cap, by rw [← i.len]; simp, hcap, rfl⟩
  simp only [execOp, resolve, invoke, builtin, rv_lit h1, rv_lit h2, Sem.run_bind, Sem.run_pure, List.map_toArray, List.map_cons, List.map_nil, hrun, Result.andThen_ok]
theorem k_appZeros {d : Nat} {t tn e : TypeId} {sz by' : Nat} {z : Value} {x y : Operand} {k : IntKind} {n : Int} {kn : IntKind} {id : Nat} [TSl P t e sz by'] [TZ P e z] (htn : P.underlying tn = some (.int kn)) (h0 : 0 < n) (hb : by' * n.toNat ≤ 281474976710656) (kk : AList P N ops Q rest ⟨(d, .c (.ms id n.toNat)) :: fr, σ'⟩) (hx : ev fr x = .c (.p (.lit (.slice none 0 0))) := by exact rfl) (hy : ev fr y = .c (.p (.lit (.int k n))) := by exact rfl) (hd : Nat.blt d N = true := by rfl) (hzs : z.cells.size = sz := by rfl)
    (hm : σ.length = id := by first | exact lenG0 (by assumption) (by conv => lhs; simp only [List.length_cons, List.length_nil, Nat.zero_add, Nat.reduceAdd]) | exact lenG (by assumption) (by conv => lhs; simp only [List.length_cons, List.length_nil, Nat.zero_add, Nat.reduceAdd]) | exact lenGP (by assumption) (by conv => lhs; simp only [List.length_cons, List.length_nil, Nat.zero_add, Nat.reduceAdd]) rfl | (conv => lhs; simp only [List.length_append, List.length_cons, List.length_nil, Nat.zero_add, Nat.reduceAdd])) (hσ : σ ++ [.arr e sz (List.replicate n.toNat (zP z))] = σ' := by first | exact addG (by conv => lhs; simp only [List.set, List.cons_append, List.nil_append]) | exact addG0 (by conv => lhs; simp only [List.set, List.cons_append, List.nil_append]) | (conv => lhs; simp only [List.set, List.cons_append, List.nil_append])) :
    AList P N ops Q (⟨some d, .call { callee := .builtin .append, args := #[x, y], argTypes := #[t, tn] }, ty, pos, aft, none⟩ :: rest) ⟨fr, σ⟩ := by
  subst hm
  exact w_appZeros hx hy h0 hb htn hd hzs hσ kk
theorem r_capNil {t e : TypeId} {sz by' : Nat} {x : Operand} [TSl P t e sz by'] (hx : ev fr x = .c (.p (.lit (.slice none 0 0))) := by exact rfl) : RStep P σ fr ⟨d, .call { callee := .builtin .cap, args := #[x], argTypes := #[t] }, ty, pos, aft, g⟩ (.c (.p (.lit (.int .i64 0)))) :=
  rs_pure fun m F w a i hs => by
    have h1 := hs x (by simp [Op.operands, Call.operands]) (good_of_lit hx)
    rw [hx] at h1
    refine ⟨.int .i64 0, ?_, RP.lit rfl⟩
    simp [execOp, resolve, invoke, builtin, rv_lit h1, Builtin.cap_, run_underlying (TSl.und (P := P) (t := t)), goInt]
end
end Go.AL
set_option linter.unusedVariables false
set_option linter.unusedSimpArgs false
namespace Go.AL
open Go.RowKit
/-- Of what a call leaves only the array that it tells is kept. -/
theorem acalls_new {P : Program} {f : FuncId} {args : List AV} {e : TypeId} {sz n : Nat} {l : List (List PV)} (h : ACalls P f args [] (fun r σ' => ∃ i, r = .ret (.c (.ms i n)) ∧ σ'[i]? = some (.arr e sz l))) : ACalls P f args [] (fun r σ' => r = .ret (.c (.ms 0 n)) ∧ σ' = [.arr e sz l]) := by
  intro m F w vs i hs hv
  refine (h m F w vs i hs hv).mono fun en w' he => ?_
  obtain ⟨m', F', σ', r, ⟨id, rfl, ho⟩, hr, hi, hst⟩ := he
  have hm : m = [] := List.eq_nil_of_length_eq_zero i.len
  subst hm
  obtain ⟨mc, c1, c2, c3, c4⟩ := inv_in (ρl := [(id, 0)]) (σc := [.arr e sz l]) hi rfl (by simp) (fun k id' off oc h1 h2 => by
    cases k with
    | zero =>
      simp at h1 h2
      obtain ⟨rfl, rfl⟩ := h1; subst h2
      exact ⟨_, ho, rfl⟩
    | succ k => simp at h1)
  refine ⟨mc, F', _, _, ⟨rfl, rfl⟩, ?_, c3, ⟨⟨mc, by simp⟩, hst.fm, hst.os, hst.tape, hst.output, hst.size, hst.blk, hst.cel, fun b k hf => ?_⟩⟩
  · cases en with
    | returned u => exact rv_unren (n := 1) c2 (by rfl) (show RV m' w' F' (renV (ren1 [(id, 0)]) (.c (.ms 0 n))) u from hr)
    | panicked ch => exact hr.elim
    | outgrown => exact hr.elim
  · rcases hf with hf | hf
    · obtain ⟨j, oj, lj, h1, h2, h3⟩ := hf
      obtain ⟨id', off, o, l', a1, a2, a3, a4, a5⟩ := c4 j oj lj h1 h2
      exact hst.new b k (.inl ⟨id', o, l', a2, a3, a5 b k h3⟩)
    · exact hst.new b k (.inr hf)
/-! ### Arrays of the call's own that are lent: the callee reads them, and tells a value that points nowhere -/
inductive Lend (σ : List AObj) : AV → AV → Prop
  | same {x : AV} (h : pureV x = true) : Lend σ x x
  | ms {id n : Nat} {e : TypeId} {sz : Nat} {l ys : List (List PV)} (ho : σ[id]? = some (.arr e sz l)) (hn : n ≤ l.length) (hy : l.take n = ys) : Lend σ (.c (.ms id n)) (.c (.p (.sl sz ys)))
theorem Lend.msA {σ : List AObj} {α : Type} {id : Nat} {e : TypeId} {sz : Nat} {f : α → List PV} {xs : List α} (ho : σ[id]? = some (.arr e sz (xs.map f))) : Lend σ (.c (.ms id xs.length)) (.c (.p (.sl sz (xs.map f)))) :=
  .ms ho (by simp) (List.take_of_length_le (by simp))
theorem Lend.msM {σ : List AObj} {α : Type} {id n : Nat} {e : TypeId} {sz : Nat} {f : α → List PV} {xs : List α} (ho : σ[id]? = some (.arr e sz (xs.map f))) (hn : n ≤ xs.length) : Lend σ (.c (.ms id n)) (.c (.p (.sl sz ((xs.take n).map f)))) :=
  .ms ho (by simpa using hn) (by simp)
inductive LendL (σ : List AObj) : List AV → List AV → Prop
  | nil : LendL σ [] []
  | cons {x y : AV} {l r : List AV} (h : Lend σ x y) (t : LendL σ l r) : LendL σ (x :: l) (y :: r)
theorem LendL.at {σ : List AObj} : ∀ {l r : List AV}, LendL σ l r → r.length = l.length ∧ ∀ (j : Nat) y, r[j]? = some y → ∃ x, l[j]? = some x ∧ Lend σ x y
  | _, _, .nil => ⟨rfl, fun j y h => by simp at h⟩
  | _, _, .cons h t => by
    obtain ⟨h1, h2⟩ := LendL.at t
    refine ⟨by simp [h1], fun j y hj => ?_⟩
    cases j with
    | zero => simp at hj; subst hj; exact ⟨_, rfl, h⟩
    | succ j => simpa using h2 j y (by simpa using hj)
def arrFP (σ : List AObj) (m : List Loc) (b k : Nat) : Prop := ∃ (i : Nat) (e : TypeId) (sz : Nat) (xs : List (List PV)) (cap : Nat), σ[i]? = some (.arr e sz xs) ∧ m[i]? = some (.row (some b) cap)
theorem rv_lend {σ : List AObj} {m : List Loc} {F : Nat → Nat → Prop} {w : World} (i : Inv m F σ w) {x y : AV} (h : Lend σ x y) {v : Value} (hv : RV m w F x v) : RV [] w (fun b k => F b k ∨ arrFP σ m b k) y v := by
  have hmono : ∀ b k, F b k → (F b k ∨ arrFP σ m b k) := fun b k h => .inl h
  have hsame : ∀ b k, F b k → w.cell? ⟨b, k, none⟩ = w.cell? ⟨b, k, none⟩ := fun _ _ _ => rfl
  cases h with
  | same hp =>
    have := RV.mono (k := []) hmono hsame hv
    exact rv_pure hp this
  | @ms id n e sz l ys ho hn hy =>
    subst hy
    obtain ⟨A, cap, hm, hcap, hv⟩ := rv_ms hv
    rw [hv]
    show RP w _ (.sl sz (l.take n)) _
    cases A with
    | none =>
      obtain ⟨xs, e1, _⟩ := i.obj id _ _ ho hm
      have h0 : l.length = 0 := by
        rcases e1.2 with ⟨_, h5⟩ | ⟨_, _, _, h4, _⟩
        · exact h5
        · simp [rowV] at h4
      have : l.take n = [] := by
        have : l = [] := List.eq_nil_of_length_eq_zero h0
        subst this; simp
      rw [this, show n = 0 by omega]
      exact .sl0 ..
    | some b =>
      obtain ⟨us, hw, hs, hu⟩ := arr_cells i ho hm
      have hle : n * sz ≤ l.length * sz := Nat.mul_le_mul_right _ hn
      have hlen : (l.take n).length = n := by simp; omega
      have key := RP.sl (w := w) (F := fun b k => F b k ∨ arrFP σ m b k) (b := b) (o := 0) (cap := cap) (sz := sz) (l := l.take n) us (by omega) (fun e he => hs e (List.mem_of_mem_take he)) (fun j _ => .inr ⟨id, e, sz, l, cap, ho, hm⟩)
        (fun j hj => by rw [hlen] at hj; rw [Nat.zero_add]; exact (hw j (by omega)).1) (fun i' e he j x hx => by
          rw [List.getElem?_take] at he
          split at he
          · exact RP.mono hmono hsame (hu i' e he j x hx)
          · cases he)
      rw [hlen] at key
      exact key
section
variable {P : Program} {N : Nat} {Q : AE → St → Prop} {ops : Array Oper} {rest : List Oper} {σ σ' : List AObj} {fr : Fr}
variable {ty : TypeId} {pos : String} {aft : Array Edge} {g : Option (Nat × Bool)}
/-- As 'aw_roundsG', with objects in front whose places are known. -/
theorem aw_roundsP {ι : Type} {c : Code} (p : Nat) (Pf : ι → List AObj) (S : ι → Nat → Fr) (L : ι → Nat → List AObj) (Φ : ι → Prop) (μ : ι → Nat) (i0 : ι) (n0 : Nat) (hp : ∀ i, (Pf i).length = p) (hΦ : Φ i0) (hpn : p ≤ n0) (hn : n0 ≤ σ.length) (hσ1 : σ.take p = Pf i0) (hσ : σ.drop n0 = L i0 n0) (hS : ∀ q ∈ S i0 n0, fr.get q.1 = q.2)
    (round : ∀ i n (g : List AObj), Φ i → (Pf i ++ g).length = n → AWp P N c (fun x s' => match x with | .normal => ∃ j n', Φ j ∧ p ≤ n' ∧ n' ≤ s'.σ.length ∧ s'.σ.take p = Pf j ∧ s'.σ.drop n' = L j n' ∧ (∀ q ∈ S j n', s'.fr.get q.1 = q.2) ∧ μ j < μ i | x => Q x s') ⟨S i n, Pf i ++ (g ++ L i n)⟩) : AWp P N (.loop c) Q ⟨fr, σ⟩ := by
  have split : ∀ (τ : List AObj) (n : Nat), p ≤ n → n ≤ τ.length → τ = τ.take p ++ ((τ.drop p).take (n - p) ++ τ.drop n) := fun τ n h1 h2 => by
    have e : τ.drop n = (τ.drop p).drop (n - p) := by rw [List.drop_drop]; congr 1; omega
    rw [e, List.take_append_drop, List.take_append_drop]
  refine aw_rounds (ι := ι × List AObj) (fun q => S q.1 (p + q.2.length)) (fun q => Pf q.1 ++ (q.2 ++ L q.1 (p + q.2.length))) (fun q => Φ q.1) (fun q => μ q.1) (i0, (σ.drop p).take (n0 - p)) hΦ ?_ ?_ (fun i hi => ?_)
  · have : p + ((σ.drop p).take (n0 - p)).length = n0 := by simp; omega
    simp only [this]
    rw [← hσ, ← hσ1]
    exact (split σ n0 hpn hn).symm
  · have : p + ((σ.drop p).take (n0 - p)).length = n0 := by simp; omega
    simp only [this]
    exact hS
  · obtain ⟨i, gg⟩ := i
    refine (round i (p + gg.length) gg hi (by simp [hp])).mono fun x s' h => ?_
    cases x with
    | normal =>
      obtain ⟨j, n', h1, h0, h2, h3, h4, h5, h6⟩ := h
      have : p + ((s'.σ.drop p).take (n' - p)).length = n' := by simp; omega
      exact ⟨(j, (s'.σ.drop p).take (n' - p)), h1, by simp only [this]; rw [← h4, ← h3]; exact split _ _ h0 h2, by simp only [this]; exact h5, h6⟩
    | _ => exact h
/-- A loop of few rounds, round by round. -/
def awR (P : Program) (N : Nat) (c : Code) (Q : AE → St → Prop) : Nat → St → Prop
  | 0, _ => False
  | n + 1, s => AWp P N c (fun x s' => match x with | .normal => awR P N c Q n s' | x => Q x s') s
def rQ (P : Program) (N : Nat) (c : Code) (Q : AE → St → Prop) (n : Nat) : AE → St → Prop := fun x s' => match x with | .normal => awR P N c Q n s' | x => Q x s'
theorem r_succ {c : Code} {s : St} {n : Nat} (h : AWp P N c (rQ P N c Q n) s) : awR P N c Q (n + 1) s := h
theorem rq_normal {c : Code} {s : St} {n : Nat} (h : awR P N c Q n s) : rQ P N c Q n .normal s := h
theorem rq_exit {c : Code} {s : St} {n i : Nat} (h : Q (.exit i) s) : rQ P N c Q n (.exit i) s := h
theorem aw_unroll {c : Code} {s : St} (n : Nat) (h : awR P N c Q n s) : AWp P N (.loop c) Q s := by
  intro m F a w hr
  have key : ∀ n s1 m1 F1 a1 w1, awR P N c Q n s1 → Rel N m1 F1 s1 a1 w1 → Step m F s.σ w m1 F1 s1.σ w1 →
      ∀ (b : Frame) (k : List Item) (cs : List Frame), ∃ e a' w', Post N Q m F s.σ w e a' w' ∧ Arrives P (lone (b.at a1 (.code c :: .inLoop c :: k)) cs w1) b k cs e a' w' := by
    intro n
    induction n with
    | zero => intro s1 m1 F1 a1 w1 h; exact h.elim
    | succ n ih =>
      intro s1 m1 F1 a1 w1 h hr1 hs1 b k cs
      obtain ⟨e, a2, w2, hq, harr⟩ := h m1 F1 a1 w1 hr1 b (.inLoop c :: k) cs
      obtain ⟨m2, F2, s2, x, hq, he, hr2, hs2⟩ := hq
      have hs02 := hs1.trans hr.inv hr1.inv hs2
      cases e with
      | normal =>
        cases x <;> first | exact he.elim | skip
        obtain ⟨e3, a3, w3, hq3, harr3⟩ := ih s2 m2 F2 a2 w2 hq hr2 hs02 b k cs
        exact ⟨e3, a3, w3, hq3, .of_steps (Steps.trans harr (.one step_inLoop)) harr3⟩
      | exit id => cases x <;> first | exact he.elim | exact ⟨_, a2, w2, ⟨m2, F2, s2, _, hq, he, hr2, hs02⟩, .pass (x := .inLoop c) rfl (fun _ _ => .inl (by simp)) harr⟩
      | goto id => cases x <;> first | exact he.elim | exact ⟨_, a2, w2, ⟨m2, F2, s2, _, hq, he, hr2, hs02⟩, .pass (x := .inLoop c) rfl (fun _ _ => .inl (by simp)) harr⟩
      | ret => cases x <;> first | exact he.elim | exact ⟨_, a2, w2, ⟨m2, F2, s2, _, hq, he, hr2, hs02⟩, .pass (x := .inLoop c) rfl (fun _ _ => .inl (by simp)) harr⟩
      | panic ch => cases x <;> first | exact he.elim | exact ⟨_, a2, w2, ⟨m2, F2, s2, _, hq, he, hr2, hs02⟩, .pass (x := .inLoop c) rfl (fun _ _ => .inl (by simp)) harr⟩
      | outgrown => cases x <;> exact he.elim
  intro b k cs
  obtain ⟨e, a', w', hq, harr⟩ := key n s m F a w h hr (Step.refl ..) b k cs
  exact ⟨e, a', w', hq, .of_steps (.one step_loop) harr⟩
/-- An array takes the last place. -/
theorem rel_rot {t id n : Nat} {e : TypeId} {sz : Nat} {l : List (List PV)} (h : fr.get t = .c (.ms id n)) (ho : σ[id]? = some (.arr e sz l)) (m : List Loc) (F : Nat → Nat → Prop) (a : Act) (w : World) (hr : Rel N m F ⟨fr, σ⟩ a w) :
    ∃ m' F', Rel N m' F' ⟨(t, .c (.ms σ.length n)) :: fr, σ.set id .dead ++ [.arr e sz l]⟩ a w ∧ Step m F σ w m' F' (σ.set id .dead ++ [.arr e sz l]) w := by
  have hx := hr.fr t
  rw [h] at hx
  obtain ⟨A, cap, hm, hcap, hv⟩ := rv_ms hx
  have i := hr.inv
  obtain ⟨i', st⟩ := inv_move (w' := w) (o2 := .arr e sz l) (l2 := .row A cap) i ho hm (Nat.le_refl _) ⟨rfl, rfl, rfl⟩ (fun b k k' hf => hf) (fun _ _ _ => rfl) (fun b k hf => .inl hf) (fun _ => i.obj id _ _ ho hm)
  refine ⟨m ++ [.row A cap], F, rel_over ⟨i', fun t => (hr.fr t).step i st, hr.size, hr.defers⟩ ?_, st⟩
  exact ⟨A, cap, by rw [← i.len]; simp, hcap, hv⟩
theorem kw_rot {c : Code} {id n id' : Nat} {e : TypeId} {sz : Nat} {l : List (List PV)} (t : Nat) (k : AWp P N c Q ⟨(t, .c (.ms id' n)) :: fr, σ'⟩) (h : fr.get t = .c (.ms id n) := by exact rfl) (ho : σ[id]? = some (.arr e sz l) := by first | exact rfl | exact getG0 (by assumption) rfl | exact getG (by assumption) rfl | exact getGP (by assumption) rfl rfl | exact getL (getG0 (by assumption) rfl) | exact getL (getG (by assumption) rfl)) (hm : σ.length = id' := by first | exact lenG0 (by assumption) (by conv => lhs; simp only [List.length_cons, List.length_nil, Nat.zero_add, Nat.reduceAdd]) | exact lenG (by assumption) (by conv => lhs; simp only [List.length_cons, List.length_nil, Nat.zero_add, Nat.reduceAdd]) | exact lenGP (by assumption) (by conv => lhs; simp only [List.length_cons, List.length_nil, Nat.zero_add, Nat.reduceAdd]) rfl | (conv => lhs; simp only [List.length_append, List.length_cons, List.length_nil, Nat.zero_add, Nat.reduceAdd])) (hσ : σ.set id .dead ++ [.arr e sz l] = σ' := by first | exact snocG0 (by assumption) (by conv => lhs; simp only [List.set, List.cons_append, List.nil_append]) (by conv => lhs; simp only [List.set, List.cons_append, List.nil_append]) | exact snocG (by assumption) (by conv => lhs; simp only [List.set, List.cons_append, List.nil_append]) (by conv => lhs; simp only [List.set, List.cons_append, List.nil_append]) | exact snocGP (by assumption) (by conv => lhs; simp only [List.set, List.cons_append, List.nil_append]) (by conv => lhs; simp only [List.set, List.cons_append, List.nil_append]) rfl | (conv => lhs; simp only [List.set, List.cons_append, List.nil_append])) : AWp P N c Q ⟨fr, σ⟩ := by
  subst hm; subst hσ
  exact awp_of (rel_rot h ho) k
def litV : AV → Bool
  | .c (.p (.lit _)) => true
  | .tup l => l.all fun | .c (.p (.lit _)) => true | _ => false
  | _ => false
theorem rv_litV {m m' : List Loc} {w w' : World} {F F' : Nat → Nat → Prop} {v : AV} {u : Value} (h : litV v = true) (hv : RV m w F v u) : RV m' w' F' v u := by
  cases v with
  | c x =>
    cases x <;> simp [litV] at h
    rename_i x
    cases x <;> simp at h
    have hv : RP w F _ u := hv
    show RP w' F' _ u
    have e := RP.eq_lit hv
    have o := RP.one hv
    subst e
    exact .lit o
  | agg l => simp [litV] at h
  | tup l =>
    obtain ⟨vs, h1, h2, h3⟩ := hv
    refine ⟨vs, h1, h2, fun j x hx => ?_⟩
    have hl : ∀ x ∈ l, (match x with | .c (.p (.lit _)) => true | _ => false) = true := by
      simp only [litV, List.all_eq_true] at h
      exact fun x hx => h x hx
    have hx' := hl x (List.mem_of_getElem? hx)
    split at hx'
    · have h4 : RP w F _ _ := h3 j _ hx
      have e := RP.eq_lit h4
      have o := RP.one h4
      show RP w' F' _ _
      rw [e] at o ⊢
      exact .lit o
    · cases hx'
theorem r_lend {d : Option Nat} {f : FuncId} [TFn P f] {y : Operand} {xs : Array Operand} {ts : Array TypeId} {cs args : List AV} {v : AV} (h : ACalls P f args [] (fun r _ => r = .ret v)) (hv : litV v = true) (hy : ev fr y = .c (.p (.lit (.func (.func f) #[] #[])))) (hx : xs.toList.map (ev fr) = cs) (hl : LendL σ cs args) (hg : xs.toList.all goodConst = true) :
    RStep P σ fr ⟨d, .call { callee := .value y, args := xs, argTypes := ts }, ty, pos, aft, g⟩ v := by
  intro m F w a i hs K Q hK
  have hs' : ∀ x, x ∈ xs → goodConst x = true → RV m w F (ev fr x) (a.eval x) := fun x hx hc => ev_rv hc fun t e => by subst e; exact hs t (by simp [Op.operands, Call.operands, hx])
  have hf : a.eval y = .func (.func f) #[] #[] := by
    have := ev_rv (fr := fr) (m := m) (w := w) (F := F) (a := a) (good_of_lit hy) (fun t e => by subst e; exact hs t (by simp [Op.operands, Call.operands]))
    rw [hy] at this
    exact RP.eq_lit this
  obtain ⟨h1, h2⟩ := callArgs hx hs' hg
  obtain ⟨l1, l2⟩ := hl.at
  have i1 : Inv [] (fun b k => F b k ∨ arrFP σ m b k) [] w := by
    refine ⟨rfl, fun b k hF => ?_, fun b k ⟨j, o, l, h, _⟩ => by simp at h, fun j o l h => by simp at h, fun j k o l o' l' _ h => by simp at h, fun b k ⟨j, o, l, h, _⟩ => by simp at h⟩
    rcases hF with hF | ⟨id, e, sz, l, cap, ho, hm⟩
    · exact i.frz b k hF
    · exact i.lt b k ⟨id, _, _, ho, hm, rfl⟩
  refine wp_callFn hf ((h [] _ w _ i1 (by rw [h1, l1]) (fun j z hj => ?_)).mono fun e w' he => ?_)
  · obtain ⟨x, hx, hlx⟩ := l2 j z hj
    exact rv_lend i hlx (h2 j x hx)
  · obtain ⟨m', F', σ', r, rfl, hr, hi, hst⟩ := he
    have hn : ∀ b k, ¬ FP [] [] b k := fun b k ⟨j, o, l, h, _⟩ => by simp at h
    have hgr : Grow F w F w' := ⟨fun _ _ h => h, hst.os, hst.tape, hst.output, hst.size, fun b hb => hst.blk b hb (hn b), fun _ _ h => .inl h, fun _ _ h => .inr h⟩
    cases e with
    | returned u => exact hK u F w' hgr (rv_litV hv hr)
    | panicked ch => exact hr.elim
    | outgrown => exact hr.elim
theorem b_lend {d : Option Nat} {f : FuncId} [TFn P f] {y : Operand} {xs : Array Operand} {ts : Array TypeId} {cs args : List AV} {v : AV} (h : ACalls P f args [] (fun r _ => r = .ret v)) (hy : ev fr y = .c (.p (.lit (.func (.func f) #[] #[]))) := by exact rfl) (hx : xs.toList.map (ev fr) = cs := by (try simp only [↓ev, litAV, ↓Fr.get, ↓reduceIte, Nat.reduceEqDiff, List.map]) <;> rfl) (hl : LendL σ cs args := by repeat (first | exact LendL.nil | refine LendL.cons ?_ ?_ | exact Lend.same rfl | exact Lend.msA (by first | exact rfl | exact getG0 (by assumption) rfl | exact getG (by assumption) rfl | exact getGP (by assumption) rfl rfl | exact getL (getG0 (by assumption) rfl) | exact getL (getG (by assumption) rfl)) | exact Lend.msM (by first | exact rfl | exact getG0 (by assumption) rfl | exact getG (by assumption) rfl | exact getGP (by assumption) rfl rfl | exact getL (getG0 (by assumption) rfl) | exact getL (getG (by assumption) rfl)) (by first | exact Nat.le_refl _ | omega))) (hv : litV v = true := by rfl) (hg : xs.toList.all goodConst = true := by rfl) :
    RStep P σ fr ⟨d, .call { callee := .value y, args := xs, argTypes := ts }, ty, pos, aft, g⟩ v := r_lend h hv hy hx hl hg
theorem renC_pure (ρ : Ren) {c : C} (h : pureC c = true) : renC ρ c = c := by cases c <;> simp_all [pureC, renC]
theorem renV0_pure (ρ : Ren) {v : AV} (h : pureV0 v = true) : renV0 ρ v = v := by
  cases v with
  | c x => simp only [renV0]; rw [renC_pure ρ h]
  | agg l =>
    simp only [renV0]
    congr 1
    exact (List.map_congr_left fun x hx => renC_pure ρ (List.all_eq_true.1 h x hx)).trans (List.map_id l)
  | tup l => simp [pureV0] at h
theorem renV_pure (ρ : Ren) {v : AV} (h : pureV v = true) : renV ρ v = v := by
  cases v with
  | c x => simp only [renV]; rw [renC_pure ρ h]
  | agg l =>
    simp only [renV]
    congr 1
    exact (List.map_congr_left fun x hx => renC_pure ρ (List.all_eq_true.1 h x hx)).trans (List.map_id l)
  | tup l =>
    simp only [renV]
    congr 1
    exact (List.map_congr_left fun x hx => renV0_pure ρ (List.all_eq_true.1 h x hx)).trans (List.map_id l)
theorem okC_pure (n : Nat) {c : C} (h : pureC c = true) : okC n c = true := by cases c <;> simp_all [pureC, okC]
theorem okV0_pure (n : Nat) {v : AV} (h : pureV0 v = true) : okV0 n v = true := by
  cases v with
  | c x => exact okC_pure n h
  | agg l => exact List.all_eq_true.2 fun x hx => okC_pure n (List.all_eq_true.1 h x hx)
  | tup l => rfl
theorem okV_pure (n : Nat) {v : AV} (h : pureV v = true) : okV n v = true := by
  cases v with
  | c x => exact okC_pure n h
  | agg l => exact List.all_eq_true.2 fun x hx => okC_pure n (List.all_eq_true.1 h x hx)
  | tup l => exact List.all_eq_true.2 fun x hx => okV0_pure n (List.all_eq_true.1 h x hx)
/-- A call that is handed nothing and brings back an array of its own. -/
theorem k_callNew {d : Nat} {f : FuncId} [TFn P f] {y : Operand} {xs : Array Operand} {ts : Array TypeId} {args : List AV} {e : TypeId} {sz n id : Nat} {l : List (List PV)} (h : ACalls P f args [] (fun r σ' => r = .ret (.c (.ms 0 n)) ∧ σ' = [.arr e sz l]))
    (k : AList P N ops Q rest ⟨(d, .c (.ms id n)) :: fr, σ'⟩) (hy : ev fr y = .c (.p (.lit (.func (.func f) #[] #[]))) := by exact rfl) (hx : xs.toList.map (ev fr) = args := by (try simp only [↓ev, litAV, ↓Fr.get, ↓reduceIte, Nat.reduceEqDiff, List.map]) <;> rfl) (hp : args.all pureV = true := by rfl) (hd : Nat.blt d N = true := by rfl) (hg : xs.toList.all goodConst = true := by rfl) (hm : σ.length = id := by first | exact lenG0 (by assumption) (by conv => lhs; simp only [List.length_cons, List.length_nil, Nat.zero_add, Nat.reduceAdd]) | exact lenG (by assumption) (by conv => lhs; simp only [List.length_cons, List.length_nil, Nat.zero_add, Nat.reduceAdd]) | exact lenGP (by assumption) (by conv => lhs; simp only [List.length_cons, List.length_nil, Nat.zero_add, Nat.reduceAdd]) rfl | (conv => lhs; simp only [List.length_append, List.length_cons, List.length_nil, Nat.zero_add, Nat.reduceAdd])) (hσ : σ ++ [.arr e sz l] = σ' := by first | exact addG (by conv => lhs; simp only [List.set, List.cons_append, List.nil_append]) | exact addG0 (by conv => lhs; simp only [List.set, List.cons_append, List.nil_append]) | (conv => lhs; simp only [List.set, List.cons_append, List.nil_append])) :
    AList P N ops Q (⟨some d, .call { callee := .value y, args := xs, argTypes := ts }, ty, pos, aft, none⟩ :: rest) ⟨fr, σ⟩ := by
  subst hm; subst hσ
  refine w_call (ι := Unit) (Φ := fun _ => True) (rr := fun _ => .ret (.c (.ms 0 n))) (σo := fun _ => [.arr e sz l]) (σc := []) (cargs := args) [] hy (h.mono fun r σ' hr => ⟨(), trivial, hr.1, [], by simp [hr.2]⟩) ?_ ?_ rfl (by simp) (fun k id off oc h1 h2 => by simp at h1) (fun _ _ => ⟨rfl, rfl⟩) hd (fun _ _ => ?_) hg
  · rw [hx]
    exact ((List.map_congr_left fun x hx => renV_pure _ (List.all_eq_true.1 hp x hx)).trans (List.map_id args)).symm
  · exact List.all_eq_true.2 fun x hx => okV_pure _ (List.all_eq_true.1 hp x hx)
  · simpa [renV, renC, ren2, back, renO] using k
/-- A call that is handed one variable (or a part of it) of cells that point nowhere into the caller's; its result, and the variable behind it, likewise. -/
theorem k_callCx {d : Nat} {f : FuncId} [TFn P f] {y : Operand} {xs : Array Operand} {ts : Array TypeId} {cargs : List AV} {ι : Type} {Φ : ι → Prop} {lc : List PV} {lo : ι → List PV} {rv : ι → AV} {id off : Nat} {L : List C}
    (h : ACalls P f cargs [.cells (lc.map .p)] (fun r σ' => ∃ x, Φ x ∧ r = .ret (rv x) ∧ ∃ gb, σ' = .cells ((lo x).map .p) :: gb))
    (hlen : ∀ x, (lo x).length = lc.length) (hv : ∀ x, pureV (rv x) = true)
    (k : ∀ x, Φ x → AList P N ops Q rest ⟨(d, rv x) :: fr, σ.set id (.cells (lay L off ((lo x).map .p)))⟩)
    (hy : ev fr y = .c (.p (.lit (.func (.func f) #[] #[]))) := by exact rfl) (hx : xs.toList.map (ev fr) = cargs.map (renV (ren1 [(id, off)])) := by (try simp only [↓ev, litAV, ↓Fr.get, ↓reduceIte, Nat.reduceEqDiff, List.map]) <;> rfl) (hok : cargs.all (okV 1) = true := by rfl) (ho : σ[id]? = some (.cells L) := by first | exact rfl | exact getG0 (by assumption) rfl | exact getG (by assumption) rfl | exact getGP (by assumption) rfl rfl | exact getL (getG0 (by assumption) rfl) | exact getL (getG (by assumption) rfl)) (hL : (L.drop off).take lc.length = lc.map .p := by exact rfl) (hle : Nat.ble (off + lc.length) L.length = true := by rfl)
    (hd : Nat.blt d N = true := by rfl) (hg : xs.toList.all goodConst = true := by rfl) :
    AList P N ops Q (⟨some d, .call { callee := .value y, args := xs, argTypes := ts }, ty, pos, aft, none⟩ :: rest) ⟨fr, σ⟩ := by
  have hren : ∀ (ρ : Ren) (q : List PV), (q.map C.p).map (renC ρ) = q.map C.p := fun ρ q => by simp [renC, Function.comp_def]
  have hokl : ∀ (n : Nat) (q : List PV), (q.map C.p).all (okC n) = true := fun n q => by simp [okC]
  refine w_call (ι := ι) (Φ := Φ) (rr := fun x => .ret (rv x)) (σo := fun x => [.cells ((lo x).map .p)]) (σc := [.cells (lc.map .p)]) (cargs := cargs) [(id, off)] hy (h.mono fun r σ' ⟨x, h1, h2, gb, h3⟩ => ⟨x, h1, h2, gb, by simp [h3]⟩) hx hok rfl (by simp) (fun k id' off' oc h1 h2 => ?_) (fun x _ => ⟨?_, okV_pure _ (hv x)⟩) hd (fun x hx => ?_) hg
  · cases k with
    | zero =>
      simp at h1 h2
      obtain ⟨rfl, rfl⟩ := h1; subst h2
      exact ⟨_, ho, _, rfl, by simpa using Nat.le_of_ble_eq_true hle, by rw [hren]; simpa using hL, hokl _ _⟩
    | succ k => simp at h1
  · simp only [okBack, List.length_map, hlen, Bool.and_eq_true]
    refine ⟨⟨by simp, hokl _ _⟩, rfl⟩
  · have hk := k x hx
    have hget : σ.getD id .dead = .cells L := by rw [List.getD_eq_getElem?_getD, ho]; rfl
    simp only [back, hget, backO, hren, List.map_nil, List.append_nil]
    rw [renV_pure _ (hv x)]
    exact hk
theorem k_callC {d : Nat} {f : FuncId} [TFn P f] {y : Operand} {xs : Array Operand} {ts : Array TypeId} {cargs : List AV} {lc lo : List PV} {rv : AV} {id off : Nat} {L : List C}
    (h : ACalls P f cargs [.cells (lc.map .p)] (fun r σ' => r = .ret rv ∧ ∃ gb, σ' = .cells (lo.map .p) :: gb)) 
    (k : AList P N ops Q rest ⟨(d, rv) :: fr, σ'⟩) (hlen : lo.length = lc.length := by rfl) (hv : pureV rv = true := by rfl)
    (hy : ev fr y = .c (.p (.lit (.func (.func f) #[] #[]))) := by exact rfl) (hx : xs.toList.map (ev fr) = cargs.map (renV (ren1 [(id, off)])) := by (try simp only [↓ev, litAV, ↓Fr.get, ↓reduceIte, Nat.reduceEqDiff, List.map]) <;> rfl) (hok : cargs.all (okV 1) = true := by rfl) (ho : σ[id]? = some (.cells L) := by first | exact rfl | exact getG0 (by assumption) rfl | exact getG (by assumption) rfl | exact getGP (by assumption) rfl rfl | exact getL (getG0 (by assumption) rfl) | exact getL (getG (by assumption) rfl)) (hL : (L.drop off).take lc.length = lc.map .p := by exact rfl) (hle : Nat.ble (off + lc.length) L.length = true := by rfl) (hσ : σ.set id (.cells (lay L off (lo.map .p))) = σ' := by first | exact setG0 (by assumption) (by conv => lhs; simp only [List.set, List.cons_append, List.nil_append]) | exact setG (by assumption) (by conv => lhs; simp only [List.set, List.cons_append, List.nil_append]) | exact setGP (by assumption) (by conv => lhs; simp only [List.set, List.cons_append, List.nil_append]) rfl | exact setP rfl (by conv => lhs; simp only [List.set, List.cons_append, List.nil_append]) | (conv => lhs; simp only [List.set, List.cons_append, List.nil_append]))
    (hd : Nat.blt d N = true := by rfl) (hg : xs.toList.all goodConst = true := by rfl) :
    AList P N ops Q (⟨some d, .call { callee := .value y, args := xs, argTypes := ts }, ty, pos, aft, none⟩ :: rest) ⟨fr, σ⟩ := by
  subst hσ
  exact k_callCx (ι := Unit) (Φ := fun _ => True) (lo := fun _ => lo) (rv := fun _ => rv) (h.mono fun r σ' ⟨h1, h2⟩ => ⟨(), trivial, h1, h2⟩) (fun _ => hlen) (fun _ => hv) (fun _ _ => k) hy hx hok ho hL hle hd hg
end
end Go.AL
set_option linter.unusedVariables false
set_option linter.unusedSimpArgs false
namespace Go.AL
open Go.RowKit
/-! ### 1. What isn't needed any more is forgotten -/
def Kill (σ σ' : List AObj) : Prop := σ'.length = σ.length ∧ ∀ (i : Nat) o, σ'[i]? = some o → σ[i]? = some o ∨ o = .dead
theorem Kill.refl (σ : List AObj) : Kill σ σ := ⟨rfl, fun _ _ h => .inl h⟩
theorem Kill.pad (pre g l : List AObj) : Kill (pre ++ (g ++ l)) (pre ++ (List.replicate g.length .dead ++ l)) := by
  refine ⟨by simp, fun i o h => ?_⟩
  by_cases h1 : i < pre.length
  · rw [List.getElem?_append_left h1] at h ⊢; exact .inl h
  · rw [List.getElem?_append_right (by omega)] at h ⊢
    by_cases h2 : i - pre.length < g.length
    · rw [List.getElem?_append_left (by simpa using h2), List.getElem?_replicate, if_pos h2] at h
      injection h with h; exact .inr h.symm
    · rw [List.getElem?_append_right (by simp; omega), List.length_replicate] at h
      rw [List.getElem?_append_right (by omega)]; exact .inl h
theorem Inv.kill {m : List Loc} {F : Nat → Nat → Prop} {σ σ' : List AObj} {w : World} (i : Inv m F σ w) (h : Kill σ σ') : Inv m F σ' w ∧ ∀ b k, FP σ' m b k → FP σ m b k := by
  have hFP : ∀ b k, FP σ' m b k → FP σ m b k := by
    rintro b k ⟨j, o, l, h1, h2, h3⟩
    rcases h.2 j o h1 with h1 | rfl
    · exact ⟨j, o, l, h1, h2, h3⟩
    · exact h3.elim
  refine ⟨⟨by rw [h.1]; exact i.len, i.frz, fun b k hf => i.lt b k (hFP b k hf), fun j o l h1 h2 => ?_, fun j k o l o' l' hne h1 h2 h3 h4 b q hf hg => ?_, fun b k hf => i.dis b k (hFP b k hf)⟩, hFP⟩
  · rcases h.2 j o h1 with h1 | rfl
    · exact i.obj j o l h1 h2
    · cases l <;> trivial
  · rcases h.2 j o h1 with h1 | rfl
    · rcases h.2 k o' h3 with h3 | rfl
      · exact i.sep j k o l o' l' hne h1 h2 h3 h4 b q hf hg
      · exact hg.elim
    · exact hf.elim
theorem acalls_kill {P : Program} {f : FuncId} {args : List AV} {σ : List AObj} {R : CE → List AObj → Prop} (h : ACalls P f args σ (fun r σ' => ∃ σ1, R r σ1 ∧ Kill σ' σ1)) : ACalls P f args σ R := by
  intro m F w vs i hs hv
  refine (h m F w vs i hs hv).mono fun en w' he => ?_
  obtain ⟨m', F', σ', r, ⟨σ1, hR, hk⟩, hr, hi, hst⟩ := he
  obtain ⟨i1, hFP⟩ := hi.kill hk
  exact ⟨m', F', σ1, r, hR, hr, i1, ⟨hst.ext, hst.fm, hst.os, hst.tape, hst.output, hst.size, hst.blk, hst.cel, fun b k hf => hst.new b k (hf.imp (hFP b k) id)⟩⟩
/-! ### 2. Builders -/
/-- The cells of a variable which holds, among things that don't change, a slice over the array named 'id'. -/
def bC (a : List PV) (id n : Nat) (b : List PV) : List C := a.map .p ++ .ms id n :: b.map .p
/-- Behind a call: the array lies last. -/
def BEnd (pe : List AObj) (p : Nat) (a : List PV) (n : Nat) (b : List PV) (e : TypeId) (sz : Nat) (l : List (List PV)) (σ' : List AObj) : Prop :=
  ∃ g N, p + g.length = N ∧ σ' = (pe ++ [.cells (bC a (N + 0) n b)]) ++ (g ++ [.arr e sz l])
theorem bend_norm {P : Program} {f : FuncId} {args : List AV} {σ pe : List AObj} {p : Nat} {a b : List PV} {n : Nat} {e : TypeId} {sz : Nat} {l : List (List PV)} {rv : AV}
    (h : ACalls P f args σ (fun r σ' => r = .ret rv ∧ BEnd pe p a n b e sz l σ')) :
    ACalls P f args σ (fun r σ' => r = .ret rv ∧ ∃ k, σ' = (pe ++ [.cells (bC a (p + k) n b)]) ++ (List.replicate k .dead ++ [.arr e sz l])) := by
  refine acalls_kill (h.mono fun r σ' ⟨h1, g, N, h2, h3⟩ => ?_)
  subst h2
  exact ⟨_, ⟨h1, g.length, rfl⟩, by rw [h3]; exact Kill.pad _ _ _⟩
section
variable {P : Program} {N : Nat} {Q : AE → St → Prop} {ops : Array Oper} {rest : List Oper} {σ σ' : List AObj} {fr : Fr}
variable {ty : TypeId} {pos : String} {aft : Array Edge} {g : Option (Nat × Bool)}
theorem ren_bC (ρ : Ren) (a b : List PV) (id n : Nat) : (bC a id n b).map (renC ρ) = bC a (ρ id).1 n b := by
  simp [bC, renC, Function.comp_def]
theorem ok_bC {m id : Nat} (h : id < m) (a b : List PV) (n : Nat) : (bC a id n b).all (okC m) = true := by
  simp [bC, okC, List.all_append, Nat.blt_eq, h]
theorem len_bC (a b : List PV) (id n : Nat) : (bC a id n b).length = a.length + 1 + b.length := by simp [bC]; omega
theorem backO_arr (ρ : Ren) (o : AObj) (off : Nat) (e : TypeId) (sz : Nat) (l : List (List PV)) : backO ρ o off (.arr e sz l) = .arr e sz l := by cases o <;> rfl
theorem backO_dead (ρ : Ren) (o : AObj) (off : Nat) : backO ρ o off .dead = .dead := by cases o <;> rfl
theorem lay_all {α : Type} {l x : List α} (h : x.length = l.length) : lay l 0 x = x := by simp [lay, h]
/-- A call that is handed the variable and its array; nothing else stands in front. -/
theorem k_callB1 {d : Nat} {f : FuncId} [TFn P f] {y : Operand} {xs : Array Operand} {ts : Array TypeId} {cargs : List AV} {rv : AV} {a a' b b' : List PV} {n n' : Nat} {e : TypeId} {sz : Nat} {l l' : List (List PV)} {gg : List AObj} {M : Nat}
    (h : ACalls P f cargs [.cells (bC a 1 n b), .arr e sz l] (fun r σ' => r = .ret rv ∧ BEnd [] 1 a' n' b' e sz l' σ')) (hM : 1 + gg.length = M)
    (kont : ∀ g' M', 1 + g'.length = M' → AList P N ops Q rest ⟨(d, rv) :: fr, [.cells (bC a' (M' + 0) n' b')] ++ (g' ++ [.arr e sz l'])⟩)
    (ha : a'.length = a.length := by rfl) (hb : b'.length = b.length := by rfl) (hv : pureV rv = true := by rfl)
    (hy : ev fr y = .c (.p (.lit (.func (.func f) #[] #[]))) := by exact rfl) (hx : xs.toList.map (ev fr) = cargs.map (renV (ren1 [(0, 0), (M + 0, 0)])) := by (try simp only [↓ev, litAV, ↓Fr.get, ↓reduceIte, Nat.reduceEqDiff, List.map]) <;> rfl) (hok : cargs.all (okV 2) = true := by rfl)
    (hd : Nat.blt d N = true := by rfl) (hg : xs.toList.all goodConst = true := by rfl) :
    AList P N ops Q (⟨some d, .call { callee := .value y, args := xs, argTypes := ts }, ty, pos, aft, none⟩ :: rest) ⟨fr, [.cells (bC a (M + 0) n b)] ++ (gg ++ [.arr e sz l])⟩ := by
  subst hM
  have hlen : ([AObj.cells (bC a (1 + gg.length + 0) n b)] ++ (gg ++ [AObj.arr e sz l])).length = 1 + gg.length + 1 := by simp; omega
  have hnd : (([(0, 0), (1 + gg.length + 0, 0)] : List (Nat × Nat)).map (·.1)).Nodup := by
    simp; omega
  have hlast : ([AObj.cells (bC a (1 + gg.length + 0) n b)] ++ (gg ++ [AObj.arr e sz l]))[1 + gg.length]? = some (.arr e sz l) := by
    rw [← List.append_assoc, List.getElem?_append_right (by simp; omega)]
    have : 1 + gg.length - ([AObj.cells (bC a (1 + gg.length + 0) n b)] ++ gg).length = 0 := by simp; omega
    rw [this]; rfl
  refine w_call (ι := Nat) (Φ := fun _ => True) (rr := fun _ => .ret rv) (σo := fun k => .cells (bC a' (1 + k) n' b') :: (List.replicate k .dead ++ [.arr e sz l'])) (σc := [.cells (bC a 1 n b), .arr e sz l]) (cargs := cargs) [(0, 0), (1 + gg.length + 0, 0)] hy
    ((bend_norm h).mono fun r σ' ⟨h1, k, h2⟩ => ⟨k, trivial, h1, [], by simp [h2]⟩) hx hok rfl hnd (fun k id off oc h1 h2 => ?_) (fun k _ => ⟨?_, okV_pure _ hv⟩) hd (fun k _ => ?_) hg
  · match k with
    | 0 =>
      simp at h1 h2
      obtain ⟨rfl, rfl⟩ := h1; subst h2
      refine ⟨_, rfl, _, rfl, by simp [len_bC], ?_, ok_bC (by simp) _ _ _⟩
      rw [ren_bC]
      simp [ren1, len_bC]
      rw [List.take_of_length_le (by simp [len_bC])]
    | 1 =>
      simp at h1 h2
      obtain ⟨rfl, rfl⟩ := h1; subst h2
      exact ⟨_, hlast, rfl⟩
    | k + 2 => simp at h1
  · have h1 : (bC a' (1 + k) n' b').all (okC ((AObj.cells (bC a' (1 + k) n' b') :: (List.replicate k .dead ++ [.arr e sz l'])).length)) = true := ok_bC (by simp; omega) _ _ _
    have h2 : Nat.beq (bC a' (1 + k) n' b').length (bC a 1 n b).length = true := by rw [len_bC, len_bC, ha, hb]; exact Nat.beq_refl _
    cases k with
    | zero => simp only [okBack, List.replicate_zero, List.nil_append] at h1 ⊢; rw [h1, h2]; rfl
    | succ k =>
      simp only [okBack, List.replicate_succ, List.cons_append] at h1 ⊢
      rw [h1, h2]
      simp [okO]
  · rw [hlen]
    have hren : (ren2 [(0, 0), (1 + gg.length + 0, 0)] (1 + gg.length + 1) (1 + k)).1 = 1 + gg.length + k := by
      simp only [ren2, List.length_cons, List.length_nil]
      cases k with
      | zero => rfl
      | succ k => rw [if_neg (by omega)]; simp; omega
    have hb0 : backO (ren2 [(0, 0), (1 + gg.length + 0, 0)] (1 + gg.length + 1)) (.cells (bC a (1 + gg.length + 0) n b)) 0 (.cells (bC a' (1 + k) n' b')) = .cells (bC a' (1 + gg.length + k) n' b') := by
      simp only [backO]
      rw [ren_bC, hren, lay_all (by rw [len_bC, len_bC, ha, hb])]
    have key := kont (gg ++ List.replicate k .dead) (1 + gg.length + k) (by simp; omega)
    have e1 : renV (ren2 [(0, 0), (1 + gg.length + 0, 0)] (1 + gg.length + 1)) rv = rv := renV_pure _ hv
    simp only [e1]
    have e2 : back (ren2 [(0, 0), (1 + gg.length + 0, 0)] (1 + gg.length + 1)) ([.cells (bC a (1 + gg.length + 0) n b)] ++ (gg ++ [.arr e sz l])) [(0, 0), (1 + gg.length + 0, 0)] (.cells (bC a' (1 + k) n' b') :: (List.replicate k .dead ++ [.arr e sz l'])) = [.cells (bC a' (1 + gg.length + k + 0) n' b')] ++ ((gg ++ List.replicate k .dead) ++ [.arr e sz l']) := by
      have s1 : ∀ o, ([AObj.cells (bC a' (1 + gg.length + k) n' b')] ++ (gg ++ [AObj.arr e sz l])).set (1 + gg.length + 0) o = [AObj.cells (bC a' (1 + gg.length + k) n' b')] ++ (gg ++ [o]) := fun o => by
        rw [← List.append_assoc, ← List.append_assoc, List.set_append_right _ _ (by simp; omega)]
        have : 1 + gg.length + 0 - ([AObj.cells (bC a' (1 + gg.length + k) n' b')] ++ gg).length = 0 := by simp; omega
        rw [this]; rfl
      have s0 : ([AObj.cells (bC a (1 + gg.length + 0) n b)] ++ (gg ++ [AObj.arr e sz l])).getD 0 .dead = .cells (bC a (1 + gg.length + 0) n b) := rfl
      have s2 : ([AObj.cells (bC a (1 + gg.length + 0) n b)] ++ (gg ++ [AObj.arr e sz l])).set 0 (.cells (bC a' (1 + gg.length + k) n' b')) = [AObj.cells (bC a' (1 + gg.length + k) n' b')] ++ (gg ++ [AObj.arr e sz l]) := rfl
      rw [back, s0, hb0, s2]
      cases k with
      | zero =>
        rw [List.replicate_zero, List.nil_append]
        show back _ (List.set _ _ (backO _ _ _ (.arr e sz l'))) [] [] = _
        rw [backO_arr, s1]
        simp [back]
      | succ k =>
        rw [List.replicate_succ]
        show back _ (List.set _ _ (backO _ _ _ .dead)) [] (List.replicate k .dead ++ [.arr e sz l']) = _
        rw [backO_dead, s1]
        simp [back, renO]
    rw [e2]
    exact key
/-- A call that is handed the variable and its array; an object of another kind stands in front. -/
theorem k_callB2 {d : Nat} {f : FuncId} [TFn P f] {y : Operand} {xs : Array Operand} {ts : Array TypeId} {cargs : List AV} {rv : AV} {a a' b b' : List PV} {n n' : Nat} {e : TypeId} {sz : Nat} {l l' : List (List PV)} {gg : List AObj} {M : Nat} {X : XO}
    (h : ACalls P f cargs [.ext X, .cells (bC a 2 n b), .arr e sz l] (fun r σ' => r = .ret rv ∧ BEnd [.ext X] 2 a' n' b' e sz l' σ')) (hM : 2 + gg.length = M)
    (kont : ∀ g' M', 2 + g'.length = M' → AList P N ops Q rest ⟨(d, rv) :: fr, [.ext X, .cells (bC a' (M' + 0) n' b')] ++ (g' ++ [.arr e sz l'])⟩)
    (ha : a'.length = a.length := by rfl) (hb : b'.length = b.length := by rfl) (hv : pureV rv = true := by rfl)
    (hy : ev fr y = .c (.p (.lit (.func (.func f) #[] #[]))) := by exact rfl) (hx : xs.toList.map (ev fr) = cargs.map (renV (ren1 [(0, 0), (1, 0), (M + 0, 0)])) := by (try simp only [↓ev, litAV, ↓Fr.get, ↓reduceIte, Nat.reduceEqDiff, List.map]) <;> rfl) (hok : cargs.all (okV 3) = true := by rfl)
    (hd : Nat.blt d N = true := by rfl) (hg : xs.toList.all goodConst = true := by rfl) :
    AList P N ops Q (⟨some d, .call { callee := .value y, args := xs, argTypes := ts }, ty, pos, aft, none⟩ :: rest) ⟨fr, [.ext X, .cells (bC a (M + 0) n b)] ++ (gg ++ [.arr e sz l])⟩ := by
  subst hM
  have hlen : ([AObj.ext X, AObj.cells (bC a (2 + gg.length + 0) n b)] ++ (gg ++ [AObj.arr e sz l])).length = 2 + gg.length + 1 := by simp; omega
  have hnd : (([(0, 0), (1, 0), (2 + gg.length + 0, 0)] : List (Nat × Nat)).map (·.1)).Nodup := by
    simp; omega
  have hlast : ([AObj.ext X, AObj.cells (bC a (2 + gg.length + 0) n b)] ++ (gg ++ [AObj.arr e sz l]))[2 + gg.length]? = some (.arr e sz l) := by
    rw [← List.append_assoc, List.getElem?_append_right (by simp; omega)]
    have : 2 + gg.length - ([AObj.ext X, AObj.cells (bC a (2 + gg.length + 0) n b)] ++ gg).length = 0 := by simp; omega
    rw [this]; rfl
  refine w_call (ι := Nat) (Φ := fun _ => True) (rr := fun _ => .ret rv) (σo := fun k => .ext X :: .cells (bC a' (2 + k) n' b') :: (List.replicate k .dead ++ [.arr e sz l'])) (σc := [.ext X, .cells (bC a 2 n b), .arr e sz l]) (cargs := cargs) [(0, 0), (1, 0), (2 + gg.length + 0, 0)] hy
    ((bend_norm h).mono fun r σ' ⟨h1, k, h2⟩ => ⟨k, trivial, h1, [], by simp [h2]⟩) hx hok rfl hnd (fun k id off oc h1 h2 => ?_) (fun k _ => ⟨?_, okV_pure _ hv⟩) hd (fun k _ => ?_) hg
  · match k with
    | 0 =>
      simp at h1 h2
      obtain ⟨rfl, rfl⟩ := h1; subst h2
      exact ⟨_, rfl, rfl, rfl⟩
    | 1 =>
      simp at h1 h2
      obtain ⟨rfl, rfl⟩ := h1; subst h2
      refine ⟨_, rfl, _, rfl, by simp [len_bC], ?_, ok_bC (by simp) _ _ _⟩
      rw [ren_bC]
      simp [ren1, len_bC]
      rw [List.take_of_length_le (by simp [len_bC])]
    | 2 =>
      simp at h1 h2
      obtain ⟨rfl, rfl⟩ := h1; subst h2
      exact ⟨_, hlast, rfl⟩
    | k + 3 => simp at h1
  · have h1 : (bC a' (2 + k) n' b').all (okC ((AObj.ext X :: AObj.cells (bC a' (2 + k) n' b') :: (List.replicate k .dead ++ [.arr e sz l'])).length)) = true := ok_bC (by simp; omega) _ _ _
    have h2 : Nat.beq (bC a' (2 + k) n' b').length (bC a 2 n b).length = true := by rw [len_bC, len_bC, ha, hb]; exact Nat.beq_refl _
    cases k with
    | zero => simp only [okBack, List.replicate_zero, List.nil_append] at h1 ⊢; rw [h1, h2]; rfl
    | succ k =>
      simp only [okBack, List.replicate_succ, List.cons_append] at h1 ⊢
      rw [h1, h2]
      simp [okO]
  · rw [hlen]
    have hren : (ren2 [(0, 0), (1, 0), (2 + gg.length + 0, 0)] (2 + gg.length + 1) (2 + k)).1 = 2 + gg.length + k := by
      simp only [ren2, List.length_cons, List.length_nil]
      cases k with
      | zero => rfl
      | succ k => rw [if_neg (by omega)]; simp; omega
    have hb0 : backO (ren2 [(0, 0), (1, 0), (2 + gg.length + 0, 0)] (2 + gg.length + 1)) (.cells (bC a (2 + gg.length + 0) n b)) 0 (.cells (bC a' (2 + k) n' b')) = .cells (bC a' (2 + gg.length + k) n' b') := by
      simp only [backO]
      rw [ren_bC, hren, lay_all (by rw [len_bC, len_bC, ha, hb])]
    have key := kont (gg ++ List.replicate k .dead) (2 + gg.length + k) (by simp; omega)
    have e1 : renV (ren2 [(0, 0), (1, 0), (2 + gg.length + 0, 0)] (2 + gg.length + 1)) rv = rv := renV_pure _ hv
    simp only [e1]
    have e2 : back (ren2 [(0, 0), (1, 0), (2 + gg.length + 0, 0)] (2 + gg.length + 1)) ([.ext X, .cells (bC a (2 + gg.length + 0) n b)] ++ (gg ++ [.arr e sz l])) [(0, 0), (1, 0), (2 + gg.length + 0, 0)] (.ext X :: .cells (bC a' (2 + k) n' b') :: (List.replicate k .dead ++ [.arr e sz l'])) = [.ext X, .cells (bC a' (2 + gg.length + k + 0) n' b')] ++ ((gg ++ List.replicate k .dead) ++ [.arr e sz l']) := by
      have s1 : ∀ o, ([AObj.ext X, AObj.cells (bC a' (2 + gg.length + k) n' b')] ++ (gg ++ [AObj.arr e sz l])).set (2 + gg.length + 0) o = [AObj.ext X, AObj.cells (bC a' (2 + gg.length + k) n' b')] ++ (gg ++ [o]) := fun o => by
        rw [← List.append_assoc, ← List.append_assoc, List.set_append_right _ _ (by simp; omega)]
        have : 2 + gg.length + 0 - ([AObj.ext X, AObj.cells (bC a' (2 + gg.length + k) n' b')] ++ gg).length = 0 := by simp; omega
        rw [this]; rfl
      have s0 : ([AObj.ext X, AObj.cells (bC a (2 + gg.length + 0) n b)] ++ (gg ++ [AObj.arr e sz l])).getD 1 .dead = .cells (bC a (2 + gg.length + 0) n b) := rfl
      have s2 : ([AObj.ext X, AObj.cells (bC a (2 + gg.length + 0) n b)] ++ (gg ++ [AObj.arr e sz l])).set 1 (.cells (bC a' (2 + gg.length + k) n' b')) = [AObj.ext X, AObj.cells (bC a' (2 + gg.length + k) n' b')] ++ (gg ++ [AObj.arr e sz l]) := rfl
      show back _ _ [(1, 0), (2 + gg.length + 0, 0)] (.cells (bC a' (2 + k) n' b') :: (List.replicate k .dead ++ [.arr e sz l'])) = _
      rw [show ([AObj.ext X, AObj.cells (bC a (2 + gg.length + 0) n b)] ++ (gg ++ [AObj.arr e sz l])).set 0 (backO (ren2 [(0, 0), (1, 0), (2 + gg.length + 0, 0)] (2 + gg.length + 1)) (([AObj.ext X, AObj.cells (bC a (2 + gg.length + 0) n b)] ++ (gg ++ [AObj.arr e sz l])).getD 0 .dead) 0 (.ext X)) = [AObj.ext X, AObj.cells (bC a (2 + gg.length + 0) n b)] ++ (gg ++ [AObj.arr e sz l]) from rfl]
      rw [back, s0, hb0, s2]
      cases k with
      | zero =>
        rw [List.replicate_zero, List.nil_append]
        show back _ (List.set _ _ (backO _ _ _ (.arr e sz l'))) [] [] = _
        rw [backO_arr, s1]
        simp [back]
      | succ k =>
        rw [List.replicate_succ]
        show back _ (List.set _ _ (backO _ _ _ .dead)) [] (List.replicate k .dead ++ [.arr e sz l']) = _
        rw [backO_dead, s1]
        simp [back, renO]
    rw [e2]
    exact key
/-- An array that the variable holds, told so that what stands between may grow. -/
theorem aw_gen1 {c : Code} {a b : List PV} {n : Nat} {e : TypeId} {sz : Nat} {l : List (List PV)} (h : ∀ g M, 1 + g.length = M → AWp P N c Q ⟨fr, [.cells (bC a (M + 0) n b)] ++ (g ++ [.arr e sz l])⟩) : AWp P N c Q ⟨fr, [.cells (bC a 1 n b), .arr e sz l]⟩ := h [] 1 rfl
theorem aw_gen2 {X : XO} {c : Code} {a b : List PV} {n : Nat} {e : TypeId} {sz : Nat} {l : List (List PV)} (h : ∀ g M, 2 + g.length = M → AWp P N c Q ⟨fr, [.ext X, .cells (bC a (M + 0) n b)] ++ (g ++ [.arr e sz l])⟩) : AWp P N c Q ⟨fr, [.ext X, .cells (bC a 2 n b), .arr e sz l]⟩ := h [] 2 rfl
/-! ### 3. Texts, conversions, division -/
variable {d : Option Nat}
structure StrFit (a b : ByteArray) : Prop where
  h : (a.size : Int) + b.size ≤ 9223372036854775807
theorem b_strAdd {t t' : TypeId} {x y : Operand} {a b : ByteArray} (h : StrFit a b) (hx : ev fr x = .c (.p (.lit (.string a))) := by exact rfl) (hy : ev fr y = .c (.p (.lit (.string b))) := by exact rfl) : RStep P σ fr ⟨d, .binOp .add t x y t', ty, pos, aft, g⟩ (.c (.p (.lit (.string (a ++ b))))) :=
  r_bin hx hy (fun w => by
    have : ¬ ((a.size + b.size : Nat) : Int) > IntKind.i64.max := by
      have e : IntKind.i64.max = 9223372036854775807 := by decide
      rw [e]; have := h.h; omega
    simp only [eqGuard, binOp, Op.stringOp]
    simp only [Sem.run_bind, Sem.run_pure, Result.andThen_ok]
    rw [if_neg this]; rfl) rfl
theorem b_conv {src dst : TypeId} {x : Operand} {k k' : IntKind} {n : Int} (hs : (P.underlying src).isSome = true) (hd : P.underlying dst = some (.int k')) (hw : k'.wrap n = n) (hx : ev fr x = .c (.p (.lit (.int k n))) := by exact rfl) : RStep P σ fr ⟨d, .convert src dst x, ty, pos, aft, g⟩ (.c (.p (.lit (.int k' n)))) := by
  have hk : P.intKind dst = k' := by simp [Program.intKind, hd]
  exact r_conv hx (fun w => by
    have := run_convert_int (P := P) w src dst k n hs (by rw [hk]; exact hd)
    rw [hk, hw] at this; exact this) rfl
theorem wrap_u8 {n : Int} (h0 : 0 ≤ n) (h1 : n < 256) : IntKind.u8.wrap n = n := by
  simp only [IntKind.wrap, IntKind.bits, IntKind.signed]
  have e : (2 : Int) ^ 8 = 256 := by decide
  simp only [e, Bool.false_and]
  rw [if_neg (by simp)]
  omega
theorem b_convU8 {src dst : TypeId} {x : Operand} {k : IntKind} {n : Int} (hs : (P.underlying src).isSome = true) (hd : P.underlying dst = some (.int .u8)) (hx : ev fr x = .c (.p (.lit (.int k n))) := by exact rfl) (h0 : 0 ≤ n := by omega) (h1 : n < 256 := by omega) : RStep P σ fr ⟨d, .convert src dst x, ty, pos, aft, g⟩ (.c (.p (.lit (.int .u8 n)))) := b_conv hs hd (wrap_u8 h0 h1) hx
abbrev encByte (b : UInt8) : List PV := [.lit (.int .u8 b.toNat)]
theorem b_bytesStr {src dst e : TypeId} {x : Operand} {l : List UInt8} (hs : P.underlying src = some (.slice e)) (he : P.underlying e = some (.int .u8)) (hd : P.underlying dst = some .string) (hne : l ≠ []) (hx : ev fr x = .c (.p (.sl 1 (l.map encByte))) := by exact rfl) : RStep P σ fr ⟨d, .convert src dst x, ty, pos, aft, g⟩ (.c (.p (.lit (.string ⟨l.toArray⟩)))) := by
  refine rs_pure (fun m F w a i hop => ?_)
  have hv := hop x (by simp [Op.operands]) (good_of_nl hx (fun v h => by cases h))
  rw [hx] at hv
  obtain ⟨A, cap, h1, h2, h3, h4⟩ := rv_sl hv
  obtain ⟨b, o, us, rfl, hF, hw, hr⟩ := h4 (by simpa using hne)
  have key := run_convert_bytes_back (P := P) w src dst e ⟨b, o, none⟩ cap l hs he hd (fun j hj => by
    have e1 := hw j (by simpa using hj)
    have e2 := hr j (encByte l[j]) (by rw [List.getElem?_map, List.getElem?_eq_getElem hj]; rfl) 0 _ rfl
    simp only [Nat.mul_one, Nat.add_zero] at e2
    rw [add_plain', e1, RP.eq_lit e2])
  refine ⟨.string ⟨l.toArray⟩, ?_, RP.lit rfl⟩
  rw [List.length_map] at h1
  simp only [execOp, h1]
  simp [key]
theorem b_bytesStr' {src dst e : TypeId} {x : Operand} {zs : List Int} {l : List UInt8} (hz : zs = l.map fun b => (b.toNat : Int)) (hs : P.underlying src = some (.slice e)) (he : P.underlying e = some (.int .u8)) (hd : P.underlying dst = some .string) (hne : l ≠ []) (hx : ev fr x = .c (.p (.sl 1 (zs.map fun z => [PV.lit (.int .u8 z)]))) := by exact rfl) : RStep P σ fr ⟨d, .convert src dst x, ty, pos, aft, g⟩ (.c (.p (.lit (.string ⟨l.toArray⟩)))) := by
  subst hz
  rw [List.map_map] at hx
  exact b_bytesStr hs he hd hne hx
theorem b_quo {t t' : TypeId} {x y : Operand} {a b : Int} (hb : b ≠ 0) (h : InR (a.tdiv b)) (hx : ev fr x = i64 a := by exact rfl) (hy : ev fr y = i64 b := by exact rfl) : RStep P σ fr ⟨d, .binOp .quo t x y t', ty, pos, aft, g⟩ (i64 (a.tdiv b)) :=
  r_bin hx hy (fun w => by simp [eqGuard, binOp, Op.intDiv, hb, wrap_in h]) rfl
theorem b_rem {t t' : TypeId} {x y : Operand} {a b : Int} (hb : b ≠ 0) (h : InR (a.tmod b)) (hx : ev fr x = i64 a := by exact rfl) (hy : ev fr y = i64 b := by exact rfl) : RStep P σ fr ⟨d, .binOp .rem t x y t', ty, pos, aft, g⟩ (i64 (a.tmod b)) :=
  r_bin hx hy (fun w => by simp [eqGuard, binOp, Op.intDiv, hb, wrap_in h]) rfl
/-- nil in a part of a value is a slice without an element. -/
theorem k_nilF {l : List Oper} {cs cs' : List C} (t off sz : Nat) (k : AList P N ops Q l ⟨(t, .agg cs') :: fr, σ⟩) (h : fr.get t = .agg cs := by exact rfl) (ho : cs[off]? = some (.p (.lit (.slice none 0 0))) := by rfl) (hs : cs.set off (.p (.sl sz [])) = cs' := by rfl) : AList P N ops Q l ⟨fr, σ⟩ := by
  subst hs
  refine alist_of (s' := ⟨(t, .agg (cs.set off (.p (.sl sz [])))) :: fr, σ⟩) (fun m F a w hr => ⟨m, F, rel_over hr ?_, Step.refl ..⟩) k
  have hx := hr.fr t
  rw [h] at hx
  obtain ⟨us, h1, h2, h3⟩ := hx
  refine ⟨us, h1, by simpa using h2, fun j x hj => ?_⟩
  by_cases hj' : j = off
  · subst hj'
    rw [List.getElem?_set_self (List.getElem?_eq_some_iff.1 ho).1] at hj
    injection hj with hj; subst hj
    have e : RP w F _ _ := h3 j _ ho
    rw [RP.eq_lit e]
    exact RP.sl0 sz none 0
  · rw [List.getElem?_set_ne (fun e => hj' e.symm)] at hj
    exact h3 j x hj
theorem rv_nilS {m : List Loc} {F : Nat → Nat → Prop} {w : World} {u : Value} {es : List PV} {s off : Nat} (sz : Nat) (ho : es[off]? = some (.lit (.slice none 0 0))) (hx : RV m w F (.c (.p (.sl s [es]))) u) : RV m w F (.c (.p (.sl s [es.set off (.sl sz [])]))) u := by
  obtain ⟨A, cap, h1, h2, h3, h4⟩ := rv_sl hx
  obtain ⟨b, o, us, rfl, g1, g2, g3⟩ := h4 (by simp)
  rw [h1]
  have hes := h3 es (by simp)
  refine RP.sl (l := [es.set off (.sl sz [])]) us (by simpa using h2) (fun e he => by rw [List.mem_singleton.1 he]; simpa using hes) (by simpa using g1) (by simpa using g2) (fun i e he j x hj => ?_)
  have hi : i = 0 := by
    have := (List.getElem?_eq_some_iff.1 he).1
    simp at this; omega
  subst hi
  simp at he
  subst he
  by_cases hj' : j = off
  · subst hj'
    rw [List.getElem?_set_self (List.getElem?_eq_some_iff.1 ho).1] at hj
    injection hj with hj; subst hj
    have e := g3 0 es rfl j _ ho
    rw [RP.eq_lit e]
    exact RP.sl0 sz none 0
  · rw [List.getElem?_set_ne (fun e => hj' e.symm)] at hj
    exact g3 0 es rfl j x hj
theorem b_nilS {o : Oper} {es es' : List PV} {s : Nat} (off sz : Nat) (h : RStep P σ fr o (.c (.p (.sl s [es])))) (ho : es[off]? = some (.lit (.slice none 0 0)) := by rfl) (hs : es.set off (.sl sz []) = es' := by rfl) : RStep P σ fr o (.c (.p (.sl s [es']))) := by
  subst hs
  exact fun m F w a i hop K Q hK => h m F w a i hop K Q fun x F' w' g hx => hK x F' w' g (rv_nilS sz ho hx)
end
end Go.AL
set_option linter.unusedVariables false
set_option linter.unusedSimpArgs false
namespace Go.AL
open Go.RowKit
section
variable {P : Program} {N : Nat} {Q : AE → St → Prop} {ops : Array Oper} {σ σ' σ0 σ1 : List AObj}
/-- One operation with its guard, which may turn objects, from whatever temporaries that agree on what it looks at. -/
def WStep (P : Program) (ops : Array Oper) (σ : List AObj) (g : FrF) (o : Oper) (v : AV) (σ' : List AObj) : Prop :=
  ∀ m F w (a : Act), Inv m F σ w → (∀ t, t ∈ o.looksAt ops → RV m w F (g t) (a.tmps.getD t undef)) →
    ∀ K Q, (∀ x m' F' w', Inv m' F' σ' w' → Step m F σ w m' F' σ' w' → RV m' w' F' v x → K (a.put o.dst x) w') → if Region.wanted o (yielded ops a.tmps) then o.wp P a w K Q else K (a.put o.dst undef) w
theorem WStep.congr {g g' : FrF} {o : Oper} {v : AV} (h : WStep P ops σ g o v σ') (he : ∀ t ∈ o.looksAt ops, g' t = g t) : WStep P ops σ g' o v σ' :=
  fun m F w a i hs K Q hK => h m F w a i (fun t ht => by rw [← he t ht]; exact hs t ht) K Q hK
theorem GStep.w {g : FrF} {o : Oper} {v : AV} (h : GStep P σ ops g o v) : WStep P ops σ g o v σ :=
  fun m F w a i hs K Q hK => h m F w a i hs K Q fun x F' w' gr hx => hK x m F' w' (i.grow gr) gr.step hx
/-- Does j wait for i, itself or through others? -/
def reachB (ops : Array Oper) : Nat → Nat → Nat → Bool
  | 0, _, _ => false
  | f + 1, j, i => match ops[j]? with
    | some oj => oj.after.any fun e => Region.binds .any e && (e.on == i || reachB ops f e.on i)
    | none => false
theorem reach_deps {n i : Nat} {listed : Array Bool} (inv : HeadInv .any ops n listed) : ∀ (f j : Nat) (oj : Oper), ops[j]? = some oj → (∀ e ∈ oj.after, Region.binds .any e = true → listed.getD e.on false = true) → reachB ops f j i = true → listed.getD i false = true
  | 0, j, oj, _, _, h => by simp [reachB] at h
  | f + 1, j, oj, hj, hd, h => by
    simp only [reachB, hj] at h
    obtain ⟨e, he, hb⟩ := Array.any_eq_true'.1 h
    simp only [Bool.and_eq_true, Bool.or_eq_true, beq_iff_eq] at hb
    have hl := hd e he hb.1
    rcases hb.2 with hb2 | hb2
    · rw [← hb2]; exact hl
    · cases hk : ops[e.on]? with
      | none => cases f <;> simp [reachB, hk] at hb2
      | some ok => exact reach_deps inv f e.on ok hk (fun e' he' hb' => inv.closed e.on ok hk hl e' he' hb') hb2
theorem reach_ready {n i j f : Nat} {listed : Array Bool} (inv : HeadInv .any ops n listed) (hj : j ∈ Region.ready .any ops listed) (h : reachB ops f j i = true) : listed.getD i false = true := by
  obtain ⟨_, oj, hoj, hd⟩ := mem_ready.1 hj
  exact reach_deps inv f j oj hoj hd h
theorem reach_listed {n i j f : Nat} {listed : Array Bool} (inv : HeadInv .any ops n listed) (hl : listed.getD j false = true) (h : reachB ops f j i = true) : listed.getD i false = true := by
  cases hk : ops[j]? with
  | none => cases f <;> simp [reachB, hk] at h
  | some ok => exact reach_deps inv f j ok hk (fun e he hb => inv.closed j ok hk hl e he hb) h
/-- The memory, by whether the turning operation was listed. -/
def σof (σ0 σ1 : List AObj) (p : Nat) (listed : Array Bool) : List AObj := if listed.getD p false then σ1 else σ0
/-- What an operation does, whatever was listed ahead of it. -/
def Fact (P : Program) (ops : Array Oper) (σ0 σ1 : List AObj) (p n i : Nat) (g : FrF) (o : Oper) (v : AV) : Prop :=
  ∀ listed, HeadInv .any ops n listed → i ∈ Region.ready .any ops listed → WStep P ops (σof σ0 σ1 p listed) g o v (σof σ0 σ1 p (listed.setIfInBounds i true))
theorem Fact.congr {p n i : Nat} {g g' : FrF} {o : Oper} {v : AV} (h : Fact P ops σ0 σ1 p n i g o v) (he : ∀ t ∈ o.looksAt ops, g' t = g t) : Fact P ops σ0 σ1 p n i g' o v :=
  fun listed inv hr => (h listed inv hr).congr he
theorem σof_ne {p i : Nat} {listed : Array Bool} (h : i ≠ p) : σof σ0 σ1 p (listed.setIfInBounds i true) = σof σ0 σ1 p listed := by
  simp only [σof]; rw [getD_set_ne false h]
inductive TSteps (P : Program) (ops : Array Oper) (σ0 σ1 : List AObj) (p : Nat) : Nat → List Oper → Fr → Fr → Prop
  | nil {k : Nat} {fr : Fr} : TSteps P ops σ0 σ1 p k [] fr fr
  | pre {k : Nat} {o : Oper} {l : List Oper} {fr fr' : Fr} {v : AV} (hk : k < p) (h : GStep P σ0 ops fr.get o v) (hb : reachB ops ops.size p k = true ∨ GStep P σ1 ops fr.get o v) (t : TSteps P ops σ0 σ1 p (k + 1) l (fr.put o.dst v) fr') : TSteps P ops σ0 σ1 p k (o :: l) fr fr'
  | turn {k : Nat} {o : Oper} {l : List Oper} {fr fr' : Fr} {v : AV} (hk : k = p) (h : WStep P ops σ0 fr.get o v σ1) (t : TSteps P ops σ0 σ1 p (k + 1) l (fr.put o.dst v) fr') : TSteps P ops σ0 σ1 p k (o :: l) fr fr'
  | post {k : Nat} {o : Oper} {l : List Oper} {fr fr' : Fr} {v : AV} (hk : p < k) (h : GStep P σ1 ops fr.get o v) (hb : reachB ops ops.size k p = true ∨ GStep P σ0 ops fr.get o v) (t : TSteps P ops σ0 σ1 p (k + 1) l (fr.put o.dst v) fr') : TSteps P ops σ0 σ1 p k (o :: l) fr fr'
def absT (P : Program) (σ0 σ1 : List AObj) (p : Nat) (ops : Array Oper) (n : Nat) (L : Array Bool → FrF → Prop) : Nat → Array Bool → FrF → Prop
  | 0, listed, g => L listed g
  | f + 1, listed, g => Region.ready .any ops listed ≠ [] ∧ ∀ i ∈ Region.ready .any ops listed, i < n ∧ ∃ o v, ops[i]? = some o ∧ Fact P ops σ0 σ1 p n i g o v ∧ absT P σ0 σ1 p ops n L f (listed.setIfInBounds i true) (g.put o.dst v)
theorem absT_first {n i p : Nat} {oi : Oper} {v : AV} {L : Array Bool → FrF → Prop} (hi : ops[i]? = some oi)
    (hs : Region.sinkB .any ops n = true) (hc : Region.chainB .any ops n = true) (hn : n < ops.size) (hin : i < n)
    (hdone : ∀ listed a, L listed a → ∀ j ∈ Region.ready .any ops listed, n ≤ j) :
    ∀ (f : Nat) (listed : Array Bool) (g : FrF), HeadInv .any ops n listed →
      (∀ j oj, ops[j]? = some oj → j ≠ i → listed.getD j true = false → (∀ e ∈ oj.after, Region.binds .any e = true → e.on ≠ i) → oi.apart ops oj = true) →
      i ∈ Region.ready .any ops listed → Fact P ops σ0 σ1 p n i g oi v →
      absT P σ0 σ1 p ops n L f (listed.setIfInBounds i true) (g.put oi.dst v) → absT P σ0 σ1 p ops n L (f + 1) listed g := by
  intro f
  induction f with
  | zero =>
    intro listed g inv _ hr hy H
    have hun := (mem_ready.1 hr).1
    refine ⟨fun h => (by rw [h] at hr; cases hr), fun j hj => ?_⟩
    have hjn : j < n := by
      rcases Nat.lt_or_ge j n with h | h
      · exact h
      · exact absurd hj (tail_waits hs hc hn inv _ i rfl hin hun j h)
    refine ⟨hjn, ?_⟩
    by_cases hji : j = i
    · subst hji; exact ⟨oi, v, hi, hy, H⟩
    · have := hdone _ _ H j (ready_mono hj hji)
      omega
  | succ f ih =>
    intro listed g inv hfree hr hy H
    have hun := (mem_ready.1 hr).1
    refine ⟨fun h => (by rw [h] at hr; cases hr), fun j hj => ?_⟩
    have hjn : j < n := by
      rcases Nat.lt_or_ge j n with h | h
      · exact h
      · exact absurd hj (tail_waits hs hc hn inv _ i rfl hin hun j h)
    refine ⟨hjn, ?_⟩
    by_cases hji : j = i
    · subst hji; exact ⟨oi, v, hi, hy, H⟩
    · obtain ⟨_, oj, u, hoj, hu, h1⟩ := H.2 j (ready_mono hj hji)
      obtain ⟨hjun, oj', hoj', hall⟩ := mem_ready.1 hj
      have hoo : oj' = oj := Option.some.inj (hoj'.symm.trans hoj)
      subst hoo
      have hnot : ∀ e ∈ oj'.after, Region.binds .any e = true → e.on ≠ i := fun e he hb heq => by
        have h1 := hall e he hb
        rw [heq, getD_both hun] at h1
        cases h1
      obtain ⟨a1, a2, a3⟩ := Oper.apart_spec (hfree j oj' hoj hji hjun hnot)
      have hu' : Fact P ops σ0 σ1 p n j g oj' u := hu.congr fun t ht => (FrF.put_off g v fun e he hte => a1 e he (hte ▸ ht)).symm
      have hy' : Fact P ops σ0 σ1 p n i (g.put oj'.dst u) oi v := hy.congr fun t ht => FrF.put_off g u fun e he hte => a3 e he (hte ▸ ht)
      have hfree' : ∀ k ok, ops[k]? = some ok → k ≠ i → (listed.setIfInBounds j true).getD k true = false →
          (∀ e ∈ ok.after, Region.binds .any e = true → e.on ≠ i) → oi.apart ops ok = true := fun k ok hk hki hun hno => by
        refine hfree k ok hk hki ?_ hno
        by_cases hjk : j = k
        · subst hjk; exact hjun
        · rw [getD_set_ne true hjk] at hun; exact hun
      refine ⟨oj', u, hoj, hu', ih (listed.setIfInBounds j true) _ (inv.set hj hjn) hfree' (ready_mono hr (Ne.symm hji)) hy' ?_⟩
      rw [Array.setIfInBounds_comm _ _ hji, ← FrF.put_comm g v u a2]
      exact h1
theorem absT_lex {n k2 p : Nat} {L : FrF → Prop} (hs : Region.sinkB .any ops n = true) (hc : Region.chainB .any ops n = true) (hn : n < ops.size) (hp : p < n) :
    ∀ (l : List Oper) (k : Nat) (listed : Array Bool) (fr fr' : Fr), (∀ j, j < l.length → l[j]? = ops[k + j]?) → k + l.length = n → HeadInv .any ops n listed →
    Region.lexHead .any ops k2 l.length k listed = true → TSteps P ops σ0 σ1 p k l fr fr' → L fr'.get → listed.getD p false = decide (p < k) →
    absT P σ0 σ1 p ops n (fun listed' g => Region.seqB .any ops k2 n listed' = true ∧ listed'.getD p false = true ∧ L g) l.length listed fr.get
  | [], k, listed, fr, fr', _, hk, _, hB, h, hL, hlp => by
    have : k = n := by simpa using hk
    subst this
    cases h
    exact ⟨by simpa [Region.lexHead] using hB, by rw [hlp]; simpa using hp, hL⟩
  | o :: l, k, listed, fr, fr', hl, hk, inv, hB, h, hL, hlp => by
    have h0 : ops[k]? = some o := by simpa using (hl 0 (by simp)).symm
    simp only [List.length_cons, Region.lexHead, Bool.and_eq_true] at hB
    obtain ⟨⟨hr, hf⟩, hB'⟩ := hB
    have hkn : k < n := by simp only [List.length_cons] at hk; omega
    have hr' : k ∈ Region.ready .any ops listed := by simpa using hr
    have hks : k < listed.size := by rw [inv.size]; omega
    have hnext : (listed.setIfInBounds k true).getD p false = decide (p < k + 1) := by
      by_cases hkp : k = p
      · subst hkp; simp [hks]
      · rw [getD_set_ne false hkp, hlp]
        by_cases h1 : p < k
        · simp [h1]; omega
        · simp [h1]; omega
    have hl' : ∀ j, j < l.length → l[j]? = ops[(k + 1) + j]? := fun j hj => by have := hl (j + 1) (by simp; omega); simpa [Nat.add_assoc, Nat.add_comm 1 j] using this
    have hk' : (k + 1) + l.length = n := by simp only [List.length_cons] at hk; omega
    have go : ∀ (v : AV), Fact P ops σ0 σ1 p n k fr.get o v → TSteps P ops σ0 σ1 p (k + 1) l (fr.put o.dst v) fr' → absT P σ0 σ1 p ops n (fun listed' g => Region.seqB .any ops k2 n listed' = true ∧ listed'.getD p false = true ∧ L g) (l.length + 1) listed fr.get := by
      intro v hy ht
      refine absT_first h0 hs hc hn hkn (fun listed' a' hL => seqB_ready hL.1) l.length listed _ inv (Region.free_spec h0 hf) hr' hy ?_
      rw [← FrF.put_get]
      exact absT_lex hs hc hn hp l (k + 1) _ _ _ hl' hk' (inv.set hr' hkn) hB' ht hL hnext
    cases h with
    | pre hkp hy hb ht =>
      refine go _ (fun listed' inv' hrd => ?_) ht
      rw [σof_ne (by omega)]
      simp only [σof]
      cases hlp' : listed'.getD p false with
      | false => exact hy.w
      | true =>
        rcases hb with hb | hb
        · have := reach_listed inv' hlp' hb
          rw [getD_both (mem_ready.1 hrd).1] at this
          cases this
        · exact hb.w
    | turn hkp hy ht =>
      subst hkp
      refine go _ (fun listed' inv' hrd => ?_) ht
      have h1 := getD_both (mem_ready.1 hrd).1
      have h2 : (listed'.setIfInBounds k true).getD k false = true := by
        have : k < listed'.size := by rw [inv'.size]; omega
        simp [this]
      simp only [σof, h1, h2]
      exact hy
    | post hkp hy hb ht =>
      refine go _ (fun listed' inv' hrd => ?_) ht
      rw [σof_ne (by omega)]
      simp only [σof]
      cases hlp' : listed'.getD p false with
      | true => exact hy.w
      | false =>
        rcases hb with hb | hb
        · have := reach_ready inv' hrd hb
          rw [hlp'] at this; cases this
        · exact hb.w
theorem wpAny_of_absT {n k2 p : Nat} {L : Array Bool → FrF → Prop} (hd : ops.all (dstOk N) = true)
    (hL : ∀ listed g, L listed g → ∀ m F a w, RelF N m F g (σof σ0 σ1 p listed) a w → wpAny P .any ops (Post N Q m F (σof σ0 σ1 p listed) w) k2 listed a w) :
    ∀ (f : Nat) (listed : Array Bool) (g : FrF), HeadInv .any ops n listed → absT P σ0 σ1 p ops n L f listed g → ∀ m F a w, RelF N m F g (σof σ0 σ1 p listed) a w → wpAny P .any ops (Post N Q m F (σof σ0 σ1 p listed) w) (f + k2) listed a w
  | 0, listed, g, _, h, m, F, a, w, hr => by rw [Nat.zero_add]; exact hL _ _ h m F a w hr
  | f + 1, listed, g, inv, h, m, F, a, w, hr => by
    rw [show f + 1 + k2 = (f + k2) + 1 by omega]
    refine ⟨fun h0 => absurd h0 h.1, fun i hi => ?_⟩
    obtain ⟨hin, o, v, ho, hy, hrest⟩ := h.2 i hi
    unfold wpOp
    simp only [ho]
    have hdo : dstOk N o = true := Array.all_eq_true_iff_forall_mem.1 hd o (Array.mem_of_getElem? ho)
    have key := hy listed inv hi m F w a hr.inv (fun t _ => hr.fr t) (wpAny P .any ops (Post N Q m F (σof σ0 σ1 p listed) w) (f + k2) (listed.setIfInBounds i true)) (Post N Q m F (σof σ0 σ1 p listed) w) (fun x m' F' w' hi' hst hx => by
      have hr0 : RelF N m' F' g (σof σ0 σ1 p (listed.setIfInBounds i true)) a w' := ⟨hi', fun t => (hr.fr t).step hr.inv hst, hr.size, hr.defers⟩
      have hr1 := hr0.put (dst_lt hdo) hx
      have := wpAny_of_absT hd hL f _ _ (inv.set hi hin) hrest m' F' _ w' hr1
      exact wpAny_post_mono (fun e a1 w1 hp => hp.trans hr.inv hr1.inv hst) _ _ _ _ this)
    split
    · rename_i hw; rw [if_pos hw] at key; exact .inl key
    · rename_i hw; rw [if_neg hw] at key; exact key
/-- A region that draws, with one operation in its head that turns objects. -/
theorem aw_drawT {id : Nat} {l : List Oper} {fr fr' : Fr} (n p : Nat) (hp : p < n) (hm : P.follows .mixedOrders = true) (hB : Region.lexTailB .any l.toArray n = true) (hd : l.toArray.all (dstOk N) = true) (h : TSteps P l.toArray σ0 σ1 p 0 (l.take n) fr fr') (k : AList P N l.toArray Q (l.drop n) ⟨fr', σ1⟩) : AWp P N (.region id l.toArray true) Q ⟨fr, σ0⟩ := by
  intro m F a w hr
  simp only [Region.lexTailB, Bool.and_eq_true, decide_eq_true_eq] at hB
  obtain ⟨⟨⟨⟨hsel, hn⟩, hs⟩, hc⟩, hlex⟩ := hB
  have hn' : n < l.length := by simpa using hn
  have htl : (l.take n).length = n := by simp; omega
  have hdl : (l.drop n).length = l.toArray.size - n := by simp
  have inv0 : HeadInv .any l.toArray n (Array.replicate l.toArray.size false) :=
    ⟨by simp, fun j oj _ hl => (by rw [getD_replicate_false] at hl; cases hl), fun t _ ht => getD_in (by simpa using ht) (getD_replicate_false _ _)⟩
  have H := absT_lex (P := P) (σ0 := σ0) (σ1 := σ1) (p := p) (ops := l.toArray) (k2 := l.toArray.size - n) (L := fun g => g = fr'.get) hs hc hn hp (l.take n) 0 _ fr fr' (fun j hj => by
    have hj' : j < n := by rw [htl] at hj; exact hj
    simp [hj']) (by simpa using htl) inv0 (by rw [htl]; exact hlex) h rfl (by rw [getD_replicate_false]; simp)
  refine wp_region_any hm ?_
  have hg : Grow F w F { w with drawn := w.drawn + 1 } := Grow.drew F w
  have e0 : σof σ0 σ1 p (Array.replicate l.toArray.size false) = σ0 := by simp only [σof, getD_replicate_false]; rfl
  have hr1 : RelF N m F fr.get (σof σ0 σ1 p (Array.replicate l.toArray.size false)) a { w with drawn := w.drawn + 1 } := by rw [e0]; exact ⟨hr.inv.grow hg, fun t => (hr.fr t).grow hr.inv hg, hr.size, hr.defers⟩
  have := wpAny_of_absT (Q := Q) (k2 := l.toArray.size - n) hd (fun listed g hL m F a w hr => by
    obtain ⟨hL1, hL2, rfl⟩ := hL
    have e1 : σof σ0 σ1 p listed = σ1 := by simp only [σof, hL2]; rfl
    rw [e1] at hr ⊢
    have hk := k m F a w ⟨hr.inv, hr.fr, hr.size, hr.defers⟩
    have := wpAny_of_seq (md := .any) (l.drop n) n listed a w (fun j => by simp [List.getElem?_drop]) (by rw [hdl]; exact hL1) hk
    rwa [hdl] at this) _ _ _ inv0 H m F a _ hr1
  rw [htl, show n + (l.toArray.size - n) = l.toArray.size by omega, e0] at this
  have hr2 := hr1.inv
  rw [e0] at hr2
  exact wpAny_post_mono (fun e a1 w1 hp => hp.trans hr.inv hr2 hg.step) _ _ _ _ this
end
section
variable {P : Program} {N : Nat} {Q : AE → St → Prop} {ops : Array Oper} {rest tail : List Oper} {σ σ' σ0 σ1 : List AObj} {fr : Fr} {p k : Nat}
variable {d : Nat} {ty : TypeId} {pos : String} {aft : Array Edge} {v : AV} {α : Type}
/-! ### Operations that turn objects, each by itself -/
def SStep (P : Program) (σ : List AObj) (fr : Fr) (o : Oper) (v : AV) (σ' : List AObj) : Prop :=
  ∀ m F w (a : Act), Inv m F σ w → (∀ t, (.tmp t : Operand) ∈ o.op.operands → RV m w F (fr.get t) (a.tmps.getD t undef)) →
    ∀ K Q, (∀ x m' F' w', Inv m' F' σ' w' → Step m F σ w m' F' σ' w' → RV m' w' F' v x → K (a.put o.dst x) w') → o.wp P a w K Q
theorem s_of {o : Oper} (h : ∀ m F w (a : Act), Inv m F σ w → (∀ x, x ∈ o.op.operands → goodConst x = true → RV m w F (ev fr x) (a.eval x)) →
    ∃ x m' F' w', (execOp a.eval o).run P w = .ok (.value x) w' ∧ Inv m' F' σ' w' ∧ Step m F σ w m' F' σ' w' ∧ RV m' w' F' v x) : SStep P σ fr o v σ' := by
  intro m F w a i hs K Q hK
  obtain ⟨x, m', F', w', h1, h2, h3, h4⟩ := h m F w a i (fun x hx hg => ev_rv hg fun t e => by subst e; exact hs t hx)
  unfold Oper.wp
  rw [h1]
  exact hK x m' F' w' h2 h3 h4
theorem SStep.w {o : Oper} (hg : o.guard = none) (h : SStep P σ fr o v σ') : WStep P ops σ fr.get o v σ' := by
  intro m F w a i hs K Q hK
  rw [if_pos (by simp [Region.wanted, hg])]
  exact h m F w a i (fun t ht => hs t (List.mem_append_left _ (List.mem_filterMap.2 ⟨.tmp t, by simpa using ht, rfl⟩))) K Q hK
theorem s_append {t e : TypeId} {sz by' : Nat} {z : Value} {x y : Operand} {id n : Nat} {l ys new : List (List PV)} [TSl P t e sz by'] [TZ P e z] (hx : ev fr x = .c (.ms id n)) (ho : σ[id]? = some (.arr e sz l)) (hn : n ≤ l.length) (hy : ev fr y = .c (.p (.sl sz ys)))
    (hb : (n + ys.length) * by' ≤ 140737488355328) (hzs : z.cells.size = sz) (hnew : l.take n ++ ys = new) : SStep P σ fr ⟨some d, .call { callee := .builtin .append, args := #[x, y], argTypes := #[t, t] }, ty, pos, aft, none⟩ (.c (.ms σ.length new.length)) (σ.set id .dead ++ [.arr e sz new]) := by
  refine s_of (fun m F w a i hs => ?_)
  have h1 := hs x (by simp [Op.operands, Call.operands]) (good_of_nl hx (by simp))
  have h2 := hs y (by simp [Op.operands, Call.operands]) (good_of_nl hy (by simp))
  rw [hx] at h1; rw [hy] at h2
  obtain ⟨A, cap, hm, hcap, hv⟩ := rv_ms h1
  obtain ⟨B, bc, hu, hbc, hys, hmem⟩ := rv_sl h2
  obtain ⟨xs, e1, e2, e3⟩ := i.obj id _ _ ho hm
  have e1' := ownsRow_take e1 hn
  obtain ⟨inf, hinf, hsize, hbytes⟩ := TSl.inf (P := P) (t := t) (e := e) (sz := sz) (bytes := by')
  have hpos := TSl.pos (P := P) (t := t) (e := e) (sz := sz) (bytes := by')
  have hund := TSl.und (P := P) (t := t) (e := e) (sz := sz) (bytes := by')
  obtain ⟨inf', hinf', hz⟩ := TZ.inf (P := P) (t := e) (z := z)
  rw [hinf] at hinf'; injection hinf' with hinf'; subst hinf'
  have hlen : n + ys.length ≤ 140737488355328 := Nat.le_trans (Nat.le_mul_of_pos_right _ hpos.2) hb
  have hmax : n + ys.length ≤ maxLen := by simp only [maxLen]; omega
  have hrun : ∃ v' w', (Builtin.append_ #[t, t] ty #[rowV A n cap, .slice B ys.length bc]).run P w = .ok v' w' ∧ w.grownBy w' A ∧ (v'.ownBlock = A ∨ v'.ownBlock = some w.heap.size) ∧ ∃ news : List Value, news.length = ys.length * sz ∧ w'.ownsRow 0 e sz v' (n + ys.length) (xs.take (n * sz) ++ news) ∧ ∀ i e, ys[i]? = some e → ∀ j x, e[j]? = some x → RP w F x (news.getD (i * sz + j) undef) := by
    have hob : (rowV A n cap).ownBlock = A := by cases A <;> rfl
    cases ys with
    | nil =>
      refine ⟨_, w, run_append_nilsrc w t ty e inf sz hund hinf _ n _ e1' B bc, ⟨rfl, rfl, rfl, Nat.le_refl _, fun _ _ _ => rfl⟩, .inl hob, [], by simp, by simpa using e1', fun i e h => by simp at h⟩
    | cons y0 ys0 =>
      obtain ⟨b, o, us, hB, hF, hw, hr⟩ := hmem (by simp)
      subst hB
      let news : List Value := (List.range ((y0 :: ys0).length * sz)).map us
      have hnl : news.length = (y0 :: ys0).length * sz := by simp [news]
      have hng : ∀ j, j < (y0 :: ys0).length * sz → news[j]? = some (us j) := fun j hj => by simp only [news, List.getElem?_map]; rw [List.getElem?_range hj]; rfl
      obtain ⟨v', w', r1, r2, r3, _, r5⟩ := run_append_own_at (P := P) w 0 t ty e inf z sz by' hund hinf hz hsize hbytes hzs hpos.1 (rowV A n cap) n _ e1' ⟨b, o, none⟩ (y0 :: ys0).length bc news hnl
        (fun j u hj => by
          have hlt : j < (y0 :: ys0).length * sz := by rw [← hnl]; exact (List.getElem?_eq_some_iff.1 hj).1
          rw [hng j hlt] at hj
          injection hj with hj
          rw [add_plain', hw j hlt, hj])
        (fun u hu => by
          obtain ⟨j, hj, rfl⟩ := List.mem_map.1 hu
          have hj := List.mem_range.1 hj
          obtain ⟨x, hx⟩ : ∃ x, (y0 :: ys0).flatten[j]? = some x := ⟨_, List.getElem?_eq_getElem (by rw [flatten_len _ hys]; exact hj)⟩
          obtain ⟨i', e', j', a1, a2, a3, _⟩ := flatten_from _ hys j x hx
          subst a3
          exact RP.one (hr i' e' a1 j' x a2)) hmax hb (Nat.zero_le _)
      rw [hob] at r3 r5
      refine ⟨v', w', r1, r3, r5, news, hnl, r2, fun i e he j x hx => ?_⟩
      have hlt := elt_lt hys he (j := j) (List.getElem?_eq_some_iff.1 hx).1
      rw [List.getD_eq_getElem?_getD, hng _ hlt]
      exact hr i e he j x hx
  obtain ⟨v', w', r1, r2, r3, news, r4, r5, r6⟩ := hrun
  obtain ⟨A', cap', hv', hcap', hob'⟩ := ownsRow_form r5
  subst hv'
  rw [hob'] at r3
  have hnl : new.length = n + ys.length := by rw [← hnew]; simp; omega
  have hnsz : ∀ e ∈ new, e.length = sz := fun e he => by
    rw [← hnew] at he
    rcases List.mem_append.1 he with he | he
    · exact e2 e (List.mem_of_mem_take he)
    · exact hys e he
  obtain ⟨g1, g2⟩ := inv_move (o2 := .arr e sz new) (l2 := .row A' cap') i ho hm r2.size ⟨r2.os, r2.tape, r2.output⟩ (fun b k k' h => h)
    (fun b hb hn => r2.block b hb (fun he => hn 0 he.symm))
    (fun b k hf => by
      have hf : A' = some b := hf
      rcases r3 with h | h
      · exact .inl (show A = some b by rw [← h]; exact hf)
      · rw [hf] at h; injection h with h; subst h
        refine .inr ⟨Nat.le_refl _, ?_⟩
        exact (r5.lt w.heap.size (by rw [hob', hf])).2)
    (fun hRP => by
      refine ⟨_, by rw [hnl]; exact r5, hnsz, fun q el hq j x hx => ?_⟩
      have hxl : (xs.take (n * sz)).length = n * sz := by
        rw [List.length_take, e1.1]
        have : n * sz ≤ l.length * sz := Nat.mul_le_mul_right _ hn
        omega
      have hels : el.length = sz := hnsz el (List.mem_of_getElem? hq)
      have hjl : j < sz := by rw [← hels]; exact (List.getElem?_eq_some_iff.1 hx).1
      rw [← hnew] at hq
      rw [List.getD_eq_getElem?_getD]
      rcases Nat.lt_or_ge q n with hqn | hqn
      · rw [List.getElem?_append_left (by simp; omega), List.getElem?_take, if_pos hqn] at hq
        have hlt : q * sz + j < n * sz := by
          have : q * sz + sz ≤ n * sz := by rw [← Nat.succ_mul]; exact Nat.mul_le_mul_right _ hqn
          omega
        rw [List.getElem?_append_left (by omega), List.getElem?_take, if_pos hlt]
        have := hRP _ _ (e3 q el hq j x hx)
        rwa [List.getD_eq_getElem?_getD] at this
      · have htl : (l.take n).length = n := by simp; omega
        rw [List.getElem?_append_right (by omega), htl] at hq
        have e0 : q * sz + j - n * sz = (q - n) * sz + j := by
          have : q * sz = (q - n) * sz + n * sz := by rw [← Nat.add_mul]; congr 1; omega
          omega
        have hge : n * sz ≤ q * sz + j := by
          have : n * sz ≤ q * sz := Nat.mul_le_mul_right _ hqn
          omega
        rw [List.getElem?_append_right (by omega), hxl, e0]
        have := hRP _ _ (r6 _ el hq j x hx)
        rwa [List.getD_eq_getElem?_getD] at this)
  refine ⟨rowV A' (n + ys.length) cap', _, F, w', ?_, g1, g2, A', cap', by rw [← i.len]; simp, by omega, by rw [hnl]⟩
  simp only [execOp, resolve, invoke, builtin, Sem.run_bind, Sem.run_pure, Result.andThen_ok, List.map_toArray, List.map_cons, List.map_nil, hv, hu, r1]
theorem s_call {f : FuncId} [TFn P f] {y : Operand} {xs : Array Operand} {ts : Array TypeId} {cargs : List AV} {σc σo : List AObj} {rv : AV} (ρl : List (Nat × Nat))
    (hy : ev fr y = .c (.p (.lit (.func (.func f) #[] #[])))) (h : ACalls P f cargs σc (fun r σ' => r = .ret rv ∧ ∃ gb, σ' = σo ++ gb)) (hx : xs.toList.map (ev fr) = cargs.map (renV (ren1 ρl)))
    (hok : cargs.all (okV ρl.length) = true) (hl : ρl.length = σc.length) (hnd : (ρl.map (·.1)).Nodup) (hp : ∀ (k : Nat) id off oc, ρl[k]? = some (id, off) → σc[k]? = some oc → ∃ o, σ[id]? = some o ∧ passO (ren1 ρl) ρl.length o off oc)
    (hb : okBack σo.length σc σo = true ∧ okV σo.length rv = true) (hg : xs.toList.all goodConst = true) :
    SStep P σ fr ⟨some d, .call { callee := .value y, args := xs, argTypes := ts }, ty, pos, aft, none⟩ (renV (ren2 ρl σ.length) rv) (back (ren2 ρl σ.length) σ ρl σo) := by
  intro m F w a i hs K Q hK
  have hs' : ∀ x, x ∈ xs → goodConst x = true → RV m w F (ev fr x) (a.eval x) := fun x hx hc => ev_rv hc fun t e => by subst e; exact hs t (by simp [Op.operands, Call.operands, hx])
  have hf : a.eval y = .func (.func f) #[] #[] := by
    have := ev_rv (fr := fr) (m := m) (w := w) (F := F) (a := a) (good_of_lit hy) (fun t e => by subst e; exact hs t (by simp [Op.operands, Call.operands]))
    rw [hy] at this
    exact RP.eq_lit this
  obtain ⟨h1, h2⟩ := callArgs hx hs' hg
  obtain ⟨mc, c1, c2, c3, c4⟩ := inv_in i hl hnd hp
  refine wp_callFn hf ((h mc F w _ c3 (by rw [h1]; simp) (fun j z hj => ?_)).mono fun e w' he => ?_)
  · exact rv_unren c2 (List.all_eq_true.1 hok z (List.mem_of_getElem? hj)) (h2 j (renV (ren1 ρl) z) (by rw [List.getElem?_map, hj]; rfl))
  · obtain ⟨m', F', σ', r, ⟨rfl, gb, rfl⟩, hre, hi, hst⟩ := he
    obtain ⟨k2, rfl⟩ := hst.ext
    obtain ⟨b1, b2⟩ := hb
    obtain ⟨g1, g2, g3⟩ := inv_out i hl hnd c1 c2 c3 c4 hp b1 hi hst
    cases e with
    | panicked ch => exact hre.elim
    | outgrown => exact hre.elim
    | returned u =>
      have hv : RV ((mc ++ k2).take σo.length) w' F' rv u := by
        refine rv_unren (ρ := fun k => (k, 0)) (n := σo.length) (m := mc ++ k2) (fun k hk => ?_) b2 ?_
        · have hlt : k < (mc ++ k2).length := by have := hi.len; rw [this]; simp; omega
          refine ⟨(mc ++ k2)[k], List.getElem?_eq_getElem hlt, ?_⟩
          rw [List.getElem?_take, if_pos hk, List.getElem?_eq_getElem hlt]
          cases (mc ++ k2)[k] <;> simp [shift]
        · have : renV (fun k => (k, 0)) rv = rv := by
            have hc : ∀ c, renC (fun k => (k, 0)) c = c := fun c => by cases c <;> simp [renC]
            have hc' : renC (fun k => (k, 0)) = id := funext hc
            have h0 : ∀ z, renV0 (fun k => (k, 0)) z = z := fun z => by cases z <;> simp [renV0, hc, hc']
            have h0' : renV0 (fun k => (k, 0)) = id := funext h0
            cases rv <;> simp [renV, hc, hc', h0']
          rw [this]; exact hre
      exact hK u _ F' w' g2 g3 (rv_ren g1 hv)
/-! ### The walk through such a head -/
def DT (P : Program) (N : Nat) (ops : Array Oper) (Q : AE → St → Prop) (σ0 σ1 : List AObj) (p : Nat) (tail : List Oper) (k : Nat) (head : List Oper) (fr : Fr) : Prop := ∃ fr', TSteps P ops σ0 σ1 p k head fr fr' ∧ AList P N ops Q tail ⟨fr', σ1⟩
theorem aw_dt {id : Nat} {l : List Oper} (n p : Nat) (σ1 : List AObj) (hm : P.follows .mixedOrders = true) (h : DT P N l.toArray Q σ0 σ1 p (l.drop n) 0 (l.take n) fr) (hp : Nat.blt p n = true := by rfl) (hB : Region.lexTailB .any l.toArray n = true := by kernel_rfl) (hd : l.toArray.all (dstOk N) = true := by kernel_rfl) : AWp P N (.region id l.toArray true) Q ⟨fr, σ0⟩ := by
  obtain ⟨fr', h1, h2⟩ := h
  exact aw_drawT n p (blt_lt hp) hm hB hd h1 h2
theorem dt_nil (h : AList P N ops Q tail ⟨fr, σ1⟩) : DT P N ops Q σ0 σ1 p tail k [] fr := ⟨fr, .nil, h⟩
/-- Ahead of the turning operation, which waits for it. -/
theorem dt_pre {op : Op} (h : RStep P σ0 fr ⟨some d, op, ty, pos, aft, none⟩ v) (hb : reachB ops ops.size p k = true) (t : DT P N ops Q σ0 σ1 p tail (k + 1) rest ((d, v) :: fr)) (hk : Nat.blt k p = true := by rfl) : DT P N ops Q σ0 σ1 p tail k (⟨some d, op, ty, pos, aft, none⟩ :: rest) fr := by
  obtain ⟨fr', h1, h2⟩ := t
  exact ⟨fr', .pre (blt_lt hk) (.of rfl h) (.inl hb) h1, h2⟩
theorem dt_pre2 {op : Op} (h : RStep P σ0 fr ⟨some d, op, ty, pos, aft, none⟩ v) (h' : RStep P σ1 fr ⟨some d, op, ty, pos, aft, none⟩ v) (t : DT P N ops Q σ0 σ1 p tail (k + 1) rest ((d, v) :: fr)) (hk : Nat.blt k p = true := by rfl) : DT P N ops Q σ0 σ1 p tail k (⟨some d, op, ty, pos, aft, none⟩ :: rest) fr := by
  obtain ⟨fr', h1, h2⟩ := t
  exact ⟨fr', .pre (blt_lt hk) (.of rfl h) (.inr (.of rfl h')) h1, h2⟩
theorem dt_turn {op : Op} (h : SStep P σ0 fr ⟨some d, op, ty, pos, aft, none⟩ v σ1) (t : DT P N ops Q σ0 σ1 p tail (k + 1) rest ((d, v) :: fr)) (hk : Nat.beq k p = true := by rfl) : DT P N ops Q σ0 σ1 p tail k (⟨some d, op, ty, pos, aft, none⟩ :: rest) fr := by
  obtain ⟨fr', h1, h2⟩ := t
  exact ⟨fr', .turn (Nat.eq_of_beq_eq_true hk) (h.w rfl) h1, h2⟩
/-- One element is appended, in such a head. -/
theorem t_app1 {t e : TypeId} {sz by' : Nat} {z : Value} {x y : Operand} {id n m : Nat} {f : α → List PV} {xs : List α} (el : α) [TSl P t e sz by'] [TZ P e z] (hx : ev fr x = .c (.ms id n) := by exact rfl) (ho : σ[id]? = some (.arr e sz (xs.map f)) := by first | exact rfl | exact getG0 (by assumption) rfl | exact getG (by assumption) rfl | exact getGP (by assumption) rfl rfl | exact getL (getG0 (by assumption) rfl) | exact getL (getG (by assumption) rfl)) (hn : n ≤ xs.length := by first | exact Nat.le_refl _ | omega | (simp; done)) (hy : ev fr y = .c (.p (.sl sz [f el])) := by exact rfl) (hb : (n + 1) * by' ≤ 140737488355328 := by omega)
    (hm : σ.length = m := by first | exact lenG0 (by assumption) (by conv => lhs; simp only [List.length_cons, List.length_nil, Nat.zero_add, Nat.reduceAdd]) | exact lenG (by assumption) (by conv => lhs; simp only [List.length_cons, List.length_nil, Nat.zero_add, Nat.reduceAdd]) | exact lenGP (by assumption) (by conv => lhs; simp only [List.length_cons, List.length_nil, Nat.zero_add, Nat.reduceAdd]) rfl | (conv => lhs; simp only [List.length_append, List.length_cons, List.length_nil, Nat.zero_add, Nat.reduceAdd])) (hzs : z.cells.size = sz := by rfl) (hσ : σ.set id .dead ++ [.arr e sz ((xs.take n ++ [el]).map f)] = σ' := by first | exact snocG0 (by assumption) (by conv => lhs; simp only [List.set, List.cons_append, List.nil_append]) (by conv => lhs; simp only [List.set, List.cons_append, List.nil_append]) | exact snocG (by assumption) (by conv => lhs; simp only [List.set, List.cons_append, List.nil_append]) (by conv => lhs; simp only [List.set, List.cons_append, List.nil_append]) | exact snocGP (by assumption) (by conv => lhs; simp only [List.set, List.cons_append, List.nil_append]) (by conv => lhs; simp only [List.set, List.cons_append, List.nil_append]) rfl | (conv => lhs; simp only [List.set, List.cons_append, List.nil_append])) :
    SStep P σ fr ⟨some d, .call { callee := .builtin .append, args := #[x, y], argTypes := #[t, t] }, ty, pos, aft, none⟩ (.c (.ms m (n + 1))) σ' := by
  have hnew : (xs.map f).take n ++ [f el] = (xs.take n ++ [el]).map f := by simp
  have hlen : ((xs.take n ++ [el]).map f).length = n + 1 := by simp; omega
  subst hm
  subst hσ
  have := s_append (P := P) (σ := σ) (fr := fr) (d := d) (ty := ty) (pos := pos) (aft := aft) (t := t) (n := n) (new := (xs.take n ++ [el]).map f) hx ho (by simpa using hn) hy hb hzs hnew
  rw [hlen] at this
  exact this
/-- A call that is handed one variable, in such a head. -/
theorem t_callC {f : FuncId} [TFn P f] {y : Operand} {xs : Array Operand} {ts : Array TypeId} {cargs : List AV} {lc lo : List PV} {rv : AV} {id off : Nat} {L : List C}
    (h : ACalls P f cargs [.cells (lc.map .p)] (fun r σ' => r = .ret rv ∧ ∃ gb, σ' = .cells (lo.map .p) :: gb)) (hlen : lo.length = lc.length := by rfl) (hv : pureV rv = true := by rfl)
    (hy : ev fr y = .c (.p (.lit (.func (.func f) #[] #[]))) := by exact rfl) (hx : xs.toList.map (ev fr) = cargs.map (renV (ren1 [(id, off)])) := by (try simp only [↓ev, litAV, ↓Fr.get, ↓reduceIte, Nat.reduceEqDiff, List.map]) <;> rfl) (hok : cargs.all (okV 1) = true := by rfl) (ho : σ[id]? = some (.cells L) := by first | exact rfl | exact getG0 (by assumption) rfl | exact getG (by assumption) rfl | exact getGP (by assumption) rfl rfl | exact getL (getG0 (by assumption) rfl) | exact getL (getG (by assumption) rfl)) (hL : (L.drop off).take lc.length = lc.map .p := by exact rfl) (hle : Nat.ble (off + lc.length) L.length = true := by rfl) (hσ : σ.set id (.cells (lay L off (lo.map .p))) = σ' := by first | exact setG0 (by assumption) (by conv => lhs; simp only [List.set, List.cons_append, List.nil_append]) | exact setG (by assumption) (by conv => lhs; simp only [List.set, List.cons_append, List.nil_append]) | exact setGP (by assumption) (by conv => lhs; simp only [List.set, List.cons_append, List.nil_append]) rfl | exact setP rfl (by conv => lhs; simp only [List.set, List.cons_append, List.nil_append]) | (conv => lhs; simp only [List.set, List.cons_append, List.nil_append]))
    (hg : xs.toList.all goodConst = true := by rfl) :
    SStep P σ fr ⟨some d, .call { callee := .value y, args := xs, argTypes := ts }, ty, pos, aft, none⟩ rv σ' := by
  subst hσ
  have hren : ∀ (ρ : Ren) (q : List PV), (q.map C.p).map (renC ρ) = q.map C.p := fun ρ q => by simp [renC, Function.comp_def]
  have hokl : ∀ (n : Nat) (q : List PV), (q.map C.p).all (okC n) = true := fun n q => by simp [okC]
  have key := s_call (P := P) (σ := σ) (fr := fr) (d := d) (ty := ty) (pos := pos) (aft := aft) (ts := ts) (σo := [.cells (lo.map .p)]) (σc := [.cells (lc.map .p)]) (cargs := cargs) (rv := rv) [(id, off)] hy (h.mono fun r σ' ⟨h1, gb, h2⟩ => ⟨h1, gb, by simp [h2]⟩) hx hok rfl (by simp) (fun k id' off' oc h1 h2 => by
    cases k with
    | zero =>
      simp at h1 h2
      obtain ⟨rfl, rfl⟩ := h1; subst h2
      exact ⟨_, ho, _, rfl, by simpa using Nat.le_of_ble_eq_true hle, by rw [hren]; simpa using hL, hokl _ _⟩
    | succ k => simp at h1) ⟨by
      simp only [okBack, List.length_map, hlen, Bool.and_eq_true]
      exact ⟨⟨by simp, hokl _ _⟩, rfl⟩, okV_pure _ hv⟩ hg
  have hget : σ.getD id .dead = .cells L := by rw [List.getD_eq_getElem?_getD, ho]; rfl
  simp only [back, hget, backO, hren, List.map_nil, List.append_nil] at key
  rw [renV_pure _ hv] at key
  exact key
end
/-! ### A call that leans on something that stands in memory, and turns nothing -/
def GCalls (P : Program) (f : FuncId) (args : List AV) (φ : World → Prop) (v : AV) : Prop :=
  ∀ F w (vs : Array Value), φ w → vs.size = args.length → (∀ (j : Nat) x, args[j]? = some x → RV [] w F x (vs.getD j undef)) → Calls P f vs w (fun e w' => ∃ u, e = .returned u ∧ Grow F w F w' ∧ RV [] w' F v u)
theorem b_callG {P : Program} {σ : List AObj} {fr : Fr} {d : Option Nat} {ty : TypeId} {pos : String} {aft : Array Edge} {g : Option (Nat × Bool)} {f : FuncId} [TFn P f] {y : Operand} {xs : Array Operand} {ts : Array TypeId} {args : List AV} {φ : World → Prop} {v : AV} (h : GCalls P f args φ v) (hX : ∀ m F w, Inv m F σ w → φ w)
    (hy : ev fr y = .c (.p (.lit (.func (.func f) #[] #[]))) := by exact rfl) (hx : xs.toList.map (ev fr) = args := by (try simp only [↓ev, litAV, ↓Fr.get, ↓reduceIte, Nat.reduceEqDiff, List.map]) <;> rfl) (hp : args.all pureV = true := by rfl) (hv : pureV v = true := by rfl) (hg : xs.toList.all goodConst = true := by rfl) :
    RStep P σ fr ⟨d, .call { callee := .value y, args := xs, argTypes := ts }, ty, pos, aft, g⟩ v := by
  intro m F w a i hs K Q hK
  have hs' : ∀ x, x ∈ xs → goodConst x = true → RV m w F (ev fr x) (a.eval x) := fun x hx hc => ev_rv hc fun t e => by subst e; exact hs t (by simp [Op.operands, Call.operands, hx])
  have hf : a.eval y = .func (.func f) #[] #[] := by
    have := ev_rv (fr := fr) (m := m) (w := w) (F := F) (a := a) (good_of_lit hy) (fun t e => by subst e; exact hs t (by simp [Op.operands, Call.operands]))
    rw [hy] at this
    exact RP.eq_lit this
  obtain ⟨h1, h2⟩ := callArgs hx hs' hg
  refine wp_callFn hf ((h F w _ (hX m F w i) h1 (fun j y hj => rv_pure (List.all_eq_true.1 hp y (List.mem_of_getElem? hj)) (h2 j y hj))).mono fun e w' he => ?_)
  obtain ⟨u, rfl, hgr, hr⟩ := he
  exact hK u F w' hgr (rv_pure hv hr)
theorem ext_ok {X : XO} {σ : List AObj} {id : Nat} (h : σ[id]? = some (.ext X)) (m : List Loc) (F : Nat → Nat → Prop) (w : World) (i : Inv m F σ w) : ∃ l, X.ok w F l := by
  have hid : id < m.length := by rw [i.len]; exact (List.getElem?_eq_some_iff.1 h).1
  exact ⟨m[id], i.obj id _ _ h (List.getElem?_eq_getElem hid)⟩
end Go.AL
set_option linter.unusedVariables false
set_option linter.unusedSimpArgs false
namespace Go.AL
open Go.RowKit
/-- The array stays where it is. -/
def BIn (pe : List AObj) (p : Nat) (a : List PV) (n : Nat) (b : List PV) (e : TypeId) (sz : Nat) (l : List (List PV)) (σ' : List AObj) : Prop :=
  ∃ gb, σ' = (pe ++ [.cells (bC a (p + 0) n b), .arr e sz l]) ++ gb
section
variable {P : Program} {N : Nat} {Q : AE → St → Prop} {ops : Array Oper} {rest : List Oper} {σ σ' : List AObj} {fr : Fr}
variable {d : Nat} {ty : TypeId} {pos : String} {aft : Array Edge} {v : AV}
theorem t_callB2 {f : FuncId} [TFn P f] {y : Operand} {xs : Array Operand} {ts : Array TypeId} {cargs : List AV} {rv : AV} {a a' b b' : List PV} {n n' : Nat} {e : TypeId} {sz : Nat} {l l' : List (List PV)} {gg : List AObj} {M : Nat} {X : XO}
    (h : ACalls P f cargs [.ext X, .cells (bC a 2 n b), .arr e sz l] (fun r σ' => r = .ret rv ∧ BIn [.ext X] 2 a' n' b' e sz l' σ')) (hM : 2 + gg.length = M)
    (ha : a'.length = a.length := by rfl) (hb : b'.length = b.length := by rfl) (hv : pureV rv = true := by rfl)
    (hy : ev fr y = .c (.p (.lit (.func (.func f) #[] #[]))) := by exact rfl) (hx : xs.toList.map (ev fr) = cargs.map (renV (ren1 [(0, 0), (1, 0), (M + 0, 0)])) := by (try simp only [↓ev, litAV, ↓Fr.get, ↓reduceIte, Nat.reduceEqDiff, List.map]) <;> rfl) (hok : cargs.all (okV 3) = true := by rfl)
    (hg : xs.toList.all goodConst = true := by rfl) :
    SStep P ([.ext X, .cells (bC a (M + 0) n b)] ++ (gg ++ [.arr e sz l])) fr ⟨some d, .call { callee := .value y, args := xs, argTypes := ts }, ty, pos, aft, none⟩ rv ([.ext X, .cells (bC a' (M + 0) n' b')] ++ (gg ++ [.arr e sz l'])) := by
  subst hM
  have hlen : ([AObj.ext X, AObj.cells (bC a (2 + gg.length + 0) n b)] ++ (gg ++ [AObj.arr e sz l])).length = 2 + gg.length + 1 := by simp; omega
  have hnd : (([(0, 0), (1, 0), (2 + gg.length + 0, 0)] : List (Nat × Nat)).map (·.1)).Nodup := by
    simp; omega
  have hlast : ([AObj.ext X, AObj.cells (bC a (2 + gg.length + 0) n b)] ++ (gg ++ [AObj.arr e sz l]))[2 + gg.length]? = some (.arr e sz l) := by
    rw [← List.append_assoc, List.getElem?_append_right (by simp; omega)]
    have : 2 + gg.length - ([AObj.ext X, AObj.cells (bC a (2 + gg.length + 0) n b)] ++ gg).length = 0 := by simp; omega
    rw [this]; rfl
  have key := s_call (P := P) (σ := [.ext X, .cells (bC a (2 + gg.length + 0) n b)] ++ (gg ++ [.arr e sz l])) (fr := fr) (d := d) (ty := ty) (pos := pos) (aft := aft) (ts := ts) (σo := [.ext X, .cells (bC a' 2 n' b'), .arr e sz l']) (σc := [.ext X, .cells (bC a 2 n b), .arr e sz l]) (cargs := cargs) (rv := rv) [(0, 0), (1, 0), (2 + gg.length + 0, 0)] hy (h.mono fun r σ' ⟨h1, gb, h2⟩ => ⟨h1, gb, by simp [h2]⟩) hx hok rfl hnd (fun k id off oc h1 h2 => by
    match k with
    | 0 =>
      simp at h1 h2
      obtain ⟨rfl, rfl⟩ := h1; subst h2
      exact ⟨_, rfl, rfl, rfl⟩
    | 1 =>
      simp at h1 h2
      obtain ⟨rfl, rfl⟩ := h1; subst h2
      refine ⟨_, rfl, _, rfl, by simp [len_bC], ?_, ok_bC (by simp) _ _ _⟩
      rw [ren_bC]
      simp [ren1, len_bC]
      rw [List.take_of_length_le (by simp [len_bC])]
    | 2 =>
      simp at h1 h2
      obtain ⟨rfl, rfl⟩ := h1; subst h2
      exact ⟨_, hlast, rfl⟩
    | k + 3 => simp at h1) ⟨by
      have h1 : (bC a' 2 n' b').all (okC 3) = true := ok_bC (by simp) _ _ _
      have h2 : Nat.beq (bC a' 2 n' b').length (bC a 2 n b).length = true := by rw [len_bC, len_bC, ha, hb]; exact Nat.beq_refl _
      simp only [okBack, List.length_cons, List.length_nil] at h1 ⊢; rw [h1, h2]; rfl, okV_pure _ hv⟩ hg
  rw [hlen, renV_pure _ hv] at key
  have hren : (ren2 [(0, 0), (1, 0), (2 + gg.length + 0, 0)] (2 + gg.length + 1) 2).1 = 2 + gg.length := rfl
  have hb0 : backO (ren2 [(0, 0), (1, 0), (2 + gg.length + 0, 0)] (2 + gg.length + 1)) (.cells (bC a (2 + gg.length + 0) n b)) 0 (.cells (bC a' 2 n' b')) = .cells (bC a' (2 + gg.length) n' b') := by
    simp only [backO]
    rw [ren_bC, hren, lay_all (by rw [len_bC, len_bC, ha, hb])]
  have e2 : back (ren2 [(0, 0), (1, 0), (2 + gg.length + 0, 0)] (2 + gg.length + 1)) ([.ext X, .cells (bC a (2 + gg.length + 0) n b)] ++ (gg ++ [.arr e sz l])) [(0, 0), (1, 0), (2 + gg.length + 0, 0)] [.ext X, .cells (bC a' 2 n' b'), .arr e sz l'] = [.ext X, .cells (bC a' (2 + gg.length + 0) n' b')] ++ (gg ++ [.arr e sz l']) := by
    have s1 : ∀ o, ([AObj.ext X, AObj.cells (bC a' (2 + gg.length) n' b')] ++ (gg ++ [AObj.arr e sz l])).set (2 + gg.length + 0) o = [AObj.ext X, AObj.cells (bC a' (2 + gg.length) n' b')] ++ (gg ++ [o]) := fun o => by
      rw [← List.append_assoc, ← List.append_assoc, List.set_append_right _ _ (by simp; omega)]
      have : 2 + gg.length + 0 - ([AObj.ext X, AObj.cells (bC a' (2 + gg.length) n' b')] ++ gg).length = 0 := by simp; omega
      rw [this]; rfl
    have s0 : ([AObj.ext X, AObj.cells (bC a (2 + gg.length + 0) n b)] ++ (gg ++ [AObj.arr e sz l])).getD 1 .dead = .cells (bC a (2 + gg.length + 0) n b) := rfl
    have s2 : ([AObj.ext X, AObj.cells (bC a (2 + gg.length + 0) n b)] ++ (gg ++ [AObj.arr e sz l])).set 1 (.cells (bC a' (2 + gg.length) n' b')) = [AObj.ext X, AObj.cells (bC a' (2 + gg.length) n' b')] ++ (gg ++ [AObj.arr e sz l]) := rfl
    show back _ _ [(1, 0), (2 + gg.length + 0, 0)] [.cells (bC a' 2 n' b'), .arr e sz l'] = _
    rw [show ([AObj.ext X, AObj.cells (bC a (2 + gg.length + 0) n b)] ++ (gg ++ [AObj.arr e sz l])).set 0 (backO (ren2 [(0, 0), (1, 0), (2 + gg.length + 0, 0)] (2 + gg.length + 1)) (([AObj.ext X, AObj.cells (bC a (2 + gg.length + 0) n b)] ++ (gg ++ [AObj.arr e sz l])).getD 0 .dead) 0 (.ext X)) = [AObj.ext X, AObj.cells (bC a (2 + gg.length + 0) n b)] ++ (gg ++ [AObj.arr e sz l]) from rfl]
    rw [back, s0, hb0, s2]
    show back _ (List.set _ _ (backO _ _ _ (.arr e sz l'))) [] [] = _
    rw [backO_arr, s1]
    simp [back]
  rw [e2] at key
  exact key
theorem k_step {op : Op} (h : SStep P σ fr ⟨some d, op, ty, pos, aft, none⟩ v σ') (kont : AList P N ops Q rest ⟨(d, v) :: fr, σ'⟩) (hd : Nat.blt d N = true := by rfl) : AList P N ops Q (⟨some d, op, ty, pos, aft, none⟩ :: rest) ⟨fr, σ⟩ := by
  intro m F a w hr
  refine wpList_plain rfl fun K hK => ?_
  refine h m F w a hr.inv (fun t _ => hr.fr t) _ _ (fun x m' F' w' hi hst hx => ?_)
  have hr1 : Rel N m' F' ⟨fr, σ'⟩ a w' := ⟨hi, fun t => (hr.fr t).step hr.inv hst, hr.size, hr.defers⟩
  have hr2 := hr1.put (d := some d) (fun t ht => by injection ht with ht; subst ht; exact blt_lt hd) hx
  exact hK _ _ (wpList_post_mono (fun e a1 w1 hp => hp.trans hr.inv hi hst) _ _ _ (kont m' F' _ w' hr2))
/-- A nil slice told as a slice without elements. -/
theorem kw_nil {c : Code} (t sz : Nat) (k : AWp P N c Q ⟨(t, .c (.p (.sl sz []))) :: fr, σ⟩) (h : fr.get t = .c (.p (.lit (.slice none 0 0))) := by exact rfl) : AWp P N c Q ⟨fr, σ⟩ := by
  refine awp_of (s' := ⟨(t, .c (.p (.sl sz []))) :: fr, σ⟩) (fun m F a w hr => ⟨m, F, rel_over hr ?_, Step.refl ..⟩) k
  have hx := hr.fr t
  rw [h] at hx
  have e : RP w F _ _ := hx
  show RP w F (.sl sz []) _
  rw [RP.eq_lit e]
  exact RP.sl0 sz none 0
end
/-! ### Results that stand in variables -/
theorem retC1 {P : Program} {fn : Func} {R : CE → List AObj → Prop} {fr : Fr} {σ : List AObj} {c : Tmp} {t : TypeId} {agg : Bool} {sz id off : Nat} {ob : List C} {v : AV} [TV P t agg sz] (hr : fn.results = #[.cell c t]) (h : R (.ret v) σ) (hx : fr.get c = .c (.ptr id off) := by exact rfl) (ho : σ[id]? = some (.cells ob) := by first | exact rfl | exact getG0 (by assumption) rfl | exact getG (by assumption) rfl | exact getGP (by assumption) rfl rfl | exact getL (getG0 (by assumption) rfl) | exact getL (getG (by assumption) rfl)) (hl : loaded agg sz (ob.drop off) = some v := by first | rfl | (simp only [loaded, List.drop, List.take, List.map, List.length, if_true, if_false, Bool.false_eq_true]; rfl) | (simp [loaded]; done)) : retQ P fn R .ret ⟨fr, σ⟩ :=
  ⟨[v], by rw [hr]; exact .cons (.cell hx ho hl) .nil, h⟩
theorem retC2 {P : Program} {fn : Func} {R : CE → List AObj → Prop} {fr : Fr} {σ : List AObj} {c u : Tmp} {t : TypeId} {agg : Bool} {sz id off : Nat} {ob : List C} {v x : AV} [TV P t agg sz] (hr : fn.results = #[.cell c t, .tmp u]) (h : R (.ret (.tup [v, x])) σ) (hx : fr.get c = .c (.ptr id off) := by exact rfl) (ho : σ[id]? = some (.cells ob) := by first | exact rfl | exact getG0 (by assumption) rfl | exact getG (by assumption) rfl | exact getGP (by assumption) rfl rfl | exact getL (getG0 (by assumption) rfl) | exact getL (getG (by assumption) rfl)) (hl : loaded agg sz (ob.drop off) = some v := by first | rfl | (simp only [loaded, List.drop, List.take, List.map, List.length, if_true, if_false, Bool.false_eq_true]; rfl) | (simp [loaded]; done)) (hu : fr.get u = x := by conv => lhs; whnf) (hv : ∀ l, x ≠ .tup l := by intro l h; cases h) : retQ P fn R .ret ⟨fr, σ⟩ := by
  subst hu
  exact ⟨[v, fr.get u], by rw [hr]; exact .cons (.cell hx ho hl) (.cons (.tmp u hv) .nil), h⟩
end Go.AL
set_option linter.unusedVariables false
set_option linter.unusedSimpArgs false
namespace Go.AL
open Go.RowKit
theorem set_same {α : Type} {l : List α} {i : Nat} {x : α} (h : l[i]? = some x) : l.set i x = l := by
  obtain ⟨h1, h2⟩ := List.getElem?_eq_some_iff.1 h
  subst h2
  exact List.set_getElem_self h1
/-! ### 1. Copies -/
theorem run_copy_cellsN {P : Program} (w : World) (dT sT ty elem : TypeId) (b o dLen dCap : Nat) (a : Addr) (sLen sCap size : Nat) (cs : List Value)
    (hu : P.underlying dT = some (.slice elem)) (hs : (P.info? elem).map (·.size) = some size) (hn : cs.length = Nat.min sLen dLen * size)
    (hsrc : ∀ j v, cs[j]? = some v → w.cell? (a.add j) = some v) (hc : ∀ j, j < cs.length → (w.cell? ⟨b, o + j, none⟩).isSome = true) (hf : ∀ j, j < cs.length → w.frozen? ⟨b, o + j, none⟩ = false) (h1 : ∀ v ∈ cs, v.oneCell' = true) :
    (Builtin.copy_ #[dT, sT] ty #[.slice (some ⟨b, o, none⟩) dLen dCap, .slice (some a) sLen sCap]).run P w = .ok (goInt (Nat.min sLen dLen)) (w.setCells b o cs) := by
  have hl := run_loadCells_list (P := P) w a cs hsrc
  have hst := run_storeCells_cells (P := P) b o cs 0 w (by simpa using hc) (by simpa using hf) h1
  cases hq : P.info? elem with
  | none => simp [hq] at hs
  | some i =>
    have hi : i.size = size := by simpa [hq] using hs
    simp [Builtin.copy_, run_underlying hu, Builtin.lenOf, Builtin.firstCells, sizeOf, typeInfo, hq, hi, ← hn, hl, hst]
theorem run_copy_noneN {P : Program} (w : World) (dT sT ty elem : TypeId) (d a : Option Addr) (dLen dCap sLen sCap size : Nat) (hu : P.underlying dT = some (.slice elem)) (hs : (P.info? elem).map (·.size) = some size) (hn : Nat.min sLen dLen = 0) :
    (Builtin.copy_ #[dT, sT] ty #[.slice d dLen dCap, .slice a sLen sCap]).run P w = .ok (goInt 0) w := by
  cases hq : P.info? elem with
  | none => simp [hq] at hs
  | some i =>
    have hl : ∀ (x : Addr), (loadCells x 0).run P w = .ok #[] w := fun x => by simpa using run_loadCells_list (P := P) w x [] (by simp)
    cases d <;> cases a <;> simp [Builtin.copy_, run_underlying hu, Builtin.lenOf, Builtin.firstCells, sizeOf, typeInfo, hq, hn, storeCells, hl]
section
variable {P : Program} {N : Nat} {Q : AE → St → Prop} {ops : Array Oper} {rest : List Oper} {σ σ' : List AObj} {fr : Fr}
variable {d : Nat} {ty : TypeId} {pos : String} {aft : Array Edge} {v : AV}
theorem w_copy {t t' e : TypeId} {sz by' id n : Nat} {x y : Operand} {l ys : List (List PV)} [TSl P t e sz by'] (hx : ev fr x = .c (.ms id n)) (hy : ev fr y = .c (.p (.sl sz ys))) (ho : σ[id]? = some (.arr e sz l)) (hn : n ≤ l.length) (hle : ys.length ≤ n)
    (hσ : σ.set id (.arr e sz (ys ++ l.drop ys.length)) = σ') (k : AList P N ops Q rest ⟨(d, i64 ys.length) :: fr, σ'⟩) (hd : Nat.blt d N = true) :
    AList P N ops Q (⟨some d, .call { callee := .builtin .copy, args := #[x, y], argTypes := #[t, t'] }, ty, pos, aft, none⟩ :: rest) ⟨fr, σ⟩ := by
  subst hσ
  refine al_w (v := i64 ys.length) (σ' := σ.set id (AObj.arr e sz (ys ++ l.drop ys.length))) rfl hd (fun m F w a iv hs => ?_) k
  have hp := hs x (good_of_nl hx (by simp))
  rw [hx] at hp
  have hq := hs y (good_of_nl hy (by simp))
  rw [hy] at hq
  obtain ⟨A, cap, hm, hcap, hv⟩ := rv_ms hp
  obtain ⟨B, bc, hu, hbc, hys, hmem⟩ := rv_sl hq
  obtain ⟨inf, hinf, hsize, hbytes⟩ := TSl.inf (P := P) (t := t) (e := e) (sz := sz) (bytes := by')
  have hund := TSl.und (P := P) (t := t) (e := e) (sz := sz) (bytes := by')
  have hsz' : (P.info? e).map (·.size) = some sz := by rw [hinf]; simp [hsize]
  have hmin : Nat.min ys.length n = ys.length := Nat.min_eq_left hle
  have hgo : ∀ w1, (Builtin.copy_ #[t, t'] ty #[a.eval x, a.eval y]).run P w = .ok (goInt ys.length) w1 → (execOp a.eval ⟨some d, .call { callee := .builtin .copy, args := #[x, y], argTypes := #[t, t'] }, ty, pos, aft, none⟩).run P w = .ok (.value (goInt ys.length)) w1 := fun w1 h => by
    simp [execOp, resolve, invoke, builtin, h, Result.andThen]
  by_cases h0 : ys = []
  · subst h0
    have hrun := run_copy_noneN (P := P) w t t' ty e (A.map fun b => (⟨b, 0, none⟩ : Addr)) B n cap 0 bc sz hund hsz' (by simp)
    have e1 : σ.set id (.arr e sz ([] ++ l.drop ([] : List (List PV)).length)) = σ := by
      simp only [List.length_nil, List.drop_zero, List.nil_append]
      exact set_same ho
    rw [e1]
    exact ⟨_, m, F, w, .inl (hgo _ (by rw [hv, hu]; exact hrun)), iv, Step.refl .., RP.lit rfl⟩
  · obtain ⟨b', o', us, hB, hF, hw, hr⟩ := hmem h0
    subst hB
    have hpos : 0 < ys.length := List.length_pos_iff.2 h0
    obtain ⟨b, rfl⟩ : ∃ b, A = some b := by
      cases A with
      | some b => exact ⟨b, rfl⟩
      | none =>
        obtain ⟨xs, x1, _⟩ := iv.obj id _ _ ho hm
        rcases x1.2 with ⟨_, h⟩ | ⟨g, c, cur, h, _⟩
        · omega
        · simp [rowV] at h
    obtain ⟨xs, x1, x2, x3⟩ := iv.obj id _ _ ho hm
    have hxl : xs.length = l.length * sz := x1.1
    let news : List Value := (List.range (ys.length * sz)).map us
    have hnl : news.length = ys.length * sz := by simp [news]
    have hng : ∀ j, j < ys.length * sz → news[j]? = some (us j) := fun j hj => by simp only [news, List.getElem?_map]; rw [List.getElem?_range hj]; rfl
    have hfit : ys.length * sz ≤ l.length * sz := Nat.mul_le_mul_right _ (by omega)
    have hone : ∀ u ∈ news, u.oneCell' = true := fun u hu => by
      obtain ⟨j, hj, rfl⟩ := List.mem_map.1 hu
      have hj := List.mem_range.1 hj
      obtain ⟨z, hz⟩ : ∃ z, ys.flatten[j]? = some z := ⟨_, List.getElem?_eq_getElem (by rw [flatten_len _ hys]; exact hj)⟩
      obtain ⟨i', e', j', a1, a2, a3, _⟩ := flatten_from _ hys j z hz
      subst a3
      exact RP.one (hr i' e' a1 j' z a2)
    obtain ⟨us0, hc0, _, _⟩ := arr_cells iv ho hm
    have hrun := run_copy_cellsN (P := P) w t t' ty e b 0 n cap ⟨b', o', none⟩ ys.length bc sz news hund hsz' (by rw [hmin, hnl])
      (fun j u hj => by
        have hlt : j < ys.length * sz := by rw [← hnl]; exact (List.getElem?_eq_some_iff.1 hj).1
        rw [hng j hlt] at hj
        injection hj with hj
        rw [add_plain', hw j hlt, hj])
      (fun j hj => by rw [Nat.zero_add, (hc0 j (by omega)).1]; rfl) (fun j hj => by rw [Nat.zero_add]; exact (hc0 j (by omega)).2) hone
    rw [hmin] at hrun
    obtain ⟨s1, s2, s3, s4, s5⟩ := heap_setCells b news 0 w
    obtain ⟨q1, q2⟩ := setAll_get news xs 0 (by omega)
    obtain ⟨h1, h2⟩ := inv_set (w' := w.setCells b 0 news) iv ho hm (o' := .arr e sz (ys ++ l.drop ys.length)) (fun b' k' => Iff.rfl) s1 ⟨s3, s4, s5⟩
      (fun b1 hb => by
        by_cases he : b1 = b
        · subst he; exact absurd rfl (hb 0)
        · exact s2 b1 he)
      (fun b1 k' hf => by
        have hne : b1 ≠ b := fun he => hf (by subst he; rfl)
        have := s2 b1 hne
        exact ⟨cell_of_heap this, frozen_of_heap this⟩)
      (fun hRC hRP => by
        have hown := ownsRow_setCells news 0 w xs x1
        have hl1 : (ys ++ l.drop ys.length).length = l.length := by simp; omega
        refine ⟨_, by rw [hl1]; exact hown, fun el he => ?_, fun i el he j z hz => ?_⟩
        · rcases List.mem_append.1 he with he | he
          · exact hys el he
          · exact x2 el (List.mem_of_mem_drop he)
        · rw [List.getD_eq_getElem?_getD, q2]
          by_cases hi : i < ys.length
          · rw [List.getElem?_append_left hi] at he
            have hlt := elt_lt hys he (j := j) (List.getElem?_eq_some_iff.1 hz).1
            rw [if_pos (by omega), Nat.sub_zero, hng _ hlt]
            exact hRP _ _ (hr i el he j z hz)
          · rw [List.getElem?_append_right (by omega), List.getElem?_drop, show ys.length + (i - ys.length) = i by omega] at he
            have hge : ys.length * sz ≤ i * sz := Nat.mul_le_mul_right _ (by omega)
            rw [if_neg (by omega)]
            have := hRP _ _ (x3 i el he j z hz)
            rwa [List.getD_eq_getElem?_getD] at this)
    exact ⟨_, m, F, _, .inl (hgo _ (by rw [hv, hu]; exact hrun)), h1, h2, RP.lit rfl⟩
theorem k_copy {α : Type} {f : α → List PV} {t t' e : TypeId} {sz by' id n : Nat} {x y : Operand} {xs ys : List α} [TSl P t e sz by'] (k : AList P N ops Q rest ⟨(d, i64 ys.length) :: fr, σ'⟩) (hx : ev fr x = .c (.ms id n) := by exact rfl) (hy : ev fr y = .c (.p (.sl sz (ys.map f))) := by exact rfl) (ho : σ[id]? = some (.arr e sz (xs.map f)) := by first | exact rfl | exact getG0 (by assumption) rfl | exact getG (by assumption) rfl | exact getGP (by assumption) rfl rfl | exact getL (getG0 (by assumption) rfl) | exact getL (getG (by assumption) rfl)) (hn : n ≤ xs.length := by first | omega | (simp; done) | (simp; omega)) (hle : ys.length ≤ n := by omega)
    (hσ : σ.set id (.arr e sz ((ys ++ xs.drop ys.length).map f)) = σ' := by first | exact setG0 (by assumption) (by conv => lhs; simp only [List.set, List.cons_append, List.nil_append]) | exact setG (by assumption) (by conv => lhs; simp only [List.set, List.cons_append, List.nil_append]) | exact setGP (by assumption) (by conv => lhs; simp only [List.set, List.cons_append, List.nil_append]) rfl | exact setP rfl (by conv => lhs; simp only [List.set, List.cons_append, List.nil_append]) | (conv => lhs; simp only [List.set, List.cons_append, List.nil_append])) (hd : Nat.blt d N = true := by rfl) :
    AList P N ops Q (⟨some d, .call { callee := .builtin .copy, args := #[x, y], argTypes := #[t, t'] }, ty, pos, aft, none⟩ :: rest) ⟨fr, σ⟩ := by
  refine w_copy hx hy ho (by simpa using hn) (by simpa using hle) ?_ (by simpa using k) hd
  rw [← hσ]; simp
end
/-! ### 2. Bits -/
theorem bits_and15 (n : Nat) (h : n ≤ 1000000) : bits .and .i64 n 15 = ((n % 16 : Nat) : Int) := by
  have h1 : (BitVec.ofInt 64 (n : Int)).toNat = n := by
    rw [BitVec.toNat_ofInt]
    have : ((n : Int) % ((2 ^ 64 : Nat) : Int)) = (n : Int) := Int.emod_eq_of_lt (by omega) (by omega)
    rw [this]; simp
  have h2 : (BitVec.ofInt 64 (15 : Int)).toNat = 15 := by decide
  have h3 : (BitVec.ofInt 64 (n : Int) &&& BitVec.ofInt 64 (15 : Int)).toNat = n % 16 := by
    rw [BitVec.toNat_and, h1, h2]
    exact Nat.and_two_pow_sub_one_eq_mod n 4
  show IntKind.i64.wrap ((BitVec.ofInt 64 (n : Int) &&& BitVec.ofInt 64 (15 : Int)).toNat : Int) = _
  rw [h3]
  exact wrap_in (by unfold InR; omega)
section
variable {P : Program} {σ : List AObj} {fr : Fr} {d : Option Nat} {ty : TypeId} {pos : String} {aft : Array Edge} {g : Option (Nat × Bool)}
theorem b_and15 {t t' : TypeId} {x : Operand} {n : Int} (hx : ev fr x = i64 n := by exact rfl) (h0 : 0 ≤ n := by omega) (h1 : n ≤ 1000000 := by omega) : RStep P σ fr ⟨d, .binOp .and t x (.const (.int .i64 15)) t', ty, pos, aft, g⟩ (i64 (n % 16)) :=
  r_bin hx rfl (fun w => by
    obtain ⟨m, rfl⟩ := Int.eq_ofNat_of_zero_le h0
    simp only [eqGuard, binOp_and, intBits_and]
    rw [bits_and15 m (by omega)]
    simp) rfl
theorem b_shrC {t t' : TypeId} {x : Operand} {n k : Int} (hx : ev fr x = i64 n := by exact rfl) (h0 : 0 ≤ k := by omega) (h1 : k ≤ 64 := by omega) : RStep P σ fr ⟨d, .binOp .shr t x (.const (.int .u64 k)) t', ty, pos, aft, g⟩ (i64 (n / 2 ^ k.toNat)) :=
  r_bin hx rfl (fun w => by simp [eqGuard, binOp, shift_shr_i64 _ _ _ h0 h1]) rfl
theorem b_buildB4 {t e : TypeId} {by' : Nat} {x0 x1 x2 x3 : Operand} {a b c f : Int} [TSl P t e 1 by'] [TZ P e (.int .u8 0)] (h0 : ev fr x0 = .c (.p (.lit (.int .u8 a))) := by exact rfl) (h1 : ev fr x1 = .c (.p (.lit (.int .u8 b))) := by exact rfl) (h2 : ev fr x2 = .c (.p (.lit (.int .u8 c))) := by exact rfl) (h3 : ev fr x3 = .c (.p (.lit (.int .u8 f))) := by exact rfl) (hg : (goodConst x0 && goodConst x1 && goodConst x2 && goodConst x3) = true := by rfl) :
    RStep P σ fr ⟨d, .buildSlice t 4 #[(0, x0), (1, x1), (2, x2), (3, x3)], ty, pos, aft, g⟩ (.c (.p (.sl 1 ([a, b, c, f].map fun z => [.lit (.int .u8 z)])))) := by
  simp only [Bool.and_eq_true] at hg
  refine r_buildSlice (n := 4) (l := [a, b, c, f].map fun z => [.lit (.int .u8 z)]) (z := .int .u8 0) rfl (by omega) (by simp [hg, h0, h1, h2, h3, sureV]; exact ⟨rfl, rfl, rfl, rfl⟩) ?_ rfl (by simp)
  simp only [List.map_cons, List.map_nil, h0, h1, h2, h3]
  rfl
end
end Go.AL
set_option linter.unusedVariables false
set_option linter.unusedSimpArgs false
namespace Go.AL
open Go.RowKit
section
variable {P : Program} {N : Nat} {Q : AE → St → Prop} {ops : Array Oper} {rest : List Oper} {σ σ' : List AObj} {fr : Fr}
variable {d : Nat} {ty : TypeId} {pos : String} {aft : Array Edge} {v : AV}
/-! ### 1. Laid anew -/
theorem w_buildSliceC {t e : TypeId} {sz by' n : Nat} {z : Value} {parts : Array (Nat × Operand)} {l : List (List C)} [TSl P t e sz by'] [TZ P e z] (hzs : z.cells.size = sz) (hsmall : n * sz ≤ 16777216)
    (hg : parts.toList.all (fun p => goodConst p.2 && sureV (ev fr p.2)) = true) (hf : fillA (fun i => some (i * sz, sz)) (List.replicate n (zC z)).flatten (parts.toList.map fun p => (p.1, ev fr p.2)) = some l.flatten) (hl : l.length = n) (hls : ∀ e ∈ l, e.length = sz)
    (hd : Nat.blt d N = true) (hσ : σ ++ [.arrC e sz l] = σ') (k : AList P N ops Q rest ⟨(d, .c (.ms σ.length n)) :: fr, σ'⟩) :
    AList P N ops Q (⟨some d, .buildSlice t n parts, ty, pos, aft, none⟩ :: rest) ⟨fr, σ⟩ := by
  subst hσ
  refine al_w (v := AV.c (C.ms σ.length n)) (σ' := σ ++ [AObj.arrC e sz l]) rfl hd (fun m F w a i hs => ?_) k
  obtain ⟨r, h1, h2, h3, h4⟩ := buildSlice_run (P := P) (t := t) (n := n) hzs hsmall hg hf (m := m) (F := F) (w := w) (a := a) (fun x hx hc => hs x hc)
  have hpos := TSl.pos (P := P) (t := t) (e := e) (sz := sz) (bytes := by')
  have hfl := flatten_len l hls
  have hn : n ≤ 16777216 := Nat.le_trans (Nat.le_mul_of_pos_right _ hpos.1) hsmall
  have hown := World.ownsRow_lit (base := 0) (e := e) (size := sz) w r n (Nat.zero_le _) (by simp only [maxLen]; omega) (by rw [h2, h4])
  obtain ⟨g1, g2⟩ := inv_new (o := AObj.arrC e sz l) (l := .row (some w.heap.size) n) i (grow_alloc F w (.cells r e))
    ⟨r.toList, by rw [hl]; exact hown, hls, fun q el hq j u hj => by
      have hfx := flatten_at l hls q el hq j u hj
      have := h3 (q * sz + j) u hfx
      have e1 : r.toList.getD (q * sz + j) undef = r.getD (q * sz + j) undef := by simp [List.getD_eq_getElem?_getD, Array.getD_eq_getD_getElem?]
      rw [e1]
      exact RC.mono (fun _ _ h => h) (fun b k hb => World.cell?_alloc_lt w _ _ (i.frz b k hb)) this⟩
    (fun b q hf => by
      have hf : some w.heap.size = some b := hf
      injection hf with hf
      subst hf
      exact ⟨Nat.le_refl _, by simp⟩)
  refine ⟨.slice (some ⟨w.heap.size, 0, none⟩) n n, _, F, _, .inl ?_, g1, g2, some w.heap.size, n, by rw [← i.len]; simp, Nat.le_refl _, rfl⟩
  simp only [execOp, Sem.run_bind, h1, Result.andThen_ok, Sem.run_pure]
/-! ### 2. Read -/
theorem arrC_cells {m : List Loc} {F : Nat → Nat → Prop} {w : World} (i : Inv m F σ w) {id : Nat} {e : TypeId} {sz : Nat} {l : List (List C)} {b cap : Nat} (ho : σ[id]? = some (.arrC e sz l)) (hm : m[id]? = some (.row (some b) cap)) :
    ∃ us : Nat → Value, (∀ j, j < l.length * sz → w.cell? ⟨b, j, none⟩ = some (us j) ∧ w.frozen? ⟨b, j, none⟩ = false) ∧ (∀ e ∈ l, e.length = sz) ∧ ∀ i e, l[i]? = some e → ∀ j x, e[j]? = some x → RC m w F x (us (i * sz + j)) := by
  obtain ⟨xs, h1, h2, h3⟩ := i.obj id _ _ ho hm
  have hlen : xs.length = l.length * sz := h1.1
  refine ⟨fun j => xs.getD j undef, fun j hj => ⟨?_, h1.frozenAt j⟩, h2, h3⟩
  have hcell : w.cell? ⟨b, j, none⟩ = xs[j]? := h1.cellAt j hj
  show _ = some (xs.getD j undef)
  rw [hcell, List.getD_eq_getElem?_getD, List.getElem?_eq_getElem (by omega)]
  rfl
theorem eltC_lt {sz : Nat} {l : List (List C)} {i : Nat} {el : List C} (h2 : ∀ e ∈ l, e.length = sz) (hel : l[i]? = some el) {j : Nat} (hj : j < el.length) : i * sz + j < l.length * sz := by
  have hlt : i < l.length := (List.getElem?_eq_some_iff.1 hel).1
  have hs := h2 el (List.mem_of_getElem? hel)
  have : i * sz + sz ≤ l.length * sz := by rw [← Nat.succ_mul]; exact Nat.mul_le_mul_right _ hlt
  omega
theorem b_loadEptC {dd : Option Nat} {g : Option (Nat × Bool)} {t e' : TypeId} {agg : Bool} {sz esz : Nat} {x : Operand} {id i off : Nat} {l : List (List C)} {el : List C} {v : AV} [TV P t agg sz] (ho : σ[id]? = some (.arrC e' esz l)) (hel : l[i]? = some el) (hx : ev fr x = .c (.ept id esz i off) := by exact rfl) (hl : loaded agg sz (el.drop off) = some v := by first | rfl | (simp only [loaded, List.drop, List.take, List.map, List.length, if_true, if_false, Bool.false_eq_true]; rfl) | (simp [loaded]; done)) :
    RStep P σ fr ⟨dd, .load t x, ty, pos, aft, g⟩ v :=
  rs_pure fun m F w a iv hs => by
    have h1 := hs x (by simp [Op.operands]) (good_of_nl hx (by simp))
    rw [hx] at h1
    obtain ⟨b, cap, hm, hv⟩ := rv_ept h1
    obtain ⟨us, hw, hsz, hr⟩ := arrC_cells iv ho hm
    obtain ⟨y, h2, h3⟩ := loaded_run (P := P) (t := t) (m := m) (w := w) (F := F) (b := b) (o := i * esz + off) (fun j => us (i * esz + off + j))
      (fun j hj => (hw _ (by
        have := eltC_lt hsz hel (j := off + j) (by simp at hj; omega)
        omega)).1) (fun j c hj => by
        rw [List.getElem?_drop] at hj
        have := hr i el hel (off + j) c hj
        rwa [← Nat.add_assoc] at this) hl
    exact ⟨y, by simp [execOp, hv, Instr.loadAt, Instr.sureAddr, h2], h3⟩
theorem b_indexMsC {dd : Option Nat} {g : Option (Nat × Bool)} {t e : TypeId} {sz by' : Nat} {x y : Operand} {id n : Nat} {k : IntKind} {j : Int} {e' : TypeId} {l : List (List C)} [TSl P t e sz by'] (ho : σ[id]? = some (.arrC e' sz l)) (hx : ev fr x = .c (.ms id n) := by exact rfl) (hy : ev fr y = .c (.p (.lit (.int k j))) := by exact rfl) (h0 : 0 ≤ j := by omega) (hj : j < n := by omega) : RStep P σ fr ⟨dd, .indexAddr t x y, ty, pos, aft, g⟩ (.c (.ept id sz j.toNat 0)) :=
  rs_pure fun m F w a i hs => by
    have h1 := hs x (by simp [Op.operands]) (good_of_nl hx (by simp))
    have h2 := hs y (by simp [Op.operands]) (good_of_lit hy)
    rw [hx] at h1; rw [hy] at h2
    obtain ⟨A, cap, hm, hcap, hv⟩ := rv_ms h1
    obtain ⟨i', hi, hsz', _⟩ := TSl.inf (P := P) (t := t) (e := e) (sz := sz) (bytes := by')
    have hob := i.obj id _ _ ho hm
    cases A with
    | none =>
      obtain ⟨xs, h3, _⟩ := hob
      exfalso
      have : n ≤ 0 := by
        rcases h3.2 with ⟨h4, h5⟩ | ⟨_, _, _, h4, _⟩
        · simp only [rowV, Option.map_none, Value.slice.injEq] at h4; omega
        · simp [rowV] at h4
      omega
    | some b =>
      refine ⟨.pointer (some ⟨b, j.toNat * sz + 0, none⟩), ?_, ⟨b, _, hm, rfl⟩⟩
      have hin : 0 ≤ j ∧ j < (n : Int) := ⟨h0, hj⟩
      simp [execOp, Instr.indexAt, hv, rowV, rv_lit h2, asIntOf, run_und (TSl.und (P := P) (t := t) (e := e) (sz := sz) (bytes := by')), hin, run_size hi, hsz', add_plain']
/-! ### 3. Written -/
theorem k_storeEptC {t e' : TypeId} {agg : Bool} {sz esz : Nat} {x z : Operand} {y : AV} {id i off : Nat} {l : List (List C)} {el el' : List C} [TV P t agg sz] (ho : σ[id]? = some (.arrC e' esz l)) (hel : l[i]? = some el) (k : AList P N ops Q rest ⟨fr, σ'⟩) (hx : ev fr x = .c (.ept id esz i off) := by exact rfl) (hy : ev fr z = y := by conv => lhs; whnf) (hsure : sureV y = true := by rfl) (hn : y.cells.length = sz := by rfl) (hle : off + sz ≤ el.length := by first | exact Nat.le_of_ble_eq_true rfl | (simp; done)) (hl : lay el off y.cells = el' := by rfl)
    (hσ : σ.set id (.arrC e' esz (l.set i el')) = σ' := by first | exact setG0 (by assumption) (by conv => lhs; simp only [List.set, List.cons_append, List.nil_append]) | exact setG (by assumption) (by conv => lhs; simp only [List.set, List.cons_append, List.nil_append]) | exact setGP (by assumption) (by conv => lhs; simp only [List.set, List.cons_append, List.nil_append]) rfl | exact setP rfl (by conv => lhs; simp only [List.set, List.cons_append, List.nil_append]) | (conv => lhs; simp only [List.set, List.cons_append, List.nil_append])) (hgc : goodConst z = true := by rfl) :
    AList P N ops Q (⟨none, .store t x z, ty, pos, aft, none⟩ :: rest) ⟨fr, σ⟩ := by
  subst hσ
  subst hl
  refine al_w (v := .c .any) (σ' := σ.set id (AObj.arrC e' esz (l.set i (lay el off y.cells)))) rfl rfl (fun m F w a iv hs => ?_) k
  have h := hs z hgc
  rw [hy] at h
  have hp := hs x (good_of_nl hx (by simp))
  rw [hx] at hp
  obtain ⟨b, cap, hm, hv⟩ := rv_ept hp
  have hpos := TV.pos (P := P) (t := t) (agg := agg) (sz := sz)
  obtain ⟨e1, e2⟩ := rv_cells h (by omega) (rv_one hsure h)
  obtain ⟨us, hw, hsz, hr⟩ := arrC_cells iv ho hm
  obtain ⟨xs, x1, x2, x3⟩ := iv.obj id _ _ ho hm
  have hin : ∀ j, j < sz → i * esz + off + j < l.length * esz := fun j hj => by
    have := eltC_lt hsz hel (j := off + j) (by omega)
    omega
  have hrun := storeVar_run (P := P) (t := t) (agg := agg) (sz := sz) (w := w) (b := b) (o := i * esz + off) (u := a.eval z) (by omega)
    (fun j hj => by rw [(hw _ (hin j hj)).1]; rfl) (fun j hj => (hw _ (hin j hj)).2) (rv_cells_one hsure h)
  obtain ⟨s1, s2, s3, s4, s5⟩ := heap_setCells b (a.eval z).cells.toList (i * esz + off) w
  have hxl : xs.length = l.length * esz := x1.1
  have helz : el.length = esz := hsz el (List.mem_of_getElem? hel)
  have hil : i < l.length := (List.getElem?_eq_some_iff.1 hel).1
  obtain ⟨q1, q2⟩ := setAll_get (a.eval z).cells.toList xs (i * esz + off) (by
    have := eltC_lt hsz hel (j := off + sz - 1) (by omega)
    simp only [Array.length_toList]; omega)
  obtain ⟨h1, h2⟩ := inv_set (w' := w.setCells b (i * esz + off) (a.eval z).cells.toList) iv ho hm (o' := .arrC e' esz (l.set i (lay el off y.cells))) (fun b' k' => Iff.rfl) s1 ⟨s3, s4, s5⟩
    (fun b' hb => by
      by_cases he : b' = b
      · subst he; exact absurd rfl (hb 0)
      · exact s2 b' he)
    (fun b' k' hf => by
      have hne : b' ≠ b := fun he => hf (by subst he; rfl)
      have := s2 b' hne
      exact ⟨cell_of_heap this, frozen_of_heap this⟩)
    (fun hRC hRP => by
      have hown := ownsRow_setCells (a.eval z).cells.toList (i * esz + off) w xs x1
      refine ⟨_, by simpa using hown, fun e he => ?_, fun i' e he j x hx => ?_⟩
      · rcases List.mem_or_eq_of_mem_set he with he | he
        · exact x2 e he
        · rw [he, lay_length _ _ _ (by omega)]; exact helz
      · rw [List.getD_eq_getElem?_getD, q2]
        simp only [Array.length_toList]
        by_cases hi' : i' = i
        · subst hi'
          rw [List.getElem?_set_self hil] at he
          injection he with he; subst he
          rw [lay_get _ _ _ _ (by omega)] at hx
          split at hx
          · rename_i hjn
            rw [if_pos (by omega)]
            have := e2 (j - off) x hx
            rw [Array.getD_eq_getD_getElem?] at this
            rw [Array.getElem?_toList, show i' * esz + j - (i' * esz + off) = j - off by omega]
            exact hRC _ _ this
          · rename_i hjn
            rw [if_neg (by omega)]
            have := hRC _ _ (x3 i' el hel j x hx)
            rwa [List.getD_eq_getElem?_getD] at this
        · rw [List.getElem?_set_ne (fun e => hi' e.symm)] at he
          have hjl : j < esz := by
            have := (List.getElem?_eq_some_iff.1 hx).1
            rw [x2 e (List.mem_of_getElem? he)] at this; exact this
          rw [if_neg (by
            intro hc
            rcases Nat.lt_or_ge i' i with hlt | hge
            · have : i' * esz + esz ≤ i * esz := by rw [← Nat.succ_mul]; exact Nat.mul_le_mul_right _ hlt
              omega
            · have hlt : i < i' := by omega
              have : i * esz + esz ≤ i' * esz := by rw [← Nat.succ_mul]; exact Nat.mul_le_mul_right _ hlt
              omega)]
          have := hRC _ _ (x3 i' e he j x hx)
          rwa [List.getD_eq_getElem?_getD] at this)
  refine ⟨undef, m, F, _, .inr ⟨?_, rfl⟩, h1, h2, trivial⟩
  simp only [execOp, hv, Instr.storeAt, Instr.sureAddr, Sem.run_bind, Sem.run_pure, Result.andThen_ok, hrun]
/-! ### 4. The one kind told as the other -/
theorem rel_toC {id : Nat} {e : TypeId} {sz : Nat} {l : List (List PV)} (ho : σ[id]? = some (.arr e sz l)) (m : List Loc) (F : Nat → Nat → Prop) (a : Act) (w : World) (hr : Rel N m F ⟨fr, σ⟩ a w) :
    ∃ m' F', Rel N m' F' ⟨fr, σ.set id (.arrC e sz (l.map fun e => e.map .p))⟩ a w ∧ Step m F σ w m' F' (σ.set id (.arrC e sz (l.map fun e => e.map .p))) w := by
  have i := hr.inv
  have hid : id < m.length := by rw [i.len]; exact (List.getElem?_eq_some_iff.1 ho).1
  have hm := List.getElem?_eq_getElem hid
  have hob := i.obj id _ _ ho hm
  generalize m[id] = lc at hm hob
  cases lc with
  | «at» b o => exact hob.elim
  | row A cap =>
    obtain ⟨xs, h1, h2, h3⟩ := hob
    obtain ⟨g1, g2⟩ := inv_set (w' := w) (o' := .arrC e sz (l.map fun e => e.map .p)) i ho hm (fun b k => Iff.rfl) rfl ⟨rfl, rfl, rfl⟩ (fun _ _ => rfl) (fun _ _ _ => ⟨rfl, rfl⟩) (fun hRC hRP => by
      refine ⟨xs, by simpa using h1, fun el he => ?_, fun q el hq j x hx => ?_⟩
      · obtain ⟨e0, he0, rfl⟩ := List.mem_map.1 he
        rw [List.length_map]; exact h2 e0 he0
      · rw [List.getElem?_map, Option.map_eq_some_iff] at hq
        obtain ⟨e0, he0, rfl⟩ := hq
        rw [List.getElem?_map, Option.map_eq_some_iff] at hx
        obtain ⟨x0, hx0, rfl⟩ := hx
        exact h3 q e0 he0 j x0 hx0)
    exact ⟨m, F, ⟨g1, fun t => (hr.fr t).step i g2, hr.size, hr.defers⟩, g2⟩
theorem kw_toC {c : Code} (id : Nat) {e : TypeId} {sz : Nat} {l : List (List PV)} (k : AWp P N c Q ⟨fr, σ'⟩) (ho : σ[id]? = some (.arr e sz l) := by first | exact rfl | exact getG0 (by assumption) rfl | exact getG (by assumption) rfl | exact getGP (by assumption) rfl rfl | exact getL (getG0 (by assumption) rfl) | exact getL (getG (by assumption) rfl)) (hσ : σ.set id (.arrC e sz (l.map fun e => e.map .p)) = σ' := by first | exact setG0 (by assumption) (by conv => lhs; simp only [List.set, List.cons_append, List.nil_append]) | exact setG (by assumption) (by conv => lhs; simp only [List.set, List.cons_append, List.nil_append]) | exact setGP (by assumption) (by conv => lhs; simp only [List.set, List.cons_append, List.nil_append]) rfl | exact setP rfl (by conv => lhs; simp only [List.set, List.cons_append, List.nil_append]) | (conv => lhs; simp only [List.set, List.cons_append, List.nil_append])) : AWp P N c Q ⟨fr, σ⟩ := by
  subst hσ
  exact awp_of (rel_toC ho) k
/-- All that its elements hold doesn't change. -/
theorem rel_toA {id : Nat} {e : TypeId} {sz : Nat} {l : List (List PV)} (ho : σ[id]? = some (.arrC e sz (l.map fun e => e.map .p))) (m : List Loc) (F : Nat → Nat → Prop) (a : Act) (w : World) (hr : Rel N m F ⟨fr, σ⟩ a w) :
    ∃ m' F', Rel N m' F' ⟨fr, σ.set id (.arr e sz l)⟩ a w ∧ Step m F σ w m' F' (σ.set id (.arr e sz l)) w := by
  have i := hr.inv
  have hid : id < m.length := by rw [i.len]; exact (List.getElem?_eq_some_iff.1 ho).1
  have hm := List.getElem?_eq_getElem hid
  have hob := i.obj id _ _ ho hm
  generalize m[id] = lc at hm hob
  cases lc with
  | «at» b o => exact hob.elim
  | row A cap =>
    obtain ⟨xs, h1, h2, h3⟩ := hob
    obtain ⟨g1, g2⟩ := inv_set (w' := w) (o' := .arr e sz l) i ho hm (fun b k => Iff.rfl) rfl ⟨rfl, rfl, rfl⟩ (fun _ _ => rfl) (fun _ _ _ => ⟨rfl, rfl⟩) (fun hRC hRP => by
      refine ⟨xs, by simpa using h1, fun el he => ?_, fun q el hq j x hx => ?_⟩
      · have := h2 (el.map .p) (List.mem_map.2 ⟨el, he, rfl⟩)
        simpa using this
      · exact h3 q (el.map .p) (by rw [List.getElem?_map, hq]; rfl) j (.p x) (by rw [List.getElem?_map, hx]; rfl))
    exact ⟨m, F, ⟨g1, fun t => (hr.fr t).step i g2, hr.size, hr.defers⟩, g2⟩
theorem kw_toA {c : Code} (id : Nat) {e : TypeId} {sz : Nat} {l : List (List PV)} (ho : σ[id]? = some (.arrC e sz (l.map fun e => e.map .p))) (k : AWp P N c Q ⟨fr, σ'⟩) (hσ : σ.set id (.arr e sz l) = σ' := by first | exact setG0 (by assumption) (by conv => lhs; simp only [List.set, List.cons_append, List.nil_append]) | exact setG (by assumption) (by conv => lhs; simp only [List.set, List.cons_append, List.nil_append]) | exact setGP (by assumption) (by conv => lhs; simp only [List.set, List.cons_append, List.nil_append]) rfl | exact setP rfl (by conv => lhs; simp only [List.set, List.cons_append, List.nil_append]) | (conv => lhs; simp only [List.set, List.cons_append, List.nil_append])) : AWp P N c Q ⟨fr, σ⟩ := by
  subst hσ
  exact awp_of (rel_toA ho) k
/-! ### 5. A guard that says yes, ahead of whatever rule -/
theorem k_yes {op : Op} {dd : Option Nat} {j : Nat} {want b : Bool} {t : Nat} (k : AList P N ops Q (⟨dd, op, ty, pos, aft, none⟩ :: rest) ⟨fr, σ⟩) (ht : (ops[j]?).bind (·.dst) = some t := by rfl) (hv : fr.get t = bl b := by exact rfl) (hb : b = want := by first | rfl | assumption | exact decide_eq_true (by assumption) | exact decide_eq_false (by assumption)) : AList P N ops Q (⟨dd, op, ty, pos, aft, some (j, want)⟩ :: rest) ⟨fr, σ⟩ := by
  subst hb
  intro m F a w hr
  have h1 := hr.fr t
  rw [hv] at h1
  have h2 : a.tmps.getD t undef = .bool b := RP.eq_lit h1
  have h3 : a.tmps[t]? = some (.bool b) := by
    cases h : a.tmps[t]? with
    | none => simp [Array.getD_eq_getD_getElem?, h, undef] at h2
    | some u => simp [Array.getD_eq_getD_getElem?, h] at h2; rw [h2]
  have hw : Region.wanted (⟨dd, op, ty, pos, aft, some (j, b)⟩ : Oper) (yielded ops a.tmps) = true := by
    simp only [Region.wanted, yielded, ht, Option.bind_some, h3]
    cases b <;> rfl
  have hk := k m F a w hr
  have hw0 : Region.wanted (⟨dd, op, ty, pos, aft, none⟩ : Oper) (yielded ops a.tmps) = true := by simp [Region.wanted]
  simp only [wpList] at hk ⊢
  rw [if_pos hw]
  rw [if_pos hw0] at hk
  exact hk
/-! ### 6. A call that brings back an array of its own, in a head that is drawn -/
theorem t_callNew {f : FuncId} [TFn P f] {y : Operand} {xs : Array Operand} {ts : Array TypeId} {args : List AV} {e : TypeId} {sz n id : Nat} {l : List (List PV)} (h : ACalls P f args [] (fun r σ' => r = .ret (.c (.ms 0 n)) ∧ ∃ gb, σ' = .arr e sz l :: gb)) (hm : σ.length = id)
    (hσ : σ ++ [.arr e sz l] = σ') (hy : ev fr y = .c (.p (.lit (.func (.func f) #[] #[]))) := by exact rfl) (hx : xs.toList.map (ev fr) = args := by (try simp only [↓ev, litAV, ↓Fr.get, ↓reduceIte, Nat.reduceEqDiff, List.map]) <;> rfl) (hp : args.all pureV = true := by rfl) (hg : xs.toList.all goodConst = true := by rfl) :
    SStep P σ fr ⟨some d, .call { callee := .value y, args := xs, argTypes := ts }, ty, pos, aft, none⟩ (.c (.ms id n)) σ' := by
  subst hm; subst hσ
  have key := s_call (P := P) (σ := σ) (fr := fr) (d := d) (ty := ty) (pos := pos) (aft := aft) (ts := ts) (σo := [.arr e sz l]) (σc := []) (cargs := args) (rv := .c (.ms 0 n)) [] hy (h.mono fun r σ' ⟨h1, gb, h2⟩ => ⟨h1, gb, by simp [h2]⟩) (by
    rw [hx]
    exact ((List.map_congr_left fun x hx => renV_pure _ (List.all_eq_true.1 hp x hx)).trans (List.map_id _)).symm) (List.all_eq_true.2 fun x hx => okV_pure _ (List.all_eq_true.1 hp x hx)) rfl (by simp) (fun k id off oc h1 h2 => by simp at h1) ⟨rfl, rfl⟩ hg
  have e1 : renV (ren2 [] σ.length) (.c (.ms 0 n)) = .c (.ms σ.length n) := by simp [renV, renC, ren2]
  have e2 : back (ren2 [] σ.length) σ [] [.arr e sz l] = σ ++ [.arr e sz l] := by simp [back, renO]
  rw [e1, e2] at key
  exact key
/-! ### 7. Slices against nil; literals that are the call's own -/
theorem b_nilNe {dd : Option Nat} {g : Option (Nat × Bool)} {t t' e : TypeId} {sz by' : Nat} {x : Operand} {l : List (List PV)} [TSl P t e sz by'] (hne : l ≠ []) (hx : ev fr x = .c (.p (.sl sz l)) := by exact rfl) : RStep P σ fr ⟨dd, .binOp .eql t x (.const (.slice none 0 0)) t', ty, pos, aft, g⟩ (bl false) :=
  rs_pure fun m F w a i hs => by
    have h1 := hs x (by simp [Op.operands]) (good_of_nl hx (by simp))
    rw [hx] at h1
    obtain ⟨A, cap, hu, _, _, hm⟩ := rv_sl h1
    obtain ⟨b, o, us, rfl, _⟩ := hm hne
    refine ⟨.bool false, ?_, RP.lit rfl⟩
    have hq := run_equal_slice_nil (P := P) w t e (some ⟨b, o, none⟩) l.length cap (TSl.und (P := P) (t := t) (e := e) (sz := sz) (bytes := by'))
    have e2 : a.eval (.const (.slice none 0 0)) = .slice none 0 0 := rfl
    simp [execOp, hu, e2, eqGuard, binOp, hq, Result.andThen]
theorem k_buildOwn0 {t e : TypeId} {sz by' : Nat} {z : Value} {id : Nat} [TSl P t e sz by'] [TZ P e z] (k : AList P N ops Q rest ⟨(d, .c (.ms id 0)) :: fr, σ'⟩) (hzs : z.cells.size = sz := by rfl) (hd : Nat.blt d N = true := by rfl) (hm : σ.length = id := by first | exact lenG0 (by assumption) (by conv => lhs; simp only [List.length_cons, List.length_nil, Nat.zero_add, Nat.reduceAdd]) | exact lenG (by assumption) (by conv => lhs; simp only [List.length_cons, List.length_nil, Nat.zero_add, Nat.reduceAdd]) | exact lenGP (by assumption) (by conv => lhs; simp only [List.length_cons, List.length_nil, Nat.zero_add, Nat.reduceAdd]) rfl | (conv => lhs; simp only [List.length_append, List.length_cons, List.length_nil, Nat.zero_add, Nat.reduceAdd])) (hσ : σ ++ [.arr e sz []] = σ' := by first | exact addG (by conv => lhs; simp only [List.set, List.cons_append, List.nil_append]) | exact addG0 (by conv => lhs; simp only [List.set, List.cons_append, List.nil_append]) | (conv => lhs; simp only [List.set, List.cons_append, List.nil_append])) :
    AList P N ops Q (⟨some d, .buildSlice t 0 #[], ty, pos, aft, none⟩ :: rest) ⟨fr, σ⟩ := by
  subst hm
  exact w_buildSlice (l := []) (z := z) hzs (by omega) rfl rfl rfl (by simp) hd hσ k
/-! ### 8. The variable and its array, with more in front -/
/-- A call that is handed the variable and its array; an object of another kind and two more stand in front. -/
theorem k_callB4 {d : Nat} {f : FuncId} [TFn P f] {y : Operand} {xs : Array Operand} {ts : Array TypeId} {cargs : List AV} {rv : AV} {a a' b b' : List PV} {n n' : Nat} {e : TypeId} {sz : Nat} {l l' : List (List PV)} {gg : List AObj} {M : Nat} {X : XO} {o1 o2 : AObj}
    (h : ACalls P f cargs [.ext X, .cells (bC a 2 n b), .arr e sz l] (fun r σ' => r = .ret rv ∧ BEnd [.ext X] 2 a' n' b' e sz l' σ')) (hM : 4 + gg.length = M)
    (kont : ∀ g' M', 4 + g'.length = M' → AList P N ops Q rest ⟨(d, rv) :: fr, [.ext X, o1, o2, .cells (bC a' (M' + 0) n' b')] ++ (g' ++ [.arr e sz l'])⟩)
    (ha : a'.length = a.length := by rfl) (hb : b'.length = b.length := by rfl) (hv : pureV rv = true := by rfl)
    (hy : ev fr y = .c (.p (.lit (.func (.func f) #[] #[]))) := by exact rfl) (hx : xs.toList.map (ev fr) = cargs.map (renV (ren1 [(0, 0), (3, 0), (M + 0, 0)])) := by (try simp only [↓ev, litAV, ↓Fr.get, ↓reduceIte, Nat.reduceEqDiff, List.map]) <;> rfl) (hok : cargs.all (okV 3) = true := by rfl)
    (hd : Nat.blt d N = true := by rfl) (hg : xs.toList.all goodConst = true := by rfl) :
    AList P N ops Q (⟨some d, .call { callee := .value y, args := xs, argTypes := ts }, ty, pos, aft, none⟩ :: rest) ⟨fr, [.ext X, o1, o2, .cells (bC a (M + 0) n b)] ++ (gg ++ [.arr e sz l])⟩ := by
  subst hM
  have hlen : ([AObj.ext X, o1, o2, AObj.cells (bC a (4 + gg.length + 0) n b)] ++ (gg ++ [AObj.arr e sz l])).length = 4 + gg.length + 1 := by simp; omega
  have hnd : (([(0, 0), (3, 0), (4 + gg.length + 0, 0)] : List (Nat × Nat)).map (·.1)).Nodup := by
    simp; omega
  have hlast : ([AObj.ext X, o1, o2, AObj.cells (bC a (4 + gg.length + 0) n b)] ++ (gg ++ [AObj.arr e sz l]))[4 + gg.length]? = some (.arr e sz l) := by
    rw [← List.append_assoc, List.getElem?_append_right (by simp; omega)]
    have : 4 + gg.length - ([AObj.ext X, o1, o2, AObj.cells (bC a (4 + gg.length + 0) n b)] ++ gg).length = 0 := by simp; omega
    rw [this]; rfl
  refine w_call (ι := Nat) (Φ := fun _ => True) (rr := fun _ => .ret rv) (σo := fun k => .ext X :: .cells (bC a' (2 + k) n' b') :: (List.replicate k .dead ++ [.arr e sz l'])) (σc := [.ext X, .cells (bC a 2 n b), .arr e sz l]) (cargs := cargs) [(0, 0), (3, 0), (4 + gg.length + 0, 0)] hy
    ((bend_norm h).mono fun r σ' ⟨h1, k, h2⟩ => ⟨k, trivial, h1, [], by simp [h2]⟩) hx hok rfl hnd (fun k id off oc h1 h2 => ?_) (fun k _ => ⟨?_, okV_pure _ hv⟩) hd (fun k _ => ?_) hg
  · match k with
    | 0 =>
      simp at h1 h2
      obtain ⟨rfl, rfl⟩ := h1; subst h2
      exact ⟨_, rfl, rfl, rfl⟩
    | 1 =>
      simp at h1 h2
      obtain ⟨rfl, rfl⟩ := h1; subst h2
      refine ⟨_, rfl, _, rfl, by simp [len_bC], ?_, ok_bC (by simp) _ _ _⟩
      rw [ren_bC]
      simp [ren1, len_bC]
      rw [List.take_of_length_le (by simp [len_bC])]
    | 2 =>
      simp at h1 h2
      obtain ⟨rfl, rfl⟩ := h1; subst h2
      exact ⟨_, hlast, rfl⟩
    | k + 3 => simp at h1
  · have h1 : (bC a' (2 + k) n' b').all (okC ((AObj.ext X :: AObj.cells (bC a' (2 + k) n' b') :: (List.replicate k .dead ++ [.arr e sz l'])).length)) = true := ok_bC (by simp; omega) _ _ _
    have h2 : Nat.beq (bC a' (2 + k) n' b').length (bC a 2 n b).length = true := by rw [len_bC, len_bC, ha, hb]; exact Nat.beq_refl _
    cases k with
    | zero => simp only [okBack, List.replicate_zero, List.nil_append] at h1 ⊢; rw [h1, h2]; rfl
    | succ k =>
      simp only [okBack, List.replicate_succ, List.cons_append] at h1 ⊢
      rw [h1, h2]
      simp [okO]
  · rw [hlen]
    have hren : (ren2 [(0, 0), (3, 0), (4 + gg.length + 0, 0)] (4 + gg.length + 1) (2 + k)).1 = 4 + gg.length + k := by
      simp only [ren2, List.length_cons, List.length_nil]
      cases k with
      | zero => rfl
      | succ k => rw [if_neg (by omega)]; simp; omega
    have hb0 : backO (ren2 [(0, 0), (3, 0), (4 + gg.length + 0, 0)] (4 + gg.length + 1)) (.cells (bC a (4 + gg.length + 0) n b)) 0 (.cells (bC a' (2 + k) n' b')) = .cells (bC a' (4 + gg.length + k) n' b') := by
      simp only [backO]
      rw [ren_bC, hren, lay_all (by rw [len_bC, len_bC, ha, hb])]
    have key := kont (gg ++ List.replicate k .dead) (4 + gg.length + k) (by simp; omega)
    have e1 : renV (ren2 [(0, 0), (3, 0), (4 + gg.length + 0, 0)] (4 + gg.length + 1)) rv = rv := renV_pure _ hv
    simp only [e1]
    have e2 : back (ren2 [(0, 0), (3, 0), (4 + gg.length + 0, 0)] (4 + gg.length + 1)) ([.ext X, o1, o2, .cells (bC a (4 + gg.length + 0) n b)] ++ (gg ++ [.arr e sz l])) [(0, 0), (3, 0), (4 + gg.length + 0, 0)] (.ext X :: .cells (bC a' (2 + k) n' b') :: (List.replicate k .dead ++ [.arr e sz l'])) = [.ext X, o1, o2, .cells (bC a' (4 + gg.length + k + 0) n' b')] ++ ((gg ++ List.replicate k .dead) ++ [.arr e sz l']) := by
      have s1 : ∀ o, ([AObj.ext X, o1, o2, AObj.cells (bC a' (4 + gg.length + k) n' b')] ++ (gg ++ [AObj.arr e sz l])).set (4 + gg.length + 0) o = [AObj.ext X, o1, o2, AObj.cells (bC a' (4 + gg.length + k) n' b')] ++ (gg ++ [o]) := fun o => by
        rw [← List.append_assoc, ← List.append_assoc, List.set_append_right _ _ (by simp; omega)]
        have : 4 + gg.length + 0 - ([AObj.ext X, o1, o2, AObj.cells (bC a' (4 + gg.length + k) n' b')] ++ gg).length = 0 := by simp; omega
        rw [this]; rfl
      have s0 : ([AObj.ext X, o1, o2, AObj.cells (bC a (4 + gg.length + 0) n b)] ++ (gg ++ [AObj.arr e sz l])).getD 3 .dead = .cells (bC a (4 + gg.length + 0) n b) := rfl
      have s2 : ([AObj.ext X, o1, o2, AObj.cells (bC a (4 + gg.length + 0) n b)] ++ (gg ++ [AObj.arr e sz l])).set 3 (.cells (bC a' (4 + gg.length + k) n' b')) = [AObj.ext X, o1, o2, AObj.cells (bC a' (4 + gg.length + k) n' b')] ++ (gg ++ [AObj.arr e sz l]) := rfl
      show back _ _ [(3, 0), (4 + gg.length + 0, 0)] (.cells (bC a' (2 + k) n' b') :: (List.replicate k .dead ++ [.arr e sz l'])) = _
      rw [show ([AObj.ext X, o1, o2, AObj.cells (bC a (4 + gg.length + 0) n b)] ++ (gg ++ [AObj.arr e sz l])).set 0 (backO (ren2 [(0, 0), (3, 0), (4 + gg.length + 0, 0)] (4 + gg.length + 1)) (([AObj.ext X, o1, o2, AObj.cells (bC a (4 + gg.length + 0) n b)] ++ (gg ++ [AObj.arr e sz l])).getD 0 .dead) 0 (.ext X)) = [AObj.ext X, o1, o2, AObj.cells (bC a (4 + gg.length + 0) n b)] ++ (gg ++ [AObj.arr e sz l]) from rfl]
      rw [back, s0, hb0, s2]
      cases k with
      | zero =>
        rw [List.replicate_zero, List.nil_append]
        show back _ (List.set _ _ (backO _ _ _ (.arr e sz l'))) [] [] = _
        rw [backO_arr, s1]
        simp [back]
      | succ k =>
        rw [List.replicate_succ]
        show back _ (List.set _ _ (backO _ _ _ .dead)) [] (List.replicate k .dead ++ [.arr e sz l']) = _
        rw [backO_dead, s1]
        simp [back, renO]
    rw [e2]
    exact key
/-- The array that a variable holds, told behind all else. -/
theorem rel_moveB {i1 i2 n : Nat} {e : TypeId} {sz : Nat} {l : List (List PV)} {p q : List PV} (hne : i1 ≠ i2) (h1 : σ[i1]? = some (.arr e sz l)) (h2 : σ[i2]? = some (.cells (bC p i1 n q))) (m : List Loc) (F : Nat → Nat → Prop) (a : Act) (w : World) (hr : Rel N m F ⟨fr, σ⟩ a w) :
    ∃ m' F', Rel N m' F' ⟨fr, (σ.set i1 AObj.dead ++ [AObj.arr e sz l]).set i2 (.cells (bC p σ.length n q))⟩ a w ∧ Step m F σ w m' F' ((σ.set i1 AObj.dead ++ [AObj.arr e sz l]).set i2 (.cells (bC p σ.length n q))) w := by
  have i := hr.inv
  have hid : i1 < m.length := by rw [i.len]; exact (List.getElem?_eq_some_iff.1 h1).1
  have hm := List.getElem?_eq_getElem hid
  have hob := i.obj i1 _ _ h1 hm
  generalize m[i1] = lc at hm hob
  cases lc with
  | «at» b o => exact hob.elim
  | row A cap =>
    obtain ⟨i', st⟩ := inv_move (w' := w) (o2 := .arr e sz l) (l2 := .row A cap) i h1 hm (Nat.le_refl _) ⟨rfl, rfl, rfl⟩ (fun b k k' hf => hf) (fun _ _ _ => rfl) (fun b k hf => .inl hf) (fun _ => hob)
    have h3 : (σ.set i1 AObj.dead ++ [AObj.arr e sz l])[i2]? = some (.cells (bC p i1 n q)) := by
      rw [List.getElem?_append_left (by rw [List.length_set]; exact (List.getElem?_eq_some_iff.1 h2).1), List.getElem?_set_ne hne]; exact h2
    have hid2 : i2 < (m ++ [Loc.row A cap]).length := by rw [i'.len]; exact (List.getElem?_eq_some_iff.1 h3).1
    have hm2 := List.getElem?_eq_getElem hid2
    have hob2 := i'.obj i2 _ _ h3 hm2
    generalize (m ++ [Loc.row A cap])[i2] = lc2 at hm2 hob2
    cases lc2 with
    | row _ _ => exact hob2.elim
    | «at» b2 o2 =>
      have hlen : (bC p σ.length n q).length = (bC p i1 n q).length := by rw [len_bC, len_bC]
      obtain ⟨g1, g2⟩ := inv_set (w' := w) (o' := .cells (bC p σ.length n q)) i' h3 hm2 (fun b k => by simp only [fp, hlen]) rfl ⟨rfl, rfl, rfl⟩ (fun _ _ => rfl) (fun _ _ _ => ⟨rfl, rfl⟩) (fun hRC hRP => by
        intro j c hj
        have hj' : j < (bC p i1 n q).length := by rw [← hlen]; exact (List.getElem?_eq_some_iff.1 hj).1
        obtain ⟨c0, hc0⟩ : ∃ c0, (bC p i1 n q)[j]? = some c0 := ⟨_, List.getElem?_eq_getElem hj'⟩
        obtain ⟨⟨u, k1, k2⟩, k3⟩ := hob2 j c0 hc0
        refine ⟨⟨u, k1, ?_⟩, k3⟩
        have hcase : c = c0 ∨ (c = .ms σ.length n ∧ c0 = .ms i1 n) := by
          simp only [bC] at hj hc0
          by_cases hjp : j < p.length
          · rw [List.getElem?_append_left (by simpa using hjp)] at hj hc0
            rw [hj] at hc0; injection hc0 with hc0; exact .inl hc0
          · rw [List.getElem?_append_right (by simpa using Nat.le_of_not_lt hjp)] at hj hc0
            cases hk : j - (p.map C.p).length with
            | zero => rw [hk] at hj hc0; simp at hj hc0; exact .inr ⟨hj.symm, hc0.symm⟩
            | succ k' => rw [hk] at hj hc0; simp only [List.getElem?_cons_succ] at hj hc0; rw [hj] at hc0; injection hc0 with hc0; exact .inl hc0
        rcases hcase with rfl | ⟨rfl, rfl⟩
        · exact k2
        · obtain ⟨A', cap', a1, a2, a3⟩ := k2
          rw [List.getElem?_append_left hid, hm] at a1
          injection a1 with a1
          injection a1 with a1 a4
          subst a1; subst a4
          exact ⟨A, cap, by rw [← i.len]; simp, a2, a3⟩)
      have st2 := st.trans i i' g2
      exact ⟨_, F, ⟨g1, fun t => (hr.fr t).step i st2, hr.size, hr.defers⟩, st2⟩
theorem kw_moveB {c : Code} (i1 i2 : Nat) {n M : Nat} {e : TypeId} {sz : Nat} {l : List (List PV)} {p q : List PV} (h1 : σ[i1]? = some (.arr e sz l)) (h2 : σ[i2]? = some (.cells (bC p i1 n q))) (hM : σ.length = M) (hne : i1 ≠ i2) (hσ : (σ.set i1 AObj.dead ++ [AObj.arr e sz l]).set i2 (.cells (bC p M n q)) = σ') (k : AWp P N c Q ⟨fr, σ'⟩) : AWp P N c Q ⟨fr, σ⟩ := by
  subst hM; subst hσ
  exact awp_of (rel_moveB hne h1 h2) k
/-! ### 9. A store, in a head that is drawn -/
theorem s_of2 {o : Oper} (h : ∀ m F w (a : Act), Inv m F σ w → (∀ x, x ∈ o.op.operands → goodConst x = true → RV m w F (ev fr x) (a.eval x)) →
    ∃ x m' F' w', ((execOp a.eval o).run P w = .ok (.value x) w' ∨ ((execOp a.eval o).run P w = .ok .skip w' ∧ x = undef)) ∧ Inv m' F' σ' w' ∧ Step m F σ w m' F' σ' w' ∧ RV m' w' F' v x) : SStep P σ fr o v σ' := by
  intro m F w a i hs K Q hK
  obtain ⟨x, m', F', w', h1, h2, h3, h4⟩ := h m F w a i (fun x hx hg => ev_rv hg fun t e => by subst e; exact hs t hx)
  unfold Oper.wp
  rcases h1 with h1 | ⟨h1, rfl⟩
  · rw [h1]; exact hK x m' F' w' h2 h3 h4
  · rw [h1]; exact hK _ m' F' w' h2 h3 h4
theorem t_store {t : TypeId} {agg : Bool} {sz : Nat} {x z : Operand} {y : AV} {id off : Nat} {l l' : List C} [TV P t agg sz] (hx : ev fr x = .c (.ptr id off) := by exact rfl) (hy : ev fr z = y := by conv => lhs; whnf) (ho : σ[id]? = some (.cells l) := by first | exact rfl | exact getG0 (by assumption) rfl | exact getG (by assumption) rfl | exact getGP (by assumption) rfl rfl | exact getL (getG0 (by assumption) rfl) | exact getL (getG (by assumption) rfl)) (hsure : sureV y = true := by rfl) (hn : y.cells.length = sz := by rfl) (hle : off + sz ≤ l.length := by first | exact Nat.le_of_ble_eq_true rfl | (simp; done)) (hl : lay l off y.cells = l' := by rfl) (hσ : σ.set id (.cells l') = σ' := by first | exact setG0 (by assumption) (by conv => lhs; simp only [List.set, List.cons_append, List.nil_append]) | exact setG (by assumption) (by conv => lhs; simp only [List.set, List.cons_append, List.nil_append]) | exact setGP (by assumption) (by conv => lhs; simp only [List.set, List.cons_append, List.nil_append]) rfl | exact setP rfl (by conv => lhs; simp only [List.set, List.cons_append, List.nil_append]) | (conv => lhs; simp only [List.set, List.cons_append, List.nil_append])) (hgc : goodConst z = true := by rfl) :
    SStep P σ fr ⟨none, .store t x z, ty, pos, aft, none⟩ (.c .any) σ' := by
  subst hσ
  subst hl
  refine s_of2 (fun m F w a i hs => ?_)
  have h := hs z (by simp [Op.operands]) hgc
  rw [hy] at h
  have hp := hs x (by simp [Op.operands]) (good_of_nl hx (by simp))
  rw [hx] at hp
  obtain ⟨b, o', hm, hv⟩ := rv_ptr hp
  have hpos := TV.pos (P := P) (t := t) (agg := agg) (sz := sz)
  obtain ⟨e1, e2⟩ := rv_cells h (by omega) (rv_one hsure h)
  obtain ⟨us, hw, hr⟩ := obj_cells i ho hm
  have hrun := storeVar_run (P := P) (t := t) (agg := agg) (sz := sz) (w := w) (b := b) (o := o' + off) (u := a.eval z) (by omega)
    (fun j hj => by rw [Nat.add_assoc, (hw (off + j) (by omega)).1]; rfl) (fun j hj => by rw [Nat.add_assoc]; exact (hw (off + j) (by omega)).2) (rv_cells_one hsure h)
  obtain ⟨s1, s2, s3, s4, s5⟩ := heap_setCells b (a.eval z).cells.toList (o' + off) w
  have hout : ∀ b' k', ¬ (b' = b ∧ o' + off ≤ k' ∧ k' < o' + off + sz) → (w.setCells b (o' + off) (a.eval z).cells.toList).cell? ⟨b', k', none⟩ = w.cell? ⟨b', k', none⟩ := by
    intro b' k' hn'
    refine World.cell?_setCells_out b _ _ _ _ (fun hb _ => ?_)
    have hb : b' = b := hb
    show k' < o' + off ∨ o' + off + _ ≤ k'
    simp only [Array.length_toList]
    omega
  have hin : ∀ j (hj : j < sz), (w.setCells b (o' + off) (a.eval z).cells.toList).cell? ⟨b, o' + off + j, none⟩ = some ((a.eval z).cells.toList[j]'(by simp; omega)) := fun j hj =>
    World.cell?_setCells_in b _ _ _ (fun j hj => by simp only [Array.length_toList] at hj; rw [Nat.add_assoc, (hw (off + j) (by omega)).1]; rfl) j (by simp; omega)
  obtain ⟨h1, h2⟩ := inv_set (w' := w.setCells b (o' + off) (a.eval z).cells.toList) i ho hm (o' := .cells (lay l off y.cells)) (fun b' k' => by simp only [fp, lay_length l y.cells off (by omega)]) s1 ⟨s3, s4, s5⟩
    (fun b' hb => by
      by_cases he : b' = b
      · subst he
        exact absurd ⟨rfl, Nat.le_refl _, by omega⟩ (hb o')
      · exact s2 b' he)
    (fun b' k' hf => ⟨hout b' k' (fun ⟨h1, h2, h3⟩ => hf ⟨h1, by omega, by omega⟩), World.frozen?_setCells b _ _ _ _⟩)
    (fun hRC _ j c hj => by
      rw [lay_get _ _ _ _ (by omega)] at hj
      refine ⟨?_, ?_⟩
      · split at hj
        · rename_i hjn
          have hj' : j - off < sz := by omega
          have h5 := e2 _ _ hj
          have e : (a.eval z).cells.getD (j - off) undef = (a.eval z).cells.toList[j - off]'(by simp; omega) := by
            simp [Array.getD_eq_getD_getElem?, Array.getElem?_eq_getElem (show j - off < (a.eval z).cells.size by omega)]
          rw [e] at h5
          refine ⟨_, ?_, hRC _ _ h5⟩
          have := hin (j - off) hj'
          rwa [show o' + off + (j - off) = o' + j by omega] at this
        · rename_i hjn
          have hlt := (List.getElem?_eq_some_iff.1 hj).1
          refine ⟨us j, ?_, hRC _ _ (hr j c hj)⟩
          rw [hout b (o' + j) (fun ⟨_, h2, h3⟩ => hjn (by omega))]
          exact (hw j hlt).1
      · rw [World.frozen?_setCells]
        have hlt : j < l.length := by
          split at hj
          · omega
          · exact (List.getElem?_eq_some_iff.1 hj).1
        exact (hw j hlt).2)
  refine ⟨undef, m, F, _, .inr ⟨?_, rfl⟩, h1, h2, trivial⟩
  simp only [execOp, hv, Instr.storeAt, Instr.sureAddr, Sem.run_bind, Sem.run_pure, Result.andThen_ok, hrun]
theorem dt_turnN {σ0 σ1 : List AObj} {p k : Nat} {tail rest : List Oper} {op : Op} (h : SStep P σ0 fr ⟨none, op, ty, pos, aft, none⟩ v σ1) (t : DT P N ops Q σ0 σ1 p tail (k + 1) rest fr) (hk : Nat.beq k p = true := by rfl) : DT P N ops Q σ0 σ1 p tail k (⟨none, op, ty, pos, aft, none⟩ :: rest) fr := by
  obtain ⟨fr', h1, h2⟩ := t
  exact ⟨fr', .turn (Nat.eq_of_beq_eq_true hk) (h.w rfl) h1, h2⟩
end
end Go.AL
set_option linter.unusedVariables false
set_option linter.unusedSimpArgs false
namespace Go.AL
open Go.RowKit
section
variable {P : Program} {N : Nat} {Q : AE → St → Prop} {ops : Array Oper} {rest : List Oper} {σ σ' : List AObj} {fr : Fr}
variable {d : Nat} {ty : TypeId} {pos : String} {aft : Array Edge} {v : AV}
/-! ### 1. A literal slice without elements, and an append to it: nothing is turned -/
theorem b_buildE0 {dd : Option Nat} {g : Option (Nat × Bool)} {t e : TypeId} {sz by' : Nat} {z : Value} [TSl P t e sz by'] [TZ P e z] (hzs : z.cells.size = sz := by rfl) : RStep P σ fr ⟨dd, .buildSlice t 0 #[], ty, pos, aft, g⟩ (.c (.p .e0)) :=
  rs_of fun m F w a i hs => by
    obtain ⟨r, h1, h2, h3, h4⟩ := buildSlice_run (P := P) (t := t) (e := e) (sz := sz) (by' := by') (z := z) (n := 0) (parts := #[]) (out := []) (fr := fr) hzs (by omega) rfl rfl (m := m) (F := F) (w := w) (a := a) (fun x hx => by simp at hx)
    refine ⟨.slice (some ⟨w.heap.size, 0, none⟩) 0 0, F, w.alloc (.cells r e), ?_, ⟨fun _ _ h => h, rfl, rfl, rfl, by simp, fun b hb => Below.heap_alloc w _ b hb, fun b k h => .inl h, fun b k h => .inr h⟩, RP.e0 _⟩
    have h1' : (Instr.buildSlice t 0 #[]).run P w = .ok (.slice (some ⟨w.heap.size, 0, none⟩) 0 0) (w.alloc (.cells r e)) := by simpa using h1
    simp only [execOp, Sem.run_bind, List.map_toArray, List.map_nil, h1', Result.andThen_ok, Sem.run_pure]
theorem rv_e0 {m : List Loc} {w : World} {F : Nat → Nat → Prop} {u : Value} (h : RV m w F (.c (.p .e0)) u) : ∃ a, u = .slice (some a) 0 0 := by
  have h : RP w F .e0 u := h
  generalize hx : PV.e0 = x at h
  cases h <;> first | exact ⟨_, rfl⟩ | cases hx
theorem b_appE0 {dd : Option Nat} {g : Option (Nat × Bool)} {t e : TypeId} {sz by' : Nat} {z : Value} {x y : Operand} {l : List (List PV)} [TSl P t e sz by'] [TZ P e z] (hx : ev fr x = .c (.p .e0) := by exact rfl) (hy : ev fr y = .c (.p (.sl sz l)) := by exact rfl) (hb : l.length * by' ≤ 140737488355328 := by first | omega | (simp only [List.length_map]; omega)) (hzs : z.cells.size = sz := by rfl) :
    RStep P σ fr ⟨dd, .call { callee := .builtin .append, args := #[x, y], argTypes := #[t, t] }, ty, pos, aft, g⟩ (.c (.p (.sl sz l))) :=
  rs_of fun m F w a i hs => by
    have h1 := hs x (by simp [Op.operands, Call.operands]) (good_of_nl hx (by simp))
    have h2 := hs y (by simp [Op.operands, Call.operands]) (good_of_nl hy (by simp))
    rw [hx] at h1; rw [hy] at h2
    obtain ⟨a0, hu⟩ := rv_e0 h1
    obtain ⟨B, bc, hv, hbc, hys, hmem⟩ := rv_sl h2
    obtain ⟨inf, hinf, hsize, hbytes⟩ := TSl.inf (P := P) (t := t) (e := e) (sz := sz) (bytes := by')
    have hpos := TSl.pos (P := P) (t := t) (e := e) (sz := sz) (bytes := by')
    have hund := TSl.und (P := P) (t := t) (e := e) (sz := sz) (bytes := by')
    obtain ⟨inf', hinf', hz⟩ := TZ.inf (P := P) (t := e) (z := z)
    rw [hinf] at hinf'; injection hinf' with hinf'; subst hinf'
    have hgo : ∀ u w1, (Builtin.append_ #[t, t] ty #[a.eval x, a.eval y]).run P w = .ok u w1 → (execOp a.eval ⟨dd, .call { callee := .builtin .append, args := #[x, y], argTypes := #[t, t] }, ty, pos, aft, g⟩).run P w = .ok (.value u) w1 := fun u w1 h => by
      simp [execOp, resolve, invoke, builtin, h, Result.andThen]
    by_cases h0 : l = []
    · subst h0
      refine ⟨.slice (some a0) 0 0, F, w, hgo _ _ ?_, Grow.refl F w, RP.sl0 sz _ _⟩
      rw [hu, hv]
      have hf : ∀ q : Addr, (Builtin.firstCells inf.size 0 (.slice (some q) 0 bc)).run P w = .ok #[] w := fun q => by
        simp only [Builtin.firstCells, Nat.zero_mul]
        have := run_loadCells_list (P := P) (w := w) q [] (by simp)
        simpa using this
      cases B with
      | none => simp [Builtin.append_, run_underlying hund, sizeOf, typeInfo, hinf, Builtin.lenOf, Builtin.firstCells, storeCells]
      | some q => simp [Builtin.append_, run_underlying hund, sizeOf, typeInfo, hinf, Builtin.lenOf, hf q, storeCells]
    · obtain ⟨b, o, us, rfl, hF, hw, hr⟩ := hmem h0
      have hlpos : 0 < l.length := List.length_pos_iff.2 h0
      have hmax : l.length ≤ 140737488355328 := Nat.le_trans (Nat.le_mul_of_pos_right _ hpos.2) hb
      let news : List Value := (List.range (l.length * sz)).map us
      have hnl : news.length = l.length * sz := by simp [news]
      have hng : ∀ j, j < l.length * sz → news[j]? = some (us j) := fun j hj => by simp only [news, List.getElem?_map]; rw [List.getElem?_range hj]; rfl
      have hrun := run_append_grow (P := P) w t ty e inf z hund hinf hz a0 0 0 [] (by simp) (fun j v hj => by simp at hj) ⟨b, o, none⟩ l.length bc news (by rw [hsize]; exact hnl)
        (fun j u hj => by
          have hlt : j < l.length * sz := by rw [← hnl]; exact (List.getElem?_eq_some_iff.1 hj).1
          rw [hng j hlt] at hj
          injection hj with hj
          rw [add_plain', hw j hlt, hj]) (by omega) (by omega) (growslice_fits (by omega) (by rw [Nat.zero_add, hbytes]; exact hb))
      have hge := grownCap_ge w (0 + l.length) 0 e
      simp only [Nat.zero_add] at hrun hge
      have hheap := heap_alloc_new w.drew (.cells (([] : List Value).toArray ++ news.toArray ++ Builtin.zeroCells z.cells (grownCap w l.length 0 e - l.length)) e)
      have hold : ∀ b', b' < w.heap.size → (w.drew.alloc (.cells (([] : List Value).toArray ++ news.toArray ++ Builtin.zeroCells z.cells (grownCap w l.length 0 e - l.length)) e)).heap[b']? = w.heap[b']? := fun b' hb' => heap_alloc_old w.drew _ b' hb'
      have hst : (w.drew.alloc (.cells (([] : List Value).toArray ++ news.toArray ++ Builtin.zeroCells z.cells (grownCap w l.length 0 e - l.length)) e)).os = w.os ∧ (w.drew.alloc (.cells (([] : List Value).toArray ++ news.toArray ++ Builtin.zeroCells z.cells (grownCap w l.length 0 e - l.length)) e)).tape = w.tape ∧ (w.drew.alloc (.cells (([] : List Value).toArray ++ news.toArray ++ Builtin.zeroCells z.cells (grownCap w l.length 0 e - l.length)) e)).output = w.output ∧ (w.drew.alloc (.cells (([] : List Value).toArray ++ news.toArray ++ Builtin.zeroCells z.cells (grownCap w l.length 0 e - l.length)) e)).heap.size = w.heap.size + 1 := ⟨rfl, rfl, rfl, by simp⟩
      generalize hW : w.drew.alloc (.cells (([] : List Value).toArray ++ news.toArray ++ Builtin.zeroCells z.cells (grownCap w l.length 0 e - l.length)) e) = W at *
      have hcell : ∀ j, j < l.length * sz → W.cell? ⟨w.heap.size, 0 + j, none⟩ = some (us j) := fun j hj => by
        have hnj := hng j hj
        have hlt : j < news.length := by rw [hnl]; exact hj
        have e1 : w.drew.heap.size = w.heap.size := rfl
        rw [e1] at hheap
        rw [List.getElem?_eq_getElem hlt] at hnj
        injection hnj with hnj
        simp [World.cell?, hheap, Array.getElem?_append, hlt, hnj]
      let F' : Nat → Nat → Prop := fun b k => F b k ∨ b = w.heap.size
      have hmono : ∀ b k, F b k → F' b k := fun b k h => .inl h
      refine ⟨_, F', W, hgo _ _ (by rw [hu, hv]; exact hrun), ⟨hmono, hst.1, hst.2.1, hst.2.2.1, by omega, hold, fun b k h => ?_, fun b k h => ?_⟩, ?_⟩
      · rcases h with h | h
        · exact .inl h
        · exact .inr (by omega)
      · rcases h with h | h
        · exact .inr h
        · exact .inl (by omega)
      · exact RP.sl (F := F') (b := w.heap.size) (o := 0) us (by omega) hys (fun j hj => .inr rfl) hcell
          (fun q el hq j z hz => RP.mono hmono (fun b' k' hb' => cell_of_heap (hold b' (i.frz b' k' hb'))) (hr q el hq j z hz))
/-! ### 2. A nil slice in a variable, told as an array of the call's own -/
theorem rel_ownC {id off : Nat} (e : TypeId) (sz : Nat) {L : List C} (ho : σ[id]? = some (.cells L)) (hL : L[off]? = some (.p (.lit (.slice none 0 0)))) (m : List Loc) (F : Nat → Nat → Prop) (a : Act) (w : World) (hr : Rel N m F ⟨fr, σ⟩ a w) :
    ∃ m' F', Rel N m' F' ⟨fr, (σ ++ [AObj.arr e sz []]).set id (.cells (L.set off (.ms σ.length 0)))⟩ a w ∧ Step m F σ w m' F' ((σ ++ [AObj.arr e sz []]).set id (.cells (L.set off (.ms σ.length 0)))) w := by
  have i := hr.inv
  obtain ⟨h1, h2⟩ := inv_new (o := AObj.arr e sz []) (l := .row none 0) i (Grow.refl F w) ⟨[], ⟨by simp, .inl ⟨rfl, rfl⟩⟩, by simp, fun i e h => by simp at h⟩ (fun b k hf => by simp [fp] at hf)
  have hlt : id < σ.length := (List.getElem?_eq_some_iff.1 ho).1
  have ho2 : (σ ++ [AObj.arr e sz []])[id]? = some (.cells L) := by rw [List.getElem?_append_left hlt]; exact ho
  have hid2 : id < (m ++ [Loc.row none 0]).length := by rw [h1.len]; exact (List.getElem?_eq_some_iff.1 ho2).1
  have hm2 := List.getElem?_eq_getElem hid2
  have hob2 := h1.obj id _ _ ho2 hm2
  generalize (m ++ [Loc.row none 0])[id] = lc2 at hm2 hob2
  cases lc2 with
  | row _ _ => exact hob2.elim
  | «at» b2 o2 =>
    obtain ⟨g1, g2⟩ := inv_set (w' := w) (o' := .cells (L.set off (.ms σ.length 0))) h1 ho2 hm2 (fun b k => by simp only [fp, List.length_set]) rfl ⟨rfl, rfl, rfl⟩ (fun _ _ => rfl) (fun _ _ _ => ⟨rfl, rfl⟩) (fun hRC hRP => by
      intro j c hj
      by_cases hjo : j = off
      · subst hjo
        rw [List.getElem?_set_self (List.getElem?_eq_some_iff.1 hL).1] at hj
        injection hj with hj; subst hj
        obtain ⟨⟨u, k1, k2⟩, k3⟩ := hob2 j _ hL
        have k2 : RP w F (.lit (.slice none 0 0)) u := k2
        refine ⟨⟨u, k1, none, 0, by rw [← i.len]; simp, Nat.le_refl _, RP.eq_lit k2⟩, k3⟩
      · rw [List.getElem?_set_ne (fun e => hjo e.symm)] at hj
        exact hob2 j c hj)
    have st := h2.trans i h1 g2
    exact ⟨_, F, ⟨g1, fun t => (hr.fr t).step i st, hr.size, hr.defers⟩, st⟩
theorem kw_ownC {c : Code} (id off : Nat) (e : TypeId) (sz : Nat) {L : List C} {n : Nat} (ho : σ[id]? = some (.cells L)) (hL : L[off]? = some (.p (.lit (.slice none 0 0)))) (hn : σ.length = n) (hσ : (σ ++ [AObj.arr e sz []]).set id (.cells (L.set off (.ms n 0))) = σ') (k : AWp P N c Q ⟨fr, σ'⟩) : AWp P N c Q ⟨fr, σ⟩ := by
  subst hn; subst hσ
  exact awp_of (rel_ownC e sz ho hL) k
/-! ### 3. What is the call's own, lent as what doesn't change -/
def isArr : AObj → Bool
  | .arr .. => true
  | .arrC .. => true
  | _ => false
def ownFP (σ : List AObj) (m : List Loc) (b k : Nat) : Prop := ∃ (i : Nat) (o : AObj) (l : Loc), σ[i]? = some o ∧ m[i]? = some l ∧ fp o l b k ∧ isArr o = true
inductive LC (σ : List AObj) : C → PV → Prop
  | p {x : PV} : LC σ (.p x) x
  | arr {id n : Nat} {e : TypeId} {sz : Nat} {l ys : List (List PV)} (ho : σ[id]? = some (.arr e sz l)) (hn : n ≤ l.length) (hy : l.take n = ys) : LC σ (.ms id n) (.sl sz ys)
  | arrC {id n : Nat} {e : TypeId} {sz : Nat} {l : List (List C)} {l' : List (List PV)} (ho : σ[id]? = some (.arrC e sz l)) (hn : n = l.length) (hl : l'.length = l.length)
      (hs : ∀ (i : Nat) a b, l[i]? = some a → l'[i]? = some b → b.length = a.length) (h : ∀ (i : Nat) a b (j : Nat) x y, l[i]? = some a → l'[i]? = some b → a[j]? = some x → b[j]? = some y → LC σ x y) : LC σ (.ms id n) (.sl sz l')
theorem rc_lend {m : List Loc} {F : Nat → Nat → Prop} {w : World} (i : Inv m F σ w) {c : C} {x : PV} (h : LC σ c x) : ∀ v, RC m w F c v → RP w (fun b k => F b k ∨ ownFP σ m b k) x v := by
  induction h with
  | p => intro v hv; exact RP.mono (fun _ _ h => .inl h) (fun _ _ _ => rfl) hv
  | @arr id n e sz l ys ho hn hy =>
    intro v hv
    subst hy
    obtain ⟨A, cap, hm, hcap, hv⟩ := hv
    rw [hv]
    cases A with
    | none =>
      obtain ⟨xs, e1, _⟩ := i.obj id _ _ ho hm
      have h0 : l.length = 0 := by
        rcases e1.2 with ⟨_, h5⟩ | ⟨_, _, _, h4, _⟩
        · exact h5
        · simp [rowV] at h4
      have : l.take n = [] := by
        have : l = [] := List.eq_nil_of_length_eq_zero h0
        subst this; simp
      rw [this, show n = 0 by omega]
      exact .sl0 ..
    | some b =>
      obtain ⟨us, hw, hs, hu⟩ := arr_cells i ho hm
      have hle : n * sz ≤ l.length * sz := Nat.mul_le_mul_right _ hn
      have hlen : (l.take n).length = n := by simp; omega
      have key := RP.sl (w := w) (F := fun b k => F b k ∨ ownFP σ m b k) (b := b) (o := 0) (cap := cap) (sz := sz) (l := l.take n) us (by omega) (fun e he => hs e (List.mem_of_mem_take he)) (fun j _ => .inr ⟨id, _, _, ho, hm, rfl, rfl⟩)
        (fun j hj => by rw [hlen] at hj; rw [Nat.zero_add]; exact (hw j (by omega)).1) (fun q el he j x hx => by
          rw [List.getElem?_take] at he
          split at he
          · exact RP.mono (fun _ _ h => .inl h) (fun _ _ _ => rfl) (hu q el he j x hx)
          · cases he)
      rw [hlen] at key
      exact key
  | @arrC id n e sz l l' ho hn hl hs h ih =>
    intro v hv
    obtain ⟨A, cap, hm, hcap, hv⟩ := hv
    rw [hv]
    cases A with
    | none =>
      obtain ⟨xs, e1, _⟩ := i.obj id _ _ ho hm
      have h0 : l.length = 0 := by
        rcases e1.2 with ⟨_, h5⟩ | ⟨_, _, _, h4, _⟩
        · exact h5
        · simp [rowV] at h4
      have : l' = [] := List.eq_nil_of_length_eq_zero (by omega)
      subst this
      rw [show n = 0 by omega]
      exact .sl0 ..
    | some b =>
      obtain ⟨us, hw, hz, hu⟩ := arrC_cells i ho hm
      have hget : ∀ (q : Nat) b, l'[q]? = some b → ∃ a, l[q]? = some a := fun q b hb => by
        have := (List.getElem?_eq_some_iff.1 hb).1
        exact ⟨_, List.getElem?_eq_getElem (by omega)⟩
      have key := RP.sl (w := w) (F := fun b k => F b k ∨ ownFP σ m b k) (b := b) (o := 0) (cap := cap) (sz := sz) (l := l') us (by omega) (fun el he => by
          obtain ⟨q, hq⟩ := List.getElem?_of_mem he
          obtain ⟨a, ha⟩ := hget q el hq
          rw [hs q a el ha hq]; exact hz a (List.mem_of_getElem? ha)) (fun j _ => .inr ⟨id, _, _, ho, hm, rfl, rfl⟩)
        (fun j hj => by rw [Nat.zero_add]; rw [hl] at hj; exact (hw j hj).1) (fun q el he j y hy => by
          obtain ⟨a, ha⟩ := hget q el he
          have hlen := hs q a el ha he
          have hj := (List.getElem?_eq_some_iff.1 hy).1
          have hx : a[j]? = some (a[j]'(by omega)) := List.getElem?_eq_getElem (by omega)
          exact ih q a el j _ y ha he hx hy _ (hu q a ha j _ hx))
      rw [hl, ← hn] at key
      exact key
inductive LV (σ : List AObj) : AV → AV → Prop
  | c {c : C} {x : PV} (h : LC σ c x) : LV σ (.c c) (.c (.p x))
  | agg {l : List C} {l' : List PV} (hl : l'.length = l.length) (h : ∀ (j : Nat) c x, l[j]? = some c → l'[j]? = some x → LC σ c x) : LV σ (.agg l) (.agg (l'.map .p))
theorem rv_lendV {m : List Loc} {F : Nat → Nat → Prop} {w : World} (i : Inv m F σ w) {x y : AV} (h : LV σ x y) {v : Value} (hv : RV m w F x v) : RV [] w (fun b k => F b k ∨ ownFP σ m b k) y v := by
  cases h with
  | c h => exact rc_lend i h v hv
  | @agg l l' hl h =>
    obtain ⟨cs, h1, h2, h3⟩ := hv
    refine ⟨cs, h1, by simp [h2, hl], fun j x hx => ?_⟩
    rw [List.getElem?_map, Option.map_eq_some_iff] at hx
    obtain ⟨y, hy, rfl⟩ := hx
    have hj := (List.getElem?_eq_some_iff.1 hy).1
    have hc : l[j]? = some (l[j]'(by omega)) := List.getElem?_eq_getElem (by omega)
    exact rc_lend i (h j _ y hc hy) _ (h3 j _ hc)
inductive LVL (σ : List AObj) : List AV → List AV → Prop
  | nil : LVL σ [] []
  | cons {x y : AV} {l r : List AV} (h : LV σ x y) (t : LVL σ l r) : LVL σ (x :: l) (y :: r)
theorem LVL.at {σ : List AObj} : ∀ {l r : List AV}, LVL σ l r → r.length = l.length ∧ ∀ (j : Nat) y, r[j]? = some y → ∃ x, l[j]? = some x ∧ LV σ x y
  | _, _, .nil => ⟨rfl, fun j y h => by simp at h⟩
  | _, _, .cons h t => by
    obtain ⟨h1, h2⟩ := LVL.at t
    refine ⟨by simp [h1], fun j y hj => ?_⟩
    cases j with
    | zero => simp at hj; subst hj; exact ⟨_, rfl, h⟩
    | succ j => simpa using h2 j y (by simpa using hj)
theorem ownFP_fp {m : List Loc} {b k : Nat} (h : ownFP σ m b k) : FP σ m b k := by
  obtain ⟨i, o, l, h1, h2, h3, _⟩ := h
  exact ⟨i, o, l, h1, h2, h3⟩
theorem b_lendV {dd : Option Nat} {g : Option (Nat × Bool)} {f : FuncId} [TFn P f] {y : Operand} {xs : Array Operand} {ts : Array TypeId} {cs args : List AV} {v : AV} (h : ACalls P f args [] (fun r _ => r = .ret v)) (hl : LVL σ cs args) (hy : ev fr y = .c (.p (.lit (.func (.func f) #[] #[]))) := by exact rfl) (hx : xs.toList.map (ev fr) = cs := by (try simp only [↓ev, litAV, ↓Fr.get, ↓reduceIte, Nat.reduceEqDiff, List.map]) <;> rfl) (hv : litV v = true := by rfl) (hg : xs.toList.all goodConst = true := by rfl) :
    RStep P σ fr ⟨dd, .call { callee := .value y, args := xs, argTypes := ts }, ty, pos, aft, g⟩ v := by
  intro m F w a i hs K Q hK
  have hs' : ∀ x, x ∈ xs → goodConst x = true → RV m w F (ev fr x) (a.eval x) := fun x hx hc => ev_rv hc fun t e => by subst e; exact hs t (by simp [Op.operands, Call.operands, hx])
  have hf : a.eval y = .func (.func f) #[] #[] := by
    have := ev_rv (fr := fr) (m := m) (w := w) (F := F) (a := a) (good_of_lit hy) (fun t e => by subst e; exact hs t (by simp [Op.operands, Call.operands]))
    rw [hy] at this
    exact RP.eq_lit this
  obtain ⟨h1, h2⟩ := callArgs hx hs' hg
  obtain ⟨l1, l2⟩ := hl.at
  have i1 : Inv [] (fun b k => F b k ∨ ownFP σ m b k) [] w := by
    refine ⟨rfl, fun b k hF => ?_, fun b k ⟨j, o, l, h, _⟩ => by simp at h, fun j o l h => by simp at h, fun j k o l o' l' _ h => by simp at h, fun b k ⟨j, o, l, h, _⟩ => by simp at h⟩
    rcases hF with hF | hF
    · exact i.frz b k hF
    · exact i.lt b k (ownFP_fp hF)
  refine wp_callFn hf ((h [] _ w _ i1 (by rw [h1, l1]) (fun j z hj => ?_)).mono fun e w' he => ?_)
  · obtain ⟨x, hx, hlx⟩ := l2 j z hj
    exact rv_lendV i hlx (h2 j x hx)
  · obtain ⟨m', F', σ', r, rfl, hr, hi, hst⟩ := he
    have hn : ∀ b k, ¬ FP [] [] b k := fun b k ⟨j, o, l, h, _⟩ => by simp at h
    have hgr : Grow F w F w' := ⟨fun _ _ h => h, hst.os, hst.tape, hst.output, hst.size, fun b hb => hst.blk b hb (hn b), fun _ _ h => .inl h, fun _ _ h => .inr h⟩
    cases e with
    | returned u => exact hK u F w' hgr (rv_litV hv hr)
    | panicked ch => exact hr.elim
    | outgrown => exact hr.elim
/-! ### 4. A call that is lent to, and brings back what is its own: nothing that it brings back leans on what was lent -/
def flatP : PV → Bool
  | .lit _ => true
  | .sl _ [] => true
  | _ => false
def flatC : C → Bool
  | .p x => flatP x
  | .ms id _ => Nat.blt 0 id
  | _ => false
def flatO : AObj → Bool
  | .arr _ _ l => l.all fun e => e.all flatP
  | .arrC _ _ l => l.all fun e => e.all flatC
  | .dead => true
  | _ => false
def flatV0 : AV → Bool
  | .c x => flatC x
  | .agg l => l.all flatC
  | .tup _ => false
def flatV : AV → Bool
  | .tup l => l.all flatV0
  | x => flatV0 x
/-- The names, told anew: what the call left lies behind what was there. -/
def mvC (s : Nat) : C → C
  | .ms id n => .ms (s + id - 1) n
  | x => x
def mvO (s : Nat) : AObj → AObj
  | .arrC e sz l => .arrC e sz (l.map fun e => e.map (mvC s))
  | x => x
def mvV0 (s : Nat) : AV → AV
  | .c x => .c (mvC s x)
  | .agg l => .agg (l.map (mvC s))
  | x => x
def mvV (s : Nat) : AV → AV
  | .tup l => .tup (l.map (mvV0 s))
  | x => mvV0 s x
theorem rp_flat {w w' : World} {F F' : Nat → Nat → Prop} {x : PV} {v : Value} (hx : flatP x = true) (h : RP w F x v) : RP w' F' x v := by
  cases x <;> simp [flatP] at hx
  · have e := RP.eq_lit h
    have o := RP.one h
    subst e
    exact .lit o
  · rename_i sz l
    cases l with
    | cons => simp [flatP] at hx
    | nil =>
      generalize hy : PV.sl sz [] = y at h
      cases h <;> first | cases hy | skip
      all_goals exact .sl0 ..
theorem rc_flat {m m' : List Loc} {s : Nat} {w w' : World} {F F' : Nat → Nat → Prop} (hm : ∀ j, 0 < j → m[j]? = m'[s + j - 1]?) {c : C} {v : Value} (hc : flatC c = true) (h : RC m w F c v) : RC m' w' F' (mvC s c) v := by
  cases c <;> simp [flatC] at hc
  · exact rp_flat hc h
  · obtain ⟨A, cap, h1, h2, h3⟩ := h
    exact ⟨A, cap, by rw [← hm _ hc]; exact h1, h2, h3⟩
theorem rv0_flat {m m' : List Loc} {s : Nat} {w w' : World} {F F' : Nat → Nat → Prop} (hm : ∀ j, 0 < j → m[j]? = m'[s + j - 1]?) {x : AV} {v : Value} (hx : flatV0 x = true) (h : RV0 m w F x v) : RV0 m' w' F' (mvV0 s x) v := by
  cases x with
  | c x => exact rc_flat hm hx h
  | tup l => cases hx
  | agg l =>
    obtain ⟨cs, h1, h2, h3⟩ := h
    refine ⟨cs, h1, by simpa using h2, fun j y hy => ?_⟩
    rw [List.getElem?_map, Option.map_eq_some_iff] at hy
    obtain ⟨c, hc, rfl⟩ := hy
    exact rc_flat hm (List.all_eq_true.1 hx c (List.mem_of_getElem? hc)) (h3 j c hc)
theorem rv_flat {m m' : List Loc} {s : Nat} {w w' : World} {F F' : Nat → Nat → Prop} (hm : ∀ j, 0 < j → m[j]? = m'[s + j - 1]?) {x : AV} {v : Value} (hx : flatV x = true) (h : RV m w F x v) : RV m' w' F' (mvV s x) v := by
  cases x with
  | c x => exact rc_flat hm hx h
  | agg l => exact rv0_flat (x := .agg l) hm hx h
  | tup l =>
    obtain ⟨cs, h1, h2, h3⟩ := h
    refine ⟨cs, h1, by simpa using h2, fun j y hy => ?_⟩
    rw [List.getElem?_map, Option.map_eq_some_iff] at hy
    obtain ⟨c, hc, rfl⟩ := hy
    exact rv0_flat hm (List.all_eq_true.1 hx c (List.mem_of_getElem? hc)) (h3 j c hc)
theorem obj_flat {m m' : List Loc} {s : Nat} {w : World} {F F' : Nat → Nat → Prop} (hm : ∀ j, 0 < j → m[j]? = m'[s + j - 1]?) {o : AObj} {l : Loc} (ho : flatO o = true) (h : ObjAt m w F o l) : ObjAt m' w F' (mvO s o) l := by
  cases o with
  | cells => cases ho
  | ext => cases ho
  | dead => cases l <;> trivial
  | arr e sz l' =>
    cases l with
    | «at» => exact h.elim
    | row A cap =>
      obtain ⟨xs, h1, h2, h3⟩ := h
      exact ⟨xs, h1, h2, fun i e he j x hx => rp_flat (List.all_eq_true.1 (List.all_eq_true.1 ho e (List.mem_of_getElem? he)) x (List.mem_of_getElem? hx)) (h3 i e he j x hx)⟩
  | arrC e sz l' =>
    cases l with
    | «at» => exact h.elim
    | row A cap =>
      obtain ⟨xs, h1, h2, h3⟩ := h
      refine ⟨xs, by simpa using h1, fun e he => ?_, fun i e he j x hx => ?_⟩
      · obtain ⟨e0, he0, rfl⟩ := List.mem_map.1 he
        simpa using h2 e0 he0
      · rw [List.getElem?_map, Option.map_eq_some_iff] at he
        obtain ⟨e0, he0, rfl⟩ := he
        rw [List.getElem?_map, Option.map_eq_some_iff] at hx
        obtain ⟨x0, hx0, rfl⟩ := hx
        exact rc_flat hm (List.all_eq_true.1 (List.all_eq_true.1 ho e0 (List.mem_of_getElem? he0)) x0 (List.mem_of_getElem? hx0)) (h3 i e0 he0 j x0 hx0)
theorem fp_mv {s : Nat} {o : AObj} {l : Loc} {b k : Nat} : fp (mvO s o) l b k ↔ fp o l b k := by
  cases o <;> cases l <;> exact Iff.rfl
theorem inv_lend {X : XO} (hX : ∀ w F F' l, X.ok w F l → X.ok w F' l) {m : List Loc} {F : Nat → Nat → Prop} {w w' : World} (i : Inv m F σ w) (h0 : σ[0]? = some (.ext X)) {l0 : Loc} (hl0 : m[0]? = some l0)
    {k : List Loc} {F' : Nat → Nat → Prop} {news : List AObj} (ic : Inv (l0 :: k) F' (.ext X :: news) w') (st : Step [l0] (fun b k => F b k ∨ ownFP σ m b k) [.ext X] w (l0 :: k) F' (.ext X :: news) w') (hflat : news.all flatO = true) :
    Inv (m ++ k) F (σ ++ news.map (mvO σ.length)) w' ∧ Step m F σ w (m ++ k) F (σ ++ news.map (mvO σ.length)) w' := by
  have hkl : k.length = news.length := by have := ic.len; simpa using this
  have hX0 : ∀ b q, FP [.ext X] [l0] b q → X.fp l0 b q := by
    rintro b q ⟨j, o, l, h1, h2, h3⟩
    cases j with
    | zero => simp at h1 h2; subst h1; subst h2; exact h3
    | succ j => simp at h1
  have hXσ : ∀ b q, X.fp l0 b q → FP σ m b q := fun b q h => ⟨0, _, _, h0, hl0, h⟩
  have hnX : ∀ (j : Nat) o l b q, j ≠ 0 → σ[j]? = some o → m[j]? = some l → fp o l b q → ¬ X.fp l0 b q := fun j o l b q hj h1 h2 h3 h4 => i.sep j 0 o l _ l0 hj h1 h2 h0 hl0 b q h3 h4
  have hFX : ∀ b q, F b q → ¬ X.fp l0 b q := fun b q hF hx => i.dis b q (hXσ b q hx) hF
  have hcel : ∀ b q, b < w.heap.size → ¬ X.fp l0 b q → w'.cell? ⟨b, q, none⟩ = w.cell? ⟨b, q, none⟩ ∧ w'.frozen? ⟨b, q, none⟩ = w.frozen? ⟨b, q, none⟩ := fun b q hb hx => st.cel b q hb (fun h => hx (hX0 b q h))
  have hFc : ∀ b q, F b q → w'.cell? ⟨b, q, none⟩ = w.cell? ⟨b, q, none⟩ := fun b q hF => (hcel b q (i.frz b q hF) (hFX b q hF)).1
  have hget : ∀ (j : Nat) o, (σ ++ news.map (mvO σ.length))[j]? = some o → (j < σ.length ∧ σ[j]? = some o) ∨ (∃ q o', j = σ.length + q ∧ news[q]? = some o' ∧ o = mvO σ.length o') := by
    intro j o h
    by_cases hj : j < σ.length
    · rw [List.getElem?_append_left hj] at h; exact .inl ⟨hj, h⟩
    · rw [List.getElem?_append_right (by omega), List.getElem?_map, Option.map_eq_some_iff] at h
      obtain ⟨o', h1, h2⟩ := h
      exact .inr ⟨j - σ.length, o', by omega, h1, h2.symm⟩
  have hmold : ∀ (j : Nat) l, j < σ.length → (m ++ k)[j]? = some l → m[j]? = some l := fun j l hj h => by
    rw [List.getElem?_append_left (by rw [i.len]; exact hj)] at h; exact h
  have hmnew : ∀ (q : Nat) l, (m ++ k)[σ.length + q]? = some l → (l0 :: k)[q + 1]? = some l := fun q l h => by
    rw [List.getElem?_append_right (by rw [i.len]; omega), i.len, show σ.length + q - σ.length = q by omega] at h
    simpa using h
  have hren : ∀ j, 0 < j → (l0 :: k)[j]? = (m ++ k)[σ.length + j - 1]? := fun j hj => by
    obtain ⟨j, rfl⟩ : ∃ q, j = q + 1 := ⟨j - 1, by omega⟩
    rw [List.getElem?_append_right (by rw [i.len]; omega), i.len, List.getElem?_cons_succ, show σ.length + (j + 1) - 1 - σ.length = j by omega]
  have hnews : ∀ (q : Nat) o' l b z, news[q]? = some o' → (l0 :: k)[q + 1]? = some l → fp o' l b z → ¬ X.fp l0 b z ∧ ¬ F' b z ∧ (w.heap.size ≤ b) := by
    intro q o' l b z h1 h2 h3
    have hfp : FP (.ext X :: news) (l0 :: k) b z := ⟨q + 1, o', l, by simpa using h1, h2, h3⟩
    have hd := ic.dis b z hfp
    have hx : ¬ X.fp l0 b z := fun h4 => ic.sep (q + 1) 0 o' l (.ext X) l0 (by omega) (by simpa using h1) h2 rfl rfl b z h3 h4
    refine ⟨hx, hd, ?_⟩
    rcases st.new b z (.inl hfp) with h4 | h4 | h4
    · exact absurd (hX0 b z h4) hx
    · exact absurd (st.fm b z h4) hd
    · exact h4
  have hFF : ∀ b z, F b z → F' b z := fun b z h => st.fm b z (.inl h)
  refine ⟨⟨by simp [i.len, hkl], fun b z hb => Nat.lt_of_lt_of_le (i.frz b z hb) st.size, ?_, ?_, ?_, ?_⟩, ⟨⟨k, rfl⟩, fun _ _ h => h, st.os, st.tape, st.output, st.size, fun b hb hn => st.blk b hb (fun z h => hn z (hXσ b z (hX0 b z h))), fun b z hb hn => hcel b z hb (fun h => hn (hXσ b z h)), ?_⟩⟩
  · rintro b z ⟨j, o, l, h1, h2, h3⟩
    rcases hget j o h1 with ⟨hj, g1⟩ | ⟨q, o', rfl, g1, rfl⟩
    · exact Nat.lt_of_lt_of_le (i.lt b z ⟨j, o, l, g1, hmold j l hj h2, h3⟩) st.size
    · exact ic.lt b z ⟨q + 1, o', l, by simpa using g1, hmnew q l h2, fp_mv.1 h3⟩
  · intro j o l h1 h2
    rcases hget j o h1 with ⟨hj, g1⟩ | ⟨q, o', rfl, g1, rfl⟩
    · have h2 := hmold j l hj h2
      by_cases hj0 : j = 0
      · subst hj0
        rw [h0] at g1; injection g1 with g1; subst g1
        rw [hl0] at h2; injection h2 with h2; subst h2
        exact hX w' F' F l0 (ic.obj 0 (.ext X) l0 rfl rfl)
      · refine ObjAt.mono (i.obj j o l g1 h2) (fun _ _ h => h) hFc (fun b z hf => ?_) (fun b z hf hall => ?_)
        · exact hcel b z (i.lt b z ⟨j, o, l, g1, h2, hf⟩) (hnX j o l b z hj0 g1 h2 hf)
        · refine st.blk b (i.lt b z ⟨j, o, l, g1, h2, hf⟩) (fun z' h => ?_)
          rcases hall z' with h4 | h4
          · exact hnX j o l b z' hj0 g1 h2 h4 (hX0 b z' h)
          · exact hFX b z' h4 (hX0 b z' h)
    · exact obj_flat hren (List.all_eq_true.1 hflat o' (List.mem_of_getElem? g1)) (ic.obj (q + 1) o' l (by simpa using g1) (hmnew q l h2))
  · intro j j' o l o' l' hne h1 h2 h3 h4 b z hf hg
    rcases hget j o h1 with ⟨hj, g1⟩ | ⟨q, p, rfl, g1, rfl⟩
    · have h2 := hmold j l hj h2
      rcases hget j' o' h3 with ⟨hj', g3⟩ | ⟨q', p', rfl, g3, rfl⟩
      · exact i.sep j j' o l o' l' hne g1 h2 g3 (hmold j' l' hj' h4) b z hf hg
      · have h5 := (hnews q' p' l' b z g3 (hmnew q' l' h4) (fp_mv.1 hg)).2.2
        have := i.lt b z ⟨j, o, l, g1, h2, hf⟩
        omega
    · have h5 := (hnews q p l b z g1 (hmnew q l h2) (fp_mv.1 hf)).2.2
      rcases hget j' o' h3 with ⟨hj', g3⟩ | ⟨q', p', rfl, g3, rfl⟩
      · have := i.lt b z ⟨j', o', l', g3, hmold j' l' hj' h4, hg⟩
        omega
      · exact ic.sep (q + 1) (q' + 1) p l p' l' (by omega) (by simpa using g1) (hmnew q l h2) (by simpa using g3) (hmnew q' l' h4) b z (fp_mv.1 hf) (fp_mv.1 hg)
  · rintro b z ⟨j, o, l, h1, h2, h3⟩ hF
    rcases hget j o h1 with ⟨hj, g1⟩ | ⟨q, o', rfl, g1, rfl⟩
    · exact i.dis b z ⟨j, o, l, g1, hmold j l hj h2, h3⟩ hF
    · exact (hnews q o' l b z g1 (hmnew q l h2) (fp_mv.1 h3)).2.1 (hFF b z hF)
  · rintro b z (⟨j, o, l, h1, h2, h3⟩ | hF)
    · rcases hget j o h1 with ⟨hj, g1⟩ | ⟨q, o', rfl, g1, rfl⟩
      · exact .inl ⟨j, o, l, g1, hmold j l hj h2, h3⟩
      · exact .inr (.inr (hnews q o' l b z g1 (hmnew q l h2) (fp_mv.1 h3)).2.2)
    · exact .inr (.inl hF)
theorem k_callLend {f : FuncId} [TFn P f] {X : XO} (hX : ∀ w F F' l, X.ok w F l → X.ok w F' l) {y : Operand} {xs : Array Operand} {ts : Array TypeId} {cs args : List AV} {Φ : AV → List AObj → Prop}
    (h : ACalls P f args [.ext X] (fun r σ' => ∃ rv news, Φ rv news ∧ r = .ret rv ∧ σ' = .ext X :: news)) (hΦ : ∀ rv news, Φ rv news → flatV rv = true ∧ news.all flatO = true) (h0 : σ[0]? = some (.ext X)) (hl : LVL σ cs args)
    (k : ∀ rv news, Φ rv news → AList P N ops Q rest ⟨(d, mvV σ.length rv) :: fr, σ ++ news.map (mvO σ.length)⟩) (hd : Nat.blt d N = true := by rfl)
    (hy : ev fr y = .c (.p (.lit (.func (.func f) #[] #[]))) := by exact rfl) (hx : xs.toList.map (ev fr) = cs := by (try simp only [↓ev, litAV, ↓Fr.get, ↓reduceIte, Nat.reduceEqDiff, List.map]) <;> rfl) (hg : xs.toList.all goodConst = true := by rfl) :
    AList P N ops Q (⟨some d, .call { callee := .value y, args := xs, argTypes := ts }, ty, pos, aft, none⟩ :: rest) ⟨fr, σ⟩ := by
  intro m F a w hr
  refine wpList_plain rfl fun K hK => ?_
  have i : Inv m F σ w := hr.inv
  have hml : m.length = σ.length := i.len
  have hf : a.eval y = .func (.func f) #[] #[] := by
    have := ev_rv (fr := fr) (m := m) (w := w) (F := F) (a := a) (good_of_lit hy) (fun t e => hr.fr t)
    rw [hy] at this
    exact RP.eq_lit this
  obtain ⟨h1, h2⟩ := callArgs hx (fun x _ hc => ev_rv hc fun t _ => hr.fr t) hg
  obtain ⟨l1, l2⟩ := hl.at
  have hid : 0 < m.length := by rw [i.len]; exact (List.getElem?_eq_some_iff.1 h0).1
  obtain ⟨l0, hl0⟩ : ∃ l, m[0]? = some l := ⟨_, List.getElem?_eq_getElem hid⟩
  have hX1 : X.ok w F l0 := i.obj 0 _ _ h0 hl0
  have i1 : Inv [l0] (fun b k => F b k ∨ ownFP σ m b k) [.ext X] w := by
    have one : ∀ (j : Nat) o l, ([.ext X] : List AObj)[j]? = some o → [l0][j]? = some l → o = .ext X ∧ l = l0 := fun j o l h1 h2 => by
      cases j with
      | zero => simp at h1 h2; exact ⟨h1.symm, h2.symm⟩
      | succ j => simp at h1
    refine ⟨rfl, fun b k hF => ?_, fun b k ⟨j, o, l, h1, h2, h3⟩ => ?_, fun j o l h1 h2 => ?_, fun j k o l o' l' hne h1 h2 h3 h4 => ?_, fun b k ⟨j, o, l, h1, h2, h3⟩ hF => ?_⟩
    · rcases hF with hF | hF
      · exact i.frz b k hF
      · exact i.lt b k (ownFP_fp hF)
    · obtain ⟨rfl, rfl⟩ := one j o l h1 h2
      exact i.lt b k ⟨0, _, _, h0, hl0, h3⟩
    · obtain ⟨rfl, rfl⟩ := one j o l h1 h2
      exact hX w F _ _ hX1
    · have a1 := (List.getElem?_eq_some_iff.1 h1).1
      have a2 := (List.getElem?_eq_some_iff.1 h3).1
      simp only [List.length_cons, List.length_nil] at a1 a2
      omega
    · obtain ⟨rfl, rfl⟩ := one j o l h1 h2
      rcases hF with hF | ⟨q, oq, lq, g1, g2, g3, g4⟩
      · exact i.dis b k ⟨0, _, _, h0, hl0, h3⟩ hF
      · by_cases hq : q = 0
        · subst hq
          rw [h0] at g1; injection g1 with g1; subst g1
          cases g4
        · exact i.sep q 0 oq lq _ _ hq g1 g2 h0 hl0 b k g3 h3
  refine wp_callFn hf ((h [l0] _ w _ i1 (by rw [h1, l1]) (fun j z hj => ?_)).mono fun e w' he => ?_)
  · obtain ⟨x, hx, hlx⟩ := l2 j z hj
    have := RV.mono (k := [l0]) (fun _ _ h => h) (fun _ _ _ => rfl) (rv_lendV i hlx (h2 j x hx))
    simpa using this
  · obtain ⟨m', F', σ', r, ⟨rv, news, hΦr, rfl, rfl⟩, hre, hi, hst⟩ := he
    obtain ⟨k2, rfl⟩ := hst.ext
    obtain ⟨hf1, hf2⟩ := hΦ rv news hΦr
    obtain ⟨g1, g2⟩ := inv_lend hX i h0 hl0 hi hst hf2
    cases e with
    | panicked ch => exact hre.elim
    | outgrown => exact hre.elim
    | returned u =>
      have hren : ∀ j, 0 < j → (l0 :: k2)[j]? = (m ++ k2)[σ.length + j - 1]? := fun j hj => by
        obtain ⟨j, rfl⟩ : ∃ q, j = q + 1 := ⟨j - 1, by omega⟩
        rw [List.getElem?_append_right (by rw [hml]; omega), hml, List.getElem?_cons_succ, show σ.length + (j + 1) - 1 - σ.length = j by omega]
      have hv : RV (m ++ k2) w' F (mvV σ.length rv) u := rv_flat hren hf1 hre
      have hr1 : Rel N (m ++ k2) F ⟨fr, σ ++ news.map (mvO σ.length)⟩ a w' := ⟨g1, fun t => (hr.fr t).step i g2, hr.size, hr.defers⟩
      have hr2 := hr1.put (d := some d) (fun t ht => by injection ht with ht; subst ht; exact blt_lt hd) hv
      exact hK _ _ (wpList_post_mono (fun e a1 w1 hp => hp.trans hr.inv g1 g2) _ _ _ (k rv news hΦr (m ++ k2) F _ w' hr2))
end
end Go.AL
set_option linter.unusedVariables false
set_option linter.unusedSimpArgs false
namespace Go.AL
open Go.RowKit
section
variable {P : Program} {N : Nat} {Q : AE → St → Prop} {ops : Array Oper} {rest : List Oper} {σ σ' : List AObj} {fr : Fr}
variable {ty : TypeId} {pos : String} {aft : Array Edge} {v : AV}
/-- A call that is handed the variable and its array; nothing else stands in front. -/
theorem k_callB3 {d : Nat} {f : FuncId} [TFn P f] {y : Operand} {xs : Array Operand} {ts : Array TypeId} {cargs : List AV} {rv : AV} {a a' b b' : List PV} {n n' : Nat} {e : TypeId} {sz : Nat} {l l' : List (List PV)} {gg : List AObj} {M : Nat} {o1 o2 : AObj}
    (h : ACalls P f cargs [.cells (bC a 1 n b), .arr e sz l] (fun r σ' => r = .ret rv ∧ BEnd [] 1 a' n' b' e sz l' σ')) (hM : 3 + gg.length = M)
    (kont : ∀ g' M', 3 + g'.length = M' → AList P N ops Q rest ⟨(d, rv) :: fr, [o1, o2, .cells (bC a' (M' + 0) n' b')] ++ (g' ++ [.arr e sz l'])⟩)
    (ha : a'.length = a.length := by rfl) (hb : b'.length = b.length := by rfl) (hv : pureV rv = true := by rfl)
    (hy : ev fr y = .c (.p (.lit (.func (.func f) #[] #[]))) := by exact rfl) (hx : xs.toList.map (ev fr) = cargs.map (renV (ren1 [(2, 0), (M + 0, 0)])) := by (try simp only [↓ev, litAV, ↓Fr.get, ↓reduceIte, Nat.reduceEqDiff, List.map]) <;> rfl) (hok : cargs.all (okV 2) = true := by rfl)
    (hd : Nat.blt d N = true := by rfl) (hg : xs.toList.all goodConst = true := by rfl) :
    AList P N ops Q (⟨some d, .call { callee := .value y, args := xs, argTypes := ts }, ty, pos, aft, none⟩ :: rest) ⟨fr, [o1, o2, .cells (bC a (M + 0) n b)] ++ (gg ++ [.arr e sz l])⟩ := by
  subst hM
  have hlen : ([o1, o2, AObj.cells (bC a (3 + gg.length + 0) n b)] ++ (gg ++ [AObj.arr e sz l])).length = 3 + gg.length + 1 := by simp; omega
  have hnd : (([(2, 0), (3 + gg.length + 0, 0)] : List (Nat × Nat)).map (·.1)).Nodup := by
    simp; omega
  have hlast : ([o1, o2, AObj.cells (bC a (3 + gg.length + 0) n b)] ++ (gg ++ [AObj.arr e sz l]))[3 + gg.length]? = some (.arr e sz l) := by
    rw [← List.append_assoc, List.getElem?_append_right (by simp; omega)]
    have : 3 + gg.length - ([o1, o2, AObj.cells (bC a (3 + gg.length + 0) n b)] ++ gg).length = 0 := by simp; omega
    rw [this]; rfl
  refine w_call (ι := Nat) (Φ := fun _ => True) (rr := fun _ => .ret rv) (σo := fun k => .cells (bC a' (1 + k) n' b') :: (List.replicate k .dead ++ [.arr e sz l'])) (σc := [.cells (bC a 1 n b), .arr e sz l]) (cargs := cargs) [(2, 0), (3 + gg.length + 0, 0)] hy
    ((bend_norm h).mono fun r σ' ⟨h1, k, h2⟩ => ⟨k, trivial, h1, [], by simp [h2]⟩) hx hok rfl hnd (fun k id off oc h1 h2 => ?_) (fun k _ => ⟨?_, okV_pure _ hv⟩) hd (fun k _ => ?_) hg
  · match k with
    | 0 =>
      simp at h1 h2
      obtain ⟨rfl, rfl⟩ := h1; subst h2
      refine ⟨_, rfl, _, rfl, by simp [len_bC], ?_, ok_bC (by simp) _ _ _⟩
      rw [ren_bC]
      simp [ren1, len_bC]
      rw [List.take_of_length_le (by simp [len_bC])]
    | 1 =>
      simp at h1 h2
      obtain ⟨rfl, rfl⟩ := h1; subst h2
      exact ⟨_, hlast, rfl⟩
    | k + 2 => simp at h1
  · have h1 : (bC a' (1 + k) n' b').all (okC ((AObj.cells (bC a' (1 + k) n' b') :: (List.replicate k .dead ++ [.arr e sz l'])).length)) = true := ok_bC (by simp; omega) _ _ _
    have h2 : Nat.beq (bC a' (1 + k) n' b').length (bC a 1 n b).length = true := by rw [len_bC, len_bC, ha, hb]; exact Nat.beq_refl _
    cases k with
    | zero => simp only [okBack, List.replicate_zero, List.nil_append] at h1 ⊢; rw [h1, h2]; rfl
    | succ k =>
      simp only [okBack, List.replicate_succ, List.cons_append] at h1 ⊢
      rw [h1, h2]
      simp [okO]
  · rw [hlen]
    have hren : (ren2 [(2, 0), (3 + gg.length + 0, 0)] (3 + gg.length + 1) (1 + k)).1 = 3 + gg.length + k := by
      simp only [ren2, List.length_cons, List.length_nil]
      cases k with
      | zero => rfl
      | succ k => rw [if_neg (by omega)]; simp; omega
    have hb0 : backO (ren2 [(2, 0), (3 + gg.length + 0, 0)] (3 + gg.length + 1)) (.cells (bC a (3 + gg.length + 0) n b)) 0 (.cells (bC a' (1 + k) n' b')) = .cells (bC a' (3 + gg.length + k) n' b') := by
      simp only [backO]
      rw [ren_bC, hren, lay_all (by rw [len_bC, len_bC, ha, hb])]
    have key := kont (gg ++ List.replicate k .dead) (3 + gg.length + k) (by simp; omega)
    have e1 : renV (ren2 [(2, 0), (3 + gg.length + 0, 0)] (3 + gg.length + 1)) rv = rv := renV_pure _ hv
    simp only [e1]
    have e2 : back (ren2 [(2, 0), (3 + gg.length + 0, 0)] (3 + gg.length + 1)) ([o1, o2, .cells (bC a (3 + gg.length + 0) n b)] ++ (gg ++ [.arr e sz l])) [(2, 0), (3 + gg.length + 0, 0)] (.cells (bC a' (1 + k) n' b') :: (List.replicate k .dead ++ [.arr e sz l'])) = [o1, o2, .cells (bC a' (3 + gg.length + k + 0) n' b')] ++ ((gg ++ List.replicate k .dead) ++ [.arr e sz l']) := by
      have s1 : ∀ o, ([o1, o2, AObj.cells (bC a' (3 + gg.length + k) n' b')] ++ (gg ++ [AObj.arr e sz l])).set (3 + gg.length + 0) o = [o1, o2, AObj.cells (bC a' (3 + gg.length + k) n' b')] ++ (gg ++ [o]) := fun o => by
        rw [← List.append_assoc, ← List.append_assoc, List.set_append_right _ _ (by simp; omega)]
        have : 3 + gg.length + 0 - ([o1, o2, AObj.cells (bC a' (3 + gg.length + k) n' b')] ++ gg).length = 0 := by simp; omega
        rw [this]; rfl
      have s0 : ([o1, o2, AObj.cells (bC a (3 + gg.length + 0) n b)] ++ (gg ++ [AObj.arr e sz l])).getD 2 .dead = .cells (bC a (3 + gg.length + 0) n b) := rfl
      have s2 : ([o1, o2, AObj.cells (bC a (3 + gg.length + 0) n b)] ++ (gg ++ [AObj.arr e sz l])).set 2 (.cells (bC a' (3 + gg.length + k) n' b')) = [o1, o2, AObj.cells (bC a' (3 + gg.length + k) n' b')] ++ (gg ++ [AObj.arr e sz l]) := rfl
      rw [back, s0, hb0, s2]
      cases k with
      | zero =>
        rw [List.replicate_zero, List.nil_append]
        show back _ (List.set _ _ (backO _ _ _ (.arr e sz l'))) [] [] = _
        rw [backO_arr, s1]
        simp [back]
      | succ k =>
        rw [List.replicate_succ]
        show back _ (List.set _ _ (backO _ _ _ .dead)) [] (List.replicate k .dead ++ [.arr e sz l']) = _
        rw [backO_dead, s1]
        simp [back, renO]
    rw [e2]
    exact key
end
end Go.AL
