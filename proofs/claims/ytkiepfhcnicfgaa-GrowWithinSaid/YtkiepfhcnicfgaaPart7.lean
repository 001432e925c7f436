/-
  Part 7 of the proof: what the functions that the law reaches come to.
-/
import Derived.Below
import Derived.ChangeKeysEq
import Derived.Deep.Draws
import Derived.Ground.Names2Prog
import Derived.KernelRfl
import Derived.Laws.CopyRow
import Derived.Laws.Cover3
import Derived.Laws.IdiomCopy
import Derived.Laws.IdiomStrings
import Derived.Laws.OwnMore
import Derived.Laws.Rows
import Derived.Laws.Small
import Derived.Laws.Strings3
import Derived.Laws.StructEq
import Derived.Lib.AppendZeros
import Derived.Maps.AppendAt
import Derived.Orders
import Derived.Recover
import Derived.Shelf.Slices.Cells
import Derived.Shelf.Slices.CompactI
import Derived.Shelf.Slices.In.SortNone
import Derived.Shelf.Small.Strs
import Derived.Shelf.Small.Utf8
import Derived.Shelf.Small.Wraps
import Derived.Shelf.Sort.Plain
import Derived.Shelf.Strings.AsciiSet
import Derived.Shelf.Strings.IndexAny
import Derived.Shelf.Strings.IndexAnyAll
import Derived.Shelf.Strings.Prefix
import Derived.Shelf.Strings.Runes
import Derived.Shelf.Strings.Search1
import Derived.Sort.OwnSortedInts
import Derived.Sort.Row
import Derived.StillTail
import Derived.Tactics
import Derived.Test.YtkiepfhcnicfgaaProg
import Derived.WideKeyRuns
import Derived.WideLaws
import Derived.Test.YtkiepfhcnicfgaaPart6
set_option linter.all false
set_option linter.unusedVariables false
set_option linter.unusedSimpArgs false
namespace Go.AL
open Go.Proofs
set_option maxRecDepth 10000
abbrev psL : List (List (Int × Int)) := [[(-1, -1)], [(-1, -1), (-1, -1), (0, 1), (2, -1), (-1, -1), (3, 4)]]
section
variable (a b : UInt8)
theorem asciie : Ascii ⟨#[101]⟩ := by
  intro j c h
  match j, h with
  | 0, h => injection h with h; subst h; decide
  | j + 1, h => simp at h
theorem ascii0 : Ascii ⟨#[]⟩ := by
  intro j c h
  simp at h
theorem core_left : CoreIn (leftC a b) := by
  refine ⟨by simp [leftC], by show (7 : Int) ≤ _; omega, ?_⟩
  intro r hr
  simp only [leftC, List.mem_cons, List.not_mem_nil, or_false] at hr
  rcases hr with rfl | rfl
  · refine ⟨by decide, fun n hn => ?_⟩
    simp only [List.mem_cons, List.not_mem_nil, or_false] at hn
    rcases hn with rfl
    exact ⟨by decide, fun _ => ascii0⟩
  · refine ⟨by show (1 : Nat) < _; omega, fun n hn => ?_⟩
    simp only [List.mem_cons, List.not_mem_nil, or_false] at hn
    rcases hn with rfl | rfl | rfl | rfl | rfl | rfl
    · exact ⟨by decide, fun _ => ascii0⟩
    · exact ⟨by show (0 : Nat) < _; omega, fun _ => ascii0⟩
    · exact ⟨by decide, fun _ => ascii0⟩
    · exact ⟨by decide, fun _ => asciie⟩
    · exact ⟨by show (0 : Nat) < _; omega, fun _ => ascii0⟩
    · exact ⟨by decide, fun _ => ascii0⟩
theorem ok_set (n d : Int) (x : UInt8) (h : 0 ≤ d) : okN n d (setN x) = true := decide_eq_true ⟨h, by show (0 : Int) ≤ 1; decide, by show (1 : Int) ≤ 8; decide, fun q => absurd q (by show ¬ (1 : Int) = 2; decide), fun q => absurd q (by show ¬ ((1 : Int) = 3 ∨ (1 : Int) = 8); decide), rfl⟩
theorem check_left : checkI (leftC a b) = 0 := by
  unfold checkI
  rw [if_neg (by rintro (h | h | h | h | h) <;> revert h <;> (first | (show ¬ ((2 : Nat) < 1); omega) | (show ¬ ((2 : Nat) > 256); omega) | (show ¬ ((0 : Int) < 0); omega) | (show ¬ ((0 : Int) ≥ 2); omega) | (show ¬ ((7 : Int) > 16384); omega)))]
  rw [if_pos]
  have e1 : rightL 2 [ruleN] 0 = true := by decide +kernel
  have e2 : rightL 2 (leftB a b) 0 = true := by
    simp only [rightL, Bool.and_eq_true]
    refine ⟨by decide +kernel, ok_set _ _ b (by decide), by decide +kernel, by decide +kernel, ok_set _ _ a (by decide), by decide +kernel, rfl⟩
  have e3 : nameOk ⟨#[83]⟩ = true := by decide +kernel
  have e4 : nameOk ⟨#[69]⟩ = true := by decide +kernel
  have e5 : (idxK (⟨#[83]⟩ : ByteArray) []).isSome = false := by decide +kernel
  have e6 : (idxK (⟨#[69]⟩ : ByteArray) ([] ++ [⟨#[83]⟩])).isSome = false := by decide +kernel
  show checkL 2 [⟨⟨#[83]⟩, [ruleN]⟩, ⟨⟨#[69]⟩, leftB a b⟩] [] = true
  simp only [checkL, e1, e2, e3, e4, e5, e6]
  rfl
theorem two_cases {P : Int → Prop} {r : Int} (r0 : 0 ≤ r) (r1 : r < ((leftC a b).rules.length : Nat)) (h0 : P 0) (h1 : P 1) : P r := by
  have : r < 2 := r1
  obtain rfl | rfl : r = 0 ∨ r = 1 := by omega
  · exact h0
  · exact h1
theorem one_cases {P : Int → Prop} {k : Int} (k0 : 0 ≤ k) (k1 : k < ((at' (leftC a b).rules 0).body.length : Nat)) (h0 : P 0) : P k := by
  have : k < 1 := k1
  obtain rfl : k = 0 := by omega
  exact h0
theorem six_cases {P : Int → Prop} {k : Int} (k0 : 0 ≤ k) (k1 : k < ((at' (leftC a b).rules 1).body.length : Nat)) (h0 : P 0) (h1 : P 1) (h2 : P 2) (h3 : P 3) (h4 : P 4) (h5 : P 5) : P k := by
  have : k < 6 := k1
  obtain rfl | rfl | rfl | rfl | rfl | rfl : k = 0 ∨ k = 1 ∨ k = 2 ∨ k = 3 ∨ k = 4 ∨ k = 5 := by omega
  all_goals assumption
theorem solv_left : SolvIn (leftC a b) psL 2 where
  rules := by show (2 : Nat) ≤ 1000; omega
  body := fun r r0 r1 => two_cases a b (P := fun r => (at' (leftC a b).rules r).body.length ≤ 1000000) r0 r1 (by show (1 : Nat) ≤ _; omega) (by show (6 : Nat) ≤ _; omega)
  parts := rfl
  part := fun r r0 r1 => two_cases a b (P := fun r => (at' psL r).length = (at' (leftC a b).rules r).body.length) r0 r1 rfl rfl
  lt := fun r k r0 r1 k0 k1 => by
    have h2 : r < 2 := r1
    obtain rfl | rfl : r = 0 ∨ r = 1 := by omega
    · exact one_cases a b (P := fun k => (at' (at' psL 0) k).1 < 1 ∧ (at' (at' psL 0) k).2 < 1) k0 k1 (by decide)
    · exact six_cases a b (P := fun k => (at' (at' psL 1) k).1 < 6 ∧ (at' (at' psL 1) k).2 < 6) k0 k1 (by decide) (by decide) (by decide) (by decide) (by decide) (by decide)
  rule := fun r k r0 r1 k0 k1 => by
    have h2 : r < 2 := r1
    obtain rfl | rfl : r = 0 ∨ r = 1 := by omega
    · exact one_cases a b (P := fun k => (at' [ruleN] k).op = 2 → 0 ≤ (at' [ruleN] k).rule ∧ (at' [ruleN] k).rule < 2) k0 k1 (by decide)
    · exact six_cases a b (P := fun k => (at' (leftB a b) k).op = 2 → 0 ≤ (at' (leftB a b) k).rule ∧ (at' (leftB a b) k).rule < 2) k0 k1 (fun _ => by show (0 : Int) ≤ 1 ∧ (1 : Int) < 2; omega) (fun h => absurd (show (1 : Int) = 2 from h) (by decide)) (fun h => absurd (show (4 : Int) = 2 from h) (by decide)) (fun h => absurd (show (8 : Int) = 2 from h) (by decide)) (fun h => absurd (show (1 : Int) = 2 from h) (by decide)) (fun h => absurd (show (5 : Int) = 2 from h) (by decide))
theorem facts_left : FactsIn (leftC a b) psL (leftC a b).rules.length where
  inn := solv_left a b
  ne := fun r r0 r1 => two_cases a b (P := fun r => 0 < (at' (leftC a b).rules r).body.length) r0 r1 (by show 0 < 1; omega) (by show 0 < 6; omega)
  n := rfl
theorem solve_left : SolveIn (leftC a b) psL [noMay, noMay] [noCls, noCls] where
  fin := facts_left a b
  div := fun r hr => by
    have h2 : r < 2 := hr
    obtain rfl | rfl : r = 0 ∨ r = 1 := by omega
    · rfl
    · rfl
  comes := ⟨1, rfl⟩
  firsts := ⟨1, rfl⟩
theorem info_left : ∃ c0 i1 i2 i3 i4 i5, infoM (leftC a b) psL [noMay, noMay] [noCls, noCls] 1 = [⟨noMay, c0⟩, i1, i2, i3, i4, i5] := ⟨_, _, _, _, _, _, rfl⟩
theorem frn_left (c0 : Cls) (i1 i2 i3 i4 i5 : Info) : frnF (leftB a b) [(-1, -1), (-1, -1), (0, 1), (2, -1), (-1, -1), (3, 4)] [⟨noMay, c0⟩, i1, i2, i3, i4, i5] 10 [5] [] = some [1] := by
  simp [frnF, nextsI, at', noMay]
theorem find_left : FindIn (leftC a b) psL [noMay, noMay] [noCls, noCls] [[1], [1]] where
  solve := solve_left a b
  len := rfl
  prt := fun r hr => by
    have h2 : r < 2 := hr
    obtain rfl | rfl : r = 0 ∨ r = 1 := by omega
    · exact ⟨[(-1, -1)], 10, rfl, by omega, rfl⟩
    · obtain ⟨c0, i1, i2, i3, i4, i5, e⟩ := info_left a b
      refine ⟨[(-1, -1), (-1, -1), (0, 1), (2, -1), (-1, -1), (3, 4)], 10, rfl, by omega, ?_⟩
      show frnF (leftB a b) _ (infoM (leftC a b) psL [noMay, noMay] [noCls, noCls] 1) 10 [5] [] = some [1]
      rw [e]
      exact frn_left a b c0 i1 i2 i3 i4 i5
  star := fun r k hr hk h6 => by
    exfalso
    have h2 : r < 2 := hr
    obtain rfl | rfl : r = 0 ∨ r = 1 := by omega
    · exact one_cases a b (P := fun k => (at' [ruleN] k).op ≠ 6) (k := k) (by omega) (by have : k < 1 := hk; show (k : Int) < ((1 : Nat) : Int); omega) (by decide) h6
    · exact six_cases a b (P := fun k => (at' (leftB a b) k).op ≠ 6) (k := k) (by omega) (by have : k < 6 := hk; show (k : Int) < ((6 : Nat) : Int); omega) (by show (2 : Int) ≠ 6; decide) (by show (1 : Int) ≠ 6; decide) (by show (4 : Int) ≠ 6; decide) (by show (8 : Int) ≠ 6; decide) (by show (1 : Int) ≠ 6; decide) (by show (5 : Int) ≠ 6; decide) h6
theorem sorted1 : ([[1], [1]] : List (List Int)).map sortedI = [[1], [1]] := by
  have : sortedI [1] = [1] := by unfold sortedI; rw [List.mergeSort_singleton]; rfl
  simp [this]
theorem lefts_left : ACalls Try.prog 23 [coreV (leftC a b)] [] (fun q _ => q = .ret (.tup [.c (.p (.sl 1 (([[1], [1]] : List (List Int)).map encL))), i64 0])) := by
  have := left23_c (leftC a b) (core_left a b) (check_left a b) psL [noMay, noMay] [noCls, noCls] [[1], [1]] (find_left a b) (by decide)
  unfold leftsP at this
  rw [sorted1] at this
  exact this
theorem headsIn_left : HeadsIn [[1], [1]] [false, true] where
  n := by decide
  small := by decide
  len := rfl
  reach := fun r hr => by
    have h2 : r < 2 := hr
    obtain rfl | rfl : r = 0 ∨ r = 1 := by omega
    · exact ⟨5, [false, true], by omega, rfl, rfl⟩
    · exact ⟨5, [false, true], by omega, rfl, rfl⟩
theorem heads_left : ACalls Try.prog 13 [coreV (leftC a b)] [] (fun q _ => q = .ret (.tup [.c (.p (headsP [false, true])), i64 0])) := heads_c (leftC a b) [[1], [1]] [false, true] (lefts_left a b) headsIn_left
theorem idx_left : ACalls Try.prog 12 [coreV (leftC a b)] [] (fun q _ => q = .ret (.tup [intsV [1], i64 0])) := heads12_c (leftC a b) [false, true] (by decide) (heads_left a b)
theorem runIn_left (input : ByteArray) (D S : Int) (hin : input.size ≤ 65536) : RunIn (leftC a b) (infoM (leftC a b) psL [noMay, noMay] [noCls, noCls]) [false, true] input D S where
  heads := heads_left a b
  facts := fun r hr => body14_c (leftC a b) (core_left a b) (check_left a b) psL _ _ (solve_left a b) r (by omega) (by omega)
  star := fun r k hr hk h6 => absurd ((find_left a b).star r k hr hk h6) (by
    exfalso
    have h2 : r < 2 := hr
    obtain rfl | rfl : r = 0 ∨ r = 1 := by omega
    · exact one_cases a b (P := fun k => (at' [ruleN] k).op ≠ 6) (k := k) (by omega) (by have : k < 1 := hk; show (k : Int) < ((1 : Nat) : Int); omega) (by decide) h6
    · exact six_cases a b (P := fun k => (at' (leftB a b) k).op ≠ 6) (k := k) (by omega) (by have : k < 6 := hk; show (k : Int) < ((6 : Nat) : Int); omega) (by show (2 : Int) ≠ 6; decide) (by show (1 : Int) ≠ 6; decide) (by show (4 : Int) ≠ 6; decide) (by show (8 : Int) ≠ 6; decide) (by show (1 : Int) ≠ 6; decide) (by show (5 : Int) ≠ 6; decide) h6)
  wf := {
    nr := by show 0 < 2 ∧ 2 ≤ 256; omega
    body := fun r r0 r1 => two_cases a b (P := fun r => 0 < (at' (leftC a b).rules r).body.length ∧ (at' (leftC a b).rules r).body.length ≤ 16384) r0 r1 (by show 0 < 1 ∧ 1 ≤ 16384; omega) (by show 0 < 6 ∧ 6 ≤ 16384; omega)
    heads := rfl
    parts := rfl
    part := (solv_left a b).part
    rule := (solv_left a b).rule
    two := fun r k r0 r1 k0 k1 h => by
      have h2 : r < 2 := r1
      obtain rfl | rfl : r = 0 ∨ r = 1 := by omega
      · exact one_cases a b (P := fun k => (at' [ruleN] k).op = 4 ∨ (at' [ruleN] k).op = 5 → (0 ≤ (at' (at' psL 0) k).1 ∧ (at' (at' psL 0) k).1 < 1) ∧ (0 ≤ (at' (at' psL 0) k).2 ∧ (at' (at' psL 0) k).2 < 1)) k0 k1 (by decide) h
      · exact six_cases a b (P := fun k => (at' (leftB a b) k).op = 4 ∨ (at' (leftB a b) k).op = 5 → (0 ≤ (at' (at' psL 1) k).1 ∧ (at' (at' psL 1) k).1 < 6) ∧ (0 ≤ (at' (at' psL 1) k).2 ∧ (at' (at' psL 1) k).2 < 6)) k0 k1 (by show (2 : Int) = 4 ∨ (2 : Int) = 5 → _; omega) (by show (1 : Int) = 4 ∨ (1 : Int) = 5 → _; omega) (fun _ => by decide) (by show (8 : Int) = 4 ∨ (8 : Int) = 5 → _; omega) (by show (1 : Int) = 4 ∨ (1 : Int) = 5 → _; omega) (fun _ => by decide) h
    one := fun r k r0 r1 k0 k1 h => by
      have h2 : r < 2 := r1
      obtain rfl | rfl : r = 0 ∨ r = 1 := by omega
      · exact one_cases a b (P := fun k => (at' [ruleN] k).op = 6 ∨ (at' [ruleN] k).op = 7 ∨ (at' [ruleN] k).op = 8 → 0 ≤ (at' (at' psL 0) k).1 ∧ (at' (at' psL 0) k).1 < 1) k0 k1 (by decide) h
      · exact six_cases a b (P := fun k => (at' (leftB a b) k).op = 6 ∨ (at' (leftB a b) k).op = 7 ∨ (at' (leftB a b) k).op = 8 → 0 ≤ (at' (at' psL 1) k).1 ∧ (at' (at' psL 1) k).1 < 6) k0 k1 (by show (2 : Int) = 6 ∨ (2 : Int) = 7 ∨ (2 : Int) = 8 → _; omega) (by show (1 : Int) = 6 ∨ (1 : Int) = 7 ∨ (1 : Int) = 8 → _; omega) (by show (4 : Int) = 6 ∨ (4 : Int) = 7 ∨ (4 : Int) = 8 → _; omega) (fun _ => by decide) (by show (1 : Int) = 6 ∨ (1 : Int) = 7 ∨ (1 : Int) = 8 → _; omega) (by show (5 : Int) = 6 ∨ (5 : Int) = 7 ∨ (5 : Int) = 8 → _; omega) h
    limD := by show 0 ≤ clampI D 32768 ∧ clampI D 32768 ≤ 32768; unfold clampI; omega
    limS := by show 0 ≤ clampI S 1048576 ∧ clampI S 1048576 ≤ 1048576; unfold clampI; omega
    input := hin }
  start := by show (0 : Int) ≤ 0 ∧ (0 : Int) < 2; omega
/-- The run of left(a, b) at a, n times b, then no b. -/
theorem run_left {input : ByteArray} {D S : Int} {n : Nat} (hn : n < 999) (hin : input.size ≤ 65536) (ha : input[0]? = some a) (hb : ∀ j, j < n → input[j + 1]? = some b) (hx : input[n + 1]? ≠ some b) (hD : 10 ≤ D) (hD' : D ≤ 32768) (hS : 8 * ((n : Int) + 3) ≤ S) (hS' : S ≤ 1048576) :
    ∃ ud us : Int, 0 < us ∧ ACalls Try.prog 7 [coreV (leftC a b), strA input, .agg [.p (lI D), .p (lI S)]] [] (fun q _ => q = .ret (.tup [outV (outL n), usedV ud us, i64 0])) := by
  have cD : clampI D 32768 = D := by unfold clampI; omega
  have cS : clampI S 1048576 = S := by unfold clampI; omega
  obtain ⟨s', e, h⟩ := whole_L (a := a) (b := b) (input := input) (D := D) (S := S) hn ha hb hx hD hS
  refine ⟨s'.ud, s'.us, h, run_c (leftC a b) (infoM (leftC a b) psL [noMay, noMay] [noCls, noCls]) [false, true] input D S (runIn_left a b input D S hin) (by rw [cD]; omega) (outL n) s' ?_⟩
  unfold envM
  rw [cD, cS, parts_left]
  exact e
end
end Go.AL
set_option linter.unusedVariables false
namespace Go.AL
open Go.Proofs
set_option maxRecDepth 10000
attribute [local irreducible] AWp AList RStep seqQ blockQ retQ DSteps DT DU DM DZ awR rQ SStep letterB digitB preB nameOk anyB rightL checkI
theorem eqt39 (d : Nat) : EqT Try.prog (d + 2) 39 [.str, .int .i64, .int .i64, .int .i64] := eqT_struct' inferInstance Try.underlying39 (by kernel_rfl) (.cons (k1 := [_]) rfl (by decide) (eqt9 _) (.cons (k1 := [_]) rfl (by decide) (eqt3 _) (.cons (k1 := [_]) rfl (by decide) (eqt3 _) (.cons (k1 := [_]) (k2 := []) rfl (by decide) (eqt3 _) .nil))))
instance : TEq Try.prog 39 [.str, .int .i64, .int .i64, .int .i64] := ⟨eqt39 9998, inferInstance, by kernel_rfl⟩
def inW : ByteArray := ⟨#[97, 98, 98, 99]⟩
theorem run_w : ∃ ud us : Int, 0 < us ∧ ACalls Try.prog 7 [coreV (leftC 97 98), strA inW, .agg [.p (lI 99), .p (lI 999)]] [] (fun q _ => q = .ret (.tup [outV ⟨1, 3, ⟨#[]⟩, [⟨eN, 0, 3, 1⟩, ⟨eN, 0, 2, 0⟩]⟩, usedV ud us, i64 0])) :=
  run_left 97 98 (n := 2) (by omega) (by decide) (by decide) (fun j hj => by
    match j, hj with
    | 0, _ => decide
    | 1, _ => decide) (by decide) (by omega) (by omega) (by decide) (by omega)
theorem works_c : ACalls Try.prog 6 [] [] (fun q _ => q = .ret (bl true)) := by
  obtain ⟨ud, us, hus, hrun⟩ := run_w
  have hl : ACalls Try.prog 8 [lU8 97, lU8 98] [] (fun r _ => r = .ret (coreV (leftC 97 98))) := left_c 97 98
  have hi := idx_left 97 98
  refine acalls_by Try.func6 Try.ntmps6 ?_
  simp only [argFr]
  repeat' (first
    | (show lAlloc; refine k_alloc ?_)
    | (show lStore; refine k_store ?_)
    | (show lOp; refine op0 (by first | (show kAssign; exact b_assign) | (show kMove; exact b_move) | (show kCall; first | exact b_call (hl) | exact b_call (hrun) | exact b_call (hi) | exact m_lenSl) | (show kLoad; first | exact b_loadRp | exact b_loadPtr) | (show kFieldaddr; exact b_fieldPtr) | (show kIndexaddr; exact m_indexSl (h1 := by decide)) | (show kBinopEql; first | exact b_eql | exact b_eqlAgg) | (show kBinopGtr; exact b_gtr) | (show kPick; exact b_pickT) | (show kExtract; exact b_extract) | (show kBuild; exact b_buildSt)) ?_)
    | (show lGu; refine al_yes ?_)
    | (show lNil; refine al_nil ?_)
    | (show qSeq; refine n_seq ?_)
    | (show cReg; refine aw_reg ?_)
    | (show cSeq; refine aw_seq ?_)
    | (show cRet; refine aw_ret ?_)
    | (show eRet; refine ret1 Try.results6 ?_))
  rfl
end Go.AL
set_option linter.unusedVariables false
namespace Go.AL
open Go.Proofs
set_option maxRecDepth 10000
attribute [local irreducible] AWp AList RStep seqQ blockQ DSteps DT DU DM DZ awR rQ SStep
theorem retP {P : Program} {fn : Func} {R : CE → List AObj → Prop} {x : PV} {s : St} (h : R (.panic x) s.σ) : retQ P fn R (.panic x) s := h
attribute [local irreducible] retQ
abbrev stopP (c : Int) : PV := .ifa 74 [lI c]
abbrev EvP (e : Env) (c : Int) (s : MS) : CE → List AObj → Prop := fun r σ' => r = .panic (stopP c) ∧ ∃ g, σ' = .cells (runC e s.ud s.us 1) :: .ext (seedsX s.seeds) :: g
/-- What a call of 'step' comes to where a limit is met. -/
def StepP (e : Env) (d : Nat) : Prop := ∀ (rule node a : Int) (s : MS) (c : Int) (s' : MS), 0 ≤ rule → rule < e.core.rules.length → 0 ≤ node → node < (bodyOf e rule).length → 0 ≤ a → a ≤ e.input.size → SOK e s → evalD e d rule node a s = .stop c s' →
  ACalls Try.prog 30 [.c (.ptr 0 0), i64 rule, i64 node, i64 a, i64 (e.limD + 1 - d)] (msσ e s) (EvP e c s')
theorem joined_p (f g : List Cap) (h : f.length + g.length > maxS) (hl : f.length + g.length ≤ 1000000000) : ACalls Try.prog 49 [.c (.p (forestP f)), .c (.p (forestP g))] [] (fun r _ => r = .panic (stopP 2)) := by
  have h : f.length + g.length > 1048576 := h
  refine acalls_by Try.func49 Try.ntmps49 ?_
  simp only [argFr]
  repeat' (first
    | (refine aw_T ?_ (hb := decide_eq_true (by omega)))
    | (refine k_panic ?_)
    | (refine retP ?_)
    | (show lOp; refine op0 (by first | (show kAssign; exact b_assign) | (show kMove; exact b_move) | (show kCall; exact m_lenSl) | (show kBinopAdd; exact b_add) | (show kBinopGtr; exact b_gtr) | (show kMakeinterface; exact r_ifaceAgg (l := [lI 2]) rfl) | (show kBuild; exact b_buildSt)) ?_)
    | (show lNil; refine al_nil ?_)
    | (show qSeq; first | refine n_seq ?_ | refine q_seq ?_)
    | (show cReg; refine aw_reg ?_)
    | (show cSeq; refine aw_seq ?_))
  rfl
theorem whole_p {e : Env} (hw : WF e) {d : Nat} (hd : (d : Int) ≤ e.limD) (H : StepP e d) {rule a c : Int} {s s' : MS} (r0 : 0 ≤ rule) (r1 : rule < e.core.rules.length) (a0 : 0 ≤ a) (a1 : a ≤ e.input.size) (hs : SOK e s) (h : evalD e d rule (lastOf e rule) a s = .stop c s') :
    ACalls Try.prog 17 [.c (.ptr 0 0), i64 rule, i64 a, i64 (e.limD + 1 - d)] (msσ e s) (EvP e c s') := by
  have hb : 0 < (at' e.core.rules rule).body.length ∧ (at' e.core.rules rule).body.length ≤ 16384 := hw.body rule r0 r1
  have hl := hw.limD
  have hn := hw.nr
  have hst := H rule (lastOf e rule) a s c s' r0 r1 (by simp only [lastOf, bodyOf]; omega) (by simp only [lastOf, bodyOf]; omega) a0 a1 hs h
  refine acalls_by Try.func17 Try.ntmps17 ?_
  simp only [argFr]
  repeat' (first
    | (refine retP ?_)
    | (show lAlloc; refine k_alloc ?_)
    | (show lCall; refine k_callCXp 0 1 hst rfl rfl (by decide) rfl rfl rfl ?_)
    | (show lOp; refine op0 (by first | (show kMove; exact b_move) | (show kCall; exact m_lenSl) | (show kLoad; first | exact b_loadRp | exact b_loadPtr) | (show kFieldaddr; first | exact b_fieldRp | exact b_fieldPtr) | (show kIndexaddr; exact m_indexSl) | (show kBinopSub; exact b_sub) | (show kNilcheck; exact b_nilPtr)) ?_)
    | (show lNil; refine al_nil ?_)
    | (show qSeq; first | refine n_seq ?_ | refine q_seq ?_)
    | (show cReg; refine aw_reg ?_)
    | (show cSeq; refine aw_seq ?_))
  exact ⟨rfl, _, rfl⟩
end Go.AL
set_option linter.unusedVariables false
namespace Go.AL
open Go.Proofs
set_option maxRecDepth 10000
attribute [local irreducible] AWp AList RStep seqQ blockQ retQ DSteps DT DU DM DZ awR rQ SStep
set_option maxHeartbeats 4000000 in
theorem star_p {e : Env} (hw : WF e) {d : Nat} (hd : (d : Int) ≤ e.limD) (H : StepC e d) (HP : StepP e d) {rule part a c : Int} {s s' : MS} {n : Nat} (r0 : 0 ≤ rule) (r1 : rule < e.core.rules.length) (p0 : 0 ≤ part) (p1 : part < (bodyOf e rule).length) (a0 : 0 ≤ a) (a1 : a ≤ e.input.size) (hs : SOK e s) (hn : e.limS - s.us < n) (h : starG (fun a s => evalD e d rule part a s) n a [] s = .stop c s') :
    ACalls Try.prog 50 [.c (.ptr 0 0), i64 rule, i64 part, i64 a, i64 (e.limD + 1 - d)] (msσ e s) (EvP e c s') := by
  have hl := hw.limD
  have hin := hw.input
  refine acalls_by Try.func50 Try.ntmps50 ?_
  simp only [argFr]
  repeat' (first
    | (show lAlloc; refine k_alloc ?_)
    | (show lOp; refine op0 (by (show kAssign; exact b_assign)) ?_)
    | (show lNil; refine al_nil ?_)
    | (show qSeq; refine n_seq ?_)
    | (show cReg; refine aw_reg ?_)
    | (show cSeq; refine aw_seq ?_)
    | (show cBlk; refine aw_block ?_))
  refine kw_own 11 39 4 ?_
  refine aw_roundsP (ι := Nat × Int × List Cap × MS) 3 (fun i => runσ e i.2.2.2) (fun i n => [(0, .c (.ptr 0 0)), (1, i64 rule), (2, i64 part), (3, i64 i.2.1), (4, i64 (e.limD + 1 - d)), (10, .c (.ptr 2 0)), (11, .c (.ms (n + 0) i.2.2.1.length))]) (fun i n => [.arr 39 4 (i.2.2.1.map encCap)]) (fun i => (0 ≤ i.2.1 ∧ i.2.1 ≤ e.input.size) ∧ CapsOK i.2.2.1 ∧ SOK e i.2.2.2 ∧ e.limS - i.2.2.2.us < i.1 ∧ starG (fun a s => evalD e d rule part a s) i.1 i.2.1 i.2.2.1 i.2.2.2 = .stop c s') (fun i => i.1) (n, a, [], s) 3 (fun _ => rfl) ⟨⟨a0, a1⟩, caps_nil, hs, hn, h⟩ (by omega) (by simp) rfl rfl (by simp [Fr.get]) ?_
  rintro ⟨k, a, f, s⟩ n g ⟨⟨a0, a1⟩, hf, hs, hn, h⟩ hg
  dsimp only at a0 a1 hf hs hn h hg ⊢
  have hg3 : 3 + g.length = n := by simp at hg; omega
  clear hg
  have hus := hs.us
  cases k with
  | zero => exfalso; omega
  | succ k =>
    simp only [starG] at h
    cases he : evalD e d rule part a s with
    | stop c1 s1 =>
      rw [he] at h
      injection h with q1 q2; subst q1; subst q2
      have hst := HP rule part a s c1 s1 r0 r1 p0 p1 a0 a1 hs he
      repeat' (first
        | (refine retP ?_)
        | (show lCall; refine k_callCXp 0 1 hst rfl rfl (by decide) rfl rfl (σ' := runσ e s1 ++ (g ++ [.arr 39 4 (f.map encCap)])) rfl ?_)
        | (show lOp; refine op0 (by (show kMove; exact b_move)) ?_)
        | (show qSeq; refine q_seq ?_)
        | (show qBlk; refine q_block ?_)
        | (show cReg; refine aw_reg ?_)
        | (show cSeq; refine aw_seq ?_)
        | (show cBlk; refine aw_block ?_))
      exact ⟨rfl, _, rfl⟩
    | ok o1 s1 =>
      rw [he] at h
      dsimp only at h
      have hst := H rule part a s o1 s1 r0 r1 p0 p1 a0 a1 hs he
      obtain ⟨g1, g2, g3⟩ := evalD_ok hw d rule part a r0 r1 p0 p1 a0 a1 s o1 s1 hs he
      have hfl : f.length ≤ 1048576 := hf.1
      have hol : o1.forest.length ≤ 1048576 := g1.caps.1
      by_cases hk0 : o1.kind = 0
      · rw [if_pos hk0, matchedR, if_neg (by show ¬ f.length > 1048576; omega)] at h
        cases h
      rw [if_neg hk0] at h
      by_cases hk2 : o1.kind = 2
      · rw [if_pos hk2] at h
        cases h
      rw [if_neg hk2] at h
      split at h
      · rename_i hgt
        have hgt : f.length + o1.forest.length > 1048576 := hgt
        injection h with q1 q2; subst q1; subst q2
        repeat' (first
          | (refine aw_F ?_ (hb := decide_eq_false (by assumption)))
          | (refine aw_T ?_ (hb := decide_eq_true (by omega)))
          | (refine k_panic ?_)
          | (refine retP ?_)
          | (show lAlloc; refine k_alloc ?_)
          | (show lStore; refine k_store ?_)
          | (show lCall; refine k_callCX 0 1 hst rfl rfl (by decide) rfl rfl (σ' := runσ e s1 ++ (g ++ [.arr 39 4 (f.map encCap)])) rfl ?_)
          | (show lOp; refine op0 (by first | (show kAssign; exact b_assign) | (show kMove; exact b_move) | (show kCall; first | exact m_lenSl | exact b_lenMs) | (show kLoad; exact b_loadPtr) | (show kFieldaddr; exact b_fieldPtr) | (show kBinopAdd; exact b_add) | (show kBinopEql; exact b_eql) | (show kBinopGtr; exact b_gtr) | (show kMakeinterface; exact r_ifaceAgg (l := [lI 2]) rfl) | (show kBuild; exact b_buildSt)) ?_)
          | (show lNil; refine al_nil ?_)
          | (show qSeq; first | refine n_seq ?_ | refine q_seq ?_)
          | (show qBlk; first | refine n_block ?_ | refine q_block ?_)
          | (show cReg; refine aw_reg ?_)
          | (show cSeq; refine aw_seq ?_)
          | (show cBlk; refine aw_block ?_)
          | (show cSkip; refine aw_skip ?_))
        exact ⟨rfl, _, rfl⟩
      rename_i hle
      have hle : ¬ f.length + o1.forest.length > 1048576 := hle
      repeat' (first
        | (refine aw_F ?_ (hb := decide_eq_false (by assumption)))
        | (refine aw_F ?_ (hb := decide_eq_false (by omega)))
        | (show lAlloc; refine k_alloc ?_)
        | (show lStore; refine k_store ?_)
        | (show lCall; first | refine k_callCX 0 1 hst rfl rfl (by decide) rfl rfl (σ' := runσ e s1 ++ (g ++ [.arr 39 4 (f.map encCap)])) rfl ?_ | refine k_appSl (f := encCap) ?_)
        | (show lOp; refine op0 (by first | (show kAssign; exact b_assign) | (show kMove; exact b_move) | (show kCall; first | exact m_lenSl | exact b_lenMs) | (show kLoad; exact b_loadPtr) | (show kFieldaddr; exact b_fieldPtr) | (show kBinopAdd; exact b_add) | (show kBinopEql; exact b_eql) | (show kBinopGtr; exact b_gtr)) ?_)
        | (show lNil; refine al_nil ?_)
        | (show qSeq; refine n_seq ?_)
        | (show qBlk; refine n_block ?_)
        | (show cReg; refine aw_reg ?_)
        | (show cSeq; refine aw_seq ?_)
        | (show cBlk; refine aw_block ?_)
        | (show cSkip; refine aw_skip ?_))
      exact ⟨(k, o1.fin, f ++ o1.forest, s1), n + 2, ⟨g1.fin, caps_append hf g1.caps (by show _ ≤ 1048576; omega), g2, by dsimp only; omega, h⟩, by omega, by simp; omega, rfl, dropGP hg3 (by simp) rfl, by simp [Fr.get], by dsimp only; omega⟩
set_option maxHeartbeats 8000000 in
theorem grow_p {e : Env} (hw : WF e) {d : Nat} (hd : (d : Int) ≤ e.limD) (H : StepC e d) (HP : StepP e d) {rule a c : Int} {s s' : MS} {n : Nat} (r0 : 0 ≤ rule) (r1 : rule < e.core.rules.length) (a0 : 0 ≤ a) (a1 : a ≤ e.input.size) (hs : SOK e s) (hfu : e.limS - s.us < n) (hn : seedOf (rule, a) s.seeds = none)
    (h : growG (fun s => evalD e d rule (lastOf e rule) a s) (rule, a) n { s with seeds := setS (rule, a) zeroO s.seeds } = .stop c s') :
    ACalls Try.prog 48 [.c (.ptr 0 0), i64 rule, i64 a, i64 (e.limD - d)] (msσ e s) (EvP e c s') := by
  have hl := hw.limD
  have hin := hw.input
  have hlk : (seedOf (rule, a) s.seeds).getD zeroO = zeroO := by rw [hn]; rfl
  have hbk : (seedOf (rule, a) s.seeds).isSome = false := by rw [hn]; rfl
  refine acalls_by Try.func48 Try.ntmps48 ?_
  simp only [argFr]
  repeat' (first
    | (show cAtD 2; refine aw_u [entGrow zeroO] [0,1,2,3,4,5,6,7,8,9,10] [11] Try_mixed ?_)
    | (show lAlloc; refine k_alloc ?_)
    | (show lStore; refine k_store ?_)
    | (show lMapUpdate; refine k_told 33 tells_zero (k_seedSet rule a zeroO ?_))
    | (show lOp; refine op0 (by first | (show kAssign; exact b_assign) | (show kMove; exact b_move) | (show kBuild; exact b_buildSt)) ?_)
    | (show lNil; refine al_nil ?_)
    | (show qSeq; refine n_seq ?_)
    | (show cReg; refine aw_reg ?_)
    | (show cSeq; refine aw_seq ?_)
    | (show cBlk; refine aw_block ?_)
    | (show cSkip; refine aw_skip ?_)
    | (show cIf; refine aw_F ?_)
    | (show cRegD; refine aw_drN Try_mixed ?_)
    | (show dOp; refine ds_op (by first | (show kMove; exact b_move) | (show kLoad; exact b_loadPtr) | (show kFieldaddr; exact b_fieldPtr) | (show kNilcheck; exact b_nilPtr) | (show kBuild; exact b_buildSt)) ?_)
    | (show dNil; refine ds_nil ?_)
    | (show DU _ _ _ _ _ _ _ [] _ _; refine du_nil1 ?_)
    | (show DU _ _ _ _ _ _ _ _ _ _; first | refine du_app 0 (fun G => s_alloc) ?_ | refine du_set 0 (e := entGrow zeroO) (fun G id hid => t_store (hσ := rfl) (ho := hid)) ?_)
    | (show DU _ _ _ _ _ _ _ _ (Oper.mk (some _) _ _ _ _ none :: _) _; refine du_still (fun G => by first | (show kMove; exact b_move) | (show kLoad; exact b_loadPtr) | (show kFieldaddr; exact b_fieldPtr) | (show kNilcheck; exact b_nilPtr) | (show kExtract; exact b_extract) | (show kLookup; exact b_seedOk zeroO false hlk hbk)) ?_))
  refine aw_roundsP (ι := Nat × MS) 5 (fun i => growσ e i.2 (rule, a)) (fun i n => [(0, .c (.ptr 0 0)), (1, i64 rule), (2, i64 a), (3, i64 (e.limD - d)), (8, .c (.ptr 2 0)), (9, .c (.ptr 3 0))]) (fun i n => []) (fun i => SOK e i.2 ∧ e.limS - i.2.us < i.1 ∧ growG (fun s => evalD e d rule (lastOf e rule) a s) (rule, a) i.1 i.2 = .stop c s') (fun i => i.1) (n, { s with seeds := setS (rule, a) zeroO s.seeds }) 5 (fun _ => rfl) ⟨hs.set _ (zero_ok e), hfu, h⟩ (by omega) (by simp) rfl rfl (by simp [Fr.get]) ?_
  rintro ⟨k, s⟩ n g ⟨hs, hfu, h⟩ hg
  dsimp only at hs hfu h hg ⊢
  have hg5 : 5 + g.length = n := by simp at hg; omega
  clear hg
  have hus := hs.us
  cases k with
  | zero => exfalso; omega
  | succ k =>
    simp only [growG] at h
    cases he : evalD e d rule (lastOf e rule) a s with
    | stop c1 s1 =>
      rw [he] at h
      injection h with q1 q2; subst q1; subst q2
      have hwh := whole_p hw hd HP r0 r1 a0 a1 hs he
      have hdep : e.limD + 1 - d = e.limD - d + 1 := by omega
      rw [hdep] at hwh
      repeat' (first
        | (refine retP ?_)
        | (show lCall; refine k_callCXp 0 1 hwh rfl rfl (by decide) rfl rfl (σ' := growσ e s1 (rule, a) ++ (g ++ [])) rfl ?_)
        | (show lOp; refine op0 (by first | (show kMove; exact b_move) | (show kBinopAdd; exact b_add)) ?_)
        | (show qSeq; refine q_seq ?_)
        | (show qBlk; refine q_block ?_)
        | (show cReg; refine aw_reg ?_)
        | (show cSeq; refine aw_seq ?_)
        | (show cBlk; refine aw_block ?_))
      exact ⟨rfl, _, rfl⟩
    | ok o1 s1 =>
      rw [he] at h
      dsimp only at h
      have hb := hw.body rule r0 r1
      obtain ⟨g1, g2, g3⟩ := evalD_ok hw d rule (lastOf e rule) a r0 r1 (by simp only [lastOf]; omega) (by simp only [lastOf]; omega) a0 a1 s o1 s1 hs he
      have hwh := whole_c hw hd H r0 r1 a0 a1 hs he
      have hdep : e.limD + 1 - d = e.limD - d + 1 := by omega
      rw [hdep] at hwh
      generalize hsd : (seedOf (rule, a) s1.seeds).getD zeroO = sd at h
      have hG := h
      clear h
      repeat' (first
        | (show cAtD 7; refine' aw_dt 7 6 (growσ e s1 (rule, a) ++ (g ++ [.cells (outC o1), .cells zeroC])) Try_mixed _)
        | (show lAlloc; refine k_alloc ?_)
        | (show lStore; first | refine k_store (l' := outC o1) ?_ | refine k_store (l' := outC sd) ?_)
        | (show lMapUpdate; refine k_seedSet rule a o1 ?_)
        | (show lCall; first | refine k_callCX 0 1 hwh rfl rfl (by decide) rfl rfl (σ' := growσ e s1 (rule, a) ++ (g ++ [])) rfl ?_ | refine k_seedDel rule a ?_)
        | (show lOp; refine op0 (by first | (show kMove; exact b_move) | (show kLoad; exact b_loadPtr) | (show kFieldaddr; exact b_fieldPtr) | (show kBinopAdd; exact b_add) | (show kBinopEql; exact b_eql) | (show kBinopNeq; exact b_neq) | (show kBinopGtr; exact b_gtr) | (show kPick; first | exact b_pickT | exact b_pickF)) ?_)
        | (show lGu; first | refine al_yes ?_ | refine al_none ?_ | refine al_noneU ?_ | refine al_splitD (fun h => ?_) (fun h => ?_))
        | (show lNil; refine al_nil ?_)
        | (show qSeq; first | refine n_seq ?_ | refine p_seq ?_ | refine x_seq ?_)
        | (show qBlk; first | refine p_block ?_ | refine x_eq ?_)
        | (show cReg; refine aw_reg ?_)
        | (show cSeq; refine aw_seq ?_)
        | (show cBlk; refine aw_block ?_)
        | (show cSkip; refine aw_skip ?_)
        | (show cExit; refine aw_exit ?_)
        | (show cRet; refine aw_ret ?_)
        | (show cIf; first | refine aw_T ?_ | refine aw_F ?_ | refine aw_ifD (fun h => ?_) (fun h => ?_))
        | (show cRegD; refine aw_drN Try_mixed ?_)
        | (show dOp; refine ds_op (by first | (show kMove; exact b_move) | (show kLoad; exact b_loadPtr) | (show kFieldaddr; exact b_fieldPtr) | (show kNilcheck; exact b_nilPtr)) ?_)
        | (show dNil; refine ds_nil ?_)
        | (show tNil; refine dt_nil ?_)
        | (show tSome; first | refine dt_turn (by exact t_alloc) ?_ | (refine dt_pre2 (by first | (show kMove; exact b_move) | (show kLoad; exact b_loadPtr) | (show kFieldaddr; exact b_fieldPtr) | (show kNilcheck; exact b_nilPtr) | (show kLookup; exact b_seedAt sd hsd)) (by first | (show kMove; exact b_move) | (show kLoad; exact b_loadPtr) | (show kFieldaddr; exact b_fieldPtr) | (show kNilcheck; exact b_nilPtr) | (show kLookup; exact b_seedAt sd hsd)) ?_))
        | (show eRet; refine retC1 Try.results48 ?_)
        | (exfalso; omega))
      all_goals first
        | (rw [if_pos ⟨by assumption, by first | exact .inl (by assumption) | exact .inr (by assumption)⟩] at hG
           exact ⟨(k, _), n + 2, ⟨g2.set _ g1, by dsimp only; omega, hG⟩, by omega, by simp; omega, rfl, dropGP hg5 (by simp) rfl, by simp [Fr.get], by dsimp only; omega⟩)
        | (exfalso
           rw [if_neg (by rintro ⟨q1, q2 | q2⟩ <;> first | omega | contradiction)] at hG
           split at hG <;> cases hG)
end Go.AL
set_option linter.unusedVariables false
namespace Go.AL
open Go.Proofs
set_option maxRecDepth 10000
attribute [local irreducible] AWp AList RStep seqQ blockQ retQ DSteps DT DU DM DZ DP awR rQ SStep
theorem matchedR_nil {fin c : Int} {s s' : MS} (h : matchedR fin [] s = .stop c s') : False := by
  unfold matchedR at h
  rw [if_neg (by simp)] at h
  cases h
theorem matchedR_le {fin c : Int} {f : List Cap} {s s' : MS} (hf : f.length ≤ maxS) (h : matchedR fin f s = .stop c s') : False := by
  unfold matchedR at h
  rw [if_neg (by omega)] at h
  cases h
set_option maxHeartbeats 64000000 in
theorem step_p {e : Env} (hw : WF e) {d : Nat} (hd : (d : Int) ≤ e.limD) (H : StepC e d) (HP : StepP e d) : StepP e (d + 1) := by
  intro rule node a s c s' r0 r1 n0 n1 a0 a1 hs h
  have hl := hw.limD
  have hls := hw.limS
  have hin := hw.input
  have hus := hs.us
  have hud := hs.ud
  have hnr := hw.nr
  have hpl := hw.parts
  have hb : 0 < (at' e.core.rules rule).body.length ∧ (at' e.core.rules rule).body.length ≤ 16384 := hw.body rule r0 r1
  have hpp := hw.part rule r0 r1
  have n1' : node < (at' e.core.rules rule).body.length := n1
  have hdep : e.limD + 1 - ((d + 1 : Nat) : Int) = e.limD - d := by omega
  rw [hdep]
  simp only [evalD] at h
  split at h
  · rename_i heq
    injection h with q1 q2; subst q1; subst q2
    refine acalls_by Try.func30 Try.ntmps30 ?_
    simp only [argFr]
    repeat' (first
      | (refine aw_F ?_ (hb := decide_eq_false (by omega)))
      | (refine aw_T ?_ (hb := decide_eq_true heq))
      | (refine k_panic ?_)
      | (refine retP ?_)
      | (show lAlloc; refine k_alloc ?_)
      | (show lOp; refine op0 (by first | (show kAssign; exact b_assign) | (show kMove; exact b_move) | (show kLoad; exact b_loadPtr) | (show kFieldaddr; exact b_fieldPtr) | (show kBinopGtr; exact b_gtr) | (show kNilcheck; exact b_nilPtr) | (show kMakeinterface; exact r_ifaceAgg (l := [lI 4]) rfl) | (show kBuild; exact b_buildSt)) ?_)
      | (show lNil; refine al_nil ?_)
      | (show qSeq; first | refine n_seq ?_ | refine q_seq ?_)
      | (show qBlk; refine q_block ?_)
      | (show cReg; refine aw_reg ?_)
      | (show cSeq; refine aw_seq ?_)
      | (show cBlk; refine aw_block ?_)
      | (show cRegD; refine aw_drN Try_mixed ?_)
      | (show dOp; refine ds_op (by first | (show kMove; exact b_move) | (show kLoad; exact b_loadPtr) | (show kFieldaddr; exact b_fieldPtr) | (show kBinopEql; exact b_eql) | (show kNilcheck; exact b_nilPtr)) ?_)
      | (show dNil; refine ds_nil ?_))
    exact ⟨rfl, _, rfl⟩
  rename_i hne
  have hrule := hw.rule rule node r0 r1 n0 n1
  have htwo := hw.two rule node r0 r1 n0 n1
  have hone := hw.one rule node r0 r1 n0 n1
  have H' : ∀ (rule node a : Int) (s : MS) (o : Out) (s' : MS), 0 ≤ rule → rule < e.core.rules.length → 0 ≤ node → node < (bodyOf e rule).length → 0 ≤ a → a ≤ e.input.size → SOK e s → evalD e d rule node a s = .ok o s' →
      ACalls Try.prog 30 [.c (.ptr 0 0), i64 rule, i64 node, i64 a, i64 (e.limD - d + 1)] (msσ e s) (EvR e o s') := fun rule node a s o s' q1 q2 q3 q4 q5 q6 q7 q8 => by
    have := H rule node a s o s' q1 q2 q3 q4 q5 q6 q7 q8
    rwa [show e.limD + 1 - d = e.limD - d + 1 by omega] at this
  have P' : ∀ (rule node a : Int) (s : MS) (c : Int) (s' : MS), 0 ≤ rule → rule < e.core.rules.length → 0 ≤ node → node < (bodyOf e rule).length → 0 ≤ a → a ≤ e.input.size → SOK e s → evalD e d rule node a s = .stop c s' →
      ACalls Try.prog 30 [.c (.ptr 0 0), i64 rule, i64 node, i64 a, i64 (e.limD - d + 1)] (msσ e s) (EvP e c s') := fun rule node a s c s' q1 q2 q3 q4 q5 q6 q7 q8 => by
    have := HP rule node a s c s' q1 q2 q3 q4 q5 q6 q7 q8
    rwa [show e.limD + 1 - d = e.limD - d + 1 by omega] at this
  refine acalls_by Try.func30 Try.ntmps30 ?_
  simp only [argFr]
  repeat' (first
    | (refine aw_F ?_ (hb := decide_eq_false (by omega)))
    | (show lAlloc; refine k_alloc ?_)
    | (show lStore; first | refine k_store (l' := runC e s.ud (s.us + 1) 1) ?_ | refine k_store (l' := runC e (max s.ud (e.limD - d)) (s.us + 1) 1) ?_ | refine k_store (l' := nodeC (at' (at' e.core.rules rule).body node)) ?_)
    | (show lOp; refine op0 (by first | (show kAssign; exact b_assign) | (show kMove; exact b_move) | (show kCall; exact b_max) | (show kLoad; first | exact b_loadRp | exact b_loadPtr) | (show kFieldaddr; first | exact b_fieldRp | exact b_fieldPtr) | (show kIndexaddr; exact m_indexSl) | (show kBinopAdd; exact b_add) | (show kBinopEql; exact b_eql) | (show kBinopGtr; exact b_gtr) | (show kNilcheck; exact b_nilPtr)) ?_)
    | (show lNil; refine al_nil ?_)
    | (show qSeq; refine n_seq ?_)
    | (show qBlk; refine n_block ?_)
    | (show cReg; refine aw_reg ?_)
    | (show cSeq; refine aw_seq ?_)
    | (show cBlk; refine aw_block ?_)
    | (show cSkip; refine aw_skip ?_)
    | (show cRegD; refine aw_drN Try_mixed ?_)
    | (show dOp; refine ds_op (by first | (show kAssign; exact b_assign) | (show kMove; exact b_move) | (show kLoad; first | exact b_loadRp | exact b_loadPtr) | (show kFieldaddr; exact b_fieldPtr) | (show kIndexaddr; first | exact m_indexSl | exact b_indexArrRp) | (show kBinopEql; exact b_eql) | (show kNilcheck; exact b_nilPtr)) ?_)
    | (show dNil; refine ds_nil ?_))
  refine kw_sub (σ := stepσ e (begun e d s) (at' (at' e.core.rules rule).body node)) [(0, .c (.ptr 0 0)), (1, i64 rule), (2, i64 node), (3, i64 a), (4, i64 (e.limD - d)), (10, .c (.ptr 2 0)), (11, .c (.ptr 3 0)), (12, i64 (at' (at' e.parts rule) node).1), (13, i64 (at' (at' e.parts rule) node).2), (97, i64 (at' (at' e.core.rules rule).body node).op), (98, bl (decide ((at' (at' e.core.rules rule).body node).op = 1)))] ?_ (by simp [Fr.get])
  simp only [bodyOf] at h hrule htwo hone
  clear hdep
  generalize at' (at' e.core.rules rule).body node = nd at h hrule htwo hone ⊢
  generalize at' (at' e.parts rule) node = pt at h htwo hone ⊢
  have hs1 : SOK e (begun e d s) := ⟨⟨by simp only [begun]; omega, by simp only [begun]; omega⟩, ⟨by simp only [begun]; omega, by simp only [begun]; omega⟩, hs.seeds⟩
  generalize begun e d s = s1 at h hs1 ⊢
  have hus1 := hs1.us
  unfold stepG at h
  by_cases p1 : nd.op = 1
  · exfalso
    rw [if_pos p1] at h
    by_cases ha : a < e.input.size
    · rw [if_pos ha] at h
      obtain ⟨b, hb⟩ : ∃ b, e.input[a.toNat]? = some b := ⟨_, getElem?_pos e.input a.toNat (by omega)⟩
      rw [hb] at h
      dsimp only at h
      by_cases hh : hasB nd.cl b = true
      · rw [if_pos hh] at h
        exact matchedR_nil h
      · rw [if_neg hh] at h
        cases h
    · rw [if_neg ha] at h
      cases h
  rw [if_neg p1] at h
  by_cases p3 : nd.op = 3
  · rw [if_pos p3] at h
    cases h
  rw [if_neg p3] at h
  by_cases p2 : nd.op = 2
  · rw [if_pos p2] at h
    have hr := hrule p2
    have hhd := hw.heads
    have hbr := hw.body nd.rule hr.1 hr.2
    cases hh : at' e.heads nd.rule with
    | true =>
      rw [hh, if_pos rfl] at h
      cases hsd : seedOf (nd.rule, a) s1.seeds with
      | some o1 =>
        rw [hsd] at h
        cases h
      | none =>
        rw [hsd] at h
        dsimp only at h
        have hg := grow_p hw hd H HP hr.1 hr.2 a0 a1 hs1 (by omega) hsd h
        repeat' (first
          | (refine aw_T ?_ (hb := hh))
          | (refine aw_T ?_ (hb := decide_eq_true (by assumption)))
          | (refine aw_F ?_ (hb := decide_eq_false (by omega)))
          | (refine retP ?_)
          | (show lCall; refine k_callCXp 0 1 hg rfl rfl (by decide) rfl rfl (σ' := stepσ e s' nd) rfl ?_)
          | (show lOp; refine op0 (by first | (show kAssign; exact b_assign) | (show kMove; exact b_move) | (show kLoad; first | exact b_loadRp | exact b_loadPtr) | (show kFieldaddr; exact b_fieldPtr) | (show kBinopEql; exact b_eql)) ?_)
          | (show lNil; refine al_nil ?_)
          | (show qSeq; first | refine n_seq ?_ | refine q_seq ?_)
          | (show qBlk; refine q_block ?_)
          | (show cReg; refine aw_reg ?_)
          | (show cSeq; refine aw_seq ?_)
          | (show cRegD; refine aw_drN Try_mixed ?_)
          | (show dOp; refine ds_op (by first | (show kMove; exact b_move) | (show kLoad; exact b_loadPtr) | (show kFieldaddr; exact b_fieldPtr) | (show kIndexaddr; exact m_indexSl) | (show kNilcheck; exact b_nilPtr)) ?_)
          | (show dNil; refine ds_nil ?_))
        exact ⟨rfl, _, rfl⟩
    | false =>
      rw [hh, if_neg (by simp)] at h
      have hg := whole_p hw hd HP hr.1 hr.2 a0 a1 hs1 h
      rw [show e.limD + 1 - d = e.limD - d + 1 by omega] at hg
      repeat' (first
        | (refine aw_F ?_ (hb := hh))
        | (refine aw_T ?_ (hb := decide_eq_true (by assumption)))
        | (refine aw_F ?_ (hb := decide_eq_false (by omega)))
        | (refine retP ?_)
        | (show lCall; refine k_callCXp 0 1 hg rfl rfl (by decide) rfl rfl (σ' := stepσ e s' nd) rfl ?_)
        | (show lOp; refine op0 (by first | (show kAssign; exact b_assign) | (show kMove; exact b_move) | (show kLoad; first | exact b_loadRp | exact b_loadPtr) | (show kFieldaddr; exact b_fieldPtr) | (show kBinopAdd; exact b_add) | (show kBinopEql; exact b_eql)) ?_)
        | (show lNil; refine al_nil ?_)
        | (show qSeq; first | refine n_seq ?_ | refine q_seq ?_)
        | (show qBlk; refine q_block ?_)
        | (show cReg; refine aw_reg ?_)
        | (show cSeq; refine aw_seq ?_)
        | (show cSkip; refine aw_skip ?_)
        | (show cRegD; refine aw_drN Try_mixed ?_)
        | (show dOp; refine ds_op (by first | (show kMove; exact b_move) | (show kLoad; exact b_loadPtr) | (show kFieldaddr; exact b_fieldPtr) | (show kIndexaddr; exact m_indexSl) | (show kNilcheck; exact b_nilPtr)) ?_)
        | (show dNil; refine ds_nil ?_))
      exact ⟨rfl, _, rfl⟩
  rw [if_neg p2] at h
  by_cases p4 : nd.op = 4
  · rw [if_pos p4] at h
    obtain ⟨hp, hq⟩ := htwo (.inl p4)
    cases he : evalD e d rule pt.1 a s1 with
    | stop c1 s2 =>
      rw [he] at h
      injection h with q1 q2; subst q1; subst q2
      have hst := P' rule pt.1 a s1 c1 s2 r0 r1 hp.1 hp.2 a0 a1 hs1 he
      repeat' (first
        | (refine aw_T ?_ (hb := decide_eq_true (by assumption)))
        | (refine aw_F ?_ (hb := decide_eq_false (by omega)))
        | (refine retP ?_)
        | (show lCall; refine k_callCXp 0 1 hst rfl rfl (by decide) rfl rfl (σ' := stepσ e s2 nd) rfl ?_)
        | (show lOp; refine op0 (by first | (show kAssign; exact b_assign) | (show kMove; exact b_move) | (show kBinopAdd; exact b_add) | (show kBinopEql; exact b_eql)) ?_)
        | (show lNil; refine al_nil ?_)
        | (show qSeq; first | refine n_seq ?_ | refine q_seq ?_)
        | (show qBlk; refine q_block ?_)
        | (show cReg; refine aw_reg ?_)
        | (show cSeq; refine aw_seq ?_))
      exact ⟨rfl, _, rfl⟩
    | ok o1 s2 =>
    rw [he] at h
    dsimp only at h
    have hst := H' rule pt.1 a s1 o1 s2 r0 r1 hp.1 hp.2 a0 a1 hs1 he
    obtain ⟨g1, g2, g3⟩ := evalD_ok hw d rule pt.1 a r0 r1 hp.1 hp.2 a0 a1 s1 o1 s2 hs1 he
    have hol : o1.forest.length ≤ 1048576 := g1.caps.1
    by_cases k1 : o1.kind = 1
    · rw [if_neg (by simpa using k1)] at h
      cases he2 : evalD e d rule pt.2 o1.fin s2 with
      | stop c1 s3 =>
        rw [he2] at h
        injection h with q1 q2; subst q1; subst q2
        have hst2 := P' rule pt.2 o1.fin s2 c1 s3 r0 r1 hq.1 hq.2 g1.fin.1 g1.fin.2 g2 he2
        repeat' (first
          | (refine aw_T ?_ (hb := decide_eq_true (by assumption)))
          | (refine aw_F ?_ (hb := decide_eq_false (by omega)))
          | (refine retP ?_)
          | (show lAlloc; refine k_alloc ?_)
          | (show lStore; refine k_store (l' := outC o1) ?_)
          | (show lCall; first | refine k_callCX 0 1 hst rfl rfl (by decide) rfl rfl (σ' := stepσ e s2 nd) rfl ?_ | refine k_callCXp 0 1 hst2 rfl rfl (by decide) rfl rfl (σ' := stepσ e s3 nd ++ [.cells (outC o1)]) rfl ?_)
          | (show lOp; refine op0 (by first | (show kAssign; exact b_assign) | (show kMove; exact b_move) | (show kLoad; exact b_loadPtr) | (show kFieldaddr; exact b_fieldPtr) | (show kBinopAdd; exact b_add) | (show kBinopEql; exact b_eql) | (show kBinopNeq; exact b_neq)) ?_)
          | (show lNil; refine al_nil ?_)
          | (show qSeq; first | refine n_seq ?_ | refine q_seq ?_)
          | (show qBlk; refine q_block ?_)
          | (show cReg; refine aw_reg ?_)
          | (show cSeq; refine aw_seq ?_)
          | (show cSkip; refine aw_skip ?_))
        exact ⟨rfl, _, rfl⟩
      | ok o2 s3 =>
      rw [he2] at h
      dsimp only at h
      have hst2 := H' rule pt.2 o1.fin s2 o2 s3 r0 r1 hq.1 hq.2 g1.fin.1 g1.fin.2 g2 he2
      obtain ⟨g4, g5, g6⟩ := evalD_ok hw d rule pt.2 o1.fin r0 r1 hq.1 hq.2 g1.fin.1 g1.fin.2 s2 o2 s3 g2 he2
      have hol2 : o2.forest.length ≤ 1048576 := g4.caps.1
      by_cases k2 : o2.kind = 1
      · rw [if_neg (by simpa using k2)] at h
        split at h
        · rename_i hgt
          injection h with q1 q2; subst q1; subst q2
          have hj := joined_p o1.forest o2.forest hgt (by omega)
          repeat' (first
            | (refine aw_T ?_ (hb := decide_eq_true (by assumption)))
            | (refine aw_F ?_ (hb := decide_eq_false (by omega)))
            | (show cAtD 27; refine aw_p 7 (stopP 2) Try_mixed ?_ ?_)
            | (refine retP ?_)
            | (show lAlloc; refine k_alloc ?_)
            | (show lStore; first | refine k_store (l' := outC o1) ?_ | refine k_store (l' := outC o2) ?_)
            | (show lCall; first | refine k_callCX 0 1 hst rfl rfl (by decide) rfl rfl (σ' := stepσ e s2 nd) rfl ?_ | refine k_callCX 0 1 hst2 rfl rfl (by decide) rfl rfl (σ' := stepσ e s3 nd ++ [.cells (outC o1)]) rfl ?_)
            | (show lOp; refine op0 (by first | (show kAssign; exact b_assign) | (show kMove; exact b_move) | (show kLoad; exact b_loadPtr) | (show kFieldaddr; exact b_fieldPtr) | (show kBinopAdd; exact b_add) | (show kBinopEql; exact b_eql) | (show kBinopNeq; exact b_neq)) ?_)
            | (show lNil; refine al_nil ?_)
            | (show qSeq; first | refine n_seq ?_ | refine q_seq ?_)
            | (show qBlk; refine q_block ?_)
            | (show cReg; refine aw_reg ?_)
            | (show cSeq; refine aw_seq ?_)
            | (show cSkip; refine aw_skip ?_)
            | (show DP _ _ _ _ _ _ _ [] _; exact dp_nil 182 rfl)
            | (show DP _ _ _ _ _ _ _ (Oper.mk (some 182) _ _ _ _ none :: _) _; refine dp_pan (p_call hj) ?_)
            | (show DP _ _ _ _ _ _ _ (Oper.mk (some _) _ _ _ _ none :: _) _; refine dp_op (by first | (show kLoad; exact b_loadPtr) | (show kFieldaddr; exact b_fieldPtr)) ?_))
          exact ⟨rfl, _, rfl⟩
        rename_i hle
        exact (matchedR_le (by rw [List.length_append]; omega) h).elim
      · rw [if_pos k2] at h
        cases h
    · rw [if_pos k1] at h
      cases h
  rw [if_neg p4] at h
  by_cases p5 : nd.op = 5
  · rw [if_pos p5] at h
    obtain ⟨hp, hq⟩ := htwo (.inr p5)
    cases he : evalD e d rule pt.1 a s1 with
    | stop c1 s2 =>
      rw [he] at h
      injection h with q1 q2; subst q1; subst q2
      have hst := P' rule pt.1 a s1 c1 s2 r0 r1 hp.1 hp.2 a0 a1 hs1 he
      repeat' (first
        | (refine aw_T ?_ (hb := decide_eq_true (by assumption)))
        | (refine aw_F ?_ (hb := decide_eq_false (by omega)))
        | (refine retP ?_)
        | (show lCall; refine k_callCXp 0 1 hst rfl rfl (by decide) rfl rfl (σ' := stepσ e s2 nd) rfl ?_)
        | (show lOp; refine op0 (by first | (show kAssign; exact b_assign) | (show kMove; exact b_move) | (show kBinopAdd; exact b_add) | (show kBinopEql; exact b_eql)) ?_)
        | (show lNil; refine al_nil ?_)
        | (show qSeq; first | refine n_seq ?_ | refine q_seq ?_)
        | (show qBlk; refine q_block ?_)
        | (show cReg; refine aw_reg ?_)
        | (show cSeq; refine aw_seq ?_))
      exact ⟨rfl, _, rfl⟩
    | ok o1 s2 =>
    rw [he] at h
    dsimp only at h
    have hst := H' rule pt.1 a s1 o1 s2 r0 r1 hp.1 hp.2 a0 a1 hs1 he
    obtain ⟨g1, g2, g3⟩ := evalD_ok hw d rule pt.1 a r0 r1 hp.1 hp.2 a0 a1 s1 o1 s2 hs1 he
    have hol : o1.forest.length ≤ 1048576 := g1.caps.1
    by_cases k1 : o1.kind = 0
    · rw [if_neg (by simpa using k1)] at h
      have hst2 := P' rule pt.2 a s2 c s' r0 r1 hq.1 hq.2 a0 a1 g2 h
      repeat' (first
        | (refine aw_T ?_ (hb := decide_eq_true (by assumption)))
        | (refine aw_F ?_ (hb := decide_eq_false (by omega)))
        | (refine retP ?_)
        | (show lAlloc; refine k_alloc ?_)
        | (show lStore; refine k_store (l' := outC o1) ?_)
        | (show lCall; first | refine k_callCX 0 1 hst rfl rfl (by decide) rfl rfl (σ' := stepσ e s2 nd) rfl ?_ | refine k_callCXp 0 1 hst2 rfl rfl (by decide) rfl rfl (σ' := stepσ e s' nd ++ [.cells (outC o1)]) rfl ?_)
        | (show lOp; refine op0 (by first | (show kAssign; exact b_assign) | (show kMove; exact b_move) | (show kLoad; exact b_loadPtr) | (show kFieldaddr; exact b_fieldPtr) | (show kBinopAdd; exact b_add) | (show kBinopEql; exact b_eql) | (show kBinopNeq; exact b_neq)) ?_)
        | (show lNil; refine al_nil ?_)
        | (show qSeq; first | refine n_seq ?_ | refine q_seq ?_)
        | (show qBlk; refine q_block ?_)
        | (show cReg; refine aw_reg ?_)
        | (show cSeq; refine aw_seq ?_)
        | (show cSkip; refine aw_skip ?_))
      exact ⟨rfl, _, rfl⟩
    · rw [if_pos k1] at h
      cases h
  rw [if_neg p5] at h
  by_cases p6 : nd.op = 6
  · rw [if_pos p6] at h
    have hp := hone (.inl p6)
    have hst := star_p hw hd H HP r0 r1 hp.1 hp.2 a0 a1 hs1 (by omega) h
    rw [show e.limD + 1 - d = e.limD - d + 1 by omega] at hst
    repeat' (first
      | (refine aw_T ?_ (hb := decide_eq_true (by assumption)))
      | (refine aw_F ?_ (hb := decide_eq_false (by omega)))
      | (refine retP ?_)
      | (show lCall; refine k_callCXp 0 1 hst rfl rfl (by decide) rfl rfl (σ' := stepσ e s' nd) rfl ?_)
      | (show lOp; refine op0 (by first | (show kAssign; exact b_assign) | (show kMove; exact b_move) | (show kBinopAdd; exact b_add) | (show kBinopEql; exact b_eql)) ?_)
      | (show lNil; refine al_nil ?_)
      | (show qSeq; first | refine n_seq ?_ | refine q_seq ?_)
      | (show qBlk; refine q_block ?_)
      | (show cReg; refine aw_reg ?_)
      | (show cSeq; refine aw_seq ?_))
    exact ⟨rfl, _, rfl⟩
  rw [if_neg p6] at h
  by_cases p7 : nd.op = 7
  · rw [if_pos p7] at h
    have hp := hone (.inr (.inl p7))
    cases he : evalD e d rule pt.1 a s1 with
    | stop c1 s2 =>
      rw [he] at h
      injection h with q1 q2; subst q1; subst q2
      have hst := P' rule pt.1 a s1 c1 s2 r0 r1 hp.1 hp.2 a0 a1 hs1 he
      repeat' (first
        | (refine aw_T ?_ (hb := decide_eq_true (by assumption)))
        | (refine aw_F ?_ (hb := decide_eq_false (by omega)))
        | (refine retP ?_)
        | (show lCall; refine k_callCXp 0 1 hst rfl rfl (by decide) rfl rfl (σ' := stepσ e s2 nd) rfl ?_)
        | (show lOp; refine op0 (by first | (show kAssign; exact b_assign) | (show kMove; exact b_move) | (show kBinopAdd; exact b_add) | (show kBinopEql; exact b_eql)) ?_)
        | (show lNil; refine al_nil ?_)
        | (show qSeq; first | refine n_seq ?_ | refine q_seq ?_)
        | (show qBlk; refine q_block ?_)
        | (show cReg; refine aw_reg ?_)
        | (show cSeq; refine aw_seq ?_))
      exact ⟨rfl, _, rfl⟩
    | ok o1 s2 =>
    exfalso
    rw [he] at h
    dsimp only at h
    split at h
    · cases h
    · exact matchedR_nil h
  rw [if_neg p7] at h
  by_cases p8 : nd.op = 8
  · rw [if_pos p8] at h
    have hp := hone (.inr (.inr p8))
    cases he : evalD e d rule pt.1 a s1 with
    | stop c1 s2 =>
      rw [he] at h
      injection h with q1 q2; subst q1; subst q2
      have hst := P' rule pt.1 a s1 c1 s2 r0 r1 hp.1 hp.2 a0 a1 hs1 he
      repeat' (first
        | (refine aw_T ?_ (hb := decide_eq_true (by assumption)))
        | (refine aw_F ?_ (hb := decide_eq_false (by omega)))
        | (refine retP ?_)
        | (show lCall; refine k_callCXp 0 1 hst rfl rfl (by decide) rfl rfl (σ' := stepσ e s2 nd) rfl ?_)
        | (show lOp; refine op0 (by first | (show kAssign; exact b_assign) | (show kMove; exact b_move) | (show kBinopAdd; exact b_add) | (show kBinopEql; exact b_eql)) ?_)
        | (show lNil; refine al_nil ?_)
        | (show qSeq; first | refine n_seq ?_ | refine q_seq ?_)
        | (show qBlk; refine q_block ?_)
        | (show cReg; refine aw_reg ?_)
        | (show cSeq; refine aw_seq ?_))
      exact ⟨rfl, _, rfl⟩
    | ok o1 s2 =>
    rw [he] at h
    dsimp only at h
    have hst := H' rule pt.1 a s1 o1 s2 r0 r1 hp.1 hp.2 a0 a1 hs1 he
    obtain ⟨g1, g2, g3⟩ := evalD_ok hw d rule pt.1 a r0 r1 hp.1 hp.2 a0 a1 s1 o1 s2 hs1 he
    have hol : o1.forest.length ≤ 1048576 := g1.caps.1
    by_cases k1 : o1.kind = 1
    · rw [if_neg (by simpa using k1)] at h
      split at h
      · rename_i hgt
        injection h with q1 q2; subst q1; subst q2
        have ht := trees_c o1.forest g1.caps
        have hj := joined_p [⟨nd.name, a, o1.fin, trees o1.forest 0 0⟩] o1.forest (by simp only [List.length_cons, List.length_nil]; omega) (by simp only [List.length_cons, List.length_nil]; omega)
        repeat' (first
          | (refine aw_T ?_ (hb := decide_eq_true (by assumption)))
          | (refine aw_F ?_ (hb := decide_eq_false (by omega)))
          | (show cAtD 43; refine aw_p 15 (stopP 2) Try_mixed ?_ ?_)
          | (refine retP ?_)
          | (show lAlloc; refine k_alloc ?_)
          | (show lStore; refine k_store (l' := outC o1) ?_)
          | (show lCall; refine k_callCX 0 1 hst rfl rfl (by decide) rfl rfl (σ' := stepσ e s2 nd) rfl ?_)
          | (show lOp; refine op0 (by first | (show kAssign; exact b_assign) | (show kMove; exact b_move) | (show kLoad; exact b_loadPtr) | (show kFieldaddr; exact b_fieldPtr) | (show kBinopAdd; exact b_add) | (show kBinopEql; exact b_eql) | (show kBinopNeq; exact b_neq)) ?_)
          | (show lNil; refine al_nil ?_)
          | (show qSeq; first | refine n_seq ?_ | refine q_seq ?_)
          | (show qBlk; refine q_block ?_)
          | (show cReg; refine aw_reg ?_)
          | (show cSeq; refine aw_seq ?_)
          | (show cSkip; refine aw_skip ?_)
          | (show DP _ _ _ _ _ _ _ [] _; exact dp_nil 254 rfl)
          | (show DP _ _ _ _ _ _ _ (Oper.mk (some 254) _ _ _ _ none :: _) _; refine dp_pan (p_call hj) ?_)
          | (show DP _ _ _ _ _ _ _ (Oper.mk (some _) _ _ _ _ none :: _) _; refine dp_op (by first | (show kMove; exact b_move) | (show kCall; exact b_call (ht)) | (show kLoad; exact b_loadPtr) | (show kFieldaddr; exact b_fieldPtr) | (show kBuild; exact b_buildSt) | (show kBuildslice; exact b_buildSl1)) ?_))
        exact ⟨rfl, _, rfl⟩
      rename_i hle
      exact (matchedR_le (by simp only [List.length_cons]; omega) h).elim
    · rw [if_pos k1] at h
      cases h
  rw [if_neg p8] at h
  exact (matchedR_nil h).elim
/-- A step that may not lie in the others. -/
theorem step_0 {e : Env} (hw : WF e) : StepP e 0 := by
  intro rule node a s c s' r0 r1 n0 n1 a0 a1 hs h
  simp only [evalD] at h
  injection h with q1 q2; subst q1; subst q2
  have hl := hw.limD
  have hls := hw.limS
  refine acalls_by Try.func30 Try.ntmps30 ?_
  simp only [argFr]
  repeat' (first
    | (refine aw_T ?_ (hb := decide_eq_true (by omega)))
    | (refine k_panic ?_)
    | (refine retP ?_)
    | (show lAlloc; refine k_alloc ?_)
    | (show lOp; refine op0 (by first | (show kAssign; exact b_assign) | (show kMove; exact b_move) | (show kLoad; exact b_loadPtr) | (show kFieldaddr; exact b_fieldPtr) | (show kBinopGtr; exact b_gtr) | (show kNilcheck; exact b_nilPtr) | (show kMakeinterface; exact r_ifaceAgg (l := [lI 3]) rfl) | (show kBuild; exact b_buildSt)) ?_)
    | (show lNil; refine al_nil ?_)
    | (show qSeq; first | refine n_seq ?_ | refine q_seq ?_)
    | (show qBlk; refine q_block ?_)
    | (show cReg; refine aw_reg ?_)
    | (show cSeq; refine aw_seq ?_)
    | (show cBlk; refine aw_block ?_))
  exact ⟨rfl, _, rfl⟩
theorem stop_all {e : Env} (hw : WF e) : ∀ d : Nat, (d : Int) ≤ e.limD + 1 → StepP e d
  | 0, _ => step_0 hw
  | d + 1, hd => step_p hw (by omega) (step_all hw d (by omega)) (stop_all hw d (by omega))
end Go.AL
set_option linter.unusedVariables false
namespace Go.AL
open Go.Proofs
set_option maxRecDepth 10000
attribute [local irreducible] AWp AList RStep seqQ blockQ retQ DSteps DT DU DM DZ DP awR rQ SStep letterB digitB preB nameOk anyB rightL checkI
set_option maxHeartbeats 4000000 in
theorem def16_pan {σ : List AObj} {ix ir im io iu ie : Nat} {L : List C} {l : List ((Int × Int) × Out)} (c : Int) (hx : σ[ix]? = some (.cells [.ptr ir 0])) (hr : σ[ir]? = some (.cells L)) (hL : L[9]? = some (.mpr im)) (hm : σ[im]? = some (.ext (seedsX l)))
    (ho : σ[io]? = some (.cells zeroC)) (hu : σ[iu]? = some (.cells [.p (lI 0), .p (lI 0)])) (he : σ[ie]? = some (.cells [.p (lI 0)])) (ho' : im ≠ io) (hu' : im ≠ iu) (he' : im ≠ ie) :
    ADCalls Try.prog 16 [.c (.ptr ix 0), .c (.ptr io 0), .c (.ptr iu 0), .c (.ptr ie 0)] σ (uPan (stopP c)) (fun u' σ'' => settle u' = .returning ∧ ∃ g, σ'' = (σ.set im (.ext (seedsX []))).set ie (.cells [.p (lI c)]) ++ g) := by
  refine adcalls_rec (n := 21) (z := stopP c) (R := fun σ'' => ∃ g, σ'' = (σ.set im (.ext (seedsX []))).set ie (.cells [.p (lI c)]) ++ g) Try.func16 rfl rfl Try.ntmps16 Try.results16 (by simp) rfl (.inr rfl) ?_
  simp only [argFr]
  have hld : loaded false 1 (L.drop 9) = some (.c (.mpr im)) := by
    have : L.drop 9 = .mpr im :: L.drop 10 := by
      have hlt := (List.getElem?_eq_some_iff.1 hL).1
      rw [List.drop_eq_getElem_cons hlt]
      congr 1
      exact Option.some.inj ((List.getElem?_eq_getElem hlt).symm.trans hL)
    rw [this]; rfl
  generalize hσ1 : σ.set im (.ext (seedsX [])) = σ1
  have h1o : (σ1 ++ [AObj.cells [.p (lI c)]])[io]? = some (.cells zeroC) := getL (by rw [← hσ1, List.getElem?_set_ne ho']; exact ho)
  have h1u : (σ1 ++ [AObj.cells [.p (lI c)]])[iu]? = some (.cells [.p (lI 0), .p (lI 0)]) := getL (by rw [← hσ1, List.getElem?_set_ne hu']; exact hu)
  have h1e0 : σ1[ie]? = some (.cells [.p (lI 0)]) := by rw [← hσ1, List.getElem?_set_ne he']; exact he
  have h1e : (σ1 ++ [AObj.cells [.p (lI c)]])[ie]? = some (.cells [.p (lI 0)]) := getL h1e0
  have hlen : σ1.length + 0 = σ1.length := rfl
  have hst : (σ1 ++ [AObj.cells [.p (lI c)]]).set ie (.cells [.p (lI c)]) = σ1.set ie (.cells [.p (lI c)]) ++ [AObj.cells [.p (lI c)]] := List.set_append_left _ _ (List.getElem?_eq_some_iff.1 h1e0).1
  have hs0 : (σ1 ++ [AObj.cells (zC (Value.agg #[Value.int IntKind.i64 0]))])[σ1.length]? = some (.cells (zC (Value.agg #[Value.int IntKind.i64 0]))) := by simp
  have hs1 : (σ1 ++ [AObj.cells (zC (Value.agg #[Value.int IntKind.i64 0]))]).set σ1.length (.cells [.p (lI c)]) = σ1 ++ [AObj.cells [.p (lI c)]] := by simp
  have hs2 : (σ1 ++ [AObj.cells [.p (lI c)]])[σ1.length]? = some (.cells [.p (lI c)]) := by simp
  repeat' (first
    | (refine ds_opN (b_storeSame (ho := h1o)) ?_)
    | (refine ds_opN (b_storeSame (ho := h1u)) ?_)
    | (show lAlloc; refine k_alloc ?_)
    | (show lStore; first | refine k_store (id := σ1.length) (l' := [.p (lI c)]) (ho := hs0) (hσ := hs1) ?_ | refine k_store (l' := [.p (lI c)]) (ho := h1e) (hσ := hst) ?_)
    | (show lCall; refine k_mapClear (enc := encII) Try.underlying65 hm hσ1 ?_)
    | (show lOp; refine op0 (by first | (show kLoad; first | exact b_loadPtr (ho := hx) | exact b_loadPtr (ho := hr) (hl := hld)) | (show kFieldaddr; exact b_fieldPtr) | (show kBinopEql; exact b_ifaceNe (by kernel_rfl)) | (show kNilcheck; exact b_nilPtr) | (show kExtract; exact b_extract) | (show RStep _ _ _ (Oper.mk _ (.typeAssert _ _ _ _) _ _ _ _) _; exact b_tassert Try.underlying74)) ?_)
    | (show lNil; refine al_nil ?_)
    | (show qSeq; refine n_seq ?_)
    | (show qBlk; refine n_block ?_)
    | (show cReg; refine aw_reg ?_)
    | (show cSeq; refine aw_seq ?_)
    | (show cBlk; refine aw_block ?_)
    | (show cIf; first | refine aw_T ?_ | refine aw_F ?_)
    | (show cRegD; refine aw_dr 6 Try_mixed ?_)
    | (show dOp; refine ds_op (by first | (show kLoad; exact b_loadPtr (ho := hs2)) | (show kFieldaddr; exact b_fieldPtr) | (show kBuild; exact b_buildSt)) ?_)
    | (show dNil; refine ds_nil ?_))
  exact leftQ_normal ⟨_, rfl⟩
set_option maxHeartbeats 8000000 in
theorem run_p (c : Core) (I : Int → List Info) (hs : List Bool) (input : ByteArray) (D S : Int) (h : RunIn c I hs input D S) (code : Int) (s' : MS)
    (hev : evalD (envM c hs input D S) (clampI D 32768).toNat c.start (lastOf (envM c hs input D S) c.start) 0 ⟨0, 0, []⟩ = .stop code s') :
    ACalls Try.prog 7 [coreV c, strA input, .agg [.p (lI D), .p (lI S)]] [] (fun q _ => q = .ret (.tup [zeroOV, usedV 0 0, i64 code])) := by
  have hD : 0 ≤ clampI D 32768 := by unfold clampI; omega
  have hnr : 0 < c.rules.length ∧ c.rules.length ≤ 256 := h.wf.nr
  have hin : input.size ≤ 65536 := h.wf.input
  refine acalls_body Try.func7 rfl Try.ntmps7 (by simp) fun K => ?_
  simp only [argFr]
  repeat' (first
    | (refine awr_seq ?_)
    | (refine aw_F ?_ (hb := decide_eq_false (show ¬(0 : Int) ≠ 0 by omega)))
    | (show lAlloc; refine k_alloc ?_)
    | (show lBox; refine k_box ?_)
    | (show lStore; refine k_store ?_)
    | (show lOp; refine op0 (by first | (show kAssign; exact b_assign) | (show kMove; exact b_move) | (show kCall; first | exact b_call (h.heads) | exact m_lenSl) | (show kLoad; exact b_loadPtr) | (show kFieldaddr; exact b_fieldPtr) | (show kBinopNeq; exact b_neq) | (show kExtract; exact b_extract)) ?_)
    | (show lNil; refine al_nil ?_)
    | (show qSeq; refine n_seq ?_)
    | (show cReg; refine aw_reg ?_)
    | (show cSeq; refine aw_seq ?_)
    | (show cBlk; refine aw_block ?_)
    | (show cSkip; refine aw_skip ?_))
  refine aw_roundsP (ι := Nat) 5 (fun _ => pre7 c D S) (fun i n => fr7 c hs input ++ [(32, .c (.p (rulesP c.rules))), (33, i64 c.rules.length), (34, i64 i)]) (fun _ _ => []) (fun i => i ≤ c.rules.length) (fun i => c.rules.length - i) 0 5 (fun _ => rfl) (by simp) (by omega) (by simp) rfl rfl (by simp [Fr.get]) ?_
  intro i n g h1 hg
  have hg5 : 5 + g.length = n := by simp at hg; omega
  clear hg
  by_cases hi : i < c.rules.length
  · have hfa := h.facts i hi
    have hwb : 0 < (at' c.rules (i : Int)).body.length ∧ (at' c.rules (i : Int)).body.length ≤ 16384 := h.wf.body i (by omega) (by show (i : Int) < c.rules.length; omega)
    repeat' (first
      | (refine aw_T ?_ (hb := decide_eq_true (by omega)))
      | (show lOp; refine op0 (by first | (show kAssign; exact b_assign) | (show kMove; exact b_move) | (show kCall; first | exact b_call (hfa) | exact m_lenSl) | (show kLoad; first | exact b_loadRp | exact b_loadPtr) | (show kFieldaddr; first | exact b_fieldRp | exact b_fieldPtr) | (show kIndexaddr; exact m_indexSl) | (show kBinopLss; exact b_lss) | (show kExtract; exact b_extract)) ?_)
      | (show lNil; refine al_nil ?_)
      | (show qSeq; refine n_seq ?_)
      | (show cReg; refine aw_reg ?_)
      | (show cSeq; refine aw_seq ?_)
      | (show cBlk; refine aw_block ?_)
      | (show cSkip; refine aw_skip ?_))
    refine aw_roundsP (ι := Nat) 5 (fun _ => pre7 c D S) (fun k n => fr7 c hs input ++ [(10, i64 i), (11, .c (.p (infosP (I i)))), (32, .c (.p (rulesP c.rules))), (33, i64 c.rules.length), (34, i64 i), (48, .c (.p (bodyP (at' c.rules (i : Int)).body))), (49, i64 (at' c.rules (i : Int)).body.length), (50, i64 k)]) (fun _ _ => []) (fun k => k ≤ (at' c.rules (i : Int)).body.length) (fun k => (at' c.rules (i : Int)).body.length - k) 0 n (fun _ => rfl) (by simp) (by omega) (by simp; omega) rfl (dropGP (p := 5) (j := 0) hg5 rfl rfl) (by simp [Fr.get]) ?_
    clear hg5
    intro k n g k1 hg
    have hg5 : 5 + g.length = n := by simp at hg; omega
    clear hg
    by_cases hk : k < (at' c.rules (i : Int)).body.length
    · by_cases p6 : (at' (at' c.rules (i : Int)).body (k : Int)).op = 6
      · obtain ⟨q1, q2, q3⟩ := h.star i k hi hk p6
        repeat' (first
          | (refine aw_T ?_ (hb := decide_eq_true (by omega)))
          | (refine aw_F ?_ (hb := q3))
          | (refine al_yes ?_ (hb := decide_eq_true p6))
          | (show lAlloc; refine k_alloc ?_)
          | (show lStore; refine k_store ?_)
          | (show lOp; refine op0 (by first | (show kAssign; exact b_assign) | (show kMove; exact b_move) | (show kLoad; first | exact b_loadRp | exact b_loadPtr) | (show kFieldaddr; first | exact b_fieldRp | exact b_fieldPtr) | (show kIndexaddr; exact m_indexSl) | (show kBinopAdd; exact b_add) | (show kBinopSub; exact b_sub) | (show kBinopEql; exact b_eql) | (show kBinopLss; exact b_lss) | (show kPick; exact b_pickT)) ?_)
          | (show lNil; refine al_nil ?_)
          | (show qSeq; refine n_seq ?_)
          | (show qBlk; refine n_block ?_)
          | (show cReg; refine aw_reg ?_)
          | (show cSeq; refine aw_seq ?_)
          | (show cBlk; refine aw_block ?_)
          | (show cSkip; refine aw_skip ?_))
        exact ⟨k + 1, n + 1, by omega, by omega, by simp; omega, rfl, dropGP (p := 5) (j := 1) hg5 rfl rfl, by simp [Fr.get], by omega⟩
      · repeat' (first
          | (refine aw_T ?_ (hb := decide_eq_true (by omega)))
          | (refine aw_F ?_ (hb := rfl))
          | (show lAlloc; refine k_alloc ?_)
          | (show lStore; refine k_store ?_)
          | (show lOp; refine op0 (by first | (show kAssign; exact b_assign) | (show kMove; exact b_move) | (show kLoad; first | exact b_loadRp | exact b_loadPtr) | (show kFieldaddr; exact b_fieldPtr) | (show kIndexaddr; exact m_indexSl) | (show kBinopAdd; exact b_add) | (show kBinopEql; exact b_eql) | (show kBinopLss; exact b_lss) | (show kPick; exact b_pickF)) ?_)
          | (show lGu; refine al_none ?_)
          | (show lNil; refine al_nil ?_)
          | (show qSeq; refine n_seq ?_)
          | (show qBlk; refine n_block ?_)
          | (show cReg; refine aw_reg ?_)
          | (show cSeq; refine aw_seq ?_)
          | (show cBlk; refine aw_block ?_)
          | (show cSkip; refine aw_skip ?_))
        exact ⟨k + 1, n + 1, by omega, by omega, by simp; omega, rfl, dropGP (p := 5) (j := 1) hg5 rfl rfl, by simp [Fr.get], by omega⟩
    · repeat' (first
        | (refine aw_F ?_ (hb := decide_eq_false (by omega)))
        | (show lOp; refine op0 (by first | (show kMove; exact b_move) | (show kBinopAdd; exact b_add) | (show kBinopLss; exact b_lss)) ?_)
        | (show lNil; refine al_nil ?_)
        | (show qSeq; first | refine n_seq ?_ | refine x_seq ?_)
        | (show qBlk; first | refine n_block ?_ | refine x_eq ?_)
        | (show cReg; refine aw_reg ?_)
        | (show cSeq; refine aw_seq ?_)
        | (show cExit; refine aw_exit ?_))
      exact ⟨i + 1, n, by omega, by omega, by simp; omega, rfl, dropGP (p := 5) (j := 0) hg5 rfl rfl, by simp [Fr.get], by omega⟩
  · have : i = c.rules.length := by omega
    subst this
    repeat' (first
      | (refine aw_F ?_ (hb := decide_eq_false (by omega)))
      | (refine awr_seq ?_)
      | (show lAlloc; refine k_alloc ?_)
      | (show lBox; refine k_box ?_)
      | (show lStore; refine k_store ?_)
      | (show lMakeMap; refine k_makeMap encII ?_)
      | (show lOp; refine op0 (by first | (show kMove; exact b_move) | (show kCall; first | exact m_lenSl | exact b_lenStr | exact b_max | exact b_min) | (show kLoad; exact b_loadPtr) | (show kFieldaddr; exact b_fieldPtr) | (show kBinopLss; exact b_lss) | (show kBinopGtr; exact b_gtr) | (show kNilcheck; exact b_nilPtr) | (show kBuild; exact b_buildSt)) ?_)
      | (show lNil; refine al_nil ?_)
      | (show qSeq; first | refine n_seq ?_ | refine x_seq ?_)
      | (show qBlk; refine x_eq ?_)
      | (show cReg; refine aw_reg ?_)
      | (show cSeq; refine aw_seq ?_)
      | (show cBlk; refine aw_block ?_)
      | (show cSkip; refine aw_skip ?_)
      | (show cExit; refine aw_exit ?_))
    have hps : (partsM c).length = c.rules.length := by simp [partsM]
    have hown : ((pre7 c D S ++ (g ++ [AObj.ext (MapX encII []), AObj.cells (runK c hs input D S (.p (.lit (.slice none 0 0))) (n + 0)), AObj.cells [C.ptr (n + 1) 0]])) ++ [AObj.arr 69 1 []]).set (n + 1) (.cells ((runK c hs input D S (.p (.lit (.slice none 0 0))) (n + 0)).set 2 (.ms (n + 3) 0))) = (pre7 c D S ++ (g ++ [AObj.ext (MapX encII []), AObj.cells (runK c hs input D S (.ms (n + 3) 0) (n + 0)), AObj.cells [C.ptr (n + 1) 0]])) ++ [AObj.arr 69 1 []] := by
      rw [List.set_append_left _ _ (by simp; omega), setGP (p := 5) hg5 rfl rfl]; rfl
    refine kw_ownC (n + 1) 2 69 1 (n := n + 3) (getGP (p := 5) hg5 rfl rfl) rfl (lenGP (p := 5) hg5 rfl rfl) hown ?_
    refine aw_roundsN (ι := Nat) (n + 3) (fun i n' => pre7 c D S ++ (g ++ [AObj.ext (MapX encII []), AObj.cells (runK c hs input D S (.ms (n' + 0) i) (n + 0)), AObj.cells [C.ptr (n + 1) 0]])) (fun i n' => fr7 c hs input ++ [(15, .c (.ptr (n + 2) 0)), (98, .c (.p (rulesP c.rules))), (99, i64 c.rules.length), (100, i64 i)]) (fun i n' => [.arr 69 1 (((partsM c).take i).map encQs)]) (fun i => i ≤ c.rules.length) (fun i => c.rules.length - i) 0 (n + 3) (fun i n' => by simp; omega) (by simp) (by omega) (by simp; omega) (by rw [List.take_append_of_le_length (by simp; omega), List.take_of_length_le (by simp; omega)] <;> rfl) (by rw [List.drop_append_of_le_length (by simp; omega), List.drop_of_length_le (by simp; omega)] <;> rfl) (by simp [Fr.get]) ?_
    have hA : (pre7 c D S ++ g).length = n := by simp; omega
    intro i n2 g2 k1 hg2
    have hB : ((pre7 c D S ++ (g ++ [AObj.ext (MapX encII []), AObj.cells (runK c hs input D S (.ms (n2 + 0) i) (n + 0)), AObj.cells [C.ptr (n + 1) 0]])) ++ g2).length = n2 := by simp; omega
    by_cases hi2 : i < c.rules.length
    · have hwb : 0 < (at' c.rules (i : Int)).body.length ∧ (at' c.rules (i : Int)).body.length ≤ 16384 := h.wf.body i (by omega) (by show (i : Int) < c.rules.length; omega)
      have hpm : at' (partsM c) (i : Int) = (List.range (at' c.rules (i : Int)).body.length).map fun (q : Nat) => partsI (at' c.rules (i : Int)).body (q : Int) := by
        simp [partsM, at', List.getD_eq_getElem?_getD, hi2]
      have hptk : (partsM c).take i ++ [at' (partsM c) (i : Int)] = (partsM c).take (i + 1) := by
        rw [List.take_add_one, at'_getElem? (by omega)]; rfl
      have hti : i ≤ ((partsM c).take i).length := by rw [List.length_take]; omega
      repeat' (first
        | (refine aw_T ?_ (hb := decide_eq_true (by omega)))
        | (show lAlloc; refine k_alloc ?_)
        | (show lStore; refine k_store (l' := (encRule (at' c.rules (i : Int))).map .p) ?_)
        | (show lMakeSlice; refine k_makeM (f := encP2) ((0 : Int), (0 : Int)) ?_)
        | (show lOp; refine op0 (by first | (show kAssign; exact b_assign) | (show kMove; exact b_move) | (show kCall; exact m_lenSl) | (show kLoad; first | exact b_loadRp | exact b_loadPtr) | (show kFieldaddr; exact b_fieldPtr) | (show kIndexaddr; exact m_indexSl) | (show kBinopLss; exact b_lss)) ?_)
        | (show lNil; refine al_nil ?_)
        | (show qSeq; refine n_seq ?_)
        | (show cReg; refine aw_reg ?_)
        | (show cSeq; refine aw_seq ?_)
        | (show cBlk; refine aw_block ?_)
        | (show cSkip; refine aw_skip ?_))
      refine aw_roundsN (ι := Nat × List (Int × Int)) (n + 3) (fun j n' => preR c hs input D S g n (.ms (n' + 0) i)) (fun j n' => fr7 c hs input ++ [(15, .c (.ptr (n + 2) 0)), (17, .c (.ptr (n' + 1) 0)), (18, .c (.ms (n' + 2) (at' c.rules (i : Int)).body.length)), (98, .c (.p (rulesP c.rules))), (99, i64 c.rules.length), (100, i64 i), (110, i64 (at' c.rules (i : Int)).body.length), (111, i64 j.1)]) (fun j n' => [.arr 69 1 (((partsM c).take i).map encQs), .cells ((encRule (at' c.rules (i : Int))).map .p), .arr 72 2 (j.2.map encP2)]) (fun j => j.1 ≤ (at' c.rules (i : Int)).body.length ∧ j.2.length = (at' c.rules (i : Int)).body.length ∧ ∀ q : Nat, q < j.1 → at' j.2 (q : Int) = partsI (at' c.rules (i : Int)).body (q : Int)) (fun j => (at' c.rules (i : Int)).body.length - j.1) (0, List.replicate (at' c.rules (i : Int)).body.length (0, 0)) n2 (fun i n' => by simp; omega) ⟨by simp, by simp, by simp⟩ (by omega) (by simp; omega) (by rw [List.take_append_of_le_length (by simp; omega), List.take_of_length_le (by simp; omega)] <;> rfl) (dropG (j := 0) hB rfl) (by simp [Fr.get]) ?_
      clear hB hg2
      rintro ⟨k, l⟩ n2 g2 ⟨q1, q2, q3⟩ hg2
      dsimp only at q1 q2 q3 ⊢
      have hB : (preR c hs input D S g n (.ms (n2 + 0) i) ++ g2).length = n2 := by simp; omega
      by_cases hk : k < (at' c.rules (i : Int)).body.length
      · have hpc := parts_c (at' c.rules (i : Int)).body (k : Int) (by omega) (by omega)
        have hat1 : at' (l.set k ((partsI (at' c.rules (i : Int)).body (k : Int)).1, (at' l (k : Int)).2)) (k : Int) = ((partsI (at' c.rules (i : Int)).body (k : Int)).1, (at' l (k : Int)).2) := at'_set_self (by omega)
        repeat' (first
          | (refine aw_T ?_ (hb := decide_eq_true (by omega)))
          | (show cAtD 27; refine' aw_dt 15 13 (preR c hs input D S g n (.ms (n2 + 0) i) ++ (g2 ++ [AObj.arr 69 1 (((partsM c).take i).map encQs), AObj.cells ((encRule (at' c.rules (i : Int))).map .p), AObj.arr 72 2 ((l.set k ((partsI (at' c.rules (i : Int)).body (k : Int)).1, (at' l (k : Int)).2)).map encP2)])) Try_mixed _)
          | (show lStore; refine k_storePart (i := k) (f := encP2) ((at' (l.set k ((partsI (at' c.rules (i : Int)).body (k : Int)).1, (at' l (k : Int)).2)) (k : Int)).1, (partsI (at' c.rules (i : Int)).body (k : Int)).2) ?_)
          | (show lOp; refine op0 (by first | (show kAssign; exact b_assign) | (show kMove; exact b_move) | (show kIndexaddr; exact b_indexArrEpt) | (show kBinopAdd; exact b_add) | (show kBinopLss; exact b_lss)) ?_)
          | (show lNil; refine al_nil ?_)
          | (show qSeq; refine n_seq ?_)
          | (show qBlk; refine n_block ?_)
          | (show cReg; refine aw_reg ?_)
          | (show cSeq; refine aw_seq ?_)
          | (show cBlk; refine aw_block ?_)
          | (show cSkip; refine aw_skip ?_)
          | (show tNil; refine dt_nil ?_)
          | (show tNone; refine dt_turnN (by exact t_storePart (i := k) (f := encP2) ((partsI (at' c.rules (i : Int)).body (k : Int)).1, (at' l (k : Int)).2)) ?_)
          | (show tSome; first | (refine dt_pre (by first | (show kMove; exact b_move) | (show kCall; exact b_call (hpc)) | (show kLoad; exact b_loadPtr) | (show kFieldaddr; exact b_fieldPtr) | (show kIndexaddr; first | exact m_indexMs | exact b_indexArrEpt) | (show kExtract; exact b_extract)) (by decide +kernel) ?_) | (refine dt_pre2 (by first | (show kMove; exact b_move) | (show kIndexaddr; exact m_indexMs) | (show kExtract; exact b_extract)) (by first | (show kMove; exact b_move) | (show kIndexaddr; exact m_indexMs) | (show kExtract; exact b_extract)) ?_) | (refine dt_post2 (by (show kIndexaddr; exact m_indexMs)) (by (show kIndexaddr; exact m_indexMs)) ?_)))
        refine ⟨(k + 1, (l.set k ((partsI (at' c.rules (i : Int)).body (k : Int)).1, (at' l (k : Int)).2)).set k ((at' (l.set k ((partsI (at' c.rules (i : Int)).body (k : Int)).1, (at' l (k : Int)).2)) (k : Int)).1, (partsI (at' c.rules (i : Int)).body (k : Int)).2)), n2, ⟨by dsimp only; omega, by simp [q2], fun q hq => ?_⟩, by omega, by simp; omega, by rw [List.take_append_of_le_length (by simp; omega), List.take_of_length_le (by simp; omega)] <;> rfl, dropG (j := 0) hB rfl, by simp [Fr.get], by dsimp only; omega⟩
        dsimp only at hq ⊢
        by_cases hqk : k = q
        · subst hqk
          rw [at'_set_self (by simp; omega), hat1]
        · rw [at'_set_ne hqk, at'_set_ne hqk]
          exact q3 q (by omega)
      · have : k = (at' c.rules (i : Int)).body.length := by omega
        subst this
        have hl : l = at' (partsM c) (i : Int) := by
          rw [hpm]
          refine ext_at' (by simp [q2]) (fun q hq => ?_)
          rw [q3 q (by omega), at'_rangeMap _ (by omega)]
        have hlB : l.take (at' c.rules (i : Int)).body.length = l := List.take_of_length_le (by omega)
        have hst : (preR c hs input D S g n (.ms (n2 + 0) i) ++ (g2 ++ [AObj.dead, AObj.cells ((encRule (at' c.rules (i : Int))).map .p), AObj.dead, AObj.arr 69 1 ((((partsM c).take i).take i ++ [l.take (at' c.rules (i : Int)).body.length]).map encQs)])).set (n + 1) (.cells (runK c hs input D S (.ms (n2 + 3) (i + 1)) (n + 0))) = preR c hs input D S g n (.ms (n2 + 3) (i + 1)) ++ (g2 ++ [AObj.dead, AObj.cells ((encRule (at' c.rules (i : Int))).map .p), AObj.dead, AObj.arr 69 1 ((((partsM c).take i).take i ++ [l.take (at' c.rules (i : Int)).body.length]).map encQs)]) := by
          rw [List.set_append_left _ _ (by simp; omega), setGP (p := 5) hg5 rfl rfl]; rfl
        have hB2 : (preR c hs input D S g n (.ms (n2 + 3) (i + 1)) ++ g2).length = n2 := by simp; omega
        repeat' (first
          | (refine aw_F ?_ (hb := decide_eq_false (by omega)))
          | (show cAtD 29; refine kw_freezeM (f := encP2) 18 ?_)
          | (show cAtD 29; refine' aw_dt 8 7 (preR c hs input D S g n (.ms (n2 + 0) i) ++ (g2 ++ [AObj.dead, AObj.cells ((encRule (at' c.rules (i : Int))).map .p), AObj.dead, AObj.arr 69 1 ((((partsM c).take i).take i ++ [l.take (at' c.rules (i : Int)).body.length]).map encQs)])) Try_mixed _)
          | (show lStore; refine k_store (l' := runK c hs input D S (.ms (n2 + 3) (i + 1)) (n + 0)) ?_ (hσ := hst))
          | (show lOp; refine op0 (by first | (show kMove; exact b_move) | (show kFieldaddr; exact b_fieldPtr) | (show kBinopAdd; exact b_add) | (show kBinopLss; exact b_lss) | (show kNilcheck; exact b_nilPtr)) ?_)
          | (show lNil; refine al_nil ?_)
          | (show qSeq; first | refine n_seq ?_ | refine x_seq ?_)
          | (show qBlk; first | refine n_block ?_ | refine x_eq ?_)
          | (show cReg; refine aw_reg ?_)
          | (show cSeq; refine aw_seq ?_)
          | (show cExit; refine aw_exit ?_)
          | (show tNil; refine dt_nil ?_)
          | (show tSome; first | refine dt_turn (by exact t_app1 (f := encQs) (l.take (at' c.rules (i : Int)).body.length) (hn := hti)) ?_ | (refine dt_pre (by first | (show kMove; exact b_move) | (show kLoad; exact b_loadPtr) | (show kFieldaddr; exact b_fieldPtr) | (show kNilcheck; exact b_nilPtr) | (show kBuildslice; exact b_buildSl1)) (by decide +kernel) ?_) | (refine dt_pre2 (by (show kLoad; exact b_loadPtr)) (by (show kLoad; exact b_loadPtr)) ?_)))
        exact ⟨i + 1, n2 + 3, by omega, by omega, by simp; omega, by rw [List.take_append_of_le_length (by simp; omega), List.take_of_length_le (by simp; omega)] <;> rfl, dropG (j := 3) hB2 (by rw [hlB, hl, List.take_take, Nat.min_self, hptk]; rfl), by simp [Fr.get], by omega⟩
    · have : i = c.rules.length := by omega
      subst this
      repeat' (first
        | (refine aw_F ?_ (hb := decide_eq_false (by omega)))
        | (show lOp; refine op0 (by (show kBinopLss; exact b_lss)) ?_)
        | (show lNil; refine al_nil ?_)
        | (show qSeq; first | refine n_seq ?_ | refine x_seq ?_)
        | (show qBlk; refine x_eq ?_)
        | (show cReg; refine aw_reg ?_)
        | (show cSeq; refine aw_seq ?_)
        | (show cExit; refine aw_exit ?_))
      have hptk : (partsM c).take c.rules.length = partsM c := List.take_of_length_le (by omega)
      have hn4 : c.rules.length ≤ (((partsM c).take c.rules.length).map encQs).length := by rw [List.length_map, hptk]; omega
      have hL4 : (runK c hs input D S (.ms (n2 + 0) c.rules.length) (n + 0)).set 2 (.p (.sl 1 ((((partsM c).take c.rules.length).map encQs).take c.rules.length))) = runK c hs input D S (.p (partsP (partsM c))) (n + 0) := by
        rw [hptk, List.take_of_length_le (by rw [List.length_map]; omega)]; rfl
      have hf4 : ((preR c hs input D S g n (.ms (n2 + 0) c.rules.length) ++ (g2 ++ [AObj.arr 69 1 (((partsM c).take c.rules.length).map encQs)])).set (n2 + 0) .dead).set (n + 1) (.cells (runK c hs input D S (.p (partsP (partsM c))) (n + 0))) = preR c hs input D S g n (.p (partsP (partsM c))) ++ (g2 ++ [AObj.dead]) := by
        rw [setG hB rfl, List.set_append_left _ _ (by simp; omega), setGP (p := 5) hg5 rfl rfl]; rfl
      refine awr_freezeIn (n2 + 0) (n + 1) 2 (getG hB rfl) (getL (getGP (p := 5) hg5 rfl rfl)) rfl hn4 hL4 hf4 ?_
      refine awr_defer (l := [(n + 2, 0), (2, 0), (3, 0), (4, 0)]) (fun vs => ?_)
      have hdN : (((clampI D 32768).toNat : Nat) : Int) = clampI D 32768 := by omega
      have hwh := whole_p h.wf (d := (clampI D 32768).toNat) (show (((clampI D 32768).toNat : Nat) : Int) ≤ clampI D 32768 by omega) (stop_all h.wf _ (show (((clampI D 32768).toNat : Nat) : Int) ≤ clampI D 32768 + 1 by omega)) (rule := c.start) (a := 0) (s := ⟨0, 0, []⟩) (s' := s') (c := code) h.start.1 h.start.2 (by omega) (by omega) ⟨⟨Int.le_refl 0, h.wf.limS.1⟩, ⟨Int.le_refl 0, by decide⟩, fun p hp => by cases hp⟩ hev
      rw [show (envM c hs input D S).limD + 1 - (((clampI D 32768).toNat : Nat) : Int) = 1 by show clampI D 32768 + 1 - _ = 1; omega] at hwh
      have hcs : ((preR c hs input D S g n (.p (partsP (partsM c))) ++ (g2 ++ [AObj.dead])).set (n + 1) (.cells ((runC (envM c hs input D S) s'.ud s'.us 1).map (renC (ren2 [(n + 1, 0), (n, 0)] (preR c hs input D S g n (.p (partsP (partsM c))) ++ (g2 ++ [AObj.dead])).length))))).set n (.ext (seedsX s'.seeds)) = (pre7 c D S ++ (g ++ [AObj.ext (seedsX s'.seeds), AObj.cells (runC (envM c hs input D S) s'.ud s'.us n), AObj.cells [C.ptr (n + 1) 0]])) ++ (g2 ++ [AObj.dead]) := by
        rw [List.set_append_left _ _ (by simp; omega), setGP (p := 5) hg5 rfl rfl, List.set_append_left _ _ (by simp; omega), show n = n + 0 from rfl, setGP (p := 5) hg5 rfl rfl]; rfl
      repeat' (first
        | (show lCall; refine k_callCXp (n + 1) n hwh (getL (getGP (p := 5) hg5 rfl rfl)) (getL (getGP (p := 5) (j := 0) hg5 rfl rfl)) (by omega) rfl rfl hcs ?_)
        | (show lOp; refine op0 (by first | (show kLoad; exact b_loadPtr) | (show kFieldaddr; exact b_fieldPtr)) ?_)
        | (show qSeq; refine q_seq ?_)
        | (show cReg; refine aw_reg ?_)
        | (show cSeq; refine aw_seq ?_))
      have hx : ((pre7 c D S ++ (g ++ [AObj.ext (seedsX s'.seeds), AObj.cells (runC (envM c hs input D S) s'.ud s'.us n), AObj.cells [C.ptr (n + 1) 0]])) ++ (g2 ++ [AObj.dead]))[n + 2]? = some (.cells [.ptr (n + 1) 0]) := getL (getGP (p := 5) hg5 rfl rfl)
      have hr : ((pre7 c D S ++ (g ++ [AObj.ext (seedsX s'.seeds), AObj.cells (runC (envM c hs input D S) s'.ud s'.us n), AObj.cells [C.ptr (n + 1) 0]])) ++ (g2 ++ [AObj.dead]))[n + 1]? = some (.cells (runC (envM c hs input D S) s'.ud s'.us n)) := getL (getGP (p := 5) hg5 rfl rfl)
      have hm : ((pre7 c D S ++ (g ++ [AObj.ext (seedsX s'.seeds), AObj.cells (runC (envM c hs input D S) s'.ud s'.us n), AObj.cells [C.ptr (n + 1) 0]])) ++ (g2 ++ [AObj.dead]))[n]? = some (.ext (seedsX s'.seeds)) := getL (getGP (p := 5) (j := 0) hg5 rfl rfl)
      refine (def16_pan (σ := (pre7 c D S ++ (g ++ [AObj.ext (seedsX s'.seeds), AObj.cells (runC (envM c hs input D S) s'.ud s'.us n), AObj.cells [C.ptr (n + 1) 0]])) ++ (g2 ++ [AObj.dead])) (io := 2) (iu := 3) (ie := 4) code hx hr rfl hm rfl rfl rfl (by omega) (by omega) (by omega)).mono fun u' σ'' hh => ?_
      obtain ⟨hu, gq, rfl⟩ := hh
      refine ⟨hu, [zeroOV, usedV 0 0, i64 code], ?_, rfl⟩
      exact res_c3 (ia := 2) (ib := 3) (ic := 4) (la := zeroC) (lb := [C.p (lI 0), C.p (lI 0)]) (lc := [C.p (lI code)]) Try.results7 rfl rfl rfl (by rw [List.getElem?_append_left (by simp), List.getElem?_set_ne (by omega), List.getElem?_set_ne (by omega)]; rfl) (by rw [List.getElem?_append_left (by simp), List.getElem?_set_ne (by omega), List.getElem?_set_ne (by omega)]; rfl) (by rw [List.getElem?_append_left (by simp)]; rw [List.getElem?_set_self (by simp)]) rfl rfl rfl
end Go.AL
set_option linter.unusedVariables false
namespace Go.AL
open Go.Proofs
set_option maxRecDepth 10000
attribute [local irreducible] AWp AList RStep seqQ blockQ retQ DSteps DT DU DM DZ awR rQ SStep letterB digitB preB nameOk anyB rightL checkI
/-- What Run asks of its grammar before it looks at the stars and the input. -/
structure RunF (c : Core) (I : Int → List Info) (hs : List Bool) : Prop where
  heads : ACalls Try.prog 13 [coreV c] [] (fun q _ => q = .ret (.tup [.c (.p (headsP hs)), i64 0]))
  facts : ∀ r : Nat, r < c.rules.length → ACalls Try.prog 14 [coreV c, i64 r] [] (fun q _ => q = .ret (.tup [.c (.p (infosP (I r))), i64 0]))
  star : ∀ r k : Nat, r < c.rules.length → k < (at' c.rules (r : Int)).body.length → (at' (at' c.rules (r : Int)).body (k : Int)).op = 6 → 1 ≤ k ∧ k ≤ (I r).length
  nr : 0 < c.rules.length ∧ c.rules.length ≤ 256
  body : ∀ r : Int, 0 ≤ r → r < c.rules.length → 0 < (at' c.rules r).body.length ∧ (at' c.rules r).body.length ≤ 16384
/-- A star whose part may match nothing. -/
def BadStar (c : Core) (I : Int → List Info) (r k : Nat) : Prop := k < (at' c.rules (r : Int)).body.length ∧ (at' (at' c.rules (r : Int)).body (k : Int)).op = 6 ∧ (at' (I r) ((k : Int) - 1)).may.f1 = true
set_option maxHeartbeats 8000000 in
theorem run_star (c : Core) (I : Int → List Info) (hs : List Bool) (input : ByteArray) (D S : Int) (h : RunF c I hs) (hb : ∃ r k, r < c.rules.length ∧ BadStar c I r k) :
    ACalls Try.prog 7 [coreV c, strA input, .agg [.p (lI D), .p (lI S)]] [] (fun q _ => q = .ret (.tup [zeroOV, usedV 0 0, i64 111])) := by
  have hnr := h.nr
  refine acalls_body Try.func7 rfl Try.ntmps7 (by simp) fun K => ?_
  simp only [argFr]
  repeat' (first
    | (refine awr_seq ?_)
    | (refine aw_F ?_ (hb := decide_eq_false (show ¬(0 : Int) ≠ 0 by omega)))
    | (show lAlloc; refine k_alloc ?_)
    | (show lBox; refine k_box ?_)
    | (show lStore; refine k_store ?_)
    | (show lOp; refine op0 (by first | (show kAssign; exact b_assign) | (show kMove; exact b_move) | (show kCall; first | exact b_call (h.heads) | exact m_lenSl) | (show kLoad; exact b_loadPtr) | (show kFieldaddr; exact b_fieldPtr) | (show kBinopNeq; exact b_neq) | (show kExtract; exact b_extract)) ?_)
    | (show lNil; refine al_nil ?_)
    | (show qSeq; refine n_seq ?_)
    | (show cReg; refine aw_reg ?_)
    | (show cSeq; refine aw_seq ?_)
    | (show cBlk; refine aw_block ?_)
    | (show cSkip; refine aw_skip ?_))
  refine aw_roundsP (ι := Nat) 5 (fun _ => pre7 c D S) (fun i n => fr7 c hs input ++ [(32, .c (.p (rulesP c.rules))), (33, i64 c.rules.length), (34, i64 i)]) (fun _ _ => []) (fun i => i ≤ c.rules.length ∧ ∀ r, r < i → ∀ k, ¬BadStar c I r k) (fun i => c.rules.length - i) 0 5 (fun _ => rfl) ⟨by simp, fun r hr => absurd hr (by omega)⟩ (by omega) (by simp) rfl rfl (by simp [Fr.get]) ?_
  intro i n g h1 hg
  obtain ⟨h1, hno⟩ := h1
  have hg5 : 5 + g.length = n := by simp at hg; omega
  clear hg
  by_cases hi : i < c.rules.length
  · have hfa := h.facts i hi
    have hwb : 0 < (at' c.rules (i : Int)).body.length ∧ (at' c.rules (i : Int)).body.length ≤ 16384 := h.body i (by omega) (by omega)
    repeat' (first
      | (refine aw_T ?_ (hb := decide_eq_true (by omega)))
      | (show lOp; refine op0 (by first | (show kAssign; exact b_assign) | (show kMove; exact b_move) | (show kCall; first | exact b_call (hfa) | exact m_lenSl) | (show kLoad; first | exact b_loadRp | exact b_loadPtr) | (show kFieldaddr; first | exact b_fieldRp | exact b_fieldPtr) | (show kIndexaddr; exact m_indexSl) | (show kBinopLss; exact b_lss) | (show kExtract; exact b_extract)) ?_)
      | (show lNil; refine al_nil ?_)
      | (show qSeq; refine n_seq ?_)
      | (show cReg; refine aw_reg ?_)
      | (show cSeq; refine aw_seq ?_)
      | (show cBlk; refine aw_block ?_)
      | (show cSkip; refine aw_skip ?_))
    refine aw_roundsP (ι := Nat) 5 (fun _ => pre7 c D S) (fun k n => fr7 c hs input ++ [(10, i64 i), (11, .c (.p (infosP (I i)))), (32, .c (.p (rulesP c.rules))), (33, i64 c.rules.length), (34, i64 i), (48, .c (.p (bodyP (at' c.rules (i : Int)).body))), (49, i64 (at' c.rules (i : Int)).body.length), (50, i64 k)]) (fun _ _ => []) (fun k => k ≤ (at' c.rules (i : Int)).body.length ∧ ∀ j, j < k → ¬BadStar c I i j) (fun k => (at' c.rules (i : Int)).body.length - k) 0 n (fun _ => rfl) ⟨by simp, fun j hj => absurd hj (by omega)⟩ (by omega) (by simp; omega) rfl (dropGP (p := 5) (j := 0) hg5 rfl rfl) (by simp [Fr.get]) ?_
    clear hg5
    intro k n g k1 hg
    obtain ⟨k1, hnk⟩ := k1
    have hg5 : 5 + g.length = n := by simp at hg; omega
    clear hg
    by_cases hk : k < (at' c.rules (i : Int)).body.length
    · by_cases p6 : (at' (at' c.rules (i : Int)).body (k : Int)).op = 6
      · obtain ⟨q1, q2⟩ := h.star i k hi hk p6
        cases q3 : (at' (I i) ((k : Int) - 1)).may.f1 with
        | false =>
          repeat' (first
            | (refine aw_T ?_ (hb := decide_eq_true (by omega)))
            | (refine aw_F ?_ (hb := q3))
            | (refine al_yes ?_ (hb := decide_eq_true p6))
            | (show lAlloc; refine k_alloc ?_)
            | (show lStore; refine k_store ?_)
            | (show lOp; refine op0 (by first | (show kAssign; exact b_assign) | (show kMove; exact b_move) | (show kLoad; first | exact b_loadRp | exact b_loadPtr) | (show kFieldaddr; first | exact b_fieldRp | exact b_fieldPtr) | (show kIndexaddr; exact m_indexSl) | (show kBinopAdd; exact b_add) | (show kBinopSub; exact b_sub) | (show kBinopEql; exact b_eql) | (show kBinopLss; exact b_lss) | (show kPick; exact b_pickT)) ?_)
            | (show lNil; refine al_nil ?_)
            | (show qSeq; refine n_seq ?_)
            | (show qBlk; refine n_block ?_)
            | (show cReg; refine aw_reg ?_)
            | (show cSeq; refine aw_seq ?_)
            | (show cBlk; refine aw_block ?_)
            | (show cSkip; refine aw_skip ?_))
          exact ⟨k + 1, n + 1, ⟨by omega, fun j hj => by
            by_cases hjk : j = k
            · subst hjk; intro hbs; rw [hbs.2.2] at q3; cases q3
            · exact hnk j (by omega)⟩, by omega, by simp; omega, rfl, dropGP (p := 5) (j := 1) hg5 rfl rfl, by simp [Fr.get], by omega⟩
        | true =>
          repeat' (first
            | (refine aw_T ?_ (hb := decide_eq_true (by omega)))
            | (refine aw_T ?_ (hb := q3))
            | (refine al_yes ?_ (hb := decide_eq_true p6))
            | (show lAlloc; refine k_alloc ?_)
            | (show lStore; refine k_store ?_)
            | (show lOp; refine op0 (by first | (show kAssign; exact b_assign) | (show kMove; exact b_move) | (show kLoad; first | exact b_loadRp | exact b_loadPtr) | (show kFieldaddr; first | exact b_fieldRp | exact b_fieldPtr) | (show kIndexaddr; exact m_indexSl) | (show kBinopSub; exact b_sub) | (show kBinopEql; exact b_eql) | (show kBinopLss; exact b_lss) | (show kPick; exact b_pickT)) ?_)
            | (show lNil; refine al_nil ?_)
            | (show qSeq; first | refine n_seq ?_ | refine p_seq ?_)
            | (show qBlk; refine p_block ?_)
            | (show cReg; refine aw_reg ?_)
            | (show cSeq; refine aw_seq ?_)
            | (show cBlk; refine aw_block ?_)
            | (show cSkip; refine aw_skip ?_)
            | (show cRet; refine aw_ret ?_)
            | (show cRegD; refine aw_dr 4 Try_mixed ?_)
            | (show dOp; refine ds_op (by (show kLoad; exact b_loadPtr)) ?_)
            | (show DSteps _ _ _ _ _ _ (Oper.mk none _ _ _ _ none :: _) _; refine ds_opN b_storeSame ?_)
            | (show dNil; refine ds_nil ?_))
          refine er_c3 Try.results7 ?_
          rfl
      · repeat' (first
          | (refine aw_T ?_ (hb := decide_eq_true (by omega)))
          | (refine aw_F ?_ (hb := rfl))
          | (show lAlloc; refine k_alloc ?_)
          | (show lStore; refine k_store ?_)
          | (show lOp; refine op0 (by first | (show kAssign; exact b_assign) | (show kMove; exact b_move) | (show kLoad; first | exact b_loadRp | exact b_loadPtr) | (show kFieldaddr; exact b_fieldPtr) | (show kIndexaddr; exact m_indexSl) | (show kBinopAdd; exact b_add) | (show kBinopEql; exact b_eql) | (show kBinopLss; exact b_lss) | (show kPick; exact b_pickF)) ?_)
          | (show lGu; refine al_none ?_)
          | (show lNil; refine al_nil ?_)
          | (show qSeq; refine n_seq ?_)
          | (show qBlk; refine n_block ?_)
          | (show cReg; refine aw_reg ?_)
          | (show cSeq; refine aw_seq ?_)
          | (show cBlk; refine aw_block ?_)
          | (show cSkip; refine aw_skip ?_))
        exact ⟨k + 1, n + 1, ⟨by omega, fun j hj => by
            by_cases hjk : j = k
            · subst hjk; intro hbs; exact p6 hbs.2.1
            · exact hnk j (by omega)⟩, by omega, by simp; omega, rfl, dropGP (p := 5) (j := 1) hg5 rfl rfl, by simp [Fr.get], by omega⟩
    · repeat' (first
        | (refine aw_F ?_ (hb := decide_eq_false (by omega)))
        | (show lOp; refine op0 (by first | (show kMove; exact b_move) | (show kBinopAdd; exact b_add) | (show kBinopLss; exact b_lss)) ?_)
        | (show lNil; refine al_nil ?_)
        | (show qSeq; first | refine n_seq ?_ | refine x_seq ?_)
        | (show qBlk; first | refine n_block ?_ | refine x_eq ?_)
        | (show cReg; refine aw_reg ?_)
        | (show cSeq; refine aw_seq ?_)
        | (show cExit; refine aw_exit ?_))
      exact ⟨i + 1, n, ⟨by omega, fun r hr j => by
        by_cases hri : r = i
        · subst hri
          intro hbs
          exact hnk j (by have := hbs.1; omega) hbs
        · exact hno r (by omega) j⟩, by omega, by simp; omega, rfl, dropGP (p := 5) (j := 0) hg5 rfl rfl, by simp [Fr.get], by omega⟩
  · exfalso
    obtain ⟨r, k, hr, hbs⟩ := hb
    exact hno r (by omega) k hbs
set_option maxHeartbeats 8000000 in
theorem run_long (c : Core) (I : Int → List Info) (hs : List Bool) (input : ByteArray) (D S : Int) (h : RunF c I hs) (hb : ∀ r k, r < c.rules.length → ¬BadStar c I r k) (hin : 65536 < input.size) :
    ACalls Try.prog 7 [coreV c, strA input, .agg [.p (lI D), .p (lI S)]] [] (fun q _ => q = .ret (.tup [zeroOV, usedV 0 0, i64 1])) := by
  have hnr := h.nr
  refine acalls_body Try.func7 rfl Try.ntmps7 (by simp) fun K => ?_
  simp only [argFr]
  repeat' (first
    | (refine awr_seq ?_)
    | (refine aw_F ?_ (hb := decide_eq_false (show ¬(0 : Int) ≠ 0 by omega)))
    | (show lAlloc; refine k_alloc ?_)
    | (show lBox; refine k_box ?_)
    | (show lStore; refine k_store ?_)
    | (show lOp; refine op0 (by first | (show kAssign; exact b_assign) | (show kMove; exact b_move) | (show kCall; first | exact b_call (h.heads) | exact m_lenSl) | (show kLoad; exact b_loadPtr) | (show kFieldaddr; exact b_fieldPtr) | (show kBinopNeq; exact b_neq) | (show kExtract; exact b_extract)) ?_)
    | (show lNil; refine al_nil ?_)
    | (show qSeq; refine n_seq ?_)
    | (show cReg; refine aw_reg ?_)
    | (show cSeq; refine aw_seq ?_)
    | (show cBlk; refine aw_block ?_)
    | (show cSkip; refine aw_skip ?_))
  refine aw_roundsP (ι := Nat) 5 (fun _ => pre7 c D S) (fun i n => fr7 c hs input ++ [(32, .c (.p (rulesP c.rules))), (33, i64 c.rules.length), (34, i64 i)]) (fun _ _ => []) (fun i => i ≤ c.rules.length) (fun i => c.rules.length - i) 0 5 (fun _ => rfl) (by simp) (by omega) (by simp) rfl rfl (by simp [Fr.get]) ?_
  intro i n g h1 hg
  have hg5 : 5 + g.length = n := by simp at hg; omega
  clear hg
  by_cases hi : i < c.rules.length
  · have hfa := h.facts i hi
    have hwb : 0 < (at' c.rules (i : Int)).body.length ∧ (at' c.rules (i : Int)).body.length ≤ 16384 := h.body i (by omega) (by omega)
    repeat' (first
      | (refine aw_T ?_ (hb := decide_eq_true (by omega)))
      | (show lOp; refine op0 (by first | (show kAssign; exact b_assign) | (show kMove; exact b_move) | (show kCall; first | exact b_call (hfa) | exact m_lenSl) | (show kLoad; first | exact b_loadRp | exact b_loadPtr) | (show kFieldaddr; first | exact b_fieldRp | exact b_fieldPtr) | (show kIndexaddr; exact m_indexSl) | (show kBinopLss; exact b_lss) | (show kExtract; exact b_extract)) ?_)
      | (show lNil; refine al_nil ?_)
      | (show qSeq; refine n_seq ?_)
      | (show cReg; refine aw_reg ?_)
      | (show cSeq; refine aw_seq ?_)
      | (show cBlk; refine aw_block ?_)
      | (show cSkip; refine aw_skip ?_))
    refine aw_roundsP (ι := Nat) 5 (fun _ => pre7 c D S) (fun k n => fr7 c hs input ++ [(10, i64 i), (11, .c (.p (infosP (I i)))), (32, .c (.p (rulesP c.rules))), (33, i64 c.rules.length), (34, i64 i), (48, .c (.p (bodyP (at' c.rules (i : Int)).body))), (49, i64 (at' c.rules (i : Int)).body.length), (50, i64 k)]) (fun _ _ => []) (fun k => k ≤ (at' c.rules (i : Int)).body.length) (fun k => (at' c.rules (i : Int)).body.length - k) 0 n (fun _ => rfl) (by simp) (by omega) (by simp; omega) rfl (dropGP (p := 5) (j := 0) hg5 rfl rfl) (by simp [Fr.get]) ?_
    clear hg5
    intro k n g k1 hg
    have hg5 : 5 + g.length = n := by simp at hg; omega
    clear hg
    by_cases hk : k < (at' c.rules (i : Int)).body.length
    · by_cases p6 : (at' (at' c.rules (i : Int)).body (k : Int)).op = 6
      · obtain ⟨q1, q2⟩ := h.star i k hi hk p6
        have q3 : (at' (I i) ((k : Int) - 1)).may.f1 = false := by
          cases q : (at' (I i) ((k : Int) - 1)).may.f1 with
          | false => rfl
          | true => exact absurd ⟨hk, p6, q⟩ (hb i k hi)
        repeat' (first
          | (refine aw_T ?_ (hb := decide_eq_true (by omega)))
          | (refine aw_F ?_ (hb := q3))
          | (refine al_yes ?_ (hb := decide_eq_true p6))
          | (show lAlloc; refine k_alloc ?_)
          | (show lStore; refine k_store ?_)
          | (show lOp; refine op0 (by first | (show kAssign; exact b_assign) | (show kMove; exact b_move) | (show kLoad; first | exact b_loadRp | exact b_loadPtr) | (show kFieldaddr; first | exact b_fieldRp | exact b_fieldPtr) | (show kIndexaddr; exact m_indexSl) | (show kBinopAdd; exact b_add) | (show kBinopSub; exact b_sub) | (show kBinopEql; exact b_eql) | (show kBinopLss; exact b_lss) | (show kPick; exact b_pickT)) ?_)
          | (show lNil; refine al_nil ?_)
          | (show qSeq; refine n_seq ?_)
          | (show qBlk; refine n_block ?_)
          | (show cReg; refine aw_reg ?_)
          | (show cSeq; refine aw_seq ?_)
          | (show cBlk; refine aw_block ?_)
          | (show cSkip; refine aw_skip ?_))
        exact ⟨k + 1, n + 1, by omega, by omega, by simp; omega, rfl, dropGP (p := 5) (j := 1) hg5 rfl rfl, by simp [Fr.get], by omega⟩
      · repeat' (first
          | (refine aw_T ?_ (hb := decide_eq_true (by omega)))
          | (refine aw_F ?_ (hb := rfl))
          | (show lAlloc; refine k_alloc ?_)
          | (show lStore; refine k_store ?_)
          | (show lOp; refine op0 (by first | (show kAssign; exact b_assign) | (show kMove; exact b_move) | (show kLoad; first | exact b_loadRp | exact b_loadPtr) | (show kFieldaddr; exact b_fieldPtr) | (show kIndexaddr; exact m_indexSl) | (show kBinopAdd; exact b_add) | (show kBinopEql; exact b_eql) | (show kBinopLss; exact b_lss) | (show kPick; exact b_pickF)) ?_)
          | (show lGu; refine al_none ?_)
          | (show lNil; refine al_nil ?_)
          | (show qSeq; refine n_seq ?_)
          | (show qBlk; refine n_block ?_)
          | (show cReg; refine aw_reg ?_)
          | (show cSeq; refine aw_seq ?_)
          | (show cBlk; refine aw_block ?_)
          | (show cSkip; refine aw_skip ?_))
        exact ⟨k + 1, n + 1, by omega, by omega, by simp; omega, rfl, dropGP (p := 5) (j := 1) hg5 rfl rfl, by simp [Fr.get], by omega⟩
    · repeat' (first
        | (refine aw_F ?_ (hb := decide_eq_false (by omega)))
        | (show lOp; refine op0 (by first | (show kMove; exact b_move) | (show kBinopAdd; exact b_add) | (show kBinopLss; exact b_lss)) ?_)
        | (show lNil; refine al_nil ?_)
        | (show qSeq; first | refine n_seq ?_ | refine x_seq ?_)
        | (show qBlk; first | refine n_block ?_ | refine x_eq ?_)
        | (show cReg; refine aw_reg ?_)
        | (show cSeq; refine aw_seq ?_)
        | (show cExit; refine aw_exit ?_))
      exact ⟨i + 1, n, by omega, by omega, by simp; omega, rfl, dropGP (p := 5) (j := 0) hg5 rfl rfl, by simp [Fr.get], by omega⟩
  · have : i = c.rules.length := by omega
    subst this
    repeat' (first
      | (refine aw_F ?_ (hb := decide_eq_false (by omega)))
      | (refine awr_seq ?_)
      | (refine aw_T ?_ (hb := decide_eq_true (by omega)))
      | (show lStore; refine k_store ?_)
      | (show lOp; refine op0 (by first | (show kMove; exact b_move) | (show kCall; exact b_lenStr) | (show kBinopLss; exact b_lss) | (show kBinopGtr; exact b_gtr)) ?_)
      | (show lNil; refine al_nil ?_)
      | (show qSeq; first | refine n_seq ?_ | refine p_seq ?_ | refine x_seq ?_)
      | (show qBlk; refine x_eq ?_)
      | (show cReg; refine aw_reg ?_)
      | (show cSeq; refine aw_seq ?_)
      | (show cExit; refine aw_exit ?_)
      | (show cRet; refine aw_ret ?_)
      | (show cRegD; refine aw_dr 4 Try_mixed ?_)
      | (show dOp; refine ds_op (by (show kLoad; exact b_loadPtr)) ?_)
      | (show DSteps _ _ _ _ _ _ (Oper.mk none _ _ _ _ none :: _) _; refine ds_opN b_storeSame ?_)
      | (show dNil; refine ds_nil ?_))
    refine er_c3 Try.results7 ?_
    rfl
end Go.AL
set_option linter.unusedVariables false
namespace Go.AL
open Go.Proofs
/-! ### Fixpoints end -/
section
variable {α : Type} [Inhabited α] [DecidableEq α]
theorem sum_set (ht : α → Nat) : ∀ (l : List α) (k : Nat) (v : α), k < l.length → ((l.set k v).map ht).sum + ht (at' l (k : Int)) = (l.map ht).sum + ht v
  | a :: l, 0, v, _ => by simp [at']; omega
  | a :: l, k + 1, v, h => by
    have := sum_set ht l k v (by simpa using h)
    have e : at' (a :: l) ((k + 1 : Nat) : Int) = at' l (k : Int) := by simp [at']
    rw [e]
    simp only [List.set_cons_succ, List.map_cons, List.sum_cons]
    omega
theorem at'_set_at {l : List α} {k : Nat} {v : α} (h : k < l.length) : at' (l.set k v) (k : Int) = v := at'_set_self h
def Under (n : Nat) (le : α → α → Prop) (nx : List α → Int → α) (l : List α) : Prop := l.length = n ∧ ∀ k : Nat, k < n → le (at' l (k : Int)) (nx l (k : Int))
/-- What is told of an order in which a table grows. -/
structure Grows (n : Nat) (le : α → α → Prop) (ht : α → Nat) (nx : List α → Int → α) : Prop where
  trans : ∀ a b c, le a b → le b c → le a c
  lt : ∀ a b, le a b → b ≠ a → ht b < ht a
  mono : ∀ (l : List α) (j k : Nat) (v : α), Under n le nx l → j < n → k < n → le (at' l (j : Int)) v → le (nx l (k : Int)) (nx (l.set j v) (k : Int))
variable {n : Nat} {le : α → α → Prop} {ht : α → Nat} {nx : List α → Int → α}
theorem Under.set (g : Grows n le ht nx) {l : List α} (h : Under n le nx l) {k : Nat} (hk : k < n) : Under n le nx (l.set k (nx l (k : Int))) := by
  refine ⟨by simp [h.1], fun j hj => ?_⟩
  have hm := g.mono l k j (nx l (k : Int)) h hk hj (h.2 k hk)
  by_cases hjk : k = j
  · subst hjk
    rw [at'_set_at (by rw [h.1]; exact hk)]
    exact hm
  · rw [at'_set_ne hjk]
    exact g.trans _ _ _ (h.2 j hj) hm
theorem pass_ends (g : Grows n le ht nx) : ∀ (m k : Nat) (l : List α) (ch : Bool), k + m = n → Under n le nx l →
    Under n le nx (passF nx m k l ch).1 ∧ ((passF nx m k l ch).1.map ht).sum ≤ (l.map ht).sum ∧ ((passF nx m k l ch).2 = true → ch = true ∨ ((passF nx m k l ch).1.map ht).sum < (l.map ht).sum)
  | 0, k, l, ch, _, h => ⟨h, Nat.le_refl _, fun h => .inl h⟩
  | m + 1, k, l, ch, hk, h => by
    have hkn : k < n := by omega
    unfold passF
    by_cases hc : nx l (k : Int) ≠ at' l (k : Int)
    · rw [if_pos hc]
      obtain ⟨i1, i2, _⟩ := pass_ends g m (k + 1) (l.set k (nx l (k : Int))) true (by omega) (h.set g hkn)
      have hs := sum_set ht l k (nx l (k : Int)) (by rw [h.1]; exact hkn)
      have hl := g.lt _ _ (h.2 k hkn) hc
      exact ⟨i1, by omega, fun _ => .inr (by omega)⟩
    · rw [if_neg hc]
      exact pass_ends g m (k + 1) l ch (by omega) h
/-- The fixpoint is reached. -/
theorem fix_ends (g : Grows n le ht nx) : ∀ (f : Nat) (l : List α), Under n le nx l → (l.map ht).sum < f → ∃ out, fixF nx f l = some out ∧ Under n le nx out
  | 0, l, _, h => absurd h (by omega)
  | f + 1, l, hu, h => by
    obtain ⟨i1, i2, i3⟩ := pass_ends g l.length 0 l false (by rw [hu.1]; omega) hu
    unfold fixF
    cases hc : (passF nx l.length 0 l false).2 with
    | true =>
      rw [if_pos rfl]
      have := (i3 hc).resolve_left (by simp)
      exact fix_ends g f _ i1 (by omega)
    | false =>
      rw [if_neg (by simp)]
      exact ⟨_, rfl, i1⟩
end
end Go.AL
set_option linter.unusedVariables false
set_option linter.unusedSimpArgs false
namespace Go.AL
open Go.Proofs
/-! ### What may come grows -/
def leM (a b : May) : Prop := (a.f0 = true → b.f0 = true) ∧ (a.f1 = true → b.f1 = true) ∧ (a.f2 = true → b.f2 = true) ∧ (a.f3 = true → b.f3 = true)
def htM (a : May) : Nat := (if a.f0 then 0 else 1) + (if a.f1 then 0 else 1) + (if a.f2 then 0 else 1) + (if a.f3 then 0 else 1)
theorem leM_refl (a : May) : leM a a := ⟨id, id, id, id⟩
theorem leM_trans (a b c : May) (h : leM a b) (g : leM b c) : leM a c := ⟨g.1 ∘ h.1, g.2.1 ∘ h.2.1, g.2.2.1 ∘ h.2.2.1, g.2.2.2 ∘ h.2.2.2⟩
theorem leM_lt (a b : May) (h : leM a b) (hne : b ≠ a) : htM b < htM a := by
  obtain ⟨a0, a1, a2, a3⟩ := a
  obtain ⟨b0, b1, b2, b3⟩ := b
  obtain ⟨h0, h1, h2, h3⟩ := h
  revert h0 h1 h2 h3 hne
  cases a0 <;> cases a1 <;> cases a2 <;> cases a3 <;> cases b0 <;> cases b1 <;> cases b2 <;> cases b3 <;> simp [htM]
theorem ff {P : Prop} (h : false = true) : P := by cases h
theorem leM_no (a : May) : leM noMay a := ⟨ff, ff, ff, ff⟩
theorem goes_mono {a b : May} (h : leM a b) : goesM a = true → goesM b = true := by
  obtain ⟨h0, h1, h2, h3⟩ := h
  unfold goesM
  simp only [Bool.or_eq_true]
  rintro (h | h)
  · first | exact .inl (h1 h) | exact .inl (h2 h)
  · first | exact .inr (h2 h) | exact .inr (h1 h)
theorem or_mono {a b c d : Bool} (h : a = true → c = true) (g : b = true → d = true) : (a || b) = true → (c || d) = true := by
  cases a <;> cases b <;> simp_all
theorem and_mono {a b c d : Bool} (h : a = true → c = true) (g : b = true → d = true) : (a && b) = true → (c && d) = true := by
  cases a <;> cases b <;> simp_all
theorem come_mono {nd : Node} {l l' r r' : May} {rs rs' : List May} (hl : leM l l') (hr : leM r r') (hq : leM (at' rs nd.rule) (at' rs' nd.rule)) : leM (comeM nd l r rs) (comeM nd l' r' rs') := by
  unfold comeM
  have hg := goes_mono hl
  have hg' := goes_mono hr
  split
  · exact leM_refl _
  split
  · exact leM_refl _
  split
  · exact hq
  split
  · exact leM_refl _
  split
  · exact ⟨or_mono hl.1 (and_mono hg hr.1), and_mono hl.2.1 hr.2.1, or_mono (and_mono hl.2.2.1 hg') (and_mono hl.2.1 hr.2.2.1), or_mono hl.2.2.2 (and_mono hg hr.2.2.2)⟩
  split
  · exact ⟨and_mono hl.1 hr.1, or_mono hl.2.1 (and_mono hl.1 hr.2.1), or_mono hl.2.2.1 (and_mono hl.1 hr.2.2.1), or_mono hl.2.2.2 (and_mono hl.1 hr.2.2.2)⟩
  split
  · exact ⟨ff, hl.1, and_mono hl.2.2.1 hl.1, hl.2.2.2⟩
  split
  · exact ⟨hg, or_mono hl.1 hl.2.2.2, ff, ff⟩
  · exact hl
def leLM (l l' : List May) : Prop := l.length = l'.length ∧ ∀ k : Nat, leM (at' l (k : Int)) (at' l' (k : Int))
theorem at'_out {α : Type} [Inhabited α] {l : List α} {k : Nat} (h : ¬k < l.length) : at' l (k : Int) = default := by
  simp [at', List.getD_eq_getElem?_getD, List.getElem?_eq_none (Nat.le_of_not_lt h)]
theorem leLM_set {l l' : List May} (h : leLM l l') {k : Nat} {v v' : May} (hv : leM v v') : leLM (l.set k v) (l'.set k v') := by
  refine ⟨by simp [h.1], fun j => ?_⟩
  by_cases hjk : k = j
  · subst hjk
    by_cases hk : k < l.length
    · rw [at'_set_self hk, at'_set_self (by rw [← h.1]; exact hk)]; exact hv
    · rw [at'_out (by simpa using hk), at'_out (by rw [List.length_set, ← h.1]; exact hk)]; exact leM_refl _
  · rw [at'_set_ne hjk, at'_set_ne hjk]; exact h.2 j
theorem atM_mono {l l' : List May} (h : leLM l l') (i : Int) : leM (atM l i) (atM l' i) := by
  unfold atM
  split
  · exact leM_refl _
  · have : i = (i.toNat : Int) := by omega
    rw [this]; exact h.2 _
theorem bodyF_mono {b : List Node} {ps : List (Int × Int)} {rs rs' : List May} (hq : ∀ r : Int, leM (at' rs r) (at' rs' r)) : ∀ (f k : Nat) (l l' : List May), leLM l l' → leLM (bodyF b ps rs f k l) (bodyF b ps rs' f k l')
  | 0, _, _, _, h => h
  | f + 1, k, l, l', h => bodyF_mono hq f (k + 1) _ _ (leLM_set h (come_mono (atM_mono h _) (atM_mono h _) (hq _)))
theorem bodyM_mono {b : List Node} {ps : List (Int × Int)} {rs rs' : List May} (hq : ∀ r : Int, leM (at' rs r) (at' rs' r)) : leLM (bodyM b ps rs) (bodyM b ps rs') := bodyF_mono hq _ _ _ _ ⟨rfl, fun _ => leM_refl _⟩
theorem at'_nat {α : Type} [Inhabited α] (l : List α) (r : Int) : at' l r = at' l (r.toNat : Int) := by unfold at'; rw [Int.toNat_natCast]
theorem sum_rep (n k : Nat) : (List.replicate n k).sum = n * k := by
  induction n with
  | zero => simp
  | succ n ih => rw [List.replicate_succ, List.sum_cons, ih, Nat.succ_mul, Nat.add_comm]
/-- The first fixpoint ends. -/
theorem comes_ends (c : Core) (ps : List (List (Int × Int))) : ∃ rs, fixF (lastM c ps) (4 * c.rules.length + 1) (List.replicate c.rules.length noMay) = some rs := by
  have g : Grows c.rules.length leM htM (lastM c ps) := by
    refine ⟨leM_trans, leM_lt, fun l j k v hl hj hk hv => ?_⟩
    have hl := hl.1
    unfold lastM
    have hq : ∀ r : Int, leM (at' l r) (at' (l.set j v) r) := fun r => by
      have e : at' l r = at' l (r.toNat : Int) := at'_nat _ _
      have e' : at' (l.set j v) r = at' (l.set j v) (r.toNat : Int) := at'_nat _ _
      rw [e, e']
      by_cases hjr : j = r.toNat
      · subst hjr
        rw [at'_set_self (by omega)]; exact hv
      · rw [at'_set_ne hjr]; exact leM_refl _
    have := (bodyM_mono (b := (at' c.rules (k : Int)).body) (ps := at' ps (k : Int)) hq)
    have h2 := this.2 (((at' c.rules (k : Int)).body.length : Int) - 1).toNat
    have e : ∀ m : List May, at' m (((at' c.rules (k : Int)).body.length : Int) - 1) = at' m ((((at' c.rules (k : Int)).body.length : Int) - 1).toNat : Int) := fun m => at'_nat _ _
    rw [e, e]; exact h2
  obtain ⟨out, h, _⟩ := fix_ends g (4 * c.rules.length + 1) (List.replicate c.rules.length noMay) ⟨by simp, fun k hk => by
    have : at' (List.replicate c.rules.length noMay) (k : Int) = noMay := by simp [at', hk]
    rw [this]; exact leM_no _⟩ (by
    rw [List.map_replicate, sum_rep]
    show c.rules.length * 4 < _
    omega)
  exact ⟨out, h⟩
end Go.AL
set_option linter.unusedVariables false
set_option linter.unusedSimpArgs false
namespace Go.AL
open Go.Proofs
/-! ### The bytes that may come first grow -/
theorem wrap_u64t {n : Int} (h0 : 0 ≤ n) (h1 : n < 18446744073709551616) : IntKind.u64.wrap n = n := by
  simp only [IntKind.wrap, IntKind.bits, IntKind.signed]
  have e : (2 : Int) ^ 64 = 18446744073709551616 := by decide
  simp only [e, Bool.false_and]
  rw [if_neg (by simp)]
  omega
def bv (x : Int) : BitVec 64 := BitVec.ofInt 64 x
def okW (x : Int) : Prop := 0 ≤ x ∧ x < 18446744073709551616
theorem bv_toNat {x : Int} (h : okW x) : ((bv x).toNat : Int) = x := by
  unfold bv
  rw [BitVec.toNat_ofInt]
  have := h.1
  have := h.2
  have e : ((2 ^ 64 : Nat) : Int) = 18446744073709551616 := by decide
  rw [e, Int.toNat_of_nonneg (by omega)]
  omega
theorem bits_or (x y : Int) : okW (bits .or .u64 x y) ∧ bv (bits .or .u64 x y) = bv x ||| bv y := by
  have hlt : (bv x ||| bv y).toNat < 18446744073709551616 := (bv x ||| bv y).isLt
  have hw : IntKind.u64.wrap (((bv x ||| bv y).toNat : Nat) : Int) = (((bv x ||| bv y).toNat : Nat) : Int) := wrap_u64t (by omega) (by omega)
  have e : bits .or .u64 x y = ((bv x ||| bv y).toNat : Int) := hw
  rw [e]
  refine ⟨⟨by omega, by omega⟩, ?_⟩
  have h2 : (((bv x ||| bv y).toNat : Int)) = (((bv x ||| bv y).toNat : Nat) : Int) := rfl
  unfold bv at *
  rw [BitVec.ofInt_natCast, BitVec.ofNat_toNat, BitVec.setWidth_eq]
def sub (a b : BitVec 64) : Prop := a ||| b = b
theorem sub_refl (a : BitVec 64) : sub a a := BitVec.or_self
theorem sub_trans {a b c : BitVec 64} (h : sub a b) (g : sub b c) : sub a c := by
  unfold sub at *
  rw [← g, ← BitVec.or_assoc, h]
theorem sub_or {a b a' b' : BitVec 64} (h : sub a a') (g : sub b b') : sub (a ||| b) (a' ||| b') := by
  unfold sub at *
  rw [show (a ||| b) ||| (a' ||| b') = (a ||| a') ||| (b ||| b') by ac_rfl, h, g]
theorem sub_le {a b : BitVec 64} (h : sub a b) : a.toNat ≤ b.toNat := by
  unfold sub at h
  rw [← h, BitVec.toNat_or]
  exact Nat.left_le_or
theorem sub_zero (b : BitVec 64) : sub (bv 0) b := by
  unfold sub bv
  simp
def okC' (c : Cls) : Prop := okW c.c0 ∧ okW c.c1 ∧ okW c.c2 ∧ okW c.c3
def leC (a b : Cls) : Prop := okC' a ∧ okC' b ∧ sub (bv a.c0) (bv b.c0) ∧ sub (bv a.c1) (bv b.c1) ∧ sub (bv a.c2) (bv b.c2) ∧ sub (bv a.c3) (bv b.c3)
def htC (c : Cls) : Nat := (18446744073709551616 - c.c0).toNat + (18446744073709551616 - c.c1).toNat + (18446744073709551616 - c.c2).toNat + (18446744073709551616 - c.c3).toNat
theorem leC_refl {a : Cls} (h : okC' a) : leC a a := ⟨h, h, sub_refl _, sub_refl _, sub_refl _, sub_refl _⟩
theorem leC_trans (a b c : Cls) (h : leC a b) (g : leC b c) : leC a c := ⟨h.1, g.2.1, sub_trans h.2.2.1 g.2.2.1, sub_trans h.2.2.2.1 g.2.2.2.1, sub_trans h.2.2.2.2.1 g.2.2.2.2.1, sub_trans h.2.2.2.2.2 g.2.2.2.2.2⟩
theorem le_word {x y : Int} (hx : okW x) (hy : okW y) (h : sub (bv x) (bv y)) : x ≤ y := by
  have := sub_le h
  rw [← bv_toNat hx, ← bv_toNat hy]
  omega
theorem leC_lt (a b : Cls) (h : leC a b) (hne : b ≠ a) : htC b < htC a := by
  obtain ⟨⟨p0, p1, p2, p3⟩, ⟨q0, q1, q2, q3⟩, h0, h1, h2, h3⟩ := h
  have l0 := le_word p0 q0 h0
  have l1 := le_word p1 q1 h1
  have l2 := le_word p2 q2 h2
  have l3 := le_word p3 q3 h3
  obtain ⟨a0, a1, a2, a3⟩ := a
  obtain ⟨b0, b1, b2, b3⟩ := b
  have hne' : ¬(b0 = a0 ∧ b1 = a1 ∧ b2 = a2 ∧ b3 = a3) := by
    rintro ⟨rfl, rfl, rfl, rfl⟩
    exact hne rfl
  simp only [okW] at p0 p1 p2 p3 q0 q1 q2 q3 l0 l1 l2 l3
  simp only [htC]
  omega
theorem okW0 : okW 0 := ⟨by omega, by omega⟩
theorem okC0 : okC' ⟨0, 0, 0, 0⟩ := ⟨okW0, okW0, okW0, okW0⟩
theorem leC_no {a : Cls} (h : okC' a) : leC ⟨0, 0, 0, 0⟩ a := ⟨okC0, h, sub_zero _, sub_zero _, sub_zero _, sub_zero _⟩
theorem union_ok (a b : Cls) : okC' (unionC a b) := ⟨(bits_or _ _).1, (bits_or _ _).1, (bits_or _ _).1, (bits_or _ _).1⟩
theorem union_mono {a a' b b' : Cls} (h : leC a a') (g : leC b b') : leC (unionC a b) (unionC a' b') := by
  refine ⟨union_ok _ _, union_ok _ _, ?_, ?_, ?_, ?_⟩
  · show sub (bv (bits .or .u64 _ _)) (bv (bits .or .u64 _ _))
    rw [(bits_or _ _).2, (bits_or _ _).2]; exact sub_or h.2.2.1 g.2.2.1
  · show sub (bv (bits .or .u64 _ _)) (bv (bits .or .u64 _ _))
    rw [(bits_or _ _).2, (bits_or _ _).2]; exact sub_or h.2.2.2.1 g.2.2.2.1
  · show sub (bv (bits .or .u64 _ _)) (bv (bits .or .u64 _ _))
    rw [(bits_or _ _).2, (bits_or _ _).2]; exact sub_or h.2.2.2.2.1 g.2.2.2.2.1
  · show sub (bv (bits .or .u64 _ _)) (bv (bits .or .u64 _ _))
    rw [(bits_or _ _).2, (bits_or _ _).2]; exact sub_or h.2.2.2.2.2 g.2.2.2.2.2
theorem first_mono {nd : Node} {l l' r r' : Cls} {m : May} {rs rs' : List Cls} (hc : okC' nd.cl) (hl : leC l l') (hr : leC r r') (hq : leC (at' rs nd.rule) (at' rs' nd.rule)) : leC (firstM nd l r m rs) (firstM nd l' r' m rs') := by
  unfold firstM
  split
  · exact leC_refl hc
  split
  · exact hq
  split
  · split
    · exact union_mono hl hr
    · exact hl
  split
  · split
    · exact union_mono hl hr
    · exact hl
  split
  · exact hl
  · exact leC_refl okC0
def leLC (l l' : List Cls) : Prop := l.length = l'.length ∧ ∀ k : Nat, leC (at' l (k : Int)) (at' l' (k : Int))
theorem leLC_set {l l' : List Cls} (h : leLC l l') {k : Nat} {v v' : Cls} (hv : leC v v') : leLC (l.set k v) (l'.set k v') := by
  refine ⟨by simp [h.1], fun j => ?_⟩
  by_cases hjk : k = j
  · subst hjk
    by_cases hk : k < l.length
    · rw [at'_set_self hk, at'_set_self (by rw [← h.1]; exact hk)]; exact hv
    · rw [at'_out (by simpa using hk), at'_out (by rw [List.length_set, ← h.1]; exact hk)]; exact leC_refl okC0
  · rw [at'_set_ne hjk, at'_set_ne hjk]; exact h.2 j
theorem atC_mono {l l' : List Cls} (h : leLC l l') (i : Int) : leC (atC l i) (atC l' i) := by
  unfold atC
  split
  · exact leC_refl okC0
  · rw [at'_nat l, at'_nat l']; exact h.2 _
theorem bytesF_mono {b : List Node} {ps : List (Int × Int)} {ms : List May} {rs rs' : List Cls} (hb : ∀ k : Nat, okC' (at' b (k : Int)).cl) (hq : ∀ r : Int, leC (at' rs r) (at' rs' r)) : ∀ (f k : Nat) (l l' : List Cls), leLC l l' → leLC (bytesF b ps ms rs f k l) (bytesF b ps ms rs' f k l')
  | 0, _, _, _, h => h
  | f + 1, k, l, l', h => bytesF_mono hb hq f (k + 1) _ _ (leLC_set h (first_mono (hb k) (atC_mono h _) (atC_mono h _) (hq _)))
theorem rep_at (n : Nat) (k : Nat) : at' (List.replicate n (⟨0, 0, 0, 0⟩ : Cls)) (k : Int) = ⟨0, 0, 0, 0⟩ := by
  by_cases h : k < n
  · simp [at', h]
  · rw [at'_out (by simpa using h)]; rfl
theorem bytesM_mono {b : List Node} {ps : List (Int × Int)} {ms : List May} {rs rs' : List Cls} (hb : ∀ k : Nat, okC' (at' b (k : Int)).cl) (hq : ∀ r : Int, leC (at' rs r) (at' rs' r)) : leLC (bytesM b ps ms rs) (bytesM b ps ms rs') :=
  bytesF_mono hb hq _ _ _ _ ⟨rfl, fun k => by rw [rep_at]; exact leC_refl okC0⟩
/-- The second fixpoint ends. -/
theorem firsts_ends (c : Core) (ps : List (List (Int × Int))) (bs : List (List May)) (hcl : ∀ r k : Nat, okC' (at' (at' c.rules (r : Int)).body (k : Int)).cl) : ∃ F fs, fixF (lastC c ps bs) F (List.replicate c.rules.length noCls) = some fs := by
  have key : ∀ (l l' : List Cls) (k : Nat), (∀ r : Int, leC (at' l r) (at' l' r)) → leC (lastC c ps bs l (k : Int)) (lastC c ps bs l' (k : Int)) := fun l l' k hq => by
    unfold lastC
    have h2 := (bytesM_mono (b := (at' c.rules (k : Int)).body) (ps := at' ps (k : Int)) (ms := at' bs (k : Int)) (hcl k) hq).2 (((at' c.rules (k : Int)).body.length : Int) - 1).toNat
    have e : ∀ m : List Cls, at' m (((at' c.rules (k : Int)).body.length : Int) - 1) = at' m ((((at' c.rules (k : Int)).body.length : Int) - 1).toNat : Int) := fun m => at'_nat _ _
    rw [e, e]; exact h2
  have g : Grows c.rules.length leC htC (lastC c ps bs) := by
    refine ⟨leC_trans, leC_lt, fun l j k v hu hj hk hv => key _ _ _ fun r => ?_⟩
    have hl := hu.1
    rw [at'_nat l, at'_nat (l.set j v)]
    by_cases hjr : j = r.toNat
    · subst hjr
      rw [at'_set_self (by omega)]; exact hv
    · rw [at'_set_ne hjr]
      by_cases hrl : r.toNat < c.rules.length
      · exact leC_refl (hu.2 _ hrl).1
      · rw [at'_out (by omega)]; exact leC_refl okC0
  obtain ⟨out, h, _⟩ := fix_ends g _ (List.replicate c.rules.length noCls) ⟨by simp, fun k hk => by
    have : at' (List.replicate c.rules.length noCls) (k : Int) = noCls := rep_at _ _
    rw [this]
    have hz : ∀ r : Int, leC (at' (List.replicate c.rules.length noCls) r) (at' (List.replicate c.rules.length noCls) r) := fun r => by
      rw [at'_nat, show at' (List.replicate c.rules.length noCls) (r.toNat : Int) = noCls from rep_at _ _]; exact leC_refl okC0
    exact leC_no (key _ _ k hz).1⟩ (Nat.lt_succ_self _)
  exact ⟨_, out, h⟩
end Go.AL
set_option linter.unusedVariables false
set_option linter.unusedSimpArgs false
namespace Go.AL
open Go.Proofs
/-! ### What a rule reaches is found -/
def InB (n : Nat) (l : List Int) : Prop := ∀ x ∈ l, 0 ≤ x ∧ x < n
theorem at'_memI {α : Type} [Inhabited α] {l : List α} {x : Int} (h0 : 0 ≤ x) (h1 : x < l.length) : at' l x ∈ l := by
  have := at_get l x h0 h1
  exact List.mem_of_getElem? this
def headM (ls : List (List Int)) (r : Nat) : Bool := match reachF ls 1000000 (at' ls (r : Int)) (List.replicate ls.length false) with
  | some seen => at' seen (r : Int)
  | none => false
end Go.AL
set_option linter.unusedVariables false
set_option linter.unusedSimpArgs false
namespace Go.AL
open Go.Proofs
/-! ### The parts of a right body -/
/-- What is told of a node's parts. -/
def GoodP (b : List Node) (j : Int) (p : Int × Int) : Prop :=
  p.1 < j ∧ p.2 < j ∧ ((at' b j).op = 4 ∨ (at' b j).op = 5 → 0 ≤ p.1 ∧ 0 ≤ p.2) ∧ ((at' b j).op = 6 ∨ (at' b j).op = 7 ∨ (at' b j).op = 8 → 0 ≤ p.1)
theorem prt_ends (rules : Int) (b : List Node) : ∀ (f k : Nat) (ps : List (Int × Int)) (st : List Int), k + f = b.length → ps.length = b.length → (∀ x ∈ st, 0 ≤ x ∧ x < k) → (∀ j : Nat, j < k → GoodP b j (at' ps (j : Int))) → rightL rules (b.drop k) st.length = true →
    ∃ pt, prtF b f k ps st = some pt ∧ pt.length = b.length ∧ ∀ j : Nat, j < b.length → GoodP b j (at' pt (j : Int))
  | 0, k, ps, st, hk, hl, hst, hps, hr => ⟨ps, rfl, hl, fun j hj => hps j (by omega)⟩
  | f + 1, k, ps, st, hk, hl, hst, hps, hr => by
    have hkb : k < b.length := by omega
    rw [drop_at b k hkb] at hr
    simp only [rightL, Bool.and_eq_true] at hr
    obtain ⟨ho, hr⟩ := hr
    have ho := of_decide_eq_true ho
    have har := ho.1
    have hop0 := ho.2.1
    have hop8 := ho.2.2.1
    have step : ∀ (p : Int × Int) (st' : List Int) (ps' : List (Int × Int)), ps'.length = b.length → (∀ j : Nat, j < k → at' ps' (j : Int) = at' ps (j : Int)) → at' ps' (k : Int) = p → GoodP b k p → (∀ x ∈ st', 0 ≤ x ∧ x < (k + 1 : Nat)) → (st'.length : Int) = st.length + (1 - arityI (at' b (k : Int)).op) →
        ∃ pt, prtF b f (k + 1) ps' st' = some pt ∧ pt.length = b.length ∧ ∀ j : Nat, j < b.length → GoodP b j (at' pt (j : Int)) := fun p st' ps' h1 h2 h3 h4 h5 h6 => by
      refine prt_ends rules b f (k + 1) ps' st' (by omega) h1 h5 (fun j hj => ?_) (by rw [h6]; exact hr)
      by_cases hjk : j = k
      · subst hjk; rw [h3]; exact h4
      · rw [h2 j (by omega)]; exact hps j (by omega)
    unfold prtF
    have hsl : ∀ v : Int × Int, (ps.set k v).length = b.length := fun v => by simp [hl]
    have hso : ∀ (l : List (Int × Int)) (v : Int × Int) (j : Nat), j < k → at' (l.set k v) (j : Int) = at' l (j : Int) := fun l v j hj => at'_set_ne (by omega)
    by_cases p4 : (at' b (k : Int)).op = 4 ∨ (at' b (k : Int)).op = 5
    · rw [if_pos p4]
      have ha : arityI (at' b (k : Int)).op = 2 := by rcases p4 with h | h <;> rw [h] <;> rfl
      rw [ha] at har
      have h2 : 2 ≤ st.length := by omega
      rw [if_pos h2]
      have m1 := hst _ (at'_memI (l := st) (x := (st.length : Int) - 2) (by omega) (by omega))
      have m2 := hst _ (at'_memI (l := st) (x := (st.length : Int) - 1) (by omega) (by omega))
      refine step _ _ _ (by simp [hl]) (fun j hj => by rw [hso _ _ j hj, hso _ _ j hj]) (at'_set_self (by rw [hsl]; exact hkb)) ⟨m1.2, m2.2, fun _ => ⟨m1.1, m2.1⟩, fun h => absurd h (by omega)⟩ (fun x hx => ?_) ?_
      · rcases List.mem_append.1 hx with hx | hx
        · have := hst x (List.mem_of_mem_take hx); omega
        · simp at hx; omega
      · rw [ha, List.length_append, List.length_take]; simp; omega
    rw [if_neg p4]
    by_cases p6 : (at' b (k : Int)).op = 6 ∨ (at' b (k : Int)).op = 7 ∨ (at' b (k : Int)).op = 8
    · rw [if_pos p6]
      have ha : arityI (at' b (k : Int)).op = 1 := by rcases p6 with h | h | h <;> rw [h] <;> rfl
      rw [ha] at har
      have h1 : 1 ≤ st.length := by omega
      rw [if_pos h1]
      have m1 := hst _ (at'_memI (l := st) (x := (st.length : Int) - 1) (by omega) (by omega))
      refine step _ _ _ (by simp [hl]) (fun j hj => by rw [hso _ _ j hj, hso _ _ j hj]) (at'_set_self (by rw [hsl]; exact hkb)) ⟨by show (k : Int) - 1 < k; omega, by show (at' (ps.set k (-1, -1)) (k : Int)).2 < k; rw [at'_set_self (by omega)]; show (-1 : Int) < k; omega, fun h => absurd h p4, fun _ => by show 0 ≤ (k : Int) - 1; omega⟩ (fun x hx => ?_) ?_
      · rcases List.mem_append.1 hx with hx | hx
        · have := hst x (List.mem_of_mem_take hx); omega
        · simp at hx; omega
      · rw [ha, List.length_append, List.length_take]; simp; omega
    rw [if_neg p6]
    have ha : arityI (at' b (k : Int)).op = 0 := by
      unfold arityI
      rw [if_neg (by omega), if_neg (by omega)]
    refine step _ _ _ (hsl _) (fun j hj => hso _ _ j hj) (at'_set_self (by omega)) ⟨by show (-1 : Int) < k; omega, by show (-1 : Int) < k; omega, fun h => absurd h p4, fun h => absurd h p6⟩ (fun x hx => ?_) ?_
    · rcases List.mem_append.1 hx with hx | hx
      · have := hst x hx; omega
      · simp at hx; omega
    · rw [ha, List.length_append]; simp
/-- sound's own parts of a right body. -/
theorem prtM_ends (rules : Int) (b : List Node) (h : rightL rules b 0 = true) : ∃ pt, prtM b = some pt ∧ pt.length = b.length ∧ ∀ j : Nat, j < b.length → GoodP b j (at' pt (j : Int)) :=
  prt_ends rules b b.length 0 _ [] (by omega) (by simp) (fun x hx => by cases hx) (fun j hj => absurd hj (by omega)) h
end Go.AL
set_option linter.unusedVariables false
set_option linter.unusedSimpArgs false
namespace Go.AL
open Go.Proofs
/-! ### The facts' parts are sound's -/
theorem at'_snoc_lt {S : List Int} {m i : Nat} {v : Int} (hm : m ≤ S.length) (hi : i < m) : at' (S.take m ++ [v]) (i : Int) = at' S (i : Int) := by
  have h1 : i < (S.take m).length := by rw [List.length_take]; omega
  simp only [at', Int.toNat_natCast, List.getD_eq_getElem?_getD]
  rw [List.getElem?_append_left h1, List.getElem?_take_of_lt hi]
theorem at'_snoc_eq {S : List Int} {m : Nat} {v : Int} (hm : m ≤ S.length) : at' (S.take m ++ [v]) (m : Int) = v := by
  have h1 : (S.take m).length = m := by rw [List.length_take]; omega
  simp only [at', Int.toNat_natCast, List.getD_eq_getElem?_getD]
  rw [List.getElem?_append_right (by omega), h1]
  simp
/-- Where each tree on the stack begins. -/
structure Link (k : Nat) (S st : List Int) : Prop where
  mem : ∀ x ∈ S, 0 ≤ x ∧ x < k
  start : ∀ i : Nat, i < S.length → at' st (at' S (i : Int)) = if i = 0 then 0 else at' S ((i - 1 : Nat) : Int) + 1
  last : k = 0 ∨ (0 < S.length ∧ at' S ((S.length - 1 : Nat) : Int) = (k : Int) - 1)
theorem Link.at {k : Nat} {S st : List Int} (h : Link k S st) {i : Nat} (hi : i < S.length) : 0 ≤ at' S (i : Int) ∧ at' S (i : Int) < k := h.mem _ (at'_memI (by omega) (by omega))
theorem set_off {l : List Int} {k : Nat} {v x : Int} (h0 : 0 ≤ x) (h1 : x < k) : at' (l.set k v) x = at' l x := by
  rw [at'_nat, at'_set_ne (by omega), ← at'_nat]
/-- A tree is put on what is left of the stack. -/
theorem Link.push {k m : Nat} {S st st' : List Int} (h : Link k S st) (hm : m ≤ S.length) (hlen : k < st'.length) (hst : ∀ x : Int, 0 ≤ x → x < k → at' st' x = at' st x) (hk : at' st' (k : Int) = if m = 0 then 0 else at' S ((m - 1 : Nat) : Int) + 1) : Link (k + 1) (S.take m ++ [(k : Int)]) st' := by
  have hl : (S.take m ++ [(k : Int)]).length = m + 1 := by simp; omega
  refine ⟨fun x hx => ?_, fun i hi => ?_, .inr ⟨by omega, ?_⟩⟩
  · rcases List.mem_append.1 hx with hx | hx
    · have := h.mem x (List.mem_of_mem_take hx); omega
    · simp at hx; omega
  · rw [hl] at hi
    by_cases him : i = m
    · subst him
      rw [at'_snoc_eq hm, hk]
      by_cases h0 : i = 0
      · rw [if_pos h0, if_pos h0]
      · rw [if_neg h0, if_neg h0, at'_snoc_lt hm (by omega)]
    · have hi' : i < m := by omega
      rw [at'_snoc_lt hm hi']
      obtain ⟨a0, a1⟩ := h.at (i := i) (by omega)
      rw [hst _ a0 a1, h.start i (by omega)]
      by_cases h0 : i = 0
      · rw [if_pos h0, if_pos h0]
      · rw [if_neg h0, if_neg h0, at'_snoc_lt hm (by omega)]
  · rw [hl, show m + 1 - 1 = m by omega, at'_snoc_eq hm]
    omega
theorem div_prt (rules : Int) (b : List Node) : ∀ (f k : Nat) (ps : List (Int × Int)) (S st : List Int), k + f = b.length → ps.length = b.length → st.length = b.length → Link k S st → rightL rules (b.drop k) S.length = true → divF b f k ps st = prtF b f k ps S
  | 0, k, ps, S, st, hk, hl, hs, hL, hr => rfl
  | f + 1, k, ps, S, st, hk, hl, hs, hL, hr => by
    have hkb : k < b.length := by omega
    rw [drop_at b k hkb] at hr
    simp only [rightL, Bool.and_eq_true] at hr
    obtain ⟨ho, hr⟩ := hr
    have ho := of_decide_eq_true ho
    have har := ho.1
    have hsk : ∀ x : Int, 0 ≤ x → x < k → at' (st.set k (k : Int)) x = at' st x := fun x h0 h1 => set_off h0 h1
    unfold divF prtF
    by_cases p6 : (at' b (k : Int)).op = 6 ∨ (at' b (k : Int)).op = 7 ∨ (at' b (k : Int)).op = 8
    · rw [if_pos p6, if_neg (show ¬((at' b (k : Int)).op = 4 ∨ (at' b (k : Int)).op = 5) by omega), if_pos p6]
      have ha : arityI (at' b (k : Int)).op = 1 := by rcases p6 with h | h | h <;> rw [h] <;> rfl
      rw [ha] at har hr
      have h1 : 1 ≤ S.length := by omega
      obtain ⟨hk0, hlast⟩ := hL.last.resolve_left (fun h0 => by have := hL.at (i := 0) (by omega); omega)
      have hk1 : 1 ≤ k := by have := hL.at (i := 0) (by omega); omega
      rw [if_pos hk1, if_pos h1]
      have hv : at' (st.set k (k : Int)) ((k : Int) - 1) = if S.length - 1 = 0 then 0 else at' S ((S.length - 1 - 1 : Nat) : Int) + 1 := by
        rw [hsk _ (by omega) (by omega), ← hlast, hL.start _ (by omega)]
      rw [show ((S.length : Int) - 1).toNat = S.length - 1 by omega]
      refine div_prt rules b f (k + 1) _ _ _ (by omega) (by simp [hl]) (by simp [hs]) (hL.push (by omega) (by simp; omega) (fun x h0 h1 => by rw [set_off h0 h1, hsk x h0 h1]) (by rw [at'_set_self (by simp; omega)]; exact hv)) ?_
      rw [List.length_append, List.length_take]
      have e : (((min (S.length - 1) S.length + [(k : Int)].length : Nat)) : Int) = (S.length : Int) + (1 - 1) := by simp; omega
      rw [e]; exact hr
    rw [if_neg p6]
    by_cases p4 : (at' b (k : Int)).op = 4 ∨ (at' b (k : Int)).op = 5
    · rw [if_pos p4, if_pos p4]
      have ha : arityI (at' b (k : Int)).op = 2 := by rcases p4 with h | h <;> rw [h] <;> rfl
      rw [ha] at har hr
      have h2 : 2 ≤ S.length := by omega
      obtain ⟨hk0, hlast⟩ := hL.last.resolve_left (fun h0 => by have := hL.at (i := 0) (by omega); omega)
      have hk1 : 1 ≤ k := by have := hL.at (i := 0) (by omega); omega
      obtain ⟨m0, m1⟩ := hL.at (i := S.length - 2) (by omega)
      have hv : at' (st.set k (k : Int)) ((k : Int) - 1) = at' S ((S.length - 2 : Nat) : Int) + 1 := by
        rw [hsk _ (by omega) (by omega), ← hlast, hL.start _ (by omega), if_neg (by omega)]
        rfl
      rw [if_pos ⟨hk1, by rw [hv]; omega, by rw [hv]; omega⟩, if_pos h2]
      have hp : (at' (st.set k (k : Int)) ((k : Int) - 1) - 1, (k : Int) - 1) = (at' S ((S.length : Int) - 2), at' S ((S.length : Int) - 1)) := by
        rw [hv, show (S.length : Int) - 2 = ((S.length - 2 : Nat) : Int) by omega, show (S.length : Int) - 1 = ((S.length - 1 : Nat) : Int) by omega, hlast]
        congr 1
        omega
      rw [hp, at'_set_self (by simp [hl]; omega)]
      rw [show ((S.length : Int) - 2).toNat = S.length - 2 by omega]
      refine div_prt rules b f (k + 1) _ _ _ (by omega) (by simp [hl]) (by simp [hs]) (hL.push (by omega) (by simp; omega) (fun x h0 h1 => by rw [set_off h0 h1, hsk x h0 h1]) ?_) ?_
      · rw [at'_set_self (by simp; omega)]
        show at' (st.set k (k : Int)) (at' S ((S.length : Int) - 2)) = _
        rw [show (S.length : Int) - 2 = ((S.length - 2 : Nat) : Int) by omega, hsk _ m0 m1, hL.start _ (by omega)]
      · rw [List.length_append, List.length_take]
        have e : (((min (S.length - 2) S.length + [(k : Int)].length : Nat)) : Int) = (S.length : Int) + (1 - 2) := by simp; omega
        rw [e]; exact hr
    rw [if_neg p4, if_neg p4, if_neg p6]
    have ha : arityI (at' b (k : Int)).op = 0 := by
      unfold arityI
      rw [if_neg (by omega), if_neg (by omega)]
    rw [ha] at hr
    have hpush := hL.push (m := S.length) (st' := st.set k (k : Int)) (Nat.le_refl _) (by simp; omega) hsk (by
      rw [at'_set_self (by omega)]
      by_cases h0 : S.length = 0
      · rw [if_pos h0]
        rcases hL.last with h | h
        · omega
        · omega
      · rw [if_neg h0]
        rcases hL.last with h | h
        · have := hL.at (i := 0) (by omega); omega
        · rw [h.2]; omega)
    rw [List.take_length] at hpush
    refine div_prt rules b f (k + 1) _ _ _ (by omega) (by simp [hl]) (by simp [hs]) hpush ?_
    rw [List.length_append]
    have e : (((S.length + [(k : Int)].length : Nat)) : Int) = (S.length : Int) + (1 - 0) := by simp
    rw [e]; exact hr
theorem divM_prtM (rules : Int) (b : List Node) (h : rightL rules b 0 = true) : divM b = prtM b :=
  div_prt rules b b.length 0 _ [] _ (by omega) (by simp) (by simp) ⟨fun x hx => (by cases hx), fun i hi => absurd hi (by simp), .inl rfl⟩ h
end Go.AL
set_option linter.unusedVariables false
set_option linter.unusedSimpArgs false
namespace Go.AL
open Go.Proofs
/-! ### What a grammar that is right gives -/
structure Right (c : Core) : Prop where
  nr : 0 < c.rules.length ∧ c.rules.length ≤ 256
  start : 0 ≤ c.start ∧ c.start < c.rules.length
  right : ∀ r ∈ c.rules, rightL c.rules.length r.body 0 = true
  size : ∀ r ∈ c.rules, r.body.length ≤ 16384
theorem checkL_right {n : Int} : ∀ (l : List Rule) (seen : List ByteArray), checkL n l seen = true → ∀ r ∈ l, rightL n r.body 0 = true
  | [], _, _, r, hr => by cases hr
  | a :: l, seen, h, r, hr => by
    simp only [checkL, Bool.and_eq_true] at h
    rcases List.mem_cons.1 hr with rfl | hr
    · exact h.2.2.1
    · exact checkL_right l _ h.2.2.2 r hr
theorem right_of {c : Core} (h : checkI c = 0) : Right c := by
  unfold checkI at h
  split at h
  · cases h
  rename_i h1
  split at h
  · rename_i h2
    refine ⟨by omega, by omega, checkL_right _ _ h2, fun r hr => ?_⟩
    have := len_sizeL c.rules 0 r hr
    have hs : ¬ sizeL c.rules 0 > 16384 := fun q => h1 (.inr (.inr (.inr (.inr q))))
    omega
  · cases h
theorem rightL_pos {n : Int} {b : List Node} (h : rightL n b 0 = true) : 0 < b.length := by
  cases b with
  | nil => simp [rightL] at h
  | cons a l => simp
theorem rightL_rule {n : Int} : ∀ (b : List Node) (d : Int), rightL n b d = true → ∀ nd ∈ b, nd.op = 2 → 0 ≤ nd.rule ∧ nd.rule < n
  | [], _, _, nd, h => by cases h
  | a :: l, d, h, nd, hn => by
    simp only [rightL, Bool.and_eq_true] at h
    rcases List.mem_cons.1 hn with rfl | hn
    · exact (of_decide_eq_true h.1).2.2.2.1
    · exact rightL_rule l _ h.2 nd hn
/-- The parts of every rule. -/
def psM (c : Core) : List (List (Int × Int)) := c.rules.map fun r => (prtM r.body).getD []
theorem psM_at (c : Core) {r : Nat} (h : r < c.rules.length) : at' (psM c) (r : Int) = (prtM (at' c.rules (r : Int)).body).getD [] := by
  simp [psM, at', List.getD_eq_getElem?_getD, h]
theorem rule_at {c : Core} (hR : Right c) {r : Nat} (h : r < c.rules.length) : ∃ pt, prtM (at' c.rules (r : Int)).body = some pt ∧ divM (at' c.rules (r : Int)).body = some pt ∧ at' (psM c) (r : Int) = pt ∧ pt.length = (at' c.rules (r : Int)).body.length ∧ ∀ j : Nat, j < (at' c.rules (r : Int)).body.length → GoodP (at' c.rules (r : Int)).body j (at' pt (j : Int)) := by
  have hm : at' c.rules (r : Int) ∈ c.rules := at'_memI (by omega) (by omega)
  have hr := hR.right _ hm
  obtain ⟨pt, h1, h2, h3⟩ := prtM_ends _ _ hr
  exact ⟨pt, h1, by rw [divM_prtM _ _ hr]; exact h1, by rw [psM_at c h, h1]; rfl, h2, h3⟩
theorem facts_right {c : Core} (hR : Right c) : FactsIn c (psM c) c.rules.length where
  inn := {
    rules := by have := hR.nr; omega
    body := fun r r0 r1 => by have := hR.size _ (at'_memI r0 r1); omega
    parts := by simp [psM]
    part := fun r r0 r1 => by
      obtain ⟨k, rfl⟩ : ∃ k : Nat, r = (k : Int) := ⟨r.toNat, by omega⟩
      obtain ⟨pt, _, _, h3, h4, _⟩ := rule_at hR (r := k) (by omega)
      rw [h3, h4]
    lt := fun r k r0 r1 k0 k1 => by
      obtain ⟨q, rfl⟩ : ∃ q : Nat, r = (q : Int) := ⟨r.toNat, by omega⟩
      obtain ⟨j, rfl⟩ : ∃ j : Nat, k = (j : Int) := ⟨k.toNat, by omega⟩
      obtain ⟨pt, _, _, h3, h4, h5⟩ := rule_at hR (r := q) (by omega)
      rw [h3]
      have := h5 j (by omega)
      exact ⟨by have := this.1; omega, by have := this.2.1; omega⟩
    rule := fun r k r0 r1 k0 k1 h2 => rightL_rule _ _ (hR.right _ (at'_memI r0 r1)) _ (at'_memI k0 k1) h2 }
  ne := fun r r0 r1 => rightL_pos (hR.right _ (at'_memI r0 r1))
  n := rfl
/-- The facts of every right grammar. -/
theorem solve_right {c : Core} (hR : Right c) (hcl : ∀ r k : Nat, okC' (at' (at' c.rules (r : Int)).body (k : Int)).cl) : ∃ rs fs, SolveIn c (psM c) rs fs := by
  obtain ⟨rs, h1⟩ := comes_ends c (psM c)
  obtain ⟨F, fs, h2⟩ := firsts_ends c (psM c) (bodiesM c (psM c) rs) hcl
  exact ⟨rs, fs, facts_right hR, fun r hr => by
    obtain ⟨pt, _, h2, h3, _, _⟩ := rule_at hR hr
    rw [h2, h3], ⟨_, h1⟩, ⟨F, h2⟩⟩
end Go.AL
set_option linter.unusedVariables false
set_option linter.unusedSimpArgs false
namespace Go.AL
open Go.Proofs
/-! ### The nodes of a tree are weighed -/
def wsum (W : List Nat) (S : List Int) : Nat := (S.map fun x => at' W x).sum
theorem wsum_snoc (W : List Nat) (S : List Int) (x : Int) : wsum W (S ++ [x]) = wsum W S + at' W x := by simp [wsum]
theorem wsum_take (W : List Nat) (S : List Int) (m : Nat) (h : m < S.length) : wsum W (S.take (m + 1)) = wsum W (S.take m) + at' W (at' S (m : Int)) := by
  have e : S.take (m + 1) = S.take m ++ [at' S (m : Int)] := by
    rw [List.take_add_one, at'_getElem? h]; rfl
  rw [e, wsum_snoc]
theorem at'_ext {W : List Nat} {w : Nat} {x : Int} (h0 : 0 < W.length) (h : x < W.length) : at' (W ++ [w]) x = at' W x := by
  simp only [at', List.getD_eq_getElem?_getD]
  rw [List.getElem?_append_left (by omega)]
theorem at'_new {W : List Nat} {w : Nat} : at' (W ++ [w]) (W.length : Int) = w := by
  simp [at']
theorem wsum_ext {W : List Nat} {w : Nat} {S : List Int} (h0 : 0 < W.length ∨ S = []) (h : ∀ x ∈ S, x < W.length) : wsum (W ++ [w]) S = wsum W S := by
  rcases h0 with h0 | rfl
  · unfold wsum
    congr 1
    exact List.map_congr_left fun x hx => at'_ext h0 (h x hx)
  · rfl
def GoodW (b : List Node) (W : List Nat) (j : Int) (p : Int × Int) : Prop :=
  1 ≤ at' W j ∧ ((at' b j).op = 4 ∨ (at' b j).op = 5 → at' W p.1 + at' W p.2 + 1 ≤ at' W j) ∧ ((at' b j).op = 6 ∨ (at' b j).op = 7 ∨ (at' b j).op = 8 → at' W p.1 + 1 ≤ at' W j)
theorem wgt_ends (rules : Int) (b : List Node) : ∀ (f k : Nat) (ps : List (Int × Int)) (S : List Int) (W : List Nat), k + f = b.length → ps.length = b.length → W.length = k → (∀ x ∈ S, 0 ≤ x ∧ x < k) → (k = 0 ∨ (0 < S.length ∧ at' S ((S.length - 1 : Nat) : Int) = (k : Int) - 1)) → (∀ j : Nat, j < k → GoodW b W j (at' ps (j : Int)) ∧ (at' ps (j : Int)).1 < j ∧ (at' ps (j : Int)).2 < j) → wsum W S ≤ k → rightL rules (b.drop k) S.length = true →
    ∃ pt W', prtF b f k ps S = some pt ∧ W'.length = b.length ∧ (∀ j : Nat, j < b.length → GoodW b W' j (at' pt (j : Int))) ∧ at' W' ((b.length : Int) - 1) ≤ b.length
  | 0, k, ps, S, W, hk, hl, hW, hS, hL, hG, hs, hr => by
    have hkb : k = b.length := by omega
    rw [hkb, List.drop_length] at hr
    simp only [rightL] at hr
    have hr := of_decide_eq_true hr
    refine ⟨ps, W, rfl, by omega, fun j hj => (hG j (by omega)).1, ?_⟩
    rcases hL with h0 | ⟨_, h1⟩
    · have : b.length = 0 := by omega
      have hS0 : S.length = 1 := by omega
      have := hS _ (at'_memI (l := S) (x := 0) (by omega) (by omega))
      omega
    · have hS0 : S.length = 1 := by omega
      have e : S = [(k : Int) - 1] := by
        match S, hS0 with
        | [x], _ =>
          have h1 : x = (k : Int) - 1 := h1
          rw [h1]
      rw [e] at hs
      have hs : at' W ((k : Int) - 1) + 0 ≤ k := by simpa [wsum] using hs
      rw [hkb] at hs
      omega
  | f + 1, k, ps, S, W, hk, hl, hW, hS, hL, hG, hs, hr => by
    have hkb : k < b.length := by omega
    rw [drop_at b k hkb] at hr
    simp only [rightL, Bool.and_eq_true] at hr
    obtain ⟨ho, hr⟩ := hr
    have ho := of_decide_eq_true ho
    have har := ho.1
    have step : ∀ (m w : Nat) (p : Int × Int) (ps' : List (Int × Int)), m ≤ S.length → ps'.length = b.length → (∀ j : Nat, j < k → at' ps' (j : Int) = at' ps (j : Int)) → at' ps' (k : Int) = p → p.1 < k → p.2 < k → GoodW b (W ++ [w]) k p → wsum W (S.take m) + w ≤ k + 1 → ((m + 1 : Nat) : Int) = S.length + (1 - arityI (at' b (k : Int)).op) →
        ∃ pt W', prtF b f (k + 1) ps' (S.take m ++ [(k : Int)]) = some pt ∧ W'.length = b.length ∧ (∀ j : Nat, j < b.length → GoodW b W' j (at' pt (j : Int))) ∧ at' W' ((b.length : Int) - 1) ≤ b.length := fun m w p ps' hm h1 h2 h3 h4 h4' h5 h6 h7 => by
      have hlen : (S.take m ++ [(k : Int)]).length = m + 1 := by simp; omega
      refine wgt_ends rules b f (k + 1) ps' _ (W ++ [w]) (by omega) h1 (by simp [hW]) (fun x hx => ?_) (.inr ⟨by omega, ?_⟩) (fun j hj => ?_) ?_ (by rw [hlen, h7]; exact hr)
      · rcases List.mem_append.1 hx with hx | hx
        · have := hS x (List.mem_of_mem_take hx); omega
        · simp at hx; omega
      · rw [hlen, show m + 1 - 1 = m by omega, at'_snoc_eq hm]; omega
      · by_cases hjk : j = k
        · subst hjk; rw [h3]; exact ⟨h5, h4, h4'⟩
        · have hj' : j < k := by omega
          rw [h2 j hj']
          obtain ⟨⟨g1, g2, g3⟩, g4, g5⟩ := hG j hj'
          have q : ∀ x : Int, x < k → at' (W ++ [w]) x = at' W x := fun x hx => at'_ext (by omega) (by omega)
          refine ⟨⟨by rw [q _ (by omega)]; exact g1, fun ho => ?_, fun ho => ?_⟩, g4, g5⟩
          · rw [q _ (by omega), q _ (by omega), q _ (by omega)]; exact g2 ho
          · rw [q _ (by omega), q _ (by omega)]; exact g3 ho
      · have e1 : at' (W ++ [w]) (k : Int) = w := by rw [← hW]; exact at'_new
        rw [wsum_snoc, e1, wsum_ext (by
          by_cases h0 : k = 0
          · right
            cases hq : S.take m with
            | nil => rfl
            | cons y r =>
              have hy : y ∈ S.take m := by rw [hq]; exact List.mem_cons_self ..
              have := hS y (List.mem_of_mem_take hy)
              omega
          · left; omega) (fun x hx => by have := hS x (List.mem_of_mem_take hx); omega)]
        exact h6
    unfold prtF
    have hsl : ∀ v : Int × Int, (ps.set k v).length = b.length := fun v => by simp [hl]
    have hso : ∀ (l : List (Int × Int)) (v : Int × Int) (j : Nat), j < k → at' (l.set k v) (j : Int) = at' l (j : Int) := fun l v j hj => at'_set_ne (by omega)
    have eN : ∀ w : Nat, at' (W ++ [w]) (k : Int) = w := fun w => by rw [← hW]; exact at'_new
    by_cases p4 : (at' b (k : Int)).op = 4 ∨ (at' b (k : Int)).op = 5
    · rw [if_pos p4]
      have ha : arityI (at' b (k : Int)).op = 2 := by rcases p4 with h | h <;> rw [h] <;> rfl
      rw [ha] at har
      have h2 : 2 ≤ S.length := by omega
      rw [if_pos h2]
      have m1 := hS _ (at'_memI (l := S) (x := (S.length : Int) - 2) (by omega) (by omega))
      have m2 := hS _ (at'_memI (l := S) (x := (S.length : Int) - 1) (by omega) (by omega))
      have t1 := wsum_take W S (S.length - 2) (by omega)
      have t2 := wsum_take W S (S.length - 1) (by omega)
      rw [show S.length - 2 + 1 = S.length - 1 by omega] at t1
      rw [show S.length - 1 + 1 = S.length by omega, List.take_length] at t2
      rw [show ((S.length - 2 : Nat) : Int) = (S.length : Int) - 2 by omega] at t1
      rw [show ((S.length - 1 : Nat) : Int) = (S.length : Int) - 1 by omega] at t2
      rw [show ((S.length : Int) - 2).toNat = S.length - 2 by omega]
      refine step (S.length - 2) (at' W (at' S ((S.length : Int) - 2)) + at' W (at' S ((S.length : Int) - 1)) + 1) _ _ (by omega) (by simp [hl]) (fun j hj => by rw [hso _ _ j hj, hso _ _ j hj]) (at'_set_self (by rw [hsl]; exact hkb)) m1.2 m2.2 ⟨by rw [eN]; omega, fun _ => by rw [eN, at'_ext (by omega) (by rw [hW]; exact m1.2), at'_ext (by omega) (by rw [hW]; exact m2.2)]; exact Nat.le_refl _, fun h => absurd h (by omega)⟩ (by omega) (by rw [ha]; omega)
    rw [if_neg p4]
    by_cases p6 : (at' b (k : Int)).op = 6 ∨ (at' b (k : Int)).op = 7 ∨ (at' b (k : Int)).op = 8
    · rw [if_pos p6]
      have ha : arityI (at' b (k : Int)).op = 1 := by rcases p6 with h | h | h <;> rw [h] <;> rfl
      rw [ha] at har
      have h1 : 1 ≤ S.length := by omega
      rw [if_pos h1]
      have m1 := hS _ (at'_memI (l := S) (x := (S.length : Int) - 1) (by omega) (by omega))
      obtain ⟨_, hlast⟩ := hL.resolve_left (fun h0 => by omega)
      have t2 := wsum_take W S (S.length - 1) (by omega)
      rw [show S.length - 1 + 1 = S.length by omega, List.take_length, hlast] at t2
      rw [show ((S.length : Int) - 1).toNat = S.length - 1 by omega]
      refine step (S.length - 1) (at' W ((k : Int) - 1) + 1) _ _ (by omega) (by simp [hl]) (fun j hj => by rw [hso _ _ j hj, hso _ _ j hj]) (at'_set_self (by rw [hsl]; exact hkb)) (by show (k : Int) - 1 < k; omega) (by show (at' (ps.set k (-1, -1)) (k : Int)).2 < k; rw [at'_set_self (by omega)]; show (-1 : Int) < k; omega) ⟨by rw [eN]; omega, fun h => absurd h p4, fun _ => by rw [eN]; show at' (W ++ _) ((k : Int) - 1) + 1 ≤ _; rw [at'_ext (by omega) (by omega)]; exact Nat.le_refl _⟩ (by omega) (by rw [ha]; omega)
    rw [if_neg p6]
    have ha : arityI (at' b (k : Int)).op = 0 := by
      unfold arityI
      rw [if_neg (by omega), if_neg (by omega)]
    have := step S.length 1 (-1, -1) (ps.set k (-1, -1)) (Nat.le_refl _) (hsl _) (fun j hj => hso _ _ j hj) (at'_set_self (by omega)) (by show (-1 : Int) < k; omega) (by show (-1 : Int) < k; omega) ⟨by rw [eN]; exact Nat.le_refl _, fun h => absurd h p4, fun h => absurd h p6⟩ (by rw [List.take_length]; omega) (by rw [ha]; omega)
    rwa [List.take_length] at this
end Go.AL
set_option linter.unusedVariables false
set_option linter.unusedSimpArgs false
namespace Go.AL
open Go.Proofs
theorem wsum_app (W : List Nat) (S T : List Int) : wsum W (S ++ T) = wsum W S + wsum W T := by simp [wsum]
/-- The rules at the front of a right body are found. -/
theorem frn_ends (n : Nat) (b : List Node) (pt : List (Int × Int)) (is : List Info) (W : List Nat) (hp : ∀ j : Nat, j < b.length → GoodP b j (at' pt (j : Int))) (hw : ∀ j : Nat, j < b.length → GoodW b W j (at' pt (j : Int))) (his : is.length = b.length) (hr : ∀ nd ∈ b, nd.op = 2 → 0 ≤ nd.rule ∧ nd.rule < n) :
    ∀ (f : Nat) (todo l : List Int), (∀ x ∈ todo, 0 ≤ x ∧ x < b.length) → InB n l → wsum W todo < f → ∃ out, frnF b pt is f todo l = some out ∧ InB n out
  | 0, _, _, _, _, h => absurd h (by omega)
  | f + 1, todo, l, ht, hl, h => by
    unfold frnF
    by_cases h0 : todo = []
    · rw [if_pos h0]; exact ⟨l, rfl, hl⟩
    rw [if_neg h0]
    have hlen : 0 < todo.length := List.length_pos_iff.2 h0
    obtain ⟨x0, x1⟩ := ht _ (at'_memI (l := todo) (x := (todo.length : Int) - 1) (by omega) (by omega))
    have t2 := wsum_take W todo (todo.length - 1) (by omega)
    rw [show todo.length - 1 + 1 = todo.length by omega, List.take_length, show ((todo.length - 1 : Nat) : Int) = (todo.length : Int) - 1 by omega] at t2
    have htk : ∀ x ∈ todo.take (todo.length - 1), 0 ≤ x ∧ x < b.length := fun y hy => ht y (List.mem_of_mem_take hy)
    rw [if_pos ⟨x0, x1⟩]
    generalize at' todo ((todo.length : Int) - 1) = x at x0 x1 t2
    obtain ⟨j, rfl⟩ : ∃ j : Nat, x = (j : Int) := ⟨x.toNat, by omega⟩
    obtain ⟨g1, g2, g3⟩ := hw j (by omega)
    obtain ⟨p1, p2, p3, p4⟩ := hp j (by omega)
    by_cases o2 : (at' b (j : Int)).op = 2
    · rw [if_pos o2]
      refine frn_ends n b pt is W hp hw his hr f _ _ htk (fun y hy => ?_) (by omega)
      rcases List.mem_append.1 hy with hy | hy
      · exact hl y hy
      · rw [List.mem_singleton] at hy
        rw [hy]
        exact hr _ (at'_memI x0 x1) o2
    rw [if_neg o2, if_pos (fun h4 => ⟨(p3 (.inl h4)).1, by omega⟩)]
    have key : (∀ y ∈ nextsI (at' b (j : Int)).op (at' pt (j : Int)).1 (at' pt (j : Int)).2 is, 0 ≤ y ∧ y < b.length) ∧ wsum W (nextsI (at' b (j : Int)).op (at' pt (j : Int)).1 (at' pt (j : Int)).2 is) + 1 ≤ at' W (j : Int) := by
      unfold nextsI
      split
      · rename_i o4
        have q := p3 (.inl o4)
        have w := g2 (.inl o4)
        split
        · refine ⟨fun y hy => ?_, ?_⟩
          · simp only [List.mem_cons, List.not_mem_nil, or_false] at hy
            rcases hy with rfl | rfl <;> omega
          · simp only [wsum, List.map_cons, List.map_nil, List.sum_cons, List.sum_nil]; omega
        · refine ⟨fun y hy => ?_, ?_⟩
          · simp only [List.mem_cons, List.not_mem_nil, or_false] at hy
            rcases hy with rfl
            omega
          · simp only [wsum, List.map_cons, List.map_nil, List.sum_cons, List.sum_nil]; omega
      split
      · rename_i o5
        have q := p3 (.inr o5)
        have w := g2 (.inr o5)
        refine ⟨fun y hy => ?_, ?_⟩
        · simp only [List.mem_cons, List.not_mem_nil, or_false] at hy
          rcases hy with rfl | rfl <;> omega
        · simp only [wsum, List.map_cons, List.map_nil, List.sum_cons, List.sum_nil]; omega
      split
      · rename_i o6
        have q := p4 o6
        have w := g3 o6
        refine ⟨fun y hy => ?_, ?_⟩
        · simp only [List.mem_cons, List.not_mem_nil, or_false] at hy
          rcases hy with rfl
          omega
        · simp only [wsum, List.map_cons, List.map_nil, List.sum_cons, List.sum_nil]; omega
      · refine ⟨fun y hy => (by cases hy), ?_⟩
        simp only [wsum, List.map_nil, List.sum_nil]; omega
    refine frn_ends n b pt is W hp hw his hr f _ _ (fun y hy => ?_) hl (by rw [wsum_app]; omega)
    rcases List.mem_append.1 hy with hy | hy
    · exact htk y hy
    · exact key.1 y hy
end Go.AL
set_option linter.unusedVariables false
set_option linter.unusedSimpArgs false
namespace Go.AL
open Go.Proofs
theorem infoM_len (c : Core) (ps : List (List (Int × Int))) (rs : List May) (fs : List Cls) (r : Int) : (infoM c ps rs fs r).length = (at' c.rules r).body.length := by
  unfold infoM
  rw [infoL_len _ _ (by rw [bodyM_len, bytesM_len]), bodyM_len]
def outM (c : Core) (rs : List May) (fs : List Cls) (r : Nat) : List Int := (frnF (at' c.rules (r : Int)).body (at' (psM c) (r : Int)) (infoM c (psM c) rs fs r) ((at' c.rules (r : Int)).body.length + 1) [((at' c.rules (r : Int)).body.length : Int) - 1] []).getD []
theorem out_right {c : Core} (hR : Right c) (rs : List May) (fs : List Cls) {r : Nat} (hr : r < c.rules.length) : frnF (at' c.rules (r : Int)).body (at' (psM c) (r : Int)) (infoM c (psM c) rs fs r) ((at' c.rules (r : Int)).body.length + 1) [((at' c.rules (r : Int)).body.length : Int) - 1] [] = some (outM c rs fs r) ∧ InB c.rules.length (outM c rs fs r) := by
  obtain ⟨pt, h1, _, h3, h4, h5⟩ := rule_at hR hr
  have hm : at' c.rules (r : Int) ∈ c.rules := at'_memI (by omega) (by omega)
  have hrl := hR.right _ hm
  have hpos := rightL_pos hrl
  obtain ⟨pt', W, w1, w2, w3, w4⟩ := wgt_ends _ (at' c.rules (r : Int)).body (at' c.rules (r : Int)).body.length 0 (List.replicate (at' c.rules (r : Int)).body.length (0, 0)) [] [] (by omega) (by simp) rfl (fun x hx => (by cases hx)) (.inl rfl) (fun j hj => absurd hj (by omega)) (by simp [wsum]) hrl
  have he : pt' = pt := by
    have : prtM (at' c.rules (r : Int)).body = some pt' := w1
    rw [h1] at this
    exact (Option.some.inj this).symm
  subst he
  obtain ⟨out, o1, o2⟩ := frn_ends c.rules.length (at' c.rules (r : Int)).body pt' (infoM c (psM c) rs fs r) W h5 w3 (infoM_len ..) (fun nd hn => rightL_rule _ _ hrl nd hn) ((at' c.rules (r : Int)).body.length + 1) [((at' c.rules (r : Int)).body.length : Int) - 1] [] (fun x hx => by
    rw [List.mem_singleton] at hx
    omega) (fun x hx => (by cases hx)) (by
    simp only [wsum, List.map_cons, List.map_nil, List.sum_cons, List.sum_nil]
    omega)
  unfold outM
  rw [h3, o1]
  exact ⟨rfl, o2⟩
/-- What stands on the left of every rule of a right grammar. -/
theorem find_right {c : Core} (hR : Right c) {rs : List May} {fs : List Cls} (hs : SolveIn c (psM c) rs fs) : FindIn c (psM c) rs fs ((List.range c.rules.length).map (outM c rs fs)) where
  solve := hs
  len := by simp
  prt := fun r hr => by
    obtain ⟨pt, h1, _, h3, h4, h5⟩ := rule_at hR hr
    refine ⟨pt, (at' c.rules (r : Int)).body.length + 1, h1, ?_, ?_⟩
    · have := hR.size _ (at'_memI (l := c.rules) (x := (r : Int)) (by omega) (by omega)); omega
    · have e : at' ((List.range c.rules.length).map (outM c rs fs)) (r : Int) = outM c rs fs r := by simp [at', hr]
      rw [e, ← h3]
      exact (out_right hR rs fs hr).1
  star := fun r k hr hk h6 => by
    obtain ⟨pt, h1, _, h3, h4, h5⟩ := rule_at hR hr
    obtain ⟨g1, g2, g3, g4⟩ := h5 k hk
    have := g4 (.inl h6)
    omega
end Go.AL
set_option linter.unusedVariables false
set_option linter.unusedSimpArgs false
namespace Go.AL
/-! ### What is used only grows -/
def EvMo (ev : MS → Res) : Prop := ∀ s o s1, ev s = .ok o s1 → s.us < s1.us ∧ s.ud ≤ s1.ud
theorem matched_mo {fin : Int} {f : List Cap} {s s1 : MS} {o : Out} (h : matchedR fin f s = .ok o s1) : s1 = s := by
  unfold matchedR at h
  split at h
  · cases h
  · injection h with h1 h2; exact h2.symm
theorem starG_mo {ev : Int → MS → Res} (hev : ∀ a : Int, EvMo (ev a)) : ∀ (n : Nat) (a : Int) (f : List Cap), EvMo (starG ev n a f)
  | 0, a, f => fun s o s1 h => by cases h
  | n + 1, a, f => fun s o s1 h => by
    simp only [starG] at h
    cases he : ev a s with
    | stop c s2 => rw [he] at h; cases h
    | ok o1 s2 =>
      rw [he] at h
      simp only at h
      obtain ⟨g1, g2⟩ := hev a s o1 s2 he
      split at h
      · rw [matched_mo h]; exact ⟨g1, g2⟩
      · split at h
        · injection h with h1 h2; subst h2; exact ⟨g1, g2⟩
        · split at h
          · cases h
          · obtain ⟨r1, r2⟩ := starG_mo hev n o1.fin _ s2 o s1 h
            exact ⟨by omega, by omega⟩
theorem growG_mo {ev : MS → Res} (hev : EvMo ev) (k : Int × Int) : ∀ (n : Nat), EvMo (growG ev k n)
  | 0 => fun s o s1 h => by cases h
  | n + 1 => fun s o s1 h => by
    simp only [growG] at h
    cases he : ev s with
    | stop c s2 => rw [he] at h; cases h
    | ok o1 s2 =>
      rw [he] at h
      simp only at h
      obtain ⟨g1, g2⟩ := hev s o1 s2 he
      split at h
      · obtain ⟨r1, r2⟩ := growG_mo hev k n _ o s1 h
        have r1 : s2.us < s1.us := r1
        have r2 : s2.ud ≤ s1.ud := r2
        exact ⟨by omega, by omega⟩
      · split at h
        · injection h with h1 h2; subst h2; exact ⟨g1, g2⟩
        · injection h with h1 h2; subst h2; exact ⟨g1, g2⟩
/-- A step that has begun: it may take nothing further. -/
theorem stepG_mo (e : Env) {ev : Int → Int → Int → MS → Res} (hev : ∀ r n a : Int, EvMo (ev r n a)) (rule : Int) (n : Node) (p : Int × Int) (a : Int) : ∀ s o s1, stepG e ev rule n p a s = .ok o s1 → s.us ≤ s1.us ∧ s.ud ≤ s1.ud := by
  intro s o s1 h
  have one : ∀ {r n a : Int} {s o s1}, ev r n a s = .ok o s1 → s.us ≤ s1.us ∧ s.ud ≤ s1.ud := fun h => by
    have := hev _ _ _ _ _ _ h; omega
  unfold stepG at h
  by_cases h1 : n.op = 1
  · rw [if_pos h1] at h
    split at h
    · split at h
      · split at h
        · rw [matched_mo h]; omega
        · injection h with q1 q2; subst q2; omega
      · injection h with q1 q2; subst q2; omega
    · injection h with q1 q2; subst q2; omega
  rw [if_neg h1] at h
  by_cases h3 : n.op = 3
  · rw [if_pos h3] at h
    injection h with q1 q2; subst q2; omega
  rw [if_neg h3] at h
  by_cases h2 : n.op = 2
  · rw [if_pos h2] at h
    split at h
    · cases hq : seedOf (n.rule, a) s.seeds with
      | some q => rw [hq] at h; injection h with q1 q2; subst q2; omega
      | none =>
        rw [hq] at h
        obtain ⟨g1, g2⟩ := growG_mo (hev _ _ _) _ _ _ _ _ h
        have g1 : s.us < s1.us := g1
        have g2 : s.ud ≤ s1.ud := g2
        omega
    · exact one h
  rw [if_neg h2] at h
  by_cases h4 : n.op = 4
  · rw [if_pos h4] at h
    cases he : ev rule p.1 a s with
    | stop c s2 => rw [he] at h; cases h
    | ok o1 s2 =>
      rw [he] at h
      dsimp only at h
      have g := one he
      split at h
      · injection h with q1 q2; subst q2; exact g
      · cases he2 : ev rule p.2 o1.fin s2 with
        | stop c s3 => rw [he2] at h; cases h
        | ok o2 s3 =>
          rw [he2] at h
          dsimp only at h
          have g' := one he2
          split at h
          · injection h with q1 q2; subst q2; omega
          · split at h
            · cases h
            · rw [matched_mo h]; omega
  rw [if_neg h4] at h
  by_cases h5 : n.op = 5
  · rw [if_pos h5] at h
    cases he : ev rule p.1 a s with
    | stop c s2 => rw [he] at h; cases h
    | ok o1 s2 =>
      rw [he] at h
      dsimp only at h
      have g := one he
      split at h
      · injection h with q1 q2; subst q2; exact g
      · have g' := one h; omega
  rw [if_neg h5] at h
  by_cases h6 : n.op = 6
  · rw [if_pos h6] at h
    obtain ⟨g1, g2⟩ := starG_mo (fun b => hev rule p.1 b) _ _ _ _ _ _ h
    omega
  rw [if_neg h6] at h
  by_cases h7 : n.op = 7
  · rw [if_pos h7] at h
    cases he : ev rule p.1 a s with
    | stop c s2 => rw [he] at h; cases h
    | ok o1 s2 =>
      rw [he] at h
      dsimp only at h
      have g := one he
      split at h
      · injection h with q1 q2; subst q2; exact g
      · rw [matched_mo h]; exact g
  rw [if_neg h7] at h
  by_cases h8 : n.op = 8
  · rw [if_pos h8] at h
    cases he : ev rule p.1 a s with
    | stop c s2 => rw [he] at h; cases h
    | ok o1 s2 =>
      rw [he] at h
      dsimp only at h
      have g := one he
      split at h
      · injection h with q1 q2; subst q2; exact g
      · split at h
        · cases h
        · rw [matched_mo h]; exact g
  rw [if_neg h8] at h
  rw [matched_mo h]; omega
theorem evalD_mo (e : Env) : ∀ (d : Nat) (rule node a : Int) (s : MS) (o : Out) (s1 : MS), evalD e d rule node a s = .ok o s1 → s.us < s1.us ∧ s.ud ≤ s1.ud ∧ e.limD - ((d : Int) - 1) ≤ s1.ud
  | 0, rule, node, a, s, o, s1, h => by cases h
  | d + 1, rule, node, a, s, o, s1, h => by
    rw [evalD] at h
    split at h
    · cases h
    · obtain ⟨g1, g2⟩ := stepG_mo e (fun r n a s o s1 h => ⟨(evalD_mo e d r n a s o s1 h).1, (evalD_mo e d r n a s o s1 h).2.1⟩) _ _ _ _ _ _ _ h
      simp only [begun] at g1 g2
      omega
theorem evalD_mo' (e : Env) (d : Nat) (r n a : Int) : EvMo (evalD e d r n a) := fun s o s1 h => ⟨(evalD_mo e d r n a s o s1 h).1, (evalD_mo e d r n a s o s1 h).2.1⟩
/-! ### The same grammar with other limits -/
/-- What comes with other limits: the same, where they are no less than what was used; else one of them is met. -/
def Agree (D S : Int) (o : Out) (s1 : MS) (r : Res) : Prop := (s1.ud ≤ D ∧ s1.us ≤ S ∧ r = .ok o s1) ∨ ∃ c s2, r = .stop c s2 ∧ (c = 3 ∧ D < s1.ud ∨ c = 4 ∧ S < s1.us)
def EvAg (D S : Int) (ev ev' : MS → Res) : Prop := ∀ s o s1, s.us ≤ S → s.ud ≤ D → ev s = .ok o s1 → Agree D S o s1 (ev' s)
theorem Agree.up {D S : Int} {o : Out} {s1 s2 s3 : MS} {c : Int} (h : c = 3 ∧ D < s1.ud ∨ c = 4 ∧ S < s1.us) (hu : s1.us ≤ s2.us ∧ s1.ud ≤ s2.ud) : Agree D S o s2 (.stop c s3) := .inr ⟨c, s3, rfl, by omega⟩
theorem Agree.same {D S : Int} {o : Out} {s1 : MS} (hd : s1.ud ≤ D) (hu : s1.us ≤ S) : Agree D S o s1 (.ok o s1) := .inl ⟨hd, hu, rfl⟩
theorem Agree.at {D S : Int} {o : Out} {s1 : MS} {r : Res} (hd : s1.ud ≤ D) (hu : s1.us ≤ S) (h : r = .ok o s1) : Agree D S o s1 r := .inl ⟨hd, hu, h⟩
theorem starG_ag {D S : Int} {ev ev' : Int → MS → Res} (hmo : ∀ a : Int, EvMo (ev a)) (hev : ∀ a : Int, EvAg D S (ev a) (ev' a)) : ∀ (n m : Nat) (a : Int) (f : List Cap) (s : MS) (o : Out) (s1 : MS), (S - s.us).toNat + 1 ≤ m → s.us ≤ S → s.ud ≤ D → starG ev n a f s = .ok o s1 → Agree D S o s1 (starG ev' m a f s)
  | 0, m, a, f, s, o, s1, _, _, _, h => by cases h
  | n + 1, 0, a, f, s, o, s1, hm, _, _, h => by omega
  | n + 1, m + 1, a, f, s, o, s1, hm, hu, hd, h => by
    have hall := starG_mo hmo n
    simp only [starG] at h ⊢
    cases he : ev a s with
    | stop c s2 => rw [he] at h; cases h
    | ok o1 s2 =>
      rw [he] at h
      simp only at h
      obtain ⟨g1, g2⟩ := hmo a s o1 s2 he
      rcases hev a s o1 s2 hu hd he with ⟨w1, w2, hag⟩ | ⟨c, s3, hag, hc⟩
      · rw [hag]
        simp only
        split at h
        · rename_i q0
          rw [if_pos q0]
          have := matched_mo h
          subst this
          exact .at w1 w2 h
        · rename_i q0
          rw [if_neg q0]
          split at h
          · rename_i q2
            rw [if_pos q2]
            injection h with h1 h2; subst h1; subst h2
            exact .same w1 w2
          · rename_i q2
            rw [if_neg q2]
            split at h
            · cases h
            · rename_i q3
              rw [if_neg q3]
              exact starG_ag hmo hev n m o1.fin _ s2 o s1 (by omega) w2 w1 h
      · rw [hag]
        refine .up hc ?_
        split at h
        · rw [matched_mo h]; omega
        · split at h
          · injection h with h1 h2; subst h2; omega
          · split at h
            · cases h
            · have := hall _ _ _ _ _ h; omega
theorem growG_ag {D S : Int} {ev ev' : MS → Res} (hmo : EvMo ev) (hev : EvAg D S ev ev') (k : Int × Int) : ∀ (n m : Nat) (s : MS) (o : Out) (s1 : MS), (S - s.us).toNat + 1 ≤ m → s.us ≤ S → s.ud ≤ D → growG ev k n s = .ok o s1 → Agree D S o s1 (growG ev' k m s)
  | 0, m, s, o, s1, _, _, _, h => by cases h
  | n + 1, 0, s, o, s1, hm, _, _, h => by omega
  | n + 1, m + 1, s, o, s1, hm, hu, hd, h => by
    have hall := growG_mo hmo k n
    simp only [growG] at h ⊢
    cases he : ev s with
    | stop c s2 => rw [he] at h; cases h
    | ok o1 s2 =>
      rw [he] at h
      simp only at h
      obtain ⟨g1, g2⟩ := hmo s o1 s2 he
      rcases hev s o1 s2 hu hd he with ⟨w1, w2, hag⟩ | ⟨c, s3, hag, hc⟩
      · rw [hag]
        simp only
        split at h
        · rename_i q0
          rw [if_pos q0]
          exact growG_ag hmo hev k n m _ o s1 (by show (S - s2.us).toNat + 1 ≤ m; omega) w2 w1 h
        · rename_i q0
          rw [if_neg q0]
          split at h
          · rename_i q2
            rw [if_pos q2]
            injection h with h1 h2; subst h1; subst h2
            exact .same w1 w2
          · rename_i q2
            rw [if_neg q2]
            injection h with h1 h2; subst h1; subst h2
            exact .same w1 w2
      · rw [hag]
        refine .up hc ?_
        split at h
        · obtain ⟨r1, r2⟩ := hall _ _ _ h
          have r1 : s2.us < s1.us := r1
          have r2 : s2.ud ≤ s1.ud := r2
          omega
        · split at h
          · injection h with h1 h2; subst h2; exact ⟨Int.le_refl _, Int.le_refl _⟩
          · injection h with h1 h2; subst h2; exact ⟨Int.le_refl _, Int.le_refl _⟩
def withLim (e : Env) (D S : Int) : Env := { e with limD := D, limS := S }
theorem stepG_ag (e : Env) (D S : Int) {ev ev' : Int → Int → Int → MS → Res} (hmo : ∀ r n a : Int, EvMo (ev r n a)) (hev : ∀ r n a : Int, EvAg D S (ev r n a) (ev' r n a)) (rule : Int) (n : Node) (p : Int × Int) (a : Int) : EvAg D S (stepG e ev rule n p a) (stepG (withLim e D S) ev' rule n p a) := by
  intro s o s1 hu hd h
  unfold stepG at h ⊢
  by_cases h1 : n.op = 1
  · rw [if_pos h1] at h ⊢
    have es : s1 = s := by
      split at h
      · split at h
        · split at h
          · exact matched_mo h
          · injection h with q1 q2; exact q2.symm
        · injection h with q1 q2; exact q2.symm
      · injection h with q1 q2; exact q2.symm
    subst es
    exact .at hd hu h
  rw [if_neg h1] at h ⊢
  by_cases h3 : n.op = 3
  · rw [if_pos h3] at h ⊢
    injection h with q1 q2; subst q1; subst q2; exact .same hd hu
  rw [if_neg h3] at h ⊢
  by_cases h2 : n.op = 2
  · rw [if_pos h2] at h ⊢
    rw [show (withLim e D S).heads = e.heads from rfl, show lastOf (withLim e D S) n.rule = lastOf e n.rule from rfl, show (withLim e D S).limS = S from rfl]
    split at h
    · rename_i q1
      rw [if_pos q1]
      cases hq : seedOf (n.rule, a) s.seeds with
      | some q => rw [hq] at h; injection h with q1 q2; subst q1; subst q2; exact .same hd hu
      | none =>
        rw [hq] at h
        exact growG_ag (hmo _ _ _) (hev _ _ _) _ _ _ _ _ _ (Nat.le_refl _) hu hd h
    · rename_i q1
      rw [if_neg q1]
      exact hev _ _ _ _ _ _ hu hd h
  rw [if_neg h2] at h ⊢
  by_cases h4 : n.op = 4
  · rw [if_pos h4] at h ⊢
    cases he : ev rule p.1 a s with
    | stop c s2 => rw [he] at h; cases h
    | ok o1 s2 =>
      rw [he] at h
      dsimp only at h
      have g := hmo _ _ _ _ _ _ he
      rcases hev _ _ _ _ _ _ hu hd he with ⟨w1, w2, hag⟩ | ⟨c, s3, hag, hc⟩
      · rw [hag]
        dsimp only
        split at h
        · rename_i q1
          rw [if_pos q1]
          injection h with q1 q2; subst q1; subst q2; exact .same w1 w2
        · rename_i q1
          rw [if_neg q1]
          cases he2 : ev rule p.2 o1.fin s2 with
          | stop c s3 => rw [he2] at h; cases h
          | ok o2 s3 =>
            rw [he2] at h
            dsimp only at h
            have g' := hmo _ _ _ _ _ _ he2
            rcases hev _ _ _ _ _ _ w2 w1 he2 with ⟨v1, v2, hag2⟩ | ⟨c, s4, hag2, hc⟩
            · rw [hag2]
              dsimp only
              split at h
              · rename_i q1
                rw [if_pos q1]
                injection h with q1 q2; subst q1; subst q2; exact .same v1 v2
              · rename_i q1
                rw [if_neg q1]
                split at h
                · cases h
                · rename_i q3
                  rw [if_neg q3]
                  have := matched_mo h
                  subst this
                  exact .at v1 v2 h
            · rw [hag2]
              refine .up hc ?_
              split at h
              · injection h with q1 q2; subst q2; omega
              · split at h
                · cases h
                · rw [matched_mo h]; omega
      · rw [hag]
        refine .up hc ?_
        split at h
        · injection h with q1 q2; subst q2; omega
        · cases he2 : ev rule p.2 o1.fin s2 with
          | stop c s3 => rw [he2] at h; cases h
          | ok o2 s3 =>
            rw [he2] at h
            dsimp only at h
            have g' := hmo _ _ _ _ _ _ he2
            split at h
            · injection h with q1 q2; subst q2; omega
            · split at h
              · cases h
              · rw [matched_mo h]; omega
  rw [if_neg h4] at h ⊢
  by_cases h5 : n.op = 5
  · rw [if_pos h5] at h ⊢
    cases he : ev rule p.1 a s with
    | stop c s2 => rw [he] at h; cases h
    | ok o1 s2 =>
      rw [he] at h
      dsimp only at h
      have g := hmo _ _ _ _ _ _ he
      rcases hev _ _ _ _ _ _ hu hd he with ⟨w1, w2, hag⟩ | ⟨c, s3, hag, hc⟩
      · rw [hag]
        dsimp only
        split at h
        · rename_i q1
          rw [if_pos q1]
          injection h with q1 q2; subst q1; subst q2; exact .same w1 w2
        · rename_i q1
          rw [if_neg q1]
          exact hev _ _ _ _ _ _ w2 w1 h
      · rw [hag]
        refine .up hc ?_
        split at h
        · injection h with q1 q2; subst q2; omega
        · have := hmo _ _ _ _ _ _ h; omega
  rw [if_neg h5] at h ⊢
  by_cases h6 : n.op = 6
  · rw [if_pos h6] at h ⊢
    exact starG_ag (fun b => hmo rule p.1 b) (fun b => hev rule p.1 b) _ _ _ _ _ _ _ (Nat.le_refl _) hu hd h
  rw [if_neg h6] at h ⊢
  by_cases h7 : n.op = 7
  · rw [if_pos h7] at h ⊢
    cases he : ev rule p.1 a s with
    | stop c s2 => rw [he] at h; cases h
    | ok o1 s2 =>
      rw [he] at h
      dsimp only at h
      rcases hev _ _ _ _ _ _ hu hd he with ⟨w1, w2, hag⟩ | ⟨c, s3, hag, hc⟩
      · rw [hag]
        dsimp only
        split at h
        · rename_i q1
          rw [if_pos q1]
          injection h with q1 q2; subst q1; subst q2; exact .same w1 w2
        · rename_i q1
          rw [if_neg q1]
          have := matched_mo h
          subst this
          exact .at w1 w2 h
      · rw [hag]
        refine .up hc ?_
        split at h
        · injection h with q1 q2; subst q2; omega
        · rw [matched_mo h]; omega
  rw [if_neg h7] at h ⊢
  by_cases h8 : n.op = 8
  · rw [if_pos h8] at h ⊢
    cases he : ev rule p.1 a s with
    | stop c s2 => rw [he] at h; cases h
    | ok o1 s2 =>
      rw [he] at h
      dsimp only at h
      rcases hev _ _ _ _ _ _ hu hd he with ⟨w1, w2, hag⟩ | ⟨c, s3, hag, hc⟩
      · rw [hag]
        dsimp only
        split at h
        · rename_i q1
          rw [if_pos q1]
          injection h with q1 q2; subst q1; subst q2; exact .same w1 w2
        · rename_i q1
          rw [if_neg q1]
          split at h
          · cases h
          · rename_i q3
            rw [if_neg q3]
            have := matched_mo h
            subst this
            exact .at w1 w2 h
      · rw [hag]
        refine .up hc ?_
        split at h
        · injection h with q1 q2; subst q2; omega
        · split at h
          · cases h
          · rw [matched_mo h]; omega
  rw [if_neg h8] at h ⊢
  have := matched_mo h
  subst this
  exact .at hd hu h
theorem evalD_ag (e : Env) (D S : Int) : ∀ (d d' : Nat) (rule node a : Int), e.limD - d = D - d' → EvAg D S (evalD e d rule node a) (evalD (withLim e D S) d' rule node a)
  | 0, d', rule, node, a, hd => fun s o s1 _ _ h => by cases h
  | d + 1, 0, rule, node, a, hd => fun s o s1 hu hd' h => by
    have := evalD_mo e (d + 1) rule node a s o s1 h
    exact .inr ⟨3, s, rfl, .inl ⟨rfl, by omega⟩⟩
  | d + 1, d' + 1, rule, node, a, hd => fun s o s1 hu hdd h => by
    have hmo := evalD_mo e (d + 1) rule node a s o s1 h
    rw [evalD] at h
    split at h
    · cases h
    · rename_i q
      have eb : begun (withLim e D S) d' s = begun e d s := by
        simp only [begun, withLim]
        rw [show D - (d' : Int) = e.limD - (d : Int) by omega]
      rw [evalD]
      by_cases hs : s.us = (withLim e D S).limS
      · rw [if_pos hs]
        have hs : s.us = S := hs
        exact .inr ⟨4, s, rfl, .inr ⟨rfl, by omega⟩⟩
      · rw [if_neg hs, eb]
        have hs : ¬s.us = S := hs
        by_cases hdd2 : (begun e d s).ud ≤ D
        · exact stepG_ag e D S (evalD_mo' e d) (fun r n a => evalD_ag e D S d d' r n a (by omega)) _ _ _ _ _ _ _ (by simp only [begun]; omega) hdd2 h
        · exfalso
          simp only [begun] at hdd2
          omega
end Go.AL
set_option linter.unusedVariables false
set_option linter.unusedSimpArgs false
namespace Go.AL
open Go.Proofs
/-! ### The heads of a right grammar -/
theorem frn_len (b : List Node) (pt : List (Int × Int)) (is : List Info) : ∀ (f : Nat) (todo l out : List Int), frnF b pt is f todo l = some out → out.length ≤ l.length + f
  | 0, todo, l, out, h => by cases h
  | f + 1, todo, l, out, h => by
    unfold frnF at h
    split at h
    · injection h with h; subst h; omega
    · split at h
      · split at h
        · have := frn_len b pt is f _ _ _ h
          rw [List.length_append] at this
          simp only [List.length_singleton] at this
          omega
        · split at h
          · have := frn_len b pt is f _ _ _ h; omega
          · cases h
      · cases h
theorem sorted_len (l : List Int) : (sortedI l).length ≤ l.length := by
  unfold sortedI
  refine Nat.le_trans (fn_compact_le _) ?_
  rw [List.length_mergeSort]
  exact Nat.le_refl _
theorem compact_mem {l : List Int} {x : Int} (h : x ∈ Lib.compact l) : x ∈ l := by
  unfold Lib.compact Lib.compactUpTo at h
  rw [List.mem_map] at h
  obtain ⟨i, hi, rfl⟩ := h
  have := (List.mem_filter.1 hi).1
  rw [List.mem_range] at this
  have hlt : i < l.length := by simpa using this
  rw [getElem!_pos l.toArray i (by simpa using hlt)]
  simp
theorem sorted_mem {l : List Int} {x : Int} (h : x ∈ sortedI l) : x ∈ l := by
  unfold sortedI at h
  exact List.mem_mergeSort.1 (compact_mem h)
def wl : List Bool → List (List Int) → Nat
  | s :: ss, l :: ls => (if s then 0 else l.length) + wl ss ls
  | _, _ => 0
theorem at'_cons_succ {α : Type} [Inhabited α] (a : α) (l : List α) (k : Nat) : at' (a :: l) ((k + 1 : Nat) : Int) = at' l (k : Int) := by simp [at']
theorem wl_set : ∀ (ss : List Bool) (ls : List (List Int)) (k : Nat), k < ss.length → ss.length = ls.length → at' ss (k : Int) = false → wl (ss.set k true) ls + (at' ls (k : Int)).length = wl ss ls
  | [], ls, k, h, _, _ => by simp at h
  | s :: ss, [], k, _, h, _ => by simp at h
  | s :: ss, l :: ls, 0, _, _, h => by
    have h : s = false := by simpa [at'] using h
    subst h
    have : at' (l :: ls) ((0 : Nat) : Int) = l := by simp [at']
    rw [this]
    simp only [List.set_cons_zero, wl, if_true, if_neg Bool.false_ne_true]
    simp
    omega
  | s :: ss, l :: ls, k + 1, hk, hl, h => by
    rw [at'_cons_succ] at h ⊢
    have := wl_set ss ls k (by simpa using hk) (by simpa using hl) h
    simp only [List.set_cons_succ, wl]
    omega
theorem wl_rep : ∀ (ls : List (List Int)), wl (List.replicate ls.length false) ls = (ls.map List.length).sum
  | [] => rfl
  | l :: ls => by
    simp only [List.length_cons, List.replicate_succ, wl, List.map_cons, List.sum_cons, wl_rep ls]
    rw [if_neg Bool.false_ne_true]
theorem reach_sum (ls : List (List Int)) (hM : ∀ l ∈ ls, InB ls.length l) : ∀ (f : Nat) (todo : List Int) (seen : List Bool), seen.length = ls.length → InB ls.length todo → todo.length + wl seen ls < f → ∃ out, reachF ls f todo seen = some out ∧ out.length = ls.length
  | 0, _, _, _, _, h => absurd h (by omega)
  | f + 1, todo, seen, hs, ht, h => by
    unfold reachF
    by_cases h0 : todo = []
    · rw [if_pos h0]; exact ⟨seen, rfl, hs⟩
    rw [if_neg h0]
    have hlen : 0 < todo.length := List.length_pos_iff.2 h0
    have hmem : at' todo ((todo.length : Int) - 1) ∈ todo := at'_memI (by omega) (by omega)
    obtain ⟨x0, x1⟩ := ht _ hmem
    rw [if_pos ⟨x0, x1⟩]
    generalize at' todo ((todo.length : Int) - 1) = x at x0 x1
    have htk : InB ls.length (todo.take (todo.length - 1)) := fun y hy => ht y (List.mem_of_mem_take hy)
    have htl : (todo.take (todo.length - 1)).length = todo.length - 1 := by rw [List.length_take]; omega
    by_cases hsx : at' seen x = true
    · rw [if_pos hsx]
      exact reach_sum ls hM f _ seen hs htk (by rw [htl]; omega)
    · rw [if_neg hsx]
      have hlx := hM (at' ls x) (at'_memI x0 x1)
      have hxn : x.toNat < seen.length := by omega
      have e1 : at' seen (x.toNat : Int) = false := by
        rw [← at'_nat seen x]
        cases hq : at' seen x with
        | true => exact absurd hq hsx
        | false => rfl
      have hu := wl_set seen ls x.toNat hxn hs e1
      rw [← at'_nat ls x] at hu
      refine reach_sum ls hM f _ _ (by simp [hs]) (fun y hy => ?_) ?_
      · rcases List.mem_append.1 hy with hy | hy
        · exact htk y hy
        · exact hlx y hy
      · rw [List.length_append, htl]
        omega
/-- The heads of a table of rules on the left that isn't too large in all. -/
theorem heads_sum (ls : List (List Int)) (hn : ls.length ≤ 256) (hM : ∀ l ∈ ls, InB ls.length l) (hl : ∀ l ∈ ls, l.length ≤ 400000) (hS : (ls.map List.length).sum ≤ 400000) : HeadsIn ls ((List.range ls.length).map (headM ls)) := by
  refine ⟨by omega, fun l h => by have := hl l h; omega, by simp, fun r hr => ?_⟩
  have hm := at'_memI (l := ls) (x := (r : Int)) (by omega) (by omega)
  obtain ⟨seen, h1, h2⟩ := reach_sum ls hM 1000000 (at' ls (r : Int)) (List.replicate ls.length false) (by simp) (hM _ hm) (by
    rw [wl_rep]
    have := hl _ hm
    omega)
  refine ⟨1000000, seen, by omega, h1, ?_⟩
  have e : at' ((List.range ls.length).map (headM ls)) (r : Int) = headM ls r := by simp [at', hr]
  rw [e]
  unfold headM
  rw [h1]
theorem sum_size : ∀ (ls : List (List Int)) (rs : List Rule) (n : Int), ls.length = rs.length → (∀ k : Nat, k < ls.length → (at' ls (k : Int)).length ≤ (at' rs (k : Int)).body.length + 1) → n + ((ls.map List.length).sum : Nat) ≤ sizeL rs n + rs.length
  | [], [], n, _, _ => by simp [sizeL]
  | [], r :: rs, n, h, _ => by simp at h
  | l :: ls, [], n, h, _ => by simp at h
  | l :: ls, r :: rs, n, h, hk => by
    have h0 := hk 0 (by simp)
    have e0 : at' (l :: ls) ((0 : Nat) : Int) = l := by simp [at']
    have e1 : at' (r :: rs) ((0 : Nat) : Int) = r := by simp [at']
    rw [e0, e1] at h0
    have := sum_size ls rs (n + r.body.length) (by simpa using h) (fun k hk' => by
      have := hk (k + 1) (by simp; omega)
      rw [at'_cons_succ, at'_cons_succ] at this
      exact this)
    simp only [sizeL, List.map_cons, List.sum_cons, List.length_cons]
    omega
theorem size_of {c : Core} (h : checkI c = 0) : sizeI c ≤ 16384 := by
  unfold checkI at h
  split at h
  · cases h
  rename_i h1
  have : ¬ sizeI c > 16384 := fun q => h1 (.inr (.inr (.inr (.inr q))))
  omega
/-! ### The parts of a right body, as core tells them -/
def dep (b : List Node) : Nat → Int
  | 0 => 0
  | k + 1 => dep b k + (1 - arityI (at' b (k : Int)).op)
theorem right_drop {rules : Int} {b : List Node} (h : rightL rules b 0 = true) : ∀ k : Nat, k ≤ b.length → rightL rules (b.drop k) (dep b k) = true
  | 0, _ => h
  | k + 1, hk => by
    have := right_drop h k (by omega)
    rw [drop_at b k (by omega)] at this
    simp only [rightL, Bool.and_eq_true] at this
    exact this.2
theorem right_arity {rules : Int} {b : List Node} (h : rightL rules b 0 = true) {k : Nat} (hk : k < b.length) : arityI (at' b (k : Int)).op ≤ dep b k := by
  have := right_drop h k (by omega)
  rw [drop_at b k hk] at this
  simp only [rightL, Bool.and_eq_true] at this
  exact (of_decide_eq_true this.1).1
theorem dep_le (b : List Node) : ∀ k : Nat, dep b k ≤ k
  | 0 => Int.le_refl _
  | k + 1 => by
    have := dep_le b k
    have := arity_le (at' b (k : Int)).op
    simp only [dep]
    omega
theorem partsL_ok (b : List Node) (node : Nat) (h2 : 2 ≤ dep b node) : ∀ (k : Nat) (opn : Int), 1 ≤ opn → opn = 1 - dep b node + dep b k → 0 ≤ (partsL b node k opn).1 ∧ (partsL b node k opn).1 < k ∧ (partsL b node k opn).2 = (node : Int) - 1
  | 0, opn, h, e => by simp only [dep] at e; omega
  | k + 1, opn, h, e => by
    have ha := arity_le (at' b (k : Int)).op
    simp only [dep] at e
    simp only [partsL]
    split
    · rename_i hz
      have hk : k ≠ 0 := by
        rintro rfl
        simp only [dep] at e
        omega
      refine ⟨?_, ?_, rfl⟩ <;> dsimp only <;> omega
    · have := partsL_ok b node h2 k (opn + (arityI (at' b (k : Int)).op - 1)) (by omega) (by omega)
      exact ⟨this.1, by omega, this.2.2⟩
theorem partsI_ok {rules : Int} {b : List Node} (h : rightL rules b 0 = true) {k : Nat} (hk : k < b.length) :
    ((at' b (k : Int)).op = 4 ∨ (at' b (k : Int)).op = 5 → (0 ≤ (partsI b k).1 ∧ (partsI b k).1 < k) ∧ (0 ≤ (partsI b k).2 ∧ (partsI b k).2 < k)) ∧ ((at' b (k : Int)).op = 6 ∨ (at' b (k : Int)).op = 7 ∨ (at' b (k : Int)).op = 8 → 0 ≤ (partsI b k).1 ∧ (partsI b k).1 < k) := by
  have har := right_arity h hk
  have hdl := dep_le b k
  constructor
  · intro h4
    have ha : arityI (at' b (k : Int)).op = 2 := by rcases h4 with h | h <;> rw [h] <;> rfl
    rw [ha] at har
    have e : partsI b k = partsL b k k 1 := by
      unfold partsI
      rw [if_neg (by omega), if_neg (by omega), if_neg (by omega), Int.toNat_natCast]
    obtain ⟨g1, g2, g3⟩ := partsL_ok b k har k 1 (by omega) (by omega)
    rw [e, g3]
    omega
  · intro h6
    have ha : arityI (at' b (k : Int)).op = 1 := by rcases h6 with h | h | h <;> rw [h] <;> rfl
    rw [ha] at har
    have e : partsI b k = ((k : Int) - 1, -1) := by
      unfold partsI
      rw [if_neg (by omega), if_neg (by omega), if_pos ha]
    rw [e]
    dsimp only
    omega
theorem partsM_at (c : Core) {r : Nat} (hr : r < c.rules.length) : at' (partsM c) (r : Int) = (List.range (at' c.rules (r : Int)).body.length).map fun (q : Nat) => partsI (at' c.rules (r : Int)).body (q : Int) := by
  simp [partsM, at', List.getD_eq_getElem?_getD, hr]
theorem partsM_at2 (c : Core) {r k : Nat} (hr : r < c.rules.length) (hk : k < (at' c.rules (r : Int)).body.length) : at' (at' (partsM c) (r : Int)) (k : Int) = partsI (at' c.rules (r : Int)).body (k : Int) := by
  rw [partsM_at c hr]
  generalize at' c.rules (r : Int) = x at hk
  simp [at', List.getD_eq_getElem?_getD, hk]
theorem wf_right {c : Core} (hR : Right c) {hs : List Bool} (hh : hs.length = c.rules.length) (input : ByteArray) (D S : Int) (hin : input.size ≤ 65536) : WF (envM c hs input D S) where
  nr := hR.nr
  body := fun r r0 r1 => by
    have hm := at'_memI r0 r1
    exact ⟨rightL_pos (hR.right _ hm), hR.size _ hm⟩
  heads := hh
  parts := by simp [partsM]
  part := fun r r0 r1 => by
    obtain ⟨k, rfl⟩ : ∃ k : Nat, r = (k : Int) := ⟨r.toNat, by omega⟩
    show (at' (partsM c) (k : Int)).length = (at' c.rules (k : Int)).body.length
    rw [partsM_at c (by have : (k : Int) < c.rules.length := r1; omega)]
    simp
  rule := fun r k r0 r1 k0 k1 h2 => rightL_rule _ _ (hR.right _ (at'_memI r0 r1)) _ (at'_memI k0 k1) h2
  two := fun r k r0 r1 k0 k1 h => by
    obtain ⟨q, rfl⟩ : ∃ q : Nat, r = (q : Int) := ⟨r.toNat, by omega⟩
    obtain ⟨j, rfl⟩ : ∃ j : Nat, k = (j : Int) := ⟨k.toNat, by omega⟩
    have hq : q < c.rules.length := by have : (q : Int) < c.rules.length := r1; omega
    have hj : j < (at' c.rules (q : Int)).body.length := by have : (j : Int) < (at' c.rules (q : Int)).body.length := k1; omega
    show (0 ≤ (at' (at' (partsM c) (q : Int)) (j : Int)).1 ∧ (at' (at' (partsM c) (q : Int)) (j : Int)).1 < (at' c.rules (q : Int)).body.length) ∧ (0 ≤ (at' (at' (partsM c) (q : Int)) (j : Int)).2 ∧ (at' (at' (partsM c) (q : Int)) (j : Int)).2 < (at' c.rules (q : Int)).body.length)
    rw [partsM_at2 c hq hj]
    have := (partsI_ok (hR.right _ (at'_memI r0 r1)) hj).1 h
    omega
  one := fun r k r0 r1 k0 k1 h => by
    obtain ⟨q, rfl⟩ : ∃ q : Nat, r = (q : Int) := ⟨r.toNat, by omega⟩
    obtain ⟨j, rfl⟩ : ∃ j : Nat, k = (j : Int) := ⟨k.toNat, by omega⟩
    have hq : q < c.rules.length := by have : (q : Int) < c.rules.length := r1; omega
    have hj : j < (at' c.rules (q : Int)).body.length := by have : (j : Int) < (at' c.rules (q : Int)).body.length := k1; omega
    show 0 ≤ (at' (at' (partsM c) (q : Int)) (j : Int)).1 ∧ (at' (at' (partsM c) (q : Int)) (j : Int)).1 < (at' c.rules (q : Int)).body.length
    rw [partsM_at2 c hq hj]
    have := (partsI_ok (hR.right _ (at'_memI r0 r1)) hj).2 h
    omega
  limD := by show 0 ≤ clampI D 32768 ∧ clampI D 32768 ≤ 32768; unfold clampI; omega
  limS := by show 0 ≤ clampI S 1048576 ∧ clampI S 1048576 ≤ 1048576; unfold clampI; omega
  input := hin
/-! ### What Run asks of a right grammar, it has -/
theorem runF_right {c : Core} (hc : CoreIn c) (h0 : checkI c = 0) (hcl : ∀ r k : Nat, okC' (at' (at' c.rules (r : Int)).body (k : Int)).cl) : ∃ (I : Int → List Info) (hs : List Bool), RunF c I hs ∧ hs.length = c.rules.length := by
  have hR := right_of h0
  obtain ⟨rs, fs, hso⟩ := solve_right hR hcl
  have hf := find_right hR hso
  have hlen : ∀ r : Nat, r < c.rules.length → (outM c rs fs r).length ≤ (at' c.rules (r : Int)).body.length + 1 := fun r hr => by
    have := frn_len _ _ _ _ _ _ _ (out_right hR rs fs hr).1
    simpa using this
  have hin : ∀ r : Nat, r < c.rules.length → InB c.rules.length (outM c rs fs r) := fun r hr => (out_right hR rs fs hr).2
  have hat : ∀ r : Nat, r < c.rules.length → at' (((List.range c.rules.length).map (outM c rs fs)).map sortedI) (r : Int) = sortedI (outM c rs fs r) := fun r hr => by simp [at', hr]
  have hbody : ∀ r : Nat, r < c.rules.length → (at' c.rules (r : Int)).body.length ≤ 16384 := fun r hr => hR.size _ (at'_memI (by omega) (by omega))
  have hmem : ∀ l ∈ ((List.range c.rules.length).map (outM c rs fs)).map sortedI, ∃ r : Nat, r < c.rules.length ∧ l = sortedI (outM c rs fs r) := fun l hl => by
    simp only [List.mem_map, List.mem_range] at hl
    obtain ⟨o, ⟨r, hr, rfl⟩, rfl⟩ := hl
    exact ⟨r, hr, rfl⟩
  have hLn : (((List.range c.rules.length).map (outM c rs fs)).map sortedI).length = c.rules.length := by simp
  have h23 := left23_c c hc h0 (psM c) rs fs _ hf (fun o ho => by
    simp only [List.mem_map, List.mem_range] at ho
    obtain ⟨r, hr, rfl⟩ := ho
    have := hlen r hr
    have := hbody r hr
    omega)
  have hnr := hR.nr
  have hsz : sizeL c.rules 0 ≤ 16384 := size_of h0
  have hHe := heads_sum (((List.range c.rules.length).map (outM c rs fs)).map sortedI) (by rw [hLn]; omega) (fun l hl => by
    rw [hLn]
    obtain ⟨r, hr, rfl⟩ := hmem l hl
    exact fun x hx => hin r hr x (sorted_mem hx)) (fun l hl => by
    obtain ⟨r, hr, rfl⟩ := hmem l hl
    have := sorted_len (outM c rs fs r)
    have := hlen r hr
    have := hbody r hr
    omega) (by
    have := sum_size (((List.range c.rules.length).map (outM c rs fs)).map sortedI) c.rules 0 hLn (fun k hk => by
      rw [hLn] at hk
      rw [hat k hk]
      exact Nat.le_trans (sorted_len _) (hlen k hk))
    omega)
  refine ⟨infoM c (psM c) rs fs, _, ⟨heads_c c _ _ h23 hHe, fun r hr => body14_c c hc h0 (psM c) rs fs hso r (by omega) (by omega), fun r k hr hk h6 => ?_, hnr, fun r r0 r1 => ?_⟩, ?_⟩
  · rw [infoM_len]
    exact ⟨hf.star r k hr hk h6, by omega⟩
  · have hm := at'_memI r0 r1
    exact ⟨rightL_pos (hR.right _ hm), hR.size _ hm⟩
  · rw [hHe.len, hLn]
theorem runIn_of {c : Core} {I : Int → List Info} {hs : List Bool} (h : RunF c I hs) (hl : hs.length = c.rules.length) (h0 : checkI c = 0) {input : ByteArray} (D S : Int) (hin : input.size ≤ 65536) (hb : ∀ r k, r < c.rules.length → ¬BadStar c I r k) : RunIn c I hs input D S where
  heads := h.heads
  facts := h.facts
  star := fun r k hr hk h6 => by
    obtain ⟨g1, g2⟩ := h.star r k hr hk h6
    refine ⟨g1, g2, ?_⟩
    cases hq : (at' (I r) ((k : Int) - 1)).may.f1 with
    | false => rfl
    | true => exact absurd ⟨hk, h6, hq⟩ (hb r k hr)
  wf := wf_right (right_of h0) hl input D S hin
  start := (right_of h0).start
/-- Every way that Run goes. -/
theorem run_all {c : Core} (hc : CoreIn c) (hcl : ∀ r k : Nat, okC' (at' (at' c.rules (r : Int)).body (k : Int)).cl) (input : ByteArray) :
    (∃ code : Int, code ≠ 0 ∧ ∀ D S : Int, ACalls Try.prog 7 [coreV c, strA input, .agg [.p (lI D), .p (lI S)]] [] (fun q _ => q = .ret (.tup [zeroOV, usedV 0 0, i64 code]))) ∨
    (checkI c = 0 ∧ ∃ (hs : List Bool), hs.length = c.rules.length ∧ input.size ≤ 65536 ∧
      (∀ D S : Int, ∀ o s', evalD (envM c hs input D S) (clampI D 32768).toNat c.start (lastOf (envM c hs input D S) c.start) 0 ⟨0, 0, []⟩ = .ok o s' → ACalls Try.prog 7 [coreV c, strA input, .agg [.p (lI D), .p (lI S)]] [] (fun q _ => q = .ret (.tup [outV o, usedV s'.ud s'.us, i64 0]))) ∧
      (∀ D S : Int, ∀ code s', evalD (envM c hs input D S) (clampI D 32768).toNat c.start (lastOf (envM c hs input D S) c.start) 0 ⟨0, 0, []⟩ = .stop code s' → ACalls Try.prog 7 [coreV c, strA input, .agg [.p (lI D), .p (lI S)]] [] (fun q _ => q = .ret (.tup [zeroOV, usedV 0 0, i64 code])))) := by
  by_cases h0 : checkI c = 0
  · obtain ⟨I, hs, hF, hl⟩ := runF_right hc h0 hcl
    by_cases hb : ∃ r k, r < c.rules.length ∧ BadStar c I r k
    · exact .inl ⟨111, by decide, fun D S => run_star c I hs input D S hF hb⟩
    have hb : ∀ r k, r < c.rules.length → ¬BadStar c I r k := fun r k hr h => hb ⟨r, k, hr, h⟩
    by_cases hin : 65536 < input.size
    · exact .inl ⟨1, by decide, fun D S => run_long c I hs input D S hF hb hin⟩
    refine .inr ⟨h0, hs, hl, by omega, fun D S o s' he => ?_, fun D S code s' he => ?_⟩
    · by_cases hD : 1 ≤ clampI D 32768
      · exact run_c c I hs input D S (runIn_of hF hl h0 D S (by omega) hb) hD o s' he
      · have : (clampI D 32768).toNat = 0 := by omega
        rw [this] at he
        cases he
    · exact run_p c I hs input D S (runIn_of hF hl h0 D S (by omega) hb) code s' he
  · exact .inl ⟨6, by decide, fun D S => run_bad c input D S (heads_bad c hc h0)⟩
end Go.AL
set_option linter.unusedVariables false
set_option linter.unusedSimpArgs false
namespace Go.AL
open Go.Proofs
/-! ### A name's bytes -/
theorem ba_at (s : ByteArray) (i : Nat) : s[i]? = s.data.toList[i]? := by
  by_cases h : i < s.size
  · rw [getElem?_pos s i h, List.getElem?_eq_getElem (by simpa using h)]
    rfl
  · rw [getElem?_neg s i h, List.getElem?_eq_none (by simpa using h)]
def asc (s : ByteArray) (a b : Nat) : Prop := ∀ j, a ≤ j → j < b → (atB s j).toNat < 128
theorem letter_lt {b : UInt8} (h : letterB b = true) : b.toNat < 128 := by
  have := of_decide_eq_true (show decide _ = true from h)
  omega
theorem digit_lt {b : UInt8} (h : digitB b = true) : b.toNat < 128 := by
  have := of_decide_eq_true (show decide _ = true from h)
  omega
theorem own_asc (s : ByteArray) (p : Nat) : ∀ f i, asc s (p + i) (p + ownN s p f i)
  | 0, i => fun j h1 h2 => by simp only [ownN] at h2; omega
  | f + 1, i => fun j h1 h2 => by
    simp only [ownN] at h2
    split at h2
    · rename_i h
      by_cases hj : j = p + i
      · subst hj
        rcases h.2 with h | h
        · exact letter_lt h
        · exact digit_lt h.2
      · exact own_asc s p f (i + 1) j (by omega) h2
    · omega
theorem digs_asc (s : ByteArray) : ∀ f i, asc s i (digs s f i)
  | 0, i => fun j h1 h2 => by simp only [digs] at h2; omega
  | f + 1, i => fun j h1 h2 => by
    simp only [digs] at h2
    split at h2
    · rename_i h
      by_cases hj : j = i
      · subst hj; exact digit_lt h.2
      · exact digs_asc s f (i + 1) j (by omega) h2
    · omega
theorem num_asc (s : ByteArray) : asc s 0 (numB s) := by
  intro j h1 h2
  unfold numB at h2
  split at h2
  · omega
  · rename_i h
    split at h2
    · omega
    · by_cases hj : j = 0
      · subst hj
        have : ¬ (atB s 0).toNat ≠ 126 := fun q => h (.inr q)
        omega
      · exact digs_asc s s.size 1 j (by omega) h2
theorem extract_at {s : ByteArray} {a b j : Nat} (h : a + j < b) (hb : b ≤ s.size) : atB (s.extract a b) j = atB s (a + j) := by
  unfold atB
  rw [ba_at, ba_at]
  congr 1
  have hs : b ≤ s.data.size := hb
  simp only [ByteArray.data_extract, Array.toList_extract, List.extract]
  rw [List.getElem?_take_of_lt (by omega), List.getElem?_drop]
theorem pre_asc {s : ByteArray} {k : Nat} (h : preB (s.extract k s.size) ⟨#[58, 58]⟩ = true) : (atB s k).toNat = 58 ∧ (atB s (k + 1)).toNat = 58 ∧ k + 2 ≤ s.size := by
  unfold preB at h
  obtain ⟨h1, h2⟩ := of_decide_eq_true h
  have e2 : (⟨#[58, 58]⟩ : ByteArray).size = 2 := rfl
  rw [e2] at h1 h2
  rw [ByteArray.size_extract] at h1
  have hk : k + 2 ≤ s.size := by omega
  have a0 : atB ((s.extract k s.size).extract 0 2) 0 = atB s k := by
    rw [extract_at (by omega) (by rw [ByteArray.size_extract]; omega), extract_at (by omega) (Nat.le_refl _)]
    rfl
  have a1 : atB ((s.extract k s.size).extract 0 2) 1 = atB s (k + 1) := by
    rw [extract_at (by omega) (by rw [ByteArray.size_extract]; omega), extract_at (by omega) (Nat.le_refl _)]
  rw [h2] at a0 a1
  rw [← a0, ← a1]
  exact ⟨rfl, rfl, hk⟩
theorem num_asc' (s : ByteArray) (k : Nat) (hk : k ≤ s.size) : asc s k (k + numB (s.extract k s.size)) := by
  intro j h1 h2
  have hn : numB (s.extract k s.size) ≤ (s.extract k s.size).size := by
    unfold numB
    split
    · omega
    · rename_i h
      split
      · omega
      · have hp : 0 < (s.extract k s.size).size := by
          rcases Nat.eq_zero_or_pos (s.extract k s.size).size with h0 | h0
          · exact absurd (.inl (ByteArray.size_eq_zero_iff.1 h0)) h
          · exact h0
        exact (digs_le _ _ 1 hp).2
  rw [ByteArray.size_extract] at hn
  have := num_asc (s.extract k s.size) (j - k) (by omega) (by omega)
  rw [extract_at (by omega) (Nat.le_refl _), show k + (j - k) = j by omega] at this
  exact this
theorem named_asc (s : ByteArray) : asc s 0 (namedB s 0) := by
  have ho := ownB_le (s := s) (p := 0) (by omega)
  have h1 : asc s 0 (ownB s 0) := by have := own_asc s 0 (s.size - 0 + 1) 0; simpa [ownB] using this
  unfold namedB
  split
  · intro j _ h2; omega
  · dsimp only
    split
    · rename_i hq
      obtain ⟨q1, q2, q3⟩ := pre_asc hq.1
      have h3 : asc s (ownB s 0 + 2) (ownB s 0 + (2 + ownB s (ownB s 0 + 2))) := by
        have := own_asc s (ownB s 0 + 2) (s.size - (ownB s 0 + 2) + 1) 0
        simp only [Nat.add_zero] at this
        intro j a b
        refine this j a ?_
        show j < ownB s 0 + 2 + ownB s (ownB s 0 + 2)
        omega
      have h4 := ownB_le (s := s) (p := ownB s 0 + 2) (by rw [Nat.zero_add] at q3; omega)
      have h5 := num_asc' s (ownB s 0 + (2 + ownB s (ownB s 0 + 2))) (by omega)
      intro j a b
      simp only [Nat.zero_add] at b q1 q2
      by_cases j1 : j < ownB s 0
      · exact h1 j a j1
      by_cases j2 : j = ownB s 0
      · subst j2; omega
      by_cases j3 : j = ownB s 0 + 1
      · subst j3; omega
      by_cases j4 : j < ownB s 0 + (2 + ownB s (ownB s 0 + 2))
      · exact h3 j (by omega) j4
      · exact h5 j (by omega) b
    · have h5 := num_asc' s (ownB s 0) (by omega)
      intro j a b
      simp only [Nat.zero_add] at b
      by_cases j1 : j < ownB s 0
      · exact h1 j a j1
      · exact h5 j (by omega) b
theorem name_ascii {s : ByteArray} (h : nameOk s = true) : Ascii s := by
  unfold nameOk at h
  obtain ⟨_, _, h3⟩ := of_decide_eq_true h
  intro j b hj
  have hlt : j < s.size := by
    rcases Nat.lt_or_ge j s.size with h | h
    · exact h
    · rw [List.getElem?_eq_none (by simpa using h)] at hj; cases hj
  have := named_asc s j (by omega) (by omega)
  unfold atB at this
  rw [ba_at, hj] at this
  exact this
end Go.AL
set_option linter.unusedVariables false
namespace Go.AL
open Go.Proofs
set_option maxRecDepth 10000
attribute [local irreducible] AWp AList RStep seqQ blockQ retQ DSteps DT DU DM DZ awR rQ SStep letterB digitB preB nameOk anyB rightL checkI
theorem eqt29 (d : Nat) : EqT Try.prog (d + 2) 29 [.int .i64, .int .i64] := eqT_struct' inferInstance Try.underlying29 (by kernel_rfl) (.cons (k1 := [_]) rfl (by decide) (eqt3 _) (.cons (k1 := [_]) (k2 := []) rfl (by decide) (eqt3 _) .nil))
instance : TEq Try.prog 29 [.int .i64, .int .i64] := ⟨eqt29 9998, inferInstance, by kernel_rfl⟩
theorem size19_c (c : Core) (h : sizeI c ≤ 4000000000000000000) (hl : c.rules.length ≤ 4096) : ACalls Try.prog 19 [coreV c] [] (fun r _ => r = .ret (i64 (sizeI c))) := by
  refine acalls_by Try.func19 Try.ntmps19 ?_
  simp only [argFr]
  repeat' (first
    | (show lBox; refine k_box ?_)
    | (show lOp; refine op0 (by (show kAssign; exact b_assign)) ?_)
    | (show lNil; refine al_nil ?_)
    | (show qSeq; refine n_seq ?_)
    | (show cReg; refine aw_reg ?_)
    | (show cSeq; refine aw_seq ?_)
    | (show cBlk; refine aw_block ?_))
  refine aw_roundsP (ι := Nat × Int) 1 (fun _ => [.cells [.p (rulesP c.rules), .p (lI c.start)]]) (fun i n => [(1, .c (.ptr 0 0)), (3, i64 i.2), (4, i64 (i.1 : Int))]) (fun _ _ => []) (fun i => i.1 ≤ c.rules.length ∧ 0 ≤ i.2 ∧ sizeL (c.rules.drop i.1) i.2 = sizeI c) (fun i => c.rules.length - i.1) (0, 0) 1 (fun _ => rfl) ⟨by simp, by simp, by simp⟩ (by omega) (by simp) rfl rfl (by simp [Fr.get]) ?_
  rintro ⟨i, n⟩ q g ⟨h1, h2, h3⟩ hg
  dsimp only at h1 h2 h3 ⊢
  have hg1 : 1 + g.length = q := by simp at hg; omega
  clear hg
  by_cases hi : i < c.rules.length
  · rw [drop_at c.rules i hi] at h3
    simp only [sizeL] at h3
    have hle := sizeL_le (c.rules.drop (i + 1)) (n + (at' c.rules (i : Int)).body.length)
    repeat' (first
      | (refine aw_T ?_ (hb := decide_eq_true (by omega)))
      | (show lOp; refine op0 (by first | (show kAssign; exact b_assign) | (show kMove; exact b_move) | (show kCall; exact m_lenSl) | (show kLoad; first | exact b_loadRp | exact b_loadPtr) | (show kFieldaddr; first | exact b_fieldRp | exact b_fieldPtr) | (show kIndexaddr; exact m_indexSl) | (show kBinopAdd; exact b_add) | (show kBinopLss; exact b_lss)) ?_)
      | (show lNil; refine al_nil ?_)
      | (show qSeq; refine n_seq ?_)
      | (show qBlk; refine n_block ?_)
      | (show cReg; refine aw_reg ?_)
      | (show cSeq; refine aw_seq ?_)
      | (show cBlk; refine aw_block ?_)
      | (show cSkip; refine aw_skip ?_))
    exact ⟨(i + 1, _), q, ⟨by dsimp only; omega, by dsimp only; omega, h3⟩, by omega, by simp; omega, rfl, dropGP (p := 1) (j := 0) hg1 rfl rfl, by simp [Fr.get], by dsimp only; omega⟩
  · have : i = c.rules.length := by omega
    subst this
    rw [List.drop_length] at h3
    simp only [sizeL] at h3
    repeat' (first
      | (refine aw_F ?_ (hb := decide_eq_false (by omega)))
      | (show lOp; refine op0 (by first | (show kAssign; exact b_assign) | (show kMove; exact b_move) | (show kCall; exact m_lenSl) | (show kLoad; exact b_loadPtr) | (show kFieldaddr; exact b_fieldPtr) | (show kBinopLss; exact b_lss)) ?_)
      | (show lNil; refine al_nil ?_)
      | (show qSeq; first | refine n_seq ?_ | refine x_seq ?_)
      | (show qBlk; refine x_eq ?_)
      | (show cReg; refine aw_reg ?_)
      | (show cSeq; refine aw_seq ?_)
      | (show cExit; refine aw_exit ?_)
      | (show cRet; refine aw_ret ?_)
      | (show eRet; refine ret1 Try.results19 ?_))
    rw [h3]
def heavyB (c : Core) : Bool := decide (c.rules.length > 4096 ∨ sizeI c > 1048576)
/-- What is told of a grammar that came in. -/
structure CoreBig (c : Core) : Prop where
  len : c.rules.length ≤ 140737488351232
  rules : ∀ r ∈ c.rules, r.name.size ≤ 140737488351232 ∧ r.body.length ≤ 140737488351232 ∧ ∀ n ∈ r.body, okC' n.cl ∧ n.name.size ≤ 140737488351232
theorem sizeL_big : ∀ (l : List Rule) (n : Int), (∀ r ∈ l, r.body.length ≤ 140737488351232) → sizeL l n ≤ n + l.length * 140737488351232
  | [], n, _ => by simp [sizeL]
  | r :: l, n, h => by
    have h1 := h r (List.mem_cons_self ..)
    have := sizeL_big l (n + r.body.length) (fun r hr => h r (List.mem_cons_of_mem _ hr))
    simp only [sizeL, List.length_cons]
    omega
theorem heavy_c (c : Core) (hc : CoreBig c) : ACalls Try.prog 9 [coreV c] [] (fun r _ => r = .ret (bl (heavyB c))) := by
  have hl := hc.len
  by_cases hq : c.rules.length > 4096
  · skip
    refine acalls_by Try.func9 Try.ntmps9 ?_
    simp only [argFr]
    repeat' (first
      | (show lBox; refine k_box ?_)
      | (show lOp; refine op0 (by first | (show kAssign; exact b_assign) | (show kMove; exact b_move) | (show kCall; exact m_lenSl) | (show kLoad; exact b_loadPtr) | (show kFieldaddr; exact b_fieldPtr) | (show kBinopGtr; exact b_gtr) | (show kPick; exact b_pickT)) ?_)
      | (show lGu; first | refine al_yes ?_ | refine al_none ?_ | refine al_splitD (fun h => ?_) (fun h => ?_))
      | (show lNil; refine al_nil ?_)
      | (show qSeq; refine n_seq ?_)
      | (show cReg; refine aw_reg ?_)
      | (show cSeq; refine aw_seq ?_)
      | (show cRet; refine aw_ret ?_)
      | (show eRet; refine ret1 Try.results9 ?_)
      | (exfalso; omega))
    all_goals (refine congrArg (fun q => CE.ret (bl q)) ?_; simp only [heavyB]; first | exact (decide_eq_true (by omega)).symm | exact (decide_eq_false (by omega)).symm)
  · have hs := sizeL_big c.rules 0 (fun r hr => (hc.rules r hr).2.1)
    have hs : sizeI c ≤ 4000000000000000000 := by show sizeL c.rules 0 ≤ _; omega
    refine acalls_by Try.func9 Try.ntmps9 ?_
    simp only [argFr]
    repeat' (first
      | (show lBox; refine k_box ?_)
      | (show lOp; refine op0 (by first | (show kAssign; exact b_assign) | (show kMove; exact b_move) | (show kCall; first | exact b_call ((size19_c c hs (by omega))) | exact m_lenSl) | (show kLoad; exact b_loadPtr) | (show kFieldaddr; exact b_fieldPtr) | (show kBinopGtr; exact b_gtr) | (show kPick; first | exact b_pickT | exact b_pickF)) ?_)
      | (show lGu; first | refine al_yes ?_ | refine al_none ?_ | refine al_splitD (fun h => ?_) (fun h => ?_))
      | (show lNil; refine al_nil ?_)
      | (show qSeq; refine n_seq ?_)
      | (show cReg; refine aw_reg ?_)
      | (show cSeq; refine aw_seq ?_)
      | (show cRet; refine aw_ret ?_)
      | (show eRet; refine ret1 Try.results9 ?_)
      | (exfalso; omega))
    all_goals (refine congrArg (fun q => CE.ret (bl q)) ?_; simp only [heavyB]; first | exact (decide_eq_true (by omega)).symm | exact (decide_eq_false (by omega)).symm | exact decide_eq_decide.2 (by constructor <;> intro _ <;> omega))
theorem CoreBig.light {c : Core} (hc : CoreBig c) (h : heavyB c = false) : CoreIn c := by
  have h := of_decide_eq_false h
  refine ⟨by omega, by omega, fun r hr => ?_⟩
  obtain ⟨h1, h2, h3⟩ := hc.rules r hr
  exact ⟨by omega, fun n hn => ⟨by have := (h3 n hn).2; omega, name_ascii⟩⟩
theorem CoreBig.cls {c : Core} (hc : CoreBig c) (r k : Nat) : okC' (at' (at' c.rules (r : Int)).body (k : Int)).cl := by
  have hd : okC' (default : Node).cl := okC0
  have hdr : (default : Rule).body = [] := rfl
  by_cases hr : r < c.rules.length
  · have hm := at'_memI (l := c.rules) (x := (r : Int)) (by omega) (by omega)
    by_cases hk : k < (at' c.rules (r : Int)).body.length
    · exact ((hc.rules _ hm).2.2 _ (at'_memI (l := (at' c.rules (r : Int)).body) (x := (k : Int)) (by omega) (by omega))).1
    · rw [at'_out hk]; exact hd
  · rw [at'_out hr, hdr, at'_out (by simp)]; exact hd
theorem matched_code {fin : Int} {f : List Cap} {s s' : MS} {c : Int} (h : matchedR fin f s = .stop c s') : c ≠ 0 := by
  unfold matchedR at h
  split at h
  · injection h with h1 h2; omega
  · cases h
theorem starG_code {ev : Int → MS → Res} (hev : ∀ a s c s', ev a s = .stop c s' → c ≠ 0) : ∀ (n : Nat) (a : Int) (f : List Cap) (s s' : MS) (c : Int), starG ev n a f s = .stop c s' → c ≠ 0
  | 0, a, f, s, s', c, h => by injection h with h1 h2; omega
  | n + 1, a, f, s, s', c, h => by
    simp only [starG] at h
    cases he : ev a s with
    | stop c2 s2 => rw [he] at h; injection h with h1 h2; subst h1; exact hev _ _ _ _ he
    | ok o s2 =>
      rw [he] at h
      simp only [matchedR] at h
      repeat' split at h
      all_goals first | cases h; done | (injection h with h1 h2; omega) | exact starG_code hev n _ _ _ _ _ h
theorem growG_code {ev : MS → Res} (hev : ∀ s c s', ev s = .stop c s' → c ≠ 0) (k : Int × Int) : ∀ (n : Nat) (s s' : MS) (c : Int), growG ev k n s = .stop c s' → c ≠ 0
  | 0, s, s', c, h => by injection h with h1 h2; omega
  | n + 1, s, s', c, h => by
    simp only [growG] at h
    cases he : ev s with
    | stop c2 s2 => rw [he] at h; injection h with h1 h2; subst h1; exact hev _ _ _ he
    | ok o s2 =>
      rw [he] at h
      simp only at h
      repeat' split at h
      all_goals first | cases h; done | exact growG_code hev k n _ _ _ h
theorem stepG_code (e : Env) {ev : Int → Int → Int → MS → Res} (hev : ∀ r n a s c s', ev r n a s = .stop c s' → c ≠ 0) (rule : Int) (n : Node) (p : Int × Int) (a : Int) (s s' : MS) (c : Int) (h : stepG e ev rule n p a s = .stop c s') : c ≠ 0 := by
  unfold stepG at h
  repeat' split at h
  all_goals first
    | cases h; done
    | exact matched_code h
    | (injection h with h1 h2; omega)
    | (injection h with h1 h2; subst h1; exact hev _ _ _ _ _ _ (by assumption))
    | exact hev _ _ _ _ _ _ h
    | exact growG_code (fun s c s' h => hev _ _ _ _ _ _ h) _ _ _ _ _ h
    | exact starG_code (fun a s c s' h => hev _ _ _ _ _ _ h) _ _ _ _ _ _ h
theorem evalD_code (e : Env) : ∀ (d : Nat) (rule node a : Int) (s : MS) (c : Int) (s' : MS), evalD e d rule node a s = .stop c s' → c ≠ 0
  | 0, rule, node, a, s, c, s', h => by injection h with h1 h2; omega
  | d + 1, rule, node, a, s, c, s', h => by
    rw [evalD] at h
    split at h
    · injection h with h1 h2; omega
    · exact stepG_code e (evalD_code e d) _ _ _ _ _ _ _ h
end Go.AL
set_option linter.unusedVariables false
set_option linter.unusedSimpArgs false
namespace Go.AL
/-! ### Forests -/
/-- n trees, between two places, one behind the other. -/
inductive Fo (N : ByteArray → Prop) : Nat → Int → Int → List Cap → Prop
  | nil {lo hi : Int} (h : lo ≤ hi) : Fo N 0 lo hi []
  | cons {k n : Nat} {lo hi : Int} {c : Cap} {ks rest : List Cap} (hk : c.kids = (k : Int)) (hn : N c.name) (h0 : lo ≤ c.frm) (h1 : Fo N k c.frm c.til ks) (h2 : Fo N n c.til hi rest) : Fo N (n + 1) lo hi (c :: (ks ++ rest))
theorem Fo.le {N : ByteArray → Prop} {n : Nat} {lo hi : Int} {f : List Cap} (h : Fo N n lo hi f) : lo ≤ hi := by
  induction h with
  | nil h => exact h
  | cons hk hn h0 h1 h2 i1 i2 => omega
theorem Fo.lo {N : ByteArray → Prop} {n : Nat} {lo lo' hi : Int} {f : List Cap} (h : Fo N n lo hi f) (hl : lo' ≤ lo) : Fo N n lo' hi f := by
  cases h with
  | nil h => exact .nil (by omega)
  | cons hk hn h0 h1 h2 => exact .cons hk hn (by omega) h1 h2
theorem Fo.append {N : ByteArray → Prop} {n m : Nat} {lo mid hi : Int} {f g : List Cap} (h : Fo N n lo mid f) (hg : Fo N m mid hi g) : Fo N (n + m) lo hi (f ++ g) := by
  induction h with
  | nil h => simpa using hg.lo h
  | @cons k n lo hi' c ks rest hk hn h0 h1 h2 i1 i2 =>
    have := Fo.cons hk hn h0 h1 (i2 hg)
    rw [show n + 1 + m = n + m + 1 by omega]
    simpa using this
theorem Fo.trees_in {N : ByteArray → Prop} {k : Nat} {lo hi : Int} {f : List Cap} (h : Fo N k lo hi f) : ∀ (g : List Cap) (n m : Int), 0 ≤ m → trees (f ++ g) n ((k : Int) + m) = trees g n m := by
  induction h with
  | nil h => intro g n m hm; simp
  | @cons k n lo hi c ks rest hk hn h0 h1 h2 i1 i2 =>
    intro g x m hm
    have e : c :: (ks ++ rest) ++ g = c :: (ks ++ (rest ++ g)) := by simp
    rw [e, trees, if_neg (by omega), hk, show ((n + 1 : Nat) : Int) + m + ((k : Int) - 1) = (k : Int) + ((n : Int) + m) by omega, i1 _ _ _ (by omega), i2 _ _ _ hm]
theorem Fo.trees_on {N : ByteArray → Prop} {k : Nat} {lo hi : Int} {f : List Cap} (h : Fo N k lo hi f) : ∀ (g : List Cap) (n : Int), trees (f ++ g) n 0 = trees g (n + k) 0 := by
  induction h with
  | nil h => intro g n; simp
  | @cons k n lo hi c ks rest hk hn h0 h1 h2 i1 i2 =>
    intro g x
    have e : c :: (ks ++ rest) ++ g = c :: (ks ++ (rest ++ g)) := by simp
    have := h1.trees_in (rest ++ g) (x + 1) 0 (Int.le_refl _)
    rw [e, trees, if_pos rfl, hk, show (1 : Int) + ((k : Int) - 1) = (k : Int) + 0 by omega, this, i2]
    congr 1
    omega
theorem Fo.trees_eq {N : ByteArray → Prop} {k : Nat} {lo hi : Int} {f : List Cap} (h : Fo N k lo hi f) : trees f 0 0 = k := by
  have := h.trees_on [] 0
  rw [List.append_nil] at this
  rw [this, trees]
  omega
/-! ### What an evaluation gives -/
structure Good (N : ByteArray → Prop) (a : Int) (o : Out) : Prop where
  kind : o.kind = 0 ∨ o.kind = 1 ∨ o.kind = 2
  k0 : o.kind = 0 → o.fin = 0 ∧ o.label = ⟨#[]⟩ ∧ o.forest = []
  k1 : o.kind = 1 → o.label = ⟨#[]⟩ ∧ ∃ n, Fo N n a o.fin o.forest
  k2 : o.kind = 2 → o.label ≠ ⟨#[]⟩ ∧ o.forest = []
def SG (N : ByteArray → Prop) (s : MS) : Prop := ∀ p ∈ s.seeds, Good N p.1.2 p.2
theorem good_zero (N : ByteArray → Prop) (a : Int) : Good N a zeroO := ⟨.inl rfl, fun _ => ⟨rfl, rfl, rfl⟩, fun h => (by cases h), fun h => (by cases h)⟩
theorem good_match {N : ByteArray → Prop} {a fin : Int} {f : List Cap} {s s' : MS} {o : Out} (h : matchedR fin f s = .ok o s') {n : Nat} (hf : Fo N n a fin f) : Good N a o ∧ s' = s := by
  unfold matchedR at h
  split at h
  · cases h
  · injection h with h1 h2
    subst h1
    exact ⟨⟨.inr (.inl rfl), fun h => (by cases h), fun _ => ⟨rfl, n, hf⟩, fun h => (by cases h)⟩, h2.symm⟩
theorem Good.not1 {N : ByteArray → Prop} {a b : Int} {o : Out} (h : Good N a o) (h1 : o.kind ≠ 1) : Good N b o := ⟨h.kind, h.k0, fun q => absurd q h1, h.k2⟩
theorem Good.up {N : ByteArray → Prop} {a b : Int} {o : Out} (h : Good N b o) (hab : a ≤ b) : Good N a o := ⟨h.kind, h.k0, fun q => ⟨(h.k1 q).1, by obtain ⟨n, hn⟩ := (h.k1 q).2; exact ⟨n, hn.lo hab⟩⟩, h.k2⟩
theorem seedOf_in {k : Int × Int} : ∀ {l : List ((Int × Int) × Out)} {o : Out}, seedOf k l = some o → (k, o) ∈ l
  | (a, v) :: r, o, h => by
    simp only [seedOf] at h
    split at h
    · rename_i e; subst e; injection h with h; subst h; exact List.mem_cons_self ..
    · exact List.mem_cons_of_mem _ (seedOf_in h)
theorem SG.seed {N : ByteArray → Prop} {s : MS} (h : SG N s) (k : Int × Int) : Good N k.2 ((seedOf k s.seeds).getD zeroO) := by
  cases hs : seedOf k s.seeds with
  | none => exact good_zero ..
  | some o => exact h _ (seedOf_in hs)
theorem SG.set {N : ByteArray → Prop} {s : MS} (h : SG N s) (k : Int × Int) {o : Out} (ho : Good N k.2 o) : SG N { s with seeds := setS k o s.seeds } := by
  intro p hp
  simp only [setS] at hp
  split at hp
  · rcases List.mem_append.1 hp with hp | hp
    · exact h p hp
    · simp at hp; subst hp; exact ho
  · rcases List.mem_or_eq_of_mem_set hp with hp | rfl
    · exact h p hp
    · exact ho
theorem SG.del {N : ByteArray → Prop} {s : MS} (h : SG N s) (k : Int × Int) : SG N { s with seeds := delS k s.seeds } := by
  intro p hp
  simp only [delS] at hp
  split at hp
  · exact h p hp
  · exact h p (List.mem_of_mem_eraseIdx hp)
def EvGood (N : ByteArray → Prop) (a : Int) (ev : MS → Res) : Prop := ∀ s o s', SG N s → ev s = .ok o s' → Good N a o ∧ SG N s'
theorem starG_good {N : ByteArray → Prop} {ev : Int → MS → Res} (hev : ∀ a : Int, EvGood N a (ev a)) (z : Int) : ∀ (n : Nat) (a : Int) (f : List Cap) (k : Nat), Fo N k z a f → EvGood N z (starG ev n a f)
  | 0, a, f, k, hf => fun s o s' hs h => by cases h
  | n + 1, a, f, k, hf => fun s o s' hs h => by
    simp only [starG] at h
    cases he : ev a s with
    | stop c s1 => rw [he] at h; cases h
    | ok o1 s1 =>
      rw [he] at h
      simp only at h
      obtain ⟨g1, g2⟩ := hev a s o1 s1 hs he
      split at h
      · obtain ⟨j1, rfl⟩ := good_match h hf
        exact ⟨j1, g2⟩
      · rename_i h0
        split at h
        · rename_i h2
          injection h with q1 q2; subst q1; subst q2
          exact ⟨g1.not1 (by omega), g2⟩
        · rename_i h2
          split at h
          · cases h
          · have h1 : o1.kind = 1 := by rcases g1.kind with h | h | h <;> first | exact h | contradiction
            obtain ⟨m, hm⟩ := (g1.k1 h1).2
            exact starG_good hev z n o1.fin _ (k + m) (hf.append hm) s1 o s' g2 h
theorem growG_good {N : ByteArray → Prop} {ev : MS → Res} {k : Int × Int} (hev : EvGood N k.2 ev) : ∀ (n : Nat), EvGood N k.2 (growG ev k n)
  | 0 => fun s o s' hs h => by cases h
  | n + 1 => fun s o s' hs h => by
    simp only [growG] at h
    cases he : ev s with
    | stop c s1 => rw [he] at h; cases h
    | ok o1 s1 =>
      rw [he] at h
      simp only at h
      obtain ⟨g1, g2⟩ := hev s o1 s1 hs he
      split at h
      · exact growG_good hev n _ o s' (g2.set k g1) h
      · split at h
        · injection h with q1 q2; subst q1; subst q2; exact ⟨g1, g2.del k⟩
        · injection h with q1 q2; subst q1; subst q2; exact ⟨g2.seed k, g2.del k⟩
theorem stepG_good {N : ByteArray → Prop} (e : Env) {ev : Int → Int → Int → MS → Res} (ih : ∀ r n a : Int, EvGood N a (ev r n a)) (rule : Int) (n : Node) (hn3 : n.op = 3 → n.name ≠ ⟨#[]⟩) (hn8 : n.op = 8 → N n.name) (p : Int × Int) (a : Int) : EvGood N a (stepG e ev rule n p a) := by
  intro s o s' hs h
  have emp : Fo N 0 a a [] := .nil (Int.le_refl _)
  unfold stepG at h
  by_cases h1 : n.op = 1
  · rw [if_pos h1] at h
    split at h
    · split at h
      · split at h
        · obtain ⟨j1, rfl⟩ := good_match (N := N) (a := a) h (.nil (by omega))
          exact ⟨j1, hs⟩
        · injection h with q1 q2; subst q1; subst q2; exact ⟨good_zero .., hs⟩
      · injection h with q1 q2; subst q1; subst q2; exact ⟨good_zero .., hs⟩
    · injection h with q1 q2; subst q1; subst q2; exact ⟨good_zero .., hs⟩
  rw [if_neg h1] at h
  by_cases h3 : n.op = 3
  · rw [if_pos h3] at h
    injection h with q1 q2; subst q1; subst q2
    exact ⟨⟨.inr (.inr rfl), fun h => (by cases h), fun h => (by cases h), fun _ => ⟨hn3 h3, rfl⟩⟩, hs⟩
  rw [if_neg h3] at h
  by_cases h2 : n.op = 2
  · rw [if_pos h2] at h
    split at h
    · cases hq : seedOf (n.rule, a) s.seeds with
      | some q =>
        rw [hq] at h
        injection h with q1 q2; subst q1; subst q2
        exact ⟨hs _ (seedOf_in hq), hs⟩
      | none =>
        rw [hq] at h
        exact growG_good (k := (n.rule, a)) (ih _ _ _) _ _ _ _ (hs.set _ (good_zero ..)) h
    · exact ih _ _ _ _ _ _ hs h
  rw [if_neg h2] at h
  by_cases h4 : n.op = 4
  · rw [if_pos h4] at h
    cases he : ev rule p.1 a s with
    | stop c s1 => rw [he] at h; cases h
    | ok o1 s1 =>
      rw [he] at h
      dsimp only at h
      obtain ⟨g1, g2⟩ := ih _ _ _ _ _ _ hs he
      split at h
      · injection h with q1 q2; subst q1; subst q2; exact ⟨g1, g2⟩
      · rename_i hk
        have hk : o1.kind = 1 := by omega
        obtain ⟨m, hm⟩ := (g1.k1 hk).2
        cases he2 : ev rule p.2 o1.fin s1 with
        | stop c s2 => rw [he2] at h; cases h
        | ok o2 s2 =>
          rw [he2] at h
          dsimp only at h
          obtain ⟨j1, j2⟩ := ih _ _ _ _ _ _ g2 he2
          split at h
          · injection h with q1 q2; subst q1; subst q2; exact ⟨j1.up hm.le, j2⟩
          · rename_i hk2
            have hk2 : o2.kind = 1 := by omega
            obtain ⟨m2, hm2⟩ := (j1.k1 hk2).2
            split at h
            · cases h
            · obtain ⟨r1, rfl⟩ := good_match h (hm.append hm2)
              exact ⟨r1, j2⟩
  rw [if_neg h4] at h
  by_cases h5 : n.op = 5
  · rw [if_pos h5] at h
    cases he : ev rule p.1 a s with
    | stop c s1 => rw [he] at h; cases h
    | ok o1 s1 =>
      rw [he] at h
      dsimp only at h
      obtain ⟨g1, g2⟩ := ih _ _ _ _ _ _ hs he
      split at h
      · injection h with q1 q2; subst q1; subst q2; exact ⟨g1, g2⟩
      · exact ih _ _ _ _ _ _ g2 h
  rw [if_neg h5] at h
  by_cases h6 : n.op = 6
  · rw [if_pos h6] at h
    exact starG_good (fun b => ih rule p.1 b) a _ a [] 0 emp _ _ _ hs h
  rw [if_neg h6] at h
  by_cases h7 : n.op = 7
  · rw [if_pos h7] at h
    cases he : ev rule p.1 a s with
    | stop c s1 => rw [he] at h; cases h
    | ok o1 s1 =>
      rw [he] at h
      dsimp only at h
      obtain ⟨g1, g2⟩ := ih _ _ _ _ _ _ hs he
      split at h
      · injection h with q1 q2; subst q1; subst q2; exact ⟨good_zero .., g2⟩
      · obtain ⟨r1, rfl⟩ := good_match (N := N) h emp
        exact ⟨r1, g2⟩
  rw [if_neg h7] at h
  by_cases h8 : n.op = 8
  · rw [if_pos h8] at h
    cases he : ev rule p.1 a s with
    | stop c s1 => rw [he] at h; cases h
    | ok o1 s1 =>
      rw [he] at h
      dsimp only at h
      obtain ⟨g1, g2⟩ := ih _ _ _ _ _ _ hs he
      split at h
      · injection h with q1 q2; subst q1; subst q2; exact ⟨g1, g2⟩
      · rename_i hk
        have hk : o1.kind = 1 := by omega
        obtain ⟨m, hm⟩ := (g1.k1 hk).2
        split at h
        · cases h
        · have hc : Fo N 1 a o1.fin (⟨n.name, a, o1.fin, trees o1.forest 0 0⟩ :: (o1.forest ++ [])) := .cons (c := ⟨n.name, a, o1.fin, trees o1.forest 0 0⟩) (k := m) (n := 0) hm.trees_eq (hn8 h8) (Int.le_refl _) hm (.nil (Int.le_refl _))
          rw [List.append_nil] at hc
          obtain ⟨r1, rfl⟩ := good_match h hc
          exact ⟨r1, g2⟩
  rw [if_neg h8] at h
  obtain ⟨r1, rfl⟩ := good_match (N := N) h emp
  exact ⟨r1, hs⟩
theorem evalD_good {N : ByteArray → Prop} (e : Env) (hn : ∀ r n : Int, ((at' (bodyOf e r) n).op = 3 → (at' (bodyOf e r) n).name ≠ ⟨#[]⟩) ∧ ((at' (bodyOf e r) n).op = 8 → N (at' (bodyOf e r) n).name)) : ∀ (d : Nat) (rule node a : Int), EvGood N a (evalD e d rule node a)
  | 0, rule, node, a => fun s o s' _ h => by cases h
  | d + 1, rule, node, a => fun s o s' hs h => by
    rw [evalD] at h
    split at h
    · cases h
    · exact stepG_good e (evalD_good e hn d) rule _ (hn rule node).1 (hn rule node).2 _ a (begun e d s) o s' hs h
end Go.AL
set_option linter.unusedVariables false
set_option linter.unusedSimpArgs false
namespace Go.AL
/-! ### A forest gone through node by node -/
/-- The nodes that stand open, the innermost first: number and how many kids are missing. -/
def popS : List (Int × Int) → List (Int × Int)
  | [] => []
  | (j, r) :: t => if r = 0 then popS t else (j, r) :: t
def decS : List (Int × Int) → List (Int × Int)
  | [] => []
  | (j, r) :: t => (j, r - 1) :: t
def stF (f : List Cap) : Nat → List (Int × Int)
  | 0 => []
  | i + 1 => ((i : Int), (at' f (i : Int)).kids) :: decS (popS (stF f i))
def topS : List (Int × Int) → Int
  | [] => -1
  | (j, _) :: _ => j
def levelsM (f : List Cap) : List Int := (List.range f.length).map fun i => ((popS (stF f i)).length : Int)
def aboveM (f : List Cap) : List Int := (List.range f.length).map fun i => topS (popS (stF f i))
def endsM (f : List Cap) : Nat → List Int
  | 0 => List.replicate (f.length + 1) 0
  | i + 1 => (endsM f i).set (topS (popS (stF f i)) + 1).toNat (at' f (i : Int)).til
theorem levels_at (f : List Cap) {i : Nat} (h : i < f.length) : at' (levelsM f) (i : Int) = ((popS (stF f i)).length : Int) := by simp [levelsM, at', h]
theorem above_at (f : List Cap) {i : Nat} (h : i < f.length) : at' (aboveM f) (i : Int) = topS (popS (stF f i)) := by simp [aboveM, at', h]
theorem levels_len (f : List Cap) : (levelsM f).length = f.length := by simp [levelsM]
theorem above_len (f : List Cap) : (aboveM f).length = f.length := by simp [aboveM]
theorem last_len (f : List Cap) : ∀ i, (endsM f i).length = f.length + 1
  | 0 => by simp [endsM]
  | i + 1 => by simp [endsM, last_len f i]
theorem pop_le : ∀ st : List (Int × Int), (popS st).length ≤ st.length
  | [] => Nat.le_refl _
  | (j, r) :: t => by
    simp only [popS]
    split
    · have := pop_le t; simp only [List.length_cons]; omega
    · exact Nat.le_refl _
theorem pop_mem {q : Int × Int} : ∀ {st : List (Int × Int)}, q ∈ popS st → q ∈ st
  | [], h => h
  | (j, r) :: t, h => by
    simp only [popS] at h
    split at h
    · exact List.mem_cons_of_mem _ (pop_mem h)
    · exact h
theorem dec_len (st : List (Int × Int)) : (decS st).length = st.length := by
  cases st with
  | nil => rfl
  | cons a t => rfl
theorem st_len (f : List Cap) : ∀ i, (stF f i).length ≤ i
  | 0 => Nat.le_refl _
  | i + 1 => by
    have := st_len f i
    have := pop_le (stF f i)
    simp only [stF, List.length_cons, dec_len]
    omega
/-- What is left of a forest, by what stands open; of each open node the place behind its last kid. -/
def Sem (N : ByteArray → Prop) (f : List Cap) (hi : Int) : List (Int × Int) → List Int → Nat → List Cap → Prop
  | [], [c0], n, rest => 0 ≤ c0 ∧ Fo N n c0 hi rest
  | (j, r) :: t, cu :: cs, n, rest => (∃ (f1 f2 : List Cap) (k : Nat), r = (k : Int) ∧ rest = f1 ++ f2 ∧ Fo N k cu (at' f j).til f1 ∧ Sem N f hi t cs n f2) ∧ 0 ≤ j ∧ j < f.length ∧ (at' f j).frm ≤ cu ∧ 0 ≤ cu ∧ (at' f j).til ≤ hi ∧ ∀ q ∈ t, q.1 < j
  | _, _, _, _ => False
def LastOK (last : List Int) : List (Int × Int) → List Int → Prop
  | [], [c0] => at' last 0 ≤ c0
  | (j, _) :: t, cu :: cs => at' last (j + 1) ≤ cu ∧ LastOK last t cs
  | _, _ => False
theorem fo_nil {N : ByteArray → Prop} {k : Nat} {lo hi : Int} (h : Fo N k lo hi []) : k = 0 := by cases h; rfl
theorem fo_zero {N : ByteArray → Prop} {lo hi : Int} {f : List Cap} (h : Fo N 0 lo hi f) : f = [] := by cases h; rfl
theorem fo_one {N : ByteArray → Prop} {n : Nat} {lo hi : Int} {f : List Cap} (h : Fo N (n + 1) lo hi f) : ∃ (k : Nat) (c : Cap) (ks rest : List Cap), f = c :: (ks ++ rest) ∧ c.kids = (k : Int) ∧ N c.name ∧ lo ≤ c.frm ∧ Fo N k c.frm c.til ks ∧ Fo N n c.til hi rest := by
  cases h with
  | cons hk hn h0 h1 h2 => exact ⟨_, _, _, _, rfl, hk, hn, h0, h1, h2⟩
theorem sem_pop {N : ByteArray → Prop} {f : List Cap} {hi : Int} {last : List Int} {rest : List Cap} {n : Nat} : ∀ {st : List (Int × Int)} {cs : List Int}, Sem N f hi st cs n rest → LastOK last st cs → ∃ cs1, Sem N f hi (popS st) cs1 n rest ∧ LastOK last (popS st) cs1
  | [], cs, h, hl => ⟨cs, h, hl⟩
  | (j, r) :: t, [], h, _ => by cases h
  | (j, r) :: t, cu :: cs, h, hl => by
    simp only [popS]
    split
    · rename_i hr
      obtain ⟨⟨f1, f2, k, e, rfl, h1, h2⟩, _⟩ := h
      have hk : k = 0 := by omega
      subst hk
      rw [fo_zero h1, List.nil_append]
      exact sem_pop h2 hl.2
    · exact ⟨cu :: cs, h, hl⟩
theorem pop_head {st : List (Int × Int)} {j r : Int} {t : List (Int × Int)} (h : popS st = (j, r) :: t) : r ≠ 0 := by
  induction st with
  | nil => cases h
  | cons a st ih =>
    obtain ⟨b, q⟩ := a
    simp only [popS] at h
    split at h
    · exact ih h
    · rename_i hq; injection h with h1 h2; injection h1 with h3 h4; omega
theorem sem_end {N : ByteArray → Prop} {f : List Cap} {hi : Int} {n : Nat} : ∀ {st : List (Int × Int)} {cs : List Int}, Sem N f hi st cs n [] → ∀ q ∈ st, q.2 = 0
  | [], cs, h, q, hq => by cases hq
  | (j, r) :: t, [], h, q, hq => by cases h
  | (j, r) :: t, cu :: cs, h, q, hq => by
    obtain ⟨⟨f1, f2, k, e, hf, h1, h2⟩, _⟩ := h
    obtain ⟨rfl, rfl⟩ := List.append_eq_nil_iff.1 hf.symm
    have hk := fo_nil h1
    rcases List.mem_cons.1 hq with rfl | hq
    · show r = 0; omega
    · exact sem_end h2 q hq
theorem last_other {last : List Int} {p : Nat} {v : Int} : ∀ {st : List (Int × Int)} {cs : List Int}, LastOK last st cs → p ≠ 0 → (∀ q ∈ st, 0 ≤ q.1 ∧ q.1 + 1 ≠ (p : Int)) → LastOK (last.set p v) st cs
  | [], [c0], h, h0, _ => by
    show at' (last.set p v) ((0 : Nat) : Int) ≤ c0
    rw [at'_set_ne h0]; exact h
  | [], [], h, _, _ => by cases h
  | [], a :: b :: c, h, _, _ => by cases h
  | (j, r) :: t, [], h, _, _ => by cases h
  | (j, r) :: t, cu :: cs, h, h0, hq => by
    obtain ⟨g0, g1⟩ := hq _ (List.mem_cons_self ..)
    refine ⟨?_, last_other h.2 h0 fun q hq' => hq q (List.mem_cons_of_mem _ hq')⟩
    obtain ⟨m, rfl⟩ : ∃ m : Nat, j = (m : Int) := ⟨j.toNat, by omega⟩
    show at' (last.set p v) (((m + 1 : Nat)) : Int) ≤ cu
    rw [at'_set_ne (by intro e; exact g1 (by subst e; rfl))]
    exact h.1
theorem sem_all {N : ByteArray → Prop} {f : List Cap} {hi : Int} {n : Nat} : ∀ {st : List (Int × Int)} {cs : List Int} {rest : List Cap}, Sem N f hi st cs n rest → ∀ q ∈ st, 0 ≤ q.1 ∧ q.1 < f.length
  | [], cs, rest, h, q, hq => by cases hq
  | (j, r) :: t, [], rest, h, q, hq => by cases h
  | (j, r) :: t, cu :: cs, rest, h, q, hq => by
    obtain ⟨⟨f1, f2, k, e, hf, h1, h2⟩, g0, g1, _⟩ := h
    rcases List.mem_cons.1 hq with rfl | hq
    · exact ⟨g0, g1⟩
    · exact sem_all h2 q hq
/-- What is asked of a node, by what stands open. -/
structure NodeOK (N : ByteArray → Prop) (f : List Cap) (hi : Int) (last : List Int) (st : List (Int × Int)) (c : Cap) : Prop where
  name : N c.name
  frm : 0 ≤ c.frm
  til : c.frm ≤ c.til
  size : c.til ≤ hi
  kids : 0 ≤ c.kids
  last : at' last (topS st + 1) ≤ c.frm
  top : -1 ≤ topS st ∧ topS st < f.length
  inn : 0 ≤ topS st → (at' f (topS st)).frm ≤ c.frm ∧ c.til ≤ (at' f (topS st)).til
theorem sem_step {N : ByteArray → Prop} {f : List Cap} {hi : Int} {last : List Int} {st : List (Int × Int)} {cs : List Int} {n : Nat} {i : Nat} {rest : List Cap} (hi' : i < f.length) (hl : last.length = f.length + 1) (h : Sem N f hi st cs n (at' f (i : Int) :: rest)) (hL : LastOK last st cs) (hlt : ∀ q ∈ st, q.1 < (i : Int)) (hz : at' last ((i + 1 : Nat) : Int) = 0) :
    NodeOK N f hi last (popS st) (at' f (i : Int)) ∧ ∃ cs' n', Sem N f hi (((i : Int), (at' f (i : Int)).kids) :: decS (popS st)) cs' n' rest ∧ LastOK (last.set (topS (popS st) + 1).toNat (at' f (i : Int)).til) (((i : Int), (at' f (i : Int)).kids) :: decS (popS st)) cs' := by
  obtain ⟨cs1, h1, hL1⟩ := sem_pop h hL
  have hlt1 : ∀ q ∈ popS st, q.1 < (i : Int) := fun q hq => hlt q (pop_mem hq)
  have hall := sem_all h1
  cases hp : popS st with
  | nil =>
    rw [hp] at h1 hL1
    match cs1, h1, hL1 with
    | [c0], h1, hL1 =>
      obtain ⟨z0, h1⟩ := h1
      have hL1 : at' last 0 ≤ c0 := hL1
      cases n with
      | zero => have := fo_zero h1; cases this
      | succ n =>
        obtain ⟨k, c, ks, rest2, e, hk, hn, h0, g1, g2⟩ := fo_one h1
        injection e with e1 e2
        rw [← e1] at hk hn h0 g1 g2
        have l1 := g1.le
        have l2 := g2.le
        refine ⟨⟨hn, by omega, l1, l2, by omega, by show at' last (-1 + 1) ≤ _; have : at' last (-1 + 1) = at' last 0 := rfl; omega, ⟨Int.le_refl _, by show (-1 : Int) < _; omega⟩, fun q => absurd q (by show ¬ (0 : Int) ≤ -1; omega)⟩, [(at' f (i : Int)).frm, (at' f (i : Int)).til], n, ⟨⟨ks, rest2, k, hk, e2, g1, ⟨by omega, g2⟩⟩, by omega, by omega, Int.le_refl _, by omega, l2, fun q hq => by cases hq⟩, ?_, ?_⟩
        · show at' (last.set 0 _) (((i + 1 : Nat)) : Int) ≤ _
          rw [at'_set_ne (by omega)]
          rw [hz]; omega
        · show at' (last.set 0 _) ((0 : Nat) : Int) ≤ _
          rw [at'_set_self (by omega)]
          exact Int.le_refl _
  | cons a t =>
    obtain ⟨j, r⟩ := a
    have hr := pop_head hp
    rw [hp] at h1 hL1 hall
    match cs1, h1, hL1 with
    | cu :: cs2, h1, hL1 =>
      obtain ⟨⟨f1, f2, k, e, hf, g1, g2⟩, j0, j1, jf, jc, jt, jb⟩ := h1
      obtain ⟨m0, m1⟩ := hL1
      cases k with
      | zero => omega
      | succ k =>
        obtain ⟨kk, c, ks, rest2, ef, hk, hn, h0, q1, q2⟩ := fo_one g1
        subst ef
        injection hf with e1 e2
        rw [← e1] at hk hn h0 q1 q2
        have l1 := q1.le
        have l2 := q2.le
        obtain ⟨m, rfl⟩ : ∃ m : Nat, j = (m : Int) := ⟨j.toNat, by omega⟩
        have hmi : m < i := by
          have := hlt1 ((m : Int), r) (by rw [hp]; exact List.mem_cons_self ..)
          have this : (m : Int) < i := this
          omega
        have hpn : ((m : Int) + 1).toNat = m + 1 := by omega
        refine ⟨⟨hn, by omega, l1, by omega, by omega, by show at' last ((m : Int) + 1) ≤ _; omega, ⟨by show (-1 : Int) ≤ m; omega, j1⟩, fun _ => ⟨by show (at' f (m : Int)).frm ≤ _; omega, l2⟩⟩, (at' f (i : Int)).frm :: (at' f (i : Int)).til :: cs2, n, ⟨⟨ks, rest2 ++ f2, kk, hk, e2.trans (List.append_assoc ks rest2 f2), q1, ⟨rest2, f2, k, by show r - 1 = (k : Int); omega, rfl, q2, g2⟩, j0, j1, by omega, by omega, jt, jb⟩, by omega, by omega, Int.le_refl _, by omega, by omega, fun q hq => ?_⟩, ?_, ?_, ?_⟩
        · rcases List.mem_cons.1 hq with rfl | hq
          · show (m : Int) < i; omega
          · have := jb q hq; omega
        · show at' (last.set ((m : Int) + 1).toNat _) (((i + 1 : Nat)) : Int) ≤ _
          rw [hpn, at'_set_ne (by omega), hz]
          omega
        · show at' (last.set ((m : Int) + 1).toNat _) (((m + 1 : Nat)) : Int) ≤ _
          rw [hpn, at'_set_self (by omega)]
          exact Int.le_refl _
        · show LastOK (last.set ((m : Int) + 1).toNat _) t cs2
          rw [hpn]
          refine last_other m1 (by omega) fun q hq => ?_
          have h1 := hall q (List.mem_cons_of_mem _ hq)
          have h2 := jb q hq
          omega
theorem st_lt (f : List Cap) : ∀ i, ∀ q ∈ stF f i, q.1 < (i : Int)
  | 0, q, h => by cases h
  | i + 1, q, h => by
    have ih := st_lt f i
    rcases List.mem_cons.1 h with rfl | h
    · show (i : Int) < ((i + 1 : Nat) : Int); omega
    · cases hp : popS (stF f i) with
      | nil => rw [hp] at h; cases h
      | cons a t =>
        rw [hp] at h
        obtain ⟨j, r⟩ := a
        have h1 : ∀ x ∈ popS (stF f i), x.1 < (i : Int) := fun x hx => ih x (pop_mem hx)
        rw [hp] at h1
        rcases List.mem_cons.1 h with rfl | h
        · have := h1 (j, r) (List.mem_cons_self ..)
          have this : j < (i : Int) := this
          show j < ((i + 1 : Nat) : Int); omega
        · have := h1 q (List.mem_cons_of_mem _ h); omega
theorem top_lt (f : List Cap) (i : Nat) : topS (popS (stF f i)) < (i : Int) := by
  cases hp : popS (stF f i) with
  | nil => show (-1 : Int) < i; omega
  | cons a t =>
    obtain ⟨j, r⟩ := a
    have := st_lt f i (j, r) (pop_mem (by rw [hp]; exact List.mem_cons_self ..))
    exact this
theorem last_fresh (f : List Cap) : ∀ (i k : Nat), i < k → at' (endsM f i) (k : Int) = 0
  | 0, k, h => by
    simp only [endsM, at', Int.toNat_natCast, List.getD_eq_getElem?_getD]
    rw [List.getElem?_replicate]
    split <;> rfl
  | i + 1, k, h => by
    have := top_lt f i
    simp only [endsM]
    rw [at'_set_ne (by omega)]
    exact last_fresh f i k (by omega)
/-- What stands open at every node of a forest. -/
theorem sem_at {N : ByteArray → Prop} {f : List Cap} {hi : Int} {n : Nat} (h : Fo N n 0 hi f) : ∀ i : Nat, i ≤ f.length → ∃ cs n', Sem N f hi (stF f i) cs n' (f.drop i) ∧ LastOK (endsM f i) (stF f i) cs
  | 0, _ => ⟨[0], n, ⟨Int.le_refl _, h⟩, by
    show at' (endsM f 0) 0 ≤ 0
    simp [endsM, at', List.getD_eq_getElem?_getD]⟩
  | i + 1, hi' => by
    obtain ⟨cs, n', h1, h2⟩ := sem_at h i (by omega)
    rw [drop_at f i (by omega)] at h1
    exact (sem_step (by omega) (last_len f i) h1 h2 (st_lt f i) (last_fresh f i _ (by omega))).2
/-- What a forest's nodes keep to. -/
theorem node_at {N : ByteArray → Prop} {f : List Cap} {hi : Int} {n : Nat} (h : Fo N n 0 hi f) {i : Nat} (hi' : i < f.length) : NodeOK N f hi (endsM f i) (popS (stF f i)) (at' f (i : Int)) := by
  obtain ⟨cs, n', h1, h2⟩ := sem_at h i (by omega)
  rw [drop_at f i (by omega)] at h1
  exact (sem_step hi' (last_len f i) h1 h2 (st_lt f i) (last_fresh f i _ (by omega))).1
theorem end_at {N : ByteArray → Prop} {f : List Cap} {hi : Int} {n : Nat} (h : Fo N n 0 hi f) : ∀ q ∈ stF f f.length, q.2 = 0 := by
  obtain ⟨cs, n', h1, _⟩ := sem_at h f.length (Nat.le_refl _)
  rw [List.drop_length] at h1
  exact sem_end h1
end Go.AL
set_option linter.unusedVariables false
set_option linter.unusedSimpArgs false
namespace Go.AL
open Go.Proofs
/-! ### Own names -/
structure OwnN (s : ByteArray) : Prop where
  pos : 0 < s.size
  le : s.size ≤ 64
  first : letterB (atB s 0) = true
  rest : ∀ j, j < s.size → letterB (atB s j) = true ∨ digitB (atB s j) = true
theorem any_none : ∀ {l chars : List UInt8}, Lib.containsAny l chars = false → ∀ b ∈ l, chars.contains b = false
  | [], _, _, b, h => by cases h
  | a :: l, chars, h, b, hb => by
    unfold Lib.containsAny at h
    have h := of_decide_eq_false h
    have hge := Lib.indexAny_ge chars l
    unfold Lib.indexAny at h
    split at h
    · omega
    · rename_i hc
      have hl : Lib.indexAny l chars = -1 := by
        split at h
        · rename_i e; exact beq_iff_eq.1 e
        · omega
      rcases List.mem_cons.1 hb with rfl | hb
      · simpa using hc
      · refine any_none (l := l) ?_ b hb
        unfold Lib.containsAny
        exact decide_eq_false (by omega)
theorem any_byte {s : ByteArray} (h : anyB s = false) {j : Nat} (hj : j < s.size) : (atB s j).toNat ≠ 58 ∧ (atB s j).toNat ≠ 126 := by
  have hm : atB s j ∈ s.data.toList := by
    have h1 : s[j]? = some (atB s j) := byte_at hj
    rw [ba_at] at h1
    exact List.mem_of_getElem? h1
  have := any_none h _ hm
  constructor
  · intro e
    have e : atB s j = 58 := UInt8.toNat_inj.1 e
    rw [e] at this
    exact absurd this (by decide)
  · intro e
    have e : atB s j = 126 := UInt8.toNat_inj.1 e
    rw [e] at this
    exact absurd this (by decide)
theorem own_bytes (s : ByteArray) (p : Nat) : ∀ f i j, i ≤ j → j < ownN s p f i → letterB (atB s (p + j)) = true ∨ 0 < j ∧ digitB (atB s (p + j)) = true
  | 0, i, j, h1, h2 => by simp only [ownN] at h2; omega
  | f + 1, i, j, h1, h2 => by
    simp only [ownN] at h2
    split at h2
    · rename_i h
      by_cases hj : j = i
      · subst hj; exact h.2
      · exact own_bytes s p f (i + 1) j (by omega) h2
    · omega
theorem num_first {s : ByteArray} (h : numB s ≠ 0) : (atB s 0).toNat = 126 := by
  unfold numB at h
  split at h
  · exact absurd rfl h
  · rename_i hq
    by_cases h0 : (atB s 0).toNat = 126
    · exact h0
    · exact absurd (.inr h0) hq
/-- A name without marks is an own name. -/
theorem own_of {s : ByteArray} (h : nameOk s = true) (ha : anyB s = false) : OwnN s := by
  unfold nameOk at h
  obtain ⟨h1, h2, h3⟩ := of_decide_eq_true h
  have hp := size_pos h1
  have ho : ownB s 0 ≤ s.size := by have := ownB_le (s := s) (p := 0) (by omega); omega
  have hown : ownB s 0 = s.size := by
    unfold namedB at h3
    split at h3
    · omega
    · rename_i h0
      by_cases hlt : ownB s 0 = s.size
      · exact hlt
      exfalso
      simp only [Nat.zero_add] at h3
      split at h3
      · rename_i hq
        obtain ⟨q1, q2, q3⟩ := pre_asc hq.1
        exact (any_byte ha (j := ownB s 0) (by omega)).1 q1
      · have hn : numB (s.extract (ownB s 0) s.size) ≠ 0 := by omega
        have := num_first hn
        rw [extract_at (by omega) (Nat.le_refl _)] at this
        exact (any_byte ha (j := ownB s 0) (by omega)).2 this
  have hb := fun j (hj : j < s.size) => own_bytes s 0 (s.size - 0 + 1) 0 j (Nat.zero_le _) (by show j < ownB s 0; omega)
  refine ⟨hp, h2, ?_, fun j hj => ?_⟩
  · rcases hb 0 hp with h | h
    · exact h
    · omega
  · rcases hb j hj with h | h
    · rw [Nat.zero_add] at h; exact .inl h
    · rw [Nat.zero_add] at h; exact .inr h.2
end Go.AL
set_option linter.unusedVariables false
namespace Go.AL
open Go.Proofs
set_option maxRecDepth 10000
attribute [local irreducible] AWp AList RStep seqQ blockQ retQ DSteps DT DU DM DZ awR rQ SStep preB nameOk anyB rightL checkI
theorem letter59_c (b : UInt8) : ACalls Try.prog 59 [lU8 b.toNat] [] (fun r _ => r = .ret (bl (letterB b))) := by
  refine acalls_by Try.func59 Try.ntmps59 ?_
  simp only [argFr]
  repeat' (first
    | (show lOp; refine op0 (by first | (show kAssign; exact b_assign) | (show kMove; exact b_move) | (show kBinopEql; exact b_eql) | (show kBinopLeq; exact b_leq) | (show kBinopGeq; exact b_geq) | (show kPick; first | exact b_pickT | exact b_pickF)) ?_)
    | (show lGu; first | refine al_yes ?_ | refine al_none ?_ | refine al_noneU ?_ | refine al_splitD (fun h => ?_) (fun h => ?_))
    | (show lNil; refine al_nil ?_)
    | (show qSeq; refine n_seq ?_)
    | (show cReg; refine aw_reg ?_)
    | (show cSeq; refine aw_seq ?_)
    | (show cRet; refine aw_ret ?_)
    | (show eRet; refine ret1 Try.results59 ?_)
    | (exfalso; omega))
  all_goals (refine congrArg (fun q => CE.ret (bl q)) ?_; simp only [letterB]; first | exact (decide_eq_true (by omega)).symm | exact (decide_eq_false (by omega)).symm | exact decide_eq_decide.2 (by constructor <;> intro _ <;> omega))
theorem digit60_c (b : UInt8) : ACalls Try.prog 60 [lU8 b.toNat] [] (fun r _ => r = .ret (bl (digitB b))) := by
  refine acalls_by Try.func60 Try.ntmps60 ?_
  simp only [argFr]
  repeat' (first
    | (show lOp; refine op0 (by first | (show kAssign; exact b_assign) | (show kMove; exact b_move) | (show kBinopLeq; exact b_leq) | (show kBinopGeq; exact b_geq) | (show kPick; first | exact b_pickT | exact b_pickF)) ?_)
    | (show lGu; first | refine al_yes ?_ | refine al_none ?_ | refine al_splitD (fun h => ?_) (fun h => ?_))
    | (show lNil; refine al_nil ?_)
    | (show qSeq; refine n_seq ?_)
    | (show cReg; refine aw_reg ?_)
    | (show cSeq; refine aw_seq ?_)
    | (show cRet; refine aw_ret ?_)
    | (show eRet; refine ret1 Try.results60 ?_))
  all_goals (refine congrArg (fun q => CE.ret (bl q)) ?_; simp only [digitB]; first | exact (decide_eq_true (by omega)).symm | exact (decide_eq_false (by omega)).symm | exact decide_eq_decide.2 (by constructor <;> intro _ <;> omega))
attribute [local irreducible] letterB digitB
theorem own52_c (s : ByteArray) (hO : OwnN s) : ACalls Try.prog 52 [strA s, i64 0] [] (fun r _ => r = .ret (i64 s.size)) := by
  have hp := hO.pos
  have hl := hO.le
  have h0 : letterB (atB s (Int.toNat 0)) = true := hO.first
  have hns : ¬(0 : Int) ≥ s.size := by omega
  have hnl : (!letterB (atB s (Int.toNat 0))) = false := by rw [h0]; rfl
  refine acalls_by Try.func52 Try.ntmps52 ?_
  simp only [argFr]
  repeat' (first
    | (refine al_yes ?_ (hb := decide_eq_false hns))
    | (refine aw_F ?_ (hb := hnl))
    | (show lOp; refine op0 (by first | (show kAssign; exact b_assign) | (show kMove; exact b_move) | (show kCall; first | exact b_call ((letter59_c (atB s (Int.toNat 0)))) | exact b_lenStr) | (show kBinopGeq; exact b_geq) | (show kPick; exact b_pickF) | (show kUnopNot; exact b_not) | (show kIndex; exact b_indexStrM)) ?_)
    | (show lNil; refine al_nil ?_)
    | (show qSeq; refine n_seq ?_)
    | (show cReg; refine aw_reg ?_)
    | (show cSeq; refine aw_seq ?_)
    | (show cBlk; refine aw_block ?_)
    | (show cSkip; refine aw_skip ?_))
  refine aw_roundsG (ι := Nat) (fun i n => [(0, strA s), (5, i64 (i : Int))]) (fun _ _ => []) (fun i => i ≤ s.size) (fun i => s.size - i) 0 0 (by omega) (by simp) rfl (by simp [Fr.get]) ?_
  intro i n g h1 hg
  by_cases hi : i < s.size
  · rcases hO.rest i hi with hr | hr
    · have hr' : letterB (atB s (i : Int).toNat) = true := hr
      repeat' (first
        | (show lOp; refine op0 (by first | (show kAssign; exact b_assign) | (show kMove; exact b_move) | (show kCall; first | exact b_call ((letter59_c (atB s (i : Int).toNat))) | exact b_lenStr) | (show kBinopAdd; exact b_add) | (show kBinopLss; exact b_lss) | (show kPick; first | exact b_pickT | exact b_pickF) | (show kIndex; exact b_indexStrM)) ?_)
        | (show lGu; first | refine al_yes ?_ | refine al_none ?_ | refine al_noneU ?_ | refine al_splitD (fun h => ?_) (fun h => ?_))
        | (show lNil; refine al_nil ?_)
        | (show qSeq; first | refine n_seq ?_ | refine x_seq ?_)
        | (show qBlk; first | refine n_block ?_ | refine x_eq ?_)
        | (show cReg; refine aw_reg ?_)
        | (show cSeq; refine aw_seq ?_)
        | (show cBlk; refine aw_block ?_)
        | (show cSkip; refine aw_skip ?_)
        | (show cExit; refine aw_exit ?_)
        | (show cRet; refine aw_ret ?_)
        | (show cIf; first | refine aw_T ?_ | refine aw_F ?_)
        | (show eRet; refine ret1 Try.results52 ?_)
        | (exfalso; omega))
      all_goals first | exact ⟨i + 1, _, by omega, Nat.le_refl _, List.drop_length, by simp [Fr.get], by omega⟩ | (exfalso; simp_all; done)
    · have hr' : digitB (atB s (i : Int).toNat) = true := hr
      repeat' (first
        | (show lOp; refine op0 (by first | (show kAssign; exact b_assign) | (show kMove; exact b_move) | (show kCall; first | exact b_call ((letter59_c (atB s (i : Int).toNat))) | exact b_call ((digit60_c (atB s (i : Int).toNat))) | exact b_lenStr) | (show kBinopAdd; exact b_add) | (show kBinopLss; exact b_lss) | (show kPick; first | exact b_pickT | exact b_pickF) | (show kIndex; exact b_indexStrM)) ?_)
        | (show lGu; first | refine al_yes ?_ | refine al_none ?_ | refine al_noneU ?_ | refine al_splitD (fun h => ?_) (fun h => ?_) | refine al_split (fun h => ?_) (fun h => ?_))
        | (show lNil; refine al_nil ?_)
        | (show qSeq; first | refine n_seq ?_ | refine x_seq ?_)
        | (show qBlk; first | refine n_block ?_ | refine x_eq ?_)
        | (show cReg; refine aw_reg ?_)
        | (show cSeq; refine aw_seq ?_)
        | (show cBlk; refine aw_block ?_)
        | (show cSkip; refine aw_skip ?_)
        | (show cExit; refine aw_exit ?_)
        | (show cRet; refine aw_ret ?_)
        | (show cIf; first | refine aw_T ?_ | refine aw_F ?_)
        | (show eRet; refine ret1 Try.results52 ?_)
        | (exfalso; omega))
      all_goals first | exact ⟨i + 1, _, by omega, Nat.le_refl _, List.drop_length, by simp [Fr.get], by omega⟩ | (exfalso; simp_all; done)
  · have : i = s.size := by omega
    subst this
    repeat' (first
      | (refine aw_F ?_ (hb := rfl))
      | (show lOp; refine op0 (by first | (show kAssign; exact b_assign) | (show kMove; exact b_move) | (show kCall; exact b_lenStr) | (show kBinopLss; exact b_lss) | (show kPick; exact b_pickF) | (show kIndex; exact b_indexStrM)) ?_)
      | (show lGu; first | refine al_yes ?_ | refine al_none ?_ | refine al_noneU ?_ | refine al_splitD (fun h => ?_) (fun h => ?_))
      | (show lNil; refine al_nil ?_)
      | (show qSeq; first | refine n_seq ?_ | refine x_seq ?_)
      | (show qBlk; refine x_eq ?_)
      | (show cReg; refine aw_reg ?_)
      | (show cSeq; refine aw_seq ?_)
      | (show cExit; refine aw_exit ?_)
      | (show cRet; refine aw_ret ?_)
      | (show eRet; refine ret1 Try.results52 ?_)
      | (exfalso; omega))
    all_goals first | rfl | (exfalso; omega)
theorem ownN32_c (s : ByteArray) (hO : OwnN s) : ACalls Try.prog 32 [strA s] [] (fun r _ => r = .ret (bl true)) := by
  have hp := hO.pos
  have hl := hO.le
  refine acalls_by Try.func32 Try.ntmps32 ?_
  simp only [argFr]
  repeat' (first
    | (show lOp; refine op0 (by first | (show kAssign; exact b_assign) | (show kMove; exact b_move) | (show kCall; first | exact b_call ((own52_c s hO)) | exact b_lenStr) | (show kBinopEql; exact b_eql) | (show kBinopNeq; exact b_strNeq) | (show kBinopLeq; exact b_leq) | (show kPick; first | exact b_pickT | exact b_pickF)) ?_)
    | (show lGu; first | refine al_yes ?_ | refine al_none ?_ | refine al_splitD (fun h => ?_) (fun h => ?_))
    | (show lNil; refine al_nil ?_)
    | (show qSeq; refine n_seq ?_)
    | (show cReg; refine aw_reg ?_)
    | (show cSeq; refine aw_seq ?_)
    | (show cRet; refine aw_ret ?_)
    | (show eRet; refine ret1 Try.results32 ?_)
    | (exfalso; omega))
  · exact congrArg (fun q => CE.ret (bl q)) (decide_eq_true rfl)
  · exfalso
    exact h (by intro e; subst e; exact absurd hp (by decide))
end Go.AL
set_option linter.unusedVariables false
namespace Go.AL
open Go.Proofs
set_option maxRecDepth 10000
attribute [local irreducible] AWp AList RStep seqQ blockQ retQ DSteps DT DU DM DZ awR rQ SStep letterB digitB preB nameOk anyB rightL checkI
theorem fo_len {N : ByteArray → Prop} {k : Nat} {lo hi : Int} {f : List Cap} (h : Fo N k lo hi f) : k ≤ f.length := by
  induction h with
  | nil h => exact Nat.le_refl _
  | cons hk hn h0 h1 h2 i1 i2 => simp only [List.length_cons, List.length_append]; omega
theorem sem_r {N : ByteArray → Prop} {f : List Cap} {hi : Int} {n : Nat} : ∀ {st : List (Int × Int)} {cs : List Int} {rest : List Cap}, Sem N f hi st cs n rest → ∀ q ∈ st, 0 ≤ q.2 ∧ q.2 ≤ rest.length
  | [], cs, rest, h, q, hq => by cases hq
  | (j, r) :: t, [], rest, h, q, hq => by cases h
  | (j, r) :: t, cu :: cs, rest, h, q, hq => by
    obtain ⟨⟨f1, f2, k, e, hf, h1, h2⟩, _⟩ := h
    have := fo_len h1
    have hl : rest.length = f1.length + f2.length := by rw [hf, List.length_append]
    rcases List.mem_cons.1 hq with rfl | hq
    · dsimp only; omega
    · have := sem_r h2 q hq; omega
theorem r_at {N : ByteArray → Prop} {f : List Cap} {hi : Int} {n : Nat} (h : Fo N n 0 hi f) {i : Nat} (hi' : i ≤ f.length) : ∀ q ∈ stF f i, 0 ≤ q.2 ∧ q.2 ≤ f.length := fun q hq => by
  obtain ⟨cs, n', h1, _⟩ := sem_at h i hi'
  have := sem_r h1 q hq
  rw [List.length_drop] at this
  omega
/-- An open node, in memory. -/
def encO (p : Int × Int) : List PV := [lI p.1, lI p.2, lI 0]
theorem rev_at {t : List (Int × Int)} {a : Int × Int} {xs : List (Int × Int)} {n : Nat} (h : xs.take n = (a :: t).reverse) (hn : n ≤ xs.length) : n = t.length + 1 ∧ at' xs ((n : Int) - 1) = a ∧ xs.take (n - 1) = t.reverse := by
  have hl : (xs.take n).length = t.length + 1 := by rw [h]; simp
  rw [List.length_take, Nat.min_eq_left hn] at hl
  subst hl
  refine ⟨rfl, ?_, ?_⟩
  · have : ((t.length + 1 : Nat) : Int) - 1 = (t.length : Int) := by omega
    rw [this]
    have e1 : (xs.take (t.length + 1))[t.length]? = xs[t.length]? := by rw [List.getElem?_take, if_pos (by omega)]
    rw [h, List.reverse_cons, List.getElem?_append_right (by simp)] at e1
    simp only [List.length_reverse, Nat.sub_self, List.getElem?_cons_zero] at e1
    simp only [at', List.getD_eq_getElem?_getD, Int.toNat_natCast, ← e1, Option.getD_some]
  · have e2 : xs.take (t.length + 1 - 1) = (xs.take (t.length + 1)).take t.length := by rw [List.take_take]; congr 1; omega
    rw [e2, h, List.reverse_cons, List.take_left' (by simp)]
theorem rev_nil {xs : List (Int × Int)} {n : Nat} {st : List (Int × Int)} (h : xs.take n = st.reverse) (hn : n ≤ xs.length) : st.length = n := by
  have hl : (xs.take n).length = st.length := by rw [h]; simp
  rw [List.length_take, Nat.min_eq_left hn] at hl
  omega
theorem rev_set {t : List (Int × Int)} {a v : Int × Int} {xs : List (Int × Int)} {n : Nat} (h : xs.take n = (a :: t).reverse) (hn : n ≤ xs.length) : (xs.set (n - 1) v).take n = (v :: t).reverse := by
  have hl := (rev_at h hn).1
  rw [List.take_set, h, hl]
  simp
theorem fill_at {ls : List Int} {L : List Int} {i : Nat} (hi : i < ls.length) {v : Int} (h : ∀ k : Nat, k < i → at' ls (k : Int) = at' L (k : Int)) (hv : at' L (i : Int) = v) : ∀ k : Nat, k < i + 1 → at' (ls.set i v) (k : Int) = at' L (k : Int) := fun k hk => by
  by_cases e : i = k
  · subst e
    rw [at'_set_self hi, hv]
  · rw [at'_set_ne e]
    exact h k (by omega)
theorem take_snoc {α : Type} (A : List α) (x : α) {n : Nat} (h : n ≤ A.length) : (A.take n ++ [x]).take (n + 1) = A.take n ++ [x] := List.take_of_length_le (by simp; omega)
set_option maxHeartbeats 8000000 in
theorem levels_c {N : ByteArray → Prop} {f : List Cap} {hi : Int} {n0 : Nat} (hF : Fo N n0 0 hi f) (hf : f.length ≤ 1048576) : ACalls Try.prog 20 [.c (.p (forestP f))] [] (fun q _ => q = .ret (.tup [intsV (levelsM f), bl true])) := by
  refine acalls_by Try.func20 Try.ntmps20 ?_
  simp only [argFr]
  repeat' (first
    | (show lMakeSlice; refine k_makeM (f := encI1) 0 ?_)
    | (show lOp; refine op0 (by first | (show kAssign; exact b_assign) | (show kMove; exact b_move) | (show kCall; exact m_lenSl)) ?_)
    | (show lNil; refine al_nil ?_)
    | (show qSeq; refine n_seq ?_)
    | (show cReg; refine aw_reg ?_)
    | (show cSeq; refine aw_seq ?_)
    | (show cBlk; refine aw_block ?_))
  refine kw_own 5 99 3 ?_
  refine aw_roundsP (ι := Nat × List (Int × Int) × Nat × List Int) 1 (fun i => [.arr 3 1 (i.2.2.2.map encI1)]) (fun i n => [(0, .c (.p (forestP f))), (4, .c (.ms 0 f.length)), (5, .c (.ms (n + 0) i.2.2.1)), (6, i64 (i.1 : Int))]) (fun i n => [.arr 99 3 (i.2.1.map encO)]) (fun i => i.1 ≤ f.length ∧ i.2.2.1 ≤ i.2.1.length ∧ i.2.1.take i.2.2.1 = (stF f i.1).reverse ∧ i.2.2.2.length = f.length ∧ ∀ k : Nat, k < i.1 → at' i.2.2.2 (k : Int) = at' (levelsM f) (k : Int)) (fun i => f.length - i.1) (0, [], 0, List.replicate f.length 0) 1 (fun _ => rfl) ⟨by simp, by simp, by simp [stF], by simp, by simp⟩ (by omega) (by simp) rfl rfl (by simp [Fr.get]) ?_
  rintro ⟨i, xs, tn, ls⟩ n g ⟨h1, h2, h3, h4, h5⟩ hg
  dsimp only at h1 h2 h3 h4 h5 hg ⊢
  have hg1 : 1 + g.length = n := by simp at hg; omega
  clear hg
  have htn : tn ≤ i := by
    have q1 := rev_nil h3 h2
    have q2 := st_len f i
    omega
  by_cases hi' : i < f.length
  · have hno := node_at hF hi'
    have hk0 := hno.kids
    have hra := r_at hF (i := i) (by omega)
    have hkl : (at' f (i : Int)).kids ≤ 9000000000000000000 := by
      have := (r_at hF (i := i + 1) (by omega)) ((i : Int), (at' f (i : Int)).kids) (List.mem_cons_self ..)
      have this : (0 : Int) ≤ (at' f (i : Int)).kids ∧ (at' f (i : Int)).kids ≤ f.length := this
      omega
    have hlv := levels_at f hi'
    repeat' (first
      | (refine aw_T ?_ (hb := decide_eq_true (by omega)))
      | (refine aw_F ?_ (hb := decide_eq_false (by omega)))
      | (show lOp; refine op0 (by first | (show kMove; exact b_move) | (show kCall; exact m_lenSl) | (show kLoad; exact b_loadRp) | (show kFieldaddr; exact b_fieldRp) | (show kIndexaddr; exact m_indexSl) | (show kBinopLss; exact b_lss)) ?_)
      | (show lNil; refine al_nil ?_)
      | (show qSeq; refine n_seq ?_)
      | (show cReg; refine aw_reg ?_)
      | (show cSeq; refine aw_seq ?_)
      | (show cBlk; refine aw_block ?_)
      | (show cSkip; refine aw_skip ?_))
    refine aw_roundsP (ι := Nat × List (Int × Int)) 1 (fun _ => [.arr 3 1 (ls.map encI1)]) (fun j n => [(0, .c (.p (forestP f))), (4, .c (.ms 0 f.length)), (5, .c (.ms (n + 0) j.1)), (6, i64 (i : Int))]) (fun _ _ => [.arr 99 3 (xs.map encO)]) (fun j => j.1 ≤ tn ∧ xs.take j.1 = j.2.reverse ∧ popS j.2 = popS (stF f i) ∧ ∀ q ∈ j.2, q ∈ stF f i) (fun j => j.1) (tn, stF f i) n (fun _ => rfl) ⟨Nat.le_refl _, h3, rfl, fun q hq => hq⟩ (by omega) (by simp; omega) rfl (dropGP (p := 1) (j := 0) hg1 rfl rfl) (by simp [Fr.get]) ?_
    clear hg1
    rintro ⟨m, st⟩ n2 g2 ⟨k0, k2, k3, k4⟩ hg
    dsimp only at k0 k2 k3 k4 hg ⊢
    have k1 : m ≤ xs.length := by omega
    have hg1 : 1 + g2.length = n2 := by simp at hg; omega
    clear hg
    have hsm := rev_nil k2 k1
    cases st with
    | nil =>
      have hm0 : m = 0 := by simpa using hsm.symm
      subst hm0
      have hp0 : popS (stF f i) = [] := k3.symm
      rw [hp0] at hlv
      repeat' (first
        | (refine aw_F ?_ (hb := rfl))
        | (show lStore; refine k_storeElM (i := i) (f := encI1) 0 ?_)
        | (show lCall; refine k_app1 (f := encO) ((i : Int), (at' f (i : Int)).kids) ?_)
        | (show lOp; refine op0 (by first | (show kAssign; exact b_assign) | (show kMove; exact b_move) | (show kCall; exact b_lenMs) | (show kLoad; exact b_loadRp) | (show kFieldaddr; exact b_fieldRp) | (show kIndexaddr; first | exact m_indexSl | exact m_indexMs) | (show kBinopAdd; exact b_add) | (show kBinopGtr; exact b_gtr) | (show kPick; exact b_pickF) | (show kBuild; exact b_buildSt) | (show kBuildslice; exact b_buildSl1)) ?_)
        | (show lGu; refine al_none ?_)
        | (show lNil; refine al_nil ?_)
        | (show qSeq; first | refine n_seq ?_ | refine x_seq ?_)
        | (show qBlk; first | refine n_block ?_ | refine x_eq ?_)
        | (show cReg; refine aw_reg ?_)
        | (show cSeq; refine aw_seq ?_)
        | (show cSkip; refine aw_skip ?_)
        | (show cExit; refine aw_exit ?_))
      refine ⟨(i + 1, xs.take 0 ++ [((i : Int), (at' f (i : Int)).kids)], 1, ls.set i 0), n2 + 1, ⟨by dsimp only; omega, by simp, by simp [stF, hp0, decS], by simp [h4], fill_at (by omega) h5 hlv⟩, by omega, by simp; omega, rfl, dropGP (p := 1) (j := 1) hg1 rfl rfl, by simp [Fr.get], by dsimp only; omega⟩
    | cons a t =>
      obtain ⟨j, r⟩ := a
      obtain ⟨e1, e2, e3⟩ := rev_at k2 k1
      have hr0 := hra (j, r) (k4 _ (List.mem_cons_self ..))
      have hr0 : 0 ≤ r ∧ r ≤ f.length := hr0
      have e2' : (at' xs ((m : Int) - 1)).2 = r := by rw [e2]
      have e2'' : (at' xs ((m : Int) - 1)).1 = j := by rw [e2]
      have e2b : 0 ≤ (at' xs ((m : Int) - 1)).2 ∧ (at' xs ((m : Int) - 1)).2 ≤ f.length := by rw [e2']; exact hr0
      have hsub : ((m : Int) - 1).toNat = m - 1 := by omega
      by_cases hr : r = 0
      · subst hr
        have k3' : popS t = popS (stF f i) := by rw [← k3]; simp [popS]
        have hcT : (if decide ((m : Int) > 0) = true then decide ((at' xs ((m : Int) - 1)).2 = 0) else false) = true := by rw [if_pos (decide_eq_true (show (m : Int) > 0 by omega))]; exact decide_eq_true e2'
        repeat' (first
          | (refine al_yes ?_ (hb := decide_eq_true (show (m : Int) > 0 by omega)))
          | (refine aw_T ?_ (hb := hcT))
          | (show lOp; refine op0 (by first | (show kAssign; exact b_assign) | (show kMove; exact b_move) | (show kCall; exact b_lenMs) | (show kLoad; exact m_loadEpt) | (show kFieldaddr; exact b_fieldEpt) | (show kIndexaddr; exact m_indexMs) | (show kBinopSub; exact b_sub) | (show kBinopEql; exact b_eql) | (show kBinopGtr; exact b_gtr) | (show kPick; exact b_pickB) | (show kSlice; exact m_sliceMs)) ?_)
          | (show lNil; refine al_nil ?_)
          | (show qSeq; refine n_seq ?_)
          | (show qBlk; refine n_block ?_)
          | (show cReg; refine aw_reg ?_)
          | (show cSeq; refine aw_seq ?_)
          | (show cBlk; refine aw_block ?_)
          | (show cSkip; refine aw_skip ?_))
        refine ⟨(((m : Int) - 1).toNat, t), n2, ⟨by dsimp only; omega, by dsimp only; rw [hsub]; exact e3, k3', fun q hq => k4 q (List.mem_cons_of_mem _ hq)⟩, by omega, by simp; omega, rfl, dropGP (p := 1) (j := 0) hg1 rfl rfl, by simp [Fr.get], by dsimp only; omega⟩
      · have hp : popS (stF f i) = (j, r) :: t := by rw [← k3]; simp [popS, hr]
        rw [hp] at hlv
        have hne : ¬(at' xs ((m : Int) - 1)).2 = 0 := by rw [e2']; exact hr
        have hcF : (if decide ((m : Int) > 0) = true then decide ((at' xs ((m : Int) - 1)).2 = 0) else false) = false := by rw [if_pos (decide_eq_true (show (m : Int) > 0 by omega))]; exact decide_eq_false hne
        have hlx : m ≤ (xs.set ((m : Int) - 1).toNat ((at' xs ((m : Int) - 1)).1, (at' xs ((m : Int) - 1)).2 - 1)).length := by simpa using k1
        repeat' (first
          | (refine al_yes ?_ (hb := decide_eq_true (show (m : Int) > 0 by omega)))
          | (refine aw_F ?_ (hb := hcF))
          | (refine aw_T ?_ (hb := decide_eq_true (show (m : Int) > 0 by omega)))
          | (show lStore; first | refine k_storeElM (i := i) (f := encI1) (m : Int) ?_ | refine k_storePartM (j := (m : Int) - 1) (f := encO) (xs := xs) (off := 0 + 1) ((at' xs ((m : Int) - 1)).1, (at' xs ((m : Int) - 1)).2 - 1) [lI ((at' xs ((m : Int) - 1)).2 - 1)] (by omega) (by omega) rfl ?_)
          | (show lCall; refine k_app1 (f := encO) ((i : Int), (at' f (i : Int)).kids) ?_ (hn := hlx))
          | (show lOp; refine op0 (by first | (show kAssign; exact b_assign) | (show kMove; exact b_move) | (show kCall; exact b_lenMs) | (show kLoad; first | exact b_loadRp | exact m_loadEpt) | (show kFieldaddr; first | exact b_fieldRp | exact b_fieldEpt) | (show kIndexaddr; first | exact m_indexSl | exact m_indexMs) | (show kBinopAdd; exact b_add) | (show kBinopSub; exact b_sub) | (show kBinopEql; exact b_eql) | (show kBinopGtr; exact b_gtr) | (show kPick; exact b_pickB) | (show kBuild; exact b_buildSt) | (show kBuildslice; exact b_buildSl1)) ?_)
          | (show lNil; refine al_nil ?_)
          | (show qSeq; first | refine n_seq ?_ | refine x_seq ?_)
          | (show qBlk; first | refine n_block ?_ | refine x_eq ?_)
          | (show cReg; refine aw_reg ?_)
          | (show cSeq; refine aw_seq ?_)
          | (show cExit; refine aw_exit ?_))
        refine ⟨(i + 1, (xs.set ((m : Int) - 1).toNat ((at' xs ((m : Int) - 1)).1, (at' xs ((m : Int) - 1)).2 - 1)).take m ++ [((i : Int), (at' f (i : Int)).kids)], m + 1, ls.set i (m : Int)), n2 + 1, ⟨by dsimp only; omega, by simp; omega, ?_, by simp [h4], fill_at (by omega) h5 (by rw [hlv, e1]; rfl)⟩, by omega, by simp; omega, rfl, dropGP (p := 1) (j := 1) hg1 rfl rfl, by simp [Fr.get], by dsimp only; omega⟩
        dsimp only
        rw [take_snoc _ _ hlx, hsub, rev_set k2 k1, e2', e2'']
        simp [stF, hp, decS]
  · have : i = f.length := by omega
    subst this
    have hend := end_at hF
    repeat' (first
      | (refine aw_F ?_ (hb := decide_eq_false (by omega)))
      | (show lOp; refine op0 (by first | (show kAssign; exact b_assign) | (show kMove; exact b_move) | (show kCall; exact m_lenSl) | (show kBinopLss; exact b_lss)) ?_)
      | (show lNil; refine al_nil ?_)
      | (show qSeq; first | refine n_seq ?_ | refine x_seq ?_)
      | (show qBlk; refine x_eq ?_)
      | (show cReg; refine aw_reg ?_)
      | (show cSeq; refine aw_seq ?_)
      | (show cBlk; refine aw_block ?_)
      | (show cExit; refine aw_exit ?_))
    refine aw_roundsP (ι := Nat) 1 (fun _ => [.arr 3 1 (ls.map encI1)]) (fun j n => [(4, .c (.ms 0 f.length)), (5, .c (.ms (n + 0) tn)), (7, i64 (j : Int))]) (fun _ _ => [.arr 99 3 (xs.map encO)]) (fun j => j ≤ tn) (fun j => tn - j) 0 n (fun _ => rfl) (Nat.zero_le _) (by omega) (by simp; omega) rfl (dropGP (p := 1) (j := 0) hg1 rfl rfl) (by simp [Fr.get]) ?_
    clear hg1
    intro j n2 g2 k1 hg
    have hg1 : 1 + g2.length = n2 := by simp at hg; omega
    clear hg
    by_cases hj : j < tn
    · have hz : (at' xs (j : Int)).2 = 0 := by
        have hx : (xs.take tn)[j]? = some (at' xs (j : Int)) := by
          rw [List.getElem?_take, if_pos hj]; exact at'_getElem? (by omega)
        rw [h3] at hx
        exact hend _ (List.mem_reverse.1 (List.mem_of_getElem? hx))
      repeat' (first
        | (refine aw_T ?_ (hb := decide_eq_true (show (j : Int) < tn by omega)))
        | (refine aw_F ?_ (hb := decide_eq_false (by omega)))
        | (show lOp; refine op0 (by first | (show kAssign; exact b_assign) | (show kMove; exact b_move) | (show kCall; exact b_lenMs) | (show kLoad; exact m_loadEpt) | (show kFieldaddr; exact b_fieldEpt) | (show kIndexaddr; exact m_indexMs) | (show kBinopAdd; exact b_add) | (show kBinopLss; exact b_lss) | (show kBinopGtr; exact b_gtr)) ?_)
        | (show lNil; refine al_nil ?_)
        | (show qSeq; refine n_seq ?_)
        | (show qBlk; refine n_block ?_)
        | (show cReg; refine aw_reg ?_)
        | (show cSeq; refine aw_seq ?_)
        | (show cBlk; refine aw_block ?_)
        | (show cSkip; refine aw_skip ?_))
      exact ⟨j + 1, n2, by omega, by omega, by simp; omega, rfl, dropGP (p := 1) (j := 0) hg1 rfl rfl, by simp [Fr.get], by omega⟩
    · repeat' (first
        | (refine aw_F ?_ (hb := decide_eq_false (by omega)))
        | (show cAt 19; refine kw_freezeM (f := encI1) 4 ?_; refine aw_reg ?_)
        | (show lOp; refine op0 (by first | (show kAssign; exact b_assign) | (show kMove; exact b_move) | (show kCall; exact b_lenMs) | (show kBinopLss; exact b_lss)) ?_)
        | (show lNil; refine al_nil ?_)
        | (show qSeq; first | refine n_seq ?_ | refine x_seq ?_)
        | (show qBlk; refine x_eq ?_)
        | (show cReg; refine aw_reg ?_)
        | (show cSeq; refine aw_seq ?_)
        | (show cExit; refine aw_exit ?_)
        | (show cRet; refine aw_ret ?_)
        | (show eRet; refine ret2 Try.results20 ?_))
      have hls : ls = levelsM f := ext_at' (by rw [h4, levels_len]) (fun k hk => h5 k (by omega))
      rw [List.take_of_length_le (by omega), hls]
end Go.AL
set_option linter.unusedVariables false
namespace Go.AL
open Go.Proofs
set_option maxRecDepth 10000
attribute [local irreducible] AWp AList RStep seqQ blockQ retQ DSteps DT DU DM DZ awR rQ SStep letterB digitB preB nameOk anyB rightL checkI
/-- The numbers of the nodes that stand open, the outermost first. -/
def wayS (st : List (Int × Int)) : List Int := (st.map (·.1)).reverse
theorem pop_drop : ∀ st : List (Int × Int), popS st = st.drop (st.length - (popS st).length)
  | [] => rfl
  | (j, r) :: t => by
    have hle := pop_le t
    simp only [popS]
    split
    · rw [List.length_cons, show t.length + 1 - (popS t).length = (t.length - (popS t).length) + 1 by omega, List.drop_succ_cons]
      exact pop_drop t
    · rw [Nat.sub_self, List.drop_zero]
theorem way_len (st : List (Int × Int)) : (wayS st).length = st.length := by simp [wayS]
theorem way_pop {st : List (Int × Int)} {ws : List Int} {n : Nat} (h : ws.take n = wayS st) (hn : n ≤ ws.length) : n = st.length ∧ ws.take (popS st).length = wayS (popS st) := by
  have hl : (ws.take n).length = st.length := by rw [h, way_len]
  rw [List.length_take, Nat.min_eq_left hn] at hl
  refine ⟨hl, ?_⟩
  have hp := pop_le st
  have e : ws.take (popS st).length = (ws.take n).take (popS st).length := by rw [List.take_take, Nat.min_eq_left (by omega)]
  rw [e, h, wayS, List.take_reverse, List.length_map, ← List.map_drop, ← pop_drop]
  rfl
theorem way_top {p : List (Int × Int)} (x : Int) (h : 0 < p.length) : at' (wayS p ++ [x]) ((p.length : Int) - 1) = topS p := by
  match p, h with
  | (j, r) :: t, _ =>
    have e : ((((j, r) :: t).length : Nat) : Int) - 1 = (t.length : Int) := by simp
    rw [e]
    simp [at', wayS, topS, List.getD_eq_getElem?_getD]
theorem dec_map (st : List (Int × Int)) : (decS st).map (·.1) = st.map (·.1) := by
  cases st with
  | nil => rfl
  | cons a t => rfl
theorem way_next (f : List Cap) (i : Nat) : wayS (stF f (i + 1)) = wayS (popS (stF f i)) ++ [(i : Int)] := by
  simp only [wayS, stF, List.map_cons, dec_map, List.reverse_cons]
theorem top_nil {p : List (Int × Int)} (h : p.length = 0) : topS p = -1 := by
  rw [List.eq_nil_of_length_eq_zero h]; rfl
set_option maxHeartbeats 8000000 in
theorem above_c (f : List Cap) (hf : f.length ≤ 1048576) : ACalls Try.prog 31 [intsV (levelsM f)] [] (fun q _ => q = .ret (intsV (aboveM f))) := by
  have hll := levels_len f
  refine acalls_by Try.func31 Try.ntmps31 ?_
  simp only [argFr]
  repeat' (first
    | (show lMakeSlice; refine k_makeM (f := encI1) 0 ?_)
    | (show lOp; refine op0 (by first | (show kAssign; exact b_assign) | (show kMove; exact b_move) | (show kCall; exact m_lenSl)) ?_)
    | (show lNil; refine al_nil ?_)
    | (show qSeq; refine n_seq ?_)
    | (show cReg; refine aw_reg ?_)
    | (show cSeq; refine aw_seq ?_)
    | (show cBlk; refine aw_block ?_))
  rw [hll]
  refine kw_own 4 3 1 ?_
  refine aw_roundsP (ι := Nat × List Int × Nat × List Int) 1 (fun i => [.arr 3 1 (i.2.2.2.map encI1)]) (fun i n => [(0, intsV (levelsM f)), (3, .c (.ms 0 f.length)), (4, .c (.ms (n + 0) i.2.2.1)), (5, i64 (i.1 : Int))]) (fun i n => [.arr 3 1 (i.2.1.map encI1)]) (fun i => i.1 ≤ f.length ∧ i.2.2.1 ≤ i.2.1.length ∧ i.2.1.take i.2.2.1 = wayS (stF f i.1) ∧ i.2.2.2.length = f.length ∧ ∀ k : Nat, k < i.1 → at' i.2.2.2 (k : Int) = at' (aboveM f) (k : Int)) (fun i => f.length - i.1) (0, [], 0, List.replicate f.length 0) 1 (fun _ => rfl) ⟨by simp, by simp, by simp [stF, wayS], by simp, by simp⟩ (by omega) (by simp) rfl rfl (by simp [Fr.get]) ?_
  rintro ⟨i, ws, tn, ls⟩ n g ⟨h1, h2, h3, h4, h5⟩ hg
  dsimp only at h1 h2 h3 h4 h5 hg ⊢
  have hg1 : 1 + g.length = n := by simp at hg; omega
  clear hg
  obtain ⟨hn, hw⟩ := way_pop h3 h2
  have hpl := pop_le (stF f i)
  have hsl := st_len f i
  by_cases hi' : i < f.length
  · have hlv := levels_at f hi'
    have hab := above_at f hi'
    have hlt : (at' (levelsM f) (i : Int)).toNat = (popS (stF f i)).length := by omega
    by_cases hz : at' (levelsM f) (i : Int) > 0
    · have htop : at' (ws.take (at' (levelsM f) (i : Int)).toNat ++ [(i : Int)]) (at' (levelsM f) (i : Int) - 1) = at' (aboveM f) (i : Int) := by
        rw [hab, hlt, hw, hlv]
        exact way_top _ (by omega)
      have hN : (at' (levelsM f) (i : Int)).toNat + 1 ≤ (ws.take (at' (levelsM f) (i : Int)).toNat ++ [(i : Int)]).length := by
        rw [List.length_append, List.length_take]
        simp only [List.length_singleton]
        omega
      have hL : at' (levelsM f) (i : Int) - 1 < ((ws.take (at' (levelsM f) (i : Int)).toNat ++ [(i : Int)]).length : Nat) := by
        rw [List.length_append, List.length_take]
        simp only [List.length_singleton]
        omega
      repeat' (first
        | (refine aw_T ?_ (hb := decide_eq_true (show (i : Int) < (levelsM f).length by omega)))
        | (refine aw_T ?_ (hb := decide_eq_true hz))
        | (show lStore; first | refine k_storeElM (i := i) (f := encI1) (-1) ?_ | refine k_storeElM (i := i) (f := encI1) (at' (ws.take (at' (levelsM f) (i : Int)).toNat ++ [(i : Int)]) (at' (levelsM f) (i : Int) - 1)) ?_)
        | (show lCall; refine k_app1 (f := encI1) (i : Int) ?_)
        | (show lOp; refine op0 (by first | (show kAssign; exact b_assign) | (show kMove; exact b_move) | (show kCall; exact m_lenSl) | (show kLoad; first | exact m_loadEpt (h1 := hL) | exact b_loadRp) | (show kIndexaddr; first | exact m_indexMs (hn := hN) | exact m_indexSl | exact m_indexMs) | (show kBinopAdd; exact b_add) | (show kBinopSub; exact b_sub) | (show kBinopLss; exact b_lss) | (show kBinopGtr; exact b_gtr) | (show kSlice; exact m_sliceMs) | (show kBuildslice; exact b_buildSl1)) ?_)
        | (show lNil; refine al_nil ?_)
        | (show qSeq; refine n_seq ?_)
        | (show qBlk; refine n_block ?_)
        | (show cReg; refine aw_reg ?_)
        | (show cSeq; refine aw_seq ?_)
        | (show cBlk; refine aw_block ?_)
        | (show cSkip; refine aw_skip ?_))
      refine ⟨(i + 1, ws.take (at' (levelsM f) (i : Int)).toNat ++ [(i : Int)], (at' (levelsM f) (i : Int)).toNat + 1, (ls.set i (-1)).set i (at' (ws.take (at' (levelsM f) (i : Int)).toNat ++ [(i : Int)]) (at' (levelsM f) (i : Int) - 1))), n + 1, ⟨by dsimp only; omega, by simp; omega, ?_, by simp [h4], ?_⟩, by omega, by simp; omega, rfl, dropGP (p := 1) (j := 1) hg1 rfl rfl, by simp [Fr.get], by dsimp only; omega⟩
      · dsimp only
        rw [take_snoc _ _ (by omega), hlt, hw, way_next]
      · dsimp only
        rw [List.set_set]
        exact fill_at (by omega) h5 htop.symm
    · have hz0 : at' (levelsM f) (i : Int) = 0 := by omega
      have hm1 : at' (aboveM f) (i : Int) = -1 := by rw [hab]; exact top_nil (by omega)
      repeat' (first
        | (refine aw_T ?_ (hb := decide_eq_true (show (i : Int) < (levelsM f).length by omega)))
        | (refine aw_F ?_ (hb := decide_eq_false hz))
        | (show lStore; refine k_storeElM (i := i) (f := encI1) (-1) ?_)
        | (show lCall; refine k_app1 (f := encI1) (i : Int) ?_)
        | (show lOp; refine op0 (by first | (show kAssign; exact b_assign) | (show kMove; exact b_move) | (show kCall; exact m_lenSl) | (show kLoad; exact b_loadRp) | (show kIndexaddr; first | exact m_indexSl | exact m_indexMs) | (show kBinopAdd; exact b_add) | (show kBinopLss; exact b_lss) | (show kBinopGtr; exact b_gtr) | (show kSlice; exact m_sliceMs) | (show kBuildslice; exact b_buildSl1)) ?_)
        | (show lNil; refine al_nil ?_)
        | (show qSeq; refine n_seq ?_)
        | (show qBlk; refine n_block ?_)
        | (show cReg; refine aw_reg ?_)
        | (show cSeq; refine aw_seq ?_)
        | (show cBlk; refine aw_block ?_)
        | (show cSkip; refine aw_skip ?_))
      refine ⟨(i + 1, ws.take (at' (levelsM f) (i : Int)).toNat ++ [(i : Int)], (at' (levelsM f) (i : Int)).toNat + 1, ls.set i (-1)), n + 1, ⟨by dsimp only; omega, by simp; omega, ?_, by simp [h4], fill_at (by omega) h5 hm1⟩, by omega, by simp; omega, rfl, dropGP (p := 1) (j := 1) hg1 rfl rfl, by simp [Fr.get], by dsimp only; omega⟩
      dsimp only
      rw [take_snoc _ _ (by omega), hlt, hw, way_next]
  · have : i = f.length := by omega
    subst this
    repeat' (first
      | (refine aw_F ?_ (hb := decide_eq_false (show ¬(f.length : Int) < (levelsM f).length by omega)))
      | (show cAt 10; refine kw_freezeM (f := encI1) 3 ?_; refine aw_reg ?_)
      | (show lOp; refine op0 (by first | (show kAssign; exact b_assign) | (show kMove; exact b_move) | (show kCall; exact m_lenSl) | (show kBinopLss; exact b_lss)) ?_)
      | (show lNil; refine al_nil ?_)
      | (show qSeq; first | refine n_seq ?_ | refine x_seq ?_)
      | (show qBlk; refine x_eq ?_)
      | (show cReg; refine aw_reg ?_)
      | (show cSeq; refine aw_seq ?_)
      | (show cExit; refine aw_exit ?_)
      | (show cRet; refine aw_ret ?_)
      | (show eRet; refine ret1 Try.results31 ?_))
    have hls : ls = aboveM f := ext_at' (by rw [h4, above_len]) (fun k hk => h5 k (by omega))
    rw [List.take_of_length_le (by omega), hls]
end Go.AL
