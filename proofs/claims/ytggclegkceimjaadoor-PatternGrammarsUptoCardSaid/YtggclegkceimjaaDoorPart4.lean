/-
  Part 4 of the proof: what the functions that the law reaches come to.
-/
import Derived.Below
import Derived.ChangeKeysEq
import Derived.Deep.Draws
import Derived.KernelRfl
import Derived.Laws.CopyRow
import Derived.Laws.Cover3
import Derived.Laws.IdiomCopy
import Derived.Laws.IdiomStrings
import Derived.Laws.OwnMore
import Derived.Laws.Rows
import Derived.Laws.Small
import Derived.Laws.StructEq
import Derived.Lib.AppendZeros
import Derived.Maps.AppendAt
import Derived.Orders
import Derived.StillTail
import Derived.Tactics
import Derived.Test.YtggclegkceimjaaDoorProg
import Derived.Test.YtggclegkceimjaaDoorPart3
set_option linter.all false
set_option linter.unusedVariables false
namespace Go.AL
open Go.Proofs
instance : TV Tryd.prog 3 false 1 := TV.of Tryd.underlying3 rfl (by kernel_rfl) (by decide) (by decide)
instance : TZ Tryd.prog 3 (.int .i64 0) := TZ.of (by kernel_rfl) (by kernel_rfl)
instance : TV Tryd.prog 4 false 1 := TV.of Tryd.underlying4 rfl (by kernel_rfl) (by decide) (by decide)
instance : TZ Tryd.prog 4 (.bool false) := TZ.of (by kernel_rfl) (by kernel_rfl)
instance : TZ Tryd.prog 5 (.int .u8 0) := TZ.of (by kernel_rfl) (by kernel_rfl)
instance : TV Tryd.prog 9 false 1 := TV.of Tryd.underlying9 rfl (by kernel_rfl) (by decide) (by decide)
instance : TZ Tryd.prog 9 (.string ⟨#[]⟩) := TZ.of (by kernel_rfl) (by kernel_rfl)
instance : TConc Tryd.prog 9 := ⟨⟨_, Tryd.underlying9, rfl⟩⟩
instance : TSl Tryd.prog 22 44 5 40 := TSl.of Tryd.underlying22 (by kernel_rfl) (by decide)
instance : TSl Tryd.prog 23 44 5 40 := TSl.of Tryd.underlying23 (by kernel_rfl) (by decide)
instance : TV Tryd.prog 23 false 1 := TV.of Tryd.underlying23 rfl (by kernel_rfl) (by decide) (by decide)
instance : TZ Tryd.prog 23 (.slice none 0 0) := TZ.of (by kernel_rfl) (by kernel_rfl)
instance : TSl Tryd.prog 25 70 2 32 := TSl.of Tryd.underlying25 (by kernel_rfl) (by decide)
instance : TV Tryd.prog 25 false 1 := TV.of Tryd.underlying25 rfl (by kernel_rfl) (by decide) (by decide)
instance : TZ Tryd.prog 25 (.slice none 0 0) := TZ.of (by kernel_rfl) (by kernel_rfl)
instance : TSl Tryd.prog 26 52 3 64 := TSl.of Tryd.underlying26 (by kernel_rfl) (by decide)
instance : TV Tryd.prog 26 false 1 := TV.of Tryd.underlying26 rfl (by kernel_rfl) (by decide) (by decide)
instance : TZ Tryd.prog 26 (.slice none 0 0) := TZ.of (by kernel_rfl) (by kernel_rfl)
instance : TV Tryd.prog 28 true 2 := TV.of Tryd.underlying28 rfl (by kernel_rfl) (by decide) (by decide)
instance : TZ Tryd.prog 28 (.agg #[.slice none 0 0, .slice none 0 0]) := TZ.of (by kernel_rfl) (by kernel_rfl)
instance : TF Tryd.prog 28 0 0 25 := ⟨⟨_, _, Tryd.underlying28, rfl, rfl, rfl⟩⟩
instance : TF Tryd.prog 28 1 1 26 := ⟨⟨_, _, Tryd.underlying28, rfl, rfl, rfl⟩⟩
instance : TSt Tryd.prog 28 [(0, 1), (1, 1)] := TSt.of Tryd.underlying28 (by kernel_rfl) (by kernel_rfl)
instance : TV Tryd.prog 29 false 1 := TV.of Tryd.underlying29 rfl (by kernel_rfl) (by decide) (by decide)
instance : TSl Tryd.prog 38 28 2 48 := TSl.of Tryd.underlying38 (by kernel_rfl) (by decide)
instance : TV Tryd.prog 40 false 1 := TV.of Tryd.underlying40 rfl (by kernel_rfl) (by decide) (by decide)
instance : TV Tryd.prog 42 true 4 := TV.of Tryd.underlying42 rfl (by kernel_rfl) (by decide) (by decide)
instance : TZ Tryd.prog 42 (.agg #[.int .u64 0, .int .u64 0, .int .u64 0, .int .u64 0]) := TZ.of (by kernel_rfl) (by kernel_rfl)
instance : TA Tryd.prog 42 4 40 := ⟨Tryd.underlying42⟩
instance : TV Tryd.prog 44 true 5 := TV.of Tryd.underlying44 rfl (by kernel_rfl) (by decide) (by decide)
instance : TZ Tryd.prog 44 (.agg #[.int .i64 0, .int .u64 0, .int .u64 0, .int .u64 0, .int .u64 0]) := TZ.of (by kernel_rfl) (by kernel_rfl)
instance : TF Tryd.prog 44 0 0 3 := ⟨⟨_, _, Tryd.underlying44, rfl, rfl, rfl⟩⟩
instance : TF Tryd.prog 44 1 1 42 := ⟨⟨_, _, Tryd.underlying44, rfl, rfl, rfl⟩⟩
instance : TSt Tryd.prog 44 [(0, 1), (1, 4)] := TSt.of Tryd.underlying44 (by kernel_rfl) (by kernel_rfl)
instance : TSl Tryd.prog 48 9 1 16 := TSl.of Tryd.underlying48 (by kernel_rfl) (by decide)
instance : TV Tryd.prog 48 false 1 := TV.of Tryd.underlying48 rfl (by kernel_rfl) (by decide) (by decide)
instance : TZ Tryd.prog 48 (.slice none 0 0) := TZ.of (by kernel_rfl) (by kernel_rfl)
instance : TSl Tryd.prog 50 58 10 88 := TSl.of Tryd.underlying50 (by kernel_rfl) (by decide)
instance : TV Tryd.prog 50 false 1 := TV.of Tryd.underlying50 rfl (by kernel_rfl) (by decide) (by decide)
instance : TZ Tryd.prog 50 (.slice none 0 0) := TZ.of (by kernel_rfl) (by kernel_rfl)
instance : TV Tryd.prog 52 true 3 := TV.of Tryd.underlying52 rfl (by kernel_rfl) (by decide) (by decide)
instance : TZ Tryd.prog 52 (.agg #[.string ⟨#[]⟩, .slice none 0 0, .slice none 0 0]) := TZ.of (by kernel_rfl) (by kernel_rfl)
instance : TF Tryd.prog 52 0 0 9 := ⟨⟨_, _, Tryd.underlying52, rfl, rfl, rfl⟩⟩
instance : TF Tryd.prog 52 1 1 48 := ⟨⟨_, _, Tryd.underlying52, rfl, rfl, rfl⟩⟩
instance : TF Tryd.prog 52 2 2 50 := ⟨⟨_, _, Tryd.underlying52, rfl, rfl, rfl⟩⟩
instance : TSt Tryd.prog 52 [(0, 1), (1, 1), (2, 1)] := TSt.of Tryd.underlying52 (by kernel_rfl) (by kernel_rfl)
instance : TV Tryd.prog 54 true 1 := TV.of Tryd.underlying54 rfl (by kernel_rfl) (by decide) (by decide)
instance : TF Tryd.prog 54 0 0 4 := ⟨⟨_, _, Tryd.underlying54, rfl, rfl, rfl⟩⟩
instance : TZ Tryd.prog 56 (.agg #[.bool false, .slice none 0 0, .int .i64 0]) := TZ.of (by kernel_rfl) (by kernel_rfl)
instance : TF Tryd.prog 56 0 0 54 := ⟨⟨_, _, Tryd.underlying56, rfl, rfl, rfl⟩⟩
instance : TF Tryd.prog 56 1 1 26 := ⟨⟨_, _, Tryd.underlying56, rfl, rfl, rfl⟩⟩
instance : TF Tryd.prog 56 2 2 29 := ⟨⟨_, _, Tryd.underlying56, rfl, rfl, rfl⟩⟩
instance : TSt Tryd.prog 56 [(0, 1), (1, 1), (2, 1)] := TSt.of Tryd.underlying56 (by kernel_rfl) (by kernel_rfl)
instance : TV Tryd.prog 58 true 10 := TV.of Tryd.underlying58 rfl (by kernel_rfl) (by decide) (by decide)
instance : TZ Tryd.prog 58 (.agg #[.int .i64 0, .int .i64 0, .string ⟨#[]⟩, .bool false, .int .u64 0, .int .u64 0, .int .u64 0, .int .u64 0, .int .i64 0, .int .i64 0]) := TZ.of (by kernel_rfl) (by kernel_rfl)
instance : TF Tryd.prog 58 0 0 3 := ⟨⟨_, _, Tryd.underlying58, rfl, rfl, rfl⟩⟩
instance : TF Tryd.prog 58 1 1 3 := ⟨⟨_, _, Tryd.underlying58, rfl, rfl, rfl⟩⟩
instance : TSt Tryd.prog 58 [(0, 1), (1, 1), (2, 1), (3, 1), (4, 4), (8, 1), (9, 1)] := TSt.of Tryd.underlying58 (by kernel_rfl) (by kernel_rfl)
instance : TV Tryd.prog 66 true 1 := TV.of Tryd.underlying66 rfl (by kernel_rfl) (by decide) (by decide)
instance : TF Tryd.prog 66 0 0 3 := ⟨⟨_, _, Tryd.underlying66, rfl, rfl, rfl⟩⟩
instance : TZ Tryd.prog 68 (.agg #[.int .i64 0, .slice none 0 0]) := TZ.of (by kernel_rfl) (by kernel_rfl)
instance : TF Tryd.prog 68 0 0 66 := ⟨⟨_, _, Tryd.underlying68, rfl, rfl, rfl⟩⟩
instance : TF Tryd.prog 68 1 1 26 := ⟨⟨_, _, Tryd.underlying68, rfl, rfl, rfl⟩⟩
instance : TSt Tryd.prog 68 [(0, 1), (1, 1)] := TSt.of Tryd.underlying68 (by kernel_rfl) (by kernel_rfl)
instance : TZ Tryd.prog 70 (.agg #[.string ⟨#[]⟩, .string ⟨#[]⟩]) := TZ.of (by kernel_rfl) (by kernel_rfl)
instance : TF Tryd.prog 70 0 0 9 := ⟨⟨_, _, Tryd.underlying70, rfl, rfl, rfl⟩⟩
instance : TSt Tryd.prog 70 [(0, 1), (1, 1)] := TSt.of Tryd.underlying70 (by kernel_rfl) (by kernel_rfl)
instance : TSl Tryd.prog 73 48 1 24 := TSl.of Tryd.underlying73 (by kernel_rfl) (by decide)
instance : TSl Tryd.prog 75 50 1 24 := TSl.of Tryd.underlying75 (by kernel_rfl) (by decide)
instance : TSl Tryd.prog 81 3 1 8 := TSl.of Tryd.underlying81 (by kernel_rfl) (by decide)
instance : TSl Tryd.prog 85 105 2 16 := TSl.of Tryd.underlying85 (by kernel_rfl) (by decide)
instance : TSl Tryd.prog 94 26 1 24 := TSl.of Tryd.underlying94 (by kernel_rfl) (by decide)
instance : TSl Tryd.prog 95 25 1 24 := TSl.of Tryd.underlying95 (by kernel_rfl) (by decide)
instance : TSl Tryd.prog 97 99 2 16 := TSl.of Tryd.underlying97 (by kernel_rfl) (by decide)
instance : TV Tryd.prog 99 true 2 := TV.of Tryd.underlying99 rfl (by kernel_rfl) (by decide) (by decide)
instance : TZ Tryd.prog 99 (.agg #[.int .i64 0, .int .i64 0]) := TZ.of (by kernel_rfl) (by kernel_rfl)
instance : TF Tryd.prog 99 0 0 3 := ⟨⟨_, _, Tryd.underlying99, rfl, rfl, rfl⟩⟩
instance : TF Tryd.prog 99 1 1 3 := ⟨⟨_, _, Tryd.underlying99, rfl, rfl, rfl⟩⟩
instance : TSt Tryd.prog 99 [(0, 1), (1, 1)] := TSt.of Tryd.underlying99 (by kernel_rfl) (by kernel_rfl)
instance : TV Tryd.prog 105 true 2 := TV.of Tryd.underlying105 rfl (by kernel_rfl) (by decide) (by decide)
instance : TZ Tryd.prog 105 (.agg #[.int .i64 0, .int .i64 0]) := TZ.of (by kernel_rfl) (by kernel_rfl)
instance : TA Tryd.prog 105 2 3 := ⟨Tryd.underlying105⟩
instance : TSl Tryd.prog 111 5 1 1 := TSl.of Tryd.underlying111 (by kernel_rfl) (by decide)
instance : TSl Tryd.prog 114 4 1 1 := TSl.of Tryd.underlying114 (by kernel_rfl) (by decide)
instance : TSl Tryd.prog 116 23 1 24 := TSl.of Tryd.underlying116 (by kernel_rfl) (by decide)
instance : TFn Tryd.prog 4 := ⟨Tryd.call4⟩  -- dowel/dowelbook.LendParts
instance : TFn Tryd.prog 5 := ⟨Tryd.call5⟩  -- dowel/pattern.Grammar
instance : TFn Tryd.prog 6 := ⟨Tryd.call6⟩  -- dowel/dowelref22.Grammar
instance : TFn Tryd.prog 7 := ⟨Tryd.call7⟩  -- dowel/dowelbook.Grammars
instance : TFn Tryd.prog 8 := ⟨Tryd.call8⟩  -- dowel/dowelbook.KeptParts
instance : TFn Tryd.prog 9 := ⟨Tryd.call9⟩  -- dowel/dowelbook.SpoilParts
instance : TFn Tryd.prog 10 := ⟨Tryd.call10⟩  -- dowel/dowelbook.FreeGrammars
instance : TFn Tryd.prog 11 := ⟨Tryd.call11⟩  -- dowel/dowelbook.partsMark
instance : TFn Tryd.prog 12 := ⟨Tryd.call12⟩  -- dowel/dowelbook.partsMore
instance : TFn Tryd.prog 13 := ⟨Tryd.call13⟩  -- dowel/pattern.Check
instance : TFn Tryd.prog 14 := ⟨Tryd.call14⟩  -- (*dowel/pattern.builder).way
instance : TFn Tryd.prog 15 := ⟨Tryd.call15⟩  -- (*dowel/pattern.builder).fail
instance : TFn Tryd.prog 16 := ⟨Tryd.call16⟩  -- dowel/script.Nest
instance : TFn Tryd.prog 17 := ⟨Tryd.call17⟩  -- slices.Clone[dowel/api.Expr,dowel/api.Node]
instance : TFn Tryd.prog 18 := ⟨Tryd.call18⟩  -- dowel/dowelref22.Check
instance : TFn Tryd.prog 19 := ⟨Tryd.call19⟩  -- (*dowel/dowelref22.Grown).way
instance : TFn Tryd.prog 20 := ⟨Tryd.call20⟩  -- dowel/dowelref06.Nest
instance : TFn Tryd.prog 21 := ⟨Tryd.call21⟩  -- dowel/dowelbook.Texts
instance : TFn Tryd.prog 22 := ⟨Tryd.call22⟩  -- dowel/dowelbook.Nodes
instance : TFn Tryd.prog 23 := ⟨Tryd.call23⟩  -- dowel/dowelbook.Parts
instance : TFn Tryd.prog 24 := ⟨Tryd.call24⟩  -- dowel/dowelbook.FreeTexts
instance : TFn Tryd.prog 25 := ⟨Tryd.call25⟩  -- dowel/dowelbook.freeOuter
instance : TFn Tryd.prog 26 := ⟨Tryd.call26⟩  -- dowel/pattern.shaped
instance : TFn Tryd.prog 27 := ⟨Tryd.call27⟩  -- dowel/pattern.depth
instance : TFn Tryd.prog 28 := ⟨Tryd.call28⟩  -- dowel/pattern.top
instance : TFn Tryd.prog 29 := ⟨Tryd.call29⟩  -- (*dowel/pattern.builder).put
instance : TFn Tryd.prog 30 := ⟨Tryd.call30⟩  -- dowel/pattern.split
instance : TFn Tryd.prog 31 := ⟨Tryd.call31⟩  -- (*dowel/pattern.builder).begun
instance : TFn Tryd.prog 32 := ⟨Tryd.call32⟩  -- (*dowel/pattern.builder).ref
instance : TFn Tryd.prog 33 := ⟨Tryd.call33⟩  -- (*dowel/pattern.builder).star
instance : TFn Tryd.prog 34 := ⟨Tryd.call34⟩  -- dowel/script.begins
instance : TFn Tryd.prog 35 := ⟨Tryd.call35⟩  -- dowel/script.tree
instance : TFn Tryd.prog 36 := ⟨Tryd.call36⟩  -- dowel/script.nest
instance : TFn Tryd.prog 37 := ⟨Tryd.call37⟩  -- dowel/dowelref22.Parts
instance : TFn Tryd.prog 38 := ⟨Tryd.call38⟩  -- dowel/dowelref22.Depths
instance : TFn Tryd.prog 39 := ⟨Tryd.call39⟩  -- (*dowel/dowelref22.Grown).behind
instance : TFn Tryd.prog 40 := ⟨Tryd.call40⟩  -- dowel/dowelref22.split
instance : TFn Tryd.prog 41 := ⟨Tryd.call41⟩  -- (*dowel/dowelref22.Grown).begun
instance : TFn Tryd.prog 42 := ⟨Tryd.call42⟩  -- (*dowel/dowelref22.Grown).asked
instance : TFn Tryd.prog 43 := ⟨Tryd.call43⟩  -- (*dowel/dowelref22.Grown).either
instance : TFn Tryd.prog 44 := ⟨Tryd.call44⟩  -- (*dowel/dowelref22.Maker).left
instance : TFn Tryd.prog 45 := ⟨Tryd.call45⟩  -- dowel/dowelref22.is
instance : TFn Tryd.prog 46 := ⟨Tryd.call46⟩  -- dowel/dowelref06.Begins
instance : TFn Tryd.prog 47 := ⟨Tryd.call47⟩  -- dowel/dowelref06.parts
instance : TFn Tryd.prog 48 := ⟨Tryd.call48⟩  -- dowel/dowelbook.word
instance : TFn Tryd.prog 49 := ⟨Tryd.call49⟩  -- dowel/pattern.parts
instance : TFn Tryd.prog 50 := ⟨Tryd.call50⟩  -- dowel/pattern.depth$1
instance : TFn Tryd.prog 51 := ⟨Tryd.call51⟩  -- dowel/pattern.row
instance : TFn Tryd.prog 52 := ⟨Tryd.call52⟩  -- (*dowel/pattern.builder).sized
instance : TFn Tryd.prog 53 := ⟨Tryd.call53⟩  -- slices.Concat[dowel/api.Expr,dowel/api.Node]
instance : TFn Tryd.prog 54 := ⟨Tryd.call54⟩  -- dowel/pattern.begin
instance : TFn Tryd.prog 55 := ⟨Tryd.call55⟩  -- strconv.Itoa
instance : TFn Tryd.prog 56 := ⟨Tryd.call56⟩  -- (*dowel/pattern.maker).left
instance : TFn Tryd.prog 57 := ⟨Tryd.call57⟩  -- dowel/script.parts
instance : TFn Tryd.prog 58 := ⟨Tryd.call58⟩  -- dowel/dowelref22.in
instance : TFn Tryd.prog 59 := ⟨Tryd.call59⟩  -- (*dowel/dowelref22.Grown).made
instance : TFn Tryd.prog 60 := ⟨Tryd.call60⟩  -- dowel/dowelref22.digits
instance : TFn Tryd.prog 61 := ⟨Tryd.call61⟩  -- dowel/dowelref22.one
instance : TFn Tryd.prog 62 := ⟨Tryd.call62⟩  -- dowel/dowelref22.nullable
instance : TFn Tryd.prog 63 := ⟨Tryd.call63⟩  -- (*dowel/dowelref22.Maker).alt
instance : TFn Tryd.prog 64 := ⟨Tryd.call64⟩  -- (*dowel/dowelref22.Maker).seq
instance : TFn Tryd.prog 65 := ⟨Tryd.call65⟩  -- slices.Grow[dowel/api.Expr,dowel/api.Node]
instance : TFn Tryd.prog 67 := ⟨Tryd.call67⟩  -- dowel/pattern.one
instance : TFn Tryd.prog 68 := ⟨Tryd.call68⟩  -- dowel/pattern.null
instance : TFn Tryd.prog 69 := ⟨Tryd.call69⟩  -- (*dowel/pattern.maker).alt
instance : TFn Tryd.prog 70 := ⟨Tryd.call70⟩  -- (*dowel/pattern.maker).seq
instance : TFn Tryd.prog 71 := ⟨Tryd.call71⟩  -- dowel/dowelref22.Nulls
instance : TFn Tryd.prog 72 := ⟨Tryd.call72⟩  -- dowel/dowelref22.alternatives
instance : TFn Tryd.prog 73 := ⟨Tryd.call73⟩  -- dowel/dowelref22.same
instance : TFn Tryd.prog 74 := ⟨Tryd.call74⟩  -- (*dowel/dowelref22.Maker).made
instance : TFn Tryd.prog 75 := ⟨Tryd.call75⟩  -- dowel/dowelref22.joined
instance : TFn Tryd.prog 77 := ⟨Tryd.call77⟩  -- dowel/pattern.alternatives
instance : TFn Tryd.prog 78 := ⟨Tryd.call78⟩  -- slices.ContainsFunc[[]dowel/api.Pattern,dowel/api.Pattern]
instance : TFn Tryd.prog 79 := ⟨Tryd.call79⟩  -- (*dowel/pattern.maker).alt$1
instance : TFn Tryd.prog 80 := ⟨Tryd.call80⟩  -- dowel/pattern.same
instance : TFn Tryd.prog 81 := ⟨Tryd.call81⟩  -- (*dowel/pattern.maker).made
instance : TFn Tryd.prog 86 := ⟨Tryd.call86⟩  -- slices.IndexFunc[[]dowel/api.Pattern,dowel/api.Pattern]
instance : TFn Tryd.prog 87 := ⟨Tryd.call87⟩  -- slices.Concat[dowel/api.Pattern,dowel/api.Part]
instance : TFn Tryd.prog 93 := ⟨Tryd.call93⟩  -- slices.Grow[dowel/api.Pattern,dowel/api.Part]
end Go.AL
set_option linter.unusedVariables false
namespace Go.AL
open Go.Proofs
theorem eqt40 (d : Nat) : EqT Tryd.prog (d + 1) 40 [.int .u64] := eqT_scalar inferInstance ⟨_, Tryd.underlying40⟩
theorem eqt3 (d : Nat) : EqT Tryd.prog (d + 1) 3 [.int .i64] := eqT_scalar inferInstance ⟨_, Tryd.underlying3⟩
theorem eqt42 (d : Nat) : EqT Tryd.prog (d + 2) 42 [.int .u64, .int .u64, .int .u64, .int .u64] := eqT_array (n := 4) (e := 40) (k := .int .u64) inferInstance inferInstance (eqt40 d) (by kernel_rfl) (by kernel_rfl)
instance : TEq Tryd.prog 42 [.int .u64, .int .u64, .int .u64, .int .u64] := ⟨eqt42 9998, inferInstance, by kernel_rfl⟩
theorem eqt4 (d : Nat) : EqT Tryd.prog (d + 1) 4 [.bool] := eqT_scalar inferInstance Tryd.underlying4
theorem eqt9 (d : Nat) : EqT Tryd.prog (d + 1) 9 [.str] := eqT_scalar inferInstance Tryd.underlying9
theorem eqt44 (d : Nat) : EqT Tryd.prog (d + 3) 44 [.int .i64, .int .u64, .int .u64, .int .u64, .int .u64] :=
  eqT_struct' inferInstance Tryd.underlying44 (by kernel_rfl) (.cons (k1 := [_]) rfl (by decide) (eqt3 _) (.cons (k1 := [_, _, _, _]) (k2 := []) rfl (by decide) (eqt42 _) .nil))
instance : TEq Tryd.prog 44 [.int .i64, .int .u64, .int .u64, .int .u64, .int .u64] := ⟨eqt44 9997, inferInstance, by kernel_rfl⟩
theorem eqt58 (d : Nat) : EqT Tryd.prog (d + 3) 58 [.int .i64, .int .i64, .str, .bool, .int .u64, .int .u64, .int .u64, .int .u64, .int .i64, .int .i64] :=
  eqT_struct' inferInstance Tryd.underlying58 (by kernel_rfl) (.cons (k1 := [_]) rfl (by decide) (eqt3 _) (.cons (k1 := [_]) rfl (by decide) (eqt3 _) (.cons (k1 := [_]) rfl (by decide) (eqt9 _) (.cons (k1 := [_]) rfl (by decide) (eqt4 _) (.cons (k1 := [_, _, _, _]) rfl (by decide) (eqt42 _) (.cons (k1 := [_]) rfl (by decide) (eqt3 _) (.cons (k1 := [_]) (k2 := []) rfl (by decide) (eqt3 _) .nil)))))))
instance : TEq Tryd.prog 58 [.int .i64, .int .i64, .str, .bool, .int .u64, .int .u64, .int .u64, .int .u64, .int .i64, .int .i64] := ⟨eqt58 9997, inferInstance, by kernel_rfl⟩
end Go.AL
set_option linter.unusedVariables false
namespace Go.AL
open Go.Proofs
theorem Tryd_mixed : Tryd.prog.follows .mixedOrders = true := by rfl
def partsF (op : Int) : Int := if op == 0 || op == 1 || op == 2 then 0 else if op == 5 then 1 else if op == 3 || op == 4 then 2 else -1
structure Cls where
  c0 : Int
  c1 : Int
  c2 : Int
  c3 : Int
  deriving Inhabited, DecidableEq
structure Part where
  op : Int
  cl : Cls
  deriving Inhabited, DecidableEq
def encPart (x : Part) : List PV := [.lit (.int .i64 x.op), .lit (.int .u64 x.cl.c0), .lit (.int .u64 x.cl.c1), .lit (.int .u64 x.cl.c2), .lit (.int .u64 x.cl.c3)]
abbrev pat (xs : List Part) : AV := .c (.p (.sl 5 (xs.map encPart)))
set_option maxRecDepth 10000
attribute [local irreducible] AWp AList RStep seqQ blockQ retQ
theorem parts_c (op : Int) : ACalls Tryd.prog 49 [i64 op] [] (fun r _ => r = .ret (i64 (partsF op))) := by
  refine acalls_by Tryd.func49 Tryd.ntmps49 ?_
  simp only [argFr]
  repeat' (first
    | (show lOp; refine op0 (by first | (show kAssign; exact b_assign) | (show kMove; exact b_move) | (show kBinopEql; exact b_eql)) ?_)
    | (show lNil; refine al_nil ?_)
    | (show qSeq; first | refine n_seq ?_ | refine p_seq ?_)
    | (show qBlk; first | refine n_block ?_ | refine p_block ?_)
    | (show cReg; refine aw_reg ?_)
    | (show cSeq; refine aw_seq ?_)
    | (show cBlk; refine aw_block ?_)
    | (show cSkip; refine aw_skip ?_)
    | (show cRet; refine aw_ret ?_)
    | (show cIf; first | refine aw_T ?_ | refine aw_ifD (fun h => ?_) (fun h => ?_))
    | (show eRet; refine ret1 Tryd.results49 ?_))
  all_goals simp_all [partsF]
theorem top_c (xs : List Part) (h : xs.length ≤ 1000000000) (h1 : 0 < xs.length) : ACalls Tryd.prog 28 [pat xs] [] (fun r _ => r = .ret (i64 (at' xs (xs.length - 1)).op)) := by
  refine acalls_by Tryd.func28 Tryd.ntmps28 ?_
  simp only [argFr]
  repeat' (first
    | (show lOp; refine op0 (by first | (show kAssign; exact b_assign) | (show kMove; exact b_move) | (show kCall; exact m_lenSl) | (show kLoad; exact b_loadRp) | (show kFieldaddr; exact b_fieldRp) | (show kIndexaddr; exact m_indexSl) | (show kBinopSub; exact b_sub)) ?_)
    | (show lNil; refine al_nil ?_)
    | (show qSeq; refine n_seq ?_)
    | (show cReg; refine aw_reg ?_)
    | (show cSeq; refine aw_seq ?_)
    | (show cRet; refine aw_ret ?_)
    | (show eRet; refine ret1 Tryd.results28 ?_))
  all_goals rfl
def beginGo (xs : List Part) : Nat → Int → Option Nat
  | 0, need => if need + (partsF (at' xs (0 : Nat)).op - 1) = 0 then some 0 else none
  | i + 1, need => if need + (partsF (at' xs ((i + 1 : Nat) : Int)).op - 1) = 0 then some (i + 1) else beginGo xs i (need + (partsF (at' xs ((i + 1 : Nat) : Int)).op - 1))
theorem partsF_range (op : Int) : -1 ≤ partsF op ∧ partsF op ≤ 2 := by unfold partsF; split <;> (try split) <;> (try split) <;> omega
theorem beginGo_hit {xs : List Part} {j r : Nat} {need : Int} (h : beginGo xs j need = some r) (hb : need + (partsF (at' xs (j : Int)).op - 1) = 0) : r = j := by
  cases j <;> simp only [beginGo] at h <;> rw [if_pos hb] at h <;> simp_all
theorem beginGo_next {xs : List Part} {j r : Nat} {need : Int} (h : beginGo xs j need = some r) (hb : ¬ need + (partsF (at' xs (j : Int)).op - 1) = 0) : 0 < j ∧ beginGo xs (j - 1) (need + (partsF (at' xs (j : Int)).op - 1)) = some r := by
  cases j <;> simp only [beginGo] at h <;> rw [if_neg hb] at h <;> simp_all
theorem begin_c (xs : List Part) (i : Int) (r : Nat) (h : xs.length ≤ 1000000000) (h0 : 0 ≤ i) (h1 : i < xs.length) (hr : beginGo xs i.toNat 1 = some r) : ACalls Tryd.prog 54 [pat xs, i64 i] [] (fun x _ => x = .ret (i64 r)) := by
  obtain ⟨i, rfl⟩ := Int.eq_ofNat_of_zero_le h0
  simp only [Int.toNat_natCast] at hr
  refine acalls_by Tryd.func54 Tryd.ntmps54 ?_
  simp only [argFr]
  repeat' (first
    | (show lOp; refine op0 (by (show kAssign; exact b_assign)) ?_)
    | (show lNil; refine al_nil ?_)
    | (show qSeq; refine n_seq ?_)
    | (show cReg; refine aw_reg ?_)
    | (show cSeq; refine aw_seq ?_)
    | (show cBlk; refine aw_block ?_))
  refine aw_rounds (ι := Nat × Int) (fun p => [(0, pat xs), (1, i64 p.1), (5, i64 p.2)]) (fun _ => []) (fun p => p.1 ≤ i ∧ -2 * ((i : Int) - p.1) ≤ p.2 ∧ p.2 ≤ 1 + ((i : Int) - p.1) ∧ beginGo xs p.1 p.2 = some r) (fun p => p.1) (i, 1) ⟨Nat.le_refl _, by omega, by omega, hr⟩ rfl ?_ ?_
  · simp [Fr.get]
  · rintro ⟨j, need⟩ ⟨g1, g2, g3, g4⟩
    dsimp only at g1 g2 g3 g4 ⊢
    have hp := partsF_range (at' xs (j : Int)).op
    repeat' (first
      | (show lOp; refine op0 (by first | (show kAssign; exact b_assign) | (show kMove; exact b_move) | (show kCall; exact b_call (parts_c _)) | (show kLoad; exact b_loadRp) | (show kFieldaddr; exact b_fieldRp) | (show kIndexaddr; exact m_indexSl) | (show kBinopAdd; exact b_add) | (show kBinopSub; exact b_sub) | (show kBinopEql; exact b_eql)) ?_)
      | (show lNil; refine al_nil ?_)
      | (show qSeq; first | refine n_seq ?_ | refine p_seq ?_)
      | (show qBlk; first | refine n_block ?_ | refine p_block ?_)
      | (show cReg; refine aw_reg ?_)
      | (show cSeq; refine aw_seq ?_)
      | (show cBlk; refine aw_block ?_)
      | (show cSkip; refine aw_skip ?_)
      | (show cRet; refine aw_ret ?_)
      | (show cIf; refine aw_ifD (fun h => ?_) (fun h => ?_))
      | (show eRet; refine ret1 Tryd.results54 ?_))
    · have hb : need + (partsF (at' xs (j : Int)).op - 1) = 0 := by omega
      rw [beginGo_hit g4 hb]
    · have hb : ¬ need + (partsF (at' xs (j : Int)).op - 1) = 0 := by omega
      have ⟨p1, p2⟩ := beginGo_next g4 hb
      exact ⟨(j - 1, _), ⟨by dsimp only; omega, by dsimp only; omega, by dsimp only; omega, p2⟩, rfl, by simp [Fr.get]; omega, by dsimp only; omega⟩
end Go.AL
set_option linter.unusedVariables false
namespace Go.AL
open Go.Proofs
set_option maxRecDepth 10000
attribute [local irreducible] AWp AList RStep seqQ blockQ retQ DSteps
theorem drop_at {α : Type} [Inhabited α] (xs : List α) (k : Nat) (h : k < xs.length) : xs.drop k = at' xs (k : Int) :: xs.drop (k + 1) := by
  rw [List.drop_eq_getElem_cons h]
  simp [at', List.getD_eq_getElem?_getD, h]
def Cls.isZero (c : Cls) : Bool := c.c0 == 0 && (c.c1 == 0 && (c.c2 == 0 && c.c3 == 0))
def badPart (n : Part) (deep : Int) : Bool := decide (partsF n.op < 0) || decide (partsF n.op > deep) || (n.op != 2 && !n.cl.isZero)
def shapedGo : List Part → Int → Bool
  | [], deep => deep == 1
  | n :: r, deep => if badPart n deep then false else shapedGo r (deep + (1 - partsF n.op))
theorem shaped_c (xs : List Part) (h : xs.length ≤ 1000000000) : ACalls Tryd.prog 26 [pat xs] [] (fun x _ => x = .ret (bl (shapedGo xs 0))) := by
  refine acalls_by Tryd.func26 Tryd.ntmps26 ?_
  simp only [argFr]
  repeat' (first
    | (show lOp; refine op0 (by first | (show kAssign; exact b_assign) | (show kMove; exact b_move) | (show kCall; exact m_lenSl)) ?_)
    | (show lNil; refine al_nil ?_)
    | (show qSeq; refine n_seq ?_)
    | (show cReg; refine aw_reg ?_)
    | (show cSeq; refine aw_seq ?_)
    | (show cBlk; refine aw_block ?_))
  refine aw_roundsG (ι := Nat × Int) (fun i n => [(3, i64 i.2), (7, pat xs), (8, i64 xs.length), (9, i64 i.1)]) (fun _ _ => []) (fun i => i.1 ≤ xs.length ∧ -2 * (i.1 : Int) ≤ i.2 ∧ i.2 ≤ 2 * i.1 ∧ shapedGo (xs.drop i.1) i.2 = shapedGo xs 0) (fun i => xs.length - i.1) (0, 0) 0 ⟨by simp, by simp, by simp, by simp⟩ (by simp) rfl (by simp [Fr.get]) ?_
  rintro ⟨k, deep⟩ n g ⟨g1, g2, g3, g4⟩ hg
  dsimp only at g1 g2 g3 g4 ⊢
  repeat' (first
    | (show lAlloc; refine k_alloc ?_)
    | (show lStore; refine k_store ?_)
    | (show lOp; refine op0 (by first | (show kAssign; exact b_assign) | (show kMove; exact b_move) | (show kCall; exact b_call (parts_c _)) | (show kLoad; first | exact b_loadRp | exact b_loadPtr) | (show kFieldaddr; exact b_fieldPtr) | (show kIndexaddr; exact m_indexSl) | (show kBinopAdd; exact b_add) | (show kBinopSub; exact b_sub) | (show kBinopEql; exact b_eql) | (show kBinopNeq; first | exact b_neq | exact b_neqAgg) | (show kBinopLss; exact b_lss) | (show kBinopGtr; exact b_gtr) | (show kPick; first | exact b_pickT | exact b_pickF) | (show kBuild; exact b_buildArr)) ?_)
    | (show lGu; first | refine al_yes ?_ | refine al_none ?_ | refine al_noneU ?_ | refine al_splitD (fun h => ?_) (fun h => ?_))
    | (show lNil; refine al_nil ?_)
    | (show qSeq; first | refine n_seq ?_ | refine p_seq ?_ | refine x_seq ?_)
    | (show qBlk; first | refine n_block ?_ | refine p_block ?_ | refine x_eq ?_)
    | (show cReg; refine aw_reg ?_)
    | (show cSeq; refine aw_seq ?_)
    | (show cBlk; refine aw_block ?_)
    | (show cSkip; refine aw_skip ?_)
    | (show cExit; refine aw_exit ?_)
    | (show cRet; refine aw_ret ?_)
    | (show cIf; first | refine aw_T ?_ | refine aw_F ?_ | refine aw_ifD (fun h => ?_) (fun h => ?_) | refine aw_if (fun h => ?_) (fun h => ?_))
    | (show eRet; refine ret1 Tryd.results26 ?_))
  · have hb : badPart (at' xs ↑k) deep = true := by simp_all [badPart]
    rw [← g4, drop_at xs k (by omega), shapedGo, if_pos hb]
  · have hb : badPart (at' xs ↑k) deep = true := by simp_all [badPart]
    rw [← g4, drop_at xs k (by omega), shapedGo, if_pos hb]
  · have hb : badPart (at' xs ↑k) deep = true := by simp_all [badPart, Cls.isZero]
    rw [← g4, drop_at xs k (by omega), shapedGo, if_pos hb]
  · have hb : badPart (at' xs ↑k) deep = false := by simp_all [badPart, Cls.isZero]
    rw [drop_at xs k (by omega), shapedGo, if_neg (by simp [hb])] at g4
    have hp := partsF_range (at' xs (k : Int)).op
    exact ⟨(k + 1, _), _, ⟨by dsimp only; omega, by dsimp only; omega, by dsimp only; omega, g4⟩, Nat.le_refl _, List.drop_length, by simp [Fr.get], by dsimp only; omega⟩
  · have hb : badPart (at' xs ↑k) deep = false := by simp_all [badPart, Cls.isZero]
    rw [drop_at xs k (by omega), shapedGo, if_neg (by simp [hb])] at g4
    have hp := partsF_range (at' xs (k : Int)).op
    exact ⟨(k + 1, _), _, ⟨by dsimp only; omega, by dsimp only; omega, by dsimp only; omega, g4⟩, Nat.le_refl _, List.drop_length, by simp [Fr.get], by dsimp only; omega⟩
  · rw [← g4, List.drop_of_length_le (by omega), shapedGo]; rfl
end Go.AL
set_option linter.unusedVariables false
namespace Go.AL
open Go.Proofs
set_option maxRecDepth 10000
attribute [local irreducible] AWp AList RStep seqQ blockQ retQ DSteps
theorem one_c (op : Int) : ACalls Tryd.prog 67 [i64 op] [] (fun x _ => x = .ret (pat [⟨op, default⟩])) := by
  refine acalls_by Tryd.func67 Tryd.ntmps67 ?_
  simp only [argFr]
  repeat' (first
    | (show lOp; refine op0 (by first | (show kAssign; exact b_assign) | (show kMove; exact b_move) | (show kBuild; exact b_buildSt) | (show kBuildslice; exact b_buildSl1)) ?_)
    | (show lNil; refine al_nil ?_)
    | (show qSeq; refine n_seq ?_)
    | (show cReg; refine aw_reg ?_)
    | (show cSeq; refine aw_seq ?_)
    | (show cRet; refine aw_ret ?_)
    | (show eRet; refine ret1 Tryd.results67 ?_))
  all_goals rfl
theorem split_c (xs : List Part) (r : Nat) (h : xs.length ≤ 1000000000) (h1 : 2 ≤ xs.length) (hr : beginGo xs (xs.length - 2) 1 = some r) (hr2 : r ≤ xs.length - 1) : ACalls Tryd.prog 30 [pat xs] [] (fun x _ => x = .ret (.tup [pat (xs.take r), pat ((xs.take (xs.length - 1)).drop r)])) := by
  have hc := begin_c xs ((xs.length : Int) - 1 - 1) r h (by omega) (by omega) (by rw [← hr]; congr 1; omega)
  refine acalls_by Tryd.func30 Tryd.ntmps30 ?_
  simp only [argFr]
  repeat' (first
    | (show lOp; refine op0 (by first | (show kAssign; exact b_assign) | (show kMove; exact b_move) | (show kCall; first | exact b_call (hc) | exact m_lenSl) | (show kBinopSub; exact b_sub)) ?_)
    | (show lNil; refine al_nil ?_)
    | (show qSeq; refine n_seq ?_)
    | (show cReg; refine aw_reg ?_)
    | (show cSeq; refine aw_seq ?_)
    | (show cRet; refine aw_ret ?_)
    | (show cRegD; refine aw_drN Tryd_mixed ?_)
    | (show dOp; refine ds_op (by first | (show kAssign; exact b_assign) | (show kMove; exact b_move) | (show kSlice; first | exact m_sliceSl | exact m_sliceSlH)) ?_)
    | (show dNil; refine ds_nil ?_)
    | (show eRet; refine ret2 Tryd.results30 ?_))
  rw [show ((xs.length : Int) - 1).toNat = xs.length - 1 by omega]
  rfl
def halfF (a : Int) (b : Bool) : Int := if b then IntKind.i64.wrap (a + 1) else a
theorem half_c (a op : Int) (b : Bool) : ACalls Tryd.prog 50 [.agg [.p (.lit (.int .i64 a)), .p (.lit (.int .i64 op))], bl b] [] (fun x _ => x = .ret (i64 (halfF a b))) := by
  refine acalls_by Tryd.func50 Tryd.ntmps50 ?_
  simp only [argFr]
  repeat' (first
    | (show lBox; refine k_box ?_)
    | (show lOp; refine op0 (by first | (show kAssign; exact b_assign) | (show kMove; exact b_move) | (show kLoad; exact b_loadPtr) | (show kFieldaddr; exact b_fieldPtr) | (show kBinopAdd; exact b_addW)) ?_)
    | (show lNil; refine al_nil ?_)
    | (show qSeq; first | refine n_seq ?_ | refine p_seq ?_)
    | (show cReg; refine aw_reg ?_)
    | (show cSeq; refine aw_seq ?_)
    | (show cSkip; refine aw_skip ?_)
    | (show cRet; refine aw_ret ?_)
    | (show cIf; refine aw_if (fun h => ?_) (fun h => ?_))
    | (show eRet; refine ret1 Tryd.results50 ?_))
  all_goals simp_all [halfF]
theorem halfF_eq (a : Int) (b : Bool) : halfF a b = if b then IntKind.i64.wrap (a + 1) else a := rfl
attribute [local irreducible] halfF
abbrev encH (p : Int × Int) : List PV := [.lit (.int .i64 p.1), .lit (.int .i64 p.2)]
instance : Inhabited (Int × Int) := ⟨(0, 0)⟩
/-- The depth of what a node makes of the two parts that lie from k on. -/
def depthX (op : Int) (a b : Int × Int) : Int :=
  if op = 1 then 1
  else if op = 5 then (if a.2 = 3 ∨ a.2 = 4 then a.1 + 1 else a.1)
  else if op = 3 then max (if a.2 = 3 ∨ a.2 = 4 then a.1 + 1 else a.1) (if b.2 = 4 then b.1 + 1 else b.1)
  else if op = 4 then max (if a.2 = 4 then a.1 + 1 else a.1) b.1
  else 0
def depthStep (n : Part) (hs : List (Int × Int)) : List (Int × Int) :=
  let k := hs.length - (partsF n.op).toNat
  hs.take k ++ [(depthX n.op (at' hs (k : Int)) (at' hs ((k : Int) + 1)), n.op)]
def depthGo : List Part → List (Int × Int) → Int
  | [], hs => (at' hs 0).1
  | n :: r, hs => depthGo r (depthStep n hs)
theorem at'_mem {α : Type} [Inhabited α] {xs : List α} {i : Int} (h0 : 0 ≤ i) (h1 : i < xs.length) : at' xs i ∈ xs := by
  have := at_get xs i h0 h1
  exact List.mem_of_getElem? this
theorem at'_prop {α : Type} [Inhabited α] {xs : List α} {p : α → Prop} (h : ∀ x ∈ xs, p x) (hd : p default) (i : Int) : p (at' xs i) := by
  simp only [at', List.getD_eq_getElem?_getD]
  cases hx : xs[i.toNat]? with
  | none => exact hd
  | some x => exact h x (List.mem_of_getElem? hx)
theorem shapedGo_next {xs : List Part} {k : Nat} {deep : Int} (h : shapedGo (xs.drop k) deep = true) (hk : k < xs.length) : 0 ≤ partsF (at' xs (k : Int)).op ∧ partsF (at' xs (k : Int)).op ≤ deep ∧ shapedGo (xs.drop (k + 1)) (deep + (1 - partsF (at' xs (k : Int)).op)) = true := by
  rw [drop_at xs k hk, shapedGo] at h
  split at h
  · cases h
  · rename_i hb
    simp only [badPart, Bool.or_eq_true, decide_eq_true_eq, not_or] at hb
    exact ⟨by omega, by omega, h⟩
theorem shapedGo_end {xs : List Part} {k : Nat} {deep : Int} (h : shapedGo (xs.drop k) deep = true) (hk : ¬ k < xs.length) : deep = 1 := by
  rw [List.drop_of_length_le (by omega), shapedGo] at h
  simpa using h
theorem depthX_range {op : Int} {a b : Int × Int} {k : Nat} (ha : 0 ≤ a.1 ∧ a.1 ≤ k) (hb : 0 ≤ b.1 ∧ b.1 ≤ k) : 0 ≤ depthX op a b ∧ depthX op a b ≤ k + 1 := by
  unfold depthX
  repeat' split
  all_goals omega
theorem depth_c (xs : List Part) (h : xs.length ≤ 1000000) (hs : shapedGo xs 0 = true) : ACalls Tryd.prog 27 [pat xs] [] (fun x _ => x = .ret (i64 (depthGo xs []))) := by
  refine acalls_by Tryd.func27 Tryd.ntmps27 ?_
  simp only [argFr]
  repeat' (first
    | (show lOp; refine op0 (by first | (show kAssign; exact b_assign) | (show kMove; exact b_move) | (show kCall; exact m_lenSl)) ?_)
    | (show lNil; refine al_nil ?_)
    | (show qSeq; refine n_seq ?_)
    | (show cReg; refine aw_reg ?_)
    | (show cSeq; refine aw_seq ?_)
    | (show cBlk; refine aw_block ?_))
  refine kw_own 3 99 2 ?_
  refine aw_roundsG (ι := Nat × List (Int × Int)) (fun i n => [(4, .c (.p (.lit (.func (.func 50) #[] #[])))), (9, pat xs), (10, i64 xs.length), (11, i64 i.1), (3, .c (.ms (n + 0) i.2.length))]) (fun i n => [.arr 99 2 (i.2.map encH)]) (fun i => i.1 ≤ xs.length ∧ i.2.length ≤ i.1 ∧ (∀ p ∈ i.2, 0 ≤ p.1 ∧ p.1 ≤ i.1) ∧ shapedGo (xs.drop i.1) i.2.length = true ∧ depthGo (xs.drop i.1) i.2 = depthGo xs []) (fun i => xs.length - i.1) (0, []) 0 ⟨by simp, by simp, by simp, by simpa using hs, by simp⟩ (by simp) rfl (by simp [Fr.get]) ?_
  rintro ⟨k, hs⟩ n g ⟨g1, g2, g3, g4, g5⟩ hg
  dsimp only at g1 g2 g3 g4 g5 ⊢
  have hp := partsF_range (at' xs (k : Int)).op
  have f1 : (k : Int) < xs.length → 0 ≤ partsF (at' xs (k : Int)).op ∧ partsF (at' xs (k : Int)).op ≤ hs.length := fun hk => by
    have := shapedGo_next g4 (by omega); exact ⟨this.1, this.2.1⟩
  have f2 : ¬ (k : Int) < xs.length → hs.length = 1 := fun hk => by have := shapedGo_end g4 (by omega); omega
  have f3 : (at' xs (k : Int)).op = 5 → partsF (at' xs (k : Int)).op = 1 := fun e => by rw [e]; rfl
  have f4 : (at' xs (k : Int)).op = 3 → partsF (at' xs (k : Int)).op = 2 := fun e => by rw [e]; rfl
  have f5 : (at' xs (k : Int)).op = 4 → partsF (at' xs (k : Int)).op = 2 := fun e => by rw [e]; rfl
  have q1 : ∀ i : Int, 0 ≤ (at' hs i).1 ∧ (at' hs i).1 ≤ k := at'_prop (p := fun p : Int × Int => 0 ≤ p.1 ∧ p.1 ≤ k) g3 (by show (0:Int) ≤ 0 ∧ (0:Int) ≤ k; omega)
  have q2 : ∀ i : Int, IntKind.i64.wrap ((at' hs i).1 + 1) = (at' hs i).1 + 1 := fun i => wrap_in (by have := q1 i; unfold InR; omega)
  have next : (k : Int) < xs.length → ∀ X, X = depthX (at' xs (k : Int)).op (at' hs (hs.length - partsF (at' xs (k : Int)).op)) (at' hs (hs.length - partsF (at' xs (k : Int)).op + 1)) →
      ∃ hs', hs' = hs.take (hs.length - partsF (at' xs (k : Int)).op).toNat ++ [(X, (at' xs (k : Int)).op)] ∧ hs'.length = (hs.length - partsF (at' xs (k : Int)).op).toNat + 1 ∧ hs'.length ≤ k + 1 ∧ (∀ p ∈ hs', 0 ≤ p.1 ∧ p.1 ≤ ((k + 1 : Nat) : Int)) ∧ shapedGo (xs.drop (k + 1)) hs'.length = true ∧ depthGo (xs.drop (k + 1)) hs' = depthGo xs [] := fun hk X hX => by
    have hk' : k < xs.length := by omega
    have h1 := f1 hk
    have hl : (hs.take (hs.length - partsF (at' xs (k : Int)).op).toNat ++ [(X, (at' xs (k : Int)).op)]).length = (hs.length - partsF (at' xs (k : Int)).op).toNat + 1 := by simp; omega
    refine ⟨_, rfl, hl, ?_, ?_, ?_, ?_⟩
    · rw [hl]; by_cases hz : partsF (at' xs (k : Int)).op = 0 <;> omega
    · intro p hp
      rcases List.mem_append.1 hp with hp | hp
      · have := g3 p (List.mem_of_mem_take hp); omega
      · rw [List.mem_singleton.1 hp, hX]; have := depthX_range (op := (at' xs (k : Int)).op) (q1 (hs.length - partsF (at' xs (k : Int)).op)) (q1 (hs.length - partsF (at' xs (k : Int)).op + 1)); simp only; omega
    · have := (shapedGo_next g4 hk').2.2
      rw [hl]; rw [← this]; congr 1; omega
    · rw [← g5, drop_at xs k hk', depthGo]
      have e : hs.length - (partsF (at' xs (k : Int)).op).toNat = (hs.length - partsF (at' xs (k : Int)).op).toNat := by omega
      have e2 : (((hs.length - partsF (at' xs (k : Int)).op).toNat : Nat) : Int) = hs.length - partsF (at' xs (k : Int)).op := by omega
      simp only [depthStep, e, e2, hX]
  repeat' (first
    | (show lAlloc; refine k_alloc ?_)
    | (show lStore; refine k_store ?_)
    | (show lCall; refine k_app1 (f := encH) (_, (at' xs (k : Int)).op) ?_)
    | (show lOp; refine op0 (by first | (show kAssign; exact b_assign) | (show kMove; exact b_move) | (show kCall; first | exact b_call (parts_c _) | exact b_lenMs) | (show kLoad; first | exact b_loadRp | exact b_loadPtr | exact m_loadEpt) | (show kFieldaddr; first | exact b_fieldPtr | exact b_fieldEpt) | (show kIndexaddr; first | exact m_indexSl | exact m_indexMs) | (show kBinopAdd; exact b_add) | (show kBinopSub; exact b_sub) | (show kBinopEql; exact b_eql) | (show kBinopLss; exact b_lss) | (show kBuild; exact b_buildSt)) ?_)
    | (show lNil; refine al_nil ?_)
    | (show qSeq; first | refine n_seq ?_ | refine x_seq ?_)
    | (show qBlk; first | refine n_block ?_ | refine x_eq ?_)
    | (show cReg; refine aw_reg ?_)
    | (show cSeq; refine aw_seq ?_)
    | (show cBlk; refine aw_block ?_)
    | (show cSkip; refine aw_skip ?_)
    | (show cExit; refine aw_exit ?_)
    | (show cRet; refine aw_ret ?_)
    | (show cIf; refine aw_ifD (fun h => ?_) (fun h => ?_))
    | (show cRegD; refine aw_drN Tryd_mixed ?_)
    | (show dOp; refine ds_op (by first | (show kMove; exact b_move) | (show kCall; first | exact b_call (half_c _ _ _) | exact b_max) | (show kLoad; first | exact b_loadPtr | exact m_loadEpt) | (show kFieldaddr; first | exact b_fieldPtr | exact b_fieldEpt) | (show kIndexaddr; exact m_indexMs) | (show kBinopAdd; exact b_add) | (show kBinopEql; exact b_eql) | (show kPick; first | exact b_pickT | exact b_pickF) | (show kSlice; exact m_sliceMs) | (show kBuildslice; exact b_buildSl1)) ?_)
    | (show dGu; first | refine ds_none ?_ | (refine ds_yes (by first | (show kMove; exact b_move) | (show kLoad; exact m_loadEpt) | (show kFieldaddr; exact b_fieldEpt) | (show kIndexaddr; exact m_indexMs) | (show kBinopEql; exact b_eql)) ?_) | refine ds_splitD (fun h => ?_) (fun h => ?_))
    | (show dNil; refine ds_nil ?_)
    | (show eRet; refine ret1 Tryd.results27 ?_))
  rotate_right 1
  · have := f2 h
    rw [← g5, List.drop_of_length_le (by omega), depthGo]
  all_goals
    obtain ⟨hs', e1, e2, e3, e4, e5, e6⟩ := next (by assumption) _ rfl
    refine ⟨(k + 1, hs'), n + 3, ⟨by dsimp only; omega, e3, e4, e5, e6⟩, by simp [hg], dropG0 hg ?_, by simp [Fr.get, e2], by dsimp only; omega⟩
    rw [e1]
    have q3 := q2 (hs.length - partsF (at' xs (k : Int)).op)
    have q4 := q2 (hs.length - partsF (at' xs (k : Int)).op + 1)
    simp only [List.drop, List.map_append, List.map_cons, List.map_nil]
    clear next e1 e2 e3 e4 e5 e6 q1 q2 f1 f2 f3 f4 f5 g4 g5 g3 hp
    generalize (hs.length : Int) - partsF (at' xs (k : Int)).op = K at *
    generalize at' hs K = a at *
    generalize at' hs (K + 1) = b at *
    generalize (at' xs (k : Int)).op = op at *
    simp [depthX, halfF_eq, *]
end Go.AL
set_option linter.unusedVariables false
namespace Go.AL
open Go.Proofs
set_option maxRecDepth 10000
attribute [local irreducible] AWp AList RStep seqQ blockQ retQ DSteps
def stStep {β : Type} [Inhabited β] (f : Part → β → β → β) (n : Part) (hs : List β) : List β :=
  let k := hs.length - (partsF n.op).toNat
  hs.take k ++ [f n (at' hs (k : Int)) (at' hs ((k : Int) + 1))]
def stGo {β : Type} [Inhabited β] (f : Part → β → β → β) : List Part → List β → List β
  | [], hs => hs
  | n :: r, hs => stGo f r (stStep f n hs)
theorem stGo_next {β : Type} [Inhabited β] (f : Part → β → β → β) {xs : List Part} {k : Nat} {hs : List β} (g2 : hs.length ≤ k) (g4 : shapedGo (xs.drop k) hs.length = true) (hk : (k : Int) < xs.length) (X : β)
    (hX : X = f (at' xs (k : Int)) (at' hs (hs.length - partsF (at' xs (k : Int)).op)) (at' hs (hs.length - partsF (at' xs (k : Int)).op + 1))) :
    ∃ hs', hs' = hs.take (hs.length - partsF (at' xs (k : Int)).op).toNat ++ [X] ∧ hs'.length = (hs.length - partsF (at' xs (k : Int)).op).toNat + 1 ∧ hs'.length ≤ k + 1 ∧ shapedGo (xs.drop (k + 1)) hs'.length = true ∧ stGo f (xs.drop (k + 1)) hs' = stGo f (xs.drop k) hs := by
  have hk' : k < xs.length := by omega
  obtain ⟨p1, p2, p3⟩ := shapedGo_next g4 hk'
  have hl : (hs.take (hs.length - partsF (at' xs (k : Int)).op).toNat ++ [X]).length = (hs.length - partsF (at' xs (k : Int)).op).toNat + 1 := by simp; omega
  refine ⟨_, rfl, hl, ?_, ?_, ?_⟩
  · rw [hl]; by_cases hz : partsF (at' xs (k : Int)).op = 0 <;> omega
  · rw [hl]; rw [← p3]; congr 1; omega
  · rw [drop_at xs k hk', stGo]
    have e : hs.length - (partsF (at' xs (k : Int)).op).toNat = (hs.length - partsF (at' xs (k : Int)).op).toNat := by omega
    have e2 : (((hs.length - partsF (at' xs (k : Int)).op).toNat : Nat) : Int) = hs.length - partsF (at' xs (k : Int)).op := by omega
    simp only [stStep, e, e2, hX]
theorem parts_next {xs : List Part} {k : Nat} {n : Nat} (g4 : shapedGo (xs.drop k) n = true) : ((k : Int) < xs.length → 0 ≤ partsF (at' xs (k : Int)).op ∧ partsF (at' xs (k : Int)).op ≤ n) ∧ (¬ (k : Int) < xs.length → n = 1) ∧ ((at' xs (k : Int)).op = 5 → partsF (at' xs (k : Int)).op = 1) ∧ ((at' xs (k : Int)).op = 3 → partsF (at' xs (k : Int)).op = 2) ∧ ((at' xs (k : Int)).op = 4 → partsF (at' xs (k : Int)).op = 2) := by
  refine ⟨fun hk => ?_, fun hk => ?_, fun e => by rw [e]; rfl, fun e => by rw [e]; rfl, fun e => by rw [e]; rfl⟩
  · have := shapedGo_next g4 (by omega); exact ⟨this.1, this.2.1⟩
  · have := shapedGo_end g4 (by omega); omega
def nullX (n : Part) (a b : Bool) : Bool := if n.op = 3 then a && b else if n.op = 4 then a || b else decide (n.op = 1) || decide (n.op = 5)
abbrev encB (b : Bool) : List PV := [.lit (.bool b)]
theorem null_c (xs : List Part) (h : xs.length ≤ 1000000) (hs : shapedGo xs 0 = true) : ACalls Tryd.prog 68 [pat xs] [] (fun x _ => x = .ret (bl (at' (stGo nullX xs []) 0))) := by
  refine acalls_by Tryd.func68 Tryd.ntmps68 ?_
  simp only [argFr]
  repeat' (first
    | (show lOp; refine op0 (by first | (show kAssign; exact b_assign) | (show kMove; exact b_move) | (show kCall; exact m_lenSl)) ?_)
    | (show lNil; refine al_nil ?_)
    | (show qSeq; refine n_seq ?_)
    | (show cReg; refine aw_reg ?_)
    | (show cSeq; refine aw_seq ?_)
    | (show cBlk; refine aw_block ?_))
  refine kw_own 3 4 1 ?_
  refine aw_roundsG (ι := Nat × List Bool) (fun i n => [(8, pat xs), (9, i64 xs.length), (10, i64 i.1), (3, .c (.ms (n + 0) i.2.length))]) (fun i n => [.arr 4 1 (i.2.map encB)]) (fun i => i.1 ≤ xs.length ∧ i.2.length ≤ i.1 ∧ shapedGo (xs.drop i.1) i.2.length = true ∧ stGo nullX (xs.drop i.1) i.2 = stGo nullX xs []) (fun i => xs.length - i.1) (0, []) 0 ⟨by simp, by simp, by simpa using hs, by simp⟩ (by simp) rfl (by simp [Fr.get]) ?_
  rintro ⟨k, hs⟩ n g ⟨g1, g2, g4, g5⟩ hg
  dsimp only at g1 g2 g4 g5 ⊢
  have hp := partsF_range (at' xs (k : Int)).op
  obtain ⟨f1, f2, f3, f4, f5⟩ := parts_next g4
  repeat' (first
    | (show lAlloc; refine k_alloc ?_)
    | (show lStore; refine k_store ?_)
    | (show lCall; refine k_app1 (f := encB) _ ?_)
    | (show lOp; refine op0 (by first | (show kAssign; exact b_assign) | (show kMove; exact b_move) | (show kCall; first | exact b_call (parts_c _) | exact b_lenMs) | (show kLoad; first | exact b_loadRp | exact b_loadPtr | exact m_loadEpt) | (show kFieldaddr; exact b_fieldPtr) | (show kIndexaddr; first | exact m_indexSl | exact m_indexMs) | (show kBinopAdd; exact b_add) | (show kBinopSub; exact b_sub) | (show kBinopEql; exact b_eql) | (show kBinopLss; exact b_lss) | (show kPick; first | exact b_pickT | exact b_pickF) | (show kSlice; exact m_sliceMs) | (show kBuildslice; exact b_buildSl1)) ?_)
    | (show lGu; first | refine al_yes ?_ | refine al_none ?_ | refine al_splitD (fun h => ?_) (fun h => ?_) | refine al_split (fun h => ?_) (fun h => ?_))
    | (show lNil; refine al_nil ?_)
    | (show qSeq; first | refine n_seq ?_ | refine x_seq ?_)
    | (show qBlk; first | refine n_block ?_ | refine x_eq ?_)
    | (show cReg; refine aw_reg ?_)
    | (show cSeq; refine aw_seq ?_)
    | (show cBlk; refine aw_block ?_)
    | (show cSkip; refine aw_skip ?_)
    | (show cExit; refine aw_exit ?_)
    | (show cRet; refine aw_ret ?_)
    | (show cIf; refine aw_ifD (fun h => ?_) (fun h => ?_))
    | (show eRet; refine ret1 Tryd.results68 ?_)
    | (exfalso; omega))
  rotate_right 1
  · have := f2 h
    rw [← g5, List.drop_of_length_le (by omega), stGo]
  all_goals
    obtain ⟨hs', e1, e2, e3, e5, e6⟩ := stGo_next nullX g2 g4 (by assumption) _ rfl
    refine ⟨(k + 1, hs'), n + 2, ⟨by dsimp only; omega, e3, e5, by rw [← g5]; exact e6⟩, by simp [hg], dropG0 hg ?_, by simp [Fr.get, e2], by dsimp only; omega⟩
    rw [e1]
    simp only [List.drop, List.map_append, List.map_cons, List.map_nil]
    clear e1 e2 e3 e5 e6 f1 f2 f3 f4 f5 g4 g5 hp
    simp only [nullX]
    generalize (hs.length : Int) - partsF (at' xs (k : Int)).op = K at *
    generalize at' hs K = a at *
    generalize at' hs (K + 1) = b at *
    generalize (at' xs (k : Int)).op = op at *
    first
      | omega
      | (simp [*]; done)
      | (subst_vars; simp)
end Go.AL
set_option linter.unusedVariables false
set_option linter.unusedSimpArgs false
namespace Go.AL
inductive T where
  | none | emp
  | cls (c : Cls)
  | seq (a b : T)
  | alt (a b : T)
  | star (a : T)
  deriving DecidableEq, Inhabited
def T.op : T → Int
  | .none => 0 | .emp => 1 | .cls _ => 2 | .seq .. => 3 | .alt .. => 4 | .star _ => 5
def T.node : T → Part
  | .none => ⟨0, default⟩ | .emp => ⟨1, default⟩ | .cls c => ⟨2, c⟩ | .seq .. => ⟨3, default⟩ | .alt .. => ⟨4, default⟩ | .star _ => ⟨5, default⟩
def T.enc : T → List Part
  | .none => [⟨0, default⟩] | .emp => [⟨1, default⟩] | .cls c => [⟨2, c⟩]
  | .seq a b => a.enc ++ b.enc ++ [⟨3, default⟩] | .alt a b => a.enc ++ b.enc ++ [⟨4, default⟩] | .star a => a.enc ++ [⟨5, default⟩]
def T.size (t : T) : Nat := t.enc.length
theorem T.node_op (t : T) : t.node.op = t.op := by cases t <;> rfl
theorem T.size_pos (t : T) : 0 < t.size := by cases t <;> simp [T.size, T.enc] <;> omega
@[simp] theorem T.size_none : T.none.size = 1 := rfl
@[simp] theorem T.size_emp : T.emp.size = 1 := rfl
@[simp] theorem T.size_cls (c : Cls) : (T.cls c).size = 1 := rfl
theorem T.size_seq (a b : T) : (T.seq a b).size = a.size + b.size + 1 := by simp [T.size, T.enc]; omega
theorem T.size_alt (a b : T) : (T.alt a b).size = a.size + b.size + 1 := by simp [T.size, T.enc]; omega
theorem T.size_star (a : T) : (T.star a).size = a.size + 1 := by simp [T.size, T.enc]
/-- A tree's nodes, all but the last. -/
def T.body : T → List Part
  | .seq a b => a.enc ++ b.enc | .alt a b => a.enc ++ b.enc | .star a => a.enc | _ => []
theorem T.enc_body (t : T) : t.enc = t.body ++ [t.node] := by cases t <;> simp [T.enc, T.body, T.node]
theorem at'_last {α : Type} [Inhabited α] (a : List α) (x : α) (b : List α) : at' (a ++ x :: b) (a.length : Int) = x := by
  simp [at', List.getD_eq_getElem?_getD]
theorem T.top (t : T) : (at' t.enc ((t.enc.length : Int) - 1)).op = t.op := by
  rw [T.enc_body]
  have := at'_last t.body t.node []
  have e : (((t.body ++ [t.node]).length : Int) - 1) = (t.body.length : Int) := by simp
  rw [e, this, T.node_op]
theorem T.top_class (t : T) : at' t.enc ((t.enc.length : Int) - 1) = t.node := by
  rw [T.enc_body]
  have := at'_last t.body t.node []
  have e : (((t.body ++ [t.node]).length : Int) - 1) = (t.body.length : Int) := by simp
  rw [e, this]
/-! ### 1. Where a part begins -/
theorem beginGo_step (xs : List Part) (i : Nat) (need : Int) : beginGo xs i need = if need + (partsF (at' xs (i : Int)).op - 1) = 0 then some i else if i = 0 then none else beginGo xs (i - 1) (need + (partsF (at' xs (i : Int)).op - 1)) := by
  cases i with
  | zero => simp [beginGo]
  | succ i => simp [beginGo]
theorem beginGo_enc : ∀ (t : T) (pre post : List Part) (need : Int), 1 ≤ need → beginGo (pre ++ (t.enc ++ post)) (pre.length + t.size - 1) need = if need = 1 then some pre.length else if pre.length = 0 then none else beginGo (pre ++ (t.enc ++ post)) (pre.length - 1) (need - 1) := by
  have leaf : ∀ (n : Part) (pre post : List Part) (need : Int), partsF n.op = 0 → 1 ≤ need → beginGo (pre ++ (([n] : List Part) ++ post)) (pre.length + 1 - 1) need = if need = 1 then some pre.length else if pre.length = 0 then Option.none else beginGo (pre ++ (([n] : List Part) ++ post)) (pre.length - 1) (need - 1) := by
    intro n pre post need hn h1
    rw [Nat.add_sub_cancel, beginGo_step]
    have e := at'_last pre n post
    simp only [List.cons_append, List.nil_append] at *
    rw [e, hn]
    by_cases hneed : need = 1
    · rw [if_pos (by omega), if_pos hneed]
    · rw [if_neg (by omega), if_neg hneed, show need + (0 - 1) = need - 1 by omega]
  have node2 : ∀ (n : Part) (a b : T), partsF n.op = 2 → (∀ (pre post : List Part) (need : Int), 1 ≤ need → beginGo (pre ++ (a.enc ++ post)) (pre.length + a.size - 1) need = if need = 1 then some pre.length else if pre.length = 0 then none else beginGo (pre ++ (a.enc ++ post)) (pre.length - 1) (need - 1)) → (∀ (pre post : List Part) (need : Int), 1 ≤ need → beginGo (pre ++ (b.enc ++ post)) (pre.length + b.size - 1) need = if need = 1 then some pre.length else if pre.length = 0 then none else beginGo (pre ++ (b.enc ++ post)) (pre.length - 1) (need - 1)) →
      ∀ (pre post : List Part) (need : Int), 1 ≤ need → beginGo (pre ++ (a.enc ++ b.enc ++ [n] ++ post)) (pre.length + (a.size + b.size + 1) - 1) need = if need = 1 then some pre.length else if pre.length = 0 then none else beginGo (pre ++ (a.enc ++ b.enc ++ [n] ++ post)) (pre.length - 1) (need - 1) := by
    intro n a b hn iha ihb pre post need h1
    have ha := a.size_pos
    have hb := b.size_pos
    have e : at' (pre ++ (a.enc ++ b.enc ++ [n] ++ post)) ((pre.length + (a.size + b.size + 1) - 1 : Nat) : Int) = n := by
      have := at'_last (pre ++ (a.enc ++ b.enc)) n post
      simp only [List.append_assoc, List.cons_append, List.nil_append, List.length_append] at this ⊢
      exact this
    rw [beginGo_step, e, hn, if_neg (by omega), if_neg (by omega)]
    have h2 := ihb (pre ++ a.enc) ([n] ++ post) (need + (2 - 1)) (by omega)
    have h3 := iha pre (b.enc ++ ([n] ++ post)) (need + (2 - 1) - 1) (by omega)
    simp only [List.append_assoc, List.length_append] at h2 h3 ⊢
    rw [show pre.length + (a.size + b.size + 1) - 1 - 1 = pre.length + a.enc.length + b.size - 1 by simp only [T.size]; omega, h2, if_neg (by omega), if_neg (by have : a.enc.length = a.size := rfl; omega)]
    rw [show pre.length + a.enc.length - 1 = pre.length + a.size - 1 by rfl, h3, show need + (2 - 1) - 1 = need by omega]
  intro t
  induction t with
  | none => exact fun pre post need h => leaf _ pre post need rfl h
  | emp => exact fun pre post need h => leaf _ pre post need rfl h
  | cls c => exact fun pre post need h => leaf _ pre post need rfl h
  | seq a b iha ihb => intro pre post need h; rw [T.size_seq]; exact node2 _ a b rfl iha ihb pre post need h
  | alt a b iha ihb => intro pre post need h; rw [T.size_alt]; exact node2 _ a b rfl iha ihb pre post need h
  | star a iha =>
    intro pre post need h
    have ha := a.size_pos
    rw [T.size_star]
    simp only [T.enc]
    have e : at' (pre ++ (a.enc ++ [⟨5, default⟩] ++ post)) ((pre.length + (a.size + 1) - 1 : Nat) : Int) = ⟨5, default⟩ := by
      have := at'_last (pre ++ a.enc) (⟨5, default⟩ : Part) post
      simp only [List.append_assoc, List.cons_append, List.nil_append, List.length_append] at this ⊢
      exact this
    rw [beginGo_step, e]
    have h3 := iha pre ([⟨5, default⟩] ++ post) (need + (1 - 1)) (by omega)
    simp only [List.append_assoc] at h3 ⊢
    rw [show partsF (⟨5, default⟩ : Part).op = 1 from rfl, if_neg (by omega), if_neg (by omega), show pre.length + (a.size + 1) - 1 - 1 = pre.length + a.size - 1 by omega, h3, show need + (1 - 1) = need by omega]
/-! ### 2. Stacks -/
def foldT {β : Type} [Inhabited β] (f : Part → β → β → β) : T → β
  | .seq a b => f ⟨3, default⟩ (foldT f a) (foldT f b)
  | .alt a b => f ⟨4, default⟩ (foldT f a) (foldT f b)
  | .star a => f ⟨5, default⟩ (foldT f a) default
  | t => f t.node default default
theorem at'_out {α : Type} [Inhabited α] (a : List α) (i : Int) (h : a.length ≤ i) : at' a i = default := by
  simp only [at', List.getD_eq_getElem?_getD]
  rw [List.getElem?_eq_none (by omega)]; rfl
theorem stGo_enc {β : Type} [Inhabited β] (f : Part → β → β → β) : ∀ (t : T) (r : List Part) (hs : List β), stGo f (t.enc ++ r) hs = stGo f r (hs ++ [foldT f t]) := by
  have leaf : ∀ (n : Part) (r : List Part) (hs : List β), partsF n.op = 0 → stGo f ([n] ++ r) hs = stGo f r (hs ++ [f n default default]) := by
    intro n r hs hn
    simp only [List.cons_append, List.nil_append, stGo, stStep, hn]
    simp only [Int.toNat_zero, Nat.sub_zero, List.take_length]
    rw [at'_out _ _ (by omega), at'_out _ _ (by omega)]
  intro t
  induction t with
  | none => exact fun r hs => leaf _ r hs rfl
  | emp => exact fun r hs => leaf _ r hs rfl
  | cls c => exact fun r hs => leaf _ r hs rfl
  | seq a b iha ihb =>
    intro r hs
    simp only [T.enc, List.append_assoc]
    rw [iha, ihb]
    simp only [List.cons_append, List.nil_append, stGo, stStep, show partsF 3 = 2 from rfl, List.append_assoc]
    have e1 := at'_last hs (foldT f a) [foldT f b]
    have e2 := at'_last (hs ++ [foldT f a]) (foldT f b) []
    simp only [List.append_assoc, List.cons_append, List.nil_append, List.length_append, List.length_cons, List.length_nil] at e1 e2 ⊢
    simp only [show hs.length + (0 + 1 + 1) - (2 : Int).toNat = hs.length from by simp]
    rw [e1, show ((hs.length : Int) + 1) = ((hs.length + (0 + 1) : Nat) : Int) by simp, e2]
    simp [foldT]
  | alt a b iha ihb =>
    intro r hs
    simp only [T.enc, List.append_assoc]
    rw [iha, ihb]
    simp only [List.cons_append, List.nil_append, stGo, stStep, show partsF 4 = 2 from rfl, List.append_assoc]
    have e1 := at'_last hs (foldT f a) [foldT f b]
    have e2 := at'_last (hs ++ [foldT f a]) (foldT f b) []
    simp only [List.append_assoc, List.cons_append, List.nil_append, List.length_append, List.length_cons, List.length_nil] at e1 e2 ⊢
    simp only [show hs.length + (0 + 1 + 1) - (2 : Int).toNat = hs.length from by simp]
    rw [e1, show ((hs.length : Int) + 1) = ((hs.length + (0 + 1) : Nat) : Int) by simp, e2]
    simp [foldT]
  | star a iha =>
    intro r hs
    simp only [T.enc, List.append_assoc]
    rw [iha]
    simp only [List.cons_append, List.nil_append, stGo, stStep, show partsF 5 = 1 from rfl, List.append_assoc]
    have e1 := at'_last hs (foldT f a) []
    simp only [List.length_append, List.length_cons, List.length_nil] at e1 ⊢
    simp only [show hs.length + (0 + 1) - (1 : Int).toNat = hs.length from by simp]
    rw [e1, at'_out _ _ (by simp)]
    simp [foldT]
/-! ### 3. What is shaped is a tree's nodes -/
theorem zero_cl {c : Cls} (h : c.isZero = true) : c = default := by
  obtain ⟨a, b, c, d⟩ := c
  simp [Cls.isZero] at h
  obtain ⟨rfl, rfl, rfl, rfl⟩ := h
  rfl
theorem zero_default : (default : Cls).isZero = true := by decide
theorem shapedGo_enc : ∀ (t : T) (r : List Part) (d : Int), 0 ≤ d → shapedGo (t.enc ++ r) d = shapedGo r (d + 1) := by
  have z : ∀ op : Int, badPart ⟨op, default⟩ = fun d => decide (partsF op < 0) || decide (partsF op > d) := by
    intro op; funext d; simp [badPart, zero_default]
  have leaf : ∀ (op : Int) (r : List Part) (d : Int), partsF op = 0 → 0 ≤ d → shapedGo ([⟨op, default⟩] ++ r) d = shapedGo r (d + 1) := by
    intro op r d hn hd
    simp only [List.cons_append, List.nil_append, shapedGo, z, hn]
    rw [if_neg (by simp; omega), show d + (1 - 0) = d + 1 by omega]
  intro t
  induction t with
  | none => exact fun r d hd => leaf _ r d rfl hd
  | emp => exact fun r d hd => leaf _ r d rfl hd
  | cls c =>
    intro r d hd
    simp only [T.enc, List.cons_append, List.nil_append, shapedGo, badPart, show partsF 2 = 0 from rfl]
    rw [if_neg (by simp; omega), show d + (1 - 0) = d + 1 by omega]
  | seq a b iha ihb =>
    intro r d hd
    simp only [T.enc, List.append_assoc]
    rw [iha _ _ hd, ihb _ _ (by omega)]
    simp only [List.cons_append, List.nil_append, shapedGo, z, show partsF 3 = 2 from rfl]
    rw [if_neg (by simp; omega)]; congr 1; omega
  | alt a b iha ihb =>
    intro r d hd
    simp only [T.enc, List.append_assoc]
    rw [iha _ _ hd, ihb _ _ (by omega)]
    simp only [List.cons_append, List.nil_append, shapedGo, z, show partsF 4 = 2 from rfl]
    rw [if_neg (by simp; omega)]; congr 1; omega
  | star a iha =>
    intro r d hd
    simp only [T.enc, List.append_assoc]
    rw [iha _ _ hd]
    simp only [List.cons_append, List.nil_append, shapedGo, z, show partsF 5 = 1 from rfl]
    rw [if_neg (by simp; omega)]; congr 1; omega
theorem shaped_enc (t : T) : shapedGo t.enc 0 = true := by
  have := shapedGo_enc t [] 0 (by omega)
  rw [List.append_nil] at this
  rw [this]; rfl
theorem shaped_tree : ∀ (xs : List Part) (ts : List T) (d : Int), d = ts.length → shapedGo xs d = true → ∃ t : T, (ts.reverse.map T.enc).flatten ++ xs = t.enc
  | [], ts, d, hd, h => by
    simp only [shapedGo, beq_iff_eq] at h
    match ts, (by omega : ts.length = 1) with
    | [t], _ => exact ⟨t, by simp⟩
  | n :: r, ts, d, hd, h => by
    simp only [shapedGo] at h
    split at h
    · cases h
    · rename_i hb
      simp only [badPart, Bool.or_eq_true, decide_eq_true_eq, not_or, Bool.and_eq_true, Bool.not_eq_true', bne_iff_ne, ne_eq, not_and, Bool.not_eq_false] at hb
      obtain ⟨⟨h1, h2⟩, h3⟩ := hb
      obtain ⟨op, c⟩ := n
      simp only at h1 h2 h3 h
      have zc : ¬ op = 2 → c = default := fun e => zero_cl (h3 e)
      have hop : op = 0 ∨ op = 1 ∨ op = 2 ∨ op = 5 ∨ op = 3 ∨ op = 4 := by
        have h1' := h1
        simp only [partsF] at h1'
        split at h1'
        · rename_i e; simp at e; omega
        · split at h1'
          · rename_i e; simp at e; omega
          · split at h1'
            · rename_i e; simp at e; omega
            · omega
      have push : ∀ t : T, t.enc = [⟨op, c⟩] → partsF op = 0 → ∃ t : T, (ts.reverse.map T.enc).flatten ++ ⟨op, c⟩ :: r = t.enc := by
        intro t ht hp
        rw [hp] at h
        obtain ⟨t', e⟩ := shaped_tree r (t :: ts) (d + (1 - 0)) (by simp; omega) h
        exact ⟨t', by rw [← e]; simp [ht]⟩
      rcases hop with rfl | rfl | rfl | rfl | rfl | rfl
      · exact push .none (by rw [zc (by omega)]; rfl) rfl
      · exact push .emp (by rw [zc (by omega)]; rfl) rfl
      · exact push (.cls c) rfl rfl
      · have hc := zc (by omega)
        subst hc
        rw [show partsF 5 = 1 from rfl] at h h2
        match ts, hd with
        | [], hd => simp at hd; omega
        | a :: ts', hd =>
          obtain ⟨t', e⟩ := shaped_tree r (.star a :: ts') (d + (1 - 1)) (by simp at hd ⊢; omega) h
          exact ⟨t', by rw [← e]; simp [T.enc]⟩
      · have hc := zc (by omega)
        subst hc
        rw [show partsF 3 = 2 from rfl] at h h2
        match ts, hd with
        | [], hd => simp at hd; omega
        | [_], hd => simp at hd; omega
        | b :: a :: ts', hd =>
          obtain ⟨t', e⟩ := shaped_tree r (.seq a b :: ts') (d + (1 - 2)) (by simp at hd ⊢; omega) h
          exact ⟨t', by rw [← e]; simp [T.enc]⟩
      · have hc := zc (by omega)
        subst hc
        rw [show partsF 4 = 2 from rfl] at h h2
        match ts, hd with
        | [], hd => simp at hd; omega
        | [_], hd => simp at hd; omega
        | b :: a :: ts', hd =>
          obtain ⟨t', e⟩ := shaped_tree r (.alt a b :: ts') (d + (1 - 2)) (by simp at hd ⊢; omega) h
          exact ⟨t', by rw [← e]; simp [T.enc]⟩
theorem tree_of_shaped {xs : List Part} (h : shapedGo xs 0 = true) : ∃ t : T, xs = t.enc := by
  obtain ⟨t, e⟩ := shaped_tree xs [] 0 rfl h
  exact ⟨t, by simpa using e⟩
/-! ### 4. A tree is told by its nodes -/
theorem enc_suffix : ∀ (a b : T) (r s : List Part), r ++ a.enc = s ++ b.enc → a = b ∧ r = s := by
  have last : ∀ (a b : T) (r s : List Part), r ++ a.enc = s ++ b.enc → a.node = b.node ∧ r ++ a.body = s ++ b.body := by
    intro a b r s h
    rw [a.enc_body, b.enc_body, ← List.append_assoc, ← List.append_assoc] at h
    have := List.append_inj' h rfl
    exact ⟨by simpa using this.2, this.1⟩
  intro a
  induction a with
  | none => intro b r s h; obtain ⟨h1, h2⟩ := last _ _ _ _ h; cases b <;> simp [T.node] at h1; simpa [T.body] using h2
  | emp => intro b r s h; obtain ⟨h1, h2⟩ := last _ _ _ _ h; cases b <;> simp [T.node] at h1; simpa [T.body] using h2
  | cls c => intro b r s h; obtain ⟨h1, h2⟩ := last _ _ _ _ h; cases b <;> simp [T.node] at h1; subst h1; simpa [T.body] using h2
  | seq x y ihx ihy =>
    intro b r s h; obtain ⟨h1, h2⟩ := last _ _ _ _ h
    cases b <;> simp [T.node] at h1
    simp only [T.body, ← List.append_assoc] at h2
    obtain ⟨rfl, h3⟩ := ihy _ _ _ h2
    obtain ⟨rfl, h4⟩ := ihx _ _ _ h3
    exact ⟨rfl, h4⟩
  | alt x y ihx ihy =>
    intro b r s h; obtain ⟨h1, h2⟩ := last _ _ _ _ h
    cases b <;> simp [T.node] at h1
    simp only [T.body, ← List.append_assoc] at h2
    obtain ⟨rfl, h3⟩ := ihy _ _ _ h2
    obtain ⟨rfl, h4⟩ := ihx _ _ _ h3
    exact ⟨rfl, h4⟩
  | star x ihx =>
    intro b r s h; obtain ⟨h1, h2⟩ := last _ _ _ _ h
    cases b <;> simp [T.node] at h1
    simp only [T.body] at h2
    obtain ⟨rfl, h4⟩ := ihx _ _ _ h2
    exact ⟨rfl, h4⟩
theorem enc_inj {a b : T} (h : a.enc = b.enc) : a = b := (enc_suffix a b [] [] (by simpa using h)).1
end Go.AL
set_option linter.unusedVariables false
namespace Go.AL
open Go.Proofs
set_option maxRecDepth 10000
attribute [local irreducible] AWp AList RStep seqQ blockQ retQ DSteps
abbrev encPat (p : List Part) : List PV := [.sl 5 (p.map encPart)]
abbrev patl (ps : List (List Part)) : AV := .c (.p (.sl 1 (ps.map encPat)))
def partEq (a b : Part) : Bool := a.op == b.op && (a.cl.c0 == b.cl.c0 && (a.cl.c1 == b.cl.c1 && (a.cl.c2 == b.cl.c2 && a.cl.c3 == b.cl.c3)))
theorem partEq_iff (a b : Part) : partEq a b = true ↔ a = b := by
  obtain ⟨ao, ⟨a0, a1, a2, a3⟩⟩ := a
  obtain ⟨bo, ⟨b0, b1, b2, b3⟩⟩ := b
  simp [partEq]
theorem take_next {α : Type} [Inhabited α] {a b : List α} {k : Nat} (ha : k < a.length) (hb : k < b.length) (h : a.take k = b.take k) (he : at' a (k : Int) = at' b (k : Int)) : a.take (k + 1) = b.take (k + 1) := by
  have e : ∀ (c : List α), k < c.length → c.take (k + 1) = c.take k ++ [at' c (k : Int)] := fun c hc => by
    rw [List.take_add_one, List.getElem?_eq_getElem hc]
    simp [at', List.getD_eq_getElem?_getD, hc]
  rw [e a ha, e b hb, h, he]
theorem same_c (a b : List Part) (ha : a.length ≤ 1000000) (hb : b.length ≤ 1000000) : ACalls Tryd.prog 80 [pat a, pat b] [] (fun x _ => x = .ret (bl (decide (a = b)))) := by
  refine acalls_by Tryd.func80 Tryd.ntmps80 ?_
  simp only [argFr]
  repeat' (first
    | (show lOp; refine op0 (by first | (show kAssign; exact b_assign) | (show kMove; exact b_move) | (show kCall; exact m_lenSl) | (show kBinopNeq; exact b_neq)) ?_)
    | (show lNil; refine al_nil ?_)
    | (show qSeq; first | refine n_seq ?_ | refine p_seq ?_)
    | (show cReg; refine aw_reg ?_)
    | (show cSeq; refine aw_seq ?_)
    | (show cBlk; refine aw_block ?_)
    | (show cSkip; refine aw_skip ?_)
    | (show cRet; refine aw_ret ?_)
    | (show cIf; refine aw_ifD (fun h => ?_) (fun h => ?_))
    | (show eRet; refine ret1 Tryd.results80 ?_))
  · have : a ≠ b := fun e => by subst e; omega
    simp [this]
  have hl : a.length = b.length := by omega
  refine aw_rounds (ι := Nat) (fun i => [(0, pat a), (1, pat b), (12, i64 a.length), (13, i64 i)]) (fun _ => []) (fun i => i ≤ a.length ∧ a.take i = b.take i) (fun i => a.length - i) 0 ⟨by simp, by simp⟩ rfl (by simp [Fr.get]) ?_
  rintro k ⟨g1, g2⟩
  have hd : (!partEq (at' a (k : Int)) (at' b (k : Int))) = true ∨ (!partEq (at' a (k : Int)) (at' b (k : Int))) = false := by cases partEq (at' a (k : Int)) (at' b (k : Int)) <;> simp
  repeat' (first
    | (show lOp; refine op0 (by first | (show kAssign; exact b_assign) | (show kMove; exact b_move) | (show kBinopAdd; exact b_add) | (show kBinopNeq; exact b_neqAgg) | (show kBinopLss; exact b_lss)) ?_)
    | (show lNil; refine al_nil ?_)
    | (show qSeq; first | refine n_seq ?_ | refine p_seq ?_ | refine x_seq ?_)
    | (show qBlk; first | refine n_block ?_ | refine p_block ?_ | refine x_eq ?_)
    | (show cReg; refine aw_reg ?_)
    | (show cSeq; refine aw_seq ?_)
    | (show cBlk; refine aw_block ?_)
    | (show cSkip; refine aw_skip ?_)
    | (show cExit; refine aw_exit ?_)
    | (show cRet; refine aw_ret ?_)
    | (show cIf; first | refine aw_ifD (fun h => ?_) (fun h => ?_) | refine aw_if (fun h => ?_) (fun h => ?_))
    | (show cRegD; refine aw_drN Tryd_mixed ?_)
    | (show dOp; refine ds_op (by first | (show kMove; exact b_move) | (show kLoad; exact b_loadRp) | (show kIndexaddr; exact m_indexSl)) ?_)
    | (show dNil; refine ds_nil ?_)
    | (show eRet; refine ret1 Tryd.results80 ?_))
  · have hp : partEq (at' a (k : Int)) (at' b (k : Int)) = false := by rw [← Bool.not_eq_true']; exact h
    have : a ≠ b := fun e => by subst e; rw [(partEq_iff _ _).2 rfl] at hp; cases hp
    simp [this]
  · have hp : partEq (at' a (k : Int)) (at' b (k : Int)) = true := by rw [← Bool.not_eq_false']; exact h
    exact ⟨k + 1, ⟨by omega, take_next (by omega) (by omega) g2 ((partEq_iff _ _).1 hp)⟩, rfl, by simp [Fr.get], by omega⟩
  · have e1 : a.take k = a := List.take_of_length_le (by omega)
    have e2 : b.take k = b := List.take_of_length_le (by omega)
    rw [e1, e2] at g2
    simp [g2]
theorem grow_c (n : Int) (h0 : 0 ≤ n) (h1 : n ≤ 1000000000) : ACalls Tryd.prog 93 [.c (.p (.lit (.slice none 0 0))), i64 n] [] (fun r σ' => r = .ret (.c (.ms 0 0)) ∧ σ' = [.arr 44 5 ((List.replicate n.toNat (default : Part)).map encPart)]) := by
  refine acalls_new ?_
  refine acalls_by Tryd.func93 Tryd.ntmps93 ?_
  simp only [argFr]
  repeat' (first
    | (show lAt 26; refine k_own 0 44 5 ?_)
    | (show lCall; refine k_appZeros Tryd.underlying3 (by omega) (by omega) ?_)
    | (show lOp; refine op0 (by first | (show kAssign; exact b_assign) | (show kMove; exact b_move) | (show kCall; first | exact b_lenNil | exact r_capNil) | (show kBinopSub; exact b_sub) | (show kBinopLss; exact b_lss) | (show kBinopGtr; exact b_gtr) | (show kSlice; first | exact b_sliceMs | exact b_sliceNilH) | (show kMakeinterface; exact b_iface)) ?_)
    | (show lNil; refine al_nil ?_)
    | (show qSeq; refine n_seq ?_)
    | (show cReg; refine aw_reg ?_)
    | (show cSeq; refine aw_seq ?_)
    | (show cSkip; refine aw_skip ?_)
    | (show cRet; refine aw_ret ?_)
    | (show cIf; refine aw_ifD (fun h => ?_) (fun h => ?_))
    | (show eRet; refine ret1 Tryd.results93 ?_)
    | (exfalso; omega))
  · refine ⟨0, rfl, ?_⟩
    rw [show (n - (0 - 0)).toNat = n.toNat by omega]
    simp [encPart, zP, Value.cells, default, instInhabitedPart.default, instInhabitedCls.default]
  · refine ⟨0, rfl, ?_⟩
    rw [show n.toNat = 0 by omega]
    rfl
def szs (ps : List (List Part)) : Nat := ps.flatten.length
theorem szs_next {ps : List (List Part)} {k : Nat} (h : k < ps.length) : (ps.take (k + 1)).flatten = (ps.take k).flatten ++ at' ps (k : Int) := by
  have := at_get ps (k : Int) (by omega) (by omega)
  rw [Int.toNat_natCast] at this
  rw [List.take_add_one, List.flatten_append, this]
  simp only [Option.toList_some, List.flatten_cons, List.flatten_nil, List.append_nil]
theorem szs_le (ps : List (List Part)) (k : Nat) : szs (ps.take k) ≤ szs ps := by
  have : ps.flatten = (ps.take k).flatten ++ (ps.drop k).flatten := by rw [← List.flatten_append, List.take_append_drop]
  simp only [szs, this, List.length_append]; omega
theorem concat_c (ps : List (List Part)) (hsz : szs ps ≤ 1000000) (h2 : ps.length ≤ 1000000) : ACalls Tryd.prog 87 [patl ps] [] (fun x _ => x = .ret (pat ps.flatten)) := by
  have hgrow := grow_c (szs ps : Int) (by omega) (by omega)
  refine acalls_by Tryd.func87 Tryd.ntmps87 ?_
  simp only [argFr]
  repeat' (first
    | (show lOp; refine op0 (by first | (show kAssign; exact b_assign) | (show kMove; exact b_move) | (show kCall; exact m_lenSl)) ?_)
    | (show lNil; refine al_nil ?_)
    | (show qSeq; refine n_seq ?_)
    | (show cReg; refine aw_reg ?_)
    | (show cSeq; refine aw_seq ?_)
    | (show cBlk; refine aw_block ?_))
  refine aw_rounds (ι := Nat) (fun i => [(0, patl ps), (9, patl ps), (10, i64 ps.length), (11, i64 i), (3, i64 (szs (ps.take i)))]) (fun _ => []) (fun i => i ≤ ps.length) (fun i => ps.length - i) 0 (by simp) rfl (by simp [Fr.get, szs]) ?_
  rintro k g1
  have hle := szs_le ps k
  have hle2 := szs_le ps (k + 1)
  have hnext : k < ps.length → szs (ps.take (k + 1)) = szs (ps.take k) + (at' ps (k : Int)).length := fun hk => by simp only [szs, szs_next hk, List.length_append]
  repeat' (first
    | (show lOp; refine op0 (by first | (show kAssign; exact b_assign) | (show kMove; exact b_move) | (show kCall; exact m_lenSl) | (show kLoad; exact b_loadRp) | (show kIndexaddr; exact m_indexSl) | (show kBinopAdd; exact b_add) | (show kBinopLss; exact b_lss)) ?_)
    | (show lNil; refine al_nil ?_)
    | (show qSeq; first | refine n_seq ?_ | refine x_seq ?_)
    | (show qBlk; first | refine n_block ?_ | refine x_eq ?_)
    | (show cReg; refine aw_reg ?_)
    | (show cSeq; refine aw_seq ?_)
    | (show cBlk; refine aw_block ?_)
    | (show cSkip; refine aw_skip ?_)
    | (show cExit; refine aw_exit ?_)
    | (show cIf; first | refine aw_F ?_ | refine aw_ifD (fun h => ?_) (fun h => ?_)))
  · exact ⟨k + 1, by omega, rfl, by simp [Fr.get]; rw [hnext (by omega)]; simp, by omega⟩
  have hk : k = ps.length := by omega
  have hall : ps.take k = ps := List.take_of_length_le (by omega)
  rw [hall]
  repeat' (first
    | (show lCall; refine k_callNew hgrow ?_)
    | (show lOp; refine op0 (by first | (show kAssign; exact b_assign) | (show kMove; exact b_move) | (show kCall; exact m_lenSl)) ?_)
    | (show lNil; refine al_nil ?_)
    | (show qSeq; refine n_seq ?_)
    | (show cReg; refine aw_reg ?_)
    | (show cSeq; refine aw_seq ?_)
    | (show cBlk; refine aw_block ?_))
  refine aw_roundsG (ι := Nat × List Part) (fun i n => [(25, patl ps), (26, i64 ps.length), (27, i64 i.1), (6, .c (.ms (n + 0) (ps.take i.1).flatten.length))]) (fun i n => [.arr 44 5 (i.2.map encPart)]) (fun i => i.1 ≤ ps.length ∧ (ps.take i.1).flatten.length ≤ i.2.length ∧ i.2.take (ps.take i.1).flatten.length = (ps.take i.1).flatten) (fun i => ps.length - i.1) (0, _) 0 ⟨by simp, by simp, by simp⟩ (by simp) rfl (by simp [Fr.get]) ?_
  rintro ⟨q, X⟩ n g ⟨g1, g2, g3⟩ hg
  dsimp only at g1 g2 g3 ⊢
  have hle := szs_le ps q
  have hle2 := szs_le ps (q + 1)
  simp only [szs] at hle hle2 hsz
  have hnext : q < ps.length → (ps.take (q + 1)).flatten.length = (ps.take q).flatten.length + (at' ps (q : Int)).length := fun hk => by simp only [szs_next hk, List.length_append]
  repeat' (first
    | (show lAt 35; refine k_freezeM (f := encPart) 6 ?_)
    | (show lCall; refine k_appSl (f := encPart) (ys := at' ps (q : Int)) ?_)
    | (show lOp; refine op0 (by first | (show kAssign; exact b_assign) | (show kMove; exact b_move) | (show kLoad; exact b_loadRp) | (show kIndexaddr; exact m_indexSl) | (show kBinopAdd; exact b_add) | (show kBinopLss; exact b_lss)) ?_)
    | (show lNil; refine al_nil ?_)
    | (show qSeq; first | refine n_seq ?_ | refine x_seq ?_)
    | (show qBlk; first | refine n_block ?_ | refine x_eq ?_)
    | (show cReg; refine aw_reg ?_)
    | (show cSeq; refine aw_seq ?_)
    | (show cBlk; refine aw_block ?_)
    | (show cSkip; refine aw_skip ?_)
    | (show cExit; refine aw_exit ?_)
    | (show cRet; refine aw_ret ?_)
    | (show cIf; refine aw_ifD (fun h => ?_) (fun h => ?_))
    | (show eRet; refine ret1 Tryd.results87 ?_))
  · have hn := hnext (by omega)
    refine ⟨(q + 1, X.take (ps.take q).flatten.length ++ at' ps (q : Int)), n + 1, ⟨by dsimp only; omega, by dsimp only; rw [hn, g3]; simp, by dsimp only; rw [hn, g3, szs_next (by omega)]; exact List.take_of_length_le (by simp)⟩, by simp [hg], dropG0 hg rfl, by simp [Fr.get, hn], by dsimp only; omega⟩
  · rw [g3, List.take_of_length_le (by omega)]
end Go.AL
set_option linter.unusedVariables false
namespace Go.AL
open Go.Proofs
set_option maxRecDepth 10000
attribute [local irreducible] AWp AList RStep seqQ blockQ retQ DSteps
theorem top_t (t : T) (h : t.size ≤ 1000000) : ACalls Tryd.prog 28 [pat t.enc] [] (fun x _ => x = .ret (i64 t.op)) := by
  have := top_c t.enc (by simp only [T.size] at h; omega) t.size_pos
  rw [T.top] at this
  exact this
theorem split_seq (a b : T) (h : (T.seq a b).size ≤ 1000000) : ACalls Tryd.prog 30 [pat (T.seq a b).enc] [] (fun x _ => x = .ret (.tup [pat a.enc, pat b.enc])) := by
  have ha := a.size_pos
  have hb := b.size_pos
  have hs := T.size_seq a b
  have hg := beginGo_enc b a.enc [⟨3, default⟩] 1 (by omega)
  rw [if_pos rfl, ← List.append_assoc] at hg
  simp only [T.size] at *
  have := split_c (T.seq a b).enc a.enc.length (by omega) (by omega) (by rw [← hg]; simp only [T.enc]; congr 1; simp; omega) (by omega)
  refine this.mono fun x σ hx => ?_
  rw [hx]
  simp [T.enc, List.take_append]
theorem split_alt (a b : T) (h : (T.alt a b).size ≤ 1000000) : ACalls Tryd.prog 30 [pat (T.alt a b).enc] [] (fun x _ => x = .ret (.tup [pat a.enc, pat b.enc])) := by
  have ha := a.size_pos
  have hb := b.size_pos
  have hs := T.size_alt a b
  have hg := beginGo_enc b a.enc [⟨4, default⟩] 1 (by omega)
  rw [if_pos rfl, ← List.append_assoc] at hg
  simp only [T.size] at *
  have := split_c (T.alt a b).enc a.enc.length (by omega) (by omega) (by rw [← hg]; simp only [T.enc]; congr 1; simp; omega) (by omega)
  refine this.mono fun x σ hx => ?_
  rw [hx]
  simp [T.enc, List.take_append]
def T.null : T → Bool
  | .emp => true | .seq a b => a.null && b.null | .alt a b => a.null || b.null | .star _ => true | _ => false
theorem T.null_fold (t : T) : foldT nullX t = t.null := by
  induction t with
  | seq a b iha ihb => simp [foldT, T.null, nullX, iha, ihb]
  | alt a b iha ihb => simp [foldT, T.null, nullX, iha, ihb]
  | _ => simp [foldT, T.null, nullX, T.node]
theorem null_t (t : T) (h : t.size ≤ 1000000) : ACalls Tryd.prog 68 [pat t.enc] [] (fun x _ => x = .ret (bl t.null)) := by
  have := null_c t.enc h (shaped_enc t)
  have e := stGo_enc nullX t [] []
  rw [List.append_nil] at e
  rw [e, T.null_fold] at this
  exact this
def madeF (p : List Part) (lg : Bool) : List Part × Bool := if (lg || decide (p.length > 4096)) then ([⟨0, default⟩], true) else (p, false)
theorem made_c (ps : List (List Part)) (lg : Bool) (h : szs ps ≤ 1000000) (h2 : ps.length ≤ 1000000) : ACalls Tryd.prog 81 [.c (.ptr 0 0), patl ps] [.cells (([PV.lit (.bool lg)] : List PV).map .p)] (fun r σ' => r = .ret (pat (madeF ps.flatten lg).1) ∧ ∃ gb, σ' = .cells (([PV.lit (.bool (madeF ps.flatten lg).2)] : List PV).map .p) :: gb) := by
  have hc := concat_c ps h h2
  have h3 : ps.flatten.length ≤ 1000000 := h
  simp only [List.map]
  refine acalls_by Tryd.func81 Tryd.ntmps81 ?_
  simp only [argFr]
  repeat' (first
    | (show lStore; refine k_store ?_)
    | (show lOp; refine op0 (by first | (show kAssign; exact b_assign) | (show kMove; exact b_move) | (show kCall; first | exact b_call (hc) | exact m_lenSl) | (show kLoad; exact b_loadPtr) | (show kFieldaddr; exact b_fieldPtr) | (show kBinopGtr; exact b_gtr) | (show kNilcheck; exact b_nilPtr) | (show kBuild; exact b_buildSt) | (show kBuildslice; exact b_buildSl1)) ?_)
    | (show lNil; refine al_nil ?_)
    | (show qSeq; first | refine n_seq ?_ | refine p_seq ?_)
    | (show cReg; refine aw_reg ?_)
    | (show cSeq; refine aw_seq ?_)
    | (show cSkip; refine aw_skip ?_)
    | (show cRet; refine aw_ret ?_)
    | (show cIf; first | refine aw_T ?_ | refine aw_ifD (fun h => ?_) (fun h => ?_) | refine aw_if (fun h => ?_) (fun h => ?_))
    | (show eRet; refine ret1 Tryd.results81 ?_))
  · have e : madeF ps.flatten lg = ([⟨0, default⟩], true) := by simp only [madeF]; rw [if_pos (by rw [Bool.or_eq_true, decide_eq_true_eq]; omega)]
    rw [e]; exact ⟨rfl, [], rfl⟩
  · subst h
    have e : madeF ps.flatten true = ([⟨0, default⟩], true) := by simp [madeF]
    rw [e]; exact ⟨rfl, [], rfl⟩
  · subst h
    have e : madeF ps.flatten false = (ps.flatten, false) := by simp only [madeF]; rw [if_neg (by rw [Bool.false_or, decide_eq_true_eq]; omega)]
    rw [e]; exact ⟨rfl, [], rfl⟩
def mkT (t : T) (lg : Bool) : T × Bool := if (lg || decide (t.size > 4096)) then (.none, true) else (t, false)
theorem madeF_enc (t : T) (lg : Bool) : madeF t.enc lg = ((mkT t lg).1.enc, (mkT t lg).2) := by
  by_cases h : (lg || decide (t.size > 4096)) = true
  · have h' : (lg || decide (t.enc.length > 4096)) = true := h
    rw [madeF, if_pos h', mkT, if_pos h]; rfl
  · have h' : ¬ (lg || decide (t.enc.length > 4096)) = true := h
    rw [madeF, if_neg h', mkT, if_neg h]
def seqT : T → T → Bool → T × Bool
  | .none, y, lg => (.none, lg)
  | .emp, y, lg => if y.op = 0 then (.none, lg) else (y, lg)
  | .seq u v, y, lg => if y.op = 0 then (.none, lg) else if y.op = 1 then (.seq u v, lg) else seqT u (seqT v y lg).1 (seqT v y lg).2
  | .cls c, y, lg => if y.op = 0 then (.none, lg) else if y.op = 1 then (.cls c, lg) else mkT (.seq (.cls c) y) lg
  | .alt a b, y, lg => if y.op = 0 then (.none, lg) else if y.op = 1 then (.alt a b, lg) else mkT (.seq (.alt a b) y) lg
  | .star a, y, lg => if y.op = 0 then (.none, lg) else if y.op = 1 then (.star a, lg) else mkT (.seq (.star a) y) lg
theorem mkT_size (t : T) (lg : Bool) : (mkT t lg).1.size ≤ 4096 := by
  simp only [mkT]
  split
  · exact Nat.le_of_ble_eq_true rfl
  · rename_i h; simp at h; exact h.2
theorem seqT_size : ∀ (x y : T) (lg : Bool), x.size ≤ 4096 → y.size ≤ 4096 → (seqT x y lg).1.size ≤ 4096 := by
  intro x
  induction x with
  | none => intro y lg hx hy; simp [seqT]
  | emp => intro y lg hx hy; simp only [seqT]; split <;> simp [hy]
  | seq u v ihu ihv =>
    intro y lg hx hy
    have := T.size_seq u v
    simp only [seqT]
    split
    · simp
    · split
      · exact hx
      · exact ihu _ _ (by omega) (ihv _ _ (by omega) hy)
  | cls c => intro y lg hx hy; simp only [seqT]; split <;> (try split) <;> first | exact mkT_size _ _ | exact hx | simp
  | alt a b => intro y lg hx hy; simp only [seqT]; split <;> (try split) <;> first | exact mkT_size _ _ | exact hx | simp
  | star a => intro y lg hx hy; simp only [seqT]; split <;> (try split) <;> first | exact mkT_size _ _ | exact hx | simp
abbrev mk1 (lg : Bool) : List PV := [PV.lit (.bool lg)]
theorem seq_c : ∀ (x y : T) (lg : Bool) (hx : x.size ≤ 4096) (hy : y.size ≤ 4096), ACalls Tryd.prog 70 [.c (.ptr 0 0), pat x.enc, pat y.enc] [.cells ((mk1 lg).map .p)] (fun r σ' => r = .ret (pat (seqT x y lg).1.enc) ∧ ∃ gb, σ' = .cells ((mk1 (seqT x y lg).2).map .p) :: gb) := by
  have base : ∀ (x y : T) (lg : Bool), x.size ≤ 4096 → y.size ≤ 4096 → x.op ≠ 0 → x.op ≠ 1 → x.op ≠ 3 → ACalls Tryd.prog 70 [.c (.ptr 0 0), pat x.enc, pat y.enc] [.cells ((mk1 lg).map .p)] (fun r σ' => r = .ret (pat (if y.op = 0 then (T.none, lg) else if y.op = 1 then (x, lg) else mkT (.seq x y) lg).1.enc) ∧ ∃ gb, σ' = .cells ((mk1 (if y.op = 0 then (T.none, lg) else if y.op = 1 then (x, lg) else mkT (.seq x y) lg).2).map .p) :: gb) := by
    intro x y lg hx hy h0 h1 h3
    have ht := top_t x (by omega)
    have hty := top_t y (by omega)
    have hm := made_c [x.enc, y.enc, [⟨3, default⟩]] lg (by simp [szs, T.size] at hx hy ⊢; omega) (by simp)
    have e : [x.enc, y.enc, [⟨3, default⟩]].flatten = (T.seq x y).enc := by simp [T.enc]
    rw [e, madeF_enc] at hm
    simp only [List.map]
    refine acalls_by Tryd.func70 Tryd.ntmps70 ?_
    simp only [argFr]
    repeat' (first
      | (show lCall; refine k_callC hm ?_)
      | (show lOp; refine op0 (by first | (show kAssign; exact b_assign) | (show kMove; exact b_move) | (show kCall; first | exact b_call (ht) | exact b_call (hty) | exact b_call (one_c _)) | (show kBinopEql; exact b_eql) | (show kPick; exact b_pickF) | (show kBuildslice; exact b_buildSl3)) ?_)
      | (show lGu; refine al_yes ?_)
      | (show lNil; refine al_nil ?_)
      | (show qSeq; first | refine n_seq ?_ | refine p_seq ?_)
      | (show qBlk; first | refine n_block ?_ | refine p_block ?_)
      | (show cReg; refine aw_reg ?_)
      | (show cSeq; refine aw_seq ?_)
      | (show cBlk; refine aw_block ?_)
      | (show cSkip; refine aw_skip ?_)
      | (show cRet; refine aw_ret ?_)
      | (show cIf; first | refine aw_F ?_ | refine aw_ifD (fun h => ?_) (fun h => ?_))
      | (show eRet; refine ret1 Tryd.results70 ?_))
    · rw [if_pos h]; first | exact ⟨rfl, [], rfl⟩ | exact ⟨trivial, [], rfl⟩
    · rename_i h'; rw [if_neg h', if_pos h]; first | exact ⟨rfl, [], rfl⟩ | exact ⟨trivial, [], rfl⟩
    · rename_i h'; rw [if_neg h', if_neg h]; first | exact ⟨rfl, [], rfl⟩ | exact ⟨trivial, [], rfl⟩
  intro x
  induction x with
  | none =>
    intro y lg hx hy
    have ht := top_t .none (by omega)
    simp only [List.map]
    refine acalls_by Tryd.func70 Tryd.ntmps70 ?_
    simp only [argFr]
    repeat' (first
      | (show lOp; refine op0 (by first | (show kAssign; exact b_assign) | (show kMove; exact b_move) | (show kCall; first | exact b_call (ht) | exact b_call (one_c _)) | (show kBinopEql; exact b_eql) | (show kPick; exact b_pickT)) ?_)
      | (show lGu; refine al_none ?_)
      | (show lNil; refine al_nil ?_)
      | (show qSeq; first | refine n_seq ?_ | refine p_seq ?_)
      | (show qBlk; refine p_block ?_)
      | (show cReg; refine aw_reg ?_)
      | (show cSeq; refine aw_seq ?_)
      | (show cBlk; refine aw_block ?_)
      | (show cRet; refine aw_ret ?_)
      | (show cIf; refine aw_T ?_)
      | (show eRet; refine ret1 Tryd.results70 ?_))
    first | exact ⟨rfl, [], rfl⟩ | exact ⟨trivial, [], rfl⟩
  | emp =>
    intro y lg hx hy
    have ht := top_t .emp (by omega)
    have hty := top_t y (by omega)
    simp only [List.map]
    refine acalls_by Tryd.func70 Tryd.ntmps70 ?_
    simp only [argFr]
    repeat' (first
      | (show lOp; refine op0 (by first | (show kAssign; exact b_assign) | (show kMove; exact b_move) | (show kCall; first | exact b_call (ht) | exact b_call (hty) | exact b_call (one_c _)) | (show kBinopEql; exact b_eql) | (show kPick; exact b_pickF)) ?_)
      | (show lGu; refine al_yes ?_)
      | (show lNil; refine al_nil ?_)
      | (show qSeq; first | refine n_seq ?_ | refine p_seq ?_)
      | (show qBlk; refine p_block ?_)
      | (show cReg; refine aw_reg ?_)
      | (show cSeq; refine aw_seq ?_)
      | (show cBlk; refine aw_block ?_)
      | (show cRet; refine aw_ret ?_)
      | (show cIf; first | refine aw_T ?_ | refine aw_ifD (fun h => ?_) (fun h => ?_))
      | (show eRet; refine ret1 Tryd.results70 ?_))
    · simp only [seqT, if_pos h]; first | exact ⟨rfl, [], rfl⟩ | exact ⟨trivial, [], rfl⟩
    · simp only [seqT, if_neg h]; first | exact ⟨rfl, [], rfl⟩ | exact ⟨trivial, [], rfl⟩
  | seq u v ihu ihv =>
    intro y lg hx hy
    have hs := T.size_seq u v
    have ht := top_t (.seq u v) (by omega)
    have hty := top_t y (by omega)
    have hsp := split_seq u v (by omega)
    have h1 := ihv y lg (by omega) hy
    have h2 := ihu (seqT v y lg).1 (seqT v y lg).2 (by omega) (seqT_size _ _ _ (by omega) hy)
    simp only [List.map]
    refine acalls_by Tryd.func70 Tryd.ntmps70 ?_
    simp only [argFr]
    repeat' (first
      | (show lCall; first | refine k_callC h1 ?_ | refine k_callC h2 ?_)
      | (show lOp; refine op0 (by first | (show kAssign; exact b_assign) | (show kMove; exact b_move) | (show kCall; first | exact b_call (ht) | exact b_call (hty) | exact b_call (hsp) | exact b_call (one_c _)) | (show kBinopEql; exact b_eql) | (show kPick; exact b_pickF) | (show kExtract; exact b_extract)) ?_)
      | (show lGu; refine al_yes ?_)
      | (show lNil; refine al_nil ?_)
      | (show qSeq; first | refine n_seq ?_ | refine p_seq ?_)
      | (show qBlk; refine p_block ?_)
      | (show cReg; refine aw_reg ?_)
      | (show cSeq; refine aw_seq ?_)
      | (show cBlk; refine aw_block ?_)
      | (show cRet; refine aw_ret ?_)
      | (show cIf; first | refine aw_T ?_ | refine aw_F ?_ | refine aw_ifD (fun h => ?_) (fun h => ?_))
      | (show eRet; refine ret1 Tryd.results70 ?_))
    · simp only [seqT, if_pos h]; first | exact ⟨rfl, [], rfl⟩ | exact ⟨trivial, [], rfl⟩
    · rename_i h'; simp only [seqT, if_neg h', if_pos h]; first | exact ⟨rfl, [], rfl⟩ | exact ⟨trivial, [], rfl⟩
    · rename_i h'; simp only [seqT, if_neg h', if_neg h]; first | exact ⟨rfl, [], rfl⟩ | exact ⟨trivial, [], rfl⟩
  | cls c => intro y lg hx hy; exact base _ y lg hx hy (by simp [T.op]) (by simp [T.op]) (by simp [T.op])
  | alt a b => intro y lg hx hy; exact base _ y lg hx hy (by simp [T.op]) (by simp [T.op]) (by simp [T.op])
  | star a => intro y lg hx hy; exact base _ y lg hx hy (by simp [T.op]) (by simp [T.op]) (by simp [T.op])
end Go.AL
set_option linter.unusedVariables false
namespace Go.AL
open Go.Proofs
set_option maxRecDepth 10000
attribute [local irreducible] AWp AList RStep seqQ blockQ retQ DSteps
abbrev encT (t : T) : List PV := [.sl 5 (t.enc.map encPart)]
abbrev tl (ts : List T) : AV := .c (.p (.sl 1 (ts.map encT)))
def T.alts : T → List T
  | .alt a b => a.alts ++ b.alts
  | t => [t]
theorem T.alts_len (t : T) : t.alts.length ≤ t.size := by
  induction t with
  | alt a b iha ihb => rw [T.size_alt]; simp [T.alts]; omega
  | _ => exact T.size_pos _
theorem alternatives_c : ∀ (t : T) (h : t.size ≤ 1000000), ACalls Tryd.prog 77 [pat t.enc] [] (fun r σ' => r = .ret (.c (.ms 0 t.alts.length)) ∧ σ' = [.arr 23 1 (t.alts.map encT)]) := by
  have base : ∀ (t : T) (h : t.size ≤ 1000000), t.op ≠ 4 → ACalls Tryd.prog 77 [pat t.enc] [] (fun r σ' => r = .ret (.c (.ms 0 1)) ∧ σ' = [.arr 23 1 ([t].map encT)]) := by
    intro t h h4
    have ht := top_t t h
    refine acalls_new ?_
    refine acalls_by Tryd.func77 Tryd.ntmps77 ?_
    simp only [argFr]
    repeat' (first
      | (show lBuildSlice; refine k_buildSl1 ?_)
      | (show lOp; refine op0 (by first | (show kAssign; exact b_assign) | (show kMove; exact b_move) | (show kCall; exact b_call (ht)) | (show kBinopNeq; exact b_neq)) ?_)
      | (show lNil; refine al_nil ?_)
      | (show qSeq; first | refine n_seq ?_ | refine p_seq ?_)
      | (show cReg; refine aw_reg ?_)
      | (show cSeq; refine aw_seq ?_)
      | (show cRet; refine aw_ret ?_)
      | (show cIf; refine aw_T ?_)
      | (show eRet; refine ret1 Tryd.results77 ?_))
    exact ⟨0, rfl, rfl⟩
  intro t
  induction t with
  | alt a b iha ihb =>
    intro h
    have hs := T.size_alt a b
    have ht := top_t (.alt a b) h
    have hsp := split_alt a b h
    have h1 := iha (by omega)
    have h2 := ihb (by omega)
    have l1 := a.alts_len
    have l2 := b.alts_len
    refine acalls_new ?_
    refine acalls_by Tryd.func77 Tryd.ntmps77 ?_
    simp only [argFr]
    repeat' (first
      | (show lAt 19; refine k_freezeA (f := encT) (xs := b.alts) 18 ?_)
      | (show lCall; first | refine k_callNew h1 ?_ | refine k_callNew h2 ?_ | refine k_appSl (f := encT) (ys := b.alts) ?_)
      | (show lOp; refine op0 (by first | (show kAssign; exact b_assign) | (show kMove; exact b_move) | (show kCall; first | exact b_call (ht) | exact b_call (hsp)) | (show kBinopNeq; exact b_neq) | (show kExtract; exact b_extract)) ?_)
      | (show lNil; refine al_nil ?_)
      | (show qSeq; refine n_seq ?_)
      | (show cReg; refine aw_reg ?_)
      | (show cSeq; refine aw_seq ?_)
      | (show cSkip; refine aw_skip ?_)
      | (show cRet; refine aw_ret ?_)
      | (show cIf; refine aw_F ?_)
      | (show eRet; refine ret1 Tryd.results77 ?_))
    exact ⟨2, by simp [T.alts], by simp [T.alts]⟩
  | _ => intro h; exact base _ h (by simp [T.op])
theorem alt1_c (p q : T) (hp : p.size ≤ 1000000) (hq : q.size ≤ 1000000) : ACalls Tryd.prog 79 [pat q.enc, .c (.p (.rp (encT p)))] [] (fun r _ => r = .ret (bl (decide (p = q)))) := by
  have h := same_c p.enc q.enc hp hq
  refine acalls_by Tryd.func79 Tryd.ntmps79 ?_
  simp only [argFr]
  repeat' (first
    | (show lOp; refine op0 (by first | (show kAssign; exact b_assign) | (show kMove; exact b_move) | (show kCall; exact b_call (h)) | (show kLoad; exact b_loadRp)) ?_)
    | (show lNil; refine al_nil ?_)
    | (show qSeq; refine n_seq ?_)
    | (show cReg; refine aw_reg ?_)
    | (show cSeq; refine aw_seq ?_)
    | (show cRet; refine aw_ret ?_)
    | (show eRet; refine ret1 Tryd.results79 ?_))
  have : (p.enc = q.enc) = (p = q) := propext ⟨enc_inj, fun e => by rw [e]⟩
  simp only [this]
/-- Where the first tree lies that is p. -/
def idxT (p : T) : List T → Int → Int
  | [], _ => -1
  | t :: r, i => if p = t then i else idxT p r (i + 1)
theorem index_c (ts : List T) (p : T) (hp : p.size ≤ 1000000) (ht : ∀ t ∈ ts, t.size ≤ 1000000) (hl : ts.length ≤ 1000000) : ACalls Tryd.prog 86 [tl ts, .c (.p (.fn 79 [.rp (encT p)]))] [] (fun r _ => r = .ret (i64 (idxT p ts 0))) := by
  refine acalls_by Tryd.func86 Tryd.ntmps86 ?_
  simp only [argFr]
  repeat' (first
    | (show lOp; refine op0 (by first | (show kAssign; exact b_assign) | (show kMove; exact b_move) | (show kCall; exact m_lenSl)) ?_)
    | (show lNil; refine al_nil ?_)
    | (show qSeq; refine n_seq ?_)
    | (show cReg; refine aw_reg ?_)
    | (show cSeq; refine aw_seq ?_)
    | (show cBlk; refine aw_block ?_))
  refine aw_rounds (ι := Nat) (fun i => [(0, tl ts), (1, .c (.p (.fn 79 [.rp (encT p)]))), (7, i64 ts.length), (8, i64 i)]) (fun _ => []) (fun i => i ≤ ts.length ∧ idxT p (ts.drop i) i = idxT p ts 0) (fun i => ts.length - i) 0 ⟨by simp, by simp⟩ rfl (by simp [Fr.get]) ?_
  rintro k ⟨g1, g2⟩
  have hcall : (k : Int) < ts.length → ACalls Tryd.prog 79 [pat (at' ts (k : Int)).enc, .c (.p (.rp (encT p)))] [] (fun r _ => r = .ret (bl (decide (p = at' ts (k : Int))))) := fun hk => alt1_c _ _ hp (ht _ (at'_mem (by omega) hk))
  repeat' (first
    | (show lOp; refine op0 (by first | (show kAssign; exact b_assign) | (show kMove; exact b_move) | (show kCall; exact b_callFn (f := 79) (args := [pat (at' ts (k : Int)).enc]) (l := [.rp (encT p)]) (hcall (by assumption))) | (show kLoad; exact b_loadRp) | (show kIndexaddr; exact m_indexSl) | (show kBinopAdd; exact b_add) | (show kBinopLss; exact b_lss)) ?_)
    | (show lNil; refine al_nil ?_)
    | (show qSeq; first | refine n_seq ?_ | refine p_seq ?_ | refine x_seq ?_)
    | (show qBlk; first | refine n_block ?_ | refine p_block ?_ | refine x_eq ?_)
    | (show cReg; refine aw_reg ?_)
    | (show cSeq; refine aw_seq ?_)
    | (show cBlk; refine aw_block ?_)
    | (show cSkip; refine aw_skip ?_)
    | (show cExit; refine aw_exit ?_)
    | (show cRet; refine aw_ret ?_)
    | (show cIf; refine aw_ifD (fun h => ?_) (fun h => ?_))
    | (show eRet; refine ret1 Tryd.results86 ?_))
  · rw [← g2, drop_at ts k (by omega), idxT, if_pos h]
  · rw [drop_at ts k (by omega), idxT, if_neg h] at g2
    exact ⟨k + 1, ⟨by omega, by simpa using g2⟩, rfl, by simp [Fr.get], by omega⟩
  · rw [← g2, List.drop_of_length_le (by omega), idxT]
theorem idxT_ge (p : T) : ∀ (ts : List T) (i : Int), 0 ≤ i → (idxT p ts i ≥ 0 ↔ p ∈ ts)
  | [], i, h => by simp [idxT]
  | t :: r, i, h => by
    simp only [idxT]
    split
    · rename_i e; subst e; simp [h]
    · rename_i e; rw [idxT_ge p r (i + 1) (by omega)]; simp [e]
theorem contains_c (ts : List T) (p : T) (hp : p.size ≤ 1000000) (ht : ∀ t ∈ ts, t.size ≤ 1000000) (hl : ts.length ≤ 1000000) : ACalls Tryd.prog 78 [tl ts, .c (.p (.fn 79 [.rp (encT p)]))] [] (fun r _ => r = .ret (bl (decide (p ∈ ts)))) := by
  have h := index_c ts p hp ht hl
  refine acalls_by Tryd.func78 Tryd.ntmps78 ?_
  simp only [argFr]
  repeat' (first
    | (show lOp; refine op0 (by first | (show kAssign; exact b_assign) | (show kMove; exact b_move) | (show kCall; exact b_call (h)) | (show kBinopGeq; exact b_geq)) ?_)
    | (show lNil; refine al_nil ?_)
    | (show qSeq; refine n_seq ?_)
    | (show cReg; refine aw_reg ?_)
    | (show cSeq; refine aw_seq ?_)
    | (show cRet; refine aw_ret ?_)
    | (show eRet; refine ret1 Tryd.results78 ?_))
  have e := propext (idxT_ge p ts 0 (by omega))
  simp only [e]
end Go.AL
set_option linter.unusedVariables false
namespace Go.AL
open Go.Proofs
set_option maxRecDepth 10000
attribute [local irreducible] AWp AList RStep seqQ blockQ retQ DSteps
def dedT : List T → List T → List T
  | [], acc => acc
  | p :: r, acc => dedT r (if p.op ≠ 0 ∧ p ∉ acc then acc ++ [p] else acc)
def joinT : List T → T
  | [] => .none
  | [t] => t
  | t :: r => .alt t (joinT r)
def altT (x y : T) (lg : Bool) : T × Bool := if dedT (x.alts ++ y.alts) [] = [] then (.none, lg) else mkT (joinT (dedT (x.alts ++ y.alts) [])) lg
theorem joinT_enc : ∀ (t : T) (r : List T), (joinT (t :: r)).enc = ((t :: r).map T.enc).flatten ++ List.replicate r.length ⟨4, default⟩
  | t, [] => by simp [joinT]
  | t, u :: r => by
    have := joinT_enc u r
    simp only [joinT, T.enc, this]
    simp [List.replicate_succ', List.append_assoc]
def sumS (l : List T) : Nat := (l.map T.size).sum
theorem sumS_append (a b : List T) : sumS (a ++ b) = sumS a + sumS b := by simp [sumS]
theorem alts_sum (t : T) : sumS t.alts ≤ t.size := by
  induction t with
  | alt a b iha ihb => rw [T.size_alt, T.alts, sumS_append]; omega
  | _ => simp [T.alts, sumS]
theorem mem_sumS {l : List T} {t : T} (h : t ∈ l) : t.size ≤ sumS l := by
  induction l with
  | nil => cases h
  | cons a r ih =>
    simp only [sumS, List.map_cons, List.sum_cons] at *
    rcases List.mem_cons.1 h with rfl | h
    · omega
    · have := ih h; omega
theorem len_sumS (l : List T) : l.length ≤ sumS l := by
  induction l with
  | nil => simp
  | cons a r ih => simp only [sumS, List.map_cons, List.sum_cons, List.length_cons] at *; have := a.size_pos; omega
theorem szs_sumS (l : List T) : szs (l.map T.enc) = sumS l := by
  simp [szs, sumS, List.length_flatten, Function.comp_def]; rfl
theorem dedT_sum : ∀ (r acc : List T), sumS (dedT r acc) ≤ sumS acc + sumS r
  | [], acc => by simp [dedT, sumS]
  | p :: r, acc => by
    have h := dedT_sum r (if p.op ≠ 0 ∧ p ∉ acc then acc ++ [p] else acc)
    simp only [dedT]
    refine Nat.le_trans h ?_
    split
    · rw [sumS_append]; simp [sumS]; omega
    · simp [sumS]
theorem szs_append (a b : List (List Part)) : szs (a ++ b) = szs a + szs b := by simp [szs]
theorem szs_rep (n : Nat) : szs (List.replicate n [(⟨4, default⟩ : Part)]) = n := by
  induction n with
  | zero => rfl
  | succ n ih => rw [List.replicate_succ, ← List.singleton_append, szs_append, ih]; simp [szs]; omega
abbrev alt4 : List Part := [⟨4, default⟩]
theorem alt_c (x y : T) (lg : Bool) (hx : x.size ≤ 4096) (hy : y.size ≤ 4096) : ACalls Tryd.prog 69 [.c (.ptr 0 0), pat x.enc, pat y.enc] [.cells ((mk1 lg).map .p)] (fun r σ' => r = .ret (pat (altT x y lg).1.enc) ∧ ∃ gb, σ' = .cells ((mk1 (altT x y lg).2).map .p) :: gb) := by
  have h1 := alternatives_c x (by omega)
  have h2 := alternatives_c y (by omega)
  have l1 := x.alts_len
  have l2 := y.alts_len
  have hs : sumS (x.alts ++ y.alts) ≤ 8192 := by rw [sumS_append]; have := alts_sum x; have := alts_sum y; omega
  have hds := dedT_sum (x.alts ++ y.alts) []
  simp only [List.map]
  refine acalls_by Tryd.func69 Tryd.ntmps69 ?_
  simp only [argFr]
  repeat' (first
    | (show lAt 14; refine k_freezeA (f := encT) (xs := y.alts) 13 ?_)
    | (show lAt 15; refine k_freezeM (f := encT) 14 ?_)
    | (show lCall; first | refine k_callNew h1 ?_ | refine k_callNew h2 ?_ | refine k_appSl (f := encT) (ys := y.alts) ?_)
    | (show lOp; refine op0 (by first | (show kAssign; exact b_assign) | (show kMove; exact b_move) | (show kCall; exact m_lenSl)) ?_)
    | (show lNil; refine al_nil ?_)
    | (show qSeq; refine n_seq ?_)
    | (show cReg; refine aw_reg ?_)
    | (show cSeq; refine aw_seq ?_)
    | (show cBlk; refine aw_block ?_))
  rw [show List.take (x.alts.length + y.alts.length) (List.take x.alts.length x.alts ++ y.alts) = x.alts ++ y.alts by rw [List.take_of_length_le (Nat.le_refl _)]; exact List.take_of_length_le (by simp)]
  simp only [altT]
  generalize x.alts ++ y.alts = all at *
  have hla := len_sumS all
  refine kw_own 7 23 1 ?_
  refine aw_roundsP (ι := Nat × List T) 1 (fun _ => [.cells [.p (.lit (.bool lg))]]) (fun i n => [(0, .c (.ptr 0 0)), (14, tl all), (15, i64 all.length), (16, i64 i.1), (7, .c (.ms (n + 0) i.2.length))]) (fun i n => [.arr 23 1 (i.2.map encT)]) (fun i => i.1 ≤ all.length ∧ dedT (all.drop i.1) i.2 = dedT all [] ∧ i.2.length ≤ i.1 ∧ ∀ t ∈ i.2, t ∈ all) (fun i => all.length - i.1) (0, []) 4 (fun _ => rfl) ⟨by simp, by simp, by simp, by simp⟩ (by omega) (by simp) rfl rfl (by simp [Fr.get]) ?_
  rintro ⟨k, l⟩ n g ⟨g1, g2, g3, g4⟩ hg
  dsimp only at g1 g2 g3 g4 ⊢
  have hmem : (k : Int) < all.length → at' all (k : Int) ∈ all := fun hk => at'_mem (by omega) hk
  have htop : (k : Int) < all.length → ACalls Tryd.prog 28 [pat (at' all (k : Int)).enc] [] (fun x _ => x = .ret (i64 (at' all (k : Int)).op)) := fun hk => top_t _ (by have := mem_sumS (hmem hk); omega)
  have hcon : (k : Int) < all.length → ACalls Tryd.prog 78 [tl l, .c (.p (.fn 79 [.rp (encT (at' all (k : Int)))]))] [] (fun r _ => r = .ret (bl (decide (at' all (k : Int) ∈ l)))) := fun hk => contains_c l _ (by have := mem_sumS (hmem hk); omega) (fun t ht => by have := mem_sumS (g4 t ht); omega) (by omega)
  repeat' (first
    | (show lAt 20; refine k_freezeC 9 ?_)
    | (show cAt 7; refine kw_rot 7 ?_; refine aw_reg ?_)
    | (show lAlloc; refine k_alloc ?_)
    | (show lStore; refine k_store ?_)
    | (show lCall; refine k_app1 (f := encT) (at' all (k : Int)) ?_)
    | (show lOp; refine op0 (by first | (show kAssign; exact b_assign) | (show kMove; exact b_move) | (show kCall; first | exact b_call (htop (by assumption)) | exact b_lend (hcon (by assumption)) | exact b_lenMs) | (show kLoad; exact b_loadRp) | (show kIndexaddr; exact m_indexSl) | (show kBinopAdd; exact b_add) | (show kBinopSub; exact b_sub) | (show kBinopEql; exact b_eql) | (show kBinopNeq; exact b_neq) | (show kBinopLss; exact b_lss) | (show kPick; first | exact b_pickT | exact b_pickF) | (show kUnopNot; exact b_notD) | (show kMakefunc; exact b_makeFunc) | (show kBuildslice; exact b_buildSl1)) ?_)
    | (show lGu; first | refine al_yes ?_ | refine al_none ?_ | refine al_splitD (fun h => ?_) (fun h => ?_))
    | (show lNil; refine al_nil ?_)
    | (show qSeq; first | refine n_seq ?_ | refine x_seq ?_)
    | (show qBlk; first | refine n_block ?_ | refine x_eq ?_)
    | (show cReg; refine aw_reg ?_)
    | (show cSeq; refine aw_seq ?_)
    | (show cBlk; refine aw_block ?_)
    | (show cSkip; refine aw_skip ?_)
    | (show cExit; refine aw_exit ?_)
    | (show cIf; first | refine aw_F ?_ | refine aw_ifD (fun h => ?_) (fun h => ?_)))
  case refine_1.refine_1.refine_1 =>
    refine ⟨(k + 1, l ++ [at' all (k : Int)]), n + 3, ⟨by dsimp only; omega, ?_, by simp; omega, ?_⟩, by simp at hg; omega, by simp at hg; simp; omega, rfl, dropG hg ?_, by simp [Fr.get], by dsimp only; omega⟩
    · rw [drop_at all k (by omega), dedT, if_pos ⟨by assumption, h⟩] at g2; exact g2
    · intro t ht
      rcases List.mem_append.1 ht with ht | ht
      · exact g4 t ht
      · rw [List.mem_singleton.1 ht]; exact hmem (by omega)
    · simp
  case refine_1.refine_1.refine_2 =>
    refine ⟨(k + 1, l), n + 2, ⟨by dsimp only; omega, ?_, by dsimp only; omega, g4⟩, by simp at hg; omega, by simp at hg; simp; omega, rfl, dropG hg ?_, by simp [Fr.get], by dsimp only; omega⟩
    · rw [drop_at all k (by omega), dedT, if_neg (fun hh => h hh.2)] at g2; exact g2
    · simp
  case refine_1.refine_2 =>
    refine ⟨(k + 1, l), n + 2, ⟨by dsimp only; omega, ?_, by dsimp only; omega, g4⟩, by simp at hg; omega, by simp at hg; simp; omega, rfl, dropG hg ?_, by simp [Fr.get], by dsimp only; omega⟩
    · rw [drop_at all k (by omega), dedT, if_neg (fun hh => h hh.1)] at g2; exact g2
    · simp
  all_goals
    have hk : k = all.length := by omega
    have hl : dedT all [] = l := by rw [← g2, hk, List.drop_length]; rfl
    rw [hl] at hds ⊢
  · have hl0 : l = [] := List.eq_nil_of_length_eq_zero (by omega)
    rw [if_pos hl0]
    repeat' (first
      | (show lOp; refine op0 (by first | (show kAssign; exact b_assign) | (show kCall; exact b_call (one_c _))) ?_)
      | (show lNil; refine al_nil ?_)
      | (show qSeq; first | refine n_seq ?_ | refine p_seq ?_)
      | (show cRet; refine aw_ret ?_)
      | (show eRet; refine ret1 Tryd.results69 ?_))
    exact ⟨rfl, _, rfl⟩
  have hl0 : l ≠ [] := fun e => by subst e; simp at h
  rw [if_neg hl0]
  have e0 : l.map encT = (l.map T.enc ++ List.replicate 0 alt4).map encPat := by simp
  rw [e0]
  have hlen := len_sumS l
  have hll : 0 < l.length := List.length_pos_iff.2 hl0
  refine aw_roundsP (ι := Nat) 1 (fun _ => [.cells [.p (.lit (.bool lg))]]) (fun i n => [(0, .c (.ptr 0 0)), (40, i64 ((l.length : Int) - 1)), (41, i64 i), (7, .c (.ms (n + 0) (l.length + i)))]) (fun i n => [.arr 23 1 ((l.map T.enc ++ List.replicate i alt4).map encPat)]) (fun i => i ≤ l.length - 1) (fun i => l.length - 1 - i) 0 (n + 0) (fun _ => rfl) (by omega) (by simp at hg; omega) (by simp at hg; simp; omega) rfl (dropG hg rfl) (by simp [Fr.get]) ?_
  rintro q n' g' hq hg'
  have e1 : List.take (l.length + q) (l.map T.enc ++ List.replicate q alt4) = l.map T.enc ++ List.replicate q alt4 := List.take_of_length_le (by simp)
  have hsz : szs (l.map T.enc ++ List.replicate q alt4) ≤ 100000 := by rw [szs_append, szs_sumS, szs_rep]; simp [sumS] at *; omega
  have hm := made_c (l.map T.enc ++ List.replicate q alt4) lg (by omega) (by simp; omega)
  rw [← e1] at hm
  repeat' (first
    | (show lAt 50; refine k_freezeM (f := encPat) 49 ?_)
    | (show lCall; first | refine k_app1 (f := encPat) alt4 ?_ | refine k_callC hm ?_)
    | (show lOp; refine op0 (by first | (show kAssign; exact b_assign) | (show kMove; exact b_move) | (show kCall; exact b_call (one_c _)) | (show kBinopAdd; exact b_add) | (show kBinopLss; exact b_lss) | (show kBuildslice; exact b_buildSl1)) ?_)
    | (show lNil; refine al_nil ?_)
    | (show qSeq; first | refine n_seq ?_ | refine x_seq ?_)
    | (show qBlk; first | refine n_block ?_ | refine x_eq ?_)
    | (show cReg; refine aw_reg ?_)
    | (show cSeq; refine aw_seq ?_)
    | (show cBlk; refine aw_block ?_)
    | (show cSkip; refine aw_skip ?_)
    | (show cExit; refine aw_exit ?_)
    | (show cRet; refine aw_ret ?_)
    | (show cIf; refine aw_ifD (fun h => ?_) (fun h => ?_))
    | (show eRet; refine ret1 Tryd.results69 ?_))
  · refine ⟨q + 1, n' + 1, by omega, by simp at hg'; omega, by simp at hg'; simp; omega, rfl, dropG hg' ?_, by simp [Fr.get]; omega, by omega⟩
    rw [e1]; simp [List.replicate_succ']
  · have hq' : q = l.length - 1 := by omega
    rw [e1]
    have e2 : (l.map T.enc ++ List.replicate q alt4).flatten = (joinT l).enc := by
      match l, hl0 with
      | t :: r, _ =>
        rw [joinT_enc, hq']
        simp [List.flatten_replicate_singleton]
    rw [e2, madeF_enc]
    exact ⟨rfl, _, rfl⟩
end Go.AL
set_option linter.unusedVariables false
namespace Go.AL
open Go.Proofs
set_option maxRecDepth 10000
attribute [local irreducible] AWp AList RStep seqQ blockQ retQ DSteps
def leftT : T → Bool → T × Bool
  | .alt x y, lg => if lg then (.none, true) else if (T.alt x y).null = false then (.alt x y, false) else
    altT (leftT x false).1 (leftT y (leftT x false).2).1 (leftT y (leftT x false).2).2
  | .seq x y, lg => if lg then (.none, true) else if (T.seq x y).null = false then (.seq x y, false) else
    altT (seqT (leftT x false).1 y (leftT x false).2).1 (leftT y (seqT (leftT x false).1 y (leftT x false).2).2).1 (leftT y (seqT (leftT x false).1 y (leftT x false).2).2).2
  | .star a, lg => if lg then (.none, true) else seqT (leftT a false).1 (.star a) (leftT a false).2
  | .emp, lg => (.none, lg)
  | .none, lg => (.none, lg)
  | .cls c, lg => if lg then (.none, true) else (.cls c, false)
theorem altT_size (x y : T) (lg : Bool) : (altT x y lg).1.size ≤ 4096 := by
  unfold altT
  split
  · exact Nat.le_of_ble_eq_true rfl
  · exact mkT_size _ _
theorem leftT_size (t : T) : ∀ (lg : Bool), t.size ≤ 4096 → (leftT t lg).1.size ≤ 4096 := by
  induction t with
  | alt x y ihx ihy => intro lg h; simp only [leftT]; split; · simp
                       split; · exact h
                       exact altT_size _ _ _
  | seq x y ihx ihy => intro lg h; simp only [leftT]; split; · simp
                       split; · exact h
                       exact altT_size _ _ _
  | star a iha => intro lg h; simp only [leftT]; split; · simp
                  exact seqT_size _ _ _ (iha _ (by rw [T.size_star] at h; omega)) h
  | cls c => intro lg h; simp only [leftT]; split <;> simp
  | _ => intro lg h; simp [leftT]
theorem left_c : ∀ (t : T) (lg : Bool) (h : t.size ≤ 4096), ACalls Tryd.prog 56 [.c (.ptr 0 0), pat t.enc] [.cells ((mk1 lg).map .p)] (fun r σ' => r = .ret (pat (leftT t lg).1.enc) ∧ ∃ gb, σ' = .cells ((mk1 (leftT t lg).2).map .p) :: gb) := by
  intro t
  induction t with
  | alt x y ihx ihy =>
    intro lg hsz
    have hs := T.size_alt x y
    have ht := top_t (.alt x y) (by omega)
    have hn := null_t (.alt x y) (by omega)
    have hsp := split_alt x y (by omega)
    have h1 := ihx false (by omega)
    have h2 := ihy (leftT x false).2 (by omega)
    have h3 := alt_c (leftT x false).1 (leftT y (leftT x false).2).1 (leftT y (leftT x false).2).2 (leftT_size _ _ (by omega)) (leftT_size _ _ (by omega))
    simp only [List.map]
    refine acalls_by Tryd.func56 Tryd.ntmps56 ?_
    simp only [argFr]
    cases lg
    · repeat' (first
        | (show lCall; first | refine k_callC h1 ?_ | refine k_callC h2 ?_ | refine k_callC h3 ?_)
        | (show lOp; refine op0 (by first | (show kAssign; exact b_assign) | (show kMove; exact b_move) | (show kCall; first | exact b_call (ht) | exact b_call (hn) | exact b_call (hsp)) | (show kLoad; exact b_loadPtr) | (show kFieldaddr; exact b_fieldPtr) | (show kBinopEql; exact b_eql) | (show kUnopNot; exact b_not) | (show kNilcheck; exact b_nilPtr) | (show kExtract; exact b_extract)) ?_)
        | (show lNil; refine al_nil ?_)
        | (show qSeq; first | refine n_seq ?_ | refine p_seq ?_)
        | (show qBlk; refine p_block ?_)
        | (show cReg; refine aw_reg ?_)
        | (show cSeq; refine aw_seq ?_)
        | (show cBlk; refine aw_block ?_)
        | (show cSkip; refine aw_skip ?_)
        | (show cRet; refine aw_ret ?_)
        | (show cIf; first | refine aw_T ?_ | refine aw_F ?_ | refine aw_if (fun h => ?_) (fun h => ?_))
        | (show eRet; refine ret1 Tryd.results56 ?_))
      · have e : leftT (.alt x y) false = (.alt x y, false) := by simp only [leftT]; rw [if_neg (by simp), if_pos (by simpa using h)]
        rw [e]; exact ⟨rfl, _, rfl⟩
      · have e : leftT (.alt x y) false = altT (leftT x false).1 (leftT y (leftT x false).2).1 (leftT y (leftT x false).2).2 := by simp only [leftT]; rw [if_neg (by simp), if_neg (by simpa using h)]
        rw [e]; exact ⟨rfl, _, rfl⟩
    · repeat' (first
        | (show lOp; refine op0 (by first | (show kAssign; exact b_assign) | (show kMove; exact b_move) | (show kCall; exact b_call (one_c _)) | (show kLoad; exact b_loadPtr) | (show kFieldaddr; exact b_fieldPtr) | (show kNilcheck; exact b_nilPtr)) ?_)
        | (show lNil; refine al_nil ?_)
        | (show qSeq; first | refine n_seq ?_ | refine p_seq ?_)
        | (show cReg; refine aw_reg ?_)
        | (show cSeq; refine aw_seq ?_)
        | (show cRet; refine aw_ret ?_)
        | (show cIf; refine aw_T ?_)
        | (show eRet; refine ret1 Tryd.results56 ?_))
      exact ⟨rfl, _, rfl⟩
  | seq x y ihx ihy =>
    intro lg hsz
    have hs := T.size_seq x y
    have ht := top_t (.seq x y) (by omega)
    have hn := null_t (.seq x y) (by omega)
    have hsp := split_seq x y (by omega)
    have h1 := ihx false (by omega)
    have h2 := seq_c (leftT x false).1 y (leftT x false).2 (leftT_size _ _ (by omega)) (by omega)
    have h3 := ihy (seqT (leftT x false).1 y (leftT x false).2).2 (by omega)
    have h4 := alt_c (seqT (leftT x false).1 y (leftT x false).2).1 (leftT y (seqT (leftT x false).1 y (leftT x false).2).2).1 (leftT y (seqT (leftT x false).1 y (leftT x false).2).2).2 (seqT_size _ _ _ (leftT_size _ _ (by omega)) (by omega)) (leftT_size _ _ (by omega))
    simp only [List.map]
    refine acalls_by Tryd.func56 Tryd.ntmps56 ?_
    simp only [argFr]
    cases lg
    · repeat' (first
        | (show lCall; first | refine k_callC h1 ?_ | refine k_callC h2 ?_ | refine k_callC h3 ?_ | refine k_callC h4 ?_)
        | (show lOp; refine op0 (by first | (show kAssign; exact b_assign) | (show kMove; exact b_move) | (show kCall; first | exact b_call (ht) | exact b_call (hn) | exact b_call (hsp)) | (show kLoad; exact b_loadPtr) | (show kFieldaddr; exact b_fieldPtr) | (show kBinopEql; exact b_eql) | (show kUnopNot; exact b_not) | (show kNilcheck; exact b_nilPtr) | (show kExtract; exact b_extract)) ?_)
        | (show lNil; refine al_nil ?_)
        | (show qSeq; first | refine n_seq ?_ | refine p_seq ?_)
        | (show qBlk; refine p_block ?_)
        | (show cReg; refine aw_reg ?_)
        | (show cSeq; refine aw_seq ?_)
        | (show cBlk; refine aw_block ?_)
        | (show cSkip; refine aw_skip ?_)
        | (show cRet; refine aw_ret ?_)
        | (show cIf; first | refine aw_T ?_ | refine aw_F ?_ | refine aw_if (fun h => ?_) (fun h => ?_))
        | (show eRet; refine ret1 Tryd.results56 ?_))
      · have e : leftT (.seq x y) false = (.seq x y, false) := by simp only [leftT]; rw [if_neg (by simp), if_pos (by simpa using h)]
        rw [e]; exact ⟨rfl, _, rfl⟩
      · have e : leftT (.seq x y) false = altT (seqT (leftT x false).1 y (leftT x false).2).1 (leftT y (seqT (leftT x false).1 y (leftT x false).2).2).1 (leftT y (seqT (leftT x false).1 y (leftT x false).2).2).2 := by simp only [leftT]; rw [if_neg (by simp), if_neg (by simpa using h)]
        rw [e]; exact ⟨rfl, _, rfl⟩
    · repeat' (first
        | (show lOp; refine op0 (by first | (show kAssign; exact b_assign) | (show kMove; exact b_move) | (show kCall; exact b_call (one_c _)) | (show kLoad; exact b_loadPtr) | (show kFieldaddr; exact b_fieldPtr) | (show kNilcheck; exact b_nilPtr)) ?_)
        | (show lNil; refine al_nil ?_)
        | (show qSeq; first | refine n_seq ?_ | refine p_seq ?_)
        | (show cReg; refine aw_reg ?_)
        | (show cSeq; refine aw_seq ?_)
        | (show cRet; refine aw_ret ?_)
        | (show cIf; refine aw_T ?_)
        | (show eRet; refine ret1 Tryd.results56 ?_))
      exact ⟨rfl, _, rfl⟩
  | star a iha =>
    intro lg hsz
    have hs := T.size_star a
    have ht := top_t (.star a) (by omega)
    have hn := null_t (.star a) (by omega)
    have h1 := iha false (by omega)
    have e1 : (T.star a).enc.take (((T.star a).enc.length : Int) - 1).toNat = a.enc := by
      have : (((T.star a).enc.length : Int) - 1).toNat = a.enc.length := by simp [T.enc]
      rw [this]; simp [T.enc]
    rw [← e1] at h1
    have h2 := seq_c (leftT a false).1 (.star a) (leftT a false).2 (leftT_size _ _ (by omega)) (by omega)
    have hlen : ((T.star a).enc.length : Int) = a.size + 1 := by have := hs; simp only [T.size] at this ⊢; omega
    simp only [List.map]
    refine acalls_by Tryd.func56 Tryd.ntmps56 ?_
    simp only [argFr]
    cases lg
    · repeat' (first
        | (show lCall; first | refine k_callC h1 ?_ | refine k_callC h2 ?_)
        | (show lOp; refine op0 (by first | (show kAssign; exact b_assign) | (show kMove; exact b_move) | (show kCall; first | exact b_call (ht) | exact b_call (hn) | exact m_lenSl) | (show kLoad; exact b_loadPtr) | (show kFieldaddr; exact b_fieldPtr) | (show kBinopSub; exact b_sub) | (show kBinopEql; exact b_eql) | (show kUnopNot; exact b_not) | (show kNilcheck; exact b_nilPtr) | (show kSlice; exact m_sliceSlH)) ?_)
        | (show lNil; refine al_nil ?_)
        | (show qSeq; first | refine n_seq ?_ | refine p_seq ?_)
        | (show qBlk; refine p_block ?_)
        | (show cReg; refine aw_reg ?_)
        | (show cSeq; refine aw_seq ?_)
        | (show cBlk; refine aw_block ?_)
        | (show cSkip; refine aw_skip ?_)
        | (show cRet; refine aw_ret ?_)
        | (show cIf; first | refine aw_T ?_ | refine aw_F ?_)
        | (show eRet; refine ret1 Tryd.results56 ?_))
      have e : leftT (.star a) false = seqT (leftT a false).1 (.star a) (leftT a false).2 := by simp only [leftT]; rw [if_neg (by simp)]
      rw [e]; exact ⟨rfl, _, rfl⟩
    · repeat' (first
        | (show lOp; refine op0 (by first | (show kAssign; exact b_assign) | (show kMove; exact b_move) | (show kCall; exact b_call (one_c _)) | (show kLoad; exact b_loadPtr) | (show kFieldaddr; exact b_fieldPtr) | (show kNilcheck; exact b_nilPtr)) ?_)
        | (show lNil; refine al_nil ?_)
        | (show qSeq; first | refine n_seq ?_ | refine p_seq ?_)
        | (show cReg; refine aw_reg ?_)
        | (show cSeq; refine aw_seq ?_)
        | (show cRet; refine aw_ret ?_)
        | (show cIf; refine aw_T ?_)
        | (show eRet; refine ret1 Tryd.results56 ?_))
      exact ⟨rfl, _, rfl⟩
  | emp =>
    intro lg hsz
    have ht := top_t .emp (by omega)
    have hn := null_t .emp (by omega)
    simp only [List.map]
    refine acalls_by Tryd.func56 Tryd.ntmps56 ?_
    simp only [argFr]
    cases lg
    · repeat' (first
        | (show lOp; refine op0 (by first | (show kAssign; exact b_assign) | (show kMove; exact b_move) | (show kCall; first | exact b_call (ht) | exact b_call (hn) | exact b_call (one_c _)) | (show kLoad; exact b_loadPtr) | (show kFieldaddr; exact b_fieldPtr) | (show kBinopEql; exact b_eql) | (show kUnopNot; exact b_not) | (show kNilcheck; exact b_nilPtr)) ?_)
        | (show lNil; refine al_nil ?_)
        | (show qSeq; refine n_seq ?_)
        | (show qBlk; refine n_block ?_)
        | (show cReg; refine aw_reg ?_)
        | (show cSeq; refine aw_seq ?_)
        | (show cBlk; refine aw_block ?_)
        | (show cSkip; refine aw_skip ?_)
        | (show cRet; refine aw_ret ?_)
        | (show cIf; refine aw_F ?_)
        | (show eRet; refine ret1 Tryd.results56 ?_))
      exact ⟨rfl, _, rfl⟩
    · repeat' (first
        | (show lOp; refine op0 (by first | (show kAssign; exact b_assign) | (show kMove; exact b_move) | (show kCall; exact b_call (one_c _)) | (show kLoad; exact b_loadPtr) | (show kFieldaddr; exact b_fieldPtr) | (show kNilcheck; exact b_nilPtr)) ?_)
        | (show lNil; refine al_nil ?_)
        | (show qSeq; first | refine n_seq ?_ | refine p_seq ?_)
        | (show cReg; refine aw_reg ?_)
        | (show cSeq; refine aw_seq ?_)
        | (show cRet; refine aw_ret ?_)
        | (show cIf; refine aw_T ?_)
        | (show eRet; refine ret1 Tryd.results56 ?_))
      exact ⟨rfl, _, rfl⟩
  | none =>
    intro lg hsz
    have ht := top_t .none (by omega)
    have hn := null_t .none (by omega)
    simp only [List.map]
    refine acalls_by Tryd.func56 Tryd.ntmps56 ?_
    simp only [argFr]
    cases lg
    · repeat' (first
        | (show lOp; refine op0 (by first | (show kAssign; exact b_assign) | (show kMove; exact b_move) | (show kCall; exact b_call (hn)) | (show kLoad; exact b_loadPtr) | (show kFieldaddr; exact b_fieldPtr) | (show kUnopNot; exact b_not) | (show kNilcheck; exact b_nilPtr)) ?_)
        | (show lNil; refine al_nil ?_)
        | (show qSeq; first | refine n_seq ?_ | refine p_seq ?_)
        | (show cReg; refine aw_reg ?_)
        | (show cSeq; refine aw_seq ?_)
        | (show cSkip; refine aw_skip ?_)
        | (show cRet; refine aw_ret ?_)
        | (show cIf; first | refine aw_T ?_ | refine aw_F ?_)
        | (show eRet; refine ret1 Tryd.results56 ?_))
      exact ⟨rfl, _, rfl⟩
    · repeat' (first
        | (show lOp; refine op0 (by first | (show kAssign; exact b_assign) | (show kMove; exact b_move) | (show kCall; exact b_call (one_c _)) | (show kLoad; exact b_loadPtr) | (show kFieldaddr; exact b_fieldPtr) | (show kNilcheck; exact b_nilPtr)) ?_)
        | (show lNil; refine al_nil ?_)
        | (show qSeq; first | refine n_seq ?_ | refine p_seq ?_)
        | (show cReg; refine aw_reg ?_)
        | (show cSeq; refine aw_seq ?_)
        | (show cRet; refine aw_ret ?_)
        | (show cIf; refine aw_T ?_)
        | (show eRet; refine ret1 Tryd.results56 ?_))
      exact ⟨rfl, _, rfl⟩
  | cls c =>
    intro lg hsz
    have ht := top_t (.cls c) (by omega)
    have hn := null_t (.cls c) (by omega)
    simp only [List.map]
    refine acalls_by Tryd.func56 Tryd.ntmps56 ?_
    simp only [argFr]
    cases lg
    · repeat' (first
        | (show lOp; refine op0 (by first | (show kAssign; exact b_assign) | (show kMove; exact b_move) | (show kCall; exact b_call (hn)) | (show kLoad; exact b_loadPtr) | (show kFieldaddr; exact b_fieldPtr) | (show kUnopNot; exact b_not) | (show kNilcheck; exact b_nilPtr)) ?_)
        | (show lNil; refine al_nil ?_)
        | (show qSeq; first | refine n_seq ?_ | refine p_seq ?_)
        | (show cReg; refine aw_reg ?_)
        | (show cSeq; refine aw_seq ?_)
        | (show cSkip; refine aw_skip ?_)
        | (show cRet; refine aw_ret ?_)
        | (show cIf; first | refine aw_T ?_ | refine aw_F ?_)
        | (show eRet; refine ret1 Tryd.results56 ?_))
      exact ⟨rfl, _, rfl⟩
    · repeat' (first
        | (show lOp; refine op0 (by first | (show kAssign; exact b_assign) | (show kMove; exact b_move) | (show kCall; exact b_call (one_c _)) | (show kLoad; exact b_loadPtr) | (show kFieldaddr; exact b_fieldPtr) | (show kNilcheck; exact b_nilPtr)) ?_)
        | (show lNil; refine al_nil ?_)
        | (show qSeq; first | refine n_seq ?_ | refine p_seq ?_)
        | (show cReg; refine aw_reg ?_)
        | (show cSeq; refine aw_seq ?_)
        | (show cRet; refine aw_ret ?_)
        | (show cIf; refine aw_T ?_)
        | (show eRet; refine ret1 Tryd.results56 ?_))
      exact ⟨rfl, _, rfl⟩
end Go.AL
set_option linter.unusedVariables false
namespace Go.AL
open Go.Proofs
set_option maxRecDepth 10000
attribute [local irreducible] AWp AList RStep seqQ blockQ retQ DSteps
def checkF (xs : List Part) : Int := if xs.length > 4096 then 1 else if shapedGo xs 0 = false then 6 else if depthGo xs [] > 100 then 3 else 0
theorem check_c (xs : List Part) (h : xs.length ≤ 1000000) : ACalls Tryd.prog 13 [pat xs] [] (fun x _ => x = .ret (i64 (checkF xs))) := by
  have h1 := shaped_c xs (by omega)
  have h2 := depth_c xs h
  refine acalls_by Tryd.func13 Tryd.ntmps13 ?_
  simp only [argFr]
  by_cases hs : shapedGo xs 0 = true
  · have h2 := h2 hs
    repeat' (first
      | (show lOp; refine op0 (by first | (show kAssign; exact b_assign) | (show kMove; exact b_move) | (show kCall; first | exact b_call (h1) | exact b_call (h2) | exact m_lenSl) | (show kBinopGtr; exact b_gtr) | (show kUnopNot; exact b_not)) ?_)
      | (show lNil; refine al_nil ?_)
      | (show qSeq; first | refine n_seq ?_ | refine p_seq ?_)
      | (show qBlk; first | refine n_block ?_ | refine p_block ?_)
      | (show cReg; refine aw_reg ?_)
      | (show cSeq; refine aw_seq ?_)
      | (show cBlk; refine aw_block ?_)
      | (show cSkip; refine aw_skip ?_)
      | (show cRet; refine aw_ret ?_)
      | (show cIf; first | refine aw_ifD (fun h => ?_) (fun h => ?_) | refine aw_if (fun h => ?_) (fun h => ?_))
      | (show eRet; refine ret1 Tryd.results13 ?_))
    · simp only [checkF]; rw [if_pos (by omega)]
    · rename_i h' _; rw [hs] at h; cases h
    · rename_i a b; simp only [checkF]; rw [if_neg (by omega), if_neg (by simp [hs]), if_pos h]
    · rename_i a b; simp only [checkF]; rw [if_neg (by omega), if_neg (by simp [hs]), if_neg h]
  · have hs' : shapedGo xs 0 = false := by simpa using hs
    repeat' (first
      | (show lOp; refine op0 (by first | (show kAssign; exact b_assign) | (show kMove; exact b_move) | (show kCall; first | exact b_call (h1) | exact m_lenSl) | (show kBinopGtr; exact b_gtr) | (show kUnopNot; exact b_not)) ?_)
      | (show lNil; refine al_nil ?_)
      | (show qSeq; first | refine n_seq ?_ | refine p_seq ?_)
      | (show qBlk; refine p_block ?_)
      | (show cReg; refine aw_reg ?_)
      | (show cSeq; refine aw_seq ?_)
      | (show cBlk; refine aw_block ?_)
      | (show cRet; refine aw_ret ?_)
      | (show cIf; first | refine aw_ifD (fun h => ?_) (fun h => ?_) | refine aw_if (fun h => ?_) (fun h => ?_))
      | (show eRet; refine ret1 Tryd.results13 ?_))
    · simp only [checkF]; rw [if_pos (by omega)]
    · rename_i a; simp only [checkF]; rw [if_neg (by omega), if_pos hs']
    all_goals (exfalso; simp [hs'] at h)
end Go.AL
set_option linter.unusedVariables false
namespace Go.AL
open Go.Proofs
set_option maxRecDepth 10000
attribute [local irreducible] AWp AList RStep seqQ blockQ retQ DSteps awR rQ
abbrev enc2 (p : Int × Int) : List PV := [.lit (.int .i64 p.1), .lit (.int .i64 p.2)]
abbrev encI (n : Int) : List PV := [.lit (.int .i64 n)]
/-- A node's parts, and where its extent begins, from where those in front begin. -/
def pStep (op : Int) (i : Nat) (f : List Int) : (Int × Int) × Int :=
  if op = 5 then
    if i = 0 ∨ at' f ((i : Int) - 1) < 0 then ((-1, -1), -1) else (((i : Int) - 1, -1), at' f ((i : Int) - 1))
  else if op = 3 ∨ op = 4 then
    if i = 0 ∨ at' f ((i : Int) - 1) < 0 then ((-1, -1), -1)
    else if at' f ((i : Int) - 1) = 0 ∨ at' f (at' f ((i : Int) - 1) - 1) < 0 then ((-1, (i : Int) - 1), -1)
    else ((at' f ((i : Int) - 1) - 1, (i : Int) - 1), at' f (at' f ((i : Int) - 1) - 1))
  else ((-1, -1), i)
def pTab (xs : List Part) : Nat → List (Int × Int) × List Int
  | 0 => ([], [])
  | k + 1 => ((pTab xs k).1 ++ [(pStep (at' xs (k : Int)).op k (pTab xs k).2).1], (pTab xs k).2 ++ [(pStep (at' xs (k : Int)).op k (pTab xs k).2).2])
theorem pTab_len (xs : List Part) (k : Nat) : (pTab xs k).1.length = k ∧ (pTab xs k).2.length = k := by
  induction k with
  | zero => exact ⟨rfl, rfl⟩
  | succ k ih => simp [pTab, ih.1, ih.2]
/-- What begins somewhere begins at a place in front. -/
theorem at'_snoc {α : Type} [Inhabited α] (f : List α) (v : α) (j : Int) : at' (f ++ [v]) j = if j.toNat < f.length then at' f j else if j.toNat = f.length then v else default := by
  simp only [at', List.getD_eq_getElem?_getD]
  split
  · rename_i h; rw [List.getElem?_append_left h]
  · rename_i h
    rw [List.getElem?_append_right (by omega)]
    split
    · rename_i h2; simp [h2]
    · rename_i h2
      obtain ⟨n, hn⟩ : ∃ n, j.toNat - f.length = n + 1 := ⟨j.toNat - f.length - 1, by omega⟩
      simp [hn]
theorem pTab_range (xs : List Part) (k : Nat) : ∀ j : Int, at' (pTab xs k).2 j ≤ j.toNat ∧ -1 ≤ at' (pTab xs k).2 j := by
  induction k with
  | zero => intro j; simp [pTab, at']; omega
  | succ k ih =>
    intro j
    simp only [pTab, at'_snoc, (pTab_len xs k).2]
    split
    · exact ih j
    · split
      · rename_i h1 h2
        have a1 := ih ((k : Int) - 1)
        have a2 := ih (at' (pTab xs k).2 ((k : Int) - 1) - 1)
        simp only [pStep]
        split
        · split <;> (dsimp only; omega)
        · split
          · split
            · dsimp only; omega
            · split <;> (dsimp only; omega)
          · dsimp only; omega
      · show (0 : Int) ≤ _ ∧ -1 ≤ (0 : Int)
        omega
theorem at'_set {α : Type} [Inhabited α] {f : List α} {k : Nat} {v : α} {j : Int} (h : j.toNat ≠ k) : at' (f.set k v) j = at' f j := by
  simp only [at', List.getD_eq_getElem?_getD]
  rw [List.getElem?_set_ne (fun e => h e.symm)]
theorem at'_take {α : Type} [Inhabited α] {f g : List α} {k : Nat} {j : Int} (h : f.take k = g) (h1 : j.toNat < k) : at' f j = at' g j := by
  subst h
  simp only [at', List.getD_eq_getElem?_getD, List.getElem?_take, if_pos h1]
theorem at'_set_self {α : Type} [Inhabited α] {f : List α} {k : Nat} {v : α} (h : k < f.length) : at' (f.set k v) (k : Int) = v := by
  simp [at', List.getD_eq_getElem?_getD, h]
theorem take_set_next {α : Type} {f g : List α} {k : Nat} {v : α} (h : f.take k = g) (hk : k < f.length) : (f.set k v).take (k + 1) = g ++ [v] := by
  subst h
  rw [List.take_add_one, List.take_set_of_le (Nat.le_refl _), List.getElem?_set_self hk]; rfl
set_option maxHeartbeats 1000000 in
theorem parts37_c (xs : List Part) (h : xs.length ≤ 1000000) : ACalls Tryd.prog 37 [pat xs] [] (fun x _ => x = .ret (.tup [.c (.p (.sl 2 ((pTab xs xs.length).1.map enc2))), .c (.p (.sl 1 ((pTab xs xs.length).2.map encI))), bl (decide (0 < xs.length ∧ at' (pTab xs xs.length).2 ((xs.length : Int) - 1) = 0))])) := by
  refine acalls_by Tryd.func37 Tryd.ntmps37 ?_
  simp only [argFr]
  repeat' (first
    | (show lMakeSlice; refine k_make ?_)
    | (show lOp; refine op0 (by first | (show kAssign; exact b_assign) | (show kMove; exact b_move) | (show kCall; exact m_lenSl)) ?_)
    | (show lNil; refine al_nil ?_)
    | (show qSeq; refine n_seq ?_)
    | (show cReg; refine aw_reg ?_)
    | (show cSeq; refine aw_seq ?_)
    | (show cBlk; refine aw_block ?_))
  have ez2 : List.replicate (xs.length : Int).toNat (zP (.agg #[.int .i64 0, .int .i64 0])) = (([] ++ List.replicate xs.length (0, 0)) : List (Int × Int)).map enc2 := by simp [zP, Value.cells]
  have ez1 : List.replicate (xs.length : Int).toNat (zP (.int .i64 0)) = (([] ++ List.replicate xs.length 0) : List Int).map encI := by simp [zP, Value.cells]
  rw [ez2, ez1]
  refine aw_rounds (ι := Nat × List (Int × Int) × List Int) (fun i => [(0, pat xs), (5, .c (.ms 0 xs.length)), (6, .c (.ms 1 xs.length)), (7, i64 i.1)]) (fun i => [.arr 105 2 (i.2.1.map enc2), .arr 3 1 (i.2.2.map encI)]) (fun i => i.1 ≤ xs.length ∧ i.2.1.length = xs.length ∧ i.2.2.length = xs.length ∧ i.2.1.take i.1 = (pTab xs i.1).1 ∧ i.2.2.take i.1 = (pTab xs i.1).2) (fun i => xs.length - i.1) (0, _, _) ⟨by simp, by simp, by simp, by simp [pTab], by simp [pTab]⟩ rfl (by simp [Fr.get]) ?_
  rintro ⟨k, l, f⟩ ⟨g1, g2, g3, g4, g5⟩
  dsimp only at g1 g2 g3 g4 g5 ⊢
  have hB : ∀ (v j : Int), j.toNat < k → at' (f.set (k : Int).toNat v) j = at' (pTab xs k).2 j := fun v j h => by
    rw [at'_set (by omega)]; exact at'_take g5 h
  have hb1 : 1 ≤ k → at' (f.set (k : Int).toNat (k : Int)) ((k : Int) - 1) ≤ (k : Int) - 1 := fun h => by
    rw [hB _ _ (by omega)]; have := (pTab_range xs k ((k : Int) - 1)).1; omega
  repeat' (first
    | (show cRet; refine kw_freezeM (f := enc2) 2 ?_)
    | (show cRet; refine kw_freezeM (f := encI) 3 ?_)
    | (show lStore; first | refine k_storeElM (f := enc2) (_, _) ?_ | refine k_storeElM (f := encI) _ ?_ | refine k_storePart (f := enc2) ((k : Int) - 1, (at' (l.set (k : Int).toNat (-1, -1)) ((k : Int).toNat : Int)).2) ?_ | refine k_storePart (f := enc2) ((at' (l.set (k : Int).toNat (-1, -1)) ((k : Int).toNat : Int)).1, (k : Int) - 1) ?_ | refine k_storePart (f := enc2) (_, _) ?_)
    | (show lOp; refine op0 (by first | (show kAssign; exact b_assign) | (show kMove; exact b_move) | (show kCall; exact m_lenSl) | (show kLoad; first | exact b_loadRp | exact m_loadEpt) | (show kFieldaddr; exact b_fieldRp) | (show kIndexaddr; first | exact m_indexSl | exact m_indexMs | exact b_indexArrEpt) | (show kBinopAdd; exact b_add) | (show kBinopSub; exact b_sub) | (show kBinopEql; exact b_eql) | (show kBinopLss; exact b_lss) | (show kBinopGeq; exact b_geq) | (show kPick; first | exact b_pickT | exact b_pickF) | (show kBuild; exact b_buildArr)) ?_)
    | (show lGu; first | refine al_yes ?_ | refine al_none ?_ | refine al_splitD (fun h => ?_) (fun h => ?_))
    | (show lNil; refine al_nil ?_)
    | (show qSeq; first | refine n_seq ?_ | refine x_seq ?_)
    | (show qBlk; first | refine n_block ?_ | refine x_eq ?_ | refine x_ne ?_)
    | (show rRnd; refine r_succ ?_)
    | (show rRq; first | refine rq_normal ?_ | refine rq_exit ?_)
    | (show cLoop; refine aw_unroll 3 ?_)
    | (show cReg; refine aw_reg ?_)
    | (show cSeq; refine aw_seq ?_)
    | (show cBlk; refine aw_block ?_)
    | (show cSkip; refine aw_skip ?_)
    | (show cExit; refine aw_exit ?_)
    | (show cRet; refine aw_ret ?_)
    | (show cIf; first | refine aw_T ?_ | refine aw_F ?_ | refine aw_ifD (fun h => ?_) (fun h => ?_))
    | (show cRegD; refine aw_drN Tryd_mixed ?_)
    | (show dOp; refine ds_op (by first | (show kAssign; exact b_assign) | (show kMove; exact b_move) | (show kCall; exact m_lenSl) | (show kBinopGtr; exact b_gtr) | (show kPick; first | exact b_pickT | exact b_pickF)) ?_)
    | (show dGu; first | refine ds_none ?_ | (refine ds_yes (by first | (show kMove; exact b_move) | (show kCall; exact m_lenSl) | (show kLoad; exact m_loadEpt) | (show kIndexaddr; exact m_indexMs) | (show kBinopSub; exact b_sub) | (show kBinopEql; exact b_eql)) ?_) | refine ds_splitD (fun h => ?_) (fun h => ?_))
    | (show dNil; refine ds_nil ?_)
    | (show eRet; refine ret3 Tryd.results37 ?_))
  rotate_right 2
  · have hk : k = xs.length := by omega
    have e1 : l.take xs.length = (pTab xs xs.length).1 := by rw [← hk]; rw [hk] at g4 ⊢; exact g4
    have e2 : f.take xs.length = (pTab xs xs.length).2 := by rw [← hk]; rw [hk] at g5 ⊢; exact g5
    have e3 : f = (pTab xs xs.length).2 := by rw [← e2, List.take_of_length_le (by omega)]
    rw [e1, e2, e3]
    have : 0 < xs.length := by omega
    simp [this]
  · have hk : k = xs.length := by omega
    have e1 : l.take xs.length = (pTab xs xs.length).1 := by rw [← hk]; rw [hk] at g4 ⊢; exact g4
    have e2 : f.take xs.length = (pTab xs xs.length).2 := by rw [← hk]; rw [hk] at g5 ⊢; exact g5
    rw [e1, e2]
    have : ¬ 0 < xs.length := by omega
    simp [this]
  all_goals
    have hkl : k < l.length := by omega
    have hkf : k < f.length := by omega
    refine ⟨(k + 1, _, _), ⟨by dsimp only; omega, ?_, ?_, ?_, ?_⟩, rfl, by simp [Fr.get], by dsimp only; omega⟩
    · simp only [List.length_set, g2]
    · simp only [List.length_set, g3]
    · clear hb1; simp only [Int.toNat_natCast, List.set_set] at *
      rw [take_set_next g4 hkl, pTab]
      simp only [at'_set_self hkl, pStep]
      have hR := (pTab_range xs k ((k : Int) - 1)).1
      have hB1 : ¬ (k : Int) = 0 → at' (f.set k (k : Int)) ((k : Int) - 1) = at' (pTab xs k).2 ((k : Int) - 1) := fun hk => hB _ _ (by omega)
      have e1 := hB1
      have e2 : ¬ (k : Int) = 0 → at' (f.set k (at' (pTab xs k).2 ((k : Int) - 1))) (at' (pTab xs k).2 ((k : Int) - 1) - 1) = at' (pTab xs k).2 (at' (pTab xs k).2 ((k : Int) - 1) - 1) := fun hk => hB _ _ (by omega)
      clear hB hB1
      generalize at' (pTab xs k).2 ((k : Int) - 1) = A at *
      generalize at' (pTab xs k).2 (A - 1) = A2 at *
      have hk0 : (k : Int) = 0 ↔ k = 0 := by omega
      simp_all <;> (try (split <;> (try split) <;> first | rfl | (exfalso; omega)))
    · clear hb1; simp only [Int.toNat_natCast, List.set_set] at *
      rw [take_set_next g5 hkf, pTab]
      simp only [pStep]
      have hR := (pTab_range xs k ((k : Int) - 1)).1
      have hB1 : ¬ (k : Int) = 0 → at' (f.set k (k : Int)) ((k : Int) - 1) = at' (pTab xs k).2 ((k : Int) - 1) := fun hk => hB _ _ (by omega)
      have e1 := hB1
      have e2 : ¬ (k : Int) = 0 → at' (f.set k (at' (pTab xs k).2 ((k : Int) - 1))) (at' (pTab xs k).2 ((k : Int) - 1) - 1) = at' (pTab xs k).2 (at' (pTab xs k).2 ((k : Int) - 1) - 1) := fun hk => hB _ _ (by omega)
      clear hB hB1
      generalize at' (pTab xs k).2 ((k : Int) - 1) = A at *
      generalize at' (pTab xs k).2 (A - 1) = A2 at *
      have hk0 : (k : Int) = 0 ↔ k = 0 := by omega
      simp_all <;> (try (split <;> (try split) <;> first | rfl | (exfalso; omega)))
end Go.AL
set_option linter.unusedVariables false
set_option linter.unusedSimpArgs false
namespace Go.AL
/-! ### 1. The subtrees, in the order of their last nodes -/
def T.subs : T → List T
  | .seq a b => a.subs ++ b.subs ++ [.seq a b] | .alt a b => a.subs ++ b.subs ++ [.alt a b] | .star a => a.subs ++ [.star a]
  | .none => [.none] | .emp => [.emp] | .cls c => [.cls c]
theorem T.subs_enc (t : T) : t.subs.map T.node = t.enc := by
  induction t <;> simp_all [T.subs, T.enc, T.node]
theorem T.subs_len (t : T) : t.subs.length = t.size := by rw [T.size, ← T.subs_enc, List.length_map]
theorem T.subs_split (t : T) : ∃ l, t.subs = l ++ [t] ∧ l.length + 1 = t.size := by
  have h := t.subs_len
  cases t with
  | seq a b => exact ⟨_, rfl, by simp [T.subs] at h ⊢; omega⟩
  | alt a b => exact ⟨_, rfl, by simp [T.subs] at h ⊢; omega⟩
  | star a => exact ⟨_, rfl, by simpa [T.subs] using h⟩
  | none => exact ⟨[], rfl, rfl⟩
  | emp => exact ⟨[], rfl, rfl⟩
  | cls c => exact ⟨[], rfl, rfl⟩
theorem T.subs_last (t : T) : t.subs[t.size - 1]? = some t := by
  obtain ⟨l, e, h⟩ := t.subs_split
  rw [e, ← h, Nat.add_sub_cancel]; simp
/-- A subtree's parts end just in front of it. -/
def KidAt (l : List T) (i : Nat) : T → Prop
  | .seq a b => a.size + b.size ≤ i ∧ l[i - 1]? = some b ∧ l[i - 1 - b.size]? = some a
  | .alt a b => a.size + b.size ≤ i ∧ l[i - 1]? = some b ∧ l[i - 1 - b.size]? = some a
  | .star a => a.size ≤ i ∧ l[i - 1]? = some a
  | _ => True
def Kids (l : List T) : Prop := ∀ (i : Nat) (s : T), l[i]? = some s → KidAt l i s
theorem Kids.app {l r : List T} (hl : Kids l) (hr : Kids r) : Kids (l ++ r) := by
  intro i s h
  have lt : ∀ {j : Nat} {x : T}, l[j]? = some x → (l ++ r)[j]? = some x := fun h => by
    rw [List.getElem?_append_left (List.getElem?_eq_some_iff.1 h).1]; exact h
  have rt : ∀ {j : Nat} {x : T}, r[j]? = some x → (l ++ r)[l.length + j]? = some x := fun h => by
    rw [List.getElem?_append_right (by omega), Nat.add_sub_cancel_left]; exact h
  by_cases hi : i < l.length
  · rw [List.getElem?_append_left hi] at h
    have k := hl i s h
    cases s with
    | seq a b => exact ⟨k.1, lt k.2.1, lt k.2.2⟩
    | alt a b => exact ⟨k.1, lt k.2.1, lt k.2.2⟩
    | star a => exact ⟨k.1, lt k.2⟩
    | _ => trivial
  · obtain ⟨j, rfl⟩ : ∃ j, i = l.length + j := ⟨i - l.length, by omega⟩
    rw [List.getElem?_append_right (by omega), Nat.add_sub_cancel_left] at h
    have k := hr j s h
    cases s with
    | seq a b =>
      have h1 := a.size_pos
      have h2 := b.size_pos
      obtain ⟨k1, k2, k3⟩ := k
      exact ⟨by omega, by rw [show l.length + j - 1 = l.length + (j - 1) by omega]; exact rt k2, by rw [show l.length + j - 1 - b.size = l.length + (j - 1 - b.size) by omega]; exact rt k3⟩
    | alt a b =>
      have h1 := a.size_pos
      have h2 := b.size_pos
      obtain ⟨k1, k2, k3⟩ := k
      exact ⟨by omega, by rw [show l.length + j - 1 = l.length + (j - 1) by omega]; exact rt k2, by rw [show l.length + j - 1 - b.size = l.length + (j - 1 - b.size) by omega]; exact rt k3⟩
    | star a =>
      have h1 := a.size_pos
      obtain ⟨k1, k2⟩ := k
      exact ⟨by omega, by rw [show l.length + j - 1 = l.length + (j - 1) by omega]; exact rt k2⟩
    | _ => trivial
theorem Kids.snoc {l : List T} {s : T} (hl : Kids l) (hs : KidAt l l.length s) : Kids (l ++ [s]) := by
  intro i x h
  have lt : ∀ {j : Nat} {x : T}, l[j]? = some x → (l ++ [s])[j]? = some x := fun h => by
    rw [List.getElem?_append_left (List.getElem?_eq_some_iff.1 h).1]; exact h
  have k : KidAt l i x := by
    by_cases hi : i < l.length
    · rw [List.getElem?_append_left hi] at h; exact hl i x h
    · rw [List.getElem?_append_right (by omega)] at h
      have : i - l.length = 0 := by
        have := (List.getElem?_eq_some_iff.1 h).1
        simp at this; omega
      rw [this] at h
      simp at h
      subst h
      rw [show i = l.length by omega]; exact hs
  cases x with
  | seq a b => exact ⟨k.1, lt k.2.1, lt k.2.2⟩
  | alt a b => exact ⟨k.1, lt k.2.1, lt k.2.2⟩
  | star a => exact ⟨k.1, lt k.2⟩
  | _ => trivial
theorem T.kids (t : T) : Kids t.subs := by
  have leaf : ∀ s : T, KidAt [] 0 s → Kids [s] := fun s h => Kids.snoc (l := []) (fun i s h => by simp at h) h
  have two : ∀ a b : T, (a.subs ++ b.subs)[a.size + b.size - 1]? = some b ∧ (a.subs ++ b.subs)[a.size + b.size - 1 - b.size]? = some a := by
    intro a b
    have ha := a.size_pos
    have hb := b.size_pos
    have la := a.subs_len
    constructor
    · rw [List.getElem?_append_right (by omega), show a.size + b.size - 1 - a.subs.length = b.size - 1 by omega]; exact b.subs_last
    · rw [List.getElem?_append_left (by omega), show a.size + b.size - 1 - b.size = a.size - 1 by omega]; exact a.subs_last
  induction t with
  | none => exact leaf _ trivial
  | emp => exact leaf _ trivial
  | cls c => exact leaf _ trivial
  | seq a b iha ihb =>
    refine Kids.snoc (iha.app ihb) ?_
    rw [List.length_append, a.subs_len, b.subs_len]
    exact ⟨Nat.le_refl _, two a b⟩
  | alt a b iha ihb =>
    refine Kids.snoc (iha.app ihb) ?_
    rw [List.length_append, a.subs_len, b.subs_len]
    exact ⟨Nat.le_refl _, two a b⟩
  | star a iha =>
    refine Kids.snoc iha ?_
    rw [a.subs_len]
    exact ⟨Nat.le_refl _, a.subs_last⟩
/-! ### 2. The table of a tree -/
def partsOf (i : Nat) : T → Int × Int
  | .seq a b => ((i : Int) - 1 - b.size, (i : Int) - 1)
  | .alt a b => ((i : Int) - 1 - b.size, (i : Int) - 1)
  | .star _ => ((i : Int) - 1, -1)
  | _ => (-1, -1)
theorem at'_of {α : Type} [Inhabited α] {l : List α} {i : Nat} {x : α} (h : l[i]? = some x) : at' l (i : Int) = x := by
  simp [at', List.getD_eq_getElem?_getD, h]
theorem at'_map {α β : Type} [Inhabited α] [Inhabited β] {l : List α} {f : α → β} {i : Nat} {x : α} (h : l[i]? = some x) : at' (l.map f) (i : Int) = f x := by
  simp [at', List.getD_eq_getElem?_getD, h]
theorem pTab_sub (t : T) : ∀ k, k ≤ t.size → ∀ (i : Nat) (s : T), i < k → t.subs[i]? = some s → at' (pTab t.enc k).2 (i : Int) = i + 1 - s.size ∧ at' (pTab t.enc k).1 (i : Int) = partsOf i s := by
  intro k
  induction k with
  | zero => intro _ i s h; omega
  | succ k ih =>
    intro hk i s hi hs
    have ih := ih (by omega)
    obtain ⟨l1, l2⟩ := pTab_len t.enc k
    simp only [pTab, at'_snoc, l1, l2, Int.toNat_natCast]
    by_cases h : i < k
    · rw [if_pos h, if_pos h]; exact ih i s h hs
    · have e : i = k := by omega
      subst e
      rw [if_neg h, if_neg h, if_pos rfl, if_pos rfl]
      have hn : at' t.enc (i : Int) = s.node := by rw [← t.subs_enc]; exact at'_map hs
      have hkid := t.kids i s hs
      rw [hn, T.node_op]
      have two : ∀ a b : T, a.size + b.size ≤ i → t.subs[i - 1]? = some b → t.subs[i - 1 - b.size]? = some a → at' (pTab t.enc i).2 ((i : Int) - 1) = i - b.size ∧ at' (pTab t.enc i).2 ((i : Int) - b.size - 1) = i - b.size - a.size := by
        intro a b h1 h2 h3
        have ha := a.size_pos
        have hb := b.size_pos
        have e1 := (ih (i - 1) b (by omega) h2).1
        have e2 := (ih (i - 1 - b.size) a (by omega) h3).1
        rw [show ((i - 1 : Nat) : Int) = (i : Int) - 1 by omega] at e1
        rw [show ((i - 1 - b.size : Nat) : Int) = (i : Int) - b.size - 1 by omega] at e2
        exact ⟨by rw [e1]; omega, by rw [e2]; omega⟩
      cases s with
      | none => simp [pStep, T.op, partsOf]
      | emp => simp [pStep, T.op, partsOf]
      | cls c => simp [pStep, T.op, partsOf]
      | seq a b =>
        obtain ⟨h1, h2, h3⟩ := hkid
        obtain ⟨e1, e2⟩ := two a b h1 h2 h3
        have ha := a.size_pos
        have hb := b.size_pos
        have hs := T.size_seq a b
        simp only [pStep, T.op, partsOf, e1, e2]
        rw [if_neg (by omega), if_pos (by simp), if_neg (by omega), if_neg (by omega)]
        exact ⟨by dsimp only; omega, by dsimp only; congr 1; omega⟩
      | alt a b =>
        obtain ⟨h1, h2, h3⟩ := hkid
        obtain ⟨e1, e2⟩ := two a b h1 h2 h3
        have ha := a.size_pos
        have hb := b.size_pos
        have hs := T.size_alt a b
        simp only [pStep, T.op, partsOf, e1, e2]
        rw [if_neg (by omega), if_pos (by simp), if_neg (by omega), if_neg (by omega)]
        exact ⟨by dsimp only; omega, by dsimp only; congr 1; omega⟩
      | star a =>
        obtain ⟨h1, h2⟩ := hkid
        have ha := a.size_pos
        have hs := T.size_star a
        have e1 := (ih (i - 1) a (by omega) h2).1
        rw [show ((i - 1 : Nat) : Int) = (i : Int) - 1 by omega] at e1
        simp only [pStep, T.op, partsOf, e1]
        rw [if_pos trivial]
        rw [if_neg (by omega)]
        exact ⟨by dsimp only; omega, rfl⟩
theorem pTab_tree (t : T) {i : Nat} {s : T} (h : t.subs[i]? = some s) : at' (pTab t.enc t.enc.length).2 (i : Int) = i + 1 - s.size ∧ at' (pTab t.enc t.enc.length).1 (i : Int) = partsOf i s :=
  pTab_sub t t.size (Nat.le_refl _) i s (by rw [← t.subs_len]; exact (List.getElem?_eq_some_iff.1 h).1) h
/-! ### 3. Where the table begins at 0 there stands a tree -/
def goodPart (n : Part) : Bool := decide (0 ≤ n.op ∧ n.op ≤ 5) && (n.op == 2 || n.cl.isZero)
theorem pTab_stable (xs : List Part) : ∀ (k n : Nat), k ≤ n → ∀ j : Int, j.toNat < k → at' (pTab xs n).2 j = at' (pTab xs k).2 j := by
  intro k n
  induction n with
  | zero => intro h j hj; omega
  | succ n ih =>
    intro h j hj
    by_cases e : k = n + 1
    · subst e; rfl
    · simp only [pTab, at'_snoc, (pTab_len xs n).2]
      rw [if_pos (by omega)]
      exact ih (by omega) j hj
theorem tree_of_pTab (xs : List Part) (hg : ∀ n ∈ xs, goodPart n = true) : ∀ (k i : Nat), i < k → i < xs.length → ∀ j : Nat, at' (pTab xs k).2 (i : Int) = j → j ≤ i ∧ ∃ t : T, (xs.take (i + 1)).drop j = t.enc := by
  intro k i hik hil
  rw [show at' (pTab xs k).2 (i : Int) = at' (pTab xs (i + 1)).2 (i : Int) from pTab_stable xs (i + 1) k (by omega) _ (by omega)]
  clear hik k
  induction i using Nat.strongRecOn with
  | _ i ih =>
    intro j hj
    have hn : goodPart (at' xs (i : Int)) = true := hg _ (at'_mem (by omega) (by omega))
    have ht : xs.take (i + 1) = xs.take i ++ [at' xs (i : Int)] := by
      rw [List.take_add_one, List.getElem?_eq_getElem hil]
      simp [at', List.getD_eq_getElem?_getD, hil]
    rw [ht]
    simp only [pTab, at'_snoc, (pTab_len xs i).2, Int.toNat_natCast] at hj
    rw [if_neg (by omega), if_pos trivial] at hj
    generalize at' xs (i : Int) = n at *
    obtain ⟨op, c⟩ := n
    simp only [goodPart, Bool.and_eq_true, Bool.or_eq_true, decide_eq_true_eq, beq_iff_eq] at hn
    obtain ⟨⟨h0, h5⟩, hc⟩ := hn
    have zc : ¬ op = 2 → c = default := fun e => zero_cl (by rcases hc with h | h; · exact absurd h e
                                                             · exact h)
    simp only [pStep] at hj
    have st : ∀ q : Int, q.toNat < i → ∀ m : Nat, at' (pTab xs i).2 q = m → q = (q.toNat : Int) → m ≤ q.toNat ∧ ∃ t : T, (xs.take (q.toNat + 1)).drop m = t.enc := by
      intro q hq m hm hq2
      refine ih q.toNat hq (by omega) m ?_
      rw [← hm, hq2]
      exact (pTab_stable xs (q.toNat + 1) i (by omega) _ (by omega)).symm
    have len : ∀ m, m ≤ i → (xs.take m).length = m := fun m hm => by rw [List.length_take]; omega
    split at hj
    · rename_i e
      split at hj
      · dsimp only at hj; omega
      · rename_i hh
        dsimp only at hj
        obtain ⟨a1, a, ea⟩ := st _ (by omega) j hj (by omega)
        rw [show ((i : Int) - 1).toNat + 1 = i by omega] at ea
        refine ⟨by omega, .star a, ?_⟩
        rw [List.drop_append_of_le_length (by rw [len i (Nat.le_refl _)]; omega), ea, T.enc, e, zc (by omega)]
    · rename_i e5
      split at hj
      · rename_i e34
        split at hj
        · dsimp only at hj; omega
        · rename_i hh
          split at hj
          · dsimp only at hj; omega
          · rename_i hh2
            dsimp only at hj
            obtain ⟨m, hm⟩ : ∃ m : Nat, at' (pTab xs i).2 ((i : Int) - 1) = m := ⟨_, (Int.toNat_of_nonneg (by omega)).symm⟩
            obtain ⟨b1, b, eb⟩ := st _ (by omega) m hm (by omega)
            rw [hm] at hj hh2
            obtain ⟨a1, a, ea⟩ := st _ (by omega) j hj (by omega)
            rw [show ((i : Int) - 1).toNat + 1 = i by omega] at eb
            rw [show ((m : Int) - 1).toNat + 1 = m by omega] at ea
            have cut : (xs.take i).drop j = a.enc ++ b.enc := by
              have e1 : xs.take i = xs.take m ++ (xs.take i).drop m := by
                have : (xs.take i).take m = xs.take m := by rw [List.take_take]; congr 1; omega
                rw [← this, List.take_append_drop]
              rw [e1, eb, List.drop_append_of_le_length (by rw [len m (by omega)]; omega), ea]
            rcases e34 with e | e
            · refine ⟨by omega, .seq a b, ?_⟩
              rw [List.drop_append_of_le_length (by rw [len i (Nat.le_refl _)]; omega), cut, T.enc, e, zc (by omega)]
            · refine ⟨by omega, .alt a b, ?_⟩
              rw [List.drop_append_of_le_length (by rw [len i (Nat.le_refl _)]; omega), cut, T.enc, e, zc (by omega)]
      · rename_i e34
        dsimp only at hj
        have : j = i := by omega
        subst this
        refine ⟨Nat.le_refl _, ?_⟩
        rw [List.drop_append_of_le_length (by rw [len j (Nat.le_refl _)]; omega), List.drop_of_length_le (by rw [len j (Nat.le_refl _)]; omega)]
        have h3 : op = 0 ∨ op = 1 ∨ op = 2 := by omega
        rcases h3 with e | e | e
        · exact ⟨.none, by rw [e, zc (by omega)]; rfl⟩
        · exact ⟨.emp, by rw [e, zc (by omega)]; rfl⟩
        · exact ⟨.cls c, by rw [e]; rfl⟩
/-- The reference's test of shape. -/
theorem pTab_shaped (xs : List Part) (hg : ∀ n ∈ xs, goodPart n = true) : (0 < xs.length ∧ at' (pTab xs xs.length).2 ((xs.length : Int) - 1) = 0) ↔ ∃ t : T, xs = t.enc := by
  constructor
  · rintro ⟨h0, h1⟩
    obtain ⟨_, t, ht⟩ := tree_of_pTab xs hg xs.length (xs.length - 1) (by omega) (by omega) 0 (by rw [show ((xs.length - 1 : Nat) : Int) = (xs.length : Int) - 1 by omega, h1]; rfl)
    rw [show xs.length - 1 + 1 = xs.length by omega, List.take_length, List.drop_zero] at ht
    exact ⟨t, ht⟩
  · rintro ⟨t, rfl⟩
    have hp := t.size_pos
    refine ⟨hp, ?_⟩
    have := (pTab_tree t t.subs_last).1
    rw [show ((t.size - 1 : Nat) : Int) = (t.enc.length : Int) - 1 by simp only [T.size] at *; omega] at this
    rw [this]; simp only [T.size]; omega
theorem good_enc (t : T) : ∀ n ∈ t.enc, goodPart n = true := by
  intro n hn
  rw [← t.subs_enc] at hn
  obtain ⟨s, _, rfl⟩ := List.mem_map.1 hn
  cases s <;> simp [T.node, goodPart, zero_default]
end Go.AL
set_option linter.unusedVariables false
namespace Go.AL
open Go.Proofs
set_option maxRecDepth 10000
attribute [local irreducible] AWp AList RStep seqQ blockQ retQ DSteps awR rQ
/-! ### Tables over a tree's nodes -/
def tabL {β : Type} (f : T → β) (z : β) (t : T) (k : Nat) : List β := (t.subs.take k).map f ++ List.replicate (t.size - k) z
section
variable {β : Type} {f : T → β} {z : β} {t : T} {k : Nat}
theorem tabL_len (hk : k ≤ t.size) : (tabL f z t k).length = t.size := by
  have := t.subs_len
  simp [tabL]; omega
theorem tabL_zero : tabL f z t 0 = List.replicate t.size z := by simp [tabL]
theorem tabL_end : tabL f z t t.size = t.subs.map f := by
  rw [tabL, List.take_of_length_le (by rw [t.subs_len]; exact Nat.le_refl _), Nat.sub_self]; simp
theorem tabL_at [Inhabited β] {i : Nat} {s : T} (hi : i < k) (hs : t.subs[i]? = some s) : at' (tabL f z t k) (i : Int) = f s := by
  have hl := (List.getElem?_eq_some_iff.1 hs).1
  refine at'_of ?_
  rw [tabL, List.getElem?_append_left (by simp; omega), List.getElem?_map, List.getElem?_take, if_pos hi, hs]; rfl
theorem tabL_next {s : T} (hs : t.subs[k]? = some s) : tabL f z t (k + 1) = (t.subs.take k).map f ++ f s :: List.replicate (t.size - (k + 1)) z := by
  rw [tabL, List.take_add_one, hs]; simp
theorem tabL_cur {s : T} (hs : t.subs[k]? = some s) : tabL f z t k = (t.subs.take k).map f ++ z :: List.replicate (t.size - (k + 1)) z := by
  have hl := (List.getElem?_eq_some_iff.1 hs).1
  rw [t.subs_len] at hl
  rw [tabL, show t.size - k = (t.size - (k + 1)) + 1 by omega, List.replicate_succ]
theorem tabL_set {s : T} (hs : t.subs[k]? = some s) {v : β} (hv : v = f s) : (tabL f z t k).set k v = tabL f z t (k + 1) := by
  have hl := (List.getElem?_eq_some_iff.1 hs).1
  have e : ((t.subs.take k).map f).length = k := by simp; omega
  rw [tabL_next hs, tabL_cur hs, hv, List.set_append_right _ _ (by omega), e, Nat.sub_self]; rfl
theorem tabL_skip {s : T} (hs : t.subs[k]? = some s) (hv : f s = z) : tabL f z t k = tabL f z t (k + 1) := by rw [tabL_next hs, tabL_cur hs, hv]
end
/-- A tree's parts as the table has them. -/
theorem kid_at {t : T} {k : Nat} {s : T} (hs : t.subs[k]? = some s) : at' t.enc (k : Int) = s.node ∧ at' (pTab t.enc t.enc.length).1 (k : Int) = partsOf k s :=
  ⟨by rw [← t.subs_enc]; exact at'_map hs, (pTab_tree t hs).2⟩
theorem sub_some {t : T} {k : Nat} (h : (k : Int) < t.enc.length) : ∃ s, t.subs[k]? = some s := by
  have : k < t.subs.length := by rw [t.subs_len]; simp only [T.size]; omega
  exact ⟨_, List.getElem?_eq_getElem this⟩
theorem sub_size {t : T} {i : Nat} {s : T} (h : t.subs[i]? = some s) : s.size ≤ i + 1 := by
  have k := t.kids i s h
  cases s with
  | seq a b => rw [T.size_seq]; have := k.1; omega
  | alt a b => rw [T.size_alt]; have := k.1; omega
  | star a => rw [T.size_star]; have := k.1; omega
  | _ => simp
/-- What is known of a node's parts. -/
theorem kid_facts {t : T} {k : Nat} (h : (k : Int) < t.enc.length) : ((at' t.enc (k : Int)).op = 5 ∨ (at' t.enc (k : Int)).op = 3 ∨ (at' t.enc (k : Int)).op = 4 → 0 ≤ (at' (pTab t.enc t.enc.length).1 (k : Int)).1 ∧ (at' (pTab t.enc t.enc.length).1 (k : Int)).1 < k) ∧
    ((at' t.enc (k : Int)).op = 3 ∨ (at' t.enc (k : Int)).op = 4 → 0 ≤ (at' (pTab t.enc t.enc.length).1 (k : Int)).2 ∧ (at' (pTab t.enc t.enc.length).1 (k : Int)).2 < k) := by
  obtain ⟨s, hs⟩ := sub_some h
  obtain ⟨e1, e2⟩ := kid_at hs
  rw [e1, e2, T.node_op]
  have kid := t.kids k s hs
  cases s with
  | seq a b => have := kid.1; have := a.size_pos; have := b.size_pos; simp only [partsOf]; omega
  | alt a b => have := kid.1; have := a.size_pos; have := b.size_pos; simp only [partsOf]; omega
  | star a => have := kid.1; have := a.size_pos; simp only [partsOf, T.op]; omega
  | _ => simp [T.op]
def KidVal {β : Type} [Inhabited β] (f : T → β) (z : β) (t : T) (k : Nat) : T → Prop
  | .seq a b => at' (tabL f z t k) ((k : Int) - 1 - b.size) = f a ∧ at' (tabL f z t k) ((k : Int) - 1) = f b ∧ at' t.enc ((k : Int) - 1 - b.size) = a.node ∧ at' t.enc ((k : Int) - 1) = b.node
  | .alt a b => at' (tabL f z t k) ((k : Int) - 1 - b.size) = f a ∧ at' (tabL f z t k) ((k : Int) - 1) = f b ∧ at' t.enc ((k : Int) - 1 - b.size) = a.node ∧ at' t.enc ((k : Int) - 1) = b.node
  | .star a => at' (tabL f z t k) ((k : Int) - 1) = f a ∧ at' t.enc ((k : Int) - 1) = a.node
  | _ => True
theorem kid_val {β : Type} [Inhabited β] (f : T → β) (z : β) {t : T} {k : Nat} {s : T} (hs : t.subs[k]? = some s) : KidVal f z t k s := by
  have kid := t.kids k s hs
  have two : ∀ a b : T, a.size + b.size ≤ k ∧ t.subs[k - 1]? = some b ∧ t.subs[k - 1 - b.size]? = some a → at' (tabL f z t k) ((k : Int) - 1 - b.size) = f a ∧ at' (tabL f z t k) ((k : Int) - 1) = f b ∧ at' t.enc ((k : Int) - 1 - b.size) = a.node ∧ at' t.enc ((k : Int) - 1) = b.node := by
    rintro a b ⟨h1, h2, h3⟩
    have ha := a.size_pos
    have hb := b.size_pos
    rw [show (k : Int) - 1 - b.size = ((k - 1 - b.size : Nat) : Int) by omega, show (k : Int) - 1 = ((k - 1 : Nat) : Int) by omega]
    exact ⟨tabL_at (by omega) h3, tabL_at (by omega) h2, (kid_at h3).1, (kid_at h2).1⟩
  cases s with
  | seq a b => exact two a b kid
  | alt a b => exact two a b kid
  | star a =>
    obtain ⟨h1, h2⟩ := kid
    have ha := a.size_pos
    show _ ∧ _
    rw [show (k : Int) - 1 = ((k - 1 : Nat) : Int) by omega]
    exact ⟨tabL_at (by omega) h2, (kid_at h2).1⟩
  | _ => trivial
def inF (op : Int) (s a : Bool) : Int := if (op = 3 ∧ s = true) ∨ (op = 4 ∧ a = true) then 1 else 0
theorem in_c (op : Int) (s a : Bool) : ACalls Tryd.prog 58 [i64 op, bl s, bl a] [] (fun x _ => x = .ret (i64 (inF op s a))) := by
  refine acalls_by Tryd.func58 Tryd.ntmps58 ?_
  simp only [argFr]
  repeat' (first
    | (show lOp; refine op0 (by first | (show kAssign; exact b_assign) | (show kMove; exact b_move) | (show kBinopEql; exact b_eql) | (show kPick; first | exact b_pickT | exact b_pickF)) ?_)
    | (show lGu; first | refine al_yes ?_ | refine al_none ?_ | refine al_noneU ?_ | refine al_splitD (fun h => ?_) (fun h => ?_) | refine al_split (fun h => ?_) (fun h => ?_))
    | (show lNil; refine al_nil ?_)
    | (show qSeq; first | refine n_seq ?_ | refine p_seq ?_)
    | (show cReg; refine aw_reg ?_)
    | (show cSeq; refine aw_seq ?_)
    | (show cSkip; refine aw_skip ?_)
    | (show cRet; refine aw_ret ?_)
    | (show cIf; first | refine aw_T ?_ | refine aw_F ?_ | refine aw_if (fun h => ?_) (fun h => ?_))
    | (show eRet; refine ret1 Tryd.results58 ?_)
    | (exfalso; omega))
  all_goals simp_all [inF]
theorem inF_range (op : Int) (s a : Bool) : 0 ≤ inF op s a ∧ inF op s a ≤ 1 := by unfold inF; split <;> omega
def depthR : T → Int
  | .emp => 1
  | .star a => depthR a + inF a.op true true
  | .seq a b => max (depthR a + inF a.op true true) (depthR b + inF b.op false true)
  | .alt a b => max (depthR a + inF a.op false true) (depthR b)
  | _ => 0
theorem depthR_range (t : T) : 0 ≤ depthR t ∧ depthR t ≤ t.size := by
  induction t with
  | none => simp [depthR]
  | emp => simp [depthR]
  | cls c => simp [depthR]
  | seq a b iha ihb => have := T.size_seq a b; have := inF_range a.op true true; have := inF_range b.op false true; simp only [depthR]; omega
  | alt a b iha ihb => have := T.size_alt a b; have := inF_range a.op false true; simp only [depthR]; omega
  | star a iha => have := T.size_star a; have := inF_range a.op true true; simp only [depthR]; omega
theorem depthR_tab (t : T) (k : Nat) (i : Int) : 0 ≤ at' (tabL depthR 0 t k) i ∧ at' (tabL depthR 0 t k) i ≤ t.size := by
  refine at'_prop (p := fun x : Int => 0 ≤ x ∧ x ≤ t.size) (fun x hx => ?_) ⟨Int.le_refl 0, by show (0 : Int) ≤ _; omega⟩ i
  simp only [tabL, List.mem_append, List.mem_map] at hx
  rcases hx with ⟨s, hs, rfl⟩ | hx
  · have := depthR_range s
    have h2 : s.size ≤ t.size := by
      obtain ⟨j, hj⟩ := List.getElem?_of_mem (List.mem_of_mem_take hs)
      have h3 := sub_size hj
      have h5 := (List.getElem?_eq_some_iff.1 hj).1
      rw [t.subs_len] at h5
      omega
    omega
  · rw [List.eq_of_mem_replicate hx]; omega
abbrev ptab (t : T) : AV := .c (.p (.sl 2 ((pTab t.enc t.enc.length).1.map enc2)))
theorem depths_c (t : T) (h : t.enc.length ≤ 1000000) : ACalls Tryd.prog 38 [pat t.enc, ptab t] [] (fun x _ => x = .ret (.c (.p (.sl 1 ((t.subs.map depthR).map encI))))) := by
  have hpl := (pTab_len t.enc t.enc.length).1
  have hsz : t.enc.length = t.size := rfl
  refine acalls_by Tryd.func38 Tryd.ntmps38 ?_
  simp only [argFr]
  repeat' (first
    | (show lMakeSlice; refine k_make ?_)
    | (show lOp; refine op0 (by first | (show kAssign; exact b_assign) | (show kMove; exact b_move) | (show kCall; exact m_lenSl)) ?_)
    | (show lNil; refine al_nil ?_)
    | (show qSeq; refine n_seq ?_)
    | (show cReg; refine aw_reg ?_)
    | (show cSeq; refine aw_seq ?_)
    | (show cBlk; refine aw_block ?_))
  have ez1 : List.replicate (t.enc.length : Int).toNat (zP (.int .i64 0)) = (tabL depthR 0 t 0).map encI := by simp [zP, Value.cells, tabL_zero]; rfl
  rw [ez1]
  refine aw_rounds (ι := Nat) (fun i => [(0, pat t.enc), (1, ptab t), (5, .c (.ms 0 t.enc.length)), (6, i64 i)]) (fun i => [.arr 3 1 ((tabL depthR 0 t i).map encI)]) (fun i => i ≤ t.enc.length) (fun i => t.enc.length - i) 0 (by simp) rfl (by simp [Fr.get]) ?_
  rintro k g1
  have hl := tabL_len (f := depthR) (z := (0 : Int)) g1
  have hR := depthR_tab t k
  have hN := inF_range
  have hps : (k : Int) < t.enc.length → _ := fun hk => kid_facts hk
  generalize hL' : tabL depthR 0 t k = L at *
  have r1 := hR (at' (pTab t.enc t.enc.length).1 (k : Int)).1
  have r2 := hR (at' (pTab t.enc t.enc.length).1 (k : Int)).2
  have r3 := hN (at' t.enc (at' (pTab t.enc t.enc.length).1 (k : Int)).1).op true true
  have r4 := hN (at' t.enc (at' (pTab t.enc t.enc.length).1 (k : Int)).1).op false true
  have r5 := hN (at' t.enc (at' (pTab t.enc t.enc.length).1 (k : Int)).2).op false true
  repeat' (first
    | (show cRet; refine kw_freezeM (f := encI) 4 ?_)
    | (show lStore; refine k_storeElM (f := encI) _ ?_)
    | (show lOp; refine op0 (by first | (show kAssign; exact b_assign) | (show kMove; exact b_move) | (show kCall; exact m_lenSl) | (show kLoad; exact b_loadRp) | (show kFieldaddr; exact b_fieldRp) | (show kIndexaddr; first | exact m_indexSl | exact m_indexMs) | (show kBinopAdd; exact b_add) | (show kBinopEql; exact b_eql) | (show kBinopLss; exact b_lss)) ?_)
    | (show lNil; refine al_nil ?_)
    | (show qSeq; first | refine n_seq ?_ | refine x_seq ?_)
    | (show qBlk; first | refine n_block ?_ | refine x_eq ?_)
    | (show cReg; refine aw_reg ?_)
    | (show cSeq; refine aw_seq ?_)
    | (show cBlk; refine aw_block ?_)
    | (show cSkip; refine aw_skip ?_)
    | (show cExit; refine aw_exit ?_)
    | (show cRet; refine aw_ret ?_)
    | (show cIf; refine aw_ifD (fun h => ?_) (fun h => ?_))
    | (show cRegD; refine aw_drN Tryd_mixed ?_)
    | (show dOp; refine ds_op (by first | (show kAssign; exact b_assign) | (show kMove; exact b_move) | (show kCall; first | exact b_call (in_c _ _ _) | exact b_max) | (show kLoad; first | exact b_loadRp | exact m_loadEpt) | (show kFieldaddr; exact b_fieldRp) | (show kIndexaddr; first | exact m_indexSl | exact m_indexMs | exact b_indexArrRp) | (show kBinopAdd; exact b_add)) ?_)
    | (show dNil; refine ds_nil ?_)
    | (show eRet; refine ret1 Tryd.results38 ?_))
  rotate_right 1
  · rw [← hL', show k = t.size by omega, hsz, List.take_of_length_le (by rw [tabL_len (Nat.le_refl _)]; exact Nat.le_refl _), tabL_end]
  all_goals
    obtain ⟨s, hs⟩ := sub_some (by assumption)
    obtain ⟨e1, e2⟩ := kid_at hs
    have kv := kid_val depthR (0 : Int) hs
    have e3 : (at' t.enc (k : Int)).op = s.op := by rw [e1, T.node_op]
    try simp only [e3, e2] at *
    refine ⟨k + 1, by omega, ?_, by simp [Fr.get], by omega⟩
    try simp only [Int.toNat_natCast]
    subst hL'
    first
      | (rw [tabL_set hs]
         cases s <;> simp [T.op] at * <;> simp only [KidVal] at kv <;> simp [partsOf, depthR, kv, T.node_op]; done)
      | (rw [tabL_skip hs]
         cases s <;> simp [T.op] at * <;> simp [depthR]; done)
end Go.AL
set_option linter.unusedVariables false
namespace Go.AL
open Go.Proofs
set_option maxRecDepth 10000
attribute [local irreducible] AWp AList RStep seqQ blockQ retQ DSteps awR rQ
/-! ### Depth: the program's stack and the reference's table -/
def depthFn (n : Part) (a b : Int × Int) : Int × Int := (depthX n.op a b, n.op)
theorem depthGo_st : ∀ (xs : List Part) (hs : List (Int × Int)), depthGo xs hs = (at' (stGo depthFn xs hs) 0).1
  | [], hs => rfl
  | n :: r, hs => by rw [depthGo, stGo]; exact depthGo_st r _
theorem depth_fold (t : T) : foldT depthFn t = (depthR t, t.op) := by
  induction t with
  | none => rfl
  | emp => rfl
  | cls c => rfl
  | seq a b iha ihb =>
    rw [foldT, iha, ihb]
    simp only [depthFn, depthX, depthR, inF, T.op, Prod.mk.injEq, and_true]
    simp
    repeat' split
    all_goals omega
  | alt a b iha ihb =>
    rw [foldT, iha, ihb]
    simp only [depthFn, depthX, depthR, inF, T.op, Prod.mk.injEq, and_true]
    simp
    repeat' split
    all_goals omega
  | star a iha =>
    rw [foldT, iha]
    simp only [depthFn, depthX, depthR, inF, T.op, Prod.mk.injEq, and_true]
    simp
    repeat' split
    all_goals omega
theorem depthGo_enc (t : T) : depthGo t.enc [] = depthR t := by
  have e := stGo_enc depthFn t [] []
  rw [List.append_nil] at e
  rw [depthGo_st, e, depth_fold]; rfl
theorem good_iff (n : Part) : goodPart n = true ↔ ¬ n.op < 0 ∧ ¬ n.op > 5 ∧ (n.op = 2 ∨ n.cl.isZero = true) := by
  simp only [goodPart, Bool.and_eq_true, Bool.or_eq_true, decide_eq_true_eq, beq_iff_eq]
  constructor
  · rintro ⟨h1, h2⟩; exact ⟨by omega, by omega, h2⟩
  · rintro ⟨h1, h2, h3⟩; exact ⟨by omega, h3⟩
theorem good_not {n : Part} (h : n.op < 0 ∨ n.op > 5 ∨ (n.op ≠ 2 ∧ n.cl.isZero = false)) : goodPart n = false := by
  cases hg : goodPart n with
  | false => rfl
  | true =>
    obtain ⟨h1, h2, h3⟩ := (good_iff n).1 hg
    rcases h with h | h | ⟨h, h'⟩
    · exact absurd h h1
    · exact absurd h h2
    · rcases h3 with h3 | h3
      · exact absurd h3 h
      · rw [h3] at h'; cases h'
theorem check18_c (xs : List Part) (h : xs.length ≤ 1000000) : ACalls Tryd.prog 18 [pat xs] [] (fun x _ => x = .ret (i64 (checkF xs))) := by
  have h1 := parts37_c xs h
  have h2 : ∀ t : T, xs = t.enc → ACalls Tryd.prog 38 [pat xs, .c (.p (.sl 2 ((pTab xs xs.length).1.map enc2)))] [] (fun x _ => x = .ret (.c (.p (.sl 1 ((t.subs.map depthR).map encI))))) := fun t e => by subst e; exact depths_c t h
  refine acalls_by Tryd.func18 Tryd.ntmps18 ?_
  simp only [argFr]
  repeat' (first
    | (show lOp; refine op0 (by first | (show kAssign; exact b_assign) | (show kMove; exact b_move) | (show kCall; exact m_lenSl) | (show kBinopGtr; exact b_gtr)) ?_)
    | (show lNil; refine al_nil ?_)
    | (show qSeq; first | refine n_seq ?_ | refine p_seq ?_)
    | (show cReg; refine aw_reg ?_)
    | (show cSeq; refine aw_seq ?_)
    | (show cBlk; refine aw_block ?_)
    | (show cSkip; refine aw_skip ?_)
    | (show cRet; refine aw_ret ?_)
    | (show cIf; refine aw_ifD (fun h => ?_) (fun h => ?_))
    | (show eRet; refine ret1 Tryd.results18 ?_))
  · simp only [checkF]; rw [if_pos (by omega)]
  refine aw_rounds (ι := Nat) (fun i => [(0, pat xs), (3, i64 i)]) (fun i => []) (fun i => i ≤ xs.length ∧ ∀ n ∈ xs.take i, goodPart n = true) (fun i => xs.length - i) 0 (by simp) rfl (by simp [Fr.get]) ?_
  rintro k ⟨g1, g2⟩
  have bad : (k : Int) < xs.length → goodPart (at' xs (k : Int)) = false → checkF xs = 6 := fun hk hb => by
    simp only [checkF]
    rw [if_neg (by omega), if_pos]
    cases hs : shapedGo xs 0 with
    | false => rfl
    | true =>
      obtain ⟨t, rfl⟩ := tree_of_shaped hs
      rw [good_enc t _ (at'_mem (by omega) hk)] at hb
      cases hb
  have good : (k : Int) < xs.length → goodPart (at' xs (k : Int)) = true → ∀ n ∈ xs.take (k + 1), goodPart n = true := fun hk hb n hn => by
    rw [List.take_add_one, List.getElem?_eq_getElem (by omega)] at hn
    rcases List.mem_append.1 hn with hn | hn
    · exact g2 n hn
    · simp at hn
      rw [hn]
      simpa [at', List.getD_eq_getElem?_getD, show k < xs.length by omega] using hb
  repeat' (first
    | (show lOp; refine op0 (by first | (show kAssign; exact b_assign) | (show kMove; exact b_move) | (show kCall; first | exact b_call (h1) | exact m_lenSl) | (show kLoad; exact b_loadRp) | (show kFieldaddr; exact b_fieldRp) | (show kIndexaddr; exact m_indexSl) | (show kBinopAdd; exact b_add) | (show kBinopNeq; first | exact b_neq | exact b_neqAgg) | (show kBinopLss; exact b_lss) | (show kBinopGtr; exact b_gtr) | (show kPick; first | exact b_pickT | exact b_pickF) | (show kUnopNot; exact b_notD) | (show kExtract; exact b_extract) | (show kBuild; exact b_buildArr)) ?_)
    | (show lGu; first | refine al_yes ?_ | refine al_none ?_ | refine al_noneU ?_ | refine al_splitD (fun h => ?_) (fun h => ?_))
    | (show lNil; refine al_nil ?_)
    | (show qSeq; first | refine n_seq ?_ | refine p_seq ?_ | refine x_seq ?_)
    | (show qBlk; first | refine n_block ?_ | refine p_block ?_ | refine x_eq ?_)
    | (show cReg; refine aw_reg ?_)
    | (show cSeq; refine aw_seq ?_)
    | (show cBlk; refine aw_block ?_)
    | (show cSkip; refine aw_skip ?_)
    | (show cExit; refine aw_exit ?_)
    | (show cRet; refine aw_ret ?_)
    | (show cIf; first | refine aw_T ?_ | refine aw_F ?_ | refine aw_ifD (fun h => ?_) (fun h => ?_) | refine aw_if (fun h => ?_) (fun h => ?_))
    | (show eRet; refine ret1 Tryd.results18 ?_))
  · rw [bad (by assumption) (good_not (.inl h))]
  · rw [bad (by assumption) (good_not (.inr (.inl h)))]
  · rw [bad (by assumption) (good_not (.inr (.inr ⟨by assumption, by simp [Cls.isZero] at h ⊢; omega⟩)))]
  · exact ⟨k + 1, ⟨by omega, good (by assumption) ((good_iff _).2 ⟨by assumption, by assumption, .inr (by simpa [Cls.isZero] using h)⟩)⟩, rfl, by simp [Fr.get], by omega⟩
  · exact ⟨k + 1, ⟨by omega, good (by assumption) ((good_iff _).2 ⟨by assumption, by assumption, .inl (by omega)⟩)⟩, rfl, by simp [Fr.get], by omega⟩
  all_goals
    rw [List.take_of_length_le (by omega)] at g2
    rw [pTab_shaped xs g2] at h
  · simp only [checkF]
    rw [if_neg (by omega), if_pos]
    cases hs : shapedGo xs 0 with
    | false => rfl
    | true => exact absurd (tree_of_shaped hs) h
  · obtain ⟨t, rfl⟩ := Classical.not_not.1 h
    have hl := t.subs_last
    have hp := t.size_pos
    have hsz : t.enc.length = t.size := rfl
    have hd := h2 t rfl
    have e : at' (t.subs.map depthR) ((t.enc.length : Int) - 1) = depthR t := by
      rw [show (t.enc.length : Int) - 1 = ((t.size - 1 : Nat) : Int) by omega]; exact at'_map hl
    have hll : (t.subs.map depthR).length = t.enc.length := by rw [List.length_map, t.subs_len, hsz]
    have hc : checkF t.enc = if depthR t > 100 then 3 else 0 := by
      simp only [checkF, shaped_enc, depthGo_enc]
      rw [if_neg (by omega), if_neg (by simp)]
    repeat' (first
      | (show lOp; refine op0 (by first | (show kAssign; exact b_assign) | (show kMove; exact b_move) | (show kCall; first | exact b_call (hd) | exact m_lenSl) | (show kLoad; exact b_loadRp) | (show kIndexaddr; exact m_indexSl) | (show kBinopSub; exact b_sub) | (show kBinopGtr; exact b_gtr)) ?_)
      | (show lNil; refine al_nil ?_)
      | (show qSeq; first | refine n_seq ?_ | refine p_seq ?_)
      | (show cReg; refine aw_reg ?_)
      | (show cSeq; refine aw_seq ?_)
      | (show cSkip; refine aw_skip ?_)
      | (show cRet; refine aw_ret ?_)
      | (show cIf; refine aw_ifD (fun h => ?_) (fun h => ?_))
      | (show eRet; refine ret1 Tryd.results18 ?_))
    · rw [hc, if_pos (by rw [← e]; exact h)]
    · rw [hc, if_neg (by rw [← e]; exact h)]
end Go.AL
set_option linter.unusedVariables false
namespace Go.AL
open Go.Proofs
set_option maxRecDepth 10000
attribute [local irreducible] AWp AList RStep seqQ blockQ retQ DSteps awR rQ
theorem rsame_c (a b : List Part) (ha : a.length ≤ 1000000) (hb : b.length ≤ 1000000) : ACalls Tryd.prog 73 [pat a, pat b] [] (fun x _ => x = .ret (bl (decide (a = b)))) := by
  refine acalls_by Tryd.func73 Tryd.ntmps73 ?_
  simp only [argFr]
  repeat' (first
    | (show lOp; refine op0 (by first | (show kAssign; exact b_assign) | (show kMove; exact b_move) | (show kCall; exact m_lenSl) | (show kBinopNeq; exact b_neq)) ?_)
    | (show lNil; refine al_nil ?_)
    | (show qSeq; first | refine n_seq ?_ | refine p_seq ?_)
    | (show cReg; refine aw_reg ?_)
    | (show cSeq; refine aw_seq ?_)
    | (show cBlk; refine aw_block ?_)
    | (show cSkip; refine aw_skip ?_)
    | (show cRet; refine aw_ret ?_)
    | (show cIf; refine aw_ifD (fun h => ?_) (fun h => ?_))
    | (show eRet; refine ret1 Tryd.results73 ?_))
  · have : a ≠ b := fun e => by subst e; omega
    simp [this]
  have hl : a.length = b.length := by omega
  refine aw_rounds (ι := Nat) (fun i => [(0, pat a), (1, pat b), (5, i64 i)]) (fun _ => []) (fun i => i ≤ a.length ∧ a.take i = b.take i) (fun i => a.length - i) 0 ⟨by simp, by simp⟩ rfl (by simp [Fr.get]) ?_
  rintro k ⟨g1, g2⟩
  have hd : (!partEq (at' a (k : Int)) (at' b (k : Int))) = true ∨ (!partEq (at' a (k : Int)) (at' b (k : Int))) = false := by cases partEq (at' a (k : Int)) (at' b (k : Int)) <;> simp
  repeat' (first
    | (show lOp; refine op0 (by first | (show kAssign; exact b_assign) | (show kMove; exact b_move) | (show kCall; exact m_lenSl) | (show kBinopAdd; exact b_add) | (show kBinopNeq; exact b_neqAgg) | (show kBinopLss; exact b_lss)) ?_)
    | (show lNil; refine al_nil ?_)
    | (show qSeq; first | refine n_seq ?_ | refine p_seq ?_ | refine x_seq ?_)
    | (show qBlk; first | refine n_block ?_ | refine p_block ?_ | refine x_eq ?_)
    | (show cReg; refine aw_reg ?_)
    | (show cSeq; refine aw_seq ?_)
    | (show cBlk; refine aw_block ?_)
    | (show cSkip; refine aw_skip ?_)
    | (show cExit; refine aw_exit ?_)
    | (show cRet; refine aw_ret ?_)
    | (show cIf; first | refine aw_ifD (fun h => ?_) (fun h => ?_) | refine aw_if (fun h => ?_) (fun h => ?_))
    | (show cRegD; refine aw_drN Tryd_mixed ?_)
    | (show dOp; refine ds_op (by first | (show kMove; exact b_move) | (show kLoad; exact b_loadRp) | (show kIndexaddr; exact m_indexSl)) ?_)
    | (show dNil; refine ds_nil ?_)
    | (show eRet; refine ret1 Tryd.results73 ?_))
  · have hp : partEq (at' a (k : Int)) (at' b (k : Int)) = false := by rw [← Bool.not_eq_true']; exact h
    have : a ≠ b := fun e => by subst e; rw [(partEq_iff _ _).2 rfl] at hp; cases hp
    simp [this]
  · have hp : partEq (at' a (k : Int)) (at' b (k : Int)) = true := by rw [← Bool.not_eq_false']; exact h
    exact ⟨k + 1, ⟨by omega, take_next (by omega) (by omega) g2 ((partEq_iff _ _).1 hp)⟩, rfl, by simp [Fr.get], by omega⟩
  · have e1 : a.take k = a := List.take_of_length_le (by omega)
    have e2 : b.take k = b := List.take_of_length_le (by omega)
    rw [e1, e2] at g2
    simp [g2]
theorem is_c (t : T) (op : Int) (h : t.size ≤ 1000000) : ACalls Tryd.prog 45 [pat t.enc, i64 op] [] (fun x _ => x = .ret (bl (decide (t.op = op)))) := by
  have hp := t.size_pos
  have hsz : t.enc.length = t.size := rfl
  refine acalls_by Tryd.func45 Tryd.ntmps45 ?_
  simp only [argFr]
  repeat' (first
    | (show lOp; refine op0 (by first | (show kAssign; exact b_assign) | (show kMove; exact b_move) | (show kCall; exact m_lenSl) | (show kLoad; exact b_loadRp) | (show kFieldaddr; exact b_fieldRp) | (show kIndexaddr; exact m_indexSl) | (show kBinopSub; exact b_sub) | (show kBinopEql; exact b_eql)) ?_)
    | (show lNil; refine al_nil ?_)
    | (show qSeq; refine n_seq ?_)
    | (show cReg; refine aw_reg ?_)
    | (show cSeq; refine aw_seq ?_)
    | (show cRet; refine aw_ret ?_)
    | (show eRet; refine ret1 Tryd.results45 ?_))
  rw [T.top]
theorem rone_c (op : Int) : ACalls Tryd.prog 61 [i64 op] [] (fun x _ => x = .ret (pat [⟨op, default⟩])) := by
  refine acalls_by Tryd.func61 Tryd.ntmps61 ?_
  simp only [argFr]
  repeat' (first
    | (show lOp; refine op0 (by first | (show kAssign; exact b_assign) | (show kMove; exact b_move) | (show kBuild; exact b_buildSt) | (show kBuildslice; exact b_buildSl1)) ?_)
    | (show lNil; refine al_nil ?_)
    | (show qSeq; refine n_seq ?_)
    | (show cReg; refine aw_reg ?_)
    | (show cSeq; refine aw_seq ?_)
    | (show cRet; refine aw_ret ?_)
    | (show eRet; refine ret1 Tryd.results61 ?_))
  all_goals rfl
theorem rsplit_seq (a b : T) (h : (T.seq a b).size ≤ 1000000) : ACalls Tryd.prog 40 [pat (T.seq a b).enc] [] (fun x _ => x = .ret (.tup [pat a.enc, pat b.enc])) := by
  have h1 := parts37_c (T.seq a b).enc h
  have hs := T.size_seq a b
  have ha := a.size_pos
  have hb := b.size_pos
  have hsz : (T.seq a b).enc.length = a.size + b.size + 1 := hs
  have e1 := (pTab_tree (T.seq a b) (T.seq a b).subs_last).2
  have kid := (T.seq a b).kids _ _ (T.seq a b).subs_last
  have e2 := (pTab_tree (T.seq a b) kid.2.1).1
  rw [show (((T.seq a b).size - 1 : Nat) : Int) = ((T.seq a b).enc.length : Int) - 1 by omega] at e1
  rw [show (((T.seq a b).size - 1 - 1 : Nat) : Int) = ((T.seq a b).enc.length : Int) - 1 - 1 by omega] at e2
  have e3 : (at' (pTab (T.seq a b).enc (T.seq a b).enc.length).1 (((T.seq a b).enc.length : Int) - 1)).2 = ((T.seq a b).enc.length : Int) - 1 - 1 := by rw [e1]; simp only [partsOf]; omega
  have e5 : at' (pTab (T.seq a b).enc (T.seq a b).enc.length).2 (at' (pTab (T.seq a b).enc (T.seq a b).enc.length).1 (((T.seq a b).enc.length : Int) - 1)).2 = a.size := by rw [e3, e2]; omega
  obtain ⟨l1, l2⟩ := pTab_len (T.seq a b).enc (T.seq a b).enc.length
  refine acalls_by Tryd.func40 Tryd.ntmps40 ?_
  simp only [argFr]
  repeat' (first
    | (show lOp; refine op0 (by first | (show kAssign; exact b_assign) | (show kMove; exact b_move) | (show kCall; first | exact b_call (h1) | exact m_lenSl) | (show kLoad; exact b_loadRp) | (show kIndexaddr; first | exact m_indexSl | exact b_indexArrRp) | (show kBinopSub; exact b_sub) | (show kExtract; exact b_extract)) ?_)
    | (show lNil; refine al_nil ?_)
    | (show qSeq; refine n_seq ?_)
    | (show cReg; refine aw_reg ?_)
    | (show cSeq; refine aw_seq ?_)
    | (show cRet; refine aw_ret ?_)
    | (show cRegD; refine aw_drN Tryd_mixed ?_)
    | (show dOp; refine ds_op (by first | (show kAssign; exact b_assign) | (show kMove; exact b_move) | (show kLoad; exact b_loadRp) | (show kIndexaddr; exact m_indexSl) | (show kBinopAdd; exact b_add) | (show kSlice; first | exact m_sliceSl | exact m_sliceSlH)) ?_)
    | (show dNil; refine ds_nil ?_)
    | (show eRet; refine ret2 Tryd.results40 ?_))
  rw [e5, e3, hsz, Int.toNat_natCast, show ((a.size + b.size + 1 : Nat) - 1 - 1 + 1 : Int).toNat = a.size + b.size by omega]
  simp only [T.enc, T.size]
  simp [List.take_append]
theorem rsplit_alt (a b : T) (h : (T.alt a b).size ≤ 1000000) : ACalls Tryd.prog 40 [pat (T.alt a b).enc] [] (fun x _ => x = .ret (.tup [pat a.enc, pat b.enc])) := by
  have h1 := parts37_c (T.alt a b).enc h
  have hs := T.size_alt a b
  have ha := a.size_pos
  have hb := b.size_pos
  have hsz : (T.alt a b).enc.length = a.size + b.size + 1 := hs
  have e1 := (pTab_tree (T.alt a b) (T.alt a b).subs_last).2
  have kid := (T.alt a b).kids _ _ (T.alt a b).subs_last
  have e2 := (pTab_tree (T.alt a b) kid.2.1).1
  rw [show (((T.alt a b).size - 1 : Nat) : Int) = ((T.alt a b).enc.length : Int) - 1 by omega] at e1
  rw [show (((T.alt a b).size - 1 - 1 : Nat) : Int) = ((T.alt a b).enc.length : Int) - 1 - 1 by omega] at e2
  have e3 : (at' (pTab (T.alt a b).enc (T.alt a b).enc.length).1 (((T.alt a b).enc.length : Int) - 1)).2 = ((T.alt a b).enc.length : Int) - 1 - 1 := by rw [e1]; simp only [partsOf]; omega
  have e5 : at' (pTab (T.alt a b).enc (T.alt a b).enc.length).2 (at' (pTab (T.alt a b).enc (T.alt a b).enc.length).1 (((T.alt a b).enc.length : Int) - 1)).2 = a.size := by rw [e3, e2]; omega
  obtain ⟨l1, l2⟩ := pTab_len (T.alt a b).enc (T.alt a b).enc.length
  refine acalls_by Tryd.func40 Tryd.ntmps40 ?_
  simp only [argFr]
  repeat' (first
    | (show lOp; refine op0 (by first | (show kAssign; exact b_assign) | (show kMove; exact b_move) | (show kCall; first | exact b_call (h1) | exact m_lenSl) | (show kLoad; exact b_loadRp) | (show kIndexaddr; first | exact m_indexSl | exact b_indexArrRp) | (show kBinopSub; exact b_sub) | (show kExtract; exact b_extract)) ?_)
    | (show lNil; refine al_nil ?_)
    | (show qSeq; refine n_seq ?_)
    | (show cReg; refine aw_reg ?_)
    | (show cSeq; refine aw_seq ?_)
    | (show cRet; refine aw_ret ?_)
    | (show cRegD; refine aw_drN Tryd_mixed ?_)
    | (show dOp; refine ds_op (by first | (show kAssign; exact b_assign) | (show kMove; exact b_move) | (show kLoad; exact b_loadRp) | (show kIndexaddr; exact m_indexSl) | (show kBinopAdd; exact b_add) | (show kSlice; first | exact m_sliceSl | exact m_sliceSlH)) ?_)
    | (show dNil; refine ds_nil ?_)
    | (show eRet; refine ret2 Tryd.results40 ?_))
  rw [e5, e3, hsz, Int.toNat_natCast, show ((a.size + b.size + 1 : Nat) - 1 - 1 + 1 : Int).toNat = a.size + b.size by omega]
  simp only [T.enc, T.size]
  simp [List.take_append]
theorem nulls_c (t : T) (h : t.enc.length ≤ 1000000) : ACalls Tryd.prog 71 [pat t.enc, ptab t] [] (fun x _ => x = .ret (.c (.p (.sl 1 ((t.subs.map T.null).map encB))))) := by
  have hpl := (pTab_len t.enc t.enc.length).1
  have hsz : t.enc.length = t.size := rfl
  refine acalls_by Tryd.func71 Tryd.ntmps71 ?_
  simp only [argFr]
  repeat' (first
    | (show lMakeSlice; refine k_make ?_)
    | (show lOp; refine op0 (by first | (show kAssign; exact b_assign) | (show kMove; exact b_move) | (show kCall; exact m_lenSl)) ?_)
    | (show lNil; refine al_nil ?_)
    | (show qSeq; refine n_seq ?_)
    | (show cReg; refine aw_reg ?_)
    | (show cSeq; refine aw_seq ?_)
    | (show cBlk; refine aw_block ?_))
  have ez1 : List.replicate (t.enc.length : Int).toNat (zP (.bool false)) = (tabL T.null false t 0).map encB := by simp [zP, Value.cells, tabL_zero]; rfl
  rw [ez1]
  refine aw_rounds (ι := Nat) (fun i => [(0, pat t.enc), (1, ptab t), (5, .c (.ms 0 t.enc.length)), (6, i64 i)]) (fun i => [.arr 4 1 ((tabL T.null false t i).map encB)]) (fun i => i ≤ t.enc.length) (fun i => t.enc.length - i) 0 (by simp) rfl (by simp [Fr.get]) ?_
  rintro k g1
  have hl := tabL_len (f := T.null) (z := false) g1
  have hps : (k : Int) < t.enc.length → _ := fun hk => kid_facts hk
  generalize hL' : tabL T.null false t k = L at *
  repeat' (first
    | (show cRet; refine kw_freezeM (f := encB) 4 ?_)
    | (show lStore; refine k_storeElM (f := encB) _ ?_)
    | (show lOp; refine op0 (by first | (show kAssign; exact b_assign) | (show kMove; exact b_move) | (show kCall; exact m_lenSl) | (show kLoad; first | exact b_loadRp | exact m_loadEpt) | (show kFieldaddr; exact b_fieldRp) | (show kIndexaddr; first | exact m_indexSl | exact m_indexMs) | (show kBinopAdd; exact b_add) | (show kBinopEql; exact b_eql) | (show kBinopLss; exact b_lss) | (show kPick; first | exact b_pickT | exact b_pickF)) ?_)
    | (show lGu; first | refine al_yes ?_ | refine al_none ?_ | refine al_split (fun h => ?_) (fun h => ?_))
    | (show lNil; refine al_nil ?_)
    | (show qSeq; first | refine n_seq ?_ | refine x_seq ?_)
    | (show qBlk; first | refine n_block ?_ | refine x_eq ?_)
    | (show cReg; refine aw_reg ?_)
    | (show cSeq; refine aw_seq ?_)
    | (show cBlk; refine aw_block ?_)
    | (show cSkip; refine aw_skip ?_)
    | (show cExit; refine aw_exit ?_)
    | (show cRet; refine aw_ret ?_)
    | (show cIf; first | refine aw_T ?_ | refine aw_ifD (fun h => ?_) (fun h => ?_))
    | (show cRegD; refine aw_drN Tryd_mixed ?_)
    | (show dOp; refine ds_op (by first | (show kAssign; exact b_assign) | (show kMove; exact b_move) | (show kLoad; exact b_loadRp) | (show kIndexaddr; first | exact m_indexSl | exact b_indexArrRp)) ?_)
    | (show dNil; refine ds_nil ?_)
    | (show eRet; refine ret1 Tryd.results71 ?_))
  rotate_right 1
  · rw [← hL', show k = t.size by omega, hsz, List.take_of_length_le (by rw [tabL_len (Nat.le_refl _)]; exact Nat.le_refl _), tabL_end]
  all_goals
    obtain ⟨s, hs⟩ := sub_some (by assumption)
    obtain ⟨e1, e2⟩ := kid_at hs
    have kv := kid_val T.null false hs
    have e3 : (at' t.enc (k : Int)).op = s.op := by rw [e1, T.node_op]
    try simp only [e3, e2] at *
    refine ⟨k + 1, by omega, ?_, by simp [Fr.get], by omega⟩
    try simp only [Int.toNat_natCast]
    subst hL'
    first
      | (rw [tabL_set hs]
         cases s <;> simp [T.op] at * <;> simp only [KidVal] at kv <;> simp_all [partsOf, T.null, T.node_op]; done)
      | (rw [tabL_skip hs]
         cases s <;> simp [T.op] at * <;> simp [T.null]; done)
      | skip
  all_goals trace_state
end Go.AL
set_option linter.unusedVariables false
namespace Go.AL
open Go.Proofs
set_option maxRecDepth 10000
attribute [local irreducible] AWp AList RStep seqQ blockQ retQ DSteps awR rQ
theorem nullable_c (t : T) (h : t.size ≤ 1000000) : ACalls Tryd.prog 62 [pat t.enc] [] (fun x _ => x = .ret (bl t.null)) := by
  have h1 := parts37_c t.enc h
  have h2 := nulls_c t h
  have hp := t.size_pos
  have hsz : t.enc.length = t.size := rfl
  have e : at' (t.subs.map T.null) ((t.enc.length : Int) - 1) = t.null := by
    rw [show (t.enc.length : Int) - 1 = ((t.size - 1 : Nat) : Int) by omega]; exact at'_map t.subs_last
  have hll : (t.subs.map T.null).length = t.enc.length := by rw [List.length_map, t.subs_len, hsz]
  refine acalls_by Tryd.func62 Tryd.ntmps62 ?_
  simp only [argFr]
  repeat' (first
    | (show lOp; refine op0 (by first | (show kAssign; exact b_assign) | (show kMove; exact b_move) | (show kCall; first | exact b_call (h1) | exact b_call (h2) | exact m_lenSl) | (show kLoad; exact b_loadRp) | (show kIndexaddr; exact m_indexSl) | (show kBinopSub; exact b_sub) | (show kExtract; exact b_extract)) ?_)
    | (show lNil; refine al_nil ?_)
    | (show qSeq; refine n_seq ?_)
    | (show cReg; refine aw_reg ?_)
    | (show cSeq; refine aw_seq ?_)
    | (show cRet; refine aw_ret ?_)
    | (show eRet; refine ret1 Tryd.results62 ?_))
  rw [e]
abbrev errI (lg : Bool) : Int := if lg then 52 else 0
abbrev mkE (lg : Bool) : List PV := [PV.lit (.int .i64 (errI lg))]
theorem rmade_c (p : List Part) (lg : Bool) (h : p.length ≤ 1000000) : ACalls Tryd.prog 74 [.c (.ptr 0 0), pat p] [.cells ((mkE lg).map .p)] (fun r σ' => r = .ret (pat (madeF p lg).1) ∧ ∃ gb, σ' = .cells ((mkE (madeF p lg).2).map .p) :: gb) := by
  simp only [List.map]
  cases lg
  · simp only [errI]
    refine acalls_by Tryd.func74 Tryd.ntmps74 ?_
    simp only [argFr]
    repeat' (first
      | (show lStore; refine k_store ?_)
      | (show lOp; refine op0 (by first | (show kAssign; exact b_assign) | (show kMove; exact b_move) | (show kCall; exact m_lenSl) | (show kLoad; exact b_loadPtr) | (show kFieldaddr; exact b_fieldPtr) | (show kBinopEql; exact b_eql) | (show kBinopNeq; exact b_neq) | (show kBinopGtr; exact b_gtr) | (show kPick; first | exact b_pickT | exact b_pickF) | (show kNilcheck; exact b_nilPtr) | (show kBuild; exact b_buildSt) | (show kBuildslice; exact b_buildSl1)) ?_)
      | (show lGu; first | refine al_yes ?_ | refine al_none ?_ | refine al_splitD (fun h => ?_) (fun h => ?_))
      | (show lNil; refine al_nil ?_)
      | (show qSeq; first | refine n_seq ?_ | refine p_seq ?_)
      | (show cReg; refine aw_reg ?_)
      | (show cSeq; refine aw_seq ?_)
      | (show cSkip; refine aw_skip ?_)
      | (show cRet; refine aw_ret ?_)
      | (show cIf; first | refine aw_T ?_ | refine aw_F ?_)
      | (show eRet; refine ret1 Tryd.results74 ?_))
    · have e : madeF p false = ([⟨0, default⟩], true) := by simp only [madeF]; rw [if_pos (by rw [Bool.or_eq_true, decide_eq_true_eq]; omega)]
      rw [e]; exact ⟨rfl, [], rfl⟩
    · have e : madeF p false = (p, false) := by simp only [madeF]; rw [if_neg (by rw [Bool.false_or, decide_eq_true_eq]; omega)]
      rw [e]; exact ⟨rfl, [], rfl⟩
  · simp only [errI]
    have e : madeF p true = ([⟨0, default⟩], true) := by simp [madeF]
    refine acalls_by Tryd.func74 Tryd.ntmps74 ?_
    simp only [argFr]
    repeat' (first
      | (show lOp; refine op0 (by first | (show kAssign; exact b_assign) | (show kMove; exact b_move) | (show kCall; exact m_lenSl) | (show kLoad; exact b_loadPtr) | (show kFieldaddr; exact b_fieldPtr) | (show kBinopEql; exact b_eql) | (show kBinopNeq; exact b_neq) | (show kBinopGtr; exact b_gtr) | (show kPick; first | exact b_pickT | exact b_pickF) | (show kNilcheck; exact b_nilPtr) | (show kBuild; exact b_buildSt) | (show kBuildslice; exact b_buildSl1)) ?_)
      | (show lGu; first | refine al_yes ?_ | refine al_none ?_ | refine al_splitD (fun h => ?_) (fun h => ?_))
      | (show lNil; refine al_nil ?_)
      | (show qSeq; first | refine n_seq ?_ | refine p_seq ?_)
      | (show cReg; refine aw_reg ?_)
      | (show cSeq; refine aw_seq ?_)
      | (show cSkip; refine aw_skip ?_)
      | (show cRet; refine aw_ret ?_)
      | (show cIf; first | refine aw_T ?_ | refine aw_F ?_)
      | (show eRet; refine ret1 Tryd.results74 ?_))
    all_goals (rw [e]; exact ⟨rfl, [], rfl⟩)
theorem joined_c (a b : List Part) (op : Int) (ha : a.length ≤ 100000) (hb : b.length ≤ 100000) : ACalls Tryd.prog 75 [pat a, pat b, i64 op] [] (fun x _ => x = .ret (pat (a ++ b ++ [⟨op, default⟩]))) := by
  refine acalls_by Tryd.func75 Tryd.ntmps75 ?_
  simp only [argFr]
  repeat' (first
    | (show cRet; refine kw_freezeM (f := encPart) 6 ?_)
    | (show lBuildSlice; refine k_buildSl0 ?_)
    | (show lCall; first | refine k_appSl (f := encPart) (xs := []) (ys := a) ?_ | refine k_appSl (f := encPart) (ys := b) ?_ | refine k_app1 (f := encPart) (⟨op, default⟩ : Part) ?_)
    | (show lOp; refine op0 (by first | (show kAssign; exact b_assign) | (show kMove; exact b_move) | (show kBuild; exact b_buildSt) | (show kBuildslice; exact b_buildSl1)) ?_)
    | (show lNil; refine al_nil ?_)
    | (show qSeq; refine n_seq ?_)
    | (show cReg; refine aw_reg ?_)
    | (show cSeq; refine aw_seq ?_)
    | (show cRet; refine aw_ret ?_)
    | (show eRet; refine ret1 Tryd.results75 ?_))
  have e1 : List.take (0 + a.length) (List.take 0 [] ++ a) = a := by simp
  have e2 : List.take (0 + a.length + b.length) (a ++ b) = a ++ b := List.take_of_length_le (by simp)
  rw [e1, e2, List.take_of_length_le (by simp; omega)]
/-! ### seq -/
theorem mkT_true (t : T) (lg : Bool) (h : (mkT t lg).2 = true) : (mkT t lg).1 = .none := by
  simp only [mkT] at h ⊢
  split at h
  · rename_i h1; rw [if_pos h1]
  · cases h
theorem seqT_none (x : T) (lg : Bool) : seqT x .none lg = (.none, lg) := by
  induction x generalizing lg with
  | seq u v ihu ihv => simp [seqT, T.op]
  | _ => simp [seqT, T.op]
theorem seqT_true : ∀ (x y : T), (seqT x y false).2 = true → (seqT x y false).1 = .none := by
  intro x
  induction x with
  | none => intro y h; simp [seqT] at h
  | emp => intro y h; simp only [seqT] at h ⊢; split at h <;> simp at h
  | seq u v ihu ihv =>
    intro y h
    simp only [seqT] at h ⊢
    split at h
    · simp at h
    · rename_i h0
      rw [if_neg h0]
      split at h
      · simp at h
      · rename_i h1
        rw [if_neg h1]
        cases hv : (seqT v y false).2 with
        | false => rw [hv] at h; exact ihu _ h
        | true => rw [ihv y hv, seqT_none]
  | cls c => intro y h; simp only [seqT] at h ⊢; split at h <;> (try split at h) <;> first | (simp at h; done) | simp [*, mkT_true _ _ h]
  | alt a b => intro y h; simp only [seqT] at h ⊢; split at h <;> (try split at h) <;> first | (simp at h; done) | simp [*, mkT_true _ _ h]
  | star a => intro y h; simp only [seqT] at h ⊢; split at h <;> (try split at h) <;> first | (simp at h; done) | simp [*, mkT_true _ _ h]
def rseqT (x y : T) (lg : Bool) : T × Bool := if lg then (.none, true) else seqT x y false
theorem rseqT_seq (u v y : T) (h0 : ¬ y.op = 0) (h1 : ¬ y.op = 1) : rseqT u (rseqT v y false).1 (rseqT v y false).2 = seqT (.seq u v) y false := by
  simp only [rseqT, seqT, if_neg h0, if_neg h1, Bool.false_eq_true, if_false]
  cases hv : (seqT v y false).2 with
  | false => simp
  | true => rw [seqT_true v y hv, seqT_none]; simp [seqT_none]
theorem rseqT_size (x y : T) (lg : Bool) (hx : x.size ≤ 4096) (hy : y.size ≤ 4096) : (rseqT x y lg).1.size ≤ 4096 := by
  unfold rseqT; split
  · simp
  · exact seqT_size _ _ _ hx hy
theorem rseq_c : ∀ (x y : T) (lg : Bool) (hx : x.size ≤ 4096) (hy : y.size ≤ 4096), ACalls Tryd.prog 64 [.c (.ptr 0 0), pat x.enc, pat y.enc] [.cells ((mkE lg).map .p)] (fun r σ' => r = .ret (pat (rseqT x y lg).1.enc) ∧ ∃ gb, σ' = .cells ((mkE (rseqT x y lg).2).map .p) :: gb) := by
  have stop : ∀ (x y : T), ACalls Tryd.prog 64 [.c (.ptr 0 0), pat x.enc, pat y.enc] [.cells ((mkE true).map .p)] (fun r σ' => r = .ret (pat (rseqT x y true).1.enc) ∧ ∃ gb, σ' = .cells ((mkE (rseqT x y true).2).map .p) :: gb) := by
    intro x y
    simp only [List.map, errI]
    refine acalls_by Tryd.func64 Tryd.ntmps64 ?_
    simp only [argFr]
    repeat' (first
      | (show lOp; refine op0 (by first | (show kAssign; exact b_assign) | (show kMove; exact b_move) | (show kCall; exact b_call (rone_c _)) | (show kLoad; exact b_loadPtr) | (show kFieldaddr; exact b_fieldPtr) | (show kBinopNeq; exact b_neq) | (show kPick; exact b_pickT) | (show kNilcheck; exact b_nilPtr)) ?_)
      | (show lGu; refine al_none ?_)
      | (show lNil; refine al_nil ?_)
      | (show qSeq; first | refine n_seq ?_ | refine p_seq ?_)
      | (show qBlk; refine p_block ?_)
      | (show cReg; refine aw_reg ?_)
      | (show cSeq; refine aw_seq ?_)
      | (show cBlk; refine aw_block ?_)
      | (show cRet; refine aw_ret ?_)
      | (show cIf; refine aw_T ?_)
      | (show eRet; refine ret1 Tryd.results64 ?_))
    exact ⟨rfl, [], rfl⟩
  have base : ∀ (x y : T), x.size ≤ 4096 → y.size ≤ 4096 → x.op ≠ 3 → ACalls Tryd.prog 64 [.c (.ptr 0 0), pat x.enc, pat y.enc] [.cells ((mkE false).map .p)] (fun r σ' => r = .ret (pat (if x.op = 0 then (T.none, false) else if y.op = 0 then (T.none, false) else if x.op = 1 then (y, false) else if y.op = 1 then (x, false) else mkT (.seq x y) false).1.enc) ∧ ∃ gb, σ' = .cells ((mkE (if x.op = 0 then (T.none, false) else if y.op = 0 then (T.none, false) else if x.op = 1 then (y, false) else if y.op = 1 then (x, false) else mkT (.seq x y) false).2).map .p) :: gb) := by
    intro x y hx hy h3
    have i0 := fun op => is_c x op (by omega)
    have j0 := fun op => is_c y op (by omega)
    have hj := joined_c x.enc y.enc 3 (by simp only [T.size] at hx; omega) (by simp only [T.size] at hy; omega)
    have e : x.enc ++ y.enc ++ [⟨3, default⟩] = (T.seq x y).enc := rfl
    have hm := rmade_c (T.seq x y).enc false (by have := T.size_seq x y; simp only [T.size] at *; omega)
    rw [madeF_enc] at hm
    rw [e] at hj
    simp only [List.map]
    refine acalls_by Tryd.func64 Tryd.ntmps64 ?_
    simp only [argFr]
    repeat' (first
      | (show lCall; refine k_callC hm ?_)
      | (show lOp; refine op0 (by first | (show kAssign; exact b_assign) | (show kMove; exact b_move) | (show kCall; first | exact b_call (i0 _) | exact b_call (j0 _) | exact b_call (rone_c _) | exact b_call (hj)) | (show kLoad; exact b_loadPtr) | (show kFieldaddr; exact b_fieldPtr) | (show kBinopNeq; exact b_neq) | (show kPick; first | exact b_pickT | exact b_pickF) | (show kNilcheck; exact b_nilPtr)) ?_)
      | (show lGu; first | refine al_yes ?_ | refine al_none ?_ | refine al_splitD (fun h => ?_) (fun h => ?_))
      | (show lNil; refine al_nil ?_)
      | (show qSeq; first | refine n_seq ?_ | refine p_seq ?_)
      | (show qBlk; first | refine n_block ?_ | refine p_block ?_)
      | (show cReg; refine aw_reg ?_)
      | (show cSeq; refine aw_seq ?_)
      | (show cBlk; refine aw_block ?_)
      | (show cSkip; refine aw_skip ?_)
      | (show cRet; refine aw_ret ?_)
      | (show cIf; first | refine aw_T ?_ | refine aw_F ?_ | refine aw_ifD (fun h => ?_) (fun h => ?_))
      | (show eRet; refine ret1 Tryd.results64 ?_))
    · rw [if_pos h]; exact ⟨rfl, [], rfl⟩
    · rename_i a; rw [if_neg a, if_pos h]; exact ⟨rfl, [], rfl⟩
    · rename_i a b; rw [if_neg b, if_neg a, if_pos h]; exact ⟨rfl, [], rfl⟩
    · rename_i a b c; rw [if_neg c, if_neg b, if_neg a, if_pos h]; exact ⟨rfl, [], rfl⟩
    · rename_i a b c; rw [if_neg c, if_neg b, if_neg a, if_neg h]; exact ⟨rfl, [], rfl⟩
  intro x
  induction x with
  | seq u v ihu ihv =>
    intro y lg hx hy
    cases lg with
    | true => exact stop _ _
    | false =>
      have hs := T.size_seq u v
      have i0 := fun op => is_c (.seq u v) op (by omega)
      have j0 := fun op => is_c y op (by omega)
      have hsp := rsplit_seq u v (by omega)
      have h1 := ihv y false (by omega) hy
      have h2 := ihu (rseqT v y false).1 (rseqT v y false).2 (by omega) (rseqT_size _ _ _ (by omega) hy)
      have hc : rseqT (.seq u v) y false = if y.op = 0 then (T.none, false) else if y.op = 1 then (.seq u v, false) else rseqT u (rseqT v y false).1 (rseqT v y false).2 := by
        by_cases h0 : y.op = 0
        · simp [rseqT, seqT, h0]
        · by_cases h1 : y.op = 1
          · simp [rseqT, seqT, h1]
          · rw [rseqT_seq u v y h0 h1, if_neg h0, if_neg h1]; rfl
      rw [hc]
      simp only [List.map]
      refine acalls_by Tryd.func64 Tryd.ntmps64 ?_
      simp only [argFr]
      repeat' (first
        | (show lCall; first | refine k_callC h1 ?_ | refine k_callC h2 ?_)
        | (show lOp; refine op0 (by first | (show kAssign; exact b_assign) | (show kMove; exact b_move) | (show kCall; first | exact b_call (i0 _) | exact b_call (j0 _) | exact b_call (rone_c _) | exact b_call (hsp)) | (show kLoad; exact b_loadPtr) | (show kFieldaddr; exact b_fieldPtr) | (show kBinopNeq; exact b_neq) | (show kPick; exact b_pickF) | (show kNilcheck; exact b_nilPtr) | (show kExtract; exact b_extract)) ?_)
        | (show lGu; refine al_yes ?_)
        | (show lNil; refine al_nil ?_)
        | (show qSeq; first | refine n_seq ?_ | refine p_seq ?_)
        | (show qBlk; refine p_block ?_)
        | (show cReg; refine aw_reg ?_)
        | (show cSeq; refine aw_seq ?_)
        | (show cBlk; refine aw_block ?_)
        | (show cRet; refine aw_ret ?_)
        | (show cIf; first | refine aw_T ?_ | refine aw_F ?_ | refine aw_ifD (fun h => ?_) (fun h => ?_))
        | (show eRet; refine ret1 Tryd.results64 ?_))
      · rw [if_pos h]; exact ⟨rfl, [], rfl⟩
      · rename_i a; rw [if_neg a, if_pos h]; exact ⟨rfl, [], rfl⟩
      · rename_i a; rw [if_neg a, if_neg h]; exact ⟨rfl, [], rfl⟩
  | none =>
    intro y lg hx hy
    cases lg with
    | true => exact stop _ _
    | false => 
      have o : T.none.op = 0 := rfl
      have e : rseqT T.none y false = (if T.none.op = 0 then (T.none, false) else if y.op = 0 then (T.none, false) else if T.none.op = 1 then (y, false) else if y.op = 1 then (T.none, false) else mkT (.seq T.none y) false) := by rw [o]; simp [rseqT, seqT]
      rw [e]; exact base T.none y hx hy (by rw [o]; decide)
  | emp =>
    intro y lg hx hy
    cases lg with
    | true => exact stop _ _
    | false => 
      have o : T.emp.op = 1 := rfl
      have e : rseqT T.emp y false = (if T.emp.op = 0 then (T.none, false) else if y.op = 0 then (T.none, false) else if T.emp.op = 1 then (y, false) else if y.op = 1 then (T.emp, false) else mkT (.seq T.emp y) false) := by rw [o]; simp [rseqT, seqT]
      rw [e]; exact base T.emp y hx hy (by rw [o]; decide)
  | cls c =>
    intro y lg hx hy
    cases lg with
    | true => exact stop _ _
    | false => 
      have o : (T.cls c).op = 2 := rfl
      have e : rseqT (T.cls c) y false = (if (T.cls c).op = 0 then (T.none, false) else if y.op = 0 then (T.none, false) else if (T.cls c).op = 1 then (y, false) else if y.op = 1 then ((T.cls c), false) else mkT (.seq (T.cls c) y) false) := by rw [o]; simp [rseqT, seqT]
      rw [e]; exact base (T.cls c) y hx hy (by rw [o]; decide)
  | alt a b =>
    intro y lg hx hy
    cases lg with
    | true => exact stop _ _
    | false => 
      have o : (T.alt a b).op = 4 := rfl
      have e : rseqT (T.alt a b) y false = (if (T.alt a b).op = 0 then (T.none, false) else if y.op = 0 then (T.none, false) else if (T.alt a b).op = 1 then (y, false) else if y.op = 1 then ((T.alt a b), false) else mkT (.seq (T.alt a b) y) false) := by rw [o]; simp [rseqT, seqT]
      rw [e]; exact base (T.alt a b) y hx hy (by rw [o]; decide)
  | star a =>
    intro y lg hx hy
    cases lg with
    | true => exact stop _ _
    | false => 
      have o : (T.star a).op = 5 := rfl
      have e : rseqT (T.star a) y false = (if (T.star a).op = 0 then (T.none, false) else if y.op = 0 then (T.none, false) else if (T.star a).op = 1 then (y, false) else if y.op = 1 then ((T.star a), false) else mkT (.seq (T.star a) y) false) := by rw [o]; simp [rseqT, seqT]
      rw [e]; exact base (T.star a) y hx hy (by rw [o]; decide)
end Go.AL
set_option linter.unusedVariables false
namespace Go.AL
open Go.Proofs
set_option maxRecDepth 10000
attribute [local irreducible] AWp AList RStep seqQ blockQ retQ DSteps awR rQ
theorem ralternatives_c : ∀ (t : T) (h : t.size ≤ 1000000), ACalls Tryd.prog 72 [pat t.enc] [] (fun r σ' => r = .ret (.c (.ms 0 t.alts.length)) ∧ σ' = [.arr 23 1 (t.alts.map encT)]) := by
  have base : ∀ (t : T) (h : t.size ≤ 1000000), t.op ≠ 4 → ACalls Tryd.prog 72 [pat t.enc] [] (fun r σ' => r = .ret (.c (.ms 0 1)) ∧ σ' = [.arr 23 1 ([t].map encT)]) := by
    intro t h h4
    have ht := is_c t 4 h
    refine acalls_new ?_
    refine acalls_by Tryd.func72 Tryd.ntmps72 ?_
    simp only [argFr]
    repeat' (first
      | (show lBuildSlice; refine k_buildSl1 ?_)
      | (show lOp; refine op0 (by first | (show kAssign; exact b_assign) | (show kMove; exact b_move) | (show kCall; exact b_call (ht)) | (show kUnopNot; exact b_notD)) ?_)
      | (show lNil; refine al_nil ?_)
      | (show qSeq; first | refine n_seq ?_ | refine p_seq ?_)
      | (show cReg; refine aw_reg ?_)
      | (show cSeq; refine aw_seq ?_)
      | (show cRet; refine aw_ret ?_)
      | (show cIf; refine aw_T ?_)
      | (show eRet; refine ret1 Tryd.results72 ?_))
    exact ⟨0, rfl, rfl⟩
  intro t
  induction t with
  | alt a b iha ihb =>
    intro h
    have hs := T.size_alt a b
    have ht := is_c (.alt a b) 4 h
    have hsp := rsplit_alt a b h
    have h1 := iha (by omega)
    have h2 := ihb (by omega)
    have l1 := a.alts_len
    have l2 := b.alts_len
    have ho : (T.alt a b).op = 4 := rfl
    refine acalls_new ?_
    refine acalls_by Tryd.func72 Tryd.ntmps72 ?_
    simp only [argFr]
    repeat' (first
      | (show lAt 19; refine k_freezeA (f := encT) (xs := b.alts) 18 ?_)
      | (show lCall; first | refine k_callNew h1 ?_ | refine k_callNew h2 ?_ | refine k_appSl (f := encT) (ys := b.alts) ?_)
      | (show lOp; refine op0 (by first | (show kAssign; exact b_assign) | (show kMove; exact b_move) | (show kCall; first | exact b_call (ht) | exact b_call (hsp)) | (show kUnopNot; exact b_notD) | (show kExtract; exact b_extract)) ?_)
      | (show lNil; refine al_nil ?_)
      | (show qSeq; refine n_seq ?_)
      | (show cReg; refine aw_reg ?_)
      | (show cSeq; refine aw_seq ?_)
      | (show cSkip; refine aw_skip ?_)
      | (show cRet; refine aw_ret ?_)
      | (show cIf; refine aw_F ?_)
      | (show eRet; refine ret1 Tryd.results72 ?_))
    exact ⟨2, by simp [T.alts], by simp [T.alts]⟩
  | _ => intro h; exact base _ h (by simp [T.op])
theorem at_eq {α : Type} [Inhabited α] {l : List α} {q : Nat} (h : q < l.length) : at' l (q : Int) = l[q] := by
  simp [at', List.getD_eq_getElem?_getD, h]
theorem mem_take_next {α : Type} [Inhabited α] {l : List α} {q : Nat} {p : α} (h : q < l.length) : p ∈ l.take (q + 1) ↔ p ∈ l.take q ∨ p = at' l (q : Int) := by
  rw [List.take_add_one, List.getElem?_eq_getElem h, List.mem_append, at_eq h]
  simp only [Option.toList_some, List.mem_singleton]
def raltT (x y : T) (lg : Bool) : T × Bool := if lg then (.none, true) else altT x y false
theorem ralt_c (x y : T) (lg : Bool) (hx : x.size ≤ 4096) (hy : y.size ≤ 4096) : ACalls Tryd.prog 63 [.c (.ptr 0 0), pat x.enc, pat y.enc] [.cells ((mkE lg).map .p)] (fun r σ' => r = .ret (pat (raltT x y lg).1.enc) ∧ ∃ gb, σ' = .cells ((mkE (raltT x y lg).2).map .p) :: gb) := by
  have h1 := ralternatives_c x (by omega)
  have h2 := ralternatives_c y (by omega)
  have l1 := x.alts_len
  have l2 := y.alts_len
  have hs : sumS (x.alts ++ y.alts) ≤ 8192 := by rw [sumS_append]; have := alts_sum x; have := alts_sum y; omega
  have hds := dedT_sum (x.alts ++ y.alts) []
  simp only [List.map]
  cases lg
  case true =>
    refine acalls_by Tryd.func63 Tryd.ntmps63 ?_
    simp only [argFr]
    repeat' (first
      | (show lOp; refine op0 (by first | (show kAssign; exact b_assign) | (show kMove; exact b_move) | (show kCall; exact b_call (rone_c _)) | (show kLoad; exact b_loadPtr) | (show kFieldaddr; exact b_fieldPtr) | (show kBinopNeq; exact b_neq) | (show kNilcheck; exact b_nilPtr)) ?_)
      | (show lNil; refine al_nil ?_)
      | (show qSeq; first | refine n_seq ?_ | refine p_seq ?_)
      | (show cReg; refine aw_reg ?_)
      | (show cSeq; refine aw_seq ?_)
      | (show cRet; refine aw_ret ?_)
      | (show cIf; refine aw_T ?_)
      | (show eRet; refine ret1 Tryd.results63 ?_))
    exact ⟨rfl, [], rfl⟩
  refine acalls_by Tryd.func63 Tryd.ntmps63 ?_
  simp only [argFr]
  repeat' (first
    | (show lAt 25; refine k_freezeA (f := encT) (xs := y.alts) 24 ?_)
    | (show lAt 7; refine k_freezeM (f := encT) 25 ?_)
    | (show lCall; first | refine k_callNew h1 ?_ | refine k_callNew h2 ?_ | refine k_appSl (f := encT) (ys := y.alts) ?_)
    | (show lOp; refine op0 (by first | (show kAssign; exact b_assign) | (show kMove; exact b_move) | (show kLoad; exact b_loadPtr) | (show kFieldaddr; exact b_fieldPtr) | (show kBinopNeq; exact b_neq) | (show kNilcheck; exact b_nilPtr)) ?_)
    | (show lNil; refine al_nil ?_)
    | (show qSeq; refine n_seq ?_)
    | (show cReg; refine aw_reg ?_)
    | (show cSeq; refine aw_seq ?_)
    | (show cBlk; refine aw_block ?_)
    | (show cSkip; refine aw_skip ?_)
    | (show cIf; refine aw_F ?_))
  rw [show List.take (x.alts.length + y.alts.length) (List.take x.alts.length x.alts ++ y.alts) = x.alts ++ y.alts by rw [List.take_of_length_le (Nat.le_refl _)]; exact List.take_of_length_le (by simp)]
  simp only [raltT, altT, Bool.false_eq_true, if_false]
  generalize x.alts ++ y.alts = all at *
  have hla := len_sumS all
  refine kw_own 8 23 1 ?_
  refine aw_roundsP (ι := Nat × List T) 1 (fun _ => [.cells [.p (.lit (.int .i64 0))]]) (fun i n => [(0, .c (.ptr 0 0)), (7, tl all), (9, i64 i.1), (8, .c (.ms (n + 0) i.2.length))]) (fun i n => [.arr 23 1 (i.2.map encT)]) (fun i => i.1 ≤ all.length ∧ dedT (all.drop i.1) i.2 = dedT all [] ∧ i.2.length ≤ i.1 ∧ ∀ t ∈ i.2, t ∈ all) (fun i => all.length - i.1) (0, []) 4 (fun _ => rfl) ⟨by simp, by simp, by simp, by simp⟩ (by omega) (by simp) rfl rfl (by simp [Fr.get]) ?_
  rintro ⟨k, l⟩ n g ⟨g1, g2, g3, g4⟩ hg
  dsimp only at g1 g2 g3 g4 ⊢
  have hmem : (k : Int) < all.length → at' all (k : Int) ∈ all := fun hk => at'_mem (by omega) hk
  have htop : (k : Int) < all.length → ACalls Tryd.prog 45 [pat (at' all (k : Int)).enc, i64 0] [] (fun x _ => x = .ret (bl (decide ((at' all (k : Int)).op = 0)))) := fun hk => is_c _ 0 (by have := mem_sumS (hmem hk); omega)
  repeat' (first
    | (show lOp; refine op0 (by first | (show kAssign; exact b_assign) | (show kMove; exact b_move) | (show kCall; first | exact b_call (htop (by assumption)) | exact m_lenSl | exact b_lenMs) | (show kLoad; exact b_loadRp) | (show kIndexaddr; exact m_indexSl) | (show kBinopEql; exact b_eql) | (show kBinopLss; exact b_lss)) ?_)
    | (show lNil; refine al_nil ?_)
    | (show qSeq; first | refine n_seq ?_ | refine x_seq ?_)
    | (show qBlk; refine x_eq ?_)
    | (show cReg; refine aw_reg ?_)
    | (show cSeq; refine aw_seq ?_)
    | (show cBlk; refine aw_block ?_)
    | (show cSkip; refine aw_skip ?_)
    | (show cExit; refine aw_exit ?_)
    | (show cIf; refine aw_ifD (fun h => ?_) (fun h => ?_)))
  · refine aw_rounds (ι := Nat) (fun q => [(0, .c (.ptr 0 0)), (7, tl all), (9, i64 k), (8, .c (.ms (n + 0) l.length)), (11, i64 q), (10, bl (decide ((at' all (k : Int)).op = 0 ∨ at' all (k : Int) ∈ l.take q)))]) (fun _ => [.cells [.p (.lit (.int .i64 0))]] ++ (g ++ [.arr 23 1 (l.map encT)])) (fun q => q ≤ l.length) (fun q => l.length - q) 0 (by simp) rfl (by simp [Fr.get]) ?_
    rintro q hq
    have hcall : (q : Int) < l.length → ACalls Tryd.prog 73 [pat (at' l (q : Int)).enc, pat (at' all (k : Int)).enc] [] (fun x _ => x = .ret (bl (decide ((at' l (q : Int)).enc = (at' all (k : Int)).enc)))) := fun hql => rsame_c _ _ (by have := mem_sumS (g4 _ (at'_mem (by omega) hql)); simp only [T.size] at this; omega) (by have := mem_sumS (hmem h); simp only [T.size] at this; omega)
    repeat' (first
      | (show lCall; refine k_app1 (f := encT) (at' all (k : Int)) ?_)
      | (show lOp; refine op0 (by first | (show kAssign; exact b_assign) | (show kMove; exact b_move) | (show kCall; exact b_lenMs) | (show kLoad; exact b_loadRp) | (show kIndexaddr; exact m_indexSl) | (show kBinopAdd; exact b_add) | (show kBinopLss; exact b_lss) | (show kUnopNot; exact b_notD) | (show kBuildslice; exact b_buildSl1)) ?_)
      | (show lNil; refine al_nil ?_)
      | (show qSeq; first | refine n_seq ?_ | refine x_seq ?_)
      | (show qBlk; first | refine n_block ?_ | refine x_eq ?_)
      | (show cReg; refine aw_reg ?_)
      | (show cSeq; refine aw_seq ?_)
      | (show cBlk; refine aw_block ?_)
      | (show cSkip; refine aw_skip ?_)
      | (show cExit; refine aw_exit ?_)
      | (show cIf; refine aw_ifD (fun h => ?_) (fun h => ?_))
      | (show cRegD; refine aw_drN Tryd_mixed ?_)
      | (show dOp; refine ds_op (by first | (show kMove; exact b_move) | (show kPick; first | exact b_pickT | exact b_pickF)) ?_)
      | (show dGu; first | refine ds_none ?_ | (refine ds_yes (by first | (show kMove; exact b_move) | (show kCall; exact b_call (hcall (by assumption))) | (show kLoad; first | exact b_loadRp | exact m_loadEpt) | (show kIndexaddr; first | exact m_indexSl | exact m_indexMs)) ?_) | refine ds_splitD (fun h => ?_) (fun h => ?_))
      | (show dNil; refine ds_nil ?_))
    · have e : ((at' all (k : Int)).op = 0 ∨ at' all (k : Int) ∈ l.take (q + 1)) := by rw [mem_take_next (by omega)]; rcases h with h | h <;> simp [h]
      exact ⟨q + 1, by omega, rfl, by simp [Fr.get, e], by omega⟩
    · have e : ((at' l (q : Int)).enc = (at' all (k : Int)).enc) = ((at' all (k : Int)).op = 0 ∨ at' all (k : Int) ∈ l.take (q + 1)) := by
        rw [mem_take_next (by omega)]
        refine propext ⟨fun e => .inr (.inr (enc_inj e).symm), fun e => ?_⟩
        rcases e with e | e | e
        · exact absurd (.inl e) h
        · exact absurd (.inr e) h
        · rw [e]
      exact ⟨q + 1, by omega, rfl, by simp [Fr.get, e], by omega⟩
    · rw [List.take_of_length_le (show l.length ≤ q by omega)] at h
      refine ⟨(k + 1, l ++ [at' all (k : Int)]), n + 1, ⟨by dsimp only; omega, ?_, by simp; omega, ?_⟩, by simp at hg; omega, by simp at hg; simp; omega, rfl, dropG hg ?_, by simp [Fr.get], by dsimp only; omega⟩
      · rw [drop_at all k (by omega), dedT, if_pos ⟨fun hh => h (.inl hh), fun hh => h (.inr hh)⟩] at g2; exact g2
      · intro t ht
        rcases List.mem_append.1 ht with ht | ht
        · exact g4 t ht
        · rw [List.mem_singleton.1 ht]; exact hmem (by omega)
      · simp
    · rw [List.take_of_length_le (show l.length ≤ q by omega)] at h
      refine ⟨(k + 1, l), n + 0, ⟨by dsimp only; omega, ?_, by dsimp only; omega, g4⟩, by simp at hg; omega, by simp at hg; simp; omega, rfl, dropG hg ?_, by simp [Fr.get], by dsimp only; omega⟩
      · rw [drop_at all k (by omega), dedT, if_neg (fun hh => h (fun h2 => h2.elim hh.1 hh.2))] at g2; exact g2
      · simp
  all_goals
    have hk : k = all.length := by omega
    have hl : dedT all [] = l := by rw [← g2, hk, List.drop_length]; rfl
    rw [hl] at hds ⊢
  · have hl0 : l = [] := List.eq_nil_of_length_eq_zero (by omega)
    rw [if_pos hl0]
    repeat' (first
      | (show lOp; refine op0 (by first | (show kAssign; exact b_assign) | (show kCall; exact b_call (rone_c _))) ?_)
      | (show lNil; refine al_nil ?_)
      | (show qSeq; first | refine n_seq ?_ | refine p_seq ?_)
      | (show cRet; refine aw_ret ?_)
      | (show eRet; refine ret1 Tryd.results63 ?_))
    exact ⟨rfl, _, rfl⟩
  have hl0 : l ≠ [] := fun e => by subst e; simp at h
  rw [if_neg hl0]
  have hlen := len_sumS l
  have hll : 0 < l.length := List.length_pos_iff.2 hl0
  have hfl : ∀ q, ((l.take q).map T.enc).flatten.length ≤ 8192 := fun q => by
    have := szs_le (l.map T.enc) q
    rw [szs_sumS, ← List.map_take] at this
    simp only [szs, sumS, List.map_nil, List.sum_nil] at *; omega
  refine kw_freezeM (f := encT) 8 ?_
  rw [List.take_of_length_le (Nat.le_refl l.length)]
  refine kw_own 12 44 5 ?_
  refine aw_roundsP (ι := Nat) 1 (fun _ => [.cells [.p (.lit (.int .i64 0))]]) (fun i n => [(0, .c (.ptr 0 0)), (8, tl l), (13, i64 i), (12, .c (.ms (n + 0) ((l.take i).map T.enc).flatten.length))]) (fun i n => [.arr 44 5 (((l.take i).map T.enc).flatten.map encPart)]) (fun i => i ≤ l.length) (fun i => l.length - i) 0 (n + 1) (fun _ => rfl) (by omega) (by simp at hg; omega) (by simp at hg; simp; omega) rfl (dropG hg (by simp)) (by simp [Fr.get]) ?_
  rintro q n' g' hq hg'
  have hfq := hfl q
  have hfq1 := hfl (q + 1)
  have hnext : q < l.length → ((l.take (q + 1)).map T.enc).flatten = ((l.take q).map T.enc).flatten ++ (at' l (q : Int)).enc := fun hql => by
    rw [List.take_add_one, List.getElem?_eq_getElem hql, at_eq hql]
    simp only [Option.toList_some, List.map_append, List.map_cons, List.map_nil, List.flatten_append, List.flatten_cons, List.flatten_nil, List.append_nil]
  have hnl : q < l.length → ((l.take (q + 1)).map T.enc).flatten.length = ((l.take q).map T.enc).flatten.length + (at' l (q : Int)).enc.length := fun hql => by rw [hnext hql, List.length_append]
  repeat' (first
    | (show lCall; refine k_appSl (f := encPart) (ys := (at' l (q : Int)).enc) ?_)
    | (show lOp; refine op0 (by first | (show kAssign; exact b_assign) | (show kMove; exact b_move) | (show kCall; exact m_lenSl) | (show kLoad; exact b_loadRp) | (show kIndexaddr; exact m_indexSl) | (show kBinopAdd; exact b_add) | (show kBinopLss; exact b_lss)) ?_)
    | (show lNil; refine al_nil ?_)
    | (show qSeq; first | refine n_seq ?_ | refine x_seq ?_)
    | (show qBlk; first | refine n_block ?_ | refine x_eq ?_)
    | (show cReg; refine aw_reg ?_)
    | (show cSeq; refine aw_seq ?_)
    | (show cBlk; refine aw_block ?_)
    | (show cSkip; refine aw_skip ?_)
    | (show cExit; refine aw_exit ?_)
    | (show cIf; refine aw_ifD (fun h => ?_) (fun h => ?_)))
  · refine ⟨q + 1, n' + 1, by omega, by simp at hg'; omega, by simp at hg'; simp; omega, rfl, dropG hg' ?_, ?_, by omega⟩
    · rw [List.take_of_length_le (Nat.le_refl _), hnext (by omega)]; rfl
    · have := hnl (by omega)
      simp only [T.size] at *
      simp [Fr.get] at this ⊢
      omega
  have hq' : q = l.length := by omega
  subst hq'
  rw [List.take_length] at hfq ⊢
  have e0 : (l.map T.enc).flatten = (l.map T.enc).flatten ++ List.replicate 0 (⟨4, default⟩ : Part) := by simp
  rw [e0]
  refine aw_roundsP (ι := Nat) 1 (fun _ => [.cells [.p (.lit (.int .i64 0))]]) (fun i n => [(0, .c (.ptr 0 0)), (8, tl l), (14, i64 ((i : Int) + 1)), (12, .c (.ms (n + 0) ((l.map T.enc).flatten.length + i)))]) (fun i n => [.arr 44 5 (((l.map T.enc).flatten ++ List.replicate i (⟨4, default⟩ : Part)).map encPart)]) (fun i => i ≤ l.length - 1) (fun i => l.length - 1 - i) 0 (n' + 0) (fun _ => rfl) (by omega) (by simp at hg'; omega) (by simp at hg'; simp; omega) rfl (dropG hg' rfl) (by simp [Fr.get]) ?_
  rintro q n'' g'' hq hg''
  have e1 : List.take ((l.map T.enc).flatten.length + q) ((l.map T.enc).flatten ++ List.replicate q (⟨4, default⟩ : Part)) = (l.map T.enc).flatten ++ List.replicate q ⟨4, default⟩ := List.take_of_length_le (by simp)
  have hm := rmade_c ((l.map T.enc).flatten ++ List.replicate q (⟨4, default⟩ : Part)) false (by simp only [List.length_append, List.length_replicate]; omega)
  rw [← e1] at hm
  repeat' (first
    | (show lAt 91; refine k_freezeM (f := encPart) 12 ?_)
    | (show lCall; first | refine k_app1 (f := encPart) (⟨4, default⟩ : Part) ?_ | refine k_callC hm ?_)
    | (show lOp; refine op0 (by first | (show kAssign; exact b_assign) | (show kMove; exact b_move) | (show kCall; exact m_lenSl) | (show kBinopAdd; exact b_add) | (show kBinopLss; exact b_lss) | (show kBuild; exact b_buildSt) | (show kBuildslice; exact b_buildSl1)) ?_)
    | (show lNil; refine al_nil ?_)
    | (show qSeq; first | refine n_seq ?_ | refine x_seq ?_)
    | (show qBlk; first | refine n_block ?_ | refine x_eq ?_)
    | (show cReg; refine aw_reg ?_)
    | (show cSeq; refine aw_seq ?_)
    | (show cBlk; refine aw_block ?_)
    | (show cSkip; refine aw_skip ?_)
    | (show cExit; refine aw_exit ?_)
    | (show cRet; refine aw_ret ?_)
    | (show cIf; refine aw_ifD (fun h => ?_) (fun h => ?_))
    | (show eRet; refine ret1 Tryd.results63 ?_))
  · refine ⟨q + 1, n'' + 1, by omega, by simp at hg''; omega, by simp at hg''; simp; omega, rfl, dropG hg'' ?_, by simp [Fr.get]; omega, by omega⟩
    rw [e1, List.replicate_succ', List.append_assoc]; rfl
  · have hq' : q = l.length - 1 := by omega
    rw [e1]
    have e2 : (l.map T.enc).flatten ++ List.replicate q (⟨4, default⟩ : Part) = (joinT l).enc := by
      match l, hl0 with
      | t :: r, _ =>
        rw [joinT_enc, hq']
        rfl
    rw [e2, madeF_enc]
    exact ⟨rfl, _, rfl⟩
end Go.AL
set_option linter.unusedVariables false
namespace Go.AL
open Go.Proofs
set_option maxRecDepth 10000
attribute [local irreducible] AWp AList RStep seqQ blockQ retQ DSteps awR rQ
theorem altT_lg (x y : T) : altT x y true = (.none, true) := by
  unfold altT; split
  · rfl
  · simp [mkT]
theorem raltT_eq (x y : T) (lg : Bool) : raltT x y lg = altT x y lg := by
  cases lg with
  | true => rw [altT_lg]; rfl
  | false => rfl
theorem altT_true (x y : T) (lg : Bool) (h : (altT x y lg).2 = true) : (altT x y lg).1 = .none := by
  unfold altT at h ⊢; split at h
  · rename_i h1; rw [if_pos h1]
  · rename_i h1; rw [if_neg h1]; exact mkT_true _ _ h
theorem leftT_true (t : T) : ∀ lg, (leftT t lg).2 = true → (leftT t lg).1 = .none := by
  have hs : ∀ a b, ((leftT a false).2 = true → (leftT a false).1 = .none) → (seqT (leftT a false).1 b (leftT a false).2).2 = true → (seqT (leftT a false).1 b (leftT a false).2).1 = .none := by
    intro a b ih h
    cases hl : (leftT a false).2 with
    | false => rw [hl] at h; exact seqT_true _ _ h
    | true => rw [ih hl]; rfl
  induction t with
  | alt x y ihx ihy => intro lg h; simp only [leftT] at h ⊢; split at h
                       · rename_i h1; rw [if_pos h1]
                       · rename_i h1; rw [if_neg h1]
                         split at h
                         · simp at h
                         · rename_i h2; rw [if_neg h2]; exact altT_true _ _ _ h
  | seq x y ihx ihy => intro lg h; simp only [leftT] at h ⊢; split at h
                       · rename_i h1; rw [if_pos h1]
                       · rename_i h1; rw [if_neg h1]
                         split at h
                         · simp at h
                         · rename_i h2; rw [if_neg h2]; exact altT_true _ _ _ h
  | star a iha => intro lg h; simp only [leftT] at h ⊢; split at h
                  · rename_i h1; rw [if_pos h1]
                  · rename_i h1; rw [if_neg h1]; exact hs _ _ (iha false) h
  | emp => intro lg h; rfl
  | none => intro lg h; rfl
  | cls c => intro lg h; simp only [leftT] at h ⊢; split at h
             · rename_i h1; rw [if_pos h1]
             · simp at h
theorem rseqT_left (a b : T) : rseqT (leftT a false).1 b (leftT a false).2 = seqT (leftT a false).1 b (leftT a false).2 := by
  cases hl : (leftT a false).2 with
  | false => rfl
  | true => rw [leftT_true a false hl]; rfl
theorem leftT_stop (t : T) : leftT t true = (.none, true) := by cases t <;> simp [leftT]
theorem rleft_c : ∀ (t : T) (lg : Bool) (h : t.size ≤ 4096), ACalls Tryd.prog 44 [.c (.ptr 0 0), pat t.enc] [.cells ((mkE lg).map .p)] (fun r σ' => r = .ret (pat (leftT t lg).1.enc) ∧ ∃ gb, σ' = .cells ((mkE (leftT t lg).2).map .p) :: gb) := by
  have stop : ∀ t : T, ACalls Tryd.prog 44 [.c (.ptr 0 0), pat t.enc] [.cells ((mkE true).map .p)] (fun r σ' => r = .ret (pat (leftT t true).1.enc) ∧ ∃ gb, σ' = .cells ((mkE (leftT t true).2).map .p) :: gb) := by
    intro t
    rw [leftT_stop]
    simp only [List.map]
    refine acalls_by Tryd.func44 Tryd.ntmps44 ?_
    simp only [argFr]
    repeat' (first
      | (show lOp; refine op0 (by first | (show kAssign; exact b_assign) | (show kMove; exact b_move) | (show kCall; exact b_call (rone_c _)) | (show kLoad; exact b_loadPtr) | (show kFieldaddr; exact b_fieldPtr) | (show kBinopNeq; exact b_neq) | (show kNilcheck; exact b_nilPtr)) ?_)
      | (show lNil; refine al_nil ?_)
      | (show qSeq; first | refine n_seq ?_ | refine p_seq ?_)
      | (show cReg; refine aw_reg ?_)
      | (show cSeq; refine aw_seq ?_)
      | (show cRet; refine aw_ret ?_)
      | (show cIf; refine aw_T ?_)
      | (show eRet; refine ret1 Tryd.results44 ?_))
    exact ⟨rfl, [], rfl⟩
  intro t
  induction t with
  | alt x y ihx ihy =>
    intro lg hsz
    cases lg with
    | true => exact stop _
    | false =>
      have hs := T.size_alt x y
      have hp := (T.alt x y).size_pos
      have hsz' : (T.alt x y).enc.length = (T.alt x y).size := rfl
      have ht : (at' (T.alt x y).enc (((T.alt x y).enc.length : Int) - 1)).op = 4 := T.top _
      have hn := nullable_c (.alt x y) (by omega)
      have hsp := rsplit_alt x y (by omega)
      have h1 := ihx false (by omega)
      have h2 := ihy (leftT x false).2 (by omega)
      have h3 := ralt_c (leftT x false).1 (leftT y (leftT x false).2).1 (leftT y (leftT x false).2).2 (leftT_size _ _ (by omega)) (leftT_size _ _ (by omega))
      rw [raltT_eq] at h3
      simp only [List.map]
      refine acalls_by Tryd.func44 Tryd.ntmps44 ?_
      simp only [argFr]
      repeat' (first
        | (show lCall; first | refine k_callC h1 ?_ | refine k_callC h2 ?_ | refine k_callC h3 ?_)
        | (show lOp; refine op0 (by first | (show kAssign; exact b_assign) | (show kMove; exact b_move) | (show kCall; first | exact b_call (hn) | exact b_call (hsp) | exact m_lenSl) | (show kLoad; first | exact b_loadRp | exact b_loadPtr) | (show kFieldaddr; first | exact b_fieldRp | exact b_fieldPtr) | (show kIndexaddr; exact m_indexSl) | (show kBinopSub; exact b_sub) | (show kBinopEql; exact b_eql) | (show kBinopNeq; exact b_neq) | (show kUnopNot; exact b_not) | (show kNilcheck; exact b_nilPtr) | (show kExtract; exact b_extract)) ?_)
        | (show lNil; refine al_nil ?_)
        | (show qSeq; first | refine n_seq ?_ | refine p_seq ?_)
        | (show qBlk; refine p_block ?_)
        | (show cReg; refine aw_reg ?_)
        | (show cSeq; refine aw_seq ?_)
        | (show cBlk; refine aw_block ?_)
        | (show cSkip; refine aw_skip ?_)
        | (show cRet; refine aw_ret ?_)
        | (show cIf; first | refine aw_T ?_ | refine aw_F ?_ | refine aw_if (fun h => ?_) (fun h => ?_))
        | (show eRet; refine ret1 Tryd.results44 ?_))
      · have e : leftT (.alt x y) false = (.alt x y, false) := by simp only [leftT]; rw [if_neg (by simp), if_pos (by simpa using h)]
        rw [e]; exact ⟨rfl, _, rfl⟩
      · have e : leftT (.alt x y) false = altT (leftT x false).1 (leftT y (leftT x false).2).1 (leftT y (leftT x false).2).2 := by simp only [leftT]; rw [if_neg (by simp), if_neg (by simpa using h)]
        rw [e]; exact ⟨rfl, _, rfl⟩
  | seq x y ihx ihy =>
    intro lg hsz
    cases lg with
    | true => exact stop _
    | false =>
      have hs := T.size_seq x y
      have hp := (T.seq x y).size_pos
      have hsz' : (T.seq x y).enc.length = (T.seq x y).size := rfl
      have ht : (at' (T.seq x y).enc (((T.seq x y).enc.length : Int) - 1)).op = 3 := T.top _
      have hn := nullable_c (.seq x y) (by omega)
      have hsp := rsplit_seq x y (by omega)
      have h1 := ihx false (by omega)
      have h2 := rseq_c (leftT x false).1 y (leftT x false).2 (leftT_size _ _ (by omega)) (by omega)
      rw [rseqT_left] at h2
      have h3 := ihy (seqT (leftT x false).1 y (leftT x false).2).2 (by omega)
      have h4 := ralt_c (seqT (leftT x false).1 y (leftT x false).2).1 (leftT y (seqT (leftT x false).1 y (leftT x false).2).2).1 (leftT y (seqT (leftT x false).1 y (leftT x false).2).2).2 (seqT_size _ _ _ (leftT_size _ _ (by omega)) (by omega)) (leftT_size _ _ (by omega))
      rw [raltT_eq] at h4
      simp only [List.map]
      refine acalls_by Tryd.func44 Tryd.ntmps44 ?_
      simp only [argFr]
      repeat' (first
        | (show lCall; first | refine k_callC h1 ?_ | refine k_callC h2 ?_ | refine k_callC h3 ?_ | refine k_callC h4 ?_)
        | (show lOp; refine op0 (by first | (show kAssign; exact b_assign) | (show kMove; exact b_move) | (show kCall; first | exact b_call (hn) | exact b_call (hsp) | exact m_lenSl) | (show kLoad; first | exact b_loadRp | exact b_loadPtr) | (show kFieldaddr; first | exact b_fieldRp | exact b_fieldPtr) | (show kIndexaddr; exact m_indexSl) | (show kBinopSub; exact b_sub) | (show kBinopEql; exact b_eql) | (show kBinopNeq; exact b_neq) | (show kUnopNot; exact b_not) | (show kNilcheck; exact b_nilPtr) | (show kExtract; exact b_extract)) ?_)
        | (show lNil; refine al_nil ?_)
        | (show qSeq; first | refine n_seq ?_ | refine p_seq ?_)
        | (show qBlk; refine p_block ?_)
        | (show cReg; refine aw_reg ?_)
        | (show cSeq; refine aw_seq ?_)
        | (show cBlk; refine aw_block ?_)
        | (show cSkip; refine aw_skip ?_)
        | (show cRet; refine aw_ret ?_)
        | (show cIf; first | refine aw_T ?_ | refine aw_F ?_ | refine aw_ifD (fun h => ?_) (fun h => ?_) | refine aw_if (fun h => ?_) (fun h => ?_))
        | (show eRet; refine ret1 Tryd.results44 ?_)
        | (exfalso; omega))
      · have e : leftT (.seq x y) false = (.seq x y, false) := by simp only [leftT]; rw [if_neg (by simp), if_pos (by simpa using h)]
        rw [e]; exact ⟨rfl, _, rfl⟩
      · rename_i hh
        have e : leftT (.seq x y) false = altT (seqT (leftT x false).1 y (leftT x false).2).1 (leftT y (seqT (leftT x false).1 y (leftT x false).2).2).1 (leftT y (seqT (leftT x false).1 y (leftT x false).2).2).2 := by simp only [leftT]; rw [if_neg (by simp), if_neg (by simpa using hh)]
        rw [e]; exact ⟨rfl, _, rfl⟩
  | star a iha =>
    intro lg hsz
    cases lg with
    | true => exact stop _
    | false =>
      have hs := T.size_star a
      have hp := (T.star a).size_pos
      have ht : (at' (T.star a).enc (((T.star a).enc.length : Int) - 1)).op = 5 := T.top _
      have hn := nullable_c (.star a) (by omega)
      have h1 := iha false (by omega)
      have e1 : (T.star a).enc.take (((T.star a).enc.length : Int) - 1).toNat = a.enc := by
        have : (((T.star a).enc.length : Int) - 1).toNat = a.enc.length := by simp [T.enc]
        rw [this]; simp [T.enc]
      rw [← e1] at h1
      have h2 := rseq_c (leftT a false).1 (.star a) (leftT a false).2 (leftT_size _ _ (by omega)) (by omega)
      rw [rseqT_left] at h2
      have hlen : ((T.star a).enc.length : Int) = a.size + 1 := by have := hs; simp only [T.size] at this ⊢; omega
      simp only [List.map]
      refine acalls_by Tryd.func44 Tryd.ntmps44 ?_
      simp only [argFr]
      repeat' (first
        | (show lCall; first | refine k_callC h1 ?_ | refine k_callC h2 ?_)
        | (show lOp; refine op0 (by first | (show kAssign; exact b_assign) | (show kMove; exact b_move) | (show kCall; first | exact b_call (hn) | exact m_lenSl) | (show kLoad; first | exact b_loadRp | exact b_loadPtr) | (show kFieldaddr; first | exact b_fieldRp | exact b_fieldPtr) | (show kIndexaddr; exact m_indexSl) | (show kBinopSub; exact b_sub) | (show kBinopEql; exact b_eql) | (show kBinopNeq; exact b_neq) | (show kUnopNot; exact b_not) | (show kNilcheck; exact b_nilPtr) | (show kSlice; exact m_sliceSlH)) ?_)
        | (show lNil; refine al_nil ?_)
        | (show qSeq; first | refine n_seq ?_ | refine p_seq ?_)
        | (show qBlk; refine p_block ?_)
        | (show cReg; refine aw_reg ?_)
        | (show cSeq; refine aw_seq ?_)
        | (show cBlk; refine aw_block ?_)
        | (show cSkip; refine aw_skip ?_)
        | (show cRet; refine aw_ret ?_)
        | (show cIf; first | refine aw_T ?_ | refine aw_F ?_ | refine aw_ifD (fun h => ?_) (fun h => ?_))
        | (show eRet; refine ret1 Tryd.results44 ?_)
        | (exfalso; omega))
      have e : leftT (.star a) false = seqT (leftT a false).1 (.star a) (leftT a false).2 := by simp only [leftT]; rw [if_neg (by simp)]
      rw [e]; exact ⟨rfl, _, rfl⟩
  | emp =>
    intro lg hsz
    cases lg with
    | true => exact stop _
    | false =>
      have hn := nullable_c .emp (by omega)
      have hl1 : T.emp.enc.length = 1 := rfl
      have ht : (at' T.emp.enc ((T.emp.enc.length : Int) - 1)).op = 1 := T.top _
      simp only [List.map]
      refine acalls_by Tryd.func44 Tryd.ntmps44 ?_
      simp only [argFr]
      repeat' (first
        | (show lOp; refine op0 (by first | (show kAssign; exact b_assign) | (show kMove; exact b_move) | (show kCall; first | exact b_call (hn) | exact b_call (rone_c _) | exact m_lenSl) | (show kLoad; first | exact b_loadRp | exact b_loadPtr) | (show kFieldaddr; first | exact b_fieldRp | exact b_fieldPtr) | (show kIndexaddr; exact m_indexSl) | (show kBinopSub; exact b_sub) | (show kBinopEql; exact b_eql) | (show kBinopNeq; exact b_neq) | (show kUnopNot; exact b_not) | (show kNilcheck; exact b_nilPtr)) ?_)
        | (show lNil; refine al_nil ?_)
        | (show qSeq; refine n_seq ?_)
        | (show qBlk; refine n_block ?_)
        | (show cReg; refine aw_reg ?_)
        | (show cSeq; refine aw_seq ?_)
        | (show cBlk; refine aw_block ?_)
        | (show cSkip; refine aw_skip ?_)
        | (show cRet; refine aw_ret ?_)
        | (show cIf; refine aw_F ?_)
        | (show eRet; refine ret1 Tryd.results44 ?_))
      exact ⟨rfl, _, rfl⟩
  | none =>
    intro lg hsz
    cases lg with
    | true => exact stop _
    | false =>
      have hn := nullable_c .none (by omega)
      simp only [List.map]
      refine acalls_by Tryd.func44 Tryd.ntmps44 ?_
      simp only [argFr]
      repeat' (first
        | (show lOp; refine op0 (by first | (show kAssign; exact b_assign) | (show kMove; exact b_move) | (show kCall; exact b_call (hn)) | (show kLoad; exact b_loadPtr) | (show kFieldaddr; exact b_fieldPtr) | (show kBinopNeq; exact b_neq) | (show kUnopNot; exact b_not) | (show kNilcheck; exact b_nilPtr)) ?_)
        | (show lNil; refine al_nil ?_)
        | (show qSeq; first | refine n_seq ?_ | refine p_seq ?_)
        | (show cReg; refine aw_reg ?_)
        | (show cSeq; refine aw_seq ?_)
        | (show cSkip; refine aw_skip ?_)
        | (show cRet; refine aw_ret ?_)
        | (show cIf; first | refine aw_T ?_ | refine aw_F ?_)
        | (show eRet; refine ret1 Tryd.results44 ?_))
      exact ⟨rfl, _, rfl⟩
  | cls c =>
    intro lg hsz
    cases lg with
    | true => exact stop _
    | false =>
      have hn := nullable_c (.cls c) (by omega)
      simp only [List.map]
      refine acalls_by Tryd.func44 Tryd.ntmps44 ?_
      simp only [argFr]
      repeat' (first
        | (show lOp; refine op0 (by first | (show kAssign; exact b_assign) | (show kMove; exact b_move) | (show kCall; exact b_call (hn)) | (show kLoad; exact b_loadPtr) | (show kFieldaddr; exact b_fieldPtr) | (show kBinopNeq; exact b_neq) | (show kUnopNot; exact b_not) | (show kNilcheck; exact b_nilPtr)) ?_)
        | (show lNil; refine al_nil ?_)
        | (show qSeq; first | refine n_seq ?_ | refine p_seq ?_)
        | (show cReg; refine aw_reg ?_)
        | (show cSeq; refine aw_seq ?_)
        | (show cSkip; refine aw_skip ?_)
        | (show cRet; refine aw_ret ?_)
        | (show cIf; first | refine aw_T ?_ | refine aw_F ?_)
        | (show eRet; refine ret1 Tryd.results44 ?_))
      exact ⟨rfl, _, rfl⟩
end Go.AL
set_option linter.unusedVariables false
set_option linter.unusedSimpArgs false
namespace Go.AL
/-! ### 1. Star height -/
def T.ht : T → Nat
  | .seq a b => max a.ht b.ht | .alt a b => max a.ht b.ht | .star a => a.ht + 1 | _ => 0
theorem mkT_ht (t : T) (lg : Bool) : (mkT t lg).1.ht ≤ t.ht := by unfold mkT; split <;> simp [T.ht]
theorem seqT_ht : ∀ (x y : T) (lg : Bool), (seqT x y lg).1.ht ≤ max x.ht y.ht := by
  intro x
  induction x with
  | none => intro y lg; simp [seqT, T.ht]
  | emp => intro y lg; simp only [seqT]; split <;> simp [T.ht]
  | seq u v ihu ihv =>
    intro y lg
    simp only [seqT]
    split
    · simp [T.ht]
    · split
      · exact Nat.le_max_left ..
      · have h1 := ihu (seqT v y lg).1 (seqT v y lg).2
        have h2 := ihv y lg
        simp only [T.ht]; omega
  | cls c => intro y lg; simp only [seqT]; split <;> (try split) <;> first | exact mkT_ht _ _ | exact Nat.le_max_left .. | simp [T.ht]
  | alt a b => intro y lg; simp only [seqT]; split <;> (try split) <;> first | exact mkT_ht _ _ | exact Nat.le_max_left .. | simp [T.ht]
  | star a => intro y lg; simp only [seqT]; split <;> (try split) <;> first | exact mkT_ht _ _ | exact Nat.le_max_left .. | simp [T.ht]
theorem alts_ht (t : T) : ∀ s ∈ t.alts, s.ht ≤ t.ht := by
  induction t with
  | alt a b iha ihb =>
    intro s hs
    simp only [T.alts, List.mem_append] at hs
    rcases hs with h | h
    · have := iha s h; simp only [T.ht]; omega
    · have := ihb s h; simp only [T.ht]; omega
  | _ => intro s hs; simp [T.alts] at hs; subst hs; exact Nat.le_refl _
theorem dedT_mem : ∀ (r acc : List T) (s : T), s ∈ dedT r acc → s ∈ acc ∨ s ∈ r
  | [], acc, s, h => .inl h
  | p :: r, acc, s, h => by
    simp only [dedT] at h
    rcases dedT_mem r _ s h with h | h
    · split at h
      · rcases List.mem_append.1 h with h | h
        · exact .inl h
        · rw [List.mem_singleton.1 h]; exact .inr (List.mem_cons_self ..)
      · exact .inl h
    · exact .inr (List.mem_cons_of_mem _ h)
theorem joinT_ht (n : Nat) : ∀ l : List T, (∀ s ∈ l, s.ht ≤ n) → (joinT l).ht ≤ n
  | [], _ => by simp [joinT, T.ht]
  | [t], h => h t (List.mem_cons_self ..)
  | t :: u :: r, h => by
    have h1 := h t (List.mem_cons_self ..)
    have h2 := joinT_ht n (u :: r) (fun s hs => h s (List.mem_cons_of_mem _ hs))
    simp only [joinT, T.ht]; omega
theorem altT_ht (x y : T) (lg : Bool) : (altT x y lg).1.ht ≤ max x.ht y.ht := by
  unfold altT
  split
  · simp [T.ht]
  · refine Nat.le_trans (mkT_ht _ _) (joinT_ht _ _ fun s hs => ?_)
    rcases dedT_mem _ _ s hs with h | h
    · cases h
    · rcases List.mem_append.1 h with h | h
      · have := alts_ht x s h; omega
      · have := alts_ht y s h; omega
theorem leftT_ht (t : T) : ∀ lg, (leftT t lg).1.ht ≤ t.ht := by
  induction t with
  | alt x y ihx ihy =>
    intro lg; simp only [leftT]; split
    · simp [T.ht]
    · split
      · exact Nat.le_refl _
      · have h1 := altT_ht (leftT x false).1 (leftT y (leftT x false).2).1 (leftT y (leftT x false).2).2
        have h2 := ihx false
        have h3 := ihy (leftT x false).2
        simp only [T.ht]; omega
  | seq x y ihx ihy =>
    intro lg; simp only [leftT]; split
    · simp [T.ht]
    · split
      · exact Nat.le_refl _
      · have h1 := altT_ht (seqT (leftT x false).1 y (leftT x false).2).1 (leftT y (seqT (leftT x false).1 y (leftT x false).2).2).1 (leftT y (seqT (leftT x false).1 y (leftT x false).2).2).2
        have h2 := seqT_ht (leftT x false).1 y (leftT x false).2
        have h3 := ihx false
        have h4 := ihy (seqT (leftT x false).1 y (leftT x false).2).2
        simp only [T.ht]; omega
  | star a iha =>
    intro lg; simp only [leftT]; split
    · simp [T.ht]
    · have h1 := seqT_ht (leftT a false).1 (.star a) (leftT a false).2
      have h2 := iha false
      simp only [T.ht] at *; omega
  | emp => intro lg; simp [leftT, T.ht]
  | none => intro lg; simp [leftT]
  | cls c => intro lg; simp only [leftT]; split <;> simp [T.ht]
/-! ### 2. Expressions, rules -/
structure Nd where
  op : Int
  n : Int
  text : ByteArray
  cl : Cls
  deriving Inhabited, DecidableEq
abbrev nd (op n : Int) : Nd := ⟨op, n, ⟨#[]⟩, default⟩
def encNd (x : Nd) : List PV := [.lit (.int .i64 x.op), .lit (.int .i64 x.n), .lit (.string x.text), .lit (.bool false), .lit (.int .u64 x.cl.c0), .lit (.int .u64 x.cl.c1), .lit (.int .u64 x.cl.c2), .lit (.int .u64 x.cl.c3), .lit (.int .i64 0), .lit (.int .i64 0)]
abbrev expr (e : List Nd) : AV := .c (.p (.sl 10 (e.map encNd)))
structure Rl where
  name : ByteArray
  body : List Nd
  deriving Inhabited
def encRl (r : Rl) : List PV := [.lit (.string r.name), .lit (.slice none 0 0), .sl 10 (r.body.map encNd)]
def digB (n : Nat) : List UInt8 := if n < 10 then [UInt8.ofNat (48 + n)] else digB (n / 10) ++ [UInt8.ofNat (48 + n % 10)]
def nameOf (n : Nat) : ByteArray := (⟨#[82]⟩ : ByteArray) ++ ⟨(digB n).toArray⟩
abbrev top (e : List Nd) : Nd := at' e ((e.length : Int) - 1)
def madeE (e : List Nd) (err : Int) : List Nd × Int :=
  if err ≠ 0 then ([nd 0 0], err) else if e.length > 4096 then ([nd 0 0], 52) else (e, 0)
def rowE (e : List Nd) (op : Int) : Int × List Nd := if (top e).op = op then ((top e).n, e.take (e.length - 1)) else (1, e)
def catE (op : Int) (x y : List Nd) : List Nd :=
  (if op = 7 then rowE x 7 else (1, x)).2 ++ (rowE y op).2 ++ [nd op ((if op = 7 then rowE x 7 else (1, x)).1 + (rowE y op).1)]
def putE (op : Int) (x y : List Nd) (err : Int) : List Nd × Int := madeE (catE op x y) err
structure GS where
  err : Int
  lg : Bool
  rules : List Rl
abbrev askE (s : GS) (i : Int) : List Nd := [⟨4, 0, (at' s.rules i).name, default⟩]
def GS.setBody (s : GS) (i : Nat) (e : List Nd) : GS := ⟨s.err, s.lg, s.rules.set i ⟨(at' s.rules (i : Int)).name, e⟩⟩
def GS.put (s : GS) (op : Int) (x y : List Nd) : List Nd × GS := ((putE op x y s.err).1, ⟨(putE op x y s.err).2, s.lg, s.rules⟩)
def GS.begunR (s : GS) : Nat × GS := (s.rules.length, ⟨if s.err = 0 ∧ s.rules.length ≥ 256 then 51 else s.err, s.lg, s.rules ++ [⟨nameOf s.rules.length, []⟩]⟩)
def GS.begunP (s : GS) : Nat × GS := if s.rules.length ≥ 256 then (0, ⟨if s.err = 0 then 51 else s.err, s.lg, s.rules⟩) else (s.rules.length, ⟨s.err, s.lg, s.rules ++ [⟨nameOf s.rules.length, []⟩]⟩)
/-- The rule that 'k' is laid into, ahead of a choice. -/
def GS.sharedR (s : GS) (k : List Nd) : List Nd × GS :=
  if (top k).op = 4 then (k, s) else (askE (s.begunR.2.setBody s.begunR.1 k) s.begunR.1, s.begunR.2.setBody s.begunR.1 k)
def GS.sharedP (s : GS) (k : List Nd) : List Nd × GS :=
  if (top k).op = 4 then (k, s) else (askE (s.begunP.2.setBody s.begunP.1 k) s.begunP.1, s.begunP.2.setBody s.begunP.1 k)
theorem ht_lt {a b : T} (h1 : a.ht ≤ b.ht) (h2 : a.size < b.size) : Prod.Lex (· < ·) (· < ·) (a.ht, a.size) (b.ht, b.size) := by
  rcases Nat.lt_or_ge a.ht b.ht with h | h
  · exact .left _ _ h
  · have : a.ht = b.ht := by omega
    rw [this]; exact .right _ h2
def wayR (t : T) (k : List Nd) (s : GS) : List Nd × GS :=
  if s.err ≠ 0 then ([nd 0 0], s) else
  match t with
  | .emp => (k, s)
  | .none => ([nd 2 0], s)
  | .cls c => s.put 6 [⟨2, 0, ⟨#[]⟩, c⟩] k
  | .seq x y => wayR x (wayR y k s).1 (wayR y k s).2
  | .alt x y =>
    let p := s.sharedR k
    let a := wayR x p.1 p.2
    let b := wayR y p.1 a.2
    b.2.put 7 a.1 b.1
  | .star a =>
    if (leftT a false).2 = true then (k, ⟨52, s.lg, s.rules⟩)
    else if (leftT a false).1.op = 0 then (k, s)
    else
      let r := wayR (leftT a false).1 (askE s.begunR.2 s.begunR.1) s.begunR.2
      let e := r.2.put 7 r.1 k
      (askE (e.2.setBody s.begunR.1 e.1) s.begunR.1, e.2.setBody s.begunR.1 e.1)
termination_by (t.ht, t.size)
decreasing_by
  · exact ht_lt (by simp only [T.ht]; omega) (by rw [T.size_seq]; omega)
  · exact ht_lt (by simp only [T.ht]; omega) (by rw [T.size_seq]; omega)
  · exact ht_lt (by simp only [T.ht]; omega) (by rw [T.size_alt]; omega)
  · exact ht_lt (by simp only [T.ht]; omega) (by rw [T.size_alt]; omega)
  · exact .left _ _ (by have := leftT_ht a false; simp only [T.ht]; omega)
def wayP (t : T) (k : List Nd) (s : GS) : List Nd × GS :=
  if s.err ≠ 0 then (k, s) else
  match t with
  | .emp => (k, s)
  | .none => ([nd 2 0], s)
  | .cls c => s.put 6 [⟨2, 0, ⟨#[]⟩, c⟩] k
  | .seq x y => wayP x (wayP y k s).1 (wayP y k s).2
  | .alt x y =>
    let p := s.sharedP k
    let a := wayP x p.1 p.2
    let b := wayP y p.1 a.2
    b.2.put 7 a.1 b.1
  | .star a =>
    if (leftT a false).2 = true then (k, ⟨52, true, s.rules⟩)
    else if (leftT a false).1.op = 0 then (k, ⟨s.err, false, s.rules⟩)
    else
      let r := wayP (leftT a false).1 (askE s.begunP.2 s.begunP.1) s.begunP.2
      let e := r.2.put 7 r.1 k
      (askE s.begunP.2 s.begunP.1, e.2.setBody s.begunP.1 e.1)
termination_by (t.ht, t.size)
decreasing_by
  · exact ht_lt (by simp only [T.ht]; omega) (by rw [T.size_seq]; omega)
  · exact ht_lt (by simp only [T.ht]; omega) (by rw [T.size_seq]; omega)
  · exact ht_lt (by simp only [T.ht]; omega) (by rw [T.size_alt]; omega)
  · exact ht_lt (by simp only [T.ht]; omega) (by rw [T.size_alt]; omega)
  · exact .left _ _ (by have := leftT_ht a false; simp only [T.ht]; omega)
/-! ### 3. Expressions that are made are small, and their last nodes' numbers are no more than their nodes -/
def okE (e : List Nd) : Prop := 0 < e.length ∧ e.length ≤ 4096 ∧ 0 ≤ (top e).n ∧ (top e).n + 1 ≤ e.length
theorem top_snoc (a : List Nd) (x : Nd) : top (a ++ [x]) = x := by
  have := at'_last a x []
  simp only [top, List.length_append, List.length_cons, List.length_nil]
  rw [show (((a.length + (0 + 1) : Nat) : Int) - 1) = (a.length : Int) by omega]; exact this
theorem okE_one (x : Nd) (h : x.n = 0) : okE [x] := by
  have := top_snoc [] x
  rw [List.nil_append] at this
  refine ⟨by simp, by simp, by rw [this, h]; exact Int.le_refl 0, by rw [this, h]; simp⟩
theorem rowE_ok {e : List Nd} (op : Int) (h : okE e) : 0 ≤ (rowE e op).1 ∧ (rowE e op).1 ≤ (rowE e op).2.length ∧ (rowE e op).2.length ≤ e.length := by
  obtain ⟨h1, h2, h3, h4⟩ := h
  unfold rowE
  split
  · simp only [List.length_take]; omega
  · simp only; omega
theorem catE_ok {op : Int} {x y : List Nd} (hx : okE x) (hy : okE y) : 0 < (catE op x y).length ∧ (catE op x y).length ≤ 8193 ∧ 0 ≤ (top (catE op x y)).n ∧ (top (catE op x y)).n + 1 ≤ (catE op x y).length := by
  have h1 := rowE_ok 7 hx
  have h2 := rowE_ok op hy
  have hx2 := hx.2.1
  have hx1 := hx.1
  have hy2 := hy.2.1
  simp only [catE, top_snoc, List.length_append, List.length_cons, List.length_nil, nd]
  split
  · omega
  · dsimp only; omega
theorem madeE_ok {e : List Nd} {err : Int} (h : 0 < e.length) (h1 : 0 ≤ (top e).n) (h2 : (top e).n + 1 ≤ e.length) : okE (madeE e err).1 := by
  unfold madeE
  split
  · exact okE_one _ rfl
  · split
    · exact okE_one _ rfl
    · exact ⟨h, by simp only; omega, h1, h2⟩
theorem put_ok {s : GS} {op : Int} {x y : List Nd} (hx : okE x) (hy : okE y) : okE (s.put op x y).1 := by
  have := catE_ok (op := op) hx hy
  exact madeE_ok this.1 this.2.2.1 this.2.2.2
theorem ask_ok (s : GS) (i : Int) : okE (askE s i) := okE_one _ rfl
theorem sharedR_ok {s : GS} {k : List Nd} (h : okE k) : okE (s.sharedR k).1 := by
  unfold GS.sharedR; split
  · exact h
  · exact ask_ok _ _
theorem sharedP_ok {s : GS} {k : List Nd} (h : okE k) : okE (s.sharedP k).1 := by
  unfold GS.sharedP; split
  · exact h
  · exact ask_ok _ _
theorem wayR_ok (t : T) (k : List Nd) (s : GS) (h : okE k) : okE (wayR t k s).1 := by
  induction t, k, s using wayR.induct with
  | case1 t k s he => rw [wayR.eq_def, if_pos he]; exact okE_one _ rfl
  | case2 k s he => rw [wayR, if_neg he]; exact h
  | case3 k s he => rw [wayR, if_neg he]; exact okE_one _ rfl
  | case4 k s he c => rw [wayR, if_neg he]; exact put_ok (okE_one _ rfl) h
  | case5 k s he x y ih1 ih2 => rw [wayR, if_neg he]; exact ih2 (ih1 h)
  | case6 k s he x y p a ih1 ih2 ih3 => rw [wayR, if_neg he]; exact put_ok (ih1 (sharedR_ok h)) (ih3 (sharedR_ok h))
  | case7 k s he a hl => rw [wayR, if_neg he]; simp only; rw [if_pos hl]; exact h
  | case8 k s he a hl h0 => rw [wayR, if_neg he]; simp only; rw [if_neg hl, if_pos h0]; exact h
  | case9 k s he a hl h0 ih => rw [wayR, if_neg he]; simp only; rw [if_neg hl, if_neg h0]; exact ask_ok _ _
theorem wayP_ok (t : T) (k : List Nd) (s : GS) (h : okE k) : okE (wayP t k s).1 := by
  induction t, k, s using wayP.induct with
  | case1 t k s he => rw [wayP.eq_def, if_pos he]; exact h
  | case2 k s he => rw [wayP, if_neg he]; exact h
  | case3 k s he => rw [wayP, if_neg he]; exact okE_one _ rfl
  | case4 k s he c => rw [wayP, if_neg he]; exact put_ok (okE_one _ rfl) h
  | case5 k s he x y ih1 ih2 => rw [wayP, if_neg he]; exact ih2 (ih1 h)
  | case6 k s he x y p a ih1 ih2 ih3 => rw [wayP, if_neg he]; exact put_ok (ih1 (sharedP_ok h)) (ih3 (sharedP_ok h))
  | case7 k s he a hl => rw [wayP, if_neg he]; simp only; rw [if_pos hl]; exact h
  | case8 k s he a hl h0 => rw [wayP, if_neg he]; simp only; rw [if_neg hl, if_pos h0]; exact h
  | case9 k s he a hl h0 ih => rw [wayP, if_neg he]; simp only; rw [if_neg hl, if_neg h0]; exact ask_ok _ _
/-! ### 4. Rules: how many there are -/
def GS.ok (s : GS) : Prop := (s.err = 0 → s.rules.length ≤ 256) ∧ s.rules.length ≤ 257
theorem put_rules (s : GS) (op : Int) (x y : List Nd) : (s.put op x y).2.rules = s.rules := rfl
theorem putE_err0 {op : Int} {x y : List Nd} {err : Int} (h : (putE op x y err).2 = 0) : err = 0 := by
  unfold putE madeE at h; split at h
  · rename_i h1; exact absurd h h1
  · rename_i h1; omega
theorem putE_stop {op : Int} {x y : List Nd} {err : Int} (h : err ≠ 0) : putE op x y err = ([nd 0 0], err) := by
  unfold putE madeE; rw [if_pos h]
theorem put_G {s : GS} {op : Int} {x y : List Nd} (h : s.ok) : (s.put op x y).2.ok := ⟨fun h0 => h.1 (putE_err0 h0), h.2⟩
theorem setBody_len (s : GS) (i : Nat) (e : List Nd) : (s.setBody i e).rules.length = s.rules.length := by simp [GS.setBody]
theorem setBody_G {s : GS} {i : Nat} {e : List Nd} (h : s.ok) : (s.setBody i e).ok := ⟨fun h0 => by rw [setBody_len]; exact h.1 h0, by rw [setBody_len]; exact h.2⟩
theorem begunR_len (s : GS) : s.begunR.2.rules.length = s.rules.length + 1 := by simp [GS.begunR]
theorem begunR_G {s : GS} (h : s.ok) (h0 : s.err = 0) : s.begunR.2.ok := by
  have := h.1 h0
  refine ⟨fun h1 => ?_, by rw [begunR_len]; omega⟩
  rw [begunR_len]
  simp only [GS.begunR] at h1
  split at h1
  · cases h1
  · omega
theorem sharedR_G {s : GS} {k : List Nd} (h : s.ok) (h0 : s.err = 0) : (s.sharedR k).2.ok ∧ s.rules.length ≤ (s.sharedR k).2.rules.length := by
  unfold GS.sharedR; split
  · exact ⟨h, Nat.le_refl _⟩
  · exact ⟨setBody_G (begunR_G h h0), by rw [setBody_len, begunR_len]; omega⟩
theorem wayR_G (t : T) (k : List Nd) (s : GS) (h : s.ok) : (wayR t k s).2.ok ∧ s.rules.length ≤ (wayR t k s).2.rules.length := by
  induction t, k, s using wayR.induct with
  | case1 t k s he => rw [wayR.eq_def, if_pos he]; exact ⟨h, Nat.le_refl _⟩
  | case2 k s he => rw [wayR, if_neg he]; exact ⟨h, Nat.le_refl _⟩
  | case3 k s he => rw [wayR, if_neg he]; exact ⟨h, Nat.le_refl _⟩
  | case4 k s he c => rw [wayR, if_neg he]; exact ⟨put_G h, Nat.le_refl _⟩
  | case5 k s he x y ih1 ih2 =>
    rw [wayR, if_neg he]
    have h1 := ih1 h
    have h2 := ih2 h1.1
    exact ⟨h2.1, Nat.le_trans h1.2 h2.2⟩
  | case6 k s he x y p a ih1 ih2 ih3 =>
    rw [wayR, if_neg he]
    have h0 := sharedR_G (k := k) h (by omega)
    have h1 := ih1 h0.1
    have h2 := ih3 h1.1
    exact ⟨put_G h2.1, Nat.le_trans h0.2 (Nat.le_trans h1.2 h2.2)⟩
  | case7 k s he a hl => rw [wayR, if_neg he]; simp only; rw [if_pos hl]; exact ⟨⟨fun h0 => by simp at h0, h.2⟩, Nat.le_refl _⟩
  | case8 k s he a hl h0 => rw [wayR, if_neg he]; simp only; rw [if_neg hl, if_pos h0]; exact ⟨h, Nat.le_refl _⟩
  | case9 k s he a hl h0 ih =>
    rw [wayR, if_neg he]; simp only; rw [if_neg hl, if_neg h0]
    have h1 := ih (begunR_G h (by omega))
    refine ⟨setBody_G (put_G h1.1), ?_⟩
    rw [setBody_len, put_rules]
    exact Nat.le_trans (by rw [begunR_len]; omega) h1.2
/-! ### 5. The same of the program's -/
structure GS.okP (s : GS) : Prop where
  le : s.rules.length ≤ 256
  pos : 0 < s.rules.length
  lg : s.err = 0 → s.lg = false
theorem put_P {s : GS} {op : Int} {x y : List Nd} (h : s.okP) : (s.put op x y).2.okP := ⟨h.le, h.pos, fun h0 => h.lg (putE_err0 h0)⟩
theorem setBody_P {s : GS} {i : Nat} {e : List Nd} (h : s.okP) : (s.setBody i e).okP := ⟨by rw [setBody_len]; exact h.le, by rw [setBody_len]; exact h.pos, h.lg⟩
theorem begunP_P {s : GS} (h : s.okP) : s.begunP.2.okP ∧ s.rules.length ≤ s.begunP.2.rules.length ∧ s.begunP.1 < s.begunP.2.rules.length := by
  have := h.pos
  unfold GS.begunP; split
  · refine ⟨⟨h.le, h.pos, fun h0 => h.lg ?_⟩, Nat.le_refl _, h.pos⟩
    simp only at h0
    split at h0
    · cases h0
    · exact h0
  · refine ⟨⟨by simp; omega, by simp, h.lg⟩, by simp, by simp⟩
theorem sharedP_P {s : GS} {k : List Nd} (h : s.okP) : (s.sharedP k).2.okP ∧ s.rules.length ≤ (s.sharedP k).2.rules.length := by
  unfold GS.sharedP; split
  · exact ⟨h, Nat.le_refl _⟩
  · exact ⟨setBody_P (begunP_P h).1, by rw [setBody_len]; exact (begunP_P h).2.1⟩
theorem wayP_P (t : T) (k : List Nd) (s : GS) (h : s.okP) : (wayP t k s).2.okP ∧ s.rules.length ≤ (wayP t k s).2.rules.length := by
  induction t, k, s using wayP.induct with
  | case1 t k s he => rw [wayP.eq_def, if_pos he]; exact ⟨h, Nat.le_refl _⟩
  | case2 k s he => rw [wayP, if_neg he]; exact ⟨h, Nat.le_refl _⟩
  | case3 k s he => rw [wayP, if_neg he]; exact ⟨h, Nat.le_refl _⟩
  | case4 k s he c => rw [wayP, if_neg he]; exact ⟨put_P h, Nat.le_refl _⟩
  | case5 k s he x y ih1 ih2 =>
    rw [wayP, if_neg he]
    have h1 := ih1 h
    have h2 := ih2 h1.1
    exact ⟨h2.1, Nat.le_trans h1.2 h2.2⟩
  | case6 k s he x y p a ih1 ih2 ih3 =>
    rw [wayP, if_neg he]
    have h0 := sharedP_P (k := k) h
    have h1 := ih1 h0.1
    have h2 := ih3 h1.1
    exact ⟨put_P h2.1, Nat.le_trans h0.2 (Nat.le_trans h1.2 h2.2)⟩
  | case7 k s he a hl => rw [wayP, if_neg he]; simp only; rw [if_pos hl]; exact ⟨⟨h.le, h.pos, fun h0 => by simp at h0⟩, Nat.le_refl _⟩
  | case8 k s he a hl h0 => rw [wayP, if_neg he]; simp only; rw [if_neg hl, if_pos h0]; exact ⟨⟨h.le, h.pos, fun _ => rfl⟩, Nat.le_refl _⟩
  | case9 k s he a hl h0 ih =>
    rw [wayP, if_neg he]; simp only; rw [if_neg hl, if_neg h0]
    have hb := begunP_P h
    have h1 := ih hb.1
    refine ⟨setBody_P (put_P h1.1), ?_⟩
    rw [setBody_len, put_rules]
    exact Nat.le_trans hb.2.1 h1.2
end Go.AL
set_option linter.unusedVariables false
namespace Go.AL
open Go.Proofs
set_option maxRecDepth 10000
attribute [local irreducible] AWp AList RStep seqQ blockQ retQ DSteps DT awR rQ
abbrev str (s : ByteArray) : AV := .c (.p (.lit (.string s)))
theorem digB_len (n : Nat) : (digB n).length ≤ n + 1 := by
  induction n using Nat.strongRecOn with
  | _ n ih =>
    rw [digB]
    split
    · simp
    · have := ih (n / 10) (by omega)
      simp; omega
theorem u8_of {n : Nat} (h : n < 256) : ((UInt8.ofNat n).toNat : Int) = n := by
  simp [UInt8.toNat_ofNat]; omega
theorem ba_append (a b : List UInt8) : (⟨a.toArray⟩ : ByteArray) ++ ⟨b.toArray⟩ = ⟨(a ++ b).toArray⟩ := by
  apply ByteArray.ext
  simp
theorem digits_c (n : Nat) (h : n ≤ 10000) : ACalls Tryd.prog 60 [i64 n] [] (fun x _ => x = .ret (str ⟨(digB n).toArray⟩)) := by
  induction n using Nat.strongRecOn with
  | _ n ih =>
    have e1 : (n : Int).tdiv 10 = ((n / 10 : Nat) : Int) := rfl
    have e2 : (n : Int).tmod 10 = ((n % 10 : Nat) : Int) := rfl
    have hc : ¬ n < 10 → ACalls Tryd.prog 60 [i64 ((n : Int).tdiv 10)] [] (fun x _ => x = .ret (str ⟨(digB (n / 10)).toArray⟩)) := fun hn => ih (n / 10) (by omega) (by omega)
    have hl := digB_len (n / 10)
    have z1 : n < 10 → [48 + (n : Int)] = [UInt8.ofNat (48 + n)].map fun b => (b.toNat : Int) := fun hn => by
      simp only [List.map_cons, List.map_nil]; rw [u8_of (by omega)]; rfl
    have z2 : [48 + (n : Int).tmod 10] = [UInt8.ofNat (48 + n % 10)].map fun b => (b.toNat : Int) := by
      simp only [List.map_cons, List.map_nil]; rw [u8_of (by omega), e2]; rfl
    have z3 : StrFit ⟨(digB (n / 10)).toArray⟩ ⟨[UInt8.ofNat (48 + n % 10)].toArray⟩ := by
      constructor; simp only [ByteArray.size, List.size_toArray, List.length_cons, List.length_nil]; omega
    have z4 : InR ((n : Int).tdiv 10) := by unfold InR; omega
    have z5 : InR ((n : Int).tmod 10) := by unfold InR; omega
    have hx0 : 0 ≤ (n : Int) ∧ (n : Int) ≤ 10000 := by omega
    have hx1 : n < 10 ↔ (n : Int) < 10 := by omega
    have hx2 : 0 ≤ (n : Int).tmod 10 ∧ (n : Int).tmod 10 < 10 := by omega
    generalize (n : Int) = x at *
    by_cases hn : n < 10
    · skip
      refine acalls_by Tryd.func60 Tryd.ntmps60 ?_
      simp only [argFr]
      repeat' (first
        | (show lOp; refine op0 (by first | (show kAssign; exact b_assign) | (show kMove; exact b_move) | (show kBinopAdd; exact b_add) | (show kBinopLss; exact b_lss) | (show kConvert; first | exact b_bytesStr' (z1 hn) Tryd.underlying111 Tryd.underlying5 Tryd.underlying9 (by simp) | exact b_convU8 (congrArg Option.isSome Tryd.underlying3) Tryd.underlying5) | (show kBuildslice; exact b_buildSl1)) ?_)
        | (show lNil; refine al_nil ?_)
        | (show qSeq; first | refine n_seq ?_ | refine p_seq ?_)
        | (show cReg; refine aw_reg ?_)
        | (show cSeq; refine aw_seq ?_)
        | (show cSkip; refine aw_skip ?_)
        | (show cRet; refine aw_ret ?_)
        | (show cIf; refine aw_ifD (fun h => ?_) (fun h => ?_))
        | (show cRegD; refine aw_drN Tryd_mixed ?_)
        | (show dOp; refine ds_op (by (show kMove; exact b_move)) ?_)
        | (show eRet; refine ret1 Tryd.results60 ?_)
        | (exfalso; omega))
      rw [digB, if_pos hn]
    · skip
      refine acalls_by Tryd.func60 Tryd.ntmps60 ?_
      simp only [argFr]
      repeat' (first
        | (show lOp; refine op0 (by first | (show kAssign; exact b_assign) | (show kMove; exact b_move) | (show kBinopAdd; exact b_add) | (show kBinopLss; exact b_lss) | (show kConvert; exact b_convU8 (congrArg Option.isSome Tryd.underlying3) Tryd.underlying5) | (show kBuildslice; exact b_buildSl1)) ?_)
        | (show lNil; refine al_nil ?_)
        | (show qSeq; refine n_seq ?_)
        | (show cReg; refine aw_reg ?_)
        | (show cSeq; refine aw_seq ?_)
        | (show cSkip; refine aw_skip ?_)
        | (show cRet; refine aw_ret ?_)
        | (show cIf; refine aw_ifD (fun h => ?_) (fun h => ?_))
        | (show cRegD; refine aw_drN Tryd_mixed ?_)
        | (show dOp; refine ds_op (by first | (show kMove; exact b_move) | (show kCall; exact b_call (hc hn)) | (show kBinopAdd; first | exact b_strAdd z3 | exact b_add) | (show kConvert; first | exact b_bytesStr' z2 Tryd.underlying111 Tryd.underlying5 Tryd.underlying9 (by simp) | exact b_convU8 (congrArg Option.isSome Tryd.underlying3) Tryd.underlying5) | (show kBinopQuo; exact b_quo (by decide) z4) | (show kBinopRem; exact b_rem (by decide) z5) | (show kBuildslice; exact b_buildSl1)) ?_)
        | (show dNil; refine ds_nil ?_)
        | (show eRet; refine ret1 Tryd.results60 ?_)
        | (exfalso; omega))
      rw [digB.eq_def n, if_neg hn, ba_append]
abbrev err1 (e : Int) : List PV := [.lit (.int .i64 e)]
theorem rgmade_c (e : List Nd) (err : Int) (h : e.length ≤ 1000000) : ACalls Tryd.prog 59 [.c (.ptr 0 0), expr e] [.cells ((err1 err).map .p)] (fun r σ' => r = .ret (expr (madeE e err).1) ∧ ∃ gb, σ' = .cells ((err1 (madeE e err).2).map .p) :: gb) := by
  simp only [List.map]
  refine acalls_by Tryd.func59 Tryd.ntmps59 ?_
  simp only [argFr]
  repeat' (first
    | (show lStore; refine k_store ?_)
    | (show lOp; refine op0 (by first | (show kAssign; exact b_assign) | (show kMove; exact b_move) | (show kCall; exact m_lenSl) | (show kLoad; exact b_loadPtr) | (show kFieldaddr; exact b_fieldPtr) | (show kBinopEql; exact b_eql) | (show kBinopNeq; exact b_neq) | (show kBinopGtr; exact b_gtr) | (show kPick; first | exact b_pickT | exact b_pickF) | (show kNilcheck; exact b_nilPtr) | (show kBuild; exact b_buildSt) | (show kBuildslice; exact b_buildSl1)) ?_)
    | (show lGu; first | refine al_yes ?_ | refine al_none ?_ | refine al_splitD (fun h => ?_) (fun h => ?_))
    | (show lNil; refine al_nil ?_)
    | (show qSeq; first | refine n_seq ?_ | refine p_seq ?_)
    | (show cReg; refine aw_reg ?_)
    | (show cSeq; refine aw_seq ?_)
    | (show cSkip; refine aw_skip ?_)
    | (show cRet; refine aw_ret ?_)
    | (show cIf; first | refine aw_T ?_ | refine aw_F ?_ | refine aw_ifD (fun h => ?_) (fun h => ?_))
    | (show eRet; refine ret1 Tryd.results59 ?_))
  · rw [madeE, if_neg (by omega), if_pos (by omega)]; exact ⟨rfl, [], rfl⟩
  · rw [madeE, if_pos h]; exact ⟨rfl, [], rfl⟩
  · rw [madeE, if_pos h]; exact ⟨rfl, [], rfl⟩
  · rw [madeE, if_neg h, if_neg (by omega)]
    have : err = 0 := by omega
    subst this
    exact ⟨rfl, [], rfl⟩
theorem asked_c (err : Int) (lg : Bool) (rs : List Rl) (i : Int) (h0 : 0 ≤ i) (h1 : i < rs.length) : ACalls Tryd.prog 42 [.c (.ptr 0 0), i64 i] [.cells (bC (err1 err) 1 rs.length []), .arr 52 3 (rs.map encRl)] (fun r σ' => r = .ret (expr (askE ⟨err, lg, rs⟩ i)) ∧ BEnd [] 1 (err1 err) rs.length [] 52 3 (rs.map encRl) σ') := by
  refine acalls_by Tryd.func42 Tryd.ntmps42 ?_
  simp only [argFr]
  repeat' (first
    | (show lOp; refine op0 (by first | (show kAssign; exact b_assign) | (show kMove; exact b_move) | (show kLoad; first | exact b_loadPtr | exact m_loadEpt) | (show kFieldaddr; first | exact b_fieldPtr | exact b_fieldEpt) | (show kIndexaddr; exact m_indexMs) | (show kNilcheck; exact b_nilPtr) | (show kBuild; exact b_buildSt) | (show kBuildslice; exact b_buildSl1)) ?_)
    | (show lNil; refine al_nil ?_)
    | (show qSeq; refine n_seq ?_)
    | (show cReg; refine aw_reg ?_)
    | (show cSeq; refine aw_seq ?_)
    | (show cRet; refine aw_ret ?_)
    | (show eRet; refine ret1 Tryd.results42 ?_))
  exact ⟨rfl, [], 1, rfl, rfl⟩
theorem rbegun_c (s : GS) (h : s.rules.length ≤ 5000) : ACalls Tryd.prog 41 [.c (.ptr 0 0)] [.cells (bC (err1 s.err) 1 s.rules.length []), .arr 52 3 (s.rules.map encRl)] (fun r σ' => r = .ret (i64 s.begunR.1) ∧ BEnd [] 1 (err1 s.begunR.2.err) s.begunR.2.rules.length [] 52 3 (s.begunR.2.rules.map encRl) σ') := by
  have hd := digits_c s.rules.length (by omega)
  have hl := digB_len s.rules.length
  have hf : StrFit ⟨#[82]⟩ ⟨(digB s.rules.length).toArray⟩ := by
    constructor; simp only [ByteArray.size, List.size_toArray]; simp; omega
  refine acalls_by Tryd.func41 Tryd.ntmps41 ?_
  simp only [argFr]
  repeat' (first
    | (show cAtD 3; refine' aw_dt 15 14 _ Tryd_mixed _)
    | (show lStore; refine k_store ?_)
    | (show lOp; refine op0 (by first | (show kAssign; exact b_assign) | (show kMove; exact b_move) | (show kCall; exact b_lenMs) | (show kLoad; exact b_loadPtr) | (show kFieldaddr; exact b_fieldPtr) | (show kBinopSub; exact b_sub) | (show kBinopEql; exact b_eql) | (show kBinopGeq; exact b_geq) | (show kPick; first | exact b_pickT | exact b_pickF) | (show kNilcheck; exact b_nilPtr)) ?_)
    | (show lGu; first | refine al_yes ?_ | refine al_none ?_ | refine al_splitD (fun h => ?_) (fun h => ?_))
    | (show lNil; refine al_nil ?_)
    | (show qSeq; refine n_seq ?_)
    | (show cReg; refine aw_reg ?_)
    | (show cSeq; refine aw_seq ?_)
    | (show cSkip; refine aw_skip ?_)
    | (show cRet; refine aw_ret ?_)
    | (show cIf; first | refine aw_F ?_ | refine aw_ifD (fun h => ?_) (fun h => ?_))
    | (show tNil; refine dt_nil ?_)
    | (show tSome; first | refine dt_turn (by exact t_app1 (f := encRl) (⟨nameOf s.rules.length, []⟩ : Rl)) ?_ | (refine dt_pre (by first | (show kMove; exact b_move) | (show kCall; first | exact b_call (hd) | exact b_lenMs) | (show kLoad; exact b_loadPtr) | (show kFieldaddr; exact b_fieldPtr) | (show kBinopAdd; exact b_strAdd hf) | (show kNilcheck; exact b_nilPtr) | (show kBuild; exact b_buildSt) | (show kBuildslice; exact b_nilS 2 10 b_buildSl1)) (by decide +kernel) ?_) | (refine dt_pre2 (by (show kMove; exact b_move)) (by (show kMove; exact b_move)) ?_))
    | (show eRet; refine ret1 Tryd.results41 ?_))
  all_goals
    first
      | have e : s.begunR = (s.rules.length, ⟨51, s.lg, s.rules ++ [⟨nameOf s.rules.length, []⟩]⟩) := by simp only [GS.begunR]; rw [if_pos ⟨by assumption, by omega⟩]
      | have e : s.begunR = (s.rules.length, ⟨s.err, s.lg, s.rules ++ [⟨nameOf s.rules.length, []⟩]⟩) := by simp only [GS.begunR]; rw [if_neg (by omega)]
    rw [e, List.take_of_length_le (Nat.le_refl _)]
    refine ⟨by simp, [.dead], 2, rfl, ?_⟩
    rw [List.length_append]
    rfl
end Go.AL
