/-
  Part 4 of the proof: what the functions that the law reaches come to.
-/
import Derived.Ground.Names2Prog
import Derived.Shelf.Slices.Cells
import Derived.Shelf.Slices.CompactI
import Derived.Shelf.Slices.In.SortNone
import Derived.Shelf.Small.Strs
import Derived.Shelf.Small.Utf8
import Derived.Shelf.Small.Wraps
import Derived.Shelf.Sort.Plain
import Derived.Shelf.Strings.AsciiSet
import Derived.Shelf.Strings.IndexAny
import Derived.Shelf.Strings.IndexAnyAll
import Derived.Shelf.Strings.Prefix
import Derived.Shelf.Strings.Runes
import Derived.Shelf.Strings.Search1
import Derived.Test.YtkiepfhcnicfgaaGreatPart3
set_option linter.all false
set_option maxRecDepth 100000
set_option maxHeartbeats 8000000
namespace Go.AL
open Go.Proofs
instance : TV Tryz.prog 3 false 1 := TV.of Tryz.underlying3 rfl (by kernel_rfl) (by decide) (by decide)
instance : TZ Tryz.prog 3 (.int .i64 0) := TZ.of (by kernel_rfl) (by kernel_rfl)
instance : TV Tryz.prog 4 false 1 := TV.of Tryz.underlying4 rfl (by kernel_rfl) (by decide) (by decide)
instance : TZ Tryz.prog 4 (.bool false) := TZ.of (by kernel_rfl) (by kernel_rfl)
instance : TV Tryz.prog 9 false 1 := TV.of Tryz.underlying9 rfl (by kernel_rfl) (by decide) (by decide)
instance : TStr Tryz.prog 9 := ⟨Tryz.underlying9⟩
instance : TSl Tryz.prog 22 57 2 40 := TSl.of Tryz.underlying22 (by kernel_rfl) (by decide)
instance : TV Tryz.prog 22 false 1 := TV.of Tryz.underlying22 rfl (by kernel_rfl) (by decide) (by decide)
instance : TV Tryz.prog 24 true 2 := TV.of Tryz.underlying24 rfl (by kernel_rfl) (by decide) (by decide)
instance : TZ Tryz.prog 24 (.agg #[.slice none 0 0, .int .i64 0]) := TZ.of (by kernel_rfl) (by kernel_rfl)
instance : TF Tryz.prog 24 0 0 22 := ⟨⟨_, _, Tryz.underlying24, rfl, rfl, rfl⟩⟩
instance : TF Tryz.prog 24 1 1 3 := ⟨⟨_, _, Tryz.underlying24, rfl, rfl, rfl⟩⟩
instance : TSt Tryz.prog 24 [(0, 1), (1, 1)] := TSt.of Tryz.underlying24 (by kernel_rfl) (by kernel_rfl)
instance : TV Tryz.prog 26 true 2 := TV.of Tryz.underlying26 rfl (by kernel_rfl) (by decide) (by decide)
instance : TZ Tryz.prog 26 (.agg #[.int .i64 0, .int .i64 0]) := TZ.of (by kernel_rfl) (by kernel_rfl)
instance : TF Tryz.prog 26 0 0 3 := ⟨⟨_, _, Tryz.underlying26, rfl, rfl, rfl⟩⟩
instance : TF Tryz.prog 26 1 1 3 := ⟨⟨_, _, Tryz.underlying26, rfl, rfl, rfl⟩⟩
instance : TSt Tryz.prog 26 [(0, 1), (1, 1)] := TSt.of Tryz.underlying26 (by kernel_rfl) (by kernel_rfl)
instance : TSl Tryz.prog 29 65 2 16 := TSl.of Tryz.underlying29 (by kernel_rfl) (by decide)
instance : TV Tryz.prog 29 false 1 := TV.of Tryz.underlying29 rfl (by kernel_rfl) (by decide) (by decide)
instance : TZ Tryz.prog 29 (.slice none 0 0) := TZ.of (by kernel_rfl) (by kernel_rfl)
instance : TSl Tryz.prog 32 3 1 8 := TSl.of Tryz.underlying32 (by kernel_rfl) (by decide)
instance : TV Tryz.prog 32 false 1 := TV.of Tryz.underlying32 rfl (by kernel_rfl) (by decide) (by decide)
instance : TZ Tryz.prog 32 (.slice none 0 0) := TZ.of (by kernel_rfl) (by kernel_rfl)
instance : TSl Tryz.prog 35 50 4 40 := TSl.of Tryz.underlying35 (by kernel_rfl) (by decide)
instance : TV Tryz.prog 35 false 1 := TV.of Tryz.underlying35 rfl (by kernel_rfl) (by decide) (by decide)
instance : TV Tryz.prog 37 true 4 := TV.of Tryz.underlying37 rfl (by kernel_rfl) (by decide) (by decide)
instance : TZ Tryz.prog 37 (.agg #[.int .i64 0, .int .i64 0, .string ⟨#[]⟩, .slice none 0 0]) := TZ.of (by kernel_rfl) (by kernel_rfl)
instance : TF Tryz.prog 37 0 0 3 := ⟨⟨_, _, Tryz.underlying37, rfl, rfl, rfl⟩⟩
instance : TF Tryz.prog 37 1 1 3 := ⟨⟨_, _, Tryz.underlying37, rfl, rfl, rfl⟩⟩
instance : TF Tryz.prog 37 2 2 9 := ⟨⟨_, _, Tryz.underlying37, rfl, rfl, rfl⟩⟩
instance : TF Tryz.prog 37 3 3 35 := ⟨⟨_, _, Tryz.underlying37, rfl, rfl, rfl⟩⟩
instance : TSt Tryz.prog 37 [(0, 1), (1, 1), (2, 1), (3, 1)] := TSt.of Tryz.underlying37 (by kernel_rfl) (by kernel_rfl)
instance : TV Tryz.prog 38 true 2 := TV.of Tryz.underlying38 rfl (by kernel_rfl) (by decide) (by decide)
instance : TZ Tryz.prog 38 (.agg #[.int .i64 0, .int .i64 0]) := TZ.of (by kernel_rfl) (by kernel_rfl)
instance : TF Tryz.prog 38 0 0 3 := ⟨⟨_, _, Tryz.underlying38, rfl, rfl, rfl⟩⟩
instance : TF Tryz.prog 38 1 1 3 := ⟨⟨_, _, Tryz.underlying38, rfl, rfl, rfl⟩⟩
instance : TSt Tryz.prog 38 [(0, 1), (1, 1)] := TSt.of Tryz.underlying38 (by kernel_rfl) (by kernel_rfl)
instance : TV Tryz.prog 39 false 1 := TV.of Tryz.underlying39 rfl (by kernel_rfl) (by decide) (by decide)
instance : TZ Tryz.prog 39 (.int .i64 0) := TZ.of (by kernel_rfl) (by kernel_rfl)
instance : TV Tryz.prog 50 true 4 := TV.of Tryz.underlying50 rfl (by kernel_rfl) (by decide) (by decide)
instance : TZ Tryz.prog 50 (.agg #[.string ⟨#[]⟩, .int .i64 0, .int .i64 0, .int .i64 0]) := TZ.of (by kernel_rfl) (by kernel_rfl)
instance : TF Tryz.prog 50 3 3 3 := ⟨⟨_, _, Tryz.underlying50, rfl, rfl, rfl⟩⟩
instance : TSt Tryz.prog 50 [(0, 1), (1, 1), (2, 1), (3, 1)] := TSt.of Tryz.underlying50 (by kernel_rfl) (by kernel_rfl)
instance : TSl Tryz.prog 52 64 8 40 := TSl.of Tryz.underlying52 (by kernel_rfl) (by decide)
instance : TSl Tryz.prog 55 62 7 64 := TSl.of Tryz.underlying55 (by kernel_rfl) (by decide)
instance : TV Tryz.prog 55 false 1 := TV.of Tryz.underlying55 rfl (by kernel_rfl) (by decide) (by decide)
instance : TV Tryz.prog 57 true 2 := TV.of Tryz.underlying57 rfl (by kernel_rfl) (by decide) (by decide)
instance : TZ Tryz.prog 57 (.agg #[.string ⟨#[]⟩, .slice none 0 0]) := TZ.of (by kernel_rfl) (by kernel_rfl)
instance : TF Tryz.prog 57 0 0 9 := ⟨⟨_, _, Tryz.underlying57, rfl, rfl, rfl⟩⟩
instance : TF Tryz.prog 57 1 1 55 := ⟨⟨_, _, Tryz.underlying57, rfl, rfl, rfl⟩⟩
instance : TSt Tryz.prog 57 [(0, 1), (1, 1)] := TSt.of Tryz.underlying57 (by kernel_rfl) (by kernel_rfl)
instance : TV Tryz.prog 58 false 1 := TV.of Tryz.underlying58 rfl (by kernel_rfl) (by decide) (by decide)
instance : TV Tryz.prog 60 true 4 := TV.of Tryz.underlying60 rfl (by kernel_rfl) (by decide) (by decide)
instance : TZ Tryz.prog 60 (.agg #[.int .u64 0, .int .u64 0, .int .u64 0, .int .u64 0]) := TZ.of (by kernel_rfl) (by kernel_rfl)
instance : TA Tryz.prog 60 4 58 := ⟨Tryz.underlying60⟩
instance : TV Tryz.prog 62 true 7 := TV.of Tryz.underlying62 rfl (by kernel_rfl) (by decide) (by decide)
instance : TZ Tryz.prog 62 (.agg #[.int .i64 0, .int .u64 0, .int .u64 0, .int .u64 0, .int .u64 0, .int .i64 0, .string ⟨#[]⟩]) := TZ.of (by kernel_rfl) (by kernel_rfl)
instance : TF Tryz.prog 62 0 0 3 := ⟨⟨_, _, Tryz.underlying62, rfl, rfl, rfl⟩⟩
instance : TF Tryz.prog 62 1 1 60 := ⟨⟨_, _, Tryz.underlying62, rfl, rfl, rfl⟩⟩
instance : TF Tryz.prog 62 2 5 3 := ⟨⟨_, _, Tryz.underlying62, rfl, rfl, rfl⟩⟩
instance : TF Tryz.prog 62 3 6 9 := ⟨⟨_, _, Tryz.underlying62, rfl, rfl, rfl⟩⟩
instance : TSt Tryz.prog 62 [(0, 1), (1, 4), (5, 1), (6, 1)] := TSt.of Tryz.underlying62 (by kernel_rfl) (by kernel_rfl)
instance : TV Tryz.prog 64 true 8 := TV.of Tryz.underlying64 rfl (by kernel_rfl) (by decide) (by decide)
instance : TZ Tryz.prog 64 (.agg #[.bool false, .bool false, .bool false, .bool false, .int .u64 0, .int .u64 0, .int .u64 0, .int .u64 0]) := TZ.of (by kernel_rfl) (by kernel_rfl)
instance : TF Tryz.prog 64 0 0 4 := ⟨⟨_, _, Tryz.underlying64, rfl, rfl, rfl⟩⟩
instance : TF Tryz.prog 64 1 1 4 := ⟨⟨_, _, Tryz.underlying64, rfl, rfl, rfl⟩⟩
instance : TF Tryz.prog 64 2 2 4 := ⟨⟨_, _, Tryz.underlying64, rfl, rfl, rfl⟩⟩
instance : TF Tryz.prog 64 3 3 4 := ⟨⟨_, _, Tryz.underlying64, rfl, rfl, rfl⟩⟩
instance : TF Tryz.prog 64 4 4 60 := ⟨⟨_, _, Tryz.underlying64, rfl, rfl, rfl⟩⟩
instance : TSt Tryz.prog 64 [(0, 1), (1, 1), (2, 1), (3, 1), (4, 4)] := TSt.of Tryz.underlying64 (by kernel_rfl) (by kernel_rfl)
instance : TV Tryz.prog 65 true 2 := TV.of Tryz.underlying65 rfl (by kernel_rfl) (by decide) (by decide)
instance : TZ Tryz.prog 65 (.agg #[.int .i64 0, .int .i64 0]) := TZ.of (by kernel_rfl) (by kernel_rfl)
instance : TA Tryz.prog 65 2 3 := ⟨Tryz.underlying65⟩
instance : TSl Tryz.prog 66 69 1 24 := TSl.of Tryz.underlying66 (by kernel_rfl) (by decide)
instance : TSl Tryz.prog 69 4 1 1 := TSl.of Tryz.underlying69 (by kernel_rfl) (by decide)
instance : TV Tryz.prog 69 false 1 := TV.of Tryz.underlying69 rfl (by kernel_rfl) (by decide) (by decide)
instance : TZ Tryz.prog 69 (.slice none 0 0) := TZ.of (by kernel_rfl) (by kernel_rfl)
instance : TV Tryz.prog 74 false 1 := TV.of Tryz.underlying74 rfl (by kernel_rfl) (by decide) (by decide)
instance : TZ Tryz.prog 74 (.pointer none) := TZ.of (by kernel_rfl) (by kernel_rfl)
instance : TSl Tryz.prog 76 29 1 24 := TSl.of Tryz.underlying76 (by kernel_rfl) (by decide)
instance : TV Tryz.prog 76 false 1 := TV.of Tryz.underlying76 rfl (by kernel_rfl) (by decide) (by decide)
instance : TZ Tryz.prog 78 (.agg #[.slice none 0 0, .int .i64 0, .slice none 0 0, .slice none 0 0, .string ⟨#[]⟩, .int .i64 0, .int .i64 0, .int .i64 0, .int .i64 0, .map none]) := TZ.of (by kernel_rfl) (by kernel_rfl)
instance : TF Tryz.prog 78 0 0 24 := ⟨⟨_, _, Tryz.underlying78, rfl, rfl, rfl⟩⟩
instance : TF Tryz.prog 78 1 2 76 := ⟨⟨_, _, Tryz.underlying78, rfl, rfl, rfl⟩⟩
instance : TF Tryz.prog 78 2 3 69 := ⟨⟨_, _, Tryz.underlying78, rfl, rfl, rfl⟩⟩
instance : TF Tryz.prog 78 3 4 9 := ⟨⟨_, _, Tryz.underlying78, rfl, rfl, rfl⟩⟩
instance : TF Tryz.prog 78 4 5 26 := ⟨⟨_, _, Tryz.underlying78, rfl, rfl, rfl⟩⟩
instance : TF Tryz.prog 78 5 7 38 := ⟨⟨_, _, Tryz.underlying78, rfl, rfl, rfl⟩⟩
instance : TF Tryz.prog 78 6 9 75 := ⟨⟨_, _, Tryz.underlying78, rfl, rfl, rfl⟩⟩
instance : TV Tryz.prog 82 true 1 := TV.of Tryz.underlying82 rfl (by kernel_rfl) (by decide) (by decide)
instance : TZ Tryz.prog 82 (.agg #[.int .i64 0]) := TZ.of (by kernel_rfl) (by kernel_rfl)
instance : TF Tryz.prog 82 0 0 39 := ⟨⟨_, _, Tryz.underlying82, rfl, rfl, rfl⟩⟩
instance : TSt Tryz.prog 82 [(0, 1)] := TSt.of Tryz.underlying82 (by kernel_rfl) (by kernel_rfl)
instance : TConc Tryz.prog 82 := ⟨⟨_, Tryz.underlying82, rfl⟩⟩
instance : TSl Tryz.prog 96 32 1 24 := TSl.of Tryz.underlying96 (by kernel_rfl) (by decide)
instance : TV Tryz.prog 96 false 1 := TV.of Tryz.underlying96 rfl (by kernel_rfl) (by decide) (by decide)
instance : TV Tryz.prog 100 false 1 := TV.of Tryz.underlying100 rfl (by kernel_rfl) (by decide) (by decide)
instance : TZ Tryz.prog 100 (.pointer none) := TZ.of (by kernel_rfl) (by kernel_rfl)
instance : TSl Tryz.prog 102 108 4 4 := TSl.of Tryz.underlying102 (by kernel_rfl) (by decide)
instance : TV Tryz.prog 102 false 1 := TV.of Tryz.underlying102 rfl (by kernel_rfl) (by decide) (by decide)
instance : TZ Tryz.prog 102 (.slice none 0 0) := TZ.of (by kernel_rfl) (by kernel_rfl)
instance : TSl Tryz.prog 104 60 4 32 := TSl.of Tryz.underlying104 (by kernel_rfl) (by decide)
instance : TV Tryz.prog 104 false 1 := TV.of Tryz.underlying104 rfl (by kernel_rfl) (by decide) (by decide)
instance : TV Tryz.prog 108 true 4 := TV.of Tryz.underlying108 rfl (by kernel_rfl) (by decide) (by decide)
instance : TZ Tryz.prog 108 (.agg #[.bool false, .bool false, .bool false, .bool false]) := TZ.of (by kernel_rfl) (by kernel_rfl)
instance : TF Tryz.prog 108 0 0 4 := ⟨⟨_, _, Tryz.underlying108, rfl, rfl, rfl⟩⟩
instance : TF Tryz.prog 108 1 1 4 := ⟨⟨_, _, Tryz.underlying108, rfl, rfl, rfl⟩⟩
instance : TF Tryz.prog 108 2 2 4 := ⟨⟨_, _, Tryz.underlying108, rfl, rfl, rfl⟩⟩
instance : TF Tryz.prog 108 3 3 4 := ⟨⟨_, _, Tryz.underlying108, rfl, rfl, rfl⟩⟩
instance : TSt Tryz.prog 108 [(0, 1), (1, 1), (2, 1), (3, 1)] := TSt.of Tryz.underlying108 (by kernel_rfl) (by kernel_rfl)
instance : TZ Tryz.prog 112 (.agg #[.slice none 0 0, .int .i64 0, .slice none 0 0, .string ⟨#[]⟩, .int .i64 0, .int .i64 0, .int .i64 0, .int .i64 0, .int .i64 0]) := TZ.of (by kernel_rfl) (by kernel_rfl)
instance : TF Tryz.prog 112 0 0 24 := ⟨⟨_, _, Tryz.underlying112, rfl, rfl, rfl⟩⟩
instance : TF Tryz.prog 112 1 2 76 := ⟨⟨_, _, Tryz.underlying112, rfl, rfl, rfl⟩⟩
instance : TF Tryz.prog 112 2 3 9 := ⟨⟨_, _, Tryz.underlying112, rfl, rfl, rfl⟩⟩
instance : TF Tryz.prog 112 3 4 26 := ⟨⟨_, _, Tryz.underlying112, rfl, rfl, rfl⟩⟩
instance : TF Tryz.prog 112 4 6 38 := ⟨⟨_, _, Tryz.underlying112, rfl, rfl, rfl⟩⟩
instance : TF Tryz.prog 112 5 8 3 := ⟨⟨_, _, Tryz.underlying112, rfl, rfl, rfl⟩⟩
instance : TSt Tryz.prog 112 [(0, 2), (2, 1), (3, 1), (4, 2), (6, 2), (8, 1)] := TSt.of Tryz.underlying112 (by kernel_rfl) (by kernel_rfl)
instance : TV Tryz.prog 120 true 2 := TV.of Tryz.underlying120 rfl (by kernel_rfl) (by decide) (by decide)
instance : TZ Tryz.prog 120 (.agg #[.slice none 0 0, .slice none 0 0]) := TZ.of (by kernel_rfl) (by kernel_rfl)
instance : TF Tryz.prog 120 0 0 96 := ⟨⟨_, _, Tryz.underlying120, rfl, rfl, rfl⟩⟩
instance : TF Tryz.prog 120 1 1 29 := ⟨⟨_, _, Tryz.underlying120, rfl, rfl, rfl⟩⟩
instance : TSl Tryz.prog 125 128 1 24 := TSl.of Tryz.underlying125 (by kernel_rfl) (by decide)
instance : TV Tryz.prog 125 false 1 := TV.of Tryz.underlying125 rfl (by kernel_rfl) (by decide) (by decide)
instance : TZ Tryz.prog 127 (.agg #[.slice none 0 0, .int .i64 0, .slice none 0 0, .slice none 0 0, .slice none 0 0]) := TZ.of (by kernel_rfl) (by kernel_rfl)
instance : TF Tryz.prog 127 0 0 24 := ⟨⟨_, _, Tryz.underlying127, rfl, rfl, rfl⟩⟩
instance : TF Tryz.prog 127 1 2 125 := ⟨⟨_, _, Tryz.underlying127, rfl, rfl, rfl⟩⟩
instance : TF Tryz.prog 127 2 3 102 := ⟨⟨_, _, Tryz.underlying127, rfl, rfl, rfl⟩⟩
instance : TF Tryz.prog 127 3 4 104 := ⟨⟨_, _, Tryz.underlying127, rfl, rfl, rfl⟩⟩
instance : TSt Tryz.prog 127 [(0, 2), (2, 1), (3, 1), (4, 1)] := TSt.of Tryz.underlying127 (by kernel_rfl) (by kernel_rfl)
instance : TSl Tryz.prog 128 136 2 16 := TSl.of Tryz.underlying128 (by kernel_rfl) (by decide)
instance : TV Tryz.prog 128 false 1 := TV.of Tryz.underlying128 rfl (by kernel_rfl) (by decide) (by decide)
instance : TZ Tryz.prog 128 (.slice none 0 0) := TZ.of (by kernel_rfl) (by kernel_rfl)
instance : TSl Tryz.prog 132 102 1 24 := TSl.of Tryz.underlying132 (by kernel_rfl) (by decide)
instance : TV Tryz.prog 132 false 1 := TV.of Tryz.underlying132 rfl (by kernel_rfl) (by decide) (by decide)
instance : TZ Tryz.prog 132 (.slice none 0 0) := TZ.of (by kernel_rfl) (by kernel_rfl)
instance : TV Tryz.prog 136 true 2 := TV.of Tryz.underlying136 rfl (by kernel_rfl) (by decide) (by decide)
instance : TZ Tryz.prog 136 (.agg #[.int .i64 0, .int .i64 0]) := TZ.of (by kernel_rfl) (by kernel_rfl)
instance : TF Tryz.prog 136 0 0 3 := ⟨⟨_, _, Tryz.underlying136, rfl, rfl, rfl⟩⟩
instance : TF Tryz.prog 136 1 1 3 := ⟨⟨_, _, Tryz.underlying136, rfl, rfl, rfl⟩⟩
instance : TSt Tryz.prog 136 [(0, 1), (1, 1)] := TSt.of Tryz.underlying136 (by kernel_rfl) (by kernel_rfl)
instance : TV Tryz.prog 150 true 2 := TV.of Tryz.underlying150 rfl (by kernel_rfl) (by decide) (by decide)
instance : TZ Tryz.prog 150 (.agg #[.int .i64 0, .int .i64 0]) := TZ.of (by kernel_rfl) (by kernel_rfl)
instance : TSt Tryz.prog 150 [(0, 1), (1, 1)] := TSt.of Tryz.underlying150 (by kernel_rfl) (by kernel_rfl)
instance : TV Tryz.prog 156 true 1 := TV.of Tryz.underlying156 rfl (by kernel_rfl) (by decide) (by decide)
instance : TZ Tryz.prog 156 (.agg #[.nilFunc]) := TZ.of (by kernel_rfl) (by kernel_rfl)
instance : TF Tryz.prog 156 0 0 154 := ⟨⟨_, _, Tryz.underlying156, rfl, rfl, rfl⟩⟩
instance : TFn Tryz.prog 4 := ⟨Tryz.call4⟩  -- dowel/dowellaw17.works
instance : TFn Tryz.prog 5 := ⟨Tryz.call5⟩  -- dowel/dowellaw17.heavy
instance : TFn Tryz.prog 6 := ⟨Tryz.call6⟩  -- dowel/dowelref11.Stars
instance : TFn Tryz.prog 7 := ⟨Tryz.call7⟩  -- dowel/dowelref11.Ranks
instance : TFn Tryz.prog 8 := ⟨Tryz.call8⟩  -- dowel/grow.Run
instance : TFn Tryz.prog 9 := ⟨Tryz.call9⟩  -- dowel/dowelref14.Run
instance : TFn Tryz.prog 10 := ⟨Tryz.call10⟩  -- dowel/dowelbook.Outcomes
instance : TFn Tryz.prog 11 := ⟨Tryz.call11⟩  -- dowel/dowellaw17.left
instance : TFn Tryz.prog 12 := ⟨Tryz.call12⟩  -- dowel/grow.Heads
instance : TFn Tryz.prog 13 := ⟨Tryz.call13⟩  -- dowel/dowelref09.Size
instance : TFn Tryz.prog 14 := ⟨Tryz.call14⟩  -- dowel/dowelref09.Check
instance : TFn Tryz.prog 15 := ⟨Tryz.call15⟩  -- dowel/dowelref10.Body
instance : TFn Tryz.prog 16 := ⟨Tryz.call16⟩  -- dowel/dowelref11.all
instance : TFn Tryz.prog 17 := ⟨Tryz.call17⟩  -- dowel/dowelref11.way
instance : TFn Tryz.prog 18 := ⟨Tryz.call18⟩  -- dowel/grow.heads
instance : TFn Tryz.prog 19 := ⟨Tryz.call19⟩  -- dowel/facts.Body
instance : TFn Tryz.prog 20 := ⟨Tryz.call20⟩  -- dowel/core.Parts
instance : TFn Tryz.prog 21 := ⟨Tryz.call21⟩  -- dowel/grow.Run$1
instance : TFn Tryz.prog 22 := ⟨Tryz.call22⟩  -- (*dowel/grow.runner).whole
instance : TFn Tryz.prog 23 := ⟨Tryz.call23⟩  -- dowel/dowelref14.begin
instance : TFn Tryz.prog 24 := ⟨Tryz.call24⟩  -- (*dowel/dowelref14.Eval).told
instance : TFn Tryz.prog 25 := ⟨Tryz.call25⟩  -- (*dowel/dowelref14.Eval).node
instance : TFn Tryz.prog 26 := ⟨Tryz.call26⟩  -- dowel/dowelbook.Captures
instance : TFn Tryz.prog 27 := ⟨Tryz.call27⟩  -- dowel/dowellaw17.set
instance : TFn Tryz.prog 28 := ⟨Tryz.call28⟩  -- dowel/dowelref04.Name
instance : TFn Tryz.prog 29 := ⟨Tryz.call29⟩  -- dowel/dowelref09.body
instance : TFn Tryz.prog 30 := ⟨Tryz.call30⟩  -- dowel/dowelref10.Rules
instance : TFn Tryz.prog 31 := ⟨Tryz.call31⟩  -- dowel/dowelref10.Nodes
instance : TFn Tryz.prog 32 := ⟨Tryz.call32⟩  -- dowel/dowelref10.Parts
instance : TFn Tryz.prog 33 := ⟨Tryz.call33⟩  -- dowel/dowelref11.leads
instance : TFn Tryz.prog 34 := ⟨Tryz.call34⟩  -- dowel/dowelref11.far
instance : TFn Tryz.prog 35 := ⟨Tryz.call35⟩  -- dowel/sound.Left
instance : TFn Tryz.prog 36 := ⟨Tryz.call36⟩  -- dowel/core.Check
instance : TFn Tryz.prog 37 := ⟨Tryz.call37⟩  -- dowel/facts.solve
instance : TFn Tryz.prog 38 := ⟨Tryz.call38⟩  -- (*dowel/facts.solver).body
instance : TFn Tryz.prog 39 := ⟨Tryz.call39⟩  -- (*dowel/facts.solver).bytes
instance : TFn Tryz.prog 40 := ⟨Tryz.call40⟩  -- dowel/facts.told
instance : TFn Tryz.prog 41 := ⟨Tryz.call41⟩  -- dowel/core.arity
instance : TFn Tryz.prog 42 := ⟨Tryz.call42⟩  -- (*dowel/grow.runner).step
instance : TFn Tryz.prog 43 := ⟨Tryz.call43⟩  -- dowel/dowelref14.Clamp
instance : TFn Tryz.prog 44 := ⟨Tryz.call44⟩  -- dowel/dowelref03.Has
instance : TFn Tryz.prog 45 := ⟨Tryz.call45⟩  -- (*dowel/dowelref14.Eval).star
instance : TFn Tryz.prog 46 := ⟨Tryz.call46⟩  -- dowel/dowelref14.Wrapped
instance : TFn Tryz.prog 47 := ⟨Tryz.call47⟩  -- dowel/dowelref04.named
instance : TFn Tryz.prog 48 := ⟨Tryz.call48⟩  -- dowel/dowelref09.count
instance : TFn Tryz.prog 49 := ⟨Tryz.call49⟩  -- dowel/dowelref09.clean
instance : TFn Tryz.prog 50 := ⟨Tryz.call50⟩  -- dowel/dowelref10.Said
instance : TFn Tryz.prog 51 := ⟨Tryz.call51⟩  -- dowel/dowelref11.front
instance : TFn Tryz.prog 52 := ⟨Tryz.call52⟩  -- dowel/sound.find
instance : TFn Tryz.prog 53 := ⟨Tryz.call53⟩  -- dowel/core.Size
instance : TFn Tryz.prog 54 := ⟨Tryz.call54⟩  -- dowel/lexis.Name
instance : TFn Tryz.prog 55 := ⟨Tryz.call55⟩  -- dowel/core.right
instance : TFn Tryz.prog 56 := ⟨Tryz.call56⟩  -- dowel/facts.divided
instance : TFn Tryz.prog 57 := ⟨Tryz.call57⟩  -- dowel/facts.fixed[dowel/facts.may]
instance : TFn Tryz.prog 58 := ⟨Tryz.call58⟩  -- dowel/facts.solve$1
instance : TFn Tryz.prog 59 := ⟨Tryz.call59⟩  -- dowel/facts.fixed[dowel/api.Class]
instance : TFn Tryz.prog 60 := ⟨Tryz.call60⟩  -- dowel/facts.solve$2
instance : TFn Tryz.prog 61 := ⟨Tryz.call61⟩  -- dowel/facts.come
instance : TFn Tryz.prog 62 := ⟨Tryz.call62⟩  -- dowel/facts.at[dowel/facts.may]
instance : TFn Tryz.prog 63 := ⟨Tryz.call63⟩  -- dowel/facts.first
instance : TFn Tryz.prog 64 := ⟨Tryz.call64⟩  -- dowel/facts.at[dowel/api.Class]
instance : TFn Tryz.prog 65 := ⟨Tryz.call65⟩  -- dowel/class.Has
instance : TFn Tryz.prog 66 := ⟨Tryz.call66⟩  -- dowel/grow.matched
instance : TFn Tryz.prog 67 := ⟨Tryz.call67⟩  -- (*dowel/grow.runner).grow
instance : TFn Tryz.prog 68 := ⟨Tryz.call68⟩  -- dowel/grow.joined
instance : TFn Tryz.prog 69 := ⟨Tryz.call69⟩  -- (*dowel/grow.runner).star
instance : TFn Tryz.prog 70 := ⟨Tryz.call70⟩  -- dowel/grow.trees
instance : TFn Tryz.prog 71 := ⟨Tryz.call71⟩  -- dowel/dowelref14.Roots
instance : TFn Tryz.prog 72 := ⟨Tryz.call72⟩  -- dowel/dowelref04.own
instance : TFn Tryz.prog 73 := ⟨Tryz.call73⟩  -- dowel/dowelref04.digits
instance : TFn Tryz.prog 74 := ⟨Tryz.call74⟩  -- dowel/dowelbase.Own
instance : TFn Tryz.prog 75 := ⟨Tryz.call75⟩  -- dowel/dowelref10.with
instance : TFn Tryz.prog 76 := ⟨Tryz.call76⟩  -- dowel/sound.partsOf
instance : TFn Tryz.prog 77 := ⟨Tryz.call77⟩  -- dowel/sound.fronts
instance : TFn Tryz.prog 78 := ⟨Tryz.call78⟩  -- dowel/lexis.named
instance : TFn Tryz.prog 79 := ⟨Tryz.call79⟩  -- strings.ContainsAny
instance : TFn Tryz.prog 80 := ⟨Tryz.call80⟩  -- (dowel/facts.may).goes
instance : TFn Tryz.prog 81 := ⟨Tryz.call81⟩  -- dowel/class.Union
instance : TFn Tryz.prog 82 := ⟨Tryz.call82⟩  -- dowel/dowelref04.letter
instance : TFn Tryz.prog 83 := ⟨Tryz.call83⟩  -- dowel/dowelref04.digit
instance : TFn Tryz.prog 84 := ⟨Tryz.call84⟩  -- dowel/dowelref03.Two
instance : TFn Tryz.prog 85 := ⟨Tryz.call85⟩  -- dowel/sound.looks
instance : TFn Tryz.prog 86 := ⟨Tryz.call86⟩  -- slices.Sort[[]int,int]
instance : TFn Tryz.prog 87 := ⟨Tryz.call87⟩  -- slices.Compact[[]int,int]
instance : TFn Tryz.prog 88 := ⟨Tryz.call88⟩  -- dowel/lexis.own
instance : TFn Tryz.prog 89 := ⟨Tryz.call89⟩  -- strings.HasPrefix
instance : TFn Tryz.prog 90 := ⟨Tryz.call90⟩  -- dowel/lexis.numbered
instance : TFn Tryz.prog 92 := ⟨Tryz.call92⟩  -- dowel/dowelref03.Open
instance : TFn Tryz.prog 93 := ⟨Tryz.call93⟩  -- dowel/dowelref03.Close
instance : TFn Tryz.prog 94 := ⟨Tryz.call94⟩  -- dowel/sound.looks$1
instance : TFn Tryz.prog 95 := ⟨Tryz.call95⟩  -- dowel/sound.looks$2
instance : TFn Tryz.prog 96 := ⟨Tryz.call96⟩  -- dowel/sound.looks$3
instance : TFn Tryz.prog 97 := ⟨Tryz.call97⟩  -- dowel/sound.looks$4
instance : TFn Tryz.prog 100 := ⟨Tryz.call100⟩  -- dowel/lexis.letter
instance : TFn Tryz.prog 101 := ⟨Tryz.call101⟩  -- dowel/lexis.digit
end Go.AL
namespace Go.AL
theorem rS {P : Program} {σ : List AObj} {fr : Fr} {o : Oper} {v : AV} (h : RStep P σ fr o v := by first
 | (show kAssign; exact b_assign)
 | (show kMove; exact b_move)
 | (show kCall; first | exact m_lenSl | exact b_lenSl | exact b_lenMs | exact b_lenNil | exact b_lenStr | exact b_max | exact b_min)
 | (show kLoad; first | exact b_loadRp | exact b_loadPtr | exact m_loadEpt)
 | (show kFieldaddr; first | exact b_fieldRp | exact b_fieldPtr | exact b_fieldEpt)
 | (show kIndexaddr; first | exact m_indexSl | exact m_indexMs | exact b_indexArr | exact b_indexArrRp | exact b_indexArrEpt)
 | (show kBinopAdd; exact b_add)
 | (show kBinopSub; exact b_sub)
 | (show kBinopEql; first | exact b_eql | exact b_strEql | exact b_eqlAgg)
 | (show kBinopNeq; first | exact b_neq | exact b_strNeq)
 | (show kBinopLss; exact b_lss)
 | (show kBinopLeq; exact b_leq)
 | (show kBinopGtr; exact b_gtr)
 | (show kBinopGeq; exact b_geq)
 | (show kPick; first | exact b_pickT | exact b_pickF | exact b_pickB)
 | (show kUnopNot; first | exact b_notD | exact b_not)
 | (show kNilcheck; first | exact b_nilRp | exact b_nilPtr)
 | (show kSlice; first | exact m_sliceMs | exact b_sliceStrL | exact b_sliceStrH)
 | (show kField; exact b_field)
 | (show kIndex; exact b_indexStrM)
 | (show kExtract; exact b_extract)
 | (show kBuild; first | exact b_buildSt | exact b_buildArr)
 | (show kBuildslice; first | exact b_buildSl1 | exact b_buildSl2)
 | fail) : RStep P σ fr o v := h
theorem dF {p : Prop} [Decidable p] (h : ¬p) : decide p = false := decide_eq_false h
theorem dT {p : Prop} [Decidable p] (h : p) : decide p = true := decide_eq_true h
theorem eF {p : Prop} [Decidable p] (h : ¬p := by omega) : decide p = false := decide_eq_false h
theorem eT {p : Prop} [Decidable p] (h : p := by omega) : decide p = true := decide_eq_true h
theorem wS {X Y : Prop} (y : Y) (h : Y -> X := by intro y; first
 | (show lAlloc; exact k_alloc y)
 | (show lBox; exact k_box y)
 | (show lStore; exact k_store y)
 | (show lOp; exact op0 (by exact rS) y)
 | (show lGu; first | exact al_yes y | exact al_none y | exact al_noneU y)
 | (show lNil; exact al_nil y)
 | (show qSeq; first | exact n_seq y | exact p_seq y | exact x_seq y | exact q_seq y)
 | (show qBlk; first | exact n_block y | exact p_block y | exact x_eq y | exact x_ne y | exact q_block y)
 | (show cReg; exact aw_reg y)
 | (show cSeq; exact aw_seq y)
 | (show cBlk; exact aw_block y)
 | (show cSkip; exact aw_skip y)
 | (show cExit; exact aw_exit y)
 | (show cRet; exact aw_ret y)
 | (show cIf; first | exact aw_T y | exact aw_F y)
 | (show cRegD; exact aw_drN Tryz_mixed y)
 | (show dOp; exact ds_op (by exact rS) y)
 | (show dGu; first | exact ds_none y | exact ds_noneU y | exact ds_yes (by exact rS) y)
 | (show dNil; exact ds_nil y)
 | fail) : X := h y
end Go.AL
namespace Go.AL
open Go.Proofs
theorem Tryz_mixed : Tryz.prog.follows .mixedOrders = true := by rfl
theorem drop_at {α : Type} [Inhabited α] (xs : List α) (k : Nat) (h : k < xs.length) : xs.drop k = at' xs (k : Int) :: xs.drop (k + 1) := by
 rw [List.drop_eq_getElem_cons h]
 simp [at', List.getD_eq_getElem?_getD, h]
theorem at'_mem {α : Type} [Inhabited α] {xs : List α} {i : Int} (h0 : 0 <= i) (h1 : i < xs.length) : at' xs i ∈ xs := by
 have := at_get xs i h0 h1
 exact List.mem_of_getElem? this
theorem at'_getElem? {α : Type} [Inhabited α] {l : List α} {k : Nat} (h : k < l.length) : l[k]? = some (at' l (k : Int)) := by
 have := at_get l (k : Int) (by omega) (by omega)
 rwa [Int.toNat_natCast] at this
structure Cls where
 c0 : Int
 c1 : Int
 c2 : Int
 c3 : Int
 deriving Inhabited, DecidableEq
structure Node where
 op : Int
 cl : Cls
 rule : Int
 name : ByteArray
 deriving Inhabited, DecidableEq
structure Rule where
 name : ByteArray
 body : List Node
 deriving Inhabited, DecidableEq
structure Core where
 rules : List Rule
 start : Int
 deriving Inhabited, DecidableEq
structure Cap where
 name : ByteArray
 frm : Int
 til : Int
 kids : Int
 deriving Inhabited, DecidableEq
structure Out where
 kind : Int
 fin : Int
 label : ByteArray
 forest : List Cap
 deriving DecidableEq
abbrev lI (n : Int) : PV := .lit (.int .i64 n)
abbrev lB (b : Bool) : PV := .lit (.bool b)
abbrev lS (b : ByteArray) : PV := .lit (.string b)
abbrev lU (n : Int) : PV := .lit (.int .u64 n)
def encCls (c : Cls) : List PV := [lU c.c0, lU c.c1, lU c.c2, lU c.c3]
def encNode (n : Node) : List PV := [lI n.op, lU n.cl.c0, lU n.cl.c1, lU n.cl.c2, lU n.cl.c3, lI n.rule, lS n.name]
abbrev bodyP (b : List Node) : PV := .sl 7 (b.map encNode)
def encRule (r : Rule) : List PV := [lS r.name, bodyP r.body]
abbrev rulesP (rs : List Rule) : PV := .sl 2 (rs.map encRule)
abbrev coreV (c : Core) : AV := .agg [.p (rulesP c.rules), .p (lI c.start)]
def encCap (c : Cap) : List PV := [lS c.name, lI c.frm, lI c.til, lI c.kids]
abbrev forestP (f : List Cap) : PV := .sl 4 (f.map encCap)
abbrev outV (o : Out) : AV := .agg [.p (lI o.kind), .p (lI o.fin), .p (lS o.label), .p (forestP o.forest)]
abbrev zeroO : Out := ⟨0, 0, ⟨#[]⟩, []⟩
abbrev zeroOV : AV := .agg [.p (lI 0), .p (lI 0), .p (lS ⟨#[]⟩), .p (.lit (.slice none 0 0))]
theorem tells_zero : Tells zeroOV (outV zeroO) := tells_agg (.cons (.refl _) (.cons (.refl _) (.cons (.refl _) (.cons tellsC_nil .nil))))
abbrev strA (b : ByteArray) : AV := .c (.p (lS b))
theorem eqt3 (d : Nat) : EqT Tryz.prog (d + 1) 3 [.int .i64] := eqT_scalar inferInstance ⟨_, Tryz.underlying3⟩
theorem eqt4 (d : Nat) : EqT Tryz.prog (d + 1) 4 [.bool] := eqT_scalar inferInstance Tryz.underlying4
theorem eqt9 (d : Nat) : EqT Tryz.prog (d + 1) 9 [.str] := eqT_scalar inferInstance Tryz.underlying9
theorem eqt58 (d : Nat) : EqT Tryz.prog (d + 1) 58 [.int .u64] := eqT_scalar inferInstance ⟨_, Tryz.underlying58⟩
theorem eqt60 (d : Nat) : EqT Tryz.prog (d + 2) 60 [.int .u64, .int .u64, .int .u64, .int .u64] := eqT_array (n := 4) (e := 58) (k := .int .u64) inferInstance inferInstance (eqt58 _) (by kernel_rfl) (by kernel_rfl)
instance : TEq Tryz.prog 60 [.int .u64, .int .u64, .int .u64, .int .u64] := ⟨eqt60 9998, inferInstance, by kernel_rfl⟩
theorem eqt150 (d : Nat) : EqT Tryz.prog (d + 2) 150 [.int .i64, .int .i64] := eqT_struct' inferInstance Tryz.underlying150 (by kernel_rfl) (.cons (k1 := [_]) rfl (by decide) (eqt3 _) (.cons (k1 := [_]) (k2 := []) rfl (by decide) (eqt3 _) .nil))
instance : TEq Tryz.prog 150 [.int .i64, .int .i64] := ⟨eqt150 9998, inferInstance, by kernel_rfl⟩
instance : TKey Tryz.prog 150 encII := tkey_ii Tryz.underlying150 Tryz.underlying3 Tryz.underlying3 rfl rfl
instance : TKey Tryz.prog 9 encStr := tkey_str Tryz.underlying9
instance : TV Tryz.prog 75 false 1 := TV.of Tryz.underlying75 rfl (by kernel_rfl) (by decide) (by decide)
theorem out_zero (m : List Loc) (w : World) (F : Nat -> Nat -> Prop) : RV m w F (outV zeroO) (.agg #[.int .i64 0, .int .i64 0, .string ⟨#[]⟩, .slice none 0 0]) :=
 tells_zero m w F _ ⟨_, rfl, rfl, fun j x hj => by
  match j, hj with
  | 0, hj => injection hj with hj; subst hj; exact RP.lit rfl
  | 1, hj => injection hj with hj; subst hj; exact RP.lit rfl
  | 2, hj => injection hj with hj; subst hj; exact RP.lit rfl
  | 3, hj => injection hj with hj; subst hj; exact RP.lit rfl
  | n + 4, hj => cases hj⟩
structure Env where
 core : Core
 parts : List (List (Int × Int))
 heads : List Bool
 input : ByteArray
 limD : Int
 limS : Int
structure MS where
 ud : Int
 us : Int
 seeds : List ((Int × Int) × Out)
inductive Res
 | ok (o : Out) (s : MS)
 | stop (code : Int) (s : MS)
abbrev maxS : Nat := 1048576
def trees : List Cap -> Int -> Int -> Int
 | [], n, _ => n
 | c :: r, n, missing => if missing = 0 then trees r (n + 1) (1 + (c.kids - 1)) else trees r n (missing + (c.kids - 1))
def matchedR (fin : Int) (f : List Cap) (s : MS) : Res := if f.length > maxS then .stop 2 s else .ok ⟨1, fin, ⟨#[]⟩, f⟩ s
def seedOf (k : Int × Int) : List ((Int × Int) × Out) -> Option Out
 | [] => none
 | (a, v) :: r => if k = a then some v else seedOf k r
def setS (k : Int × Int) (v : Out) (l : List ((Int × Int) × Out)) : List ((Int × Int) × Out) :=
 match idxK k (l.map (·.1)) with
 | none => l ++ [(k, v)]
 | some i => l.set i (k, v)
def delS (k : Int × Int) (l : List ((Int × Int) × Out)) : List ((Int × Int) × Out) :=
 match idxK k (l.map (·.1)) with
 | none => l
 | some i => l.eraseIdx i
def starG (ev : Int -> MS -> Res) : Nat -> Int -> List Cap -> MS -> Res
 | 0, _, _, s => .stop 4 s
 | n + 1, at_, f, s =>
  match ev at_ s with
  | .stop c s => .stop c s
  | .ok o s => if o.kind = 0 then matchedR at_ f s else if o.kind = 2 then .ok o s else if f.length + o.forest.length > maxS then .stop 2 s else starG ev n o.fin (f ++ o.forest) s
def growG (ev : MS -> Res) (k : Int × Int) : Nat -> MS -> Res
 | 0, s => .stop 4 s
 | n + 1, s =>
  match ev s with
  | .stop c s => .stop c s
  | .ok o s =>
   let seed := (seedOf k s.seeds).getD zeroO
   if o.kind = 1 /\ (seed.kind ≠ 1 \/ o.fin > seed.fin) then growG ev k n { s with seeds := setS k o s.seeds }
   else if o.kind = 2 \/ seed.kind ≠ 1 then .ok o { s with seeds := delS k s.seeds } else .ok seed { s with seeds := delS k s.seeds }
def wordOf (c : Cls) (j : Nat) : Int := if j = 0 then c.c0 else if j = 1 then c.c1 else if j = 2 then c.c2 else c.c3
def hasB (c : Cls) (b : UInt8) : Bool := decide (bits .and .u64 (wordOf c (b.toNat / 64) / 2 ^ (b.toNat % 64)) 1 ≠ 0)
abbrev bodyOf (e : Env) (r : Int) : List Node := (at' e.core.rules r).body
abbrev lastOf (e : Env) (r : Int) : Int := ((bodyOf e r).length : Int) - 1
/-- A node's step, by what its parts come to. -/
def stepG (e : Env) (ev : Int -> Int -> Int -> MS -> Res) (rule : Int) (n : Node) (p : Int × Int) (at_ : Int) (s : MS) : Res :=
 if n.op = 1 then
  if at_ < e.input.size then
   match e.input[at_.toNat]? with
   | some b => if hasB n.cl b then matchedR (at_ + 1) [] s else .ok zeroO s
   | none => .ok zeroO s
  else .ok zeroO s
 else if n.op = 3 then .ok ⟨2, at_, n.name, []⟩ s
 else if n.op = 2 then
  if at' e.heads n.rule then
   match seedOf (n.rule, at_) s.seeds with
   | some o => .ok o s
   | none => growG (fun s => ev n.rule (lastOf e n.rule) at_ s) (n.rule, at_) ((e.limS - s.us).toNat + 1) { s with seeds := setS (n.rule, at_) zeroO s.seeds }
  else ev n.rule (lastOf e n.rule) at_ s
 else if n.op = 4 then
  match ev rule p.1 at_ s with
  | .stop c s => .stop c s
  | .ok o s =>
   if o.kind ≠ 1 then .ok o s else
   match ev rule p.2 o.fin s with
   | .stop c s => .stop c s
   | .ok q s => if q.kind ≠ 1 then .ok q s else if o.forest.length + q.forest.length > maxS then .stop 2 s else matchedR q.fin (o.forest ++ q.forest) s
 else if n.op = 5 then
  match ev rule p.1 at_ s with
  | .stop c s => .stop c s
  | .ok o s => if o.kind ≠ 0 then .ok o s else ev rule p.2 at_ s
 else if n.op = 6 then starG (fun a s => ev rule p.1 a s) ((e.limS - s.us).toNat + 1) at_ [] s
 else if n.op = 7 then
  match ev rule p.1 at_ s with
  | .stop c s => .stop c s
  | .ok o s => if o.kind = 1 then .ok zeroO s else matchedR at_ [] s
 else if n.op = 8 then
  match ev rule p.1 at_ s with
  | .stop c s => .stop c s
  | .ok o s => if o.kind ≠ 1 then .ok o s else if 1 + o.forest.length > maxS then .stop 2 s else matchedR o.fin (⟨n.name, at_, o.fin, trees o.forest 0 0⟩ :: o.forest) s
 else matchedR at_ [] s
/-- What is used by a step that has begun, d further ones being let lie in it. -/
def begun (e : Env) (d : Nat) (s : MS) : MS := { s with us := s.us + 1, ud := max s.ud (e.limD - d) }
/-- Of a node: d + 1 steps may still lie in one another. -/
def evalD (e : Env) : Nat -> Int -> Int -> Int -> MS -> Res
 | 0, _, _, _, s => .stop 3 s
 | d + 1, rule, node, at_, s => if s.us = e.limS then .stop 4 s else stepG e (evalD e d) rule (at' (bodyOf e rule) node) (at' (at' e.parts rule) node) at_ (begun e d s)
abbrev partsP (ps : List (List (Int × Int))) : PV := .sl 1 (ps.map fun l => [.sl 2 (l.map fun p => [lI p.1, lI p.2])])
abbrev headsP (hs : List Bool) : PV := .sl 1 (hs.map fun b => [lB b])
def runC (e : Env) (ud us : Int) (m : Nat) : List C := [.p (rulesP e.core.rules), .p (lI e.core.start), .p (partsP e.parts), .p (headsP e.heads), .p (lS e.input), .p (lI e.limD), .p (lI e.limS), .p (lI ud), .p (lI us), .mpr m]
abbrev seedsE (l : List ((Int × Int) × Out)) : List ((Int × Int) × AV) := l.map fun p => (p.1, outV p.2)
abbrev seedsX (l : List ((Int × Int) × Out)) : XO := MapX encII (seedsE l)
abbrev msσ (e : Env) (s : MS) : List AObj := [.cells (runC e s.ud s.us 1), .ext (seedsX s.seeds)]
theorem look_seeds (k : Int × Int) : ∀ l : List ((Int × Int) × Out), lookM k (seedsE l) = (seedOf k l).map outV
 | [] => rfl
 | (a, v) :: r => by
  simp only [seedsE, List.map_cons, lookM, seedOf]
  split
  ·rfl
  ·exact look_seeds k r
theorem set_seeds (k : Int × Int) (o : Out) (l : List ((Int × Int) × Out)) : setM k (outV o) (seedsE l) = seedsE (setS k o l) := by
 have e : (seedsE l).map (·.1) = l.map (·.1) := by simp [seedsE, Function.comp_def]
 simp only [setM, setS, e]
 cases idxK k (l.map (·.1)) with
 | none => simp [seedsE]
 | some i => simp [seedsE, List.map_set]
theorem del_seeds (k : Int × Int) (l : List ((Int × Int) × Out)) : delM k (seedsE l) = seedsE (delS k l) := by
 have e : (seedsE l).map (·.1) = l.map (·.1) := by simp [seedsE, Function.comp_def]
 simp only [delM, delS, e]
 cases idxK k (l.map (·.1)) with
 | none => rfl
 | some i => simp [seedsE, erase_map]
theorem pure_seeds (l : List ((Int × Int) × Out)) : ∀ v ∈ seedsE l, pureV0 v.2 = true := fun v hv => by
 obtain ⟨p, _, rfl⟩ := List.mem_map.1 hv
 rfl
theorem pureV_seeds (l : List ((Int × Int) × Out)) : ∀ v ∈ seedsE l, pureV v.2 = true := fun v hv => by
 obtain ⟨p, _, rfl⟩ := List.mem_map.1 hv
 rfl
end Go.AL
namespace Go.AL
open Go.Proofs
attribute [local irreducible] AWp AList RStep seqQ blockQ retQ DSteps DT awR rQ SStep
theorem bits_u8_63 (n : Nat) (h : n < 256) : bits .and .u8 n 63 = ((n % 64 : Nat) : Int) := by
 have h1 : (BitVec.ofInt 8 (n : Int)).toNat = n := by
  rw [BitVec.toNat_ofInt]
  have : ((n : Int) % ((2 ^ 8 : Nat) : Int)) = (n : Int) := Int.emod_eq_of_lt (by omega) (by omega)
  rw [this]; simp
 have h2 : (BitVec.ofInt 8 (63 : Int)).toNat = 63 := by decide
 have h3 : (BitVec.ofInt 8 (n : Int) &&& BitVec.ofInt 8 (63 : Int)).toNat = n % 64 := by
  rw [BitVec.toNat_and, h1, h2]
  exact Nat.and_two_pow_sub_one_eq_mod n 6
 show IntKind.u8.wrap ((BitVec.ofInt 8 (n : Int) &&& BitVec.ofInt 8 (63 : Int)).toNat : Int) = _
 rw [h3]
 simp only [IntKind.wrap, IntKind.bits, IntKind.signed]
 have : ((n % 64 : Nat) : Int) % 256 = ((n % 64 : Nat) : Int) := Int.emod_eq_of_lt (by omega) (by omega)
 simpa using this
abbrev lU8 (n : Int) : AV := .c (.p (.lit (.int .u8 n)))
section
variable {P : Program} {σ : List AObj} {fr : Fr} {d : Option Nat} {ty : TypeId} {pos : String} {aft : Array Edge} {g : Option (Nat × Bool)}
theorem b_shrU8 {t t' : TypeId} {x : Operand} {n j : Nat} (hj : n / 64 = j) (hx : ev fr x = lU8 n := by exact rfl) : RStep P σ fr ⟨d, .binOp .shr t x (.const (.int .u64 6)) t', ty, pos, aft, g⟩ (lU8 (j : Int)) := by
 subst hj
 exact r_bin hx rfl (fun w => by simp [eqGuard, binOp, shift_shr_u8 _ _ _ (show (0 : Int) <= 6 by omega) (show (6 : Int) <= 8 by omega)]) rfl
theorem b_andU8 {t t' : TypeId} {x : Operand} {n : Nat} (h : n < 256) (hx : ev fr x = lU8 n := by exact rfl) : RStep P σ fr ⟨d, .binOp .and t x (.const (.int .u8 63)) t', ty, pos, aft, g⟩ (lU8 ((n % 64 : Nat) : Int)) :=
 r_bin hx rfl (fun w => by simp only [eqGuard, binOp_and, intBits_and]; rw [bits_u8_63 n h]; simp) rfl
theorem b_shrU64 {t t' : TypeId} {x y : Operand} {n : Int} {k : Nat} (h : k <= 64) (hx : ev fr x = .c (.p (lU n)) := by exact rfl) (hy : ev fr y = lU8 k := by exact rfl) : RStep P σ fr ⟨d, .binOp .shr t x y t', ty, pos, aft, g⟩ (.c (.p (lU (n / 2 ^ k)))) :=
 r_bin hx hy (fun w => by simp [eqGuard, binOp, shift_shr_u64 _ _ _ (show (0 : Int) <= (k : Int) by omega) (show ((k : Nat) : Int) <= 64 by omega)]) rfl
theorem b_and1 {t t' : TypeId} {x : Operand} {n : Int} (hx : ev fr x = .c (.p (lU n)) := by exact rfl) : RStep P σ fr ⟨d, .binOp .and t x (.const (.int .u64 1)) t', ty, pos, aft, g⟩ (.c (.p (lU (bits .and .u64 n 1)))) :=
 r_bin hx rfl (fun w => by simp only [eqGuard, binOp_and, intBits_and]; simp) rfl
end
abbrev clsV (c : Cls) : AV := .agg ((encCls c).map .p)
theorem has_c (c : Cls) (b : UInt8) : ACalls Tryz.prog 65 [clsV c, lU8 b.toNat] [] (fun r _ => r = .ret (bl (hasB c b))) := by
 have hb : b.toNat < 256 := b.toNat_lt
 have hh : hasB c b = decide (bits .and .u64 (wordOf c (b.toNat / 64) / 2 ^ (b.toNat % 64)) 1 ≠ 0) := rfl
 rw [hh]
 have hj : b.toNat / 64 = 0 \/ b.toNat / 64 = 1 \/ b.toNat / 64 = 2 \/ b.toNat / 64 = 3 := by omega
 rcases hj with hj | hj | hj | hj
 ·rw [hj]
  refine acalls_by Tryz.func65 Tryz.ntmps65 ?_
  simp only [argFr]
  repeat' (first| (show lOp; refine op0 (by first | (show kBinopAnd; first | exact b_andU8 hb | exact b_and1) | (show kBinopShr; first | exact b_shrU8 hj | exact b_shrU64 (k := b.toNat % 64) (by omega))) ?_)| (show eRet; refine ret1 Tryz.results65 ?_)| (refine wS ?_)| fail)
  rfl
 ·rw [hj]
  refine acalls_by Tryz.func65 Tryz.ntmps65 ?_
  simp only [argFr]
  repeat' (first| (show lOp; refine op0 (by first | (show kBinopAnd; first | exact b_andU8 hb | exact b_and1) | (show kBinopShr; first | exact b_shrU8 hj | exact b_shrU64 (k := b.toNat % 64) (by omega))) ?_)| (show eRet; refine ret1 Tryz.results65 ?_)| (refine wS ?_)| fail)
  rfl
 ·rw [hj]
  refine acalls_by Tryz.func65 Tryz.ntmps65 ?_
  simp only [argFr]
  repeat' (first| (show lOp; refine op0 (by first | (show kBinopAnd; first | exact b_andU8 hb | exact b_and1) | (show kBinopShr; first | exact b_shrU8 hj | exact b_shrU64 (k := b.toNat % 64) (by omega))) ?_)| (show eRet; refine ret1 Tryz.results65 ?_)| (refine wS ?_)| fail)
  rfl
 ·rw [hj]
  refine acalls_by Tryz.func65 Tryz.ntmps65 ?_
  simp only [argFr]
  repeat' (first| (show lOp; refine op0 (by first | (show kBinopAnd; first | exact b_andU8 hb | exact b_and1) | (show kBinopShr; first | exact b_shrU8 hj | exact b_shrU64 (k := b.toNat % 64) (by omega))) ?_)| (show eRet; refine ret1 Tryz.results65 ?_)| (refine wS ?_)| fail)
  rfl
theorem matched_c (fin : Int) (f : List Cap) (h : f.length <= maxS) : ACalls Tryz.prog 66 [i64 fin, .c (.p (forestP f))] [] (fun r _ => r = .ret (outV ⟨1, fin, ⟨#[]⟩, f⟩)) := by
 have h : f.length <= 1048576 := h
 refine acalls_by Tryz.func66 Tryz.ntmps66 ?_
 simp only [argFr]
 repeat' (first| (refine aw_F ?_ (hb := eF))| (show eRet; refine retC1 Tryz.results66 ?_)| (refine wS ?_)| fail)
 rfl
theorem joined_c (f g : List Cap) (h : f.length + g.length <= maxS) : ACalls Tryz.prog 68 [.c (.p (forestP f)), .c (.p (forestP g))] [] (fun r _ => r = .ret (.c (.p (forestP (f ++ g))))) := by
 have h : f.length + g.length <= 1048576 := h
 refine acalls_by Tryz.func68 Tryz.ntmps68 ?_
 simp only [argFr]
 repeat' (first| (refine aw_F ?_ (hb := eF))| (show lAt 4; refine k_freezeM (f := encCap) 20 ?_)| (show lMakeSlice; refine k_make0 ?_)| (show lCall; first | refine k_appSl (f := encCap) (xs := []) ?_ | refine k_appSl (f := encCap) ?_)| (show eRet; refine ret1 Tryz.results68 ?_)| (refine wS ?_)| fail)
 have e : List.take (0 + f.length + g.length) (List.take (0 + f.length) (List.take 0 [] ++ f) ++ g) = f ++ g := by simp; exact List.take_of_length_le (by simp)
 rw [e]
def CapsOK (f : List Cap) : Prop := f.length <= maxS /\ ∀ c ∈ f, 0 <= c.kids /\ c.kids <= 1048576
theorem trees_c (f : List Cap) (h : CapsOK f) : ACalls Tryz.prog 70 [.c (.p (forestP f))] [] (fun r _ => r = .ret (i64 (trees f 0 0))) := by
 have hl : f.length <= 1048576 := h.1
 refine acalls_by Tryz.func70 Tryz.ntmps70 ?_
 simp only [argFr]
 repeat' (first| (refine wS ?_)| fail)
 refine aw_roundsG (ι := Nat × Int × Int) (fun i n => [(7, .c (.p (forestP f))), (8, i64 f.length), (9, i64 i.1), (3, i64 i.2.1), (4, i64 i.2.2)]) (fun _ _ => []) (fun i => i.1 <= f.length /\ 0 <= i.2.1 /\ i.2.1 <= i.1 /\ -(i.1 : Int) <= i.2.2 /\ i.2.2 <= 1048577 * (i.1 : Int) /\ trees (f.drop i.1) i.2.1 i.2.2 = trees f 0 0) (fun i => f.length - i.1) (0, 0, 0) 0 ⟨by simp, by simp, by simp, by simp, by simp, by simp⟩ (by simp) rfl (by simp [Fr.get]) ?_
 rintro ⟨i, n, m⟩ q g ⟨h1, h2, h3, h4, h5, h6⟩ hg
 dsimp only at h1 h2 h3 h4 h5 h6 ⊢
 by_cases hi : i < f.length
 ·have hk := h.2 _ (at'_mem (show 0 <= (i : Int) by omega) (show (i : Int) < f.length by omega))
  have hd := drop_at f i hi
  rw [hd] at h6
  simp only [trees] at h6
  by_cases hm : m = 0
  ·rw [if_pos hm] at h6
   repeat' (first| (refine aw_T ?_ (hb := eT))| (refine wS ?_)| fail)
   subst hm
   exact ⟨(i + 1, n + 1, 0 + 1 + ((at' f (i : Int)).kids - 1)), _, ⟨by dsimp only; omega, by dsimp only; omega, by dsimp only; omega, by dsimp only; omega, by dsimp only; omega, by dsimp only; rw [Int.zero_add]; exact h6⟩, Nat.le_refl _, List.drop_length, by simp [Fr.get], by dsimp only; omega⟩
  ·rw [if_neg hm] at h6
   repeat' (first| (refine aw_T ?_ (hb := eT))| (refine aw_F ?_ (hb := decide_eq_false hm))| (refine wS ?_)| fail)
   exact ⟨(i + 1, n, m + ((at' f (i : Int)).kids - 1)), _, ⟨by dsimp only; omega, by dsimp only; omega, by dsimp only; omega, by dsimp only; omega, by dsimp only; omega, h6⟩, Nat.le_refl _, List.drop_length, by simp [Fr.get], by dsimp only; omega⟩
 ·have : i = f.length := by omega
  subst this
  rw [List.drop_length] at h6
  simp only [trees] at h6
  repeat' (first| (refine aw_F ?_ (hb := eF))| (show eRet; refine ret1 Tryz.results70 ?_)| (refine wS ?_)| fail)
  rw [h6]
end Go.AL
namespace Go.AL
structure WF (e : Env) : Prop where
 nr : 0 < e.core.rules.length /\ e.core.rules.length <= 256
 body : ∀ r : Int, 0 <= r -> r < e.core.rules.length -> 0 < (bodyOf e r).length /\ (bodyOf e r).length <= 16384
 heads : e.heads.length = e.core.rules.length
 parts : e.parts.length = e.core.rules.length
 part : ∀ r : Int, 0 <= r -> r < e.core.rules.length -> (at' e.parts r).length = (bodyOf e r).length
 rule : ∀ r n : Int, 0 <= r -> r < e.core.rules.length -> 0 <= n -> n < (bodyOf e r).length -> (at' (bodyOf e r) n).op = 2 -> 0 <= (at' (bodyOf e r) n).rule /\ (at' (bodyOf e r) n).rule < e.core.rules.length
 two : ∀ r n : Int, 0 <= r -> r < e.core.rules.length -> 0 <= n -> n < (bodyOf e r).length -> (at' (bodyOf e r) n).op = 4 \/ (at' (bodyOf e r) n).op = 5 -> (0 <= (at' (at' e.parts r) n).1 /\ (at' (at' e.parts r) n).1 < (bodyOf e r).length) /\ (0 <= (at' (at' e.parts r) n).2 /\ (at' (at' e.parts r) n).2 < (bodyOf e r).length)
 one : ∀ r n : Int, 0 <= r -> r < e.core.rules.length -> 0 <= n -> n < (bodyOf e r).length -> (at' (bodyOf e r) n).op = 6 \/ (at' (bodyOf e r) n).op = 7 \/ (at' (bodyOf e r) n).op = 8 -> 0 <= (at' (at' e.parts r) n).1 /\ (at' (at' e.parts r) n).1 < (bodyOf e r).length
 limD : 0 <= e.limD /\ e.limD <= 32768
 limS : 0 <= e.limS /\ e.limS <= 1048576
 input : e.input.size <= 65536
structure OutOK (e : Env) (o : Out) : Prop where
 fin : 0 <= o.fin /\ o.fin <= e.input.size
 caps : CapsOK o.forest
structure SOK (e : Env) (s : MS) : Prop where
 us : 0 <= s.us /\ s.us <= e.limS
 ud : 0 <= s.ud /\ s.ud <= 32768
 seeds : ∀ p ∈ s.seeds, OutOK e p.2
theorem caps_nil : CapsOK [] := ⟨by simp, by simp⟩
theorem zero_ok (e : Env) : OutOK e zeroO := ⟨⟨by simp, by simp⟩, caps_nil⟩
theorem seedOf_mem {k : Int × Int} : ∀ {l : List ((Int × Int) × Out)} {o : Out}, seedOf k l = some o -> ∃ p ∈ l, p.2 = o
 | (a, v) :: r, o, h => by
  simp only [seedOf] at h
  split at h
  ·injection h with h; exact ⟨_, List.mem_cons_self .., h⟩
  ·obtain ⟨p, h1, h2⟩ := seedOf_mem h
   exact ⟨p, List.mem_cons_of_mem _ h1, h2⟩
theorem SOK.seed {e : Env} {s : MS} (h : SOK e s) (k : Int × Int) : OutOK e ((seedOf k s.seeds).getD zeroO) := by
 cases hs : seedOf k s.seeds with
 | none => exact zero_ok e
 | some o =>
  obtain ⟨p, h1, h2⟩ := seedOf_mem hs
  rw [<- h2]
  exact h.seeds p h1
theorem SOK.set {e : Env} {s : MS} (h : SOK e s) (k : Int × Int) {o : Out} (ho : OutOK e o) : SOK e { s with seeds := setS k o s.seeds } := by
 refine ⟨h.us, h.ud, fun p hp => ?_⟩
 simp only [setS] at hp
 split at hp
 ·rcases List.mem_append.1 hp with hp | hp
  ·exact h.seeds p hp
  ·simp at hp; subst hp; exact ho
 ·rcases List.mem_or_eq_of_mem_set hp with hp | rfl
  ·exact h.seeds p hp
  ·exact ho
theorem SOK.del {e : Env} {s : MS} (h : SOK e s) (k : Int × Int) : SOK e { s with seeds := delS k s.seeds } := by
 refine ⟨h.us, h.ud, fun p hp => ?_⟩
 simp only [delS] at hp
 split at hp
 ·exact h.seeds p hp
 ·exact h.seeds p (List.mem_of_mem_eraseIdx hp)
theorem trees_le : ∀ (f : List Cap) (n m : Int), n <= trees f n m /\ trees f n m <= n + f.length
 | [], n, m => by simp [trees]
 | c :: r, n, m => by
  simp only [trees]
  split
  ·have := trees_le r (n + 1) (1 + (c.kids - 1)); simp only [List.length_cons]; omega
  ·have := trees_le r n (m + (c.kids - 1)); simp only [List.length_cons]; omega
theorem caps_append {f g : List Cap} (hf : CapsOK f) (hg : CapsOK g) (h : f.length + g.length <= maxS) : CapsOK (f ++ g) :=
 ⟨by simpa using h, fun c hc => (List.mem_append.1 hc).elim (hf.2 c) (hg.2 c)⟩
/-- What a step may come to. -/
def EvOK (e : Env) (ev : MS -> Res) : Prop := ∀ s o s', SOK e s -> ev s = .ok o s' -> OutOK e o /\ SOK e s' /\ s.us < s'.us
theorem matched_ok {e : Env} {fin : Int} {f : List Cap} {s s' : MS} {o : Out} (h : matchedR fin f s = .ok o s') (hf : CapsOK f) (hn : 0 <= fin /\ fin <= e.input.size) : s' = s /\ o = ⟨1, fin, ⟨#[]⟩, f⟩ /\ OutOK e o := by
 unfold matchedR at h
 split at h
 ·cases h
 ·injection h with h1 h2
  subst h1; subst h2
  exact ⟨rfl, rfl, hn, hf⟩
theorem starG_ok {e : Env} {ev : Int -> MS -> Res} (hev : ∀ a : Int, 0 <= a -> a <= e.input.size -> EvOK e (ev a)) : ∀ (n : Nat) (a : Int) (f : List Cap) (s : MS) (o : Out) (s' : MS), 0 <= a -> a <= e.input.size -> CapsOK f -> SOK e s -> starG ev n a f s = .ok o s' -> OutOK e o /\ SOK e s' /\ s.us < s'.us
 | 0, a, f, s, o, s', _, _, _, _, h => by cases h
 | n + 1, a, f, s, o, s', h0, h1, hf, hs, h => by
  simp only [starG] at h
  cases he : ev a s with
  | stop c s1 => rw [he] at h; cases h
  | ok o1 s1 =>
   rw [he] at h
   simp only at h
   obtain ⟨g1, g2, g3⟩ := hev a h0 h1 s o1 s1 hs he
   split at h
   ·obtain ⟨rfl, rfl, g4⟩ := matched_ok h hf ⟨h0, h1⟩
    exact ⟨g4, g2, g3⟩
   ·split at h
    ·injection h with q1 q2; subst q1; subst q2; exact ⟨g1, g2, g3⟩
    ·split at h
     ·cases h
     ·obtain ⟨r1, r2, r3⟩ := starG_ok hev n o1.fin _ s1 o s' g1.fin.1 g1.fin.2 (caps_append hf g1.caps (by omega)) g2 h
      exact ⟨r1, r2, by omega⟩
theorem growG_ok {e : Env} {ev : MS -> Res} (hev : EvOK e ev) (k : Int × Int) : ∀ (n : Nat) (s : MS) (o : Out) (s' : MS), SOK e s -> growG ev k n s = .ok o s' -> OutOK e o /\ SOK e s' /\ s.us < s'.us
 | 0, s, o, s', _, h => by cases h
 | n + 1, s, o, s', hs, h => by
  simp only [growG] at h
  cases he : ev s with
  | stop c s1 => rw [he] at h; cases h
  | ok o1 s1 =>
   rw [he] at h
   simp only at h
   obtain ⟨g1, g2, g3⟩ := hev s o1 s1 hs he
   split at h
   ·obtain ⟨r1, r2, r3⟩ := growG_ok hev k n _ o s' (g2.set k g1) h
    exact ⟨r1, r2, by have : s1.us < s'.us := r3; omega⟩
   ·split at h
    ·injection h with q1 q2; subst q1; subst q2; exact ⟨g1, g2.del k, g3⟩
    ·injection h with q1 q2; subst q1; subst q2; exact ⟨g2.seed k, g2.del k, g3⟩
theorem stepG_ok {e : Env} (hw : WF e) {ev : Int -> Int -> Int -> MS -> Res} (ih : ∀ rule node a : Int, 0 <= rule -> rule < e.core.rules.length -> 0 <= node -> node < (bodyOf e rule).length -> 0 <= a -> a <= e.input.size -> EvOK e (ev rule node a))
  {rule node a : Int} (r0 : 0 <= rule) (r1 : rule < e.core.rules.length) (n0 : 0 <= node) (n1 : node < (bodyOf e rule).length) (a0 : 0 <= a) (a1 : a <= e.input.size) {S s' : MS} {o : Out} (hs1 : SOK e S) (h : stepG e ev rule (at' (bodyOf e rule) node) (at' (at' e.parts rule) node) a S = .ok o s') : OutOK e o /\ SOK e s' /\ S.us <= s'.us := by
 have hrule := hw.rule rule node r0 r1 n0 n1
 have htwo := hw.two rule node r0 r1 n0 n1
 have hone := hw.one rule node r0 r1 n0 n1
 have hlast : ∀ r : Int, 0 <= r -> r < e.core.rules.length -> 0 <= lastOf e r /\ lastOf e r < (bodyOf e r).length := fun r h0 h1 => by have := (hw.body r h0 h1).1; simp only [lastOf]; omega
 have fin : ∀ {o' : Out} {S' : MS}, OutOK e o' /\ SOK e S' /\ S.us <= S'.us -> OutOK e o' /\ SOK e S' /\ S.us <= S'.us := id
 generalize at' (bodyOf e rule) node = n at *
 generalize at' (at' e.parts rule) node = p at *
 unfold stepG at h
 by_cases h1 : n.op = 1
 ·rw [if_pos h1] at h
  split at h
  ·split at h
   ·rename_i b hb
    split at h
    ·obtain ⟨rfl, rfl, g⟩ := matched_ok (e := e) h caps_nil ⟨by omega, by omega⟩
     exact fin ⟨g, hs1, Int.le_refl _⟩
    ·injection h with q1 q2; subst q1; subst q2; exact fin ⟨zero_ok e, hs1, Int.le_refl _⟩
   ·injection h with q1 q2; subst q1; subst q2; exact fin ⟨zero_ok e, hs1, Int.le_refl _⟩
  ·injection h with q1 q2; subst q1; subst q2; exact fin ⟨zero_ok e, hs1, Int.le_refl _⟩
 rw [if_neg h1] at h
 by_cases h3 : n.op = 3
 ·rw [if_pos h3] at h
  injection h with q1 q2; subst q1; subst q2; exact fin ⟨⟨⟨a0, a1⟩, caps_nil⟩, hs1, Int.le_refl _⟩
 rw [if_neg h3] at h
 by_cases h2 : n.op = 2
 ·rw [if_pos h2] at h
  obtain ⟨k0, k1⟩ := hrule h2
  obtain ⟨l0, l1⟩ := hlast _ k0 k1
  have hev := ih _ _ a k0 k1 l0 l1 a0 a1
  split at h
  ·cases hq : seedOf (n.rule, a) S.seeds with
   | some q =>
    rw [hq] at h
    injection h with q1 q2; subst q1; subst q2
    have := hs1.seed (n.rule, a)
    rw [hq] at this
    exact fin ⟨this, hs1, Int.le_refl _⟩
   | none =>
    rw [hq] at h
    obtain ⟨g1, g2, g3⟩ := growG_ok hev _ _ _ _ _ (hs1.set _ (zero_ok e)) h
    have g3 : S.us < s'.us := g3
    exact fin ⟨g1, g2, by omega⟩
  ·obtain ⟨g1, g2, g3⟩ := hev _ _ _ hs1 h
   exact fin ⟨g1, g2, by omega⟩
 rw [if_neg h2] at h
 by_cases h4 : n.op = 4
 ·rw [if_pos h4] at h
  obtain ⟨⟨p0, p1⟩, p2, p3⟩ := htwo (.inl h4)
  cases he : ev rule p.1 a S with
  | stop c s1 => rw [he] at h; cases h
  | ok o1 s1 =>
   rw [he] at h
   dsimp only at h
   obtain ⟨g1, g2, g3⟩ := ih _ _ a r0 r1 p0 p1 a0 a1 _ _ _ hs1 he
   split at h
   ·injection h with q1 q2; subst q1; subst q2; exact fin ⟨g1, g2, by omega⟩
   ·cases he2 : ev rule p.2 o1.fin s1 with
    | stop c s2 => rw [he2] at h; cases h
    | ok o2 s2 =>
     rw [he2] at h
     dsimp only at h
     obtain ⟨j1, j2, j3⟩ := ih _ _ o1.fin r0 r1 p2 p3 g1.fin.1 g1.fin.2 _ _ _ g2 he2
     split at h
     ·injection h with q1 q2; subst q1; subst q2; exact fin ⟨j1, j2, by omega⟩
     ·split at h
      ·cases h
      ·obtain ⟨rfl, rfl, g⟩ := matched_ok (e := e) h (caps_append g1.caps j1.caps (by omega)) j1.fin
       exact fin ⟨g, j2, by omega⟩
 rw [if_neg h4] at h
 by_cases h5 : n.op = 5
 ·rw [if_pos h5] at h
  obtain ⟨⟨p0, p1⟩, p2, p3⟩ := htwo (.inr h5)
  cases he : ev rule p.1 a S with
  | stop c s1 => rw [he] at h; cases h
  | ok o1 s1 =>
   rw [he] at h
   dsimp only at h
   obtain ⟨g1, g2, g3⟩ := ih _ _ a r0 r1 p0 p1 a0 a1 _ _ _ hs1 he
   split at h
   ·injection h with q1 q2; subst q1; subst q2; exact fin ⟨g1, g2, by omega⟩
   ·obtain ⟨j1, j2, j3⟩ := ih _ _ a r0 r1 p2 p3 a0 a1 _ _ _ g2 h
    exact fin ⟨j1, j2, by omega⟩
 rw [if_neg h5] at h
 by_cases h6 : n.op = 6
 ·rw [if_pos h6] at h
  obtain ⟨p0, p1⟩ := hone (.inl h6)
  obtain ⟨g1, g2, g3⟩ := starG_ok (fun b b0 b1 => ih _ _ b r0 r1 p0 p1 b0 b1) _ _ _ _ _ _ a0 a1 caps_nil hs1 h
  exact fin ⟨g1, g2, by omega⟩
 rw [if_neg h6] at h
 by_cases h7 : n.op = 7
 ·rw [if_pos h7] at h
  obtain ⟨p0, p1⟩ := hone (.inr (.inl h7))
  cases he : ev rule p.1 a S with
  | stop c s1 => rw [he] at h; cases h
  | ok o1 s1 =>
   rw [he] at h
   dsimp only at h
   obtain ⟨g1, g2, g3⟩ := ih _ _ a r0 r1 p0 p1 a0 a1 _ _ _ hs1 he
   split at h
   ·injection h with q1 q2; subst q1; subst q2; exact fin ⟨zero_ok e, g2, by omega⟩
   ·obtain ⟨rfl, rfl, g⟩ := matched_ok (e := e) h caps_nil ⟨a0, a1⟩
    exact fin ⟨g, g2, by omega⟩
 rw [if_neg h7] at h
 by_cases h8 : n.op = 8
 ·rw [if_pos h8] at h
  obtain ⟨p0, p1⟩ := hone (.inr (.inr h8))
  cases he : ev rule p.1 a S with
  | stop c s1 => rw [he] at h; cases h
  | ok o1 s1 =>
   rw [he] at h
   dsimp only at h
   obtain ⟨g1, g2, g3⟩ := ih _ _ a r0 r1 p0 p1 a0 a1 _ _ _ hs1 he
   split at h
   ·injection h with q1 q2; subst q1; subst q2; exact fin ⟨g1, g2, by omega⟩
   ·split at h
    ·cases h
    ·rename_i hle
     have ht := trees_le o1.forest 0 0
     have hc : o1.forest.length <= 1048576 := g1.caps.1
     have hle' : 1 + o1.forest.length <= 1048576 := Nat.le_of_not_lt hle
     obtain ⟨rfl, rfl, g⟩ := matched_ok (e := e) h ⟨by show _ <= 1048576; rw [List.length_cons]; omega, fun c hc' => by
      rcases List.mem_cons.1 hc' with rfl | hc'
      ·dsimp only; omega
      ·exact g1.caps.2 c hc'⟩ g1.fin
     exact fin ⟨g, g2, by omega⟩
 rw [if_neg h8] at h
 obtain ⟨rfl, rfl, g⟩ := matched_ok (e := e) h caps_nil ⟨a0, a1⟩
 exact fin ⟨g, hs1, Int.le_refl _⟩
theorem begun_ok {e : Env} (hw : WF e) {d : Nat} {s : MS} (hs : SOK e s) (hus : ¬ s.us = e.limS) : SOK e (begun e d s) :=
 ⟨by have := hs.us; simp only [begun]; omega, by have := hs.ud; have := hw.limD; simp only [begun]; omega, hs.seeds⟩
theorem evalD_ok {e : Env} (hw : WF e) : ∀ (d : Nat) (rule node a : Int), 0 <= rule -> rule < e.core.rules.length -> 0 <= node -> node < (bodyOf e rule).length -> 0 <= a -> a <= e.input.size -> EvOK e (evalD e d rule node a)
 | 0, rule, node, a, _, _, _, _, _, _ => fun s o s' _ h => by cases h
 | d + 1, rule, node, a, r0, r1, n0, n1, a0, a1 => fun s o s' hs h => by
  rw [evalD] at h
  split at h
  ·cases h
  ·rename_i hus
   obtain ⟨g1, g2, g3⟩ := stepG_ok hw (evalD_ok hw d) r0 r1 n0 n1 a0 a1 (begun_ok hw hs hus) h
   exact ⟨g1, g2, by simp only [begun] at g3; omega⟩
end Go.AL
namespace Go.AL
open Go.Proofs
attribute [local irreducible] AWp AList RStep seqQ blockQ retQ DSteps DT awR rQ SStep
abbrev EvR (e : Env) (o : Out) (s : MS) : CE -> List AObj -> Prop := fun r σ' => r = .ret (outV o) /\ ∃ g, σ' = .cells (runC e s.ud s.us 1) :: .ext (seedsX s.seeds) :: g
/-- What a call of 'step' comes to, d steps being let lie in one another. -/
def StepC (e : Env) (d : Nat) : Prop := ∀ (rule node a : Int) (s : MS) (o : Out) (s' : MS), 0 <= rule -> rule < e.core.rules.length -> 0 <= node -> node < (bodyOf e rule).length -> 0 <= a -> a <= e.input.size -> SOK e s -> evalD e d rule node a s = .ok o s' ->
 ACalls Tryz.prog 42 [.c (.ptr 0 0), i64 rule, i64 node, i64 a, i64 (e.limD + 1 - d)] (msσ e s) (EvR e o s')
theorem whole_c {e : Env} (hw : WF e) {d : Nat} (hd : (d : Int) <= e.limD) (H : StepC e d) {rule a : Int} {s s' : MS} {o : Out} (r0 : 0 <= rule) (r1 : rule < e.core.rules.length) (a0 : 0 <= a) (a1 : a <= e.input.size) (hs : SOK e s) (h : evalD e d rule (lastOf e rule) a s = .ok o s') :
  ACalls Tryz.prog 22 [.c (.ptr 0 0), i64 rule, i64 a, i64 (e.limD + 1 - d)] (msσ e s) (EvR e o s') := by
 have hb : 0 < (at' e.core.rules rule).body.length /\ (at' e.core.rules rule).body.length <= 16384 := hw.body rule r0 r1
 have hl := hw.limD
 have hn := hw.nr
 have hst := H rule (lastOf e rule) a s o s' r0 r1 (by simp only [lastOf, bodyOf]; omega) (by simp only [lastOf, bodyOf]; omega) a0 a1 hs h
 refine acalls_by Tryz.func22 Tryz.ntmps22 ?_
 simp only [argFr]
 repeat' (first| (show lCall; refine k_callCX 0 1 hst rfl rfl (by decide) rfl rfl rfl ?_)| (show eRet; refine retC1 Tryz.results22 ?_)| (refine wS ?_)| fail)
 exact ⟨rfl, _, rfl⟩
abbrev zeroC : List C := zC (Value.agg #[Value.int IntKind.i64 0, Value.int IntKind.i64 0, Value.string ⟨#[]⟩, Value.slice none 0 0])
abbrev runσ (e : Env) (s : MS) : List AObj := [.cells (runC e s.ud s.us 1), .ext (seedsX s.seeds), .cells zeroC]
theorem star_c {e : Env} (hw : WF e) {d : Nat} (hd : (d : Int) <= e.limD) (H : StepC e d) {rule part a : Int} {s s' : MS} {o : Out} {n : Nat} (r0 : 0 <= rule) (r1 : rule < e.core.rules.length) (p0 : 0 <= part) (p1 : part < (bodyOf e rule).length) (a0 : 0 <= a) (a1 : a <= e.input.size) (hs : SOK e s) (h : starG (fun a s => evalD e d rule part a s) n a [] s = .ok o s') :
  ACalls Tryz.prog 69 [.c (.ptr 0 0), i64 rule, i64 part, i64 a, i64 (e.limD + 1 - d)] (msσ e s) (EvR e o s') := by
 have hl := hw.limD
 have hin := hw.input
 refine acalls_by Tryz.func69 Tryz.ntmps69 ?_
 simp only [argFr]
 repeat' (first| (refine wS ?_)| fail)
 refine kw_own 11 50 4 ?_
 refine aw_roundsP (ι := Nat × Int × List Cap × MS) 3 (fun i => runσ e i.2.2.2) (fun i n => [(0, .c (.ptr 0 0)), (1, i64 rule), (2, i64 part), (3, i64 i.2.1), (4, i64 (e.limD + 1 - d)), (10, .c (.ptr 2 0)), (11, .c (.ms (n + 0) i.2.2.1.length))]) (fun i n => [.arr 50 4 (i.2.2.1.map encCap)]) (fun i => (0 <= i.2.1 /\ i.2.1 <= e.input.size) /\ CapsOK i.2.2.1 /\ SOK e i.2.2.2 /\ starG (fun a s => evalD e d rule part a s) i.1 i.2.1 i.2.2.1 i.2.2.2 = .ok o s') (fun i => i.1) (n, a, [], s) 3 (fun _ => rfl) ⟨⟨a0, a1⟩, caps_nil, hs, h⟩ (by omega) (by simp) rfl rfl (by simp [Fr.get]) ?_
 rintro ⟨k, a, f, s⟩ n g ⟨⟨a0, a1⟩, hf, hs, h⟩ hg
 dsimp only at a0 a1 hf hs h hg ⊢
 have hg3 : 3 + g.length = n := by simp at hg; omega
 clear hg
 cases k with
 | zero => cases h
 | succ k =>
  simp only [starG] at h
  cases he : evalD e d rule part a s with
  | stop c s1 => rw [he] at h; cases h
  | ok o1 s1 =>
   rw [he] at h
   dsimp only at h
   have hst := H rule part a s o1 s1 r0 r1 p0 p1 a0 a1 hs he
   obtain ⟨g1, g2, g3⟩ := evalD_ok hw d rule part a r0 r1 p0 p1 a0 a1 s o1 s1 hs he
   have hfl : f.length <= 1048576 := hf.1
   have hol : o1.forest.length <= 1048576 := g1.caps.1
   by_cases hk0 : o1.kind = 0
   ·rw [if_pos hk0] at h
    obtain ⟨rfl, rfl, g4⟩ := matched_ok (e := e) h hf ⟨a0, a1⟩
    have hm := matched_c a f hf.1
    repeat' (first| (refine aw_T ?_ (hb := decide_eq_true hk0))| (show lAt 23; refine k_freezeA (f := encCap) 11 ?_)| (show lCall; refine k_callCX 0 1 hst rfl rfl (by decide) rfl rfl (σ' := runσ e s' ++ (g ++ [.arr 50 4 (f.map encCap)])) rfl ?_)| (show lOp; refine op0 (by (show kCall; exact b_call (hm))) ?_)| (show eRet; refine retC1 Tryz.results69 ?_)| (refine wS ?_)| fail)
    exact ⟨rfl, _, rfl⟩
   rw [if_neg hk0] at h
   by_cases hk2 : o1.kind = 2
   ·rw [if_pos hk2] at h
    injection h with q1 q2; subst q1; subst q2
    repeat' (first| (refine aw_T ?_ (hb := decide_eq_true hk2))| (refine aw_F ?_ (hb := decide_eq_false hk0))| (show lCall; refine k_callCX 0 1 hst rfl rfl (by decide) rfl rfl (σ' := runσ e s1 ++ (g ++ [.arr 50 4 (f.map encCap)])) rfl ?_)| (show eRet; refine retC1 Tryz.results69 ?_)| (refine wS ?_)| fail)
    exact ⟨rfl, _, rfl⟩
   rw [if_neg hk2] at h
   split at h
   ·cases h
   rename_i hle
   have hle : ¬ f.length + o1.forest.length > 1048576 := hle
   repeat' (first| (refine aw_F ?_ (hb := dF (by assumption)))| (refine aw_F ?_ (hb := eF))| (show lCall; first | refine k_callCX 0 1 hst rfl rfl (by decide) rfl rfl (σ' := runσ e s1 ++ (g ++ [.arr 50 4 (f.map encCap)])) rfl ?_ | refine k_appSl (f := encCap) ?_)| (refine wS ?_)| fail)
   exact ⟨(k, o1.fin, f ++ o1.forest, s1), n + 2, ⟨g1.fin, caps_append hf g1.caps (by show _ <= 1048576; omega), g2, h⟩, by omega, by simp; omega, rfl, dropGP hg3 (by simp) rfl, by simp [Fr.get], by dsimp only; omega⟩
end Go.AL
namespace Go.AL
open Go.Proofs
abbrev keyV (a b : Int) : AV := .agg [.p (lI a), .p (lI b)]
theorem out_zero0 (m : List Loc) (w : World) (F : Nat -> Nat -> Prop) : RV0 m w F (outV zeroO) (.agg #[.int .i64 0, .int .i64 0, .string ⟨#[]⟩, .slice none 0 0]) := out_zero m w F
theorem outz_not_tup (l : List AV) : outV zeroO ≠ .tup l := fun h => by cases h
section
variable {N : NN} {Q : AE -> St -> Prop} {ops : Array Oper} {rest : List Oper} {σ σ' : List AObj} {fr : Fr}
variable {d : Option Nat} {ty : TypeId} {pos : String} {aft : Array Edge} {g : Option (Nat × Bool)}
theorem getD_seeds (k : Int × Int) (l : List ((Int × Int) × Out)) : (lookM k (seedsE l)).getD (outV zeroO) = outV ((seedOf k l).getD zeroO) := by
 rw [look_seeds]; cases seedOf k l <;> rfl
theorem isSome_seeds (k : Int × Int) (l : List ((Int × Int) × Out)) : (lookM k (seedsE l)).isSome = (seedOf k l).isSome := by
 rw [look_seeds]; cases seedOf k l <;> rfl
theorem b_seedOk {id : Nat} {l : List ((Int × Int) × Out)} {x y : Operand} {a b : Int} (o : Out) (c : Bool) (h : (seedOf (a, b) l).getD zeroO = o) (hc : (seedOf (a, b) l).isSome = c) (hx : ev fr x = .c (.mpr id) := by exact rfl) (hy : ev fr y = keyV a b := by exact rfl) (ho : σ[id]? = some (.ext (seedsX l)) := by first | exact rfl | exact getG0 (by assumption) rfl | exact getG (by assumption) rfl | exact getGP (by assumption) rfl rfl | exact getL (getG0 (by assumption) rfl) | exact getL (getG (by assumption) rfl)) (hg : goodConst y = true := by rfl) :
  RStep Tryz.prog σ fr ⟨d, .lookup 75 x y true, ty, pos, aft, g⟩ (.tup [outV o, bl c]) :=
 b_lookupOk (enc := encII) (yv := keyV a b) Tryz.underlying75 ho out_zero0 outz_not_tup (pure_seeds l) ((getD_seeds _ _).trans (congrArg outV h)) ((isSome_seeds _ _).trans hc) hx hy hg
theorem b_seedAt {id : Nat} {l : List ((Int × Int) × Out)} {x y : Operand} {a b : Int} (o : Out) (h : (seedOf (a, b) l).getD zeroO = o) (hx : ev fr x = .c (.mpr id) := by exact rfl) (hy : ev fr y = keyV a b := by exact rfl) (ho : σ[id]? = some (.ext (seedsX l)) := by first | exact rfl | exact getG0 (by assumption) rfl | exact getG (by assumption) rfl | exact getGP (by assumption) rfl rfl | exact getL (getG0 (by assumption) rfl) | exact getL (getG (by assumption) rfl)) (hg : goodConst y = true := by rfl) :
  RStep Tryz.prog σ fr ⟨d, .lookup 75 x y false, ty, pos, aft, g⟩ (outV o) :=
 b_lookup (enc := encII) (yv := keyV a b) Tryz.underlying75 ho out_zero (pureV_seeds l) ((getD_seeds _ _).trans (congrArg outV h)) hx hy hg
theorem k_seedSet {id : Nat} {l : List ((Int × Int) × Out)} {x y z : Operand} (a b : Int) (o : Out) (k : AList Tryz.prog N ops Q rest ⟨fr, σ'⟩) (hx : ev fr x = .c (.mpr id) := by exact rfl) (hy : ev fr y = keyV a b := by exact rfl) (hz : ev fr z = outV o := by exact rfl) (ho : σ[id]? = some (.ext (seedsX l)) := by first | exact rfl | exact getG0 (by assumption) rfl | exact getG (by assumption) rfl | exact getGP (by assumption) rfl rfl | exact getL (getG0 (by assumption) rfl) | exact getL (getG (by assumption) rfl)) (hσ : σ.set id (.ext (seedsX (setS (a, b) o l))) = σ' := by first | exact setG0 (by assumption) (by conv => lhs; simp only [List.set, List.cons_append, List.nil_append]) | exact setG (by assumption) (by conv => lhs; simp only [List.set, List.cons_append, List.nil_append]) | exact setGP (by assumption) (by conv => lhs; simp only [List.set, List.cons_append, List.nil_append]) rfl | exact setP rfl (by conv => lhs; simp only [List.set, List.cons_append, List.nil_append]) | (conv => lhs; simp only [List.set, List.cons_append, List.nil_append])) (hg : goodConst y = true := by rfl) (hgz : goodConst z = true := by rfl) :
  AList Tryz.prog N ops Q (⟨none, .mapUpdate 75 x y z, ty, pos, aft, none⟩ :: rest) ⟨fr, σ⟩ :=
 k_mapSet (enc := encII) (yv := keyV a b) (zv := outV o) Tryz.underlying75 ho ((congrArg (fun q => σ.set id (.ext (MapX encII q))) (set_seeds (a, b) o l)).trans hσ) k hx hy hz rfl hg hgz
theorem k_seedDel {id : Nat} {l : List ((Int × Int) × Out)} {x y : Operand} {ts : Array TypeId} (a b : Int) (k : AList Tryz.prog N ops Q rest ⟨fr, σ'⟩) (hx : ev fr x = .c (.mpr id) := by exact rfl) (hy : ev fr y = keyV a b := by exact rfl) (ho : σ[id]? = some (.ext (seedsX l)) := by first | exact rfl | exact getG0 (by assumption) rfl | exact getG (by assumption) rfl | exact getGP (by assumption) rfl rfl | exact getL (getG0 (by assumption) rfl) | exact getL (getG (by assumption) rfl)) (hσ : σ.set id (.ext (seedsX (delS (a, b) l))) = σ' := by first | exact setG0 (by assumption) (by conv => lhs; simp only [List.set, List.cons_append, List.nil_append]) | exact setG (by assumption) (by conv => lhs; simp only [List.set, List.cons_append, List.nil_append]) | exact setGP (by assumption) (by conv => lhs; simp only [List.set, List.cons_append, List.nil_append]) rfl | exact setP rfl (by conv => lhs; simp only [List.set, List.cons_append, List.nil_append]) | (conv => lhs; simp only [List.set, List.cons_append, List.nil_append])) (ht : ts[0]? = some 75 := by rfl) (hg : goodConst y = true := by rfl) :
  AList Tryz.prog N ops Q (⟨none, .call { callee := .builtin .delete, args := #[x, y], argTypes := ts }, ty, pos, aft, none⟩ :: rest) ⟨fr, σ⟩ :=
 k_mapDel (enc := encII) (yv := keyV a b) Tryz.underlying75 ho ((congrArg (fun q => σ.set id (.ext (MapX encII q))) (del_seeds (a, b) l)).trans hσ) k hx hy hg ht
end
end Go.AL
namespace Go.AL
open Go.Proofs
attribute [local irreducible] AWp AList RStep seqQ blockQ retQ DSteps DT DU awR rQ SStep
abbrev outC (o : Out) : List C := [.p (lI o.kind), .p (lI o.fin), .p (lS o.label), .p (forestP o.forest)]
abbrev entGrow (o : Out) : Ent := ⟨9, 10, fun n => .c (.ptr n 0), .cells zeroC, some 10, .cells (outC o)⟩
theorem grow_seed {e : Env} {rule a dep : Int} {s : MS} {o : Out} (h : seedOf (rule, a) s.seeds = some o) : ACalls Tryz.prog 67 [.c (.ptr 0 0), i64 rule, i64 a, i64 dep] (msσ e s) (EvR e o s) := by
 have hl : (seedOf (rule, a) s.seeds).getD zeroO = o := by rw [h]; rfl
 have hb : (seedOf (rule, a) s.seeds).isSome = true := by rw [h]; rfl
 refine acalls_by Tryz.func67 Tryz.ntmps67 ?_
 simp only [argFr]
 repeat' (first| (show cAtD 2; refine aw_u [entGrow o] [0,1,2,3,4,5,6,7,8,9,10] [11] Tryz_mixed ?_)| (show DU _ _ _ _ _ _ _ [] _ _; refine du_nil1 ?_)| (show DU _ _ _ _ _ _ _ _ _ _; first | refine du_app 0 (fun G => s_alloc) ?_ | refine du_set 0 (e := entGrow o) (fun G id hid => t_store (hσ := rfl) (ho := hid)) ?_)| (show DU _ _ _ _ _ _ _ _ (Oper.mk (some _) _ _ _ _ none :: _) _; refine du_still (fun G => by first | (show kLookup; exact b_seedOk o true hl hb) | exact rS) ?_)| (show eRet; refine retC1 Tryz.results67 ?_)| (refine wS ?_)| fail)
 exact ⟨rfl, _, rfl⟩
/-- A seed is grown. -/
abbrev growσ (e : Env) (s : MS) (k : Int × Int) : List AObj := [.cells (runC e s.ud s.us 1), .ext (seedsX s.seeds), .cells zeroC, .cells [.p (lI k.1), .p (lI k.2)], .cells (outC zeroO)]
theorem grow_c {e : Env} (hw : WF e) {d : Nat} (hd : (d : Int) <= e.limD) (H : StepC e d) {rule a : Int} {s s' : MS} {o : Out} {n : Nat} (r0 : 0 <= rule) (r1 : rule < e.core.rules.length) (a0 : 0 <= a) (a1 : a <= e.input.size) (hs : SOK e s) (hn : seedOf (rule, a) s.seeds = none)
  (h : growG (fun s => evalD e d rule (lastOf e rule) a s) (rule, a) n { s with seeds := setS (rule, a) zeroO s.seeds } = .ok o s') :
  ACalls Tryz.prog 67 [.c (.ptr 0 0), i64 rule, i64 a, i64 (e.limD - d)] (msσ e s) (EvR e o s') := by
 have hl := hw.limD
 have hin := hw.input
 have hlk : (seedOf (rule, a) s.seeds).getD zeroO = zeroO := by rw [hn]; rfl
 have hbk : (seedOf (rule, a) s.seeds).isSome = false := by rw [hn]; rfl
 refine acalls_by Tryz.func67 Tryz.ntmps67 ?_
 simp only [argFr]
 repeat' (first| (show cAtD 2; refine aw_u [entGrow zeroO] [0,1,2,3,4,5,6,7,8,9,10] [11] Tryz_mixed ?_)| (show lMapUpdate; refine k_told 33 tells_zero (k_seedSet rule a zeroO ?_))| (show DU _ _ _ _ _ _ _ [] _ _; refine du_nil1 ?_)| (show DU _ _ _ _ _ _ _ _ _ _; first | refine du_app 0 (fun G => s_alloc) ?_ | refine du_set 0 (e := entGrow zeroO) (fun G id hid => t_store (hσ := rfl) (ho := hid)) ?_)| (show DU _ _ _ _ _ _ _ _ (Oper.mk (some _) _ _ _ _ none :: _) _; refine du_still (fun G => by first | (show kLookup; exact b_seedOk zeroO false hlk hbk) | exact rS) ?_)| (refine wS ?_)| fail)
 refine aw_roundsP (ι := Nat × MS) 5 (fun i => growσ e i.2 (rule, a)) (fun i n => [(0, .c (.ptr 0 0)), (1, i64 rule), (2, i64 a), (3, i64 (e.limD - d)), (8, .c (.ptr 2 0)), (9, .c (.ptr 3 0))]) (fun i n => []) (fun i => SOK e i.2 /\ growG (fun s => evalD e d rule (lastOf e rule) a s) (rule, a) i.1 i.2 = .ok o s') (fun i => i.1) (n, { s with seeds := setS (rule, a) zeroO s.seeds }) 5 (fun _ => rfl) ⟨hs.set _ (zero_ok e), h⟩ (by omega) (by simp) rfl rfl (by simp [Fr.get]) ?_
 rintro ⟨k, s⟩ n g ⟨hs, h⟩ hg
 dsimp only at hs h hg ⊢
 have hg5 : 5 + g.length = n := by simp at hg; omega
 clear hg
 cases k with
 | zero => cases h
 | succ k =>
  simp only [growG] at h
  cases he : evalD e d rule (lastOf e rule) a s with
  | stop c s1 => rw [he] at h; cases h
  | ok o1 s1 =>
   rw [he] at h
   dsimp only at h
   have hb := hw.body rule r0 r1
   obtain ⟨g1, g2, g3⟩ := evalD_ok hw d rule (lastOf e rule) a r0 r1 (by simp only [lastOf]; omega) (by simp only [lastOf]; omega) a0 a1 s o1 s1 hs he
   have hwh := whole_c hw hd H r0 r1 a0 a1 hs he
   have hdep : e.limD + 1 - d = e.limD - d + 1 := by omega
   rw [hdep] at hwh
   generalize hsd : (seedOf (rule, a) s1.seeds).getD zeroO = sd at h
   have hG := h
   clear h
   repeat' (first| (show cAtD 7; refine' aw_dt 7 6 (growσ e s1 (rule, a) ++ (g ++ [.cells (outC o1), .cells zeroC])) Tryz_mixed _)| (show lStore; first | refine k_store (l' := outC o1) ?_ | refine k_store (l' := outC sd) ?_)| (show lMapUpdate; refine k_seedSet rule a o1 ?_)| (show lCall; first | refine k_callCX 0 1 hwh rfl rfl (by decide) rfl rfl (σ' := growσ e s1 (rule, a) ++ (g ++ [])) rfl ?_ | refine k_seedDel rule a ?_)| (show tNil; refine dt_nil ?_)| (show tSome; first | refine dt_turn (by exact t_alloc) ?_ | (refine dt_pre2 (by first | (show kLookup; exact b_seedAt sd hsd) | exact rS) (by first | (show kLookup; exact b_seedAt sd hsd) | exact rS) ?_))| (show eRet; refine retC1 Tryz.results67 ?_)| (refine wS ?_)| (show lGu; refine al_splitD (fun h => ?_) (fun h => ?_))| (show cIf; refine aw_ifD (fun h => ?_) (fun h => ?_))| (exfalso; omega))
   all_goals first
    | (rw [if_pos ⟨by assumption, by first | exact .inl (by assumption) | exact .inr (by assumption)⟩] at hG
       exact ⟨(k, _), n + 2, ⟨g2.set _ g1, hG⟩, by omega, by simp; omega, rfl, dropGP hg5 (by simp) rfl, by simp [Fr.get], by dsimp only; omega⟩)
    | (rw [if_neg (by rintro ⟨q1, q2 | q2⟩ <;> first | omega | contradiction), if_pos (by first | exact .inl (by assumption) | exact .inr (by assumption))] at hG
       injection hG with q1 q2; subst q1; subst q2
       exact ⟨rfl, _, rfl⟩)
    | (rw [if_neg (by rintro ⟨q1, q2 | q2⟩ <;> first | omega | contradiction), if_neg (by rintro (q2 | q2) <;> first | omega | contradiction)] at hG
       injection hG with q1 q2; subst q1; subst q2
       exact ⟨rfl, _, rfl⟩)
end Go.AL
namespace Go.AL
open Go.Proofs
attribute [local irreducible] AWp AList RStep seqQ blockQ retQ DSteps DT DU awR rQ SStep
abbrev nodeC (n : Node) : List C := (encNode n).map .p
abbrev stepσ (e : Env) (s : MS) (n : Node) : List AObj := [.cells (runC e s.ud s.us 1), .ext (seedsX s.seeds), .cells zeroC, .cells (nodeC n)]
theorem fr_sub {fr : Fr} : ∀ {fr' : Fr}, (∀ q ∈ fr', fr.get q.1 = q.2) -> ∀ t, fr'.get t = fr.get t \/ fr'.get t = .c .any
 | [], _, t => .inr rfl
 | (q, v) :: r, h, t => by
  simp only [Fr.get]
  by_cases hq : q = t
  ·subst hq; rw [if_pos rfl]; exact .inl (h (q, v) (List.mem_cons_self ..)).symm
  ·rw [if_neg hq]; exact fr_sub (fun p hp => h p (List.mem_cons_of_mem _ hp)) t
theorem kw_sub {P : Program} {N : NN} {Q : AE -> St -> Prop} {σ : List AObj} {fr : Fr} {c : Code} (fr' : Fr) (k : AWp P N c Q ⟨fr', σ⟩) (h : ∀ q ∈ fr', fr.get q.1 = q.2) : AWp P N c Q ⟨fr, σ⟩ := by
 refine awp_of (s' := ⟨fr', σ⟩) (fun m F a w hr => ⟨m, F, ⟨hr.inv, fun t => ?_, hr.size, hr.defers⟩, Step.refl ..⟩) k
 rcases fr_sub h t with e | e
 ·show RV m w F (fr'.get t) _
  rw [e]; exact hr.fr t
 ·show RV m w F (fr'.get t) _
  rw [e]; exact trivial
theorem matched_nil (fin : Int) : ACalls Tryz.prog 66 [i64 fin, .c (.p (.lit (.slice none 0 0)))] [] (fun r _ => r = .ret (outV ⟨1, fin, ⟨#[]⟩, []⟩)) :=
 acalls_arg (matched_c fin [] (by simp)) rfl fun j x x' h1 h2 => by
  match j, h1, h2 with
  | 0, h1, h2 => injection h1 with h1; injection h2 with h2; subst h1; subst h2; exact Tells.refl _
  | 1, h1, h2 => injection h1 with h1; injection h2 with h2; subst h1; subst h2; exact tells_nil
  | n + 2, h1, h2 => cases h1
theorem tells_lab (k a : Int) (l : ByteArray) : Tells (.agg [.p (lI k), .p (lI a), .p (lS l), .p (.lit (.slice none 0 0))]) (outV ⟨k, a, l, []⟩) := tells_agg (.cons (.refl _) (.cons (.refl _) (.cons (.refl _) (.cons tellsC_nil .nil))))
theorem matchedR_ok {fin : Int} {f : List Cap} {s s' : MS} {o : Out} (h : matchedR fin f s = .ok o s') : f.length <= maxS /\ o = ⟨1, fin, ⟨#[]⟩, f⟩ /\ s' = s := by
 unfold matchedR at h
 split at h
 ·cases h
 ·injection h with h1 h2
  exact ⟨by omega, h1.symm, h2.symm⟩
theorem step_c {e : Env} (hw : WF e) {d : Nat} (hd : (d : Int) <= e.limD) (H : StepC e d) : StepC e (d + 1) := by
 intro rule node a s o s' r0 r1 n0 n1 a0 a1 hs h
 have hl := hw.limD
 have hls := hw.limS
 have hin := hw.input
 have hus := hs.us
 have hud := hs.ud
 have hnr := hw.nr
 have hpl := hw.parts
 have hb : 0 < (at' e.core.rules rule).body.length /\ (at' e.core.rules rule).body.length <= 16384 := hw.body rule r0 r1
 have hpp := hw.part rule r0 r1
 have n1' : node < (at' e.core.rules rule).body.length := n1
 have hdep : e.limD + 1 - ((d + 1 : Nat) : Int) = e.limD - d := by omega
 rw [hdep]
 simp only [evalD] at h
 split at h
 ·cases h
 rename_i hne
 have hrule := hw.rule rule node r0 r1 n0 n1
 have htwo := hw.two rule node r0 r1 n0 n1
 have hone := hw.one rule node r0 r1 n0 n1
 have H' : ∀ (rule node a : Int) (s : MS) (o : Out) (s' : MS), 0 <= rule -> rule < e.core.rules.length -> 0 <= node -> node < (bodyOf e rule).length -> 0 <= a -> a <= e.input.size -> SOK e s -> evalD e d rule node a s = .ok o s' ->
   ACalls Tryz.prog 42 [.c (.ptr 0 0), i64 rule, i64 node, i64 a, i64 (e.limD - d + 1)] (msσ e s) (EvR e o s') := fun rule node a s o s' q1 q2 q3 q4 q5 q6 q7 q8 => by
  have := H rule node a s o s' q1 q2 q3 q4 q5 q6 q7 q8
  rwa [show e.limD + 1 - d = e.limD - d + 1 by omega] at this
 refine acalls_by Tryz.func42 Tryz.ntmps42 ?_
 simp only [argFr]
 repeat' (first| (refine aw_F ?_ (hb := eF))| (show lAlloc; refine k_alloc ?_)| (show lStore; first | refine k_store (l' := runC e s.ud (s.us + 1) 1) ?_ | refine k_store (l' := runC e (max s.ud (e.limD - d)) (s.us + 1) 1) ?_ | refine k_store (l' := nodeC (at' (at' e.core.rules rule).body node)) ?_)| (show lOp; refine op0 (by first | (show kAssign; exact b_assign) | (show kMove; exact b_move) | (show kCall; exact b_max) | (show kLoad; first | exact b_loadRp | exact b_loadPtr) | (show kFieldaddr; first | exact b_fieldRp | exact b_fieldPtr) | (show kIndexaddr; exact m_indexSl) | (show kBinopAdd; exact b_add) | (show kBinopEql; exact b_eql) | (show kBinopGtr; exact b_gtr) | (show kNilcheck; exact b_nilPtr)) ?_)| (show lNil; refine al_nil ?_)| (show qSeq; refine n_seq ?_)| (show qBlk; refine n_block ?_)| (show cReg; refine aw_reg ?_)| (show cSeq; refine aw_seq ?_)| (show cBlk; refine aw_block ?_)| (show cSkip; refine aw_skip ?_)| (show cRegD; refine aw_drN Tryz_mixed ?_)| (show dOp; refine ds_op (by first | (show kAssign; exact b_assign) | (show kMove; exact b_move) | (show kLoad; first | exact b_loadRp | exact b_loadPtr) | (show kFieldaddr; exact b_fieldPtr) | (show kIndexaddr; first | exact m_indexSl | exact b_indexArrRp) | (show kBinopEql; exact b_eql) | (show kNilcheck; exact b_nilPtr)) ?_)| (show dNil; refine ds_nil ?_))
 refine kw_sub (σ := stepσ e (begun e d s) (at' (at' e.core.rules rule).body node)) [(0, .c (.ptr 0 0)), (1, i64 rule), (2, i64 node), (3, i64 a), (4, i64 (e.limD - d)), (10, .c (.ptr 2 0)), (11, .c (.ptr 3 0)), (12, i64 (at' (at' e.parts rule) node).1), (13, i64 (at' (at' e.parts rule) node).2), (97, i64 (at' (at' e.core.rules rule).body node).op), (98, bl (decide ((at' (at' e.core.rules rule).body node).op = 1)))] ?_ (by simp [Fr.get])
 simp only [bodyOf] at h hrule htwo hone
 clear hdep
 generalize at' (at' e.core.rules rule).body node = nd at h hrule htwo hone ⊢
 generalize at' (at' e.parts rule) node = pt at h htwo hone ⊢
 have hs1 : SOK e (begun e d s) := ⟨⟨by simp only [begun]; omega, by simp only [begun]; omega⟩, ⟨by simp only [begun]; omega, by simp only [begun]; omega⟩, hs.seeds⟩
 generalize begun e d s = s1 at h hs1 ⊢
 unfold stepG at h
 by_cases p1 : nd.op = 1
 ·rw [if_pos p1] at h
  by_cases ha : a < e.input.size
  ·rw [if_pos ha] at h
   obtain ⟨b, hb⟩ : ∃ b, e.input[a.toNat]? = some b := ⟨_, getElem?_pos e.input a.toNat (by omega)⟩
   rw [hb] at h
   dsimp only at h
   by_cases hh : hasB nd.cl b = true
   ·rw [if_pos hh] at h
    obtain ⟨_, rfl, rfl⟩ := matchedR_ok h
    repeat' (first| (refine aw_T ?_ (hb := dT (by assumption)))| (refine aw_T ?_ (hb := hh))| (show lOp; refine op0 (by (show kCall; exact b_call (matched_nil (a + 1)))) ?_)| (show dGu; (refine ds_yes (by first | (show kCall; exact b_call (has_c nd.cl b)) | (show kIndex; exact b_indexStr hb)) ?_))| (show eRet; refine retC1 Tryz.results42 ?_)| (refine wS ?_)| fail)
    exact ⟨rfl, _, rfl⟩
   ·rw [if_neg hh] at h
    injection h with q1 q2; subst q1; subst q2
    repeat' (first| (refine aw_T ?_ (hb := dT (by assumption)))| (refine aw_F ?_ (hb := by simpa using hh))| (show lStore; refine (k_told 121 tells_zero (k_store ?_)))| (show dGu; (refine ds_yes (by first | (show kCall; exact b_call (has_c nd.cl b)) | (show kIndex; exact b_indexStr hb)) ?_))| (show eRet; refine retC1 Tryz.results42 ?_)| (refine wS ?_)| fail)
    exact ⟨rfl, _, rfl⟩
  ·rw [if_neg ha] at h
   injection h with q1 q2; subst q1; subst q2
   repeat' (first| (refine aw_T ?_ (hb := dT (by assumption)))| (show lStore; refine (k_told 121 tells_zero (k_store ?_)))| (show eRet; refine retC1 Tryz.results42 ?_)| (refine wS ?_)| fail)
   exact ⟨rfl, _, rfl⟩
 rw [if_neg p1] at h
 by_cases p3 : nd.op = 3
 ·rw [if_pos p3] at h
  injection h with q1 q2; subst q1; subst q2
  repeat' (first| (refine aw_T ?_ (hb := dT (by assumption)))| (refine aw_F ?_ (hb := eF))| (show lStore; refine (k_told 127 (tells_lab 2 a nd.name) (k_store ?_)))| (show eRet; refine retC1 Tryz.results42 ?_)| (refine wS ?_)| fail)
  exact ⟨rfl, _, rfl⟩
 rw [if_neg p3] at h
 by_cases p2 : nd.op = 2
 ·rw [if_pos p2] at h
  have hr := hrule p2
  have hhd := hw.heads
  have hbr := hw.body nd.rule hr.1 hr.2
  cases hh : at' e.heads nd.rule with
  | true =>
   rw [hh, if_pos rfl] at h
   cases hsd : seedOf (nd.rule, a) s1.seeds with
   | some o1 =>
    rw [hsd] at h
    injection h with q1 q2; subst q1; subst q2
    have hg := grow_seed (e := e) (dep := e.limD - d) hsd
    repeat' (first| (refine aw_T ?_ (hb := hh))| (refine aw_T ?_ (hb := dT (by assumption)))| (refine aw_F ?_ (hb := eF))| (show lCall; refine k_callCX 0 1 hg rfl rfl (by decide) rfl rfl (σ' := stepσ e s1 nd) rfl ?_)| (show eRet; refine retC1 Tryz.results42 ?_)| (refine wS ?_)| fail)
    exact ⟨rfl, _, rfl⟩
   | none =>
    rw [hsd] at h
    dsimp only at h
    have hg := grow_c hw hd H hr.1 hr.2 a0 a1 hs1 hsd h
    repeat' (first| (refine aw_T ?_ (hb := hh))| (refine aw_T ?_ (hb := dT (by assumption)))| (refine aw_F ?_ (hb := eF))| (show lCall; refine k_callCX 0 1 hg rfl rfl (by decide) rfl rfl (σ' := stepσ e s' nd) rfl ?_)| (show eRet; refine retC1 Tryz.results42 ?_)| (refine wS ?_)| fail)
    exact ⟨rfl, _, rfl⟩
  | false =>
   rw [hh, if_neg (by simp)] at h
   have hg := whole_c hw hd H hr.1 hr.2 a0 a1 hs1 h
   rw [show e.limD + 1 - d = e.limD - d + 1 by omega] at hg
   repeat' (first| (refine aw_F ?_ (hb := hh))| (refine aw_T ?_ (hb := dT (by assumption)))| (refine aw_F ?_ (hb := eF))| (show lCall; refine k_callCX 0 1 hg rfl rfl (by decide) rfl rfl (σ' := stepσ e s' nd) rfl ?_)| (show eRet; refine retC1 Tryz.results42 ?_)| (refine wS ?_)| fail)
   exact ⟨rfl, _, rfl⟩
 rw [if_neg p2] at h
 by_cases p4 : nd.op = 4
 ·rw [if_pos p4] at h
  obtain ⟨hp, hq⟩ := htwo (.inl p4)
  cases he : evalD e d rule pt.1 a s1 with
  | stop c s2 => rw [he] at h; cases h
  | ok o1 s2 =>
  rw [he] at h
  dsimp only at h
  have hst := H' rule pt.1 a s1 o1 s2 r0 r1 hp.1 hp.2 a0 a1 hs1 he
  obtain ⟨g1, g2, g3⟩ := evalD_ok hw d rule pt.1 a r0 r1 hp.1 hp.2 a0 a1 s1 o1 s2 hs1 he
  have hol : o1.forest.length <= 1048576 := g1.caps.1
  by_cases k1 : o1.kind = 1
  ·rw [if_neg (by simpa using k1)] at h
   cases he2 : evalD e d rule pt.2 o1.fin s2 with
   | stop c s3 => rw [he2] at h; cases h
   | ok o2 s3 =>
   rw [he2] at h
   dsimp only at h
   have hst2 := H' rule pt.2 o1.fin s2 o2 s3 r0 r1 hq.1 hq.2 g1.fin.1 g1.fin.2 g2 he2
   obtain ⟨g4, g5, g6⟩ := evalD_ok hw d rule pt.2 o1.fin r0 r1 hq.1 hq.2 g1.fin.1 g1.fin.2 s2 o2 s3 g2 he2
   have hol2 : o2.forest.length <= 1048576 := g4.caps.1
   by_cases k2 : o2.kind = 1
   ·rw [if_neg (by simpa using k2)] at h
    split at h
    ·cases h
    rename_i hle
    obtain ⟨hm, rfl, rfl⟩ := matchedR_ok h
    have hj := joined_c o1.forest o2.forest (by omega)
    have hmm := matched_c o2.fin (o1.forest ++ o2.forest) hm
    repeat' (first| (refine aw_T ?_ (hb := dT (by assumption)))| (refine aw_F ?_ (hb := eF))| (show lStore; first | refine k_store (l' := outC o1) ?_ | refine k_store (l' := outC o2) ?_)| (show lCall; first | refine k_callCX 0 1 hst rfl rfl (by decide) rfl rfl (σ' := stepσ e s2 nd) rfl ?_ | refine k_callCX 0 1 hst2 rfl rfl (by decide) rfl rfl (σ' := stepσ e s' nd ++ [.cells (outC o1)]) rfl ?_)| (show dOp; refine ds_op (by (show kCall; first | exact b_call (hj) | exact b_call (hmm))) ?_)| (show eRet; refine retC1 Tryz.results42 ?_)| (refine wS ?_)| fail)
    exact ⟨rfl, _, rfl⟩
   ·rw [if_pos k2] at h
    injection h with q1 q2; subst q1; subst q2
    repeat' (first| (refine aw_T ?_ (hb := dT (by assumption)))| (refine aw_F ?_ (hb := eF))| (show lStore; first | refine k_store (l' := outC o1) ?_ | refine k_store (l' := outC o2) ?_)| (show lCall; first | refine k_callCX 0 1 hst rfl rfl (by decide) rfl rfl (σ' := stepσ e s2 nd) rfl ?_ | refine k_callCX 0 1 hst2 rfl rfl (by decide) rfl rfl (σ' := stepσ e s3 nd ++ [.cells (outC o1)]) rfl ?_)| (show eRet; refine retC1 Tryz.results42 ?_)| (refine wS ?_)| fail)
    exact ⟨rfl, _, rfl⟩
  ·rw [if_pos k1] at h
   injection h with q1 q2; subst q1; subst q2
   repeat' (first| (refine aw_T ?_ (hb := dT (by assumption)))| (refine aw_F ?_ (hb := eF))| (show lStore; refine k_store (l' := outC o1) ?_)| (show lCall; refine k_callCX 0 1 hst rfl rfl (by decide) rfl rfl (σ' := stepσ e s2 nd) rfl ?_)| (show eRet; refine retC1 Tryz.results42 ?_)| (refine wS ?_)| fail)
   exact ⟨rfl, _, rfl⟩
 rw [if_neg p4] at h
 by_cases p5 : nd.op = 5
 ·rw [if_pos p5] at h
  obtain ⟨hp, hq⟩ := htwo (.inr p5)
  cases he : evalD e d rule pt.1 a s1 with
  | stop c s2 => rw [he] at h; cases h
  | ok o1 s2 =>
  rw [he] at h
  dsimp only at h
  have hst := H' rule pt.1 a s1 o1 s2 r0 r1 hp.1 hp.2 a0 a1 hs1 he
  obtain ⟨g1, g2, g3⟩ := evalD_ok hw d rule pt.1 a r0 r1 hp.1 hp.2 a0 a1 s1 o1 s2 hs1 he
  have hol : o1.forest.length <= 1048576 := g1.caps.1
  by_cases k1 : o1.kind = 0
  ·rw [if_neg (by simpa using k1)] at h
   have hst2 := H' rule pt.2 a s2 o s' r0 r1 hq.1 hq.2 a0 a1 g2 h
   repeat' (first| (refine aw_T ?_ (hb := dT (by assumption)))| (refine aw_F ?_ (hb := eF))| (show lStore; refine k_store (l' := outC o1) ?_)| (show lCall; first | refine k_callCX 0 1 hst rfl rfl (by decide) rfl rfl (σ' := stepσ e s2 nd) rfl ?_ | refine k_callCX 0 1 hst2 rfl rfl (by decide) rfl rfl (σ' := stepσ e s' nd ++ [.cells (outC o1)]) rfl ?_)| (show eRet; refine retC1 Tryz.results42 ?_)| (refine wS ?_)| fail)
   exact ⟨rfl, _, rfl⟩
  ·rw [if_pos k1] at h
   injection h with q1 q2; subst q1; subst q2
   repeat' (first| (refine aw_T ?_ (hb := dT (by assumption)))| (refine aw_F ?_ (hb := eF))| (show lStore; refine k_store (l' := outC o1) ?_)| (show lCall; refine k_callCX 0 1 hst rfl rfl (by decide) rfl rfl (σ' := stepσ e s2 nd) rfl ?_)| (show eRet; refine retC1 Tryz.results42 ?_)| (refine wS ?_)| fail)
   exact ⟨rfl, _, rfl⟩
 rw [if_neg p5] at h
 by_cases p6 : nd.op = 6
 ·rw [if_pos p6] at h
  have hp := hone (.inl p6)
  have hst := star_c hw hd H r0 r1 hp.1 hp.2 a0 a1 hs1 h
  rw [show e.limD + 1 - d = e.limD - d + 1 by omega] at hst
  repeat' (first| (refine aw_T ?_ (hb := dT (by assumption)))| (refine aw_F ?_ (hb := eF))| (show lCall; refine k_callCX 0 1 hst rfl rfl (by decide) rfl rfl (σ' := stepσ e s' nd) rfl ?_)| (show eRet; refine retC1 Tryz.results42 ?_)| (refine wS ?_)| fail)
  exact ⟨rfl, _, rfl⟩
 rw [if_neg p6] at h
 by_cases p7 : nd.op = 7
 ·rw [if_pos p7] at h
  have hp := hone (.inr (.inl p7))
  cases he : evalD e d rule pt.1 a s1 with
  | stop c s2 => rw [he] at h; cases h
  | ok o1 s2 =>
  rw [he] at h
  dsimp only at h
  have hst := H' rule pt.1 a s1 o1 s2 r0 r1 hp.1 hp.2 a0 a1 hs1 he
  obtain ⟨g1, g2, g3⟩ := evalD_ok hw d rule pt.1 a r0 r1 hp.1 hp.2 a0 a1 s1 o1 s2 hs1 he
  have hol : o1.forest.length <= 1048576 := g1.caps.1
  by_cases k1 : o1.kind = 1
  ·rw [if_pos k1] at h
   injection h with q1 q2; subst q1; subst q2
   repeat' (first| (refine aw_T ?_ (hb := dT (by assumption)))| (refine aw_F ?_ (hb := eF))| (show lStore; refine (k_told 224 tells_zero (k_store ?_)))| (show lCall; refine k_callCX 0 1 hst rfl rfl (by decide) rfl rfl (σ' := stepσ e s2 nd) rfl ?_)| (show eRet; refine retC1 Tryz.results42 ?_)| (refine wS ?_)| fail)
   exact ⟨rfl, _, rfl⟩
  ·rw [if_neg k1] at h
   obtain ⟨_, rfl, rfl⟩ := matchedR_ok h
   repeat' (first| (refine aw_T ?_ (hb := dT (by assumption)))| (refine aw_F ?_ (hb := eF))| (show lCall; refine k_callCX 0 1 hst rfl rfl (by decide) rfl rfl (σ' := stepσ e s' nd) rfl ?_)| (show lOp; refine op0 (by (show kCall; exact b_call (matched_nil a))) ?_)| (show eRet; refine retC1 Tryz.results42 ?_)| (refine wS ?_)| fail)
   exact ⟨rfl, _, rfl⟩
 rw [if_neg p7] at h
 by_cases p8 : nd.op = 8
 ·rw [if_pos p8] at h
  have hp := hone (.inr (.inr p8))
  cases he : evalD e d rule pt.1 a s1 with
  | stop c s2 => rw [he] at h; cases h
  | ok o1 s2 =>
  rw [he] at h
  dsimp only at h
  have hst := H' rule pt.1 a s1 o1 s2 r0 r1 hp.1 hp.2 a0 a1 hs1 he
  obtain ⟨g1, g2, g3⟩ := evalD_ok hw d rule pt.1 a r0 r1 hp.1 hp.2 a0 a1 s1 o1 s2 hs1 he
  have hol : o1.forest.length <= 1048576 := g1.caps.1
  by_cases k1 : o1.kind = 1
  ·rw [if_neg (by simpa using k1)] at h
   split at h
   ·cases h
   rename_i hle
   obtain ⟨hm, rfl, rfl⟩ := matchedR_ok h
   have ht := trees_c o1.forest g1.caps
   have hj := joined_c [⟨nd.name, a, o1.fin, trees o1.forest 0 0⟩] o1.forest (by simp only [List.length_cons, List.length_nil]; omega)
   have hmm := matched_c o1.fin ([⟨nd.name, a, o1.fin, trees o1.forest 0 0⟩] ++ o1.forest) hm
   repeat' (first| (refine aw_T ?_ (hb := dT (by assumption)))| (refine aw_F ?_ (hb := eF))| (show lStore; refine k_store (l' := outC o1) ?_)| (show lCall; refine k_callCX 0 1 hst rfl rfl (by decide) rfl rfl (σ' := stepσ e s' nd) rfl ?_)| (show dOp; refine ds_op (by (show kCall; first | exact b_call (ht) | exact b_call (hj) | exact b_call (hmm))) ?_)| (show eRet; refine retC1 Tryz.results42 ?_)| (refine wS ?_)| fail)
   exact ⟨rfl, _, rfl⟩
  ·rw [if_pos k1] at h
   injection h with q1 q2; subst q1; subst q2
   repeat' (first| (refine aw_T ?_ (hb := dT (by assumption)))| (refine aw_F ?_ (hb := eF))| (show lStore; refine k_store (l' := outC o1) ?_)| (show lCall; refine k_callCX 0 1 hst rfl rfl (by decide) rfl rfl (σ' := stepσ e s2 nd) rfl ?_)| (show eRet; refine retC1 Tryz.results42 ?_)| (refine wS ?_)| fail)
   exact ⟨rfl, _, rfl⟩
 rw [if_neg p8] at h
 obtain ⟨_, rfl, rfl⟩ := matchedR_ok h
 repeat' (first| (refine aw_F ?_ (hb := eF))| (show lOp; refine op0 (by (show kCall; exact b_call (matched_nil a))) ?_)| (show eRet; refine retC1 Tryz.results42 ?_)| (refine wS ?_)| fail)
 exact ⟨rfl, _, rfl⟩
theorem step_all {e : Env} (hw : WF e) : ∀ d : Nat, (d : Int) <= e.limD + 1 -> StepC e d
 | 0, _ => fun rule node a s o s' _ _ _ _ _ _ _ h => by cases h
 | d + 1, hd => step_c hw (by omega) (step_all hw d (by omega))
end Go.AL
namespace Go.AL
open Go.Proofs
attribute [local irreducible] AWp AList RStep seqQ blockQ retQ DSteps DT DU awR rQ SStep
def letterB (b : UInt8) : Bool := decide (97 <= b.toNat /\ b.toNat <= 122 \/ 65 <= b.toNat /\ b.toNat <= 90 \/ b.toNat = 95)
def digitB (b : UInt8) : Bool := decide (48 <= b.toNat /\ b.toNat <= 57)
theorem letter_c (b : UInt8) : ACalls Tryz.prog 100 [lU8 b.toNat] [] (fun r _ => r = .ret (bl (letterB b))) := by
 refine acalls_by Tryz.func100 Tryz.ntmps100 ?_
 simp only [argFr]
 repeat' (first| (show eRet; refine ret1 Tryz.results100 ?_)| (refine wS ?_)| (show lGu; refine al_splitD (fun h => ?_) (fun h => ?_))| (exfalso; omega))
 all_goals (refine congrArg (fun q => CE.ret (bl q)) ?_; simp only [letterB]; first | exact (dT (by omega)).symm | exact (dF (by omega)).symm | exact decide_eq_decide.2 (by constructor <;> intro _ <;> omega))
theorem digit_c (b : UInt8) : ACalls Tryz.prog 101 [lU8 b.toNat] [] (fun r _ => r = .ret (bl (digitB b))) := by
 refine acalls_by Tryz.func101 Tryz.ntmps101 ?_
 simp only [argFr]
 repeat' (first| (show eRet; refine ret1 Tryz.results101 ?_)| (refine wS ?_)| (show lGu; refine al_splitD (fun h => ?_) (fun h => ?_)))
 all_goals (refine congrArg (fun q => CE.ret (bl q)) ?_; simp only [digitB]; first | exact (dT (by omega)).symm | exact (dF (by omega)).symm | exact decide_eq_decide.2 (by constructor <;> intro _ <;> omega))
attribute [local irreducible] letterB digitB
/-- How many bytes stand from a place on that are of a name. -/
def ownN (s : ByteArray) (p : Nat) : Nat -> Nat -> Nat
 | 0, i => i
 | f + 1, i => if p + i < s.size /\ (letterB (atB s (p + i)) = true \/ 0 < i /\ digitB (atB s (p + i)) = true) then ownN s p f (i + 1) else i
def ownB (s : ByteArray) (p : Nat) : Nat := ownN s p (s.size - p + 1) 0
theorem ownN_le (s : ByteArray) (p : Nat) : ∀ f i, p + i <= s.size -> p + ownN s p f i <= s.size
 | 0, i, h => h
 | f + 1, i, h => by
  simp only [ownN]
  split
  ·exact ownN_le s p f (i + 1) (by omega)
  ·exact h
theorem own_c (s : ByteArray) (p : Nat) (hp : p <= s.size) (hs : s.size <= 150000000000000) : ACalls Tryz.prog 88 [strA s, i64 p] [] (fun r _ => r = .ret (i64 (ownB s p))) := by
 refine acalls_by Tryz.func88 Tryz.ntmps88 ?_
 simp only [argFr]
 repeat' (first| (refine wS ?_)| fail)
 refine aw_roundsG (ι := Nat × Nat) (fun i n => [(0, strA s), (1, i64 p), (5, i64 i.2)]) (fun _ _ => []) (fun i => p + i.2 <= s.size /\ s.size < p + i.2 + i.1 /\ ownN s p i.1 i.2 = ownB s p) (fun i => i.1) (s.size - p + 1, 0) 0 ⟨by omega, by simp only; omega, rfl⟩ (by simp) rfl (by simp [Fr.get]) ?_
 rintro ⟨f, i⟩ n g ⟨h1, h2, h3⟩ hg
 dsimp only at h1 h2 h3 ⊢
 cases f with
 | zero => omega
 | succ f =>
  simp only [ownN] at h3
  have e : ((p : Int) + (i : Int)).toNat = p + i := by omega
  repeat' (first| (show lOp; refine op0 (by (show kCall; first | exact b_call ((letter_c (atB s ((p : Int) + i).toNat))) | exact b_call ((digit_c (atB s ((p : Int) + i).toNat))))) ?_)| (show eRet; refine ret1 Tryz.results88 ?_)| (refine wS ?_)| (show lGu; first | refine al_splitD (fun h => ?_) (fun h => ?_) | refine al_split (fun h => ?_) (fun h => ?_))| (show cIf; refine aw_if (fun h => ?_) (fun h => ?_)))
  all_goals simp only [e] at *
  all_goals first
   | (rw [if_pos ⟨by omega, by first | exact .inl (by assumption) | exact .inr ⟨by omega, by assumption⟩⟩] at h3
      exact ⟨(f, i + 1), _, ⟨by dsimp only; omega, by dsimp only; omega, h3⟩, Nat.le_refl _, List.drop_length, by simp [Fr.get], by dsimp only; omega⟩)
   | (rw [if_neg (by rintro ⟨q1, q2 | ⟨q2, q3⟩⟩ <;> first | omega | (simp_all; done))] at h3
      rw [h3])
instance : TFn Tryz.prog 102 := ⟨Tryz.call102⟩
def preB (s t : ByteArray) : Bool := decide (t.size <= s.size /\ s.extract 0 t.size = t)
theorem hasPrefix0_c (s t : ByteArray) : ACalls Tryz.prog 102 [strA s, strA t] [] (fun r _ => r = .ret (bl (preB s t))) := by
 refine acalls_by Tryz.func102 Tryz.ntmps102 ?_
 simp only [argFr]
 repeat' (first| (show eRet; refine ret1 Tryz.results102 ?_)| (refine wS ?_)| (show lGu; refine al_splitD (fun h => ?_) (fun h => ?_)))
 ·exact congrArg (fun q => CE.ret (bl q)) (decide_eq_decide.2 ⟨fun q => ⟨by omega, by simpa using q⟩, fun q => by simpa using q.2⟩)
 ·exact congrArg (fun q => CE.ret (bl q)) (dF (fun q => by omega)).symm
theorem hasPrefix_c (s t : ByteArray) : ACalls Tryz.prog 89 [strA s, strA t] [] (fun r _ => r = .ret (bl (preB s t))) := by
 refine acalls_by Tryz.func89 Tryz.ntmps89 ?_
 simp only [argFr]
 repeat' (first| (show lOp; refine op0 (by (show kCall; exact b_call (hasPrefix0_c s t))) ?_)| (show eRet; refine ret1 Tryz.results89 ?_)| (refine wS ?_)| fail)
 rfl
/-- How far digits stand. -/
def digs (s : ByteArray) : Nat -> Nat -> Nat
 | 0, i => i
 | f + 1, i => if i < s.size /\ digitB (atB s i) = true then digs s f (i + 1) else i
theorem digs_le (s : ByteArray) : ∀ f i, i <= s.size -> i <= digs s f i /\ digs s f i <= s.size
 | 0, i, h => ⟨Nat.le_refl _, h⟩
 | f + 1, i, h => by
  simp only [digs]
  split
  ·have := digs_le s f (i + 1) (by omega); omega
  ·exact ⟨Nat.le_refl _, h⟩
def numB (s : ByteArray) : Nat :=
 if s = ⟨#[]⟩ \/ (atB s 0).toNat ≠ 126 then 0
 else if digs s s.size 1 = 1 \/ digs s s.size 1 > 6 \/ (atB s 1).toNat = 48 then 0 else digs s s.size 1
theorem numB_le (s : ByteArray) : numB s <= 6 := by
 unfold numB; split
 ·omega
 ·split <;> omega
theorem size_pos {s : ByteArray} (h : ¬ s = ⟨#[]⟩) : 0 < s.size := by
 rcases Nat.eq_zero_or_pos s.size with h0 | h0
 ·exact absurd (ByteArray.size_eq_zero_iff.1 h0) h
 ·exact h0
attribute [local irreducible] preB
theorem numbered_c (s : ByteArray) (hs : s.size <= 150000000000000) : ACalls Tryz.prog 90 [strA s] [] (fun r _ => r = .ret (i64 (numB s))) := by
 by_cases he : s = ⟨#[]⟩
 ·subst he
  refine acalls_by Tryz.func90 Tryz.ntmps90 ?_
  simp only [argFr]
  repeat' (first| (show eRet; refine ret1 Tryz.results90 ?_)| (refine wS ?_)| fail)
  rfl
 have hp := size_pos he
 by_cases h1 : ((atB s 0).toNat : Int) = 126
 ·have hd := digs_le s s.size 1 (by omega)
  have hnb : numB s = if digs s s.size 1 = 1 \/ digs s s.size 1 > 6 \/ (atB s 1).toNat = 48 then 0 else digs s s.size 1 := by
   unfold numB; rw [if_neg (by rintro (q | q) <;> first | contradiction | omega)]
  refine acalls_by Tryz.func90 Tryz.ntmps90 ?_
  simp only [argFr]
  repeat' (first| (refine al_yes ?_ (hb := decide_eq_false he))| (refine aw_F ?_ (hb := dF (by simpa using h1)))| (refine wS ?_)| fail)
  refine aw_roundsG (ι := Nat × Nat) (fun i n => [(0, strA s), (3, i64 i.2)]) (fun _ _ => []) (fun i => 1 <= i.2 /\ i.2 <= s.size /\ s.size < i.2 + i.1 /\ digs s i.1 i.2 = digs s s.size 1) (fun i => i.1) (s.size, 1) 0 ⟨by omega, by omega, by omega, rfl⟩ (by simp) rfl (by simp [Fr.get]) ?_
  rintro ⟨f, i⟩ n g ⟨g1, g2, g3, g4⟩ hg
  dsimp only at g1 g2 g3 g4 ⊢
  cases f with
  | zero => omega
  | succ f =>
   simp only [digs] at g4
   by_cases hc : i < s.size /\ digitB (atB s i) = true
   ·rw [if_pos hc] at g4
    repeat' (first| (refine aw_T ?_ (hb := hc.2))| (show lOp; refine op0 (by (show kCall; exact b_call ((digit_c (atB s (i : Int).toNat))))) ?_)| (show eRet; refine ret1 Tryz.results90 ?_)| (refine wS ?_)| (show lGu; refine al_splitD (fun h => ?_) (fun h => ?_))| (show cIf; refine aw_ifD (fun h => ?_) (fun h => ?_))| (exfalso; omega))
    exact ⟨(f, i + 1), _, ⟨by dsimp only; omega, by dsimp only; omega, by dsimp only; omega, g4⟩, Nat.le_refl _, List.drop_length, by simp [Fr.get], by dsimp only; omega⟩
   ·rw [if_neg hc] at g4
    rw [<- g4] at hnb
    repeat' (first| (show lOp; refine op0 (by (show kCall; exact b_call ((digit_c (atB s (i : Int).toNat))))) ?_)| (show eRet; refine ret1 Tryz.results90 ?_)| (refine wS ?_)| (show lGu; refine al_splitD (fun h => ?_) (fun h => ?_))| (show cIf; first | refine aw_ifD (fun h => ?_) (fun h => ?_) | refine aw_if (fun h => ?_) (fun h => ?_)))
    all_goals try simp only [show Int.toNat 1 = 1 from rfl, Int.toNat_natCast] at *
    all_goals first
     | (exfalso; exact hc ⟨by omega, by assumption⟩)
     | (rw [hnb, if_pos (by first | exact .inl (by omega) | exact .inr (.inl (by omega)) | exact .inr (.inr (by omega)))]; rfl)
     | (rw [hnb, if_neg (by rintro (q | q | q) <;> omega)])
 ·skip
  refine acalls_by Tryz.func90 Tryz.ntmps90 ?_
  simp only [argFr]
  repeat' (first| (refine al_yes ?_ (hb := decide_eq_false he))| (refine aw_T ?_ (hb := dT (by simpa using h1)))| (show eRet; refine ret1 Tryz.results90 ?_)| (refine wS ?_)| fail)
  unfold numB
  rw [if_pos (.inr (by omega))]; rfl
/-- How far a name stands. -/
def namedB (s : ByteArray) (p : Nat) : Nat :=
 if ownB s p = 0 then 0 else
 let n := if preB (s.extract (p + ownB s p) s.size) ⟨#[58, 58]⟩ = true /\ 0 < ownB s (p + ownB s p + 2) then ownB s p + (2 + ownB s (p + ownB s p + 2)) else ownB s p
 n + numB (s.extract (p + n) s.size)
theorem ownB_le {s : ByteArray} {p : Nat} (h : p <= s.size) : p + ownB s p <= s.size := ownN_le s p _ 0 (by omega)
theorem preB_size {s t : ByteArray} (h : preB s t = true) : t.size <= s.size := by
 unfold preB at h
 exact (of_decide_eq_true h).1
theorem named_c (s : ByteArray) (p : Nat) (hp : p <= s.size) (hs : s.size <= 150000000000000) : ACalls Tryz.prog 78 [strA s, i64 p] [] (fun r _ => r = .ret (i64 (namedB s p))) := by
 have ho := ownB_le hp
 have hx : ∀ n : Nat, (s.extract n s.size).size <= 150000000000000 := fun n => by rw [ByteArray.size_extract]; omega
 have e1 : ((p : Int) + (ownB s p : Int)).toNat = p + ownB s p := by omega
 have hq1 := numB_le (s.extract ((p : Int) + ((ownB s p : Int) + (2 + (ownB s (p + ownB s p + 2) : Int)))).toNat s.size)
 have hq2 := numB_le (s.extract ((p : Int) + (ownB s p : Int)).toNat s.size)
 have e3 : ((p : Int) + ((ownB s p : Int) + (2 + (ownB s (p + ownB s p + 2) : Int)))).toNat = p + (ownB s p + (2 + ownB s (p + ownB s p + 2))) := by omega
 by_cases h0 : ownB s p = 0
 ·skip
  refine acalls_by Tryz.func78 Tryz.ntmps78 ?_
  simp only [argFr]
  repeat' (first| (refine aw_T ?_ (hb := eT))| (show lOp; refine op0 (by (show kCall; exact b_call ((own_c s p hp hs)))) ?_)| (show eRet; refine ret1 Tryz.results78 ?_)| (refine wS ?_)| fail)
  unfold namedB; rw [if_pos h0]; rfl
 by_cases h1 : preB (s.extract (p + ownB s p) s.size) ⟨#[58, 58]⟩ = true
 ·have hz := preB_size h1
  have h1' : preB (s.extract ((p : Int) + (ownB s p : Int)).toNat s.size) ⟨#[58, 58]⟩ = true := by rw [e1]; exact h1
  rw [ByteArray.size_extract] at hz
  have hz : p + ownB s p + 2 <= s.size := by have : (⟨#[58, 58]⟩ : ByteArray).size = 2 := rfl; omega
  have h2 := ownB_le hz
  have e2 : ((p : Int) + (ownB s p : Int) + 2) = ((p + ownB s p + 2 : Nat) : Int) := by omega
  have hc2 := own_c s (p + ownB s p + 2) hz hs
  rw [<- e2] at hc2
  by_cases h3 : 0 < ownB s (p + ownB s p + 2)
  ·skip
   refine acalls_by Tryz.func78 Tryz.ntmps78 ?_
   simp only [argFr]
   repeat' (first| (refine aw_F ?_ (hb := eF))| (refine aw_T ?_ (hb := h1'))| (refine aw_T ?_ (hb := eT))| (show lOp; refine op0 (by (show kCall; first | exact b_call ((own_c s p hp hs)) | exact b_call (hc2) | exact b_call ((hasPrefix_c (s.extract ((p : Int) + (ownB s p : Int)).toNat s.size) ⟨#[58, 58]⟩)) | exact b_call ((numbered_c _ (hx _))))) ?_)| (show eRet; refine ret1 Tryz.results78 ?_)| (refine wS ?_)| fail)
   simp only [namedB, if_neg h0, if_pos (And.intro h1 h3), e3]
   rw [show ((ownB s p + (2 + ownB s (p + ownB s p + 2)) + numB (s.extract (p + (ownB s p + (2 + ownB s (p + ownB s p + 2)))) s.size) : Nat) : Int) = (ownB s p : Int) + (2 + (ownB s (p + ownB s p + 2) : Int)) + (numB (s.extract (p + (ownB s p + (2 + ownB s (p + ownB s p + 2)))) s.size) : Int) by omega]
  ·skip
   refine acalls_by Tryz.func78 Tryz.ntmps78 ?_
   simp only [argFr]
   repeat' (first| (refine aw_F ?_ (hb := eF))| (refine aw_T ?_ (hb := h1'))| (show lOp; refine op0 (by (show kCall; first | exact b_call ((own_c s p hp hs)) | exact b_call (hc2) | exact b_call ((hasPrefix_c (s.extract ((p : Int) + (ownB s p : Int)).toNat s.size) ⟨#[58, 58]⟩)) | exact b_call ((numbered_c _ (hx _))))) ?_)| (show eRet; refine ret1 Tryz.results78 ?_)| (refine wS ?_)| fail)
   simp only [namedB, if_neg h0, if_neg (fun q : _ /\ _ => h3 q.2), e1]
   rfl
 ·have h1' : preB (s.extract ((p : Int) + (ownB s p : Int)).toNat s.size) ⟨#[58, 58]⟩ = false := by rw [e1]; simpa using h1
  refine acalls_by Tryz.func78 Tryz.ntmps78 ?_
  simp only [argFr]
  repeat' (first| (refine aw_F ?_ (hb := eF))| (refine aw_F ?_ (hb := h1'))| (show lOp; refine op0 (by (show kCall; first | exact b_call ((own_c s p hp hs)) | exact b_call ((hasPrefix_c (s.extract ((p : Int) + (ownB s p : Int)).toNat s.size) ⟨#[58, 58]⟩)) | exact b_call ((numbered_c _ (hx _))))) ?_)| (show eRet; refine ret1 Tryz.results78 ?_)| (refine wS ?_)| fail)
  simp only [namedB, if_neg h0, if_neg (fun q : _ /\ _ => h1 q.1), e1]
  rfl
def nameOk (s : ByteArray) : Bool := decide (s ≠ ⟨#[]⟩ /\ s.size <= 64 /\ namedB s 0 = s.size)
theorem name_c (s : ByteArray) (hs : s.size <= 150000000000000) : ACalls Tryz.prog 54 [strA s] [] (fun r _ => r = .ret (bl (nameOk s))) := by
 refine acalls_by Tryz.func54 Tryz.ntmps54 ?_
 simp only [argFr]
 repeat' (first| (show lOp; refine op0 (by (show kCall; exact b_call ((named_c s 0 (by omega) hs)))) ?_)| (show eRet; refine ret1 Tryz.results54 ?_)| (refine wS ?_)| (show lGu; refine al_splitD (fun h => ?_) (fun h => ?_)))
 all_goals (refine congrArg (fun q => CE.ret (bl q)) ?_; unfold nameOk; first | exact decide_eq_decide.2 ⟨fun q => ⟨by assumption, by omega, by omega⟩, fun q => by have := q.2.2; omega⟩ | exact (dF (fun q => by first | omega | (have := q.2.1; omega) | exact absurd q.1 (by assumption))).symm)
end Go.AL
namespace Go.Proofs
open Go.Shelf
def Tryz.lays189_ren : Go.Shelf.Ren := ⟨fun | 189 => 86 | 125 => 99 | 257 => 98 | 128 => 116 | 129 => 117 | 294 => 107 | 295 => 108 | 296 => 109 | 297 => 110 | 298 => 111 | 299 => 112 | 216 => 113 | 300 => 114 | 301 => 115 | 328 => 122 | 329 => 123 | 330 => 124 | 331 => 125 | 332 => 126 | 215 => 127 | 343 => 129 | n => n, fun | 28 => 32 | 3 => 3 | 46 => 148 | 0 => 0 | 51 => 184 | 53 => 58 | 4 => 4 | 183 => 177 | 182 => 176 | 131 => 124 | 5 => 5 | 9 => 9 | 218 => 189 | 222 => 193 | 228 => 195 | 229 => 79 | n => n, fun | n => n⟩
theorem Tryz.lays189 : Go.Proofs.Lays.n189 Tryz.prog Tryz.lays189_ren := {
 mixed := by kernel_rfl
 f125 := Tryz.func99.trans (congrArg some (by kernel_rfl))
 f128 := Tryz.func116.trans (congrArg some (by kernel_rfl))
 f129 := Tryz.func117.trans (congrArg some (by kernel_rfl))
 f189 := Tryz.func86.trans (congrArg some (by kernel_rfl))
 f215 := Tryz.func127.trans (congrArg some (by kernel_rfl))
 f216 := Tryz.func113.trans (congrArg some (by kernel_rfl))
 f257 := Tryz.func98.trans (congrArg some (by kernel_rfl))
 f294 := Tryz.func107.trans (congrArg some (by kernel_rfl))
 f295 := Tryz.func108.trans (congrArg some (by kernel_rfl))
 f296 := Tryz.func109.trans (congrArg some (by kernel_rfl))
 f297 := Tryz.func110.trans (congrArg some (by kernel_rfl))
 f298 := Tryz.func111.trans (congrArg some (by kernel_rfl))
 f299 := Tryz.func112.trans (congrArg some (by kernel_rfl))
 f300 := Tryz.func114.trans (congrArg some (by kernel_rfl))
 f301 := Tryz.func115.trans (congrArg some (by kernel_rfl))
 f328 := Tryz.func122.trans (congrArg some (by kernel_rfl))
 f329 := Tryz.func123.trans (congrArg some (by kernel_rfl))
 f330 := Tryz.func124.trans (congrArg some (by kernel_rfl))
 f331 := Tryz.func125.trans (congrArg some (by kernel_rfl))
 f332 := Tryz.func126.trans (congrArg some (by kernel_rfl))
 f343 := Tryz.func129.trans (congrArg some (by kernel_rfl))
 t0 := Tryz.underlying0
 a0 := Tryz.isAgg0
 z0 := Tryz.sizeOf0
 v0 := Tryz.zeroValue0
 t3 := Tryz.underlying3
 a3 := Tryz.isAgg3
 z3 := Tryz.sizeOf3
 v3 := Tryz.zeroValue3
 t4 := Tryz.underlying4
 a4 := Tryz.isAgg4
 z4 := Tryz.sizeOf4
 v4 := Tryz.zeroValue4
 t5 := Tryz.underlying5
 a5 := Tryz.isAgg5
 z5 := Tryz.sizeOf5
 v5 := Tryz.zeroValue5
 t9 := Tryz.underlying9
 a9 := Tryz.isAgg9
 z9 := Tryz.sizeOf9
 v9 := Tryz.zeroValue9
 t28 := Tryz.underlying32
 a28 := Tryz.isAgg32
 z28 := Tryz.sizeOf32
 v28 := Tryz.zeroValue32
 t46 := Tryz.underlying148
 a46 := Tryz.isAgg148
 z46 := Tryz.sizeOf148
 v46 := Tryz.zeroValue148
 t51 := Tryz.underlying184
 a51 := Tryz.isAgg184
 z51 := Tryz.sizeOf184
 v51 := Tryz.zeroValue184
 t53 := Tryz.underlying58
 a53 := Tryz.isAgg58
 z53 := Tryz.sizeOf58
 v53 := Tryz.zeroValue58
 t131 := Tryz.underlying124
 a131 := Tryz.isAgg124
 z131 := Tryz.sizeOf124
 v131 := Tryz.zeroValue124
 t182 := Tryz.underlying176
 a182 := Tryz.isAgg176
 z182 := Tryz.sizeOf176
 v182 := Tryz.zeroValue176
 t183 := Tryz.underlying177
 a183 := Tryz.isAgg177
 z183 := Tryz.sizeOf177
 v183 := Tryz.zeroValue177
 t218 := Tryz.underlying189
 a218 := Tryz.isAgg189
 z218 := Tryz.sizeOf189
 v218 := Tryz.zeroValue189
 t222 := Tryz.underlying193
 a222 := Tryz.isAgg193
 z222 := Tryz.sizeOf193
 v222 := Tryz.zeroValue193
 t228 := Tryz.underlying195
 a228 := Tryz.isAgg195
 z228 := Tryz.sizeOf195
 v228 := Tryz.zeroValue195
 t229 := Tryz.underlying79
 a229 := Tryz.isAgg79
 z229 := Tryz.sizeOf79
 v229 := Tryz.zeroValue79 }
open Go.Sort Go.RowKit in
theorem Tryz.slices_Sort_int (blk off cap : Nat) (zs : List Int) (w : World) (hH : Holds (Value.int .i64) w blk off zs.toArray) (hblk : blk < w.heap.size) (hsz : zs.length < 4611686018427387904) :
  Calls Tryz.prog 86 #[.slice (some ⟨blk, off, none⟩) zs.length cap] w fun e w' =>
   e = .returned (.tuple #[]) /\ ∃ n os, w' = grow (putRow (Value.int .i64) (Sort.ahead w n) blk off (zs.mergeSort fun x y => decide (x <= y)).toArray) os := Any.slices_Sort_int Tryz.lays189 blk off cap zs w hH hblk hsz
def Tryz.lays150_ren : Go.Shelf.Ren := ⟨fun | 150 => 79 | 153 => 91 | 152 => 103 | 226 => 104 | 227 => 105 | 228 => 106 | 137 => 118 | 119 => 119 | 224 => 120 | 225 => 121 | 217 => 128 | 266 => 130 | n => n, fun | 9 => 9 | 4 => 4 | 3 => 3 | 5 => 5 | 21 => 21 | 117 => 173 | 116 => 172 | 0 => 0 | 46 => 148 | 124 => 188 | n => n, fun | n => n⟩
theorem Tryz.lays150 : Go.Proofs.Lays.n150 Tryz.prog Tryz.lays150_ren := {
 mixed := by kernel_rfl
 f119 := Tryz.func119.trans (congrArg some (by kernel_rfl))
 f137 := Tryz.func118.trans (congrArg some (by kernel_rfl))
 f150 := Tryz.func79.trans (congrArg some (by kernel_rfl))
 f152 := Tryz.func103.trans (congrArg some (by kernel_rfl))
 f153 := Tryz.func91.trans (congrArg some (by kernel_rfl))
 f217 := Tryz.func128.trans (congrArg some (by kernel_rfl))
 f224 := Tryz.func120.trans (congrArg some (by kernel_rfl))
 f225 := Tryz.func121.trans (congrArg some (by kernel_rfl))
 f226 := Tryz.func104.trans (congrArg some (by kernel_rfl))
 f227 := Tryz.func105.trans (congrArg some (by kernel_rfl))
 f228 := Tryz.func106.trans (congrArg some (by kernel_rfl))
 f266 := Tryz.func130.trans (congrArg some (by kernel_rfl))
 t0 := Tryz.underlying0
 a0 := Tryz.isAgg0
 z0 := Tryz.sizeOf0
 v0 := Tryz.zeroValue0
 t3 := Tryz.underlying3
 a3 := Tryz.isAgg3
 z3 := Tryz.sizeOf3
 v3 := Tryz.zeroValue3
 t4 := Tryz.underlying4
 a4 := Tryz.isAgg4
 z4 := Tryz.sizeOf4
 v4 := Tryz.zeroValue4
 t5 := Tryz.underlying5
 a5 := Tryz.isAgg5
 z5 := Tryz.sizeOf5
 v5 := Tryz.zeroValue5
 t9 := Tryz.underlying9
 a9 := Tryz.isAgg9
 z9 := Tryz.sizeOf9
 v9 := Tryz.zeroValue9
 t21 := Tryz.underlying21
 a21 := Tryz.isAgg21
 z21 := Tryz.sizeOf21
 v21 := Tryz.zeroValue21
 t46 := Tryz.underlying148
 a46 := Tryz.isAgg148
 z46 := Tryz.sizeOf148
 v46 := Tryz.zeroValue148
 t116 := Tryz.underlying172
 a116 := Tryz.isAgg172
 z116 := Tryz.sizeOf172
 t117 := Tryz.underlying173
 a117 := Tryz.isAgg173
 z117 := Tryz.sizeOf173
 v117 := Tryz.zeroValue173
 t124 := Tryz.underlying188
 a124 := Tryz.isAgg188
 z124 := Tryz.sizeOf188
 v124 := Tryz.zeroValue188 }
open Go.RowKit Go.Lib in
theorem Tryz.strings_ContainsAny_laid (s chars : ByteArray) (w : World) (hs : s.size < 4294967281) (hcs : chars.size < 4294967281) (has : ∀ (j : Nat) b, s.data.toList[j]? = some b -> b.toNat < 128) (hac : ∀ (j : Nat) b, chars.data.toList[j]? = some b -> b.toNat < 128) :
  Calls Tryz.prog 79 #[.string s, .string chars] w fun e w' => e = .returned (.bool (Lib.containsAny s.data.toList chars.data.toList)) /\ Below w.heap.size w w' := Any.strings_ContainsAny_laid Tryz.lays150 (by kernel_rfl) s chars w hs hcs has hac
def Tryz.laysNm220_ren : Go.Shelf.Ren := ⟨fun | 20 => 87 | n => n, fun | 22 => 32 | 3 => 3 | 4 => 4 | 0 => 0 | n => n, fun | n => n⟩
theorem Tryz.laysNm220 : Go.Proofs.Lays2.n20 Tryz.prog Tryz.laysNm220_ren := {
 mixed := by kernel_rfl
 f20 := Tryz.func87.trans (congrArg some (by kernel_rfl))
 t0 := Tryz.underlying0
 a0 := Tryz.isAgg0
 z0 := Tryz.sizeOf0
 v0 := Tryz.zeroValue0
 t3 := Tryz.underlying3
 a3 := Tryz.isAgg3
 z3 := Tryz.sizeOf3
 v3 := Tryz.zeroValue3
 t4 := Tryz.underlying4
 a4 := Tryz.isAgg4
 z4 := Tryz.sizeOf4
 v4 := Tryz.zeroValue4
 t22 := Tryz.underlying32
 a22 := Tryz.isAgg32
 z22 := Tryz.sizeOf32
 v22 := Tryz.zeroValue32
 i3 := by kernel_rfl }
open Go.RowKit Go.Lib Go.Sort in
/-- slices.Compact at []int: "Compact replaces consecutive runs of equal elements with a single copy. This is like the uniq command found on Unix. Compact modifies the contents of the slice s and returns the modified slice, which may have a smaller length. Compact zeroes the elements between the new length and the original length. The result preserves the nilness of s.": IT RETURNS THE SLICE CUT TO 'Lib.compact zs'; ITS CELLS HOLD 'Lib.compact zs', THEN ZERO VALUES up to the old length; all else is as it was, but for the count of draws. IN THE WORDS OF slices.Sort's CONTRACT ('Holds', 'putRow'): so the everyday 'slices.Sort(xs); xs = slices.Compact(xs)' goes from the one contract to the other. It asks 'zs.length <= cap' (every slice's: the reslicing 's[:k]' looks at it). Length 0, nil: '.._empty'. (LAID: no walk: one application.) -/
theorem Tryz.slices_Compact_int (blk off cap : Nat) (zs : List Int) (w : World) (hH : Holds (Value.int .i64) w blk off zs.toArray) (hsz : zs.length <= 9223372036854775807) (hcap : zs.length <= cap) :
  Calls Tryz.prog 87 #[.slice (some ⟨blk, off, none⟩) zs.length cap] w fun e w' => e = .returned (.slice (some ⟨blk, off, none⟩) (Lib.compact zs).length cap) /\ ∃ q, w' = putRow (Value.int .i64) (Sort.ahead w q) blk off (Lib.compact zs ++ List.replicate (zs.length - (Lib.compact zs).length) 0).toArray := Any.slices_Compact_int Tryz.laysNm220 blk off cap zs w hH hsz hcap
open Go.RowKit Go.Lib Go.Sort in
/-- The same at a slice of length 0, a nil one too: it comes back as it is. (LAID: no walk: one application.) -/
theorem Tryz.slices_Compact_int_empty (a : Option Addr) (cap : Nat) (w : World) :
  Calls Tryz.prog 87 #[.slice a 0 cap] w fun e w' => e = .returned (.slice a 0 cap) /\ w' = w := Any.slices_Compact_int_empty Tryz.laysNm220 a cap w
open Go.RowKit Go.Sort in
/-- .. and plain. (LAID: no walk: one application.) -/
theorem Tryz.slices_Sort_int_none (p : Option Addr) (cap : Nat) (w : World) :
  Calls Tryz.prog 86 #[.slice p 0 cap] w fun e w' => e = .returned (.tuple #[]) /\ w' = w := Any.slices_Sort_int_none Tryz.lays189 p cap w
end Go.Proofs
namespace Go.AL
open Go.Proofs
attribute [local irreducible] AWp AList RStep seqQ blockQ retQ DSteps DT DU awR rQ SStep
def arityI (op : Int) : Int := if op = 4 \/ op = 5 then 2 else if op = 6 \/ op = 7 \/ op = 8 then 1 else 0
theorem arity_le (op : Int) : 0 <= arityI op /\ arityI op <= 2 := by
 unfold arityI
 split
 ·omega
 ·split <;> omega
theorem arity_c (op : Int) : ACalls Tryz.prog 41 [i64 op] [] (fun r _ => r = .ret (i64 (arityI op))) := by
 refine acalls_by Tryz.func41 Tryz.ntmps41 ?_
 simp only [argFr]
 repeat' (first| (show eRet; refine ret1 Tryz.results41 ?_)| (refine wS ?_)| (show cIf; refine aw_ifD (fun h => ?_) (fun h => ?_)))
 all_goals (unfold arityI; first | rw [if_pos (show op = 4 \/ op = 5 by omega)] | rw [if_neg (show ¬(op = 4 \/ op = 5) by omega), if_pos (show op = 6 \/ op = 7 \/ op = 8 by omega)] | rw [if_neg (show ¬(op = 4 \/ op = 5) by omega), if_neg (show ¬(op = 6 \/ op = 7 \/ op = 8) by omega)])
/-- A node's parts. -/
def partsL (b : List Node) (node : Int) : Nat -> Int -> Int × Int
 | 0, _ => (-1, node - 1)
 | k + 1, opn => if opn + (arityI (at' b (k : Int)).op - 1) = 0 then ((k : Int) - 1, node - 1) else partsL b node k (opn + (arityI (at' b (k : Int)).op - 1))
def partsI (b : List Node) (node : Int) : Int × Int :=
 if node < 0 \/ node >= b.length then (-1, -1)
 else if arityI (at' b node).op = 0 \/ node = 0 then (-1, -1)
 else if arityI (at' b node).op = 1 then (node - 1, -1)
 else partsL b node node.toNat 1
theorem parts_c (b : List Node) (node : Int) (hb : b.length <= 1000000) (hn : -10000000 <= node /\ node <= 10000000) : ACalls Tryz.prog 20 [.c (.p (bodyP b)), i64 node] [] (fun r _ => r = .ret (.tup [i64 (partsI b node).1, i64 (partsI b node).2])) := by
 by_cases h0 : node < 0 \/ node >= b.length
 ·skip
  refine acalls_by Tryz.func20 Tryz.ntmps20 ?_
  simp only [argFr]
  repeat' (first| (show eRet; refine ret2 Tryz.results20 ?_)| (refine wS ?_)| (show lGu; refine al_splitD (fun h => ?_) (fun h => ?_))| (show cIf; refine aw_ifD (fun h => ?_) (fun h => ?_))| (exfalso; omega))
  all_goals (unfold partsI; rw [if_pos h0])
 have ha := arity_le (at' b node).op
 by_cases h1 : arityI (at' b node).op = 0 \/ node = 0
 ·skip
  refine acalls_by Tryz.func20 Tryz.ntmps20 ?_
  simp only [argFr]
  repeat' (first| (show lOp; refine op0 (by (show kCall; exact b_call ((arity_c (at' b node).op)))) ?_)| (show eRet; refine ret2 Tryz.results20 ?_)| (refine wS ?_)| (show lGu; refine al_splitD (fun h => ?_) (fun h => ?_))| (show cIf; refine aw_ifD (fun h => ?_) (fun h => ?_))| (exfalso; omega))
  all_goals (unfold partsI; rw [if_neg h0, if_pos h1])
 by_cases h2 : arityI (at' b node).op = 1
 ·skip
  refine acalls_by Tryz.func20 Tryz.ntmps20 ?_
  simp only [argFr]
  repeat' (first| (refine aw_T ?_ (hb := decide_eq_true h2))| (show lOp; refine op0 (by (show kCall; exact b_call ((arity_c (at' b node).op)))) ?_)| (show eRet; refine ret2 Tryz.results20 ?_)| (refine wS ?_)| (show lGu; refine al_splitD (fun h => ?_) (fun h => ?_))| (show cIf; refine aw_ifD (fun h => ?_) (fun h => ?_))| (exfalso; omega))
  all_goals (unfold partsI; rw [if_neg h0, if_neg h1, if_pos h2])
 have e0 : partsI b node = partsL b node node.toNat 1 := by unfold partsI; rw [if_neg h0, if_neg h1, if_neg h2]
 rw [e0]
 refine acalls_by Tryz.func20 Tryz.ntmps20 ?_
 simp only [argFr]
 repeat' (first| (refine aw_F ?_ (hb := decide_eq_false h2))| (show lOp; refine op0 (by (show kCall; exact b_call ((arity_c (at' b node).op)))) ?_)| (show eRet; refine ret2 Tryz.results20 ?_)| (refine wS ?_)| (show lGu; refine al_splitD (fun h => ?_) (fun h => ?_))| (show cIf; refine aw_ifD (fun h => ?_) (fun h => ?_))| (exfalso; omega))
 obtain ⟨q, rfl⟩ : ∃ q : Nat, node = (q : Int) := ⟨node.toNat, by omega⟩
 rw [Int.toNat_natCast]
 have hq : q < b.length := by omega
 refine aw_roundsG (ι := Nat × Int) (fun i n => [(0, .c (.p (bodyP b))), (1, i64 (q : Int)), (7, i64 ((i.1 : Int) - 1)), (8, i64 i.2)]) (fun _ _ => []) (fun i => i.1 <= q /\ 1 - ((q : Int) - i.1) <= i.2 /\ i.2 <= 1 + ((q : Int) - i.1) /\ partsL b q i.1 i.2 = partsL b q q 1) (fun i => i.1) (q, 1) 0 ⟨by simp, by simp only; omega, by simp only; omega, rfl⟩ (by simp) rfl (by simp [Fr.get]) ?_
 rintro ⟨k, opn⟩ n g ⟨g1, g2, g3, g4⟩ hg
 dsimp only at g1 g2 g3 g4 ⊢
 cases k with
 | zero =>
  repeat' (first| (refine aw_F ?_ (hb := eF))| (show eRet; refine ret2 Tryz.results20 ?_)| (refine wS ?_)| fail)
  rw [<- g4]
  rfl
 | succ k =>
  have hk := arity_le (at' b (k : Int)).op
  simp only [partsL] at g4
  have ek : ((k + 1 : Nat) : Int) - 1 = (k : Int) := by omega
  rw [ek]
  by_cases hz : opn + (arityI (at' b (k : Int)).op - 1) = 0
  ·rw [if_pos hz] at g4
   rw [<- g4]
   repeat' (first| (refine aw_T ?_ (hb := decide_eq_true hz))| (refine aw_T ?_ (hb := eT))| (show lOp; refine op0 (by (show kCall; exact b_call ((arity_c (at' b (k : Int)).op)))) ?_)| (show eRet; refine ret2 Tryz.results20 ?_)| (refine wS ?_)| fail)
   rfl
  ·rw [if_neg hz] at g4
   repeat' (first| (refine aw_F ?_ (hb := decide_eq_false hz))| (refine aw_T ?_ (hb := eT))| (show lOp; refine op0 (by (show kCall; exact b_call ((arity_c (at' b (k : Int)).op)))) ?_)| (refine wS ?_)| fail)
   exact ⟨(k, _), _, ⟨by dsimp only; omega, by dsimp only; omega, by dsimp only; omega, g4⟩, Nat.le_refl _, List.drop_length, by simp [Fr.get], by dsimp only; omega⟩
end Go.AL
namespace Go.AL
open Go.Proofs
attribute [local irreducible] AWp AList RStep seqQ blockQ retQ DSteps DT DU awR rQ SStep letterB digitB preB nameOk
theorem eqt62 (d : Nat) : EqT Tryz.prog (d + 3) 62 [.int .i64, .int .u64, .int .u64, .int .u64, .int .u64, .int .i64, .str] := eqT_struct' inferInstance Tryz.underlying62 (by kernel_rfl) (.cons (k1 := [_]) (k2 := [_, _, _, _, _, _]) rfl (by decide) (eqt3 _) (.cons (k1 := [_, _, _, _]) (k2 := [_, _]) rfl (by decide) (eqt60 _) (.cons (k1 := [_]) (k2 := [_]) rfl (by decide) (eqt3 _) (.cons (k1 := [_]) (k2 := []) rfl (by decide) (eqt9 _) .nil))))
instance : TEq Tryz.prog 62 [.int .i64, .int .u64, .int .u64, .int .u64, .int .u64, .int .i64, .str] := ⟨eqt62 9997, inferInstance, by kernel_rfl⟩
def sizeL : List Rule -> Int -> Int
 | [], n => n
 | r :: l, n => sizeL l (n + r.body.length)
abbrev sizeI (c : Core) : Int := sizeL c.rules 0
theorem sizeL_le : ∀ (l : List Rule) (n : Int), n <= sizeL l n
 | [], n => Int.le_refl _
 | r :: l, n => by have := sizeL_le l (n + r.body.length); simp only [sizeL]; omega
theorem size_c (c : Core) (h : sizeI c <= 1000000000000) (hl : c.rules.length <= 150000000000000) : ACalls Tryz.prog 53 [coreV c] [] (fun r _ => r = .ret (i64 (sizeI c))) := by
 refine acalls_by Tryz.func53 Tryz.ntmps53 ?_
 simp only [argFr]
 repeat' (first| (refine wS ?_)| fail)
 refine aw_roundsG (ι := Nat × Int) (fun i n => [(7, .c (.p (rulesP c.rules))), (8, i64 c.rules.length), (9, i64 i.1), (3, i64 i.2)]) (fun _ _ => []) (fun i => i.1 <= c.rules.length /\ 0 <= i.2 /\ sizeL (c.rules.drop i.1) i.2 = sizeI c) (fun i => c.rules.length - i.1) (0, 0) 1 ⟨by simp, by simp, by simp⟩ (by simp) rfl (by simp [Fr.get]) ?_
 rintro ⟨i, n⟩ q g ⟨h1, h2, h3⟩ hg
 dsimp only at h1 h2 h3 ⊢
 by_cases hi : i < c.rules.length
 ·rw [drop_at c.rules i hi] at h3
  simp only [sizeL] at h3
  have hle := sizeL_le (c.rules.drop (i + 1)) (n + (at' c.rules (i : Int)).body.length)
  repeat' (first| (refine aw_T ?_ (hb := eT))| (refine wS ?_)| fail)
  exact ⟨(i + 1, n + (at' c.rules (i : Int)).body.length), _, ⟨by dsimp only; omega, by dsimp only; omega, h3⟩, Nat.le_refl _, List.drop_length, by simp [Fr.get], by dsimp only; omega⟩
 ·have : i = c.rules.length := by omega
  subst this
  rw [List.drop_length] at h3
  simp only [sizeL] at h3
  repeat' (first| (refine aw_F ?_ (hb := eF))| (show eRet; refine ret1 Tryz.results53 ?_)| (refine wS ?_)| fail)
  rw [h3]
def anyB (s : ByteArray) : Bool := Lib.containsAny s.data.toList [58, 126]
def Ascii (s : ByteArray) : Prop := ∀ (j : Nat) b, s.data.toList[j]? = some b -> b.toNat < 128
theorem name_size {s : ByteArray} (h : nameOk s = true) : s.size <= 64 := by
 unfold nameOk at h
 exact (of_decide_eq_true h).2.1
theorem any_c (s : ByteArray) (hs : s.size < 1000000000) (ha : Ascii s) : GCalls Tryz.prog 79 [strA s, strA ⟨#[58, 126]⟩] (fun _ => True) (bl (anyB s)) := by
 intro F w vs _ hz hv
 have hvs : vs = #[.string s, .string ⟨#[58, 126]⟩] := by
  have h0 := RP.eq_lit (show RP w F _ _ from hv 0 _ rfl)
  have h1 := RP.eq_lit (show RP w F _ _ from hv 1 _ rfl)
  have hz : vs.size = 2 := hz
  apply Array.ext (by simp [hz])
  intro j hj hj2
  match j with
  | 0 => simp [Array.getD_eq_getD_getElem?, hz] at h0; exact h0
  | 1 => simp [Array.getD_eq_getD_getElem?, hz] at h1; exact h1
  | n + 2 => omega
 subst hvs
 refine (Tryz.strings_ContainsAny_laid s ⟨#[58, 126]⟩ w (by omega) (by decide) ha (fun j b h => ?_)).mono fun e w' he => ?_
 ·match j, h with
  | 0, h => injection h with h; subst h; decide
  | 1, h => injection h with h; subst h; decide
  | n + 2, h => cases h
 ·obtain ⟨rfl, hb⟩ := he
  exact ⟨_, rfl, ⟨fun _ _ h => h, hb.os, hb.tape, hb.output, hb.size, hb.block, fun _ _ h => .inl h, fun _ _ h => .inr h⟩, RP.lit rfl⟩
def canonN (n : Node) : Node := ⟨n.op, if n.op = 1 then n.cl else ⟨0, 0, 0, 0⟩, if n.op = 2 then n.rule else 0, if n.op = 3 \/ n.op = 8 then n.name else ⟨#[]⟩⟩
def okN (rules depth : Int) (n : Node) : Bool := decide (arityI n.op <= depth /\ 0 <= n.op /\ n.op <= 8 /\ (n.op = 2 -> 0 <= n.rule /\ n.rule < rules) /\ (n.op = 3 \/ n.op = 8 -> nameOk n.name = true /\ anyB n.name = false) /\ n = canonN n)
def rightL (rules : Int) : List Node -> Int -> Bool
 | [], d => decide (d = 1)
 | n :: r, d => okN rules d n && rightL rules r (d + (1 - arityI n.op))
def nodeV (n : Node) : List Value := [.int .i64 n.op, .int .u64 n.cl.c0, .int .u64 n.cl.c1, .int .u64 n.cl.c2, .int .u64 n.cl.c3, .int .i64 n.rule, .string n.name]
theorem nodeV_eq (n m : Node) : eqCells (nodeV n) (nodeV m) = decide (n = m) := by
 obtain ⟨op, ⟨c0, c1, c2, c3⟩, r, nm⟩ := n
 obtain ⟨op', ⟨c0', c1', c2', c3'⟩, r', nm'⟩ := m
 rw [Bool.eq_iff_iff]
 simp [nodeV, eqCells, vbeq, beq_bytes]
 try simp only [and_assoc]
 try exact fun _ => trivial
theorem nodeV_canon {n m : Node} (h : canonN n = m) : eqCells (nodeV n) (nodeV m) = decide (n = canonN n) := by rw [nodeV_eq, h]
attribute [local irreducible] anyB
theorem canon1 {n : Node} (h : n.op = 1) : canonN n = ⟨n.op, n.cl, 0, ⟨#[]⟩⟩ := by simp [canonN, h]
theorem canon2 {n : Node} (h : n.op = 2) : canonN n = ⟨n.op, ⟨0, 0, 0, 0⟩, n.rule, ⟨#[]⟩⟩ := by simp [canonN, h]
theorem canon3 {n : Node} (h : n.op = 3 \/ n.op = 8) : canonN n = ⟨n.op, ⟨0, 0, 0, 0⟩, 0, n.name⟩ := by rcases h with h | h <;> simp [canonN, h]
theorem canon0 {n : Node} (h1 : ¬n.op = 1) (h2 : ¬n.op = 2) (h3 : ¬n.op = 3) (h8 : ¬n.op = 8) : canonN n = ⟨n.op, ⟨0, 0, 0, 0⟩, 0, ⟨#[]⟩⟩ := by simp [canonN, h1, h2, h3, h8]
theorem right_c (b : List Node) (rules : Int) (hb : b.length <= 1000000) (hN : ∀ n ∈ b, n.name.size < 150000000000000 /\ (nameOk n.name = true -> Ascii n.name)) : ACalls Tryz.prog 55 [.c (.p (bodyP b)), i64 rules] [] (fun r _ => r = .ret (bl (rightL rules b 0))) := by
 refine acalls_by Tryz.func55 Tryz.ntmps55 ?_
 simp only [argFr]
 repeat' (first| (refine wS ?_)| fail)
 refine aw_roundsG (ι := Nat × Int) (fun i n => [(0, .c (.p (bodyP b))), (1, i64 rules), (5, i64 i.2), (11, .c (.p (bodyP b))), (12, i64 b.length), (13, i64 i.1)]) (fun _ _ => []) (fun i => i.1 <= b.length /\ 0 <= i.2 /\ i.2 <= i.1 /\ rightL rules (b.drop i.1) i.2 = rightL rules b 0) (fun i => b.length - i.1) (0, 0) 0 ⟨by simp, by simp, by simp, by simp⟩ (by simp) rfl (by simp [Fr.get]) ?_
 rintro ⟨i, d⟩ q g ⟨h1, h2, h3, h4⟩ hg
 dsimp only at h1 h2 h3 h4 ⊢
 by_cases hi : i < b.length
 ·rw [drop_at b i hi] at h4
  simp only [rightL] at h4
  obtain ⟨hn1, hn2⟩ := hN _ (at'_mem (show 0 <= (i : Int) by omega) (show (i : Int) < b.length by omega))
  have ha := arity_le (at' b (i : Int)).op
  have hbad : okN rules d (at' b (i : Int)) = false -> CE.ret (bl false) = CE.ret (bl (rightL rules b 0)) := fun h => by rw [<- h4, h]; rfl
  by_cases p1 : (at' b (i : Int)).op = 1
  ·have hc := canon1 p1
   repeat' (first| (refine aw_T ?_ (hb := eT))| (show lOp; refine op0 (by first | (show kCall; exact b_call ((arity_c (at' b (i : Int)).op))) | (show kBinopNeq; exact b_neqAgg (hr := nodeV_canon hc))) ?_)| (show eRet; refine ret1 Tryz.results55 ?_)| (refine wS ?_)| (show lGu; refine al_splitD (fun h => ?_) (fun h => ?_))| (show cIf; refine aw_if (fun h => ?_) (fun h => ?_))| (exfalso; omega))
   all_goals try simp only [Bool.not_eq_true', Bool.not_eq_false', decide_eq_false_iff_not, decide_eq_true_eq] at h
   all_goals first
    | (refine hbad (decide_eq_false fun q => ?_)
       obtain ⟨c1, c2, c3, c4, c5, c6⟩ := q
       first | omega | contradiction | (have := c4 (by assumption); omega) | (have c5 := c5 (by first | exact .inl (by assumption) | exact .inr (by assumption)); rw [hnm] at c5; first | exact Bool.noConfusion c5.1 | (rw [hany] at c5; exact Bool.noConfusion c5.2)))
    | (have hk : okN rules d (at' b (i : Int)) = true := decide_eq_true ⟨by omega, by omega, by omega, fun q => by first | omega | (constructor <;> omega), fun q => by first | omega | exact ⟨by assumption, by assumption⟩, by assumption⟩
       rw [hk, Bool.true_and] at h4
       exact ⟨(i + 1, d + (1 - arityI (at' b (i : Int)).op)), _, ⟨by dsimp only; omega, by dsimp only; omega, by dsimp only; omega, h4⟩, Nat.le_refl _, List.drop_length, by simp [Fr.get], by dsimp only; omega⟩)
  by_cases p2 : (at' b (i : Int)).op = 2
  ·have hc := canon2 p2
   repeat' (first| (refine aw_T ?_ (hb := eT))| (refine aw_F ?_ (hb := eF))| (show lOp; refine op0 (by first | (show kCall; exact b_call ((arity_c (at' b (i : Int)).op))) | (show kBinopNeq; exact b_neqAgg (hr := nodeV_canon hc))) ?_)| (show eRet; refine ret1 Tryz.results55 ?_)| (refine wS ?_)| (show lGu; refine al_splitD (fun h => ?_) (fun h => ?_))| (show cIf; refine aw_if (fun h => ?_) (fun h => ?_))| (exfalso; omega))
   all_goals try simp only [Bool.not_eq_true', Bool.not_eq_false', decide_eq_false_iff_not, decide_eq_true_eq] at h
   all_goals first
    | (refine hbad (decide_eq_false fun q => ?_)
       obtain ⟨c1, c2, c3, c4, c5, c6⟩ := q
       first | omega | contradiction | (have := c4 (by assumption); omega) | (have c5 := c5 (by first | exact .inl (by assumption) | exact .inr (by assumption)); rw [hnm] at c5; first | exact Bool.noConfusion c5.1 | (rw [hany] at c5; exact Bool.noConfusion c5.2)))
    | (have hk : okN rules d (at' b (i : Int)) = true := decide_eq_true ⟨by omega, by omega, by omega, fun q => by first | omega | (constructor <;> omega), fun q => by first | omega | exact ⟨by assumption, by assumption⟩, by assumption⟩
       rw [hk, Bool.true_and] at h4
       exact ⟨(i + 1, d + (1 - arityI (at' b (i : Int)).op)), _, ⟨by dsimp only; omega, by dsimp only; omega, by dsimp only; omega, h4⟩, Nat.le_refl _, List.drop_length, by simp [Fr.get], by dsimp only; omega⟩)
  by_cases p3 : (at' b (i : Int)).op = 3 \/ (at' b (i : Int)).op = 8
  ·have hc := canon3 p3
   cases hnm : nameOk (at' b (i : Int)).name with
   | true =>
    have hgc := any_c (at' b (i : Int)).name (by have := name_size hnm; omega) (hn2 hnm)
    cases hany : anyB (at' b (i : Int)).name with
    | true =>
     rw [hany] at hgc
     rcases p3 with p3 | p3
     ·repeat' (first| (refine aw_T ?_ (hb := eT))| (refine aw_F ?_ (hb := eF))| (refine al_yes ?_ (hb := hnm))| (show lOp; refine op0 (by (show kCall; first | exact b_call ((arity_c (at' b (i : Int)).op)) | exact b_call ((name_c (at' b (i : Int)).name (by omega))) | exact b_callG hgc (fun _ _ _ _ => trivial))) ?_)| (show eRet; refine ret1 Tryz.results55 ?_)| (refine wS ?_)| (show lGu; refine al_splitD (fun h => ?_) (fun h => ?_))| (exfalso; omega))
      all_goals try simp only [Bool.not_eq_true', Bool.not_eq_false', decide_eq_false_iff_not, decide_eq_true_eq] at h
      all_goals first
       | (refine hbad (decide_eq_false fun q => ?_)
          obtain ⟨c1, c2, c3, c4, c5, c6⟩ := q
          first | omega | contradiction | (have := c4 (by assumption); omega) | (have c5 := c5 (by first | exact .inl (by assumption) | exact .inr (by assumption)); rw [hnm] at c5; first | exact Bool.noConfusion c5.1 | (rw [hany] at c5; exact Bool.noConfusion c5.2)))
       | (have hk : okN rules d (at' b (i : Int)) = true := decide_eq_true ⟨by omega, by omega, by omega, fun q => by first | omega | (constructor <;> omega), fun q => by first | omega | exact ⟨by assumption, by assumption⟩, by assumption⟩
          rw [hk, Bool.true_and] at h4
          exact ⟨(i + 1, d + (1 - arityI (at' b (i : Int)).op)), _, ⟨by dsimp only; omega, by dsimp only; omega, by dsimp only; omega, h4⟩, Nat.le_refl _, List.drop_length, by simp [Fr.get], by dsimp only; omega⟩)
     ·repeat' (first| (refine aw_T ?_ (hb := eT))| (refine aw_F ?_ (hb := eF))| (refine al_yes ?_ (hb := hnm))| (show lOp; refine op0 (by (show kCall; first | exact b_call ((arity_c (at' b (i : Int)).op)) | exact b_call ((name_c (at' b (i : Int)).name (by omega))) | exact b_callG hgc (fun _ _ _ _ => trivial))) ?_)| (show eRet; refine ret1 Tryz.results55 ?_)| (refine wS ?_)| (show lGu; refine al_splitD (fun h => ?_) (fun h => ?_))| (exfalso; omega))
      all_goals try simp only [Bool.not_eq_true', Bool.not_eq_false', decide_eq_false_iff_not, decide_eq_true_eq] at h
      all_goals first
       | (refine hbad (decide_eq_false fun q => ?_)
          obtain ⟨c1, c2, c3, c4, c5, c6⟩ := q
          first | omega | contradiction | (have := c4 (by assumption); omega) | (have c5 := c5 (by first | exact .inl (by assumption) | exact .inr (by assumption)); rw [hnm] at c5; first | exact Bool.noConfusion c5.1 | (rw [hany] at c5; exact Bool.noConfusion c5.2)))
       | (have hk : okN rules d (at' b (i : Int)) = true := decide_eq_true ⟨by omega, by omega, by omega, fun q => by first | omega | (constructor <;> omega), fun q => by first | omega | exact ⟨by assumption, by assumption⟩, by assumption⟩
          rw [hk, Bool.true_and] at h4
          exact ⟨(i + 1, d + (1 - arityI (at' b (i : Int)).op)), _, ⟨by dsimp only; omega, by dsimp only; omega, by dsimp only; omega, h4⟩, Nat.le_refl _, List.drop_length, by simp [Fr.get], by dsimp only; omega⟩)
    | false =>
     rw [hany] at hgc
     rcases p3 with p3 | p3
     ·repeat' (first| (refine aw_T ?_ (hb := eT))| (refine aw_F ?_ (hb := eF))| (refine al_yes ?_ (hb := hnm))| (show lOp; refine op0 (by first | (show kCall; first | exact b_call ((arity_c (at' b (i : Int)).op)) | exact b_call ((name_c (at' b (i : Int)).name (by omega))) | exact b_callG hgc (fun _ _ _ _ => trivial)) | (show kBinopNeq; exact b_neqAgg (hr := nodeV_canon hc))) ?_)| (show eRet; refine ret1 Tryz.results55 ?_)| (refine wS ?_)| (show lGu; refine al_splitD (fun h => ?_) (fun h => ?_))| (show cIf; refine aw_if (fun h => ?_) (fun h => ?_))| (exfalso; omega))
      all_goals try simp only [Bool.not_eq_true', Bool.not_eq_false', decide_eq_false_iff_not, decide_eq_true_eq] at h
      all_goals first
       | (refine hbad (decide_eq_false fun q => ?_)
          obtain ⟨c1, c2, c3, c4, c5, c6⟩ := q
          first | omega | contradiction | (have := c4 (by assumption); omega) | (have c5 := c5 (by first | exact .inl (by assumption) | exact .inr (by assumption)); rw [hnm] at c5; first | exact Bool.noConfusion c5.1 | (rw [hany] at c5; exact Bool.noConfusion c5.2)))
       | (have hk : okN rules d (at' b (i : Int)) = true := decide_eq_true ⟨by omega, by omega, by omega, fun q => by first | omega | (constructor <;> omega), fun q => by first | omega | exact ⟨by assumption, by assumption⟩, by assumption⟩
          rw [hk, Bool.true_and] at h4
          exact ⟨(i + 1, d + (1 - arityI (at' b (i : Int)).op)), _, ⟨by dsimp only; omega, by dsimp only; omega, by dsimp only; omega, h4⟩, Nat.le_refl _, List.drop_length, by simp [Fr.get], by dsimp only; omega⟩)
     ·repeat' (first| (refine aw_T ?_ (hb := eT))| (refine aw_F ?_ (hb := eF))| (refine al_yes ?_ (hb := hnm))| (show lOp; refine op0 (by first | (show kCall; first | exact b_call ((arity_c (at' b (i : Int)).op)) | exact b_call ((name_c (at' b (i : Int)).name (by omega))) | exact b_callG hgc (fun _ _ _ _ => trivial)) | (show kBinopNeq; exact b_neqAgg (hr := nodeV_canon hc))) ?_)| (show eRet; refine ret1 Tryz.results55 ?_)| (refine wS ?_)| (show lGu; refine al_splitD (fun h => ?_) (fun h => ?_))| (show cIf; refine aw_if (fun h => ?_) (fun h => ?_))| (exfalso; omega))
      all_goals try simp only [Bool.not_eq_true', Bool.not_eq_false', decide_eq_false_iff_not, decide_eq_true_eq] at h
      all_goals first
       | (refine hbad (decide_eq_false fun q => ?_)
          obtain ⟨c1, c2, c3, c4, c5, c6⟩ := q
          first | omega | contradiction | (have := c4 (by assumption); omega) | (have c5 := c5 (by first | exact .inl (by assumption) | exact .inr (by assumption)); rw [hnm] at c5; first | exact Bool.noConfusion c5.1 | (rw [hany] at c5; exact Bool.noConfusion c5.2)))
       | (have hk : okN rules d (at' b (i : Int)) = true := decide_eq_true ⟨by omega, by omega, by omega, fun q => by first | omega | (constructor <;> omega), fun q => by first | omega | exact ⟨by assumption, by assumption⟩, by assumption⟩
          rw [hk, Bool.true_and] at h4
          exact ⟨(i + 1, d + (1 - arityI (at' b (i : Int)).op)), _, ⟨by dsimp only; omega, by dsimp only; omega, by dsimp only; omega, h4⟩, Nat.le_refl _, List.drop_length, by simp [Fr.get], by dsimp only; omega⟩)
   | false =>
    have hnc := name_c (at' b (i : Int)).name (by omega)
    rw [hnm] at hnc
    rcases p3 with p3 | p3
    ·repeat' (first| (refine aw_T ?_ (hb := eT))| (refine aw_F ?_ (hb := eF))| (show lOp; refine op0 (by (show kCall; first | exact b_call ((arity_c (at' b (i : Int)).op)) | exact b_call (hnc))) ?_)| (show eRet; refine ret1 Tryz.results55 ?_)| (refine wS ?_)| (show lGu; refine al_splitD (fun h => ?_) (fun h => ?_))| (exfalso; omega))
     all_goals try simp only [Bool.not_eq_true', Bool.not_eq_false', decide_eq_false_iff_not, decide_eq_true_eq] at h
     all_goals first
      | (refine hbad (decide_eq_false fun q => ?_)
         obtain ⟨c1, c2, c3, c4, c5, c6⟩ := q
         first | omega | contradiction | (have := c4 (by assumption); omega) | (have c5 := c5 (by first | exact .inl (by assumption) | exact .inr (by assumption)); rw [hnm] at c5; first | exact Bool.noConfusion c5.1 | (rw [hany] at c5; exact Bool.noConfusion c5.2)))
      | (have hk : okN rules d (at' b (i : Int)) = true := decide_eq_true ⟨by omega, by omega, by omega, fun q => by first | omega | (constructor <;> omega), fun q => by first | omega | exact ⟨by assumption, by assumption⟩, by assumption⟩
         rw [hk, Bool.true_and] at h4
         exact ⟨(i + 1, d + (1 - arityI (at' b (i : Int)).op)), _, ⟨by dsimp only; omega, by dsimp only; omega, by dsimp only; omega, h4⟩, Nat.le_refl _, List.drop_length, by simp [Fr.get], by dsimp only; omega⟩)
    ·repeat' (first| (refine aw_T ?_ (hb := eT))| (refine aw_F ?_ (hb := eF))| (show lOp; refine op0 (by (show kCall; first | exact b_call ((arity_c (at' b (i : Int)).op)) | exact b_call (hnc))) ?_)| (show eRet; refine ret1 Tryz.results55 ?_)| (refine wS ?_)| (show lGu; refine al_splitD (fun h => ?_) (fun h => ?_))| (exfalso; omega))
     all_goals try simp only [Bool.not_eq_true', Bool.not_eq_false', decide_eq_false_iff_not, decide_eq_true_eq] at h
     all_goals first
      | (refine hbad (decide_eq_false fun q => ?_)
         obtain ⟨c1, c2, c3, c4, c5, c6⟩ := q
         first | omega | contradiction | (have := c4 (by assumption); omega) | (have c5 := c5 (by first | exact .inl (by assumption) | exact .inr (by assumption)); rw [hnm] at c5; first | exact Bool.noConfusion c5.1 | (rw [hany] at c5; exact Bool.noConfusion c5.2)))
      | (have hk : okN rules d (at' b (i : Int)) = true := decide_eq_true ⟨by omega, by omega, by omega, fun q => by first | omega | (constructor <;> omega), fun q => by first | omega | exact ⟨by assumption, by assumption⟩, by assumption⟩
         rw [hk, Bool.true_and] at h4
         exact ⟨(i + 1, d + (1 - arityI (at' b (i : Int)).op)), _, ⟨by dsimp only; omega, by dsimp only; omega, by dsimp only; omega, h4⟩, Nat.le_refl _, List.drop_length, by simp [Fr.get], by dsimp only; omega⟩)
  have hc := canon0 p1 p2 (fun h => p3 (.inl h)) (fun h => p3 (.inr h))
  repeat' (first| (refine aw_T ?_ (hb := eT))| (refine aw_F ?_ (hb := eF))| (show lOp; refine op0 (by first | (show kCall; exact b_call ((arity_c (at' b (i : Int)).op))) | (show kBinopNeq; exact b_neqAgg (hr := nodeV_canon hc))) ?_)| (show eRet; refine ret1 Tryz.results55 ?_)| (refine wS ?_)| (show lGu; refine al_splitD (fun h => ?_) (fun h => ?_))| (show cIf; refine aw_if (fun h => ?_) (fun h => ?_)))
  all_goals try simp only [Bool.not_eq_true', Bool.not_eq_false', decide_eq_false_iff_not, decide_eq_true_eq] at h
  all_goals first
   | (refine hbad (decide_eq_false fun q => ?_)
      obtain ⟨c1, c2, c3, c4, c5, c6⟩ := q
      first | omega | contradiction | (have := c4 (by assumption); omega) | (have c5 := c5 (by first | exact .inl (by assumption) | exact .inr (by assumption)); rw [hnm] at c5; first | exact Bool.noConfusion c5.1 | (rw [hany] at c5; exact Bool.noConfusion c5.2)))
   | (have hk : okN rules d (at' b (i : Int)) = true := decide_eq_true ⟨by omega, by omega, by omega, fun q => by first | omega | (constructor <;> omega), fun q => by first | omega | exact ⟨by assumption, by assumption⟩, by assumption⟩
      rw [hk, Bool.true_and] at h4
      exact ⟨(i + 1, d + (1 - arityI (at' b (i : Int)).op)), _, ⟨by dsimp only; omega, by dsimp only; omega, by dsimp only; omega, h4⟩, Nat.le_refl _, List.drop_length, by simp [Fr.get], by dsimp only; omega⟩)
 ·have : i = b.length := by omega
  subst this
  rw [List.drop_length] at h4
  simp only [rightL] at h4
  repeat' (first| (refine aw_F ?_ (hb := eF))| (show eRet; refine ret1 Tryz.results55 ?_)| (refine wS ?_)| fail)
  rw [h4]
end Go.AL
namespace Go.AL
open Go.Proofs
attribute [local irreducible] AWp AList RStep seqQ blockQ retQ DSteps DT DU awR rQ SStep letterB digitB preB nameOk anyB rightL
structure CoreIn (c : Core) : Prop where
 len : c.rules.length <= 150000000000000
 size : sizeI c <= 1000000000000
 names : ∀ r ∈ c.rules, r.name.size < 150000000000000 /\ ∀ n ∈ r.body, n.name.size < 150000000000000 /\ (nameOk n.name = true -> Ascii n.name)
theorem len_sizeL : ∀ (l : List Rule) (n : Int) (r : Rule), r ∈ l -> n + r.body.length <= sizeL l n
 | a :: l, n, r, h => by
  simp only [sizeL]
  rcases List.mem_cons.1 h with rfl | h
  ·exact sizeL_le l _
  ·have := len_sizeL l (n + a.body.length) r h; omega
def checkL (n : Int) : List Rule -> List ByteArray -> Bool
 | [], _ => true
 | r :: l, seen => !(idxK r.name seen).isSome && (nameOk r.name && (rightL n r.body 0 && checkL n l (seen ++ [r.name])))
def checkI (c : Core) : Int :=
 if c.rules.length < 1 \/ c.rules.length > 256 \/ c.start < 0 \/ c.start >= c.rules.length \/ sizeI c > 16384 then 6 else if checkL c.rules.length c.rules [] = true then 0 else 6
abbrev seenE (l : List (ByteArray × Int)) : List (ByteArray × AV) := l.map fun p => (p.1, i64 p.2)
theorem look_seen (k : ByteArray) : ∀ l : List (ByteArray × Int), (lookM k (seenE l)).isSome = (idxK k (l.map (·.1))).isSome
 | [] => rfl
 | (a, v) :: r => by
  simp only [seenE, List.map_cons, lookM, idxK]
  by_cases h : k = a
  ·rw [if_pos h, if_pos h]; rfl
  ·rw [if_neg h, if_neg h, Option.isSome_map]
   exact look_seen k r
theorem set_seen (k : ByteArray) (v : Int) (l : List (ByteArray × Int)) (h : (idxK k (l.map (·.1))).isSome = false) : setM k (i64 v) (seenE l) = seenE (l ++ [(k, v)]) := by
 have e : (seenE l).map (·.1) = l.map (·.1) := by simp [seenE, Function.comp_def]
 have h : idxK k (l.map (·.1)) = none := by simpa using h
 simp only [setM, e, h]
 simp [seenE]
theorem i0_zero (m : List Loc) (w : World) (F : Nat -> Nat -> Prop) : RV0 m w F (i64 0) (.int .i64 0) := RP.lit rfl
theorem i0_not_tup (l : List AV) : i64 0 ≠ .tup l := fun h => by cases h
theorem pure_seen (l : List (ByteArray × Int)) : ∀ v ∈ seenE l, pureV0 v.2 = true := fun v hv => by
 obtain ⟨p, _, rfl⟩ := List.mem_map.1 hv
 rfl
theorem check_c (c : Core) (hc : CoreIn c) : ACalls Tryz.prog 36 [coreV c] [] (fun r _ => r = .ret (i64 (checkI c))) := by
 have hl := hc.len
 have hsz := hc.size
 by_cases h0 : c.rules.length < 1 \/ c.rules.length > 256 \/ c.start < 0 \/ c.start >= c.rules.length \/ sizeI c > 16384
 ·have e0 : checkI c = 6 := by unfold checkI; rw [if_pos h0]
  rw [e0]
  refine acalls_by Tryz.func36 Tryz.ntmps36 ?_
  simp only [argFr]
  repeat' (first| (show lOp; refine op0 (by (show kCall; exact b_call ((size_c c hsz hl)))) ?_)| (show eRet; refine ret1 Tryz.results36 ?_)| (refine wS ?_)| (show lGu; refine al_splitD (fun h => ?_) (fun h => ?_))| (show cIf; refine aw_ifD (fun h => ?_) (fun h => ?_))| (exfalso; omega))
  all_goals rfl
 have e0 : checkI c = if checkL c.rules.length c.rules [] = true then 0 else 6 := by unfold checkI; rw [if_neg h0]
 rw [e0]
 refine acalls_by Tryz.func36 Tryz.ntmps36 ?_
 simp only [argFr]
 repeat' (first| (show lMakeMap; refine k_makeMap encStr ?_)| (show lOp; refine op0 (by (show kCall; exact b_call ((size_c c hsz hl)))) ?_)| (show eRet; refine ret1 Tryz.results36 ?_)| (refine wS ?_)| (show lGu; refine al_splitD (fun h => ?_) (fun h => ?_))| (show cIf; refine aw_ifD (fun h => ?_) (fun h => ?_))| (exfalso; omega))
 have e1 : ∀ r ∈ c.rules, (r.body.length : Int) <= sizeI c := fun r h => by have := len_sizeL c.rules 0 r h; show _ <= sizeL c.rules 0; omega
 refine aw_roundsP (ι := Nat × List (ByteArray × Int)) 2 (fun i => [.cells [.p (rulesP c.rules), .p (lI c.start)], .ext (MapX encStr (seenE i.2))]) (fun i n => [(1, .c (.ptr 0 0)), (3, .c (.mpr 1)), (38, .c (.p (rulesP c.rules))), (39, i64 c.rules.length), (40, i64 i.1)]) (fun _ _ => []) (fun i => i.1 <= c.rules.length /\ checkL c.rules.length (c.rules.drop i.1) (i.2.map (·.1)) = checkL c.rules.length c.rules []) (fun i => c.rules.length - i.1) (0, []) 2 (fun _ => rfl) ⟨by simp, by simp⟩ (by omega) (by simp) rfl rfl (by simp [Fr.get]) ?_
 rintro ⟨i, seen⟩ n g ⟨h1, h2⟩ hg
 dsimp only at h1 h2 hg ⊢
 have hg2 : 2 + g.length = n := by simp at hg; omega
 clear hg
 by_cases hi : i < c.rules.length
 ·rw [drop_at c.rules i hi] at h2
  simp only [checkL] at h2
  have hm := at'_mem (show 0 <= (i : Int) by omega) (show (i : Int) < c.rules.length by omega)
  obtain ⟨n1, n2⟩ := hc.names _ hm
  have hbl := e1 _ hm
  have hlook := look_seen (at' c.rules (i : Int)).name seen
  have hnc := name_c (at' c.rules (i : Int)).name (by omega)
  have hrc := right_c (at' c.rules (i : Int)).body c.rules.length (by omega) n2
  cases k1 : (idxK (at' c.rules (i : Int)).name (seen.map (·.1))).isSome with
  | true =>
   rw [k1] at h2 hlook
   rw [<- h2]
   repeat' (first| (refine aw_T ?_ (hb := eT))| (show lOp; refine op0 (by (show kLookup; exact b_lookupOk (enc := encStr) (yv := strA (at' c.rules (i : Int)).name) (zv := i64 0) Tryz.underlying123 rfl i0_zero i0_not_tup (pure_seen seen) rfl hlook (hy := by exact rfl))) ?_)| (show eRet; refine ret1 Tryz.results36 ?_)| (refine wS ?_)| fail)
   rfl
  | false =>
   rw [k1] at h2 hlook
   cases k2 : nameOk (at' c.rules (i : Int)).name with
   | false =>
    rw [k2] at h2 hnc
    rw [<- h2]
    repeat' (first| (refine aw_T ?_ (hb := eT))| (show lAt 56; refine op0 (b_call hnc) ?_)| (show lOp; refine op0 (by (show kLookup; exact b_lookupOk (enc := encStr) (yv := strA (at' c.rules (i : Int)).name) (zv := i64 0) Tryz.underlying123 rfl i0_zero i0_not_tup (pure_seen seen) rfl hlook (hy := by exact rfl))) ?_)| (show eRet; refine ret1 Tryz.results36 ?_)| (refine wS ?_)| fail)
    rfl
   | true =>
    rw [k2] at h2 hnc
    cases k3 : rightL c.rules.length (at' c.rules (i : Int)).body 0 with
    | false =>
     rw [k3] at h2 hrc
     rw [<- h2]
     repeat' (first| (refine aw_T ?_ (hb := eT))| (show lAt 56; refine op0 (b_call hnc) ?_)| (show lAt 65; refine op0 (b_call hrc) ?_)| (show lOp; refine op0 (by (show kLookup; exact b_lookupOk (enc := encStr) (yv := strA (at' c.rules (i : Int)).name) (zv := i64 0) Tryz.underlying123 rfl i0_zero i0_not_tup (pure_seen seen) rfl hlook (hy := by exact rfl))) ?_)| (show eRet; refine ret1 Tryz.results36 ?_)| (refine wS ?_)| fail)
     rfl
    | true =>
     rw [k3] at h2 hrc
     have hst : ([AObj.cells [.p (rulesP c.rules), .p (lI c.start)], .ext (MapX encStr (seenE seen))] ++ (g ++ [AObj.cells ((encRule (at' c.rules (i : Int))).map .p)])).set 1 (.ext (MapX encStr (setM (at' c.rules (i : Int)).name (i64 i) (seenE seen)))) = [.cells [.p (rulesP c.rules), .p (lI c.start)], .ext (MapX encStr (seenE (seen ++ [((at' c.rules (i : Int)).name, (i : Int))])))] ++ (g ++ [AObj.cells ((encRule (at' c.rules (i : Int))).map .p)]) := by rw [set_seen (at' c.rules (i : Int)).name i seen k1]; rfl
     repeat' (first| (refine aw_T ?_ (hb := eT))| (show lAt 56; refine op0 (b_call hnc) ?_)| (show lAt 65; refine op0 (b_call hrc) ?_)| (show lStore; refine k_store (l' := (encRule (at' c.rules (i : Int))).map .p) ?_)| (show lMapUpdate; refine k_mapSet (enc := encStr) (yv := strA (at' c.rules (i : Int)).name) (zv := i64 i) Tryz.underlying123 rfl hst ?_ (hy := by exact rfl) (hz := by exact rfl))| (show lOp; refine op0 (by (show kLookup; exact b_lookupOk (enc := encStr) (yv := strA (at' c.rules (i : Int)).name) (zv := i64 0) Tryz.underlying123 rfl i0_zero i0_not_tup (pure_seen seen) rfl hlook (hy := by exact rfl))) ?_)| (refine wS ?_)| fail)
     exact ⟨(i + 1, seen ++ [((at' c.rules (i : Int)).name, (i : Int))]), n + 1, ⟨by dsimp only; omega, by simpa using h2⟩, by omega, by simp; omega, rfl, dropGP hg2 (by simp) rfl, by simp [Fr.get], by dsimp only; omega⟩
 ·have : i = c.rules.length := by omega
  subst this
  rw [List.drop_length] at h2
  rw [<- h2]
  repeat' (first| (refine aw_F ?_ (hb := eF))| (show eRet; refine ret1 Tryz.results36 ?_)| (refine wS ?_)| fail)
  rfl
end Go.AL
