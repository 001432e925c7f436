/-
  No cell of these rows narrows 'for every input' (looked for: loops, veiled, ifaces, maps, wideKeys, modest, calm, conditions, laid).
  DERIVED. THE GIVEN ROWS OF THIS SEAT. 3 by the template 'for every input the law returns true; each argument reads behind the call as it read before'; 0 by the template 'total and deterministic' (their statements: YtkiepfhcnicfgaaTotals.lean).
  GIVEN WITH THE SEED: the statements are not yours to turn. If you find one false, say at which input.
  Laid BY PROGRAM, IN A SANDBOX (cutbox-rows.mjs): the forced cells as the released guide's own fill.sh prints them over the translation d721350c5f623415… (all of the seat's roots in one cut). By AI agents, Wed Nov 11 2026. No macro, syntax, notation, axiom, sorry.
-/
import Derived.Test.YtkiepfhcnicfgaaChecked
import GoSem.Claim
import GoSem.ClaimJoined
import GoSem.ClaimMapViews
import Derived.JoinedTies
import Derived.KernelRfl
namespace Go.Proofs.Ytkiepfhcnicfgaa
/- THE CELL 'sum', in the pinned program and in every row, IS THE sha256 OF THE DUMP (.gsa) THAT YtkiepfhcnicfgaaProg.lean LOADS. Nothing in Lean hashes anything: it is a label: what it is worth is what the hold of that sum in a sandbox is worth. -/
noncomputable def Try.pinned : Pinned := { name := "ytkiepfhcnicfgaa", sum := "d721350c5f623415cccd8772d7c46eedd66caebd8b46b13491182c31a95ba2e0", checked := Try.checked }
namespace Rows
def none {H : Type} : Left H := { results := [], args := [] }

/-- 'dowellaw17.GrowLeft': WHATEVER THE INPUT: true; the input reads as it did. -/
def growLeftSpec : ChangeSpec := { name := "growLeft", fn := fun _ => fun
  | [d1, d2, d3, d4] => { results := [.lit (.bool true)], args := [d1, d2, d3, d4] }
  | _ => none }
def growLeftRow : OpenClaim := { program := "ytkiepfhcnicfgaa", sum := "d721350c5f623415cccd8772d7c46eedd66caebd8b46b13491182c31a95ba2e0", func := "dowel/dowellaw17.GrowLeft", spec := "growLeft", inPlace := ["internal/bytealg.IndexByteString", "internal/bytealg.IndexString"], unfollowed := true, recurses := true, named := ["internal/bytealg.MaxLen"], plainKeys := false, apart := false }
def GrowLeftSaid : Prop := growLeftRow.holds Try.pinned (OpenSpec.ofChange growLeftSpec)

/-- ITS FALSE NEIGHBOUR: 'it returns false'. Refute it at one input. -/
def growLeftWrong : ChangeSpec := { name := "growLeft", fn := fun _ => fun
  | [d1, d2, d3, d4] => { results := [.lit (.bool false)], args := [d1, d2, d3, d4] }
  | _ => none }
def GrowLeftWrongFalsely : Prop := growLeftRow.holds Try.pinned (OpenSpec.ofChange growLeftWrong)

/-- 'dowellaw17.GrowWithin': WHATEVER THE INPUT: true; the input reads as it did. -/
def growWithinSpec : ChangeSpec := { name := "growWithin", fn := fun _ => fun
  | [d1, d2, d3] => { results := [.lit (.bool true)], args := [d1, d2, d3] }
  | _ => none }
def growWithinRow : OpenClaim := { program := "ytkiepfhcnicfgaa", sum := "d721350c5f623415cccd8772d7c46eedd66caebd8b46b13491182c31a95ba2e0", func := "dowel/dowellaw17.GrowWithin", spec := "growWithin", inPlace := ["internal/bytealg.IndexByteString", "internal/bytealg.IndexString"], unfollowed := true, recurses := true, named := ["internal/bytealg.MaxLen"], plainKeys := false, apart := false }
def GrowWithinSaid : Prop := growWithinRow.holds Try.pinned (OpenSpec.ofChange growWithinSpec)

/-- ITS FALSE NEIGHBOUR: 'it returns false'. Refute it at one input. -/
def growWithinWrong : ChangeSpec := { name := "growWithin", fn := fun _ => fun
  | [d1, d2, d3] => { results := [.lit (.bool false)], args := [d1, d2, d3] }
  | _ => none }
def GrowWithinWrongFalsely : Prop := growWithinRow.holds Try.pinned (OpenSpec.ofChange growWithinWrong)

/-- 'dowellaw17.GrowLimits': WHATEVER THE INPUT: true; the input reads as it did. -/
def growLimitsSpec : ChangeSpec := { name := "growLimits", fn := fun _ => fun
  | [d1, d2, d3, d4] => { results := [.lit (.bool true)], args := [d1, d2, d3, d4] }
  | _ => none }
def growLimitsRow : OpenClaim := { program := "ytkiepfhcnicfgaa", sum := "d721350c5f623415cccd8772d7c46eedd66caebd8b46b13491182c31a95ba2e0", func := "dowel/dowellaw17.GrowLimits", spec := "growLimits", inPlace := ["internal/bytealg.IndexByteString", "internal/bytealg.IndexString"], unfollowed := true, recurses := true, named := ["internal/bytealg.MaxLen"], plainKeys := false, apart := false }
def GrowLimitsSaid : Prop := growLimitsRow.holds Try.pinned (OpenSpec.ofChange growLimitsSpec)

/-- ITS FALSE NEIGHBOUR: 'it returns false'. Refute it at one input. -/
def growLimitsWrong : ChangeSpec := { name := "growLimits", fn := fun _ => fun
  | [d1, d2, d3, d4] => { results := [.lit (.bool false)], args := [d1, d2, d3, d4] }
  | _ => none }
def GrowLimitsWrongFalsely : Prop := growLimitsRow.holds Try.pinned (OpenSpec.ofChange growLimitsWrong)

/- THE SECOND FORM. 'bulk': how many values and letters a reading holds, each counted each time it is reached (what is shared counts as often as it is met; a slice's spare places count too). A statement '..UptoSaid' is the law's where the arguments, and the package variables that the reading takes, are together of bulk at most 1048576: NARROWER than '..Said'. Prove '..Said' where nothing that the law and all that it calls make is longer than what came in: it says more and counts as full. Else prove '..UptoSaid'. A law counts once. -/
mutual
def uptoBulk {H : Type} : DataW H → Nat
  | .lit (.string bytes) => bytes.length + 1
  | .lit _ => 1
  | .nil => 1
  | .ptr d => uptoBulk d + 1
  | .slice elems spare => uptoBulkAll elems + uptoBulkAll spare + 1
  | .agg parts => uptoBulkAll parts + 1
  | .iface _ d => uptoBulk d + 1
  | .map entries => uptoBulkEntries entries + 1
  | .held _ => 1
def uptoBulkAll {H : Type} : List (DataW H) → Nat
  | [] => 0
  | d :: r => uptoBulk d + uptoBulkAll r
def uptoBulkEntries {H : Type} : List (Lit × DataW H) → Nat
  | [] => 0
  | x :: r => uptoBulkEntry x + uptoBulkEntries r
def uptoBulkEntry {H : Type} : Lit × DataW H → Nat
  | (.string bytes, d) => bytes.length + uptoBulk d + 1
  | (_, d) => uptoBulk d + 1
 end
def uptoSmall : (H : Type) → List (DataW H) → Bool := fun _ ds => decide (uptoBulkAll ds ≤ 1048576)
def OpenSpec.upto (s : _root_.Go.ChangeSpec) : _root_.Go.OpenSpec := { _root_.Go.OpenSpec.ofChange s with cond := some uptoSmall }

/-- 'dowellaw17.GrowLeft', WHERE WHAT IT READS IS OF BULK AT MOST 1048576: true; the input reads as it did. -/
def growLeftUptoRow : OpenClaim := { program := "ytkiepfhcnicfgaa", sum := "d721350c5f623415cccd8772d7c46eedd66caebd8b46b13491182c31a95ba2e0", func := "dowel/dowellaw17.GrowLeft", spec := "growLeft", inPlace := ["internal/bytealg.IndexByteString", "internal/bytealg.IndexString"], unfollowed := true, recurses := true, named := ["internal/bytealg.MaxLen"], plainKeys := false, apart := false, narrowed := true }
def GrowLeftUptoSaid : Prop := growLeftUptoRow.holds Try.pinned (OpenSpec.upto growLeftSpec)

/-- 'dowellaw17.GrowWithin', WHERE WHAT IT READS IS OF BULK AT MOST 1048576: true; the input reads as it did. -/
def growWithinUptoRow : OpenClaim := { program := "ytkiepfhcnicfgaa", sum := "d721350c5f623415cccd8772d7c46eedd66caebd8b46b13491182c31a95ba2e0", func := "dowel/dowellaw17.GrowWithin", spec := "growWithin", inPlace := ["internal/bytealg.IndexByteString", "internal/bytealg.IndexString"], unfollowed := true, recurses := true, named := ["internal/bytealg.MaxLen"], plainKeys := false, apart := false, narrowed := true }
def GrowWithinUptoSaid : Prop := growWithinUptoRow.holds Try.pinned (OpenSpec.upto growWithinSpec)

/-- 'dowellaw17.GrowLimits', WHERE WHAT IT READS IS OF BULK AT MOST 1048576: true; the input reads as it did. -/
def growLimitsUptoRow : OpenClaim := { program := "ytkiepfhcnicfgaa", sum := "d721350c5f623415cccd8772d7c46eedd66caebd8b46b13491182c31a95ba2e0", func := "dowel/dowellaw17.GrowLimits", spec := "growLimits", inPlace := ["internal/bytealg.IndexByteString", "internal/bytealg.IndexString"], unfollowed := true, recurses := true, named := ["internal/bytealg.MaxLen"], plainKeys := false, apart := false, narrowed := true }
def GrowLimitsUptoSaid : Prop := growLimitsUptoRow.holds Try.pinned (OpenSpec.upto growLimitsSpec)

end Rows
end Go.Proofs.Ytkiepfhcnicfgaa
