/-
  DERIVED. GIVEN WITH THE SEED: THE CARDS: each row of YtggclegkceimjaaDoorRows.lean that lists a variable, with what it lists TIED to the program's text (the seventh form; the later family's looks); each row that meets fmt, with fmt's text TOLD by the authors' own Lean function (tested against real Go, not proved from fmt's source: count such statements apart). THE CARD IS WHAT COUNTS. Prove the row's statement (the work); the ties are given (YtggclegkceimjaaDoorTie.lean); close each card by the builder's one call (the guide's Derived/Test/ToyasCard.lean, 'card_holds'). Laid BY PROGRAM, IN A SANDBOX (cutbox-door.mjs). By AI agents, Wed Nov 11 2026. No macro, syntax, notation, axiom, sorry.
-/
import Derived.Test.YtggclegkceimjaaDoorRows
import GoSem.ClaimSeven
namespace Go.Proofs.YtggclegkceimjaaDoor
namespace Rows

/-- THE TIED CARD OF 'dowellaw22.PatternGrammars'. -/
def patternGrammarsCard : Claim7 := { stood := { row := patternGrammarsRow, standIns := [], harness := (true, "c7edcf3c53a22db324636ecd6343b9a7fee6be69bdc51367cfab8f808272b1a0"), looks := false }, kinds := [], alts := [], laidByText := true, laidKinds := [.data, .data, .data], laidTests := true, laidLooks := .later }
def PatternGrammarsCardSaid : Prop := Claim7.holds Tryd.pinned (.plain (OpenSpec.ofChange patternGrammarsSpec)) patternGrammarsCard

/-- THE SECOND FORM's CARD OF 'dowellaw22.PatternGrammars'. -/
def patternGrammarsUptoCard : Claim7 := { stood := { row := patternGrammarsUptoRow, standIns := [], harness := (true, "c7edcf3c53a22db324636ecd6343b9a7fee6be69bdc51367cfab8f808272b1a0"), looks := false }, kinds := [], alts := [], laidByText := true, laidKinds := [.data, .data, .data], laidTests := true, laidLooks := .later }
def PatternGrammarsUptoCardSaid : Prop := Claim7.holds Tryd.pinned (.plain (OpenSpec.upto patternGrammarsSpec)) patternGrammarsUptoCard
end Rows
end Go.Proofs.YtggclegkceimjaaDoor
