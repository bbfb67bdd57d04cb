/-
  DERIVED. GIVEN WITH THE SEED: THE CARDS: each row of YtpmnbcdjoomgcaaGreatDoorRows.lean that lists a variable, with what it lists TIED to the program's text (the seventh form; the later family's looks); each row that meets fmt, with fmt's text TOLD by the authors' own Lean function (tested against real Go, not proved from fmt's source: count such statements apart). THE CARD IS WHAT COUNTS. Prove the row's statement (the work); the ties are given (YtpmnbcdjoomgcaaGreatDoorTie.lean); close each card by the builder's one call (the guide's Derived/Test/ToyasCard.lean, 'card_holds'). Laid BY PROGRAM, IN A SANDBOX (cutbox-door.mjs). By AI agents, Wed Nov 11 2026. No macro, syntax, notation, axiom, sorry.
-/
import Derived.Test.YtpmnbcdjoomgcaaGreatDoorRows
import GoSem.ClaimSeven
namespace Go.Proofs.YtpmnbcdjoomgcaaGreatDoor
namespace Rows

/-- THE TIED CARD OF 'worldmintlaw08.ParserParse'. -/
def parserParseCard : Claim7 := { stood := { row := parserParseRow, standIns := [], harness := (true, "2d530f461952411480ea61e916e03e4317a315862ab836ca51b7295dbbf7aac2"), looks := true }, kinds := [], alts := [], laidByText := true, laidKinds := [.data, .data, .data, .data], laidTests := true, laidLooks := .later }
def ParserParseCardSaid : Prop := Claim7.holds Tryz.pinned (.plain (OpenSpec.ofChange parserParseSpec)) parserParseCard

/-- THE SECOND FORM's CARD OF 'worldmintlaw08.ParserParse'. -/
def parserParseUptoCard : Claim7 := { stood := { row := parserParseUptoRow, standIns := [], harness := (true, "2d530f461952411480ea61e916e03e4317a315862ab836ca51b7295dbbf7aac2"), looks := true }, kinds := [], alts := [], laidByText := true, laidKinds := [.data, .data, .data, .data], laidTests := true, laidLooks := .later }
def ParserParseUptoCardSaid : Prop := Claim7.holds Tryz.pinned (.plain (OpenSpec.upto parserParseSpec)) parserParseUptoCard
end Rows
end Go.Proofs.YtpmnbcdjoomgcaaGreatDoor
