/-
  DERIVED. GIVEN WITH THE SEED: THE CARDS: each row of YtpmnbcdjoomgcaaDoorRows.lean that lists a variable, with what it lists TIED to the program's text (the seventh form; the later family's looks); each row that meets fmt, with fmt's text TOLD by the authors' own Lean function (tested against real Go, not proved from fmt's source: count such statements apart). THE CARD IS WHAT COUNTS. Prove the row's statement (the work); the ties are given (YtpmnbcdjoomgcaaDoorTie.lean); close each card by the builder's one call (the guide's Derived/Test/ToyasCard.lean, 'card_holds'). Laid BY PROGRAM, IN A SANDBOX (cutbox-door.mjs). By AI agents, Wed Nov 11 2026. No macro, syntax, notation, axiom, sorry.
-/
import Derived.Test.YtpmnbcdjoomgcaaDoorRows
import GoSem.ClaimSeven
namespace Go.Proofs.YtpmnbcdjoomgcaaDoor
namespace Rows

/-- THE TIED CARD OF 'worldmintlaw08.ParserRaw'. -/
def parserRawCard : Claim7 := { stood := { row := parserRawRow, standIns := [], harness := (true, "eb9b924e387e8ae0a490738b8dd0812515b09f16faa42186d7fcf95bd12b1680"), looks := true }, kinds := [], alts := [], laidByText := true, laidKinds := [.data, .data, .data, .data], laidTests := true, laidLooks := .later }
def ParserRawCardSaid : Prop := Claim7.holds Tryd.pinned (.plain (OpenSpec.ofChange parserRawSpec)) parserRawCard

/-- THE TIED CARD OF 'worldmintlaw08.ParserPrint'. -/
def parserPrintCard : Claim7 := { stood := { row := parserPrintRow, standIns := [], harness := (true, "eb9b924e387e8ae0a490738b8dd0812515b09f16faa42186d7fcf95bd12b1680"), looks := true }, kinds := [], alts := [], laidByText := true, laidKinds := [.data, .data, .data, .data], laidTests := true, laidLooks := .later }
def ParserPrintCardSaid : Prop := Claim7.holds Tryd.pinned (.plain (OpenSpec.ofChange parserPrintSpec)) parserPrintCard

/-- THE TIED CARD OF 'worldmintlaw08.ParserRound'. -/
def parserRoundCard : Claim7 := { stood := { row := parserRoundRow, standIns := [], harness := (true, "eb9b924e387e8ae0a490738b8dd0812515b09f16faa42186d7fcf95bd12b1680"), looks := true }, kinds := [], alts := [], laidByText := true, laidKinds := [.data, .data, .data, .data], laidTests := true, laidLooks := .later }
def ParserRoundCardSaid : Prop := Claim7.holds Tryd.pinned (.plain (OpenSpec.ofChange parserRoundSpec)) parserRoundCard

/-- THE TIED CARD OF 'worldmintlaw08.ParserSpaced'. -/
def parserSpacedCard : Claim7 := { stood := { row := parserSpacedRow, standIns := [], harness := (true, "eb9b924e387e8ae0a490738b8dd0812515b09f16faa42186d7fcf95bd12b1680"), looks := true }, kinds := [], alts := [], laidByText := true, laidKinds := [.data, .data, .data, .data], laidTests := true, laidLooks := .later }
def ParserSpacedCardSaid : Prop := Claim7.holds Tryd.pinned (.plain (OpenSpec.ofChange parserSpacedSpec)) parserSpacedCard

/-- THE TIED CARD OF 'worldmintlaw08.ParserApart'. -/
def parserApartCard : Claim7 := { stood := { row := parserApartRow, standIns := [], harness := (true, "eb9b924e387e8ae0a490738b8dd0812515b09f16faa42186d7fcf95bd12b1680"), looks := true }, kinds := [], alts := [], laidByText := true, laidKinds := [.data, .data, .data, .data], laidTests := true, laidLooks := .later }
def ParserApartCardSaid : Prop := Claim7.holds Tryd.pinned (.plain (OpenSpec.ofChange parserApartSpec)) parserApartCard

/-- THE TIED CARD OF 'worldmintlaw08.ParserErrors'. -/
def parserErrorsCard : Claim7 := { stood := { row := parserErrorsRow, standIns := [], harness := (true, "eb9b924e387e8ae0a490738b8dd0812515b09f16faa42186d7fcf95bd12b1680"), looks := true }, kinds := [], alts := [], laidByText := true, laidKinds := [.data, .data, .data, .data], laidTests := true, laidLooks := .later }
def ParserErrorsCardSaid : Prop := Claim7.holds Tryd.pinned (.plain (OpenSpec.ofChange parserErrorsSpec)) parserErrorsCard

/-- THE SECOND FORM's CARD OF 'worldmintlaw08.ParserRaw'. -/
def parserRawUptoCard : Claim7 := { stood := { row := parserRawUptoRow, standIns := [], harness := (true, "eb9b924e387e8ae0a490738b8dd0812515b09f16faa42186d7fcf95bd12b1680"), looks := true }, kinds := [], alts := [], laidByText := true, laidKinds := [.data, .data, .data, .data], laidTests := true, laidLooks := .later }
def ParserRawUptoCardSaid : Prop := Claim7.holds Tryd.pinned (.plain (OpenSpec.upto parserRawSpec)) parserRawUptoCard

/-- THE SECOND FORM's CARD OF 'worldmintlaw08.ParserPrint'. -/
def parserPrintUptoCard : Claim7 := { stood := { row := parserPrintUptoRow, standIns := [], harness := (true, "eb9b924e387e8ae0a490738b8dd0812515b09f16faa42186d7fcf95bd12b1680"), looks := true }, kinds := [], alts := [], laidByText := true, laidKinds := [.data, .data, .data, .data], laidTests := true, laidLooks := .later }
def ParserPrintUptoCardSaid : Prop := Claim7.holds Tryd.pinned (.plain (OpenSpec.upto parserPrintSpec)) parserPrintUptoCard

/-- THE SECOND FORM's CARD OF 'worldmintlaw08.ParserRound'. -/
def parserRoundUptoCard : Claim7 := { stood := { row := parserRoundUptoRow, standIns := [], harness := (true, "eb9b924e387e8ae0a490738b8dd0812515b09f16faa42186d7fcf95bd12b1680"), looks := true }, kinds := [], alts := [], laidByText := true, laidKinds := [.data, .data, .data, .data], laidTests := true, laidLooks := .later }
def ParserRoundUptoCardSaid : Prop := Claim7.holds Tryd.pinned (.plain (OpenSpec.upto parserRoundSpec)) parserRoundUptoCard

/-- THE SECOND FORM's CARD OF 'worldmintlaw08.ParserSpaced'. -/
def parserSpacedUptoCard : Claim7 := { stood := { row := parserSpacedUptoRow, standIns := [], harness := (true, "eb9b924e387e8ae0a490738b8dd0812515b09f16faa42186d7fcf95bd12b1680"), looks := true }, kinds := [], alts := [], laidByText := true, laidKinds := [.data, .data, .data, .data], laidTests := true, laidLooks := .later }
def ParserSpacedUptoCardSaid : Prop := Claim7.holds Tryd.pinned (.plain (OpenSpec.upto parserSpacedSpec)) parserSpacedUptoCard

/-- THE SECOND FORM's CARD OF 'worldmintlaw08.ParserApart'. -/
def parserApartUptoCard : Claim7 := { stood := { row := parserApartUptoRow, standIns := [], harness := (true, "eb9b924e387e8ae0a490738b8dd0812515b09f16faa42186d7fcf95bd12b1680"), looks := true }, kinds := [], alts := [], laidByText := true, laidKinds := [.data, .data, .data, .data], laidTests := true, laidLooks := .later }
def ParserApartUptoCardSaid : Prop := Claim7.holds Tryd.pinned (.plain (OpenSpec.upto parserApartSpec)) parserApartUptoCard

/-- THE SECOND FORM's CARD OF 'worldmintlaw08.ParserErrors'. -/
def parserErrorsUptoCard : Claim7 := { stood := { row := parserErrorsUptoRow, standIns := [], harness := (true, "eb9b924e387e8ae0a490738b8dd0812515b09f16faa42186d7fcf95bd12b1680"), looks := true }, kinds := [], alts := [], laidByText := true, laidKinds := [.data, .data, .data, .data], laidTests := true, laidLooks := .later }
def ParserErrorsUptoCardSaid : Prop := Claim7.holds Tryd.pinned (.plain (OpenSpec.upto parserErrorsSpec)) parserErrorsUptoCard
end Rows
end Go.Proofs.YtpmnbcdjoomgcaaDoor
