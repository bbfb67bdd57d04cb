/-
  DERIVED. GIVEN WITH THE SEED: THE CARDS: each row of YtndlecddgihihaaDoorRows.lean that lists a variable, with what it lists TIED to the program's text (the seventh form; the later family's looks); each row that meets fmt, with fmt's text TOLD by the authors' own Lean function (tested against real Go, not proved from fmt's source: count such statements apart). THE CARD IS WHAT COUNTS. Prove the row's statement (the work); the ties are given (YtndlecddgihihaaDoorTie.lean); close each card by the builder's one call (the guide's Derived/Test/ToyasCard.lean, 'card_holds'). Laid BY PROGRAM, IN A SANDBOX (cutbox-door.mjs). By AI agents, Wed Nov 11 2026. No macro, syntax, notation, axiom, sorry.
-/
import Derived.Test.YtndlecddgihihaaDoorRows
import GoSem.ClaimSeven
namespace Go.Proofs.YtndlecddgihihaaDoor
namespace Rows

/-- THE TIED CARD OF 'worldmintlaw07.LexerTokens'. -/
def lexerTokensCard : Claim7 := { stood := { row := lexerTokensRow, standIns := [], harness := (true, "1e16267ed7a95bfea5e113de0d7170effa9e6822d5a947b52ffd19f8a0102b8d"), looks := false }, kinds := [], alts := [], laidByText := true, laidKinds := [.data], laidTests := true, laidLooks := .later }
def LexerTokensCardSaid : Prop := Claim7.holds Tryd.pinned (.plain (OpenSpec.ofChange lexerTokensSpec)) lexerTokensCard

/-- THE TIED CARD OF 'worldmintlaw07.LexerBytes'. -/
def lexerBytesCard : Claim7 := { stood := { row := lexerBytesRow, standIns := [], harness := (true, "1e16267ed7a95bfea5e113de0d7170effa9e6822d5a947b52ffd19f8a0102b8d"), looks := false }, kinds := [], alts := [], laidByText := true, laidKinds := [.data], laidTests := true, laidLooks := .later }
def LexerBytesCardSaid : Prop := Claim7.holds Tryd.pinned (.plain (OpenSpec.ofChange lexerBytesSpec)) lexerBytesCard

/-- THE TIED CARD OF 'worldmintlaw07.LexerLong'. -/
def lexerLongCard : Claim7 := { stood := { row := lexerLongRow, standIns := [], harness := (true, "1e16267ed7a95bfea5e113de0d7170effa9e6822d5a947b52ffd19f8a0102b8d"), looks := false }, kinds := [], alts := [], laidByText := true, laidKinds := [.data], laidTests := true, laidLooks := .later }
def LexerLongCardSaid : Prop := Claim7.holds Tryd.pinned (.plain (OpenSpec.ofChange lexerLongSpec)) lexerLongCard

/-- THE TIED CARD OF 'worldmintlaw07.LexerPosition'. -/
def lexerPositionCard : Claim7 := { stood := { row := lexerPositionRow, standIns := [], harness := (true, "1e16267ed7a95bfea5e113de0d7170effa9e6822d5a947b52ffd19f8a0102b8d"), looks := false }, kinds := [], alts := [], laidByText := true, laidKinds := [.data], laidTests := true, laidLooks := .later }
def LexerPositionCardSaid : Prop := Claim7.holds Tryd.pinned (.plain (OpenSpec.ofChange lexerPositionSpec)) lexerPositionCard

/-- THE TIED CARD OF 'worldmintlaw07.LexerPlaces'. -/
def lexerPlacesCard : Claim7 := { stood := { row := lexerPlacesRow, standIns := [], harness := (true, "1e16267ed7a95bfea5e113de0d7170effa9e6822d5a947b52ffd19f8a0102b8d"), looks := false }, kinds := [], alts := [], laidByText := true, laidKinds := [.data], laidTests := true, laidLooks := .later }
def LexerPlacesCardSaid : Prop := Claim7.holds Tryd.pinned (.plain (OpenSpec.ofChange lexerPlacesSpec)) lexerPlacesCard

/-- THE TIED CARD OF 'worldmintlaw07.LexerApart'. -/
def lexerApartCard : Claim7 := { stood := { row := lexerApartRow, standIns := [], harness := (true, "1e16267ed7a95bfea5e113de0d7170effa9e6822d5a947b52ffd19f8a0102b8d"), looks := false }, kinds := [], alts := [], laidByText := true, laidKinds := [.data], laidTests := true, laidLooks := .later }
def LexerApartCardSaid : Prop := Claim7.holds Tryd.pinned (.plain (OpenSpec.ofChange lexerApartSpec)) lexerApartCard

/-- THE TIED CARD OF 'worldmintlaw07.LexerErrors'. -/
def lexerErrorsCard : Claim7 := { stood := { row := lexerErrorsRow, standIns := [], harness := (true, "1e16267ed7a95bfea5e113de0d7170effa9e6822d5a947b52ffd19f8a0102b8d"), looks := false }, kinds := [], alts := [], laidByText := true, laidKinds := [.data], laidTests := true, laidLooks := .later }
def LexerErrorsCardSaid : Prop := Claim7.holds Tryd.pinned (.plain (OpenSpec.ofChange lexerErrorsSpec)) lexerErrorsCard

/-- THE SECOND FORM's CARD OF 'worldmintlaw07.LexerTokens'. -/
def lexerTokensUptoCard : Claim7 := { stood := { row := lexerTokensUptoRow, standIns := [], harness := (true, "1e16267ed7a95bfea5e113de0d7170effa9e6822d5a947b52ffd19f8a0102b8d"), looks := false }, kinds := [], alts := [], laidByText := true, laidKinds := [.data], laidTests := true, laidLooks := .later }
def LexerTokensUptoCardSaid : Prop := Claim7.holds Tryd.pinned (.plain (OpenSpec.upto lexerTokensSpec)) lexerTokensUptoCard

/-- THE SECOND FORM's CARD OF 'worldmintlaw07.LexerBytes'. -/
def lexerBytesUptoCard : Claim7 := { stood := { row := lexerBytesUptoRow, standIns := [], harness := (true, "1e16267ed7a95bfea5e113de0d7170effa9e6822d5a947b52ffd19f8a0102b8d"), looks := false }, kinds := [], alts := [], laidByText := true, laidKinds := [.data], laidTests := true, laidLooks := .later }
def LexerBytesUptoCardSaid : Prop := Claim7.holds Tryd.pinned (.plain (OpenSpec.upto lexerBytesSpec)) lexerBytesUptoCard

/-- THE SECOND FORM's CARD OF 'worldmintlaw07.LexerLong'. -/
def lexerLongUptoCard : Claim7 := { stood := { row := lexerLongUptoRow, standIns := [], harness := (true, "1e16267ed7a95bfea5e113de0d7170effa9e6822d5a947b52ffd19f8a0102b8d"), looks := false }, kinds := [], alts := [], laidByText := true, laidKinds := [.data], laidTests := true, laidLooks := .later }
def LexerLongUptoCardSaid : Prop := Claim7.holds Tryd.pinned (.plain (OpenSpec.upto lexerLongSpec)) lexerLongUptoCard

/-- THE SECOND FORM's CARD OF 'worldmintlaw07.LexerPosition'. -/
def lexerPositionUptoCard : Claim7 := { stood := { row := lexerPositionUptoRow, standIns := [], harness := (true, "1e16267ed7a95bfea5e113de0d7170effa9e6822d5a947b52ffd19f8a0102b8d"), looks := false }, kinds := [], alts := [], laidByText := true, laidKinds := [.data], laidTests := true, laidLooks := .later }
def LexerPositionUptoCardSaid : Prop := Claim7.holds Tryd.pinned (.plain (OpenSpec.upto lexerPositionSpec)) lexerPositionUptoCard

/-- THE SECOND FORM's CARD OF 'worldmintlaw07.LexerPlaces'. -/
def lexerPlacesUptoCard : Claim7 := { stood := { row := lexerPlacesUptoRow, standIns := [], harness := (true, "1e16267ed7a95bfea5e113de0d7170effa9e6822d5a947b52ffd19f8a0102b8d"), looks := false }, kinds := [], alts := [], laidByText := true, laidKinds := [.data], laidTests := true, laidLooks := .later }
def LexerPlacesUptoCardSaid : Prop := Claim7.holds Tryd.pinned (.plain (OpenSpec.upto lexerPlacesSpec)) lexerPlacesUptoCard

/-- THE SECOND FORM's CARD OF 'worldmintlaw07.LexerApart'. -/
def lexerApartUptoCard : Claim7 := { stood := { row := lexerApartUptoRow, standIns := [], harness := (true, "1e16267ed7a95bfea5e113de0d7170effa9e6822d5a947b52ffd19f8a0102b8d"), looks := false }, kinds := [], alts := [], laidByText := true, laidKinds := [.data], laidTests := true, laidLooks := .later }
def LexerApartUptoCardSaid : Prop := Claim7.holds Tryd.pinned (.plain (OpenSpec.upto lexerApartSpec)) lexerApartUptoCard

/-- THE SECOND FORM's CARD OF 'worldmintlaw07.LexerErrors'. -/
def lexerErrorsUptoCard : Claim7 := { stood := { row := lexerErrorsUptoRow, standIns := [], harness := (true, "1e16267ed7a95bfea5e113de0d7170effa9e6822d5a947b52ffd19f8a0102b8d"), looks := false }, kinds := [], alts := [], laidByText := true, laidKinds := [.data], laidTests := true, laidLooks := .later }
def LexerErrorsUptoCardSaid : Prop := Claim7.holds Tryd.pinned (.plain (OpenSpec.upto lexerErrorsSpec)) lexerErrorsUptoCard
end Rows
end Go.Proofs.YtndlecddgihihaaDoor
