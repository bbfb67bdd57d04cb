/-
  DERIVED. GIVEN WITH THE SEED: THE CARDS: each row of YtfpcgjgkbniofaaDoorRows.lean that lists a variable, with what it lists TIED to the program's text (the seventh form; the later family's looks); each row that meets fmt, with fmt's text TOLD by the authors' own Lean function (tested against real Go, not proved from fmt's source: count such statements apart). THE CARD IS WHAT COUNTS. Prove the row's statement (the work); the ties are given (YtfpcgjgkbniofaaDoorTie.lean); close each card by the builder's one call (the guide's Derived/Test/ToyasCard.lean, 'card_holds'). Laid BY PROGRAM, IN A SANDBOX (cutbox-door.mjs). By AI agents, Wed Nov 11 2026. No macro, syntax, notation, axiom, sorry.
-/
import Derived.Test.YtfpcgjgkbniofaaDoorRows
import GoSem.ClaimSeven
namespace Go.Proofs.YtfpcgjgkbniofaaDoor
namespace Rows

/-- THE TIED CARD OF 'worldmintlaw11.GainMany'. -/
def gainManyCard : Claim7 := { stood := { row := gainManyRow, standIns := [], harness := (true, "94866de9ec40b4a2a9981aefa0be94501f25cfc4866af45eb0b7fd8c487d8574"), looks := false }, kinds := [], alts := [], laidByText := true, laidKinds := [.data], laidTests := true, laidLooks := .later }
def GainManyCardSaid : Prop := Claim7.holds Tryd.pinned (.plain (OpenSpec.ofChange gainManySpec)) gainManyCard

/-- THE TIED CARD OF 'worldmintlaw11.GainLeast'. -/
def gainLeastCard : Claim7 := { stood := { row := gainLeastRow, standIns := [], harness := (true, "94866de9ec40b4a2a9981aefa0be94501f25cfc4866af45eb0b7fd8c487d8574"), looks := false }, kinds := [], alts := [], laidByText := true, laidKinds := [.data], laidTests := true, laidLooks := .later }
def GainLeastCardSaid : Prop := Claim7.holds Tryd.pinned (.plain (OpenSpec.ofChange gainLeastSpec)) gainLeastCard

/-- THE TIED CARD OF 'worldmintlaw11.GainAgain'. -/
def gainAgainCard : Claim7 := { stood := { row := gainAgainRow, standIns := [], harness := (true, "94866de9ec40b4a2a9981aefa0be94501f25cfc4866af45eb0b7fd8c487d8574"), looks := false }, kinds := [], alts := [], laidByText := true, laidKinds := [.data], laidTests := true, laidLooks := .later }
def GainAgainCardSaid : Prop := Claim7.holds Tryd.pinned (.plain (OpenSpec.ofChange gainAgainSpec)) gainAgainCard

/-- THE TIED CARD OF 'worldmintlaw11.GainShortest'. -/
def gainShortestCard : Claim7 := { stood := { row := gainShortestRow, standIns := [], harness := (true, "94866de9ec40b4a2a9981aefa0be94501f25cfc4866af45eb0b7fd8c487d8574"), looks := false }, kinds := [], alts := [], laidByText := true, laidKinds := [.data], laidTests := true, laidLooks := .later }
def GainShortestCardSaid : Prop := Claim7.holds Tryd.pinned (.plain (OpenSpec.ofChange gainShortestSpec)) gainShortestCard

/-- THE SECOND FORM's CARD OF 'worldmintlaw11.GainMany'. -/
def gainManyUptoCard : Claim7 := { stood := { row := gainManyUptoRow, standIns := [], harness := (true, "94866de9ec40b4a2a9981aefa0be94501f25cfc4866af45eb0b7fd8c487d8574"), looks := false }, kinds := [], alts := [], laidByText := true, laidKinds := [.data], laidTests := true, laidLooks := .later }
def GainManyUptoCardSaid : Prop := Claim7.holds Tryd.pinned (.plain (OpenSpec.upto gainManySpec)) gainManyUptoCard

/-- THE SECOND FORM's CARD OF 'worldmintlaw11.GainLeast'. -/
def gainLeastUptoCard : Claim7 := { stood := { row := gainLeastUptoRow, standIns := [], harness := (true, "94866de9ec40b4a2a9981aefa0be94501f25cfc4866af45eb0b7fd8c487d8574"), looks := false }, kinds := [], alts := [], laidByText := true, laidKinds := [.data], laidTests := true, laidLooks := .later }
def GainLeastUptoCardSaid : Prop := Claim7.holds Tryd.pinned (.plain (OpenSpec.upto gainLeastSpec)) gainLeastUptoCard

/-- THE SECOND FORM's CARD OF 'worldmintlaw11.GainAgain'. -/
def gainAgainUptoCard : Claim7 := { stood := { row := gainAgainUptoRow, standIns := [], harness := (true, "94866de9ec40b4a2a9981aefa0be94501f25cfc4866af45eb0b7fd8c487d8574"), looks := false }, kinds := [], alts := [], laidByText := true, laidKinds := [.data], laidTests := true, laidLooks := .later }
def GainAgainUptoCardSaid : Prop := Claim7.holds Tryd.pinned (.plain (OpenSpec.upto gainAgainSpec)) gainAgainUptoCard

/-- THE SECOND FORM's CARD OF 'worldmintlaw11.GainShortest'. -/
def gainShortestUptoCard : Claim7 := { stood := { row := gainShortestUptoRow, standIns := [], harness := (true, "94866de9ec40b4a2a9981aefa0be94501f25cfc4866af45eb0b7fd8c487d8574"), looks := false }, kinds := [], alts := [], laidByText := true, laidKinds := [.data], laidTests := true, laidLooks := .later }
def GainShortestUptoCardSaid : Prop := Claim7.holds Tryd.pinned (.plain (OpenSpec.upto gainShortestSpec)) gainShortestUptoCard
end Rows
end Go.Proofs.YtfpcgjgkbniofaaDoor
