/-
  DERIVED. GIVEN WITH THE SEED: THE CARDS: each row of YtkjhlkngihponaaGreatDoorRows.lean that lists a variable, with what it lists TIED to the program's text (the seventh form; the later family's looks); each row that meets fmt, with fmt's text TOLD by the authors' own Lean function (tested against real Go, not proved from fmt's source: count such statements apart). THE CARD IS WHAT COUNTS. Prove the row's statement (the work); the ties are given (YtkjhlkngihponaaGreatDoorTie.lean); close each card by the builder's one call (the guide's Derived/Test/ToyasCard.lean, 'card_holds'). Laid BY PROGRAM, IN A SANDBOX (cutbox-door.mjs). By AI agents, Wed Nov 11 2026. No macro, syntax, notation, axiom, sorry.
-/
import Derived.Test.YtkjhlkngihponaaGreatDoorRows
import GoSem.ClaimSeven
namespace Go.Proofs.YtkjhlkngihponaaGreatDoor
namespace Rows

/-- THE TIED CARD OF 'worldmintlaw10.LawsComplete'. -/
def lawsCompleteCard : Claim7 := { stood := { row := lawsCompleteRow, standIns := [], harness := (true, "a853a45cfd99f6a0251f9a250b9b1424d2a14aa5b81253482dfb053dba4a88df"), looks := false }, kinds := [], alts := [], laidByText := true, laidKinds := [.data, .data, .data, .data], laidTests := true, laidLooks := .later }
def LawsCompleteCardSaid : Prop := Claim7.holds Tryz.pinned (.plain (OpenSpec.ofChange lawsCompleteSpec)) lawsCompleteCard

/-- THE TIED CARD OF 'worldmintlaw10.LawsFewer'. -/
def lawsFewerCard : Claim7 := { stood := { row := lawsFewerRow, standIns := [], harness := (true, "a853a45cfd99f6a0251f9a250b9b1424d2a14aa5b81253482dfb053dba4a88df"), looks := false }, kinds := [], alts := [], laidByText := true, laidKinds := [.data, .data, .data, .data], laidTests := true, laidLooks := .later }
def LawsFewerCardSaid : Prop := Claim7.holds Tryz.pinned (.plain (OpenSpec.ofChange lawsFewerSpec)) lawsFewerCard

/-- THE TIED CARD OF 'worldmintlaw10.LawsEffects'. -/
def lawsEffectsCard : Claim7 := { stood := { row := lawsEffectsRow, standIns := [], harness := (true, "a853a45cfd99f6a0251f9a250b9b1424d2a14aa5b81253482dfb053dba4a88df"), looks := false }, kinds := [], alts := [], laidByText := true, laidKinds := [.data, .data, .data, .data], laidTests := true, laidLooks := .later }
def LawsEffectsCardSaid : Prop := Claim7.holds Tryz.pinned (.plain (OpenSpec.ofChange lawsEffectsSpec)) lawsEffectsCard

/-- THE TIED CARD OF 'worldmintlaw10.LawsBasis'. -/
def lawsBasisCard : Claim7 := { stood := { row := lawsBasisRow, standIns := [], harness := (true, "a853a45cfd99f6a0251f9a250b9b1424d2a14aa5b81253482dfb053dba4a88df"), looks := false }, kinds := [], alts := [], laidByText := true, laidKinds := [.data, .data, .data, .data], laidTests := true, laidLooks := .later }
def LawsBasisCardSaid : Prop := Claim7.holds Tryz.pinned (.plain (OpenSpec.ofChange lawsBasisSpec)) lawsBasisCard

/-- THE TIED CARD OF 'worldmintlaw10.LawsHolds'. -/
def lawsHoldsCard : Claim7 := { stood := { row := lawsHoldsRow, standIns := [], harness := (true, "a853a45cfd99f6a0251f9a250b9b1424d2a14aa5b81253482dfb053dba4a88df"), looks := false }, kinds := [], alts := [], laidByText := true, laidKinds := [.data, .data, .data, .data], laidTests := true, laidLooks := .later }
def LawsHoldsCardSaid : Prop := Claim7.holds Tryz.pinned (.plain (OpenSpec.ofChange lawsHoldsSpec)) lawsHoldsCard

/-- THE TIED CARD OF 'worldmintlaw10.LawsPrint'. -/
def lawsPrintCard : Claim7 := { stood := { row := lawsPrintRow, standIns := [], harness := (true, "a853a45cfd99f6a0251f9a250b9b1424d2a14aa5b81253482dfb053dba4a88df"), looks := false }, kinds := [], alts := [], laidByText := true, laidKinds := [.data, .data, .data, .data], laidTests := true, laidLooks := .later }
def LawsPrintCardSaid : Prop := Claim7.holds Tryz.pinned (.plain (OpenSpec.ofChange lawsPrintSpec)) lawsPrintCard

/-- THE TIED CARD OF 'worldmintlaw10.LawsValue'. -/
def lawsValueCard : Claim7 := { stood := { row := lawsValueRow, standIns := [], harness := (true, "a853a45cfd99f6a0251f9a250b9b1424d2a14aa5b81253482dfb053dba4a88df"), looks := false }, kinds := [], alts := [], laidByText := true, laidKinds := [.data, .data, .data, .data], laidTests := true, laidLooks := .later }
def LawsValueCardSaid : Prop := Claim7.holds Tryz.pinned (.plain (OpenSpec.ofChange lawsValueSpec)) lawsValueCard

/-- THE TIED CARD OF 'worldmintlaw10.LawsKept'. -/
def lawsKeptCard : Claim7 := { stood := { row := lawsKeptRow, standIns := [], harness := (true, "a853a45cfd99f6a0251f9a250b9b1424d2a14aa5b81253482dfb053dba4a88df"), looks := false }, kinds := [], alts := [], laidByText := true, laidKinds := [.data, .data, .data, .data], laidTests := true, laidLooks := .later }
def LawsKeptCardSaid : Prop := Claim7.holds Tryz.pinned (.plain (OpenSpec.ofChange lawsKeptSpec)) lawsKeptCard

/-- THE SECOND FORM's CARD OF 'worldmintlaw10.LawsComplete'. -/
def lawsCompleteUptoCard : Claim7 := { stood := { row := lawsCompleteUptoRow, standIns := [], harness := (true, "a853a45cfd99f6a0251f9a250b9b1424d2a14aa5b81253482dfb053dba4a88df"), looks := false }, kinds := [], alts := [], laidByText := true, laidKinds := [.data, .data, .data, .data], laidTests := true, laidLooks := .later }
def LawsCompleteUptoCardSaid : Prop := Claim7.holds Tryz.pinned (.plain (OpenSpec.upto lawsCompleteSpec)) lawsCompleteUptoCard

/-- THE SECOND FORM's CARD OF 'worldmintlaw10.LawsFewer'. -/
def lawsFewerUptoCard : Claim7 := { stood := { row := lawsFewerUptoRow, standIns := [], harness := (true, "a853a45cfd99f6a0251f9a250b9b1424d2a14aa5b81253482dfb053dba4a88df"), looks := false }, kinds := [], alts := [], laidByText := true, laidKinds := [.data, .data, .data, .data], laidTests := true, laidLooks := .later }
def LawsFewerUptoCardSaid : Prop := Claim7.holds Tryz.pinned (.plain (OpenSpec.upto lawsFewerSpec)) lawsFewerUptoCard

/-- THE SECOND FORM's CARD OF 'worldmintlaw10.LawsEffects'. -/
def lawsEffectsUptoCard : Claim7 := { stood := { row := lawsEffectsUptoRow, standIns := [], harness := (true, "a853a45cfd99f6a0251f9a250b9b1424d2a14aa5b81253482dfb053dba4a88df"), looks := false }, kinds := [], alts := [], laidByText := true, laidKinds := [.data, .data, .data, .data], laidTests := true, laidLooks := .later }
def LawsEffectsUptoCardSaid : Prop := Claim7.holds Tryz.pinned (.plain (OpenSpec.upto lawsEffectsSpec)) lawsEffectsUptoCard

/-- THE SECOND FORM's CARD OF 'worldmintlaw10.LawsBasis'. -/
def lawsBasisUptoCard : Claim7 := { stood := { row := lawsBasisUptoRow, standIns := [], harness := (true, "a853a45cfd99f6a0251f9a250b9b1424d2a14aa5b81253482dfb053dba4a88df"), looks := false }, kinds := [], alts := [], laidByText := true, laidKinds := [.data, .data, .data, .data], laidTests := true, laidLooks := .later }
def LawsBasisUptoCardSaid : Prop := Claim7.holds Tryz.pinned (.plain (OpenSpec.upto lawsBasisSpec)) lawsBasisUptoCard

/-- THE SECOND FORM's CARD OF 'worldmintlaw10.LawsHolds'. -/
def lawsHoldsUptoCard : Claim7 := { stood := { row := lawsHoldsUptoRow, standIns := [], harness := (true, "a853a45cfd99f6a0251f9a250b9b1424d2a14aa5b81253482dfb053dba4a88df"), looks := false }, kinds := [], alts := [], laidByText := true, laidKinds := [.data, .data, .data, .data], laidTests := true, laidLooks := .later }
def LawsHoldsUptoCardSaid : Prop := Claim7.holds Tryz.pinned (.plain (OpenSpec.upto lawsHoldsSpec)) lawsHoldsUptoCard

/-- THE SECOND FORM's CARD OF 'worldmintlaw10.LawsPrint'. -/
def lawsPrintUptoCard : Claim7 := { stood := { row := lawsPrintUptoRow, standIns := [], harness := (true, "a853a45cfd99f6a0251f9a250b9b1424d2a14aa5b81253482dfb053dba4a88df"), looks := false }, kinds := [], alts := [], laidByText := true, laidKinds := [.data, .data, .data, .data], laidTests := true, laidLooks := .later }
def LawsPrintUptoCardSaid : Prop := Claim7.holds Tryz.pinned (.plain (OpenSpec.upto lawsPrintSpec)) lawsPrintUptoCard

/-- THE SECOND FORM's CARD OF 'worldmintlaw10.LawsValue'. -/
def lawsValueUptoCard : Claim7 := { stood := { row := lawsValueUptoRow, standIns := [], harness := (true, "a853a45cfd99f6a0251f9a250b9b1424d2a14aa5b81253482dfb053dba4a88df"), looks := false }, kinds := [], alts := [], laidByText := true, laidKinds := [.data, .data, .data, .data], laidTests := true, laidLooks := .later }
def LawsValueUptoCardSaid : Prop := Claim7.holds Tryz.pinned (.plain (OpenSpec.upto lawsValueSpec)) lawsValueUptoCard

/-- THE SECOND FORM's CARD OF 'worldmintlaw10.LawsKept'. -/
def lawsKeptUptoCard : Claim7 := { stood := { row := lawsKeptUptoRow, standIns := [], harness := (true, "a853a45cfd99f6a0251f9a250b9b1424d2a14aa5b81253482dfb053dba4a88df"), looks := false }, kinds := [], alts := [], laidByText := true, laidKinds := [.data, .data, .data, .data], laidTests := true, laidLooks := .later }
def LawsKeptUptoCardSaid : Prop := Claim7.holds Tryz.pinned (.plain (OpenSpec.upto lawsKeptSpec)) lawsKeptUptoCard
end Rows
end Go.Proofs.YtkjhlkngihponaaGreatDoor
