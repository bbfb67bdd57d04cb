/-
  DERIVED. GIVEN WITH THE SEED: THE CARDS: each row of YtfpcgjgkbniofaaGreatDoorRows.lean that lists a variable, with what it lists TIED to the program's text (the seventh form; the later family's looks); each row that meets fmt, with fmt's text TOLD by the authors' own Lean function (tested against real Go, not proved from fmt's source: count such statements apart). THE CARD IS WHAT COUNTS. Prove the row's statement (the work); the ties are given (YtfpcgjgkbniofaaGreatDoorTie.lean); close each card by the builder's one call (the guide's Derived/Test/ToyasCard.lean, 'card_holds'). Laid BY PROGRAM, IN A SANDBOX (cutbox-door.mjs). By AI agents, Wed Nov 11 2026. No macro, syntax, notation, axiom, sorry.
-/
import Derived.Test.YtfpcgjgkbniofaaGreatDoorRows
import GoSem.ClaimSeven
namespace Go.Proofs.YtfpcgjgkbniofaaGreatDoor
namespace Rows

/-- THE TIED CARD OF 'worldmintlaw11.GainNet'. -/
def gainNetCard : Claim7 := { stood := { row := gainNetRow, standIns := [], harness := (true, "7131332d2579a400836f75321897a71ca6d7e98d217dba4f837317d119d0c6c1"), looks := false }, kinds := [], alts := [], laidByText := true, laidKinds := [.data], laidTests := true, laidLooks := .later }
def GainNetCardSaid : Prop := Claim7.holds Tryz.pinned (.plain (OpenSpec.ofChange gainNetSpec)) gainNetCard

/-- THE TIED CARD OF 'worldmintlaw11.GainFind'. -/
def gainFindCard : Claim7 := { stood := { row := gainFindRow, standIns := [], harness := (true, "7131332d2579a400836f75321897a71ca6d7e98d217dba4f837317d119d0c6c1"), looks := false }, kinds := [], alts := [], laidByText := true, laidKinds := [.data], laidTests := true, laidLooks := .later }
def GainFindCardSaid : Prop := Claim7.holds Tryz.pinned (.plain (OpenSpec.ofChange gainFindSpec)) gainFindCard

/-- THE TIED CARD OF 'worldmintlaw11.GainCheck'. -/
def gainCheckCard : Claim7 := { stood := { row := gainCheckRow, standIns := [], harness := (true, "7131332d2579a400836f75321897a71ca6d7e98d217dba4f837317d119d0c6c1"), looks := false }, kinds := [], alts := [], laidByText := true, laidKinds := [.data], laidTests := true, laidLooks := .later }
def GainCheckCardSaid : Prop := Claim7.holds Tryz.pinned (.plain (OpenSpec.ofChange gainCheckSpec)) gainCheckCard

/-- THE TIED CARD OF 'worldmintlaw11.GainLaws'. -/
def gainLawsCard : Claim7 := { stood := { row := gainLawsRow, standIns := [], harness := (true, "7131332d2579a400836f75321897a71ca6d7e98d217dba4f837317d119d0c6c1"), looks := false }, kinds := [], alts := [], laidByText := true, laidKinds := [.data], laidTests := true, laidLooks := .later }
def GainLawsCardSaid : Prop := Claim7.holds Tryz.pinned (.plain (OpenSpec.ofChange gainLawsSpec)) gainLawsCard

/-- THE SECOND FORM's CARD OF 'worldmintlaw11.GainNet'. -/
def gainNetUptoCard : Claim7 := { stood := { row := gainNetUptoRow, standIns := [], harness := (true, "7131332d2579a400836f75321897a71ca6d7e98d217dba4f837317d119d0c6c1"), looks := false }, kinds := [], alts := [], laidByText := true, laidKinds := [.data], laidTests := true, laidLooks := .later }
def GainNetUptoCardSaid : Prop := Claim7.holds Tryz.pinned (.plain (OpenSpec.upto gainNetSpec)) gainNetUptoCard

/-- THE SECOND FORM's CARD OF 'worldmintlaw11.GainFind'. -/
def gainFindUptoCard : Claim7 := { stood := { row := gainFindUptoRow, standIns := [], harness := (true, "7131332d2579a400836f75321897a71ca6d7e98d217dba4f837317d119d0c6c1"), looks := false }, kinds := [], alts := [], laidByText := true, laidKinds := [.data], laidTests := true, laidLooks := .later }
def GainFindUptoCardSaid : Prop := Claim7.holds Tryz.pinned (.plain (OpenSpec.upto gainFindSpec)) gainFindUptoCard

/-- THE SECOND FORM's CARD OF 'worldmintlaw11.GainCheck'. -/
def gainCheckUptoCard : Claim7 := { stood := { row := gainCheckUptoRow, standIns := [], harness := (true, "7131332d2579a400836f75321897a71ca6d7e98d217dba4f837317d119d0c6c1"), looks := false }, kinds := [], alts := [], laidByText := true, laidKinds := [.data], laidTests := true, laidLooks := .later }
def GainCheckUptoCardSaid : Prop := Claim7.holds Tryz.pinned (.plain (OpenSpec.upto gainCheckSpec)) gainCheckUptoCard

/-- THE SECOND FORM's CARD OF 'worldmintlaw11.GainLaws'. -/
def gainLawsUptoCard : Claim7 := { stood := { row := gainLawsUptoRow, standIns := [], harness := (true, "7131332d2579a400836f75321897a71ca6d7e98d217dba4f837317d119d0c6c1"), looks := false }, kinds := [], alts := [], laidByText := true, laidKinds := [.data], laidTests := true, laidLooks := .later }
def GainLawsUptoCardSaid : Prop := Claim7.holds Tryz.pinned (.plain (OpenSpec.upto gainLawsSpec)) gainLawsUptoCard
end Rows
end Go.Proofs.YtfpcgjgkbniofaaGreatDoor
