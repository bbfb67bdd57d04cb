/-
  NARROWER THAN 'FOR EVERY INPUT', by the rows' own cells (each row's printed sentence says how): GainNet: laid · GainFind: laid · GainCheck: laid · GainLaws: laid.
  DERIVED. THE GIVEN ROWS OF THIS SEAT. 4 by the template 'for every input the law returns true; each argument reads behind the call as it read before'; 0 by the template 'total and deterministic' (their statements: YtfpcgjgkbniofaaGreatDoorTotals.lean).
  GIVEN WITH THE SEED: the statements are not yours to turn. If you find one false, say at which input.
  Laid BY PROGRAM, IN A SANDBOX (cutbox-rows.mjs): the forced cells as the released guide's own fill.sh prints them over the translation 54ca452806f8a96b… (all of the seat's roots in one cut). By AI agents, Wed Nov 11 2026. No macro, syntax, notation, axiom, sorry.
-/
import Derived.Test.YtfpcgjgkbniofaaGreatDoorChecked
import GoSem.Claim
import GoSem.ClaimJoined
import GoSem.ClaimMapViews
import Derived.JoinedTies
import Derived.KernelRfl
namespace Go.Proofs.YtfpcgjgkbniofaaGreatDoor
/- THE CELL 'sum', in the pinned program and in every row, IS THE sha256 OF THE DUMP (.gsa) THAT YtfpcgjgkbniofaaGreatDoorProg.lean LOADS. Nothing in Lean hashes anything: it is a label: what it is worth is what the hold of that sum in a sandbox is worth. -/
noncomputable def Tryz.pinned : Pinned := { name := "ytfpcgjgkbniofaagreatdoor", sum := "54ca452806f8a96bae3c8025b2bbdcfa5bf1601dd4a72b285ea3dcc3422bafb6", checked := Tryz.checked }
namespace Rows
def none {H : Type} : Left H := { results := [], args := [] }

/- WHAT THE LISTED PACKAGE-LEVEL VARIABLES READ AS WHEN THE CALL BEGINS. Each datum BY PROGRAM (the guide's laid-datum.mjs) off the statement by which the dump's own 'gosem.cut.vars' lays the variable. In a bare row this is a premise. The card (YtfpcgjgkbniofaaGreatDoorCards.lean) ties it to the program's text. -/
def laid_worldmint_lexer_kinds {H : Type} : DataW H := .agg [.lit (.int .u8 0), .lit (.int .u8 0), .lit (.int .u8 0), .lit (.int .u8 0), .lit (.int .u8 0), .lit (.int .u8 0), .lit (.int .u8 0), .lit (.int .u8 0), .lit (.int .u8 0), .lit (.int .u8 1), .lit (.int .u8 1), .lit (.int .u8 0), .lit (.int .u8 0), .lit (.int .u8 0), .lit (.int .u8 0), .lit (.int .u8 0), .lit (.int .u8 0), .lit (.int .u8 0), .lit (.int .u8 0), .lit (.int .u8 0), .lit (.int .u8 0), .lit (.int .u8 0), .lit (.int .u8 0), .lit (.int .u8 0), .lit (.int .u8 0), .lit (.int .u8 0), .lit (.int .u8 0), .lit (.int .u8 0), .lit (.int .u8 0), .lit (.int .u8 0), .lit (.int .u8 0), .lit (.int .u8 0), .lit (.int .u8 1), .lit (.int .u8 0), .lit (.int .u8 0), .lit (.int .u8 2), .lit (.int .u8 0), .lit (.int .u8 0), .lit (.int .u8 0), .lit (.int .u8 0), .lit (.int .u8 7), .lit (.int .u8 7), .lit (.int .u8 0), .lit (.int .u8 7), .lit (.int .u8 7), .lit (.int .u8 6), .lit (.int .u8 7), .lit (.int .u8 0), .lit (.int .u8 4), .lit (.int .u8 4), .lit (.int .u8 4), .lit (.int .u8 4), .lit (.int .u8 4), .lit (.int .u8 4), .lit (.int .u8 4), .lit (.int .u8 4), .lit (.int .u8 4), .lit (.int .u8 4), .lit (.int .u8 7), .lit (.int .u8 7), .lit (.int .u8 7), .lit (.int .u8 7), .lit (.int .u8 7), .lit (.int .u8 0), .lit (.int .u8 0), .lit (.int .u8 0), .lit (.int .u8 0), .lit (.int .u8 0), .lit (.int .u8 0), .lit (.int .u8 0), .lit (.int .u8 0), .lit (.int .u8 0), .lit (.int .u8 0), .lit (.int .u8 0), .lit (.int .u8 0), .lit (.int .u8 0), .lit (.int .u8 0), .lit (.int .u8 0), .lit (.int .u8 0), .lit (.int .u8 0), .lit (.int .u8 0), .lit (.int .u8 0), .lit (.int .u8 0), .lit (.int .u8 0), .lit (.int .u8 0), .lit (.int .u8 0), .lit (.int .u8 0), .lit (.int .u8 0), .lit (.int .u8 0), .lit (.int .u8 0), .lit (.int .u8 0), .lit (.int .u8 0), .lit (.int .u8 0), .lit (.int .u8 0), .lit (.int .u8 0), .lit (.int .u8 5), .lit (.int .u8 0), .lit (.int .u8 3), .lit (.int .u8 3), .lit (.int .u8 3), .lit (.int .u8 3), .lit (.int .u8 3), .lit (.int .u8 3), .lit (.int .u8 3), .lit (.int .u8 3), .lit (.int .u8 3), .lit (.int .u8 3), .lit (.int .u8 3), .lit (.int .u8 3), .lit (.int .u8 3), .lit (.int .u8 3), .lit (.int .u8 3), .lit (.int .u8 3), .lit (.int .u8 3), .lit (.int .u8 3), .lit (.int .u8 3), .lit (.int .u8 3), .lit (.int .u8 3), .lit (.int .u8 3), .lit (.int .u8 3), .lit (.int .u8 3), .lit (.int .u8 3), .lit (.int .u8 3), .lit (.int .u8 7), .lit (.int .u8 0), .lit (.int .u8 7), .lit (.int .u8 0), .lit (.int .u8 0)]

/-- 'worldmintlaw11.GainNet': WHATEVER THE INPUT: true; the input reads as it did. -/
def gainNetSpec : ChangeSpec := { name := "gainNet", fn := fun _ => fun
  | [d1, d2, d3, d4, d5] => { results := [.lit (.bool true)], args := [d1, d2, d3, d4, d5] }
  | _ => none }
def gainNetRow : OpenClaim := { program := "ytfpcgjgkbniofaagreatdoor", sum := "54ca452806f8a96bae3c8025b2bbdcfa5bf1601dd4a72b285ea3dcc3422bafb6", func := "worldmint/worldmintlaw11.GainNet", spec := "gainNet", inPlace := ["internal/bytealg.IndexByteString"], unfollowed := true, recurses := true, named := ["worldmint/lexer.kinds"], apart := false, laid := [("worldmint/lexer.kinds", laid_worldmint_lexer_kinds)] }
def GainNetSaid : Prop := gainNetRow.holds Tryz.pinned (OpenSpec.ofChange gainNetSpec)

/-- ITS FALSE NEIGHBOUR: 'it returns false'. Refute it at one input. -/
def gainNetWrong : ChangeSpec := { name := "gainNet", fn := fun _ => fun
  | [d1, d2, d3, d4, d5] => { results := [.lit (.bool false)], args := [d1, d2, d3, d4, d5] }
  | _ => none }
def GainNetWrongFalsely : Prop := gainNetRow.holds Tryz.pinned (OpenSpec.ofChange gainNetWrong)

/-- 'worldmintlaw11.GainFind': WHATEVER THE INPUT: true; the input reads as it did. -/
def gainFindSpec : ChangeSpec := { name := "gainFind", fn := fun _ => fun
  | [d1, d2, d3, d4] => { results := [.lit (.bool true)], args := [d1, d2, d3, d4] }
  | _ => none }
def gainFindRow : OpenClaim := { program := "ytfpcgjgkbniofaagreatdoor", sum := "54ca452806f8a96bae3c8025b2bbdcfa5bf1601dd4a72b285ea3dcc3422bafb6", func := "worldmint/worldmintlaw11.GainFind", spec := "gainFind", inPlace := ["internal/bytealg.IndexByteString"], unfollowed := true, recurses := true, named := ["worldmint/lexer.kinds"], apart := false, laid := [("worldmint/lexer.kinds", laid_worldmint_lexer_kinds)] }
def GainFindSaid : Prop := gainFindRow.holds Tryz.pinned (OpenSpec.ofChange gainFindSpec)

/-- ITS FALSE NEIGHBOUR: 'it returns false'. Refute it at one input. -/
def gainFindWrong : ChangeSpec := { name := "gainFind", fn := fun _ => fun
  | [d1, d2, d3, d4] => { results := [.lit (.bool false)], args := [d1, d2, d3, d4] }
  | _ => none }
def GainFindWrongFalsely : Prop := gainFindRow.holds Tryz.pinned (OpenSpec.ofChange gainFindWrong)

/-- 'worldmintlaw11.GainCheck': WHATEVER THE INPUT: true; the input reads as it did. -/
def gainCheckSpec : ChangeSpec := { name := "gainCheck", fn := fun _ => fun
  | [d1, d2, d3, d4, d5] => { results := [.lit (.bool true)], args := [d1, d2, d3, d4, d5] }
  | _ => none }
def gainCheckRow : OpenClaim := { program := "ytfpcgjgkbniofaagreatdoor", sum := "54ca452806f8a96bae3c8025b2bbdcfa5bf1601dd4a72b285ea3dcc3422bafb6", func := "worldmint/worldmintlaw11.GainCheck", spec := "gainCheck", inPlace := ["internal/bytealg.IndexByteString"], unfollowed := true, recurses := true, named := ["worldmint/lexer.kinds"], apart := false, laid := [("worldmint/lexer.kinds", laid_worldmint_lexer_kinds)] }
def GainCheckSaid : Prop := gainCheckRow.holds Tryz.pinned (OpenSpec.ofChange gainCheckSpec)

/-- ITS FALSE NEIGHBOUR: 'it returns false'. Refute it at one input. -/
def gainCheckWrong : ChangeSpec := { name := "gainCheck", fn := fun _ => fun
  | [d1, d2, d3, d4, d5] => { results := [.lit (.bool false)], args := [d1, d2, d3, d4, d5] }
  | _ => none }
def GainCheckWrongFalsely : Prop := gainCheckRow.holds Tryz.pinned (OpenSpec.ofChange gainCheckWrong)

/-- 'worldmintlaw11.GainLaws': WHATEVER THE INPUT: true; the input reads as it did. -/
def gainLawsSpec : ChangeSpec := { name := "gainLaws", fn := fun _ => fun
  | [d1, d2] => { results := [.lit (.bool true)], args := [d1, d2] }
  | _ => none }
def gainLawsRow : OpenClaim := { program := "ytfpcgjgkbniofaagreatdoor", sum := "54ca452806f8a96bae3c8025b2bbdcfa5bf1601dd4a72b285ea3dcc3422bafb6", func := "worldmint/worldmintlaw11.GainLaws", spec := "gainLaws", inPlace := ["internal/bytealg.IndexByteString"], unfollowed := true, recurses := true, named := ["worldmint/lexer.kinds"], apart := false, laid := [("worldmint/lexer.kinds", laid_worldmint_lexer_kinds)] }
def GainLawsSaid : Prop := gainLawsRow.holds Tryz.pinned (OpenSpec.ofChange gainLawsSpec)

/-- ITS FALSE NEIGHBOUR: 'it returns false'. Refute it at one input. -/
def gainLawsWrong : ChangeSpec := { name := "gainLaws", fn := fun _ => fun
  | [d1, d2] => { results := [.lit (.bool false)], args := [d1, d2] }
  | _ => none }
def GainLawsWrongFalsely : Prop := gainLawsRow.holds Tryz.pinned (OpenSpec.ofChange gainLawsWrong)

/- THE SECOND FORM. 'bulk': how many values and letters a reading holds, each counted each time it is reached (what is shared counts as often as it is met; a slice's spare places count too). A statement '..UptoSaid' is the law's where the arguments, and the package variables that the reading takes, are together of bulk at most 1048576: NARROWER than '..Said'. Prove '..Said' where nothing that the law and all that it calls make is longer than what came in: it says more and counts as full. Else prove '..UptoSaid'. A law counts once. -/
mutual
def uptoBulk {H : Type} : DataW H → Nat
  | .lit (.string bytes) => bytes.length + 1
  | .lit _ => 1
  | .nil => 1
  | .ptr d => uptoBulk d + 1
  | .slice elems spare => uptoBulkAll elems + uptoBulkAll spare + 1
  | .agg parts => uptoBulkAll parts + 1
  | .iface _ d => uptoBulk d + 1
  | .map entries => uptoBulkEntries entries + 1
  | .held _ => 1
def uptoBulkAll {H : Type} : List (DataW H) → Nat
  | [] => 0
  | d :: r => uptoBulk d + uptoBulkAll r
def uptoBulkEntries {H : Type} : List (Lit × DataW H) → Nat
  | [] => 0
  | x :: r => uptoBulkEntry x + uptoBulkEntries r
def uptoBulkEntry {H : Type} : Lit × DataW H → Nat
  | (.string bytes, d) => bytes.length + uptoBulk d + 1
  | (_, d) => uptoBulk d + 1
 end
def uptoSmall : (H : Type) → List (DataW H) → Bool := fun _ ds => decide (uptoBulkAll ds ≤ 1048576)
def OpenSpec.upto (s : _root_.Go.ChangeSpec) : _root_.Go.OpenSpec := { _root_.Go.OpenSpec.ofChange s with cond := some uptoSmall }

/-- 'worldmintlaw11.GainNet', WHERE WHAT IT READS IS OF BULK AT MOST 1048576: true; the input reads as it did. -/
def gainNetUptoRow : OpenClaim := { program := "ytfpcgjgkbniofaagreatdoor", sum := "54ca452806f8a96bae3c8025b2bbdcfa5bf1601dd4a72b285ea3dcc3422bafb6", func := "worldmint/worldmintlaw11.GainNet", spec := "gainNet", inPlace := ["internal/bytealg.IndexByteString"], unfollowed := true, recurses := true, named := ["worldmint/lexer.kinds"], apart := false, laid := [("worldmint/lexer.kinds", laid_worldmint_lexer_kinds)], narrowed := true }
def GainNetUptoSaid : Prop := gainNetUptoRow.holds Tryz.pinned (OpenSpec.upto gainNetSpec)

/-- 'worldmintlaw11.GainFind', WHERE WHAT IT READS IS OF BULK AT MOST 1048576: true; the input reads as it did. -/
def gainFindUptoRow : OpenClaim := { program := "ytfpcgjgkbniofaagreatdoor", sum := "54ca452806f8a96bae3c8025b2bbdcfa5bf1601dd4a72b285ea3dcc3422bafb6", func := "worldmint/worldmintlaw11.GainFind", spec := "gainFind", inPlace := ["internal/bytealg.IndexByteString"], unfollowed := true, recurses := true, named := ["worldmint/lexer.kinds"], apart := false, laid := [("worldmint/lexer.kinds", laid_worldmint_lexer_kinds)], narrowed := true }
def GainFindUptoSaid : Prop := gainFindUptoRow.holds Tryz.pinned (OpenSpec.upto gainFindSpec)

/-- 'worldmintlaw11.GainCheck', WHERE WHAT IT READS IS OF BULK AT MOST 1048576: true; the input reads as it did. -/
def gainCheckUptoRow : OpenClaim := { program := "ytfpcgjgkbniofaagreatdoor", sum := "54ca452806f8a96bae3c8025b2bbdcfa5bf1601dd4a72b285ea3dcc3422bafb6", func := "worldmint/worldmintlaw11.GainCheck", spec := "gainCheck", inPlace := ["internal/bytealg.IndexByteString"], unfollowed := true, recurses := true, named := ["worldmint/lexer.kinds"], apart := false, laid := [("worldmint/lexer.kinds", laid_worldmint_lexer_kinds)], narrowed := true }
def GainCheckUptoSaid : Prop := gainCheckUptoRow.holds Tryz.pinned (OpenSpec.upto gainCheckSpec)

/-- 'worldmintlaw11.GainLaws', WHERE WHAT IT READS IS OF BULK AT MOST 1048576: true; the input reads as it did. -/
def gainLawsUptoRow : OpenClaim := { program := "ytfpcgjgkbniofaagreatdoor", sum := "54ca452806f8a96bae3c8025b2bbdcfa5bf1601dd4a72b285ea3dcc3422bafb6", func := "worldmint/worldmintlaw11.GainLaws", spec := "gainLaws", inPlace := ["internal/bytealg.IndexByteString"], unfollowed := true, recurses := true, named := ["worldmint/lexer.kinds"], apart := false, laid := [("worldmint/lexer.kinds", laid_worldmint_lexer_kinds)], narrowed := true }
def GainLawsUptoSaid : Prop := gainLawsUptoRow.holds Tryz.pinned (OpenSpec.upto gainLawsSpec)

end Rows
end Go.Proofs.YtfpcgjgkbniofaaGreatDoor
