/-
  NARROWER THAN 'FOR EVERY INPUT', by the rows' own cells (each row's printed sentence says how): GainMany: laid · GainLeast: laid · GainAgain: laid · GainShortest: laid.
  DERIVED. THE GIVEN ROWS OF THIS SEAT. 4 by the template 'for every input the law returns true; each argument reads behind the call as it read before'; 0 by the template 'total and deterministic' (their statements: YtfpcgjgkbniofaaDoorTotals.lean).
  GIVEN WITH THE SEED: the statements are not yours to turn. If you find one false, say at which input.
  Laid BY PROGRAM, IN A SANDBOX (cutbox-rows.mjs): the forced cells as the released guide's own fill.sh prints them over the translation fb2f9627a0b8951b… (all of the seat's roots in one cut). By AI agents, Wed Nov 11 2026. No macro, syntax, notation, axiom, sorry.
-/
import Derived.Test.YtfpcgjgkbniofaaDoorChecked
import GoSem.Claim
import GoSem.ClaimJoined
import GoSem.ClaimMapViews
import Derived.JoinedTies
import Derived.KernelRfl
namespace Go.Proofs.YtfpcgjgkbniofaaDoor
/- THE CELL 'sum', in the pinned program and in every row, IS THE sha256 OF THE DUMP (.gsa) THAT YtfpcgjgkbniofaaDoorProg.lean LOADS. Nothing in Lean hashes anything: it is a label: what it is worth is what the hold of that sum in a sandbox is worth. -/
noncomputable def Tryd.pinned : Pinned := { name := "ytfpcgjgkbniofaadoor", sum := "fb2f9627a0b8951b21def931d27cee75b7fa20989f68f1d5b9062a68ef32fa9f", checked := Tryd.checked }
namespace Rows
def none {H : Type} : Left H := { results := [], args := [] }

/- WHAT THE LISTED PACKAGE-LEVEL VARIABLES READ AS WHEN THE CALL BEGINS. Each datum BY PROGRAM (the guide's laid-datum.mjs) off the statement by which the dump's own 'gosem.cut.vars' lays the variable. In a bare row this is a premise. The card (YtfpcgjgkbniofaaDoorCards.lean) ties it to the program's text. -/
def laid_worldmint_lexer_kinds {H : Type} : DataW H := .agg [.lit (.int .u8 0), .lit (.int .u8 0), .lit (.int .u8 0), .lit (.int .u8 0), .lit (.int .u8 0), .lit (.int .u8 0), .lit (.int .u8 0), .lit (.int .u8 0), .lit (.int .u8 0), .lit (.int .u8 1), .lit (.int .u8 1), .lit (.int .u8 0), .lit (.int .u8 0), .lit (.int .u8 0), .lit (.int .u8 0), .lit (.int .u8 0), .lit (.int .u8 0), .lit (.int .u8 0), .lit (.int .u8 0), .lit (.int .u8 0), .lit (.int .u8 0), .lit (.int .u8 0), .lit (.int .u8 0), .lit (.int .u8 0), .lit (.int .u8 0), .lit (.int .u8 0), .lit (.int .u8 0), .lit (.int .u8 0), .lit (.int .u8 0), .lit (.int .u8 0), .lit (.int .u8 0), .lit (.int .u8 0), .lit (.int .u8 1), .lit (.int .u8 0), .lit (.int .u8 0), .lit (.int .u8 2), .lit (.int .u8 0), .lit (.int .u8 0), .lit (.int .u8 0), .lit (.int .u8 0), .lit (.int .u8 7), .lit (.int .u8 7), .lit (.int .u8 0), .lit (.int .u8 7), .lit (.int .u8 7), .lit (.int .u8 6), .lit (.int .u8 7), .lit (.int .u8 0), .lit (.int .u8 4), .lit (.int .u8 4), .lit (.int .u8 4), .lit (.int .u8 4), .lit (.int .u8 4), .lit (.int .u8 4), .lit (.int .u8 4), .lit (.int .u8 4), .lit (.int .u8 4), .lit (.int .u8 4), .lit (.int .u8 7), .lit (.int .u8 7), .lit (.int .u8 7), .lit (.int .u8 7), .lit (.int .u8 7), .lit (.int .u8 0), .lit (.int .u8 0), .lit (.int .u8 0), .lit (.int .u8 0), .lit (.int .u8 0), .lit (.int .u8 0), .lit (.int .u8 0), .lit (.int .u8 0), .lit (.int .u8 0), .lit (.int .u8 0), .lit (.int .u8 0), .lit (.int .u8 0), .lit (.int .u8 0), .lit (.int .u8 0), .lit (.int .u8 0), .lit (.int .u8 0), .lit (.int .u8 0), .lit (.int .u8 0), .lit (.int .u8 0), .lit (.int .u8 0), .lit (.int .u8 0), .lit (.int .u8 0), .lit (.int .u8 0), .lit (.int .u8 0), .lit (.int .u8 0), .lit (.int .u8 0), .lit (.int .u8 0), .lit (.int .u8 0), .lit (.int .u8 0), .lit (.int .u8 0), .lit (.int .u8 0), .lit (.int .u8 0), .lit (.int .u8 5), .lit (.int .u8 0), .lit (.int .u8 3), .lit (.int .u8 3), .lit (.int .u8 3), .lit (.int .u8 3), .lit (.int .u8 3), .lit (.int .u8 3), .lit (.int .u8 3), .lit (.int .u8 3), .lit (.int .u8 3), .lit (.int .u8 3), .lit (.int .u8 3), .lit (.int .u8 3), .lit (.int .u8 3), .lit (.int .u8 3), .lit (.int .u8 3), .lit (.int .u8 3), .lit (.int .u8 3), .lit (.int .u8 3), .lit (.int .u8 3), .lit (.int .u8 3), .lit (.int .u8 3), .lit (.int .u8 3), .lit (.int .u8 3), .lit (.int .u8 3), .lit (.int .u8 3), .lit (.int .u8 3), .lit (.int .u8 7), .lit (.int .u8 0), .lit (.int .u8 7), .lit (.int .u8 0), .lit (.int .u8 0)]

/-- 'worldmintlaw11.GainMany': WHATEVER THE INPUT: true; the input reads as it did. -/
def gainManySpec : ChangeSpec := { name := "gainMany", fn := fun _ => fun
  | [d1, d2] => { results := [.lit (.bool true)], args := [d1, d2] }
  | _ => none }
def gainManyRow : OpenClaim := { program := "ytfpcgjgkbniofaadoor", sum := "fb2f9627a0b8951b21def931d27cee75b7fa20989f68f1d5b9062a68ef32fa9f", func := "worldmint/worldmintlaw11.GainMany", spec := "gainMany", inPlace := ["internal/bytealg.IndexByteString"], unfollowed := true, recurses := true, named := ["worldmint/lexer.kinds"], apart := false, laid := [("worldmint/lexer.kinds", laid_worldmint_lexer_kinds)] }
def GainManySaid : Prop := gainManyRow.holds Tryd.pinned (OpenSpec.ofChange gainManySpec)

/-- ITS FALSE NEIGHBOUR: 'it returns false'. Refute it at one input. -/
def gainManyWrong : ChangeSpec := { name := "gainMany", fn := fun _ => fun
  | [d1, d2] => { results := [.lit (.bool false)], args := [d1, d2] }
  | _ => none }
def GainManyWrongFalsely : Prop := gainManyRow.holds Tryd.pinned (OpenSpec.ofChange gainManyWrong)

/-- 'worldmintlaw11.GainLeast': WHATEVER THE INPUT: true; the input reads as it did. -/
def gainLeastSpec : ChangeSpec := { name := "gainLeast", fn := fun _ => fun
  | [d1, d2, d3] => { results := [.lit (.bool true)], args := [d1, d2, d3] }
  | _ => none }
def gainLeastRow : OpenClaim := { program := "ytfpcgjgkbniofaadoor", sum := "fb2f9627a0b8951b21def931d27cee75b7fa20989f68f1d5b9062a68ef32fa9f", func := "worldmint/worldmintlaw11.GainLeast", spec := "gainLeast", inPlace := ["internal/bytealg.IndexByteString"], unfollowed := true, recurses := true, named := ["worldmint/lexer.kinds"], apart := false, laid := [("worldmint/lexer.kinds", laid_worldmint_lexer_kinds)] }
def GainLeastSaid : Prop := gainLeastRow.holds Tryd.pinned (OpenSpec.ofChange gainLeastSpec)

/-- ITS FALSE NEIGHBOUR: 'it returns false'. Refute it at one input. -/
def gainLeastWrong : ChangeSpec := { name := "gainLeast", fn := fun _ => fun
  | [d1, d2, d3] => { results := [.lit (.bool false)], args := [d1, d2, d3] }
  | _ => none }
def GainLeastWrongFalsely : Prop := gainLeastRow.holds Tryd.pinned (OpenSpec.ofChange gainLeastWrong)

/-- 'worldmintlaw11.GainAgain': WHATEVER THE INPUT: true; the input reads as it did. -/
def gainAgainSpec : ChangeSpec := { name := "gainAgain", fn := fun _ => fun
  | [d] => { results := [.lit (.bool true)], args := [d] }
  | _ => none }
def gainAgainRow : OpenClaim := { program := "ytfpcgjgkbniofaadoor", sum := "fb2f9627a0b8951b21def931d27cee75b7fa20989f68f1d5b9062a68ef32fa9f", func := "worldmint/worldmintlaw11.GainAgain", spec := "gainAgain", inPlace := ["internal/bytealg.IndexByteString"], unfollowed := true, recurses := true, named := ["worldmint/lexer.kinds"], apart := false, laid := [("worldmint/lexer.kinds", laid_worldmint_lexer_kinds)] }
def GainAgainSaid : Prop := gainAgainRow.holds Tryd.pinned (OpenSpec.ofChange gainAgainSpec)

/-- ITS FALSE NEIGHBOUR: 'it returns false'. Refute it at one input. -/
def gainAgainWrong : ChangeSpec := { name := "gainAgain", fn := fun _ => fun
  | [d] => { results := [.lit (.bool false)], args := [d] }
  | _ => none }
def GainAgainWrongFalsely : Prop := gainAgainRow.holds Tryd.pinned (OpenSpec.ofChange gainAgainWrong)

/-- 'worldmintlaw11.GainShortest': WHATEVER THE INPUT: true; the input reads as it did. -/
def gainShortestSpec : ChangeSpec := { name := "gainShortest", fn := fun _ => fun
  | [d1, d2] => { results := [.lit (.bool true)], args := [d1, d2] }
  | _ => none }
def gainShortestRow : OpenClaim := { program := "ytfpcgjgkbniofaadoor", sum := "fb2f9627a0b8951b21def931d27cee75b7fa20989f68f1d5b9062a68ef32fa9f", func := "worldmint/worldmintlaw11.GainShortest", spec := "gainShortest", inPlace := ["internal/bytealg.IndexByteString"], unfollowed := true, recurses := true, named := ["worldmint/lexer.kinds"], apart := false, laid := [("worldmint/lexer.kinds", laid_worldmint_lexer_kinds)] }
def GainShortestSaid : Prop := gainShortestRow.holds Tryd.pinned (OpenSpec.ofChange gainShortestSpec)

/-- ITS FALSE NEIGHBOUR: 'it returns false'. Refute it at one input. -/
def gainShortestWrong : ChangeSpec := { name := "gainShortest", fn := fun _ => fun
  | [d1, d2] => { results := [.lit (.bool false)], args := [d1, d2] }
  | _ => none }
def GainShortestWrongFalsely : Prop := gainShortestRow.holds Tryd.pinned (OpenSpec.ofChange gainShortestWrong)

/- THE SECOND FORM. 'bulk': how many values and letters a reading holds, each counted each time it is reached (what is shared counts as often as it is met; a slice's spare places count too). A statement '..UptoSaid' is the law's where the arguments, and the package variables that the reading takes, are together of bulk at most 1048576: NARROWER than '..Said'. Prove '..Said' where nothing that the law and all that it calls make is longer than what came in: it says more and counts as full. Else prove '..UptoSaid'. A law counts once. -/
mutual
def uptoBulk {H : Type} : DataW H → Nat
  | .lit (.string bytes) => bytes.length + 1
  | .lit _ => 1
  | .nil => 1
  | .ptr d => uptoBulk d + 1
  | .slice elems spare => uptoBulkAll elems + uptoBulkAll spare + 1
  | .agg parts => uptoBulkAll parts + 1
  | .iface _ d => uptoBulk d + 1
  | .map entries => uptoBulkEntries entries + 1
  | .held _ => 1
def uptoBulkAll {H : Type} : List (DataW H) → Nat
  | [] => 0
  | d :: r => uptoBulk d + uptoBulkAll r
def uptoBulkEntries {H : Type} : List (Lit × DataW H) → Nat
  | [] => 0
  | x :: r => uptoBulkEntry x + uptoBulkEntries r
def uptoBulkEntry {H : Type} : Lit × DataW H → Nat
  | (.string bytes, d) => bytes.length + uptoBulk d + 1
  | (_, d) => uptoBulk d + 1
 end
def uptoSmall : (H : Type) → List (DataW H) → Bool := fun _ ds => decide (uptoBulkAll ds ≤ 1048576)
def OpenSpec.upto (s : _root_.Go.ChangeSpec) : _root_.Go.OpenSpec := { _root_.Go.OpenSpec.ofChange s with cond := some uptoSmall }

/-- 'worldmintlaw11.GainMany', WHERE WHAT IT READS IS OF BULK AT MOST 1048576: true; the input reads as it did. -/
def gainManyUptoRow : OpenClaim := { program := "ytfpcgjgkbniofaadoor", sum := "fb2f9627a0b8951b21def931d27cee75b7fa20989f68f1d5b9062a68ef32fa9f", func := "worldmint/worldmintlaw11.GainMany", spec := "gainMany", inPlace := ["internal/bytealg.IndexByteString"], unfollowed := true, recurses := true, named := ["worldmint/lexer.kinds"], apart := false, laid := [("worldmint/lexer.kinds", laid_worldmint_lexer_kinds)], narrowed := true }
def GainManyUptoSaid : Prop := gainManyUptoRow.holds Tryd.pinned (OpenSpec.upto gainManySpec)

/-- 'worldmintlaw11.GainLeast', WHERE WHAT IT READS IS OF BULK AT MOST 1048576: true; the input reads as it did. -/
def gainLeastUptoRow : OpenClaim := { program := "ytfpcgjgkbniofaadoor", sum := "fb2f9627a0b8951b21def931d27cee75b7fa20989f68f1d5b9062a68ef32fa9f", func := "worldmint/worldmintlaw11.GainLeast", spec := "gainLeast", inPlace := ["internal/bytealg.IndexByteString"], unfollowed := true, recurses := true, named := ["worldmint/lexer.kinds"], apart := false, laid := [("worldmint/lexer.kinds", laid_worldmint_lexer_kinds)], narrowed := true }
def GainLeastUptoSaid : Prop := gainLeastUptoRow.holds Tryd.pinned (OpenSpec.upto gainLeastSpec)

/-- 'worldmintlaw11.GainAgain', WHERE WHAT IT READS IS OF BULK AT MOST 1048576: true; the input reads as it did. -/
def gainAgainUptoRow : OpenClaim := { program := "ytfpcgjgkbniofaadoor", sum := "fb2f9627a0b8951b21def931d27cee75b7fa20989f68f1d5b9062a68ef32fa9f", func := "worldmint/worldmintlaw11.GainAgain", spec := "gainAgain", inPlace := ["internal/bytealg.IndexByteString"], unfollowed := true, recurses := true, named := ["worldmint/lexer.kinds"], apart := false, laid := [("worldmint/lexer.kinds", laid_worldmint_lexer_kinds)], narrowed := true }
def GainAgainUptoSaid : Prop := gainAgainUptoRow.holds Tryd.pinned (OpenSpec.upto gainAgainSpec)

/-- 'worldmintlaw11.GainShortest', WHERE WHAT IT READS IS OF BULK AT MOST 1048576: true; the input reads as it did. -/
def gainShortestUptoRow : OpenClaim := { program := "ytfpcgjgkbniofaadoor", sum := "fb2f9627a0b8951b21def931d27cee75b7fa20989f68f1d5b9062a68ef32fa9f", func := "worldmint/worldmintlaw11.GainShortest", spec := "gainShortest", inPlace := ["internal/bytealg.IndexByteString"], unfollowed := true, recurses := true, named := ["worldmint/lexer.kinds"], apart := false, laid := [("worldmint/lexer.kinds", laid_worldmint_lexer_kinds)], narrowed := true }
def GainShortestUptoSaid : Prop := gainShortestUptoRow.holds Tryd.pinned (OpenSpec.upto gainShortestSpec)

end Rows
end Go.Proofs.YtfpcgjgkbniofaaDoor
