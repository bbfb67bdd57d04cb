/-
  NARROWER THAN 'FOR EVERY INPUT', by the rows' own cells (each row's printed sentence says how): LexerTokens: laid · LexerBytes: laid · LexerLong: laid · LexerPosition: laid · LexerPlaces: laid · LexerApart: laid · LexerErrors: laid.
  DERIVED. THE GIVEN ROWS OF THIS SEAT. 7 by the template 'for every input the law returns true; each argument reads behind the call as it read before'; 0 by the template 'total and deterministic' (their statements: YtndlecddgihihaaDoorTotals.lean).
  GIVEN WITH THE SEED: the statements are not yours to turn. If you find one false, say at which input.
  Laid BY PROGRAM, IN A SANDBOX (cutbox-rows.mjs): the forced cells as the released guide's own fill.sh prints them over the translation 23b6de5c5904c375… (all of the seat's roots in one cut). By AI agents, Wed Nov 11 2026. No macro, syntax, notation, axiom, sorry.
-/
import Derived.Test.YtndlecddgihihaaDoorChecked
import GoSem.Claim
import GoSem.ClaimJoined
import GoSem.ClaimMapViews
import Derived.JoinedTies
import Derived.KernelRfl
namespace Go.Proofs.YtndlecddgihihaaDoor
/- THE CELL 'sum', in the pinned program and in every row, IS THE sha256 OF THE DUMP (.gsa) THAT YtndlecddgihihaaDoorProg.lean LOADS. Nothing in Lean hashes anything: it is a label: what it is worth is what the hold of that sum in a sandbox is worth. -/
noncomputable def Tryd.pinned : Pinned := { name := "ytndlecddgihihaadoor", sum := "23b6de5c5904c375389ad222ec5bfb231e0dbb59d1b929ffb3392cb5d3b7a92e", checked := Tryd.checked }
namespace Rows
def none {H : Type} : Left H := { results := [], args := [] }

/- WHAT THE LISTED PACKAGE-LEVEL VARIABLES READ AS WHEN THE CALL BEGINS. Each datum BY PROGRAM (the guide's laid-datum.mjs) off the statement by which the dump's own 'gosem.cut.vars' lays the variable. In a bare row this is a premise. The card (YtndlecddgihihaaDoorCards.lean) ties it to the program's text. -/
def laid_worldmint_lexer_kinds {H : Type} : DataW H := .agg [.lit (.int .u8 0), .lit (.int .u8 0), .lit (.int .u8 0), .lit (.int .u8 0), .lit (.int .u8 0), .lit (.int .u8 0), .lit (.int .u8 0), .lit (.int .u8 0), .lit (.int .u8 0), .lit (.int .u8 1), .lit (.int .u8 1), .lit (.int .u8 0), .lit (.int .u8 0), .lit (.int .u8 0), .lit (.int .u8 0), .lit (.int .u8 0), .lit (.int .u8 0), .lit (.int .u8 0), .lit (.int .u8 0), .lit (.int .u8 0), .lit (.int .u8 0), .lit (.int .u8 0), .lit (.int .u8 0), .lit (.int .u8 0), .lit (.int .u8 0), .lit (.int .u8 0), .lit (.int .u8 0), .lit (.int .u8 0), .lit (.int .u8 0), .lit (.int .u8 0), .lit (.int .u8 0), .lit (.int .u8 0), .lit (.int .u8 1), .lit (.int .u8 0), .lit (.int .u8 0), .lit (.int .u8 2), .lit (.int .u8 0), .lit (.int .u8 0), .lit (.int .u8 0), .lit (.int .u8 0), .lit (.int .u8 7), .lit (.int .u8 7), .lit (.int .u8 0), .lit (.int .u8 7), .lit (.int .u8 7), .lit (.int .u8 6), .lit (.int .u8 7), .lit (.int .u8 0), .lit (.int .u8 4), .lit (.int .u8 4), .lit (.int .u8 4), .lit (.int .u8 4), .lit (.int .u8 4), .lit (.int .u8 4), .lit (.int .u8 4), .lit (.int .u8 4), .lit (.int .u8 4), .lit (.int .u8 4), .lit (.int .u8 7), .lit (.int .u8 7), .lit (.int .u8 7), .lit (.int .u8 7), .lit (.int .u8 7), .lit (.int .u8 0), .lit (.int .u8 0), .lit (.int .u8 0), .lit (.int .u8 0), .lit (.int .u8 0), .lit (.int .u8 0), .lit (.int .u8 0), .lit (.int .u8 0), .lit (.int .u8 0), .lit (.int .u8 0), .lit (.int .u8 0), .lit (.int .u8 0), .lit (.int .u8 0), .lit (.int .u8 0), .lit (.int .u8 0), .lit (.int .u8 0), .lit (.int .u8 0), .lit (.int .u8 0), .lit (.int .u8 0), .lit (.int .u8 0), .lit (.int .u8 0), .lit (.int .u8 0), .lit (.int .u8 0), .lit (.int .u8 0), .lit (.int .u8 0), .lit (.int .u8 0), .lit (.int .u8 0), .lit (.int .u8 0), .lit (.int .u8 0), .lit (.int .u8 0), .lit (.int .u8 0), .lit (.int .u8 0), .lit (.int .u8 5), .lit (.int .u8 0), .lit (.int .u8 3), .lit (.int .u8 3), .lit (.int .u8 3), .lit (.int .u8 3), .lit (.int .u8 3), .lit (.int .u8 3), .lit (.int .u8 3), .lit (.int .u8 3), .lit (.int .u8 3), .lit (.int .u8 3), .lit (.int .u8 3), .lit (.int .u8 3), .lit (.int .u8 3), .lit (.int .u8 3), .lit (.int .u8 3), .lit (.int .u8 3), .lit (.int .u8 3), .lit (.int .u8 3), .lit (.int .u8 3), .lit (.int .u8 3), .lit (.int .u8 3), .lit (.int .u8 3), .lit (.int .u8 3), .lit (.int .u8 3), .lit (.int .u8 3), .lit (.int .u8 3), .lit (.int .u8 7), .lit (.int .u8 0), .lit (.int .u8 7), .lit (.int .u8 0), .lit (.int .u8 0)]

/-- 'worldmintlaw07.LexerTokens': WHATEVER THE INPUT: true; the input reads as it did. -/
def lexerTokensSpec : ChangeSpec := { name := "lexerTokens", fn := fun _ => fun
  | [d1, d2] => { results := [.lit (.bool true)], args := [d1, d2] }
  | _ => none }
def lexerTokensRow : OpenClaim := { program := "ytndlecddgihihaadoor", sum := "23b6de5c5904c375389ad222ec5bfb231e0dbb59d1b929ffb3392cb5d3b7a92e", func := "worldmint/worldmintlaw07.LexerTokens", spec := "lexerTokens", inPlace := ["internal/bytealg.IndexByteString", "internal/bytealg.CountString", "internal/bytealg.IndexString"], unfollowed := true, recurses := true, named := ["worldmint/lexer.kinds", "internal/bytealg.MaxLen"], apart := false, laid := [("worldmint/lexer.kinds", laid_worldmint_lexer_kinds)] }
def LexerTokensSaid : Prop := lexerTokensRow.holds Tryd.pinned (OpenSpec.ofChange lexerTokensSpec)

/-- ITS FALSE NEIGHBOUR: 'it returns false'. Refute it at one input. -/
def lexerTokensWrong : ChangeSpec := { name := "lexerTokens", fn := fun _ => fun
  | [d1, d2] => { results := [.lit (.bool false)], args := [d1, d2] }
  | _ => none }
def LexerTokensWrongFalsely : Prop := lexerTokensRow.holds Tryd.pinned (OpenSpec.ofChange lexerTokensWrong)

/-- 'worldmintlaw07.LexerBytes': WHATEVER THE INPUT: true; the input reads as it did. -/
def lexerBytesSpec : ChangeSpec := { name := "lexerBytes", fn := fun _ => fun
  | [d1, d2, d3, d4] => { results := [.lit (.bool true)], args := [d1, d2, d3, d4] }
  | _ => none }
def lexerBytesRow : OpenClaim := { program := "ytndlecddgihihaadoor", sum := "23b6de5c5904c375389ad222ec5bfb231e0dbb59d1b929ffb3392cb5d3b7a92e", func := "worldmint/worldmintlaw07.LexerBytes", spec := "lexerBytes", inPlace := ["internal/bytealg.IndexByteString", "internal/bytealg.CountString", "internal/bytealg.IndexString"], unfollowed := true, recurses := true, named := ["worldmint/lexer.kinds", "internal/bytealg.MaxLen"], apart := false, laid := [("worldmint/lexer.kinds", laid_worldmint_lexer_kinds)] }
def LexerBytesSaid : Prop := lexerBytesRow.holds Tryd.pinned (OpenSpec.ofChange lexerBytesSpec)

/-- ITS FALSE NEIGHBOUR: 'it returns false'. Refute it at one input. -/
def lexerBytesWrong : ChangeSpec := { name := "lexerBytes", fn := fun _ => fun
  | [d1, d2, d3, d4] => { results := [.lit (.bool false)], args := [d1, d2, d3, d4] }
  | _ => none }
def LexerBytesWrongFalsely : Prop := lexerBytesRow.holds Tryd.pinned (OpenSpec.ofChange lexerBytesWrong)

/-- 'worldmintlaw07.LexerLong': WHATEVER THE INPUT: true; the input reads as it did. -/
def lexerLongSpec : ChangeSpec := { name := "lexerLong", fn := fun _ => fun
  | [d1, d2] => { results := [.lit (.bool true)], args := [d1, d2] }
  | _ => none }
def lexerLongRow : OpenClaim := { program := "ytndlecddgihihaadoor", sum := "23b6de5c5904c375389ad222ec5bfb231e0dbb59d1b929ffb3392cb5d3b7a92e", func := "worldmint/worldmintlaw07.LexerLong", spec := "lexerLong", inPlace := ["internal/bytealg.IndexByteString", "internal/bytealg.CountString", "internal/bytealg.IndexString"], unfollowed := true, recurses := true, named := ["worldmint/lexer.kinds", "internal/bytealg.MaxLen"], apart := false, laid := [("worldmint/lexer.kinds", laid_worldmint_lexer_kinds)] }
def LexerLongSaid : Prop := lexerLongRow.holds Tryd.pinned (OpenSpec.ofChange lexerLongSpec)

/-- ITS FALSE NEIGHBOUR: 'it returns false'. Refute it at one input. -/
def lexerLongWrong : ChangeSpec := { name := "lexerLong", fn := fun _ => fun
  | [d1, d2] => { results := [.lit (.bool false)], args := [d1, d2] }
  | _ => none }
def LexerLongWrongFalsely : Prop := lexerLongRow.holds Tryd.pinned (OpenSpec.ofChange lexerLongWrong)

/-- 'worldmintlaw07.LexerPosition': WHATEVER THE INPUT: true; the input reads as it did. -/
def lexerPositionSpec : ChangeSpec := { name := "lexerPosition", fn := fun _ => fun
  | [d1, d2, d3] => { results := [.lit (.bool true)], args := [d1, d2, d3] }
  | _ => none }
def lexerPositionRow : OpenClaim := { program := "ytndlecddgihihaadoor", sum := "23b6de5c5904c375389ad222ec5bfb231e0dbb59d1b929ffb3392cb5d3b7a92e", func := "worldmint/worldmintlaw07.LexerPosition", spec := "lexerPosition", inPlace := ["internal/bytealg.CountString", "internal/bytealg.IndexByteString", "internal/bytealg.IndexString"], unfollowed := true, recurses := true, named := ["internal/bytealg.MaxLen", "worldmint/lexer.kinds"], apart := false, laid := [("worldmint/lexer.kinds", laid_worldmint_lexer_kinds)] }
def LexerPositionSaid : Prop := lexerPositionRow.holds Tryd.pinned (OpenSpec.ofChange lexerPositionSpec)

/-- ITS FALSE NEIGHBOUR: 'it returns false'. Refute it at one input. -/
def lexerPositionWrong : ChangeSpec := { name := "lexerPosition", fn := fun _ => fun
  | [d1, d2, d3] => { results := [.lit (.bool false)], args := [d1, d2, d3] }
  | _ => none }
def LexerPositionWrongFalsely : Prop := lexerPositionRow.holds Tryd.pinned (OpenSpec.ofChange lexerPositionWrong)

/-- 'worldmintlaw07.LexerPlaces': WHATEVER THE INPUT: true; the input reads as it did. -/
def lexerPlacesSpec : ChangeSpec := { name := "lexerPlaces", fn := fun _ => fun
  | [d] => { results := [.lit (.bool true)], args := [d] }
  | _ => none }
def lexerPlacesRow : OpenClaim := { program := "ytndlecddgihihaadoor", sum := "23b6de5c5904c375389ad222ec5bfb231e0dbb59d1b929ffb3392cb5d3b7a92e", func := "worldmint/worldmintlaw07.LexerPlaces", spec := "lexerPlaces", inPlace := ["internal/bytealg.IndexByteString", "internal/bytealg.CountString", "internal/bytealg.IndexString"], unfollowed := true, recurses := true, named := ["worldmint/lexer.kinds", "internal/bytealg.MaxLen"], apart := false, laid := [("worldmint/lexer.kinds", laid_worldmint_lexer_kinds)] }
def LexerPlacesSaid : Prop := lexerPlacesRow.holds Tryd.pinned (OpenSpec.ofChange lexerPlacesSpec)

/-- ITS FALSE NEIGHBOUR: 'it returns false'. Refute it at one input. -/
def lexerPlacesWrong : ChangeSpec := { name := "lexerPlaces", fn := fun _ => fun
  | [d] => { results := [.lit (.bool false)], args := [d] }
  | _ => none }
def LexerPlacesWrongFalsely : Prop := lexerPlacesRow.holds Tryd.pinned (OpenSpec.ofChange lexerPlacesWrong)

/-- 'worldmintlaw07.LexerApart': WHATEVER THE INPUT: true; the input reads as it did. -/
def lexerApartSpec : ChangeSpec := { name := "lexerApart", fn := fun _ => fun
  | [d1, d2, d3] => { results := [.lit (.bool true)], args := [d1, d2, d3] }
  | _ => none }
def lexerApartRow : OpenClaim := { program := "ytndlecddgihihaadoor", sum := "23b6de5c5904c375389ad222ec5bfb231e0dbb59d1b929ffb3392cb5d3b7a92e", func := "worldmint/worldmintlaw07.LexerApart", spec := "lexerApart", inPlace := ["internal/bytealg.IndexByteString", "internal/bytealg.CountString", "internal/bytealg.IndexString"], unfollowed := true, recurses := true, named := ["worldmint/lexer.kinds", "internal/bytealg.MaxLen"], apart := false, laid := [("worldmint/lexer.kinds", laid_worldmint_lexer_kinds)] }
def LexerApartSaid : Prop := lexerApartRow.holds Tryd.pinned (OpenSpec.ofChange lexerApartSpec)

/-- ITS FALSE NEIGHBOUR: 'it returns false'. Refute it at one input. -/
def lexerApartWrong : ChangeSpec := { name := "lexerApart", fn := fun _ => fun
  | [d1, d2, d3] => { results := [.lit (.bool false)], args := [d1, d2, d3] }
  | _ => none }
def LexerApartWrongFalsely : Prop := lexerApartRow.holds Tryd.pinned (OpenSpec.ofChange lexerApartWrong)

/-- 'worldmintlaw07.LexerErrors': WHATEVER THE INPUT: true; the input reads as it did. -/
def lexerErrorsSpec : ChangeSpec := { name := "lexerErrors", fn := fun _ => fun
  | [d] => { results := [.lit (.bool true)], args := [d] }
  | _ => none }
def lexerErrorsRow : OpenClaim := { program := "ytndlecddgihihaadoor", sum := "23b6de5c5904c375389ad222ec5bfb231e0dbb59d1b929ffb3392cb5d3b7a92e", func := "worldmint/worldmintlaw07.LexerErrors", spec := "lexerErrors", inPlace := ["internal/bytealg.IndexByteString", "internal/bytealg.CountString", "internal/bytealg.IndexString"], unfollowed := true, recurses := true, named := ["worldmint/lexer.kinds", "internal/bytealg.MaxLen"], apart := false, laid := [("worldmint/lexer.kinds", laid_worldmint_lexer_kinds)] }
def LexerErrorsSaid : Prop := lexerErrorsRow.holds Tryd.pinned (OpenSpec.ofChange lexerErrorsSpec)

/-- ITS FALSE NEIGHBOUR: 'it returns false'. Refute it at one input. -/
def lexerErrorsWrong : ChangeSpec := { name := "lexerErrors", fn := fun _ => fun
  | [d] => { results := [.lit (.bool false)], args := [d] }
  | _ => none }
def LexerErrorsWrongFalsely : Prop := lexerErrorsRow.holds Tryd.pinned (OpenSpec.ofChange lexerErrorsWrong)

/- THE SECOND FORM. 'bulk': how many values and letters a reading holds, each counted each time it is reached (what is shared counts as often as it is met; a slice's spare places count too). A statement '..UptoSaid' is the law's where the arguments, and the package variables that the reading takes, are together of bulk at most 1048576: NARROWER than '..Said'. Prove '..Said' where nothing that the law and all that it calls make is longer than what came in: it says more and counts as full. Else prove '..UptoSaid'. A law counts once. -/
mutual
def uptoBulk {H : Type} : DataW H → Nat
  | .lit (.string bytes) => bytes.length + 1
  | .lit _ => 1
  | .nil => 1
  | .ptr d => uptoBulk d + 1
  | .slice elems spare => uptoBulkAll elems + uptoBulkAll spare + 1
  | .agg parts => uptoBulkAll parts + 1
  | .iface _ d => uptoBulk d + 1
  | .map entries => uptoBulkEntries entries + 1
  | .held _ => 1
def uptoBulkAll {H : Type} : List (DataW H) → Nat
  | [] => 0
  | d :: r => uptoBulk d + uptoBulkAll r
def uptoBulkEntries {H : Type} : List (Lit × DataW H) → Nat
  | [] => 0
  | x :: r => uptoBulkEntry x + uptoBulkEntries r
def uptoBulkEntry {H : Type} : Lit × DataW H → Nat
  | (.string bytes, d) => bytes.length + uptoBulk d + 1
  | (_, d) => uptoBulk d + 1
 end
def uptoSmall : (H : Type) → List (DataW H) → Bool := fun _ ds => decide (uptoBulkAll ds ≤ 1048576)
def OpenSpec.upto (s : _root_.Go.ChangeSpec) : _root_.Go.OpenSpec := { _root_.Go.OpenSpec.ofChange s with cond := some uptoSmall }

/-- 'worldmintlaw07.LexerTokens', WHERE WHAT IT READS IS OF BULK AT MOST 1048576: true; the input reads as it did. -/
def lexerTokensUptoRow : OpenClaim := { program := "ytndlecddgihihaadoor", sum := "23b6de5c5904c375389ad222ec5bfb231e0dbb59d1b929ffb3392cb5d3b7a92e", func := "worldmint/worldmintlaw07.LexerTokens", spec := "lexerTokens", inPlace := ["internal/bytealg.IndexByteString", "internal/bytealg.CountString", "internal/bytealg.IndexString"], unfollowed := true, recurses := true, named := ["worldmint/lexer.kinds", "internal/bytealg.MaxLen"], apart := false, laid := [("worldmint/lexer.kinds", laid_worldmint_lexer_kinds)], narrowed := true }
def LexerTokensUptoSaid : Prop := lexerTokensUptoRow.holds Tryd.pinned (OpenSpec.upto lexerTokensSpec)

/-- 'worldmintlaw07.LexerBytes', WHERE WHAT IT READS IS OF BULK AT MOST 1048576: true; the input reads as it did. -/
def lexerBytesUptoRow : OpenClaim := { program := "ytndlecddgihihaadoor", sum := "23b6de5c5904c375389ad222ec5bfb231e0dbb59d1b929ffb3392cb5d3b7a92e", func := "worldmint/worldmintlaw07.LexerBytes", spec := "lexerBytes", inPlace := ["internal/bytealg.IndexByteString", "internal/bytealg.CountString", "internal/bytealg.IndexString"], unfollowed := true, recurses := true, named := ["worldmint/lexer.kinds", "internal/bytealg.MaxLen"], apart := false, laid := [("worldmint/lexer.kinds", laid_worldmint_lexer_kinds)], narrowed := true }
def LexerBytesUptoSaid : Prop := lexerBytesUptoRow.holds Tryd.pinned (OpenSpec.upto lexerBytesSpec)

/-- 'worldmintlaw07.LexerLong', WHERE WHAT IT READS IS OF BULK AT MOST 1048576: true; the input reads as it did. -/
def lexerLongUptoRow : OpenClaim := { program := "ytndlecddgihihaadoor", sum := "23b6de5c5904c375389ad222ec5bfb231e0dbb59d1b929ffb3392cb5d3b7a92e", func := "worldmint/worldmintlaw07.LexerLong", spec := "lexerLong", inPlace := ["internal/bytealg.IndexByteString", "internal/bytealg.CountString", "internal/bytealg.IndexString"], unfollowed := true, recurses := true, named := ["worldmint/lexer.kinds", "internal/bytealg.MaxLen"], apart := false, laid := [("worldmint/lexer.kinds", laid_worldmint_lexer_kinds)], narrowed := true }
def LexerLongUptoSaid : Prop := lexerLongUptoRow.holds Tryd.pinned (OpenSpec.upto lexerLongSpec)

/-- 'worldmintlaw07.LexerPosition', WHERE WHAT IT READS IS OF BULK AT MOST 1048576: true; the input reads as it did. -/
def lexerPositionUptoRow : OpenClaim := { program := "ytndlecddgihihaadoor", sum := "23b6de5c5904c375389ad222ec5bfb231e0dbb59d1b929ffb3392cb5d3b7a92e", func := "worldmint/worldmintlaw07.LexerPosition", spec := "lexerPosition", inPlace := ["internal/bytealg.CountString", "internal/bytealg.IndexByteString", "internal/bytealg.IndexString"], unfollowed := true, recurses := true, named := ["internal/bytealg.MaxLen", "worldmint/lexer.kinds"], apart := false, laid := [("worldmint/lexer.kinds", laid_worldmint_lexer_kinds)], narrowed := true }
def LexerPositionUptoSaid : Prop := lexerPositionUptoRow.holds Tryd.pinned (OpenSpec.upto lexerPositionSpec)

/-- 'worldmintlaw07.LexerPlaces', WHERE WHAT IT READS IS OF BULK AT MOST 1048576: true; the input reads as it did. -/
def lexerPlacesUptoRow : OpenClaim := { program := "ytndlecddgihihaadoor", sum := "23b6de5c5904c375389ad222ec5bfb231e0dbb59d1b929ffb3392cb5d3b7a92e", func := "worldmint/worldmintlaw07.LexerPlaces", spec := "lexerPlaces", inPlace := ["internal/bytealg.IndexByteString", "internal/bytealg.CountString", "internal/bytealg.IndexString"], unfollowed := true, recurses := true, named := ["worldmint/lexer.kinds", "internal/bytealg.MaxLen"], apart := false, laid := [("worldmint/lexer.kinds", laid_worldmint_lexer_kinds)], narrowed := true }
def LexerPlacesUptoSaid : Prop := lexerPlacesUptoRow.holds Tryd.pinned (OpenSpec.upto lexerPlacesSpec)

/-- 'worldmintlaw07.LexerApart', WHERE WHAT IT READS IS OF BULK AT MOST 1048576: true; the input reads as it did. -/
def lexerApartUptoRow : OpenClaim := { program := "ytndlecddgihihaadoor", sum := "23b6de5c5904c375389ad222ec5bfb231e0dbb59d1b929ffb3392cb5d3b7a92e", func := "worldmint/worldmintlaw07.LexerApart", spec := "lexerApart", inPlace := ["internal/bytealg.IndexByteString", "internal/bytealg.CountString", "internal/bytealg.IndexString"], unfollowed := true, recurses := true, named := ["worldmint/lexer.kinds", "internal/bytealg.MaxLen"], apart := false, laid := [("worldmint/lexer.kinds", laid_worldmint_lexer_kinds)], narrowed := true }
def LexerApartUptoSaid : Prop := lexerApartUptoRow.holds Tryd.pinned (OpenSpec.upto lexerApartSpec)

/-- 'worldmintlaw07.LexerErrors', WHERE WHAT IT READS IS OF BULK AT MOST 1048576: true; the input reads as it did. -/
def lexerErrorsUptoRow : OpenClaim := { program := "ytndlecddgihihaadoor", sum := "23b6de5c5904c375389ad222ec5bfb231e0dbb59d1b929ffb3392cb5d3b7a92e", func := "worldmint/worldmintlaw07.LexerErrors", spec := "lexerErrors", inPlace := ["internal/bytealg.IndexByteString", "internal/bytealg.CountString", "internal/bytealg.IndexString"], unfollowed := true, recurses := true, named := ["worldmint/lexer.kinds", "internal/bytealg.MaxLen"], apart := false, laid := [("worldmint/lexer.kinds", laid_worldmint_lexer_kinds)], narrowed := true }
def LexerErrorsUptoSaid : Prop := lexerErrorsUptoRow.holds Tryd.pinned (OpenSpec.upto lexerErrorsSpec)

end Rows
end Go.Proofs.YtndlecddgihihaaDoor
