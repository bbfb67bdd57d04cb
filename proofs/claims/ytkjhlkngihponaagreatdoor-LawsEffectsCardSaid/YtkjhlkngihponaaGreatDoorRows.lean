/-
  NARROWER THAN 'FOR EVERY INPUT', by the rows' own cells (each row's printed sentence says how): LawsComplete: laid · LawsFewer: laid · LawsEffects: laid · LawsBasis: laid · LawsHolds: laid · LawsPrint: laid · LawsValue: laid · LawsKept: laid.
  DERIVED. THE GIVEN ROWS OF THIS SEAT. 8 by the template 'for every input the law returns true; each argument reads behind the call as it read before'; 0 by the template 'total and deterministic' (their statements: YtkjhlkngihponaaGreatDoorTotals.lean).
  GIVEN WITH THE SEED: the statements are not yours to turn. If you find one false, say at which input.
  Laid BY PROGRAM, IN A SANDBOX (cutbox-rows.mjs): the forced cells as the released guide's own fill.sh prints them over the translation edb393cb789c1a70… (all of the seat's roots in one cut). By AI agents, Wed Nov 11 2026. No macro, syntax, notation, axiom, sorry.
-/
import Derived.Test.YtkjhlkngihponaaGreatDoorChecked
import GoSem.Claim
import GoSem.ClaimJoined
import GoSem.ClaimMapViews
import Derived.JoinedTies
import Derived.KernelRfl
namespace Go.Proofs.YtkjhlkngihponaaGreatDoor
/- THE CELL 'sum', in the pinned program and in every row, IS THE sha256 OF THE DUMP (.gsa) THAT YtkjhlkngihponaaGreatDoorProg.lean LOADS. Nothing in Lean hashes anything: it is a label: what it is worth is what the hold of that sum in a sandbox is worth. -/
noncomputable def Tryz.pinned : Pinned := { name := "ytkjhlkngihponaagreatdoor", sum := "edb393cb789c1a70236f782cdf1caceeeeda6573127c075265f8d6cbb5788668", checked := Tryz.checked }
namespace Rows
def none {H : Type} : Left H := { results := [], args := [] }

/- WHAT THE LISTED PACKAGE-LEVEL VARIABLES READ AS WHEN THE CALL BEGINS. Each datum BY PROGRAM (the guide's laid-datum.mjs) off the statement by which the dump's own 'gosem.cut.vars' lays the variable. In a bare row this is a premise. The card (YtkjhlkngihponaaGreatDoorCards.lean) ties it to the program's text. -/
def laid_math_bits_deBruijn32tab {H : Type} : DataW H := .agg [.lit (.int .u8 0), .lit (.int .u8 1), .lit (.int .u8 28), .lit (.int .u8 2), .lit (.int .u8 29), .lit (.int .u8 14), .lit (.int .u8 24), .lit (.int .u8 3), .lit (.int .u8 30), .lit (.int .u8 22), .lit (.int .u8 20), .lit (.int .u8 15), .lit (.int .u8 25), .lit (.int .u8 17), .lit (.int .u8 4), .lit (.int .u8 8), .lit (.int .u8 31), .lit (.int .u8 27), .lit (.int .u8 13), .lit (.int .u8 23), .lit (.int .u8 21), .lit (.int .u8 19), .lit (.int .u8 16), .lit (.int .u8 7), .lit (.int .u8 26), .lit (.int .u8 12), .lit (.int .u8 18), .lit (.int .u8 6), .lit (.int .u8 11), .lit (.int .u8 5), .lit (.int .u8 10), .lit (.int .u8 9)]
def laid_math_bits_deBruijn64tab {H : Type} : DataW H := .agg [.lit (.int .u8 0), .lit (.int .u8 1), .lit (.int .u8 56), .lit (.int .u8 2), .lit (.int .u8 57), .lit (.int .u8 49), .lit (.int .u8 28), .lit (.int .u8 3), .lit (.int .u8 61), .lit (.int .u8 58), .lit (.int .u8 42), .lit (.int .u8 50), .lit (.int .u8 38), .lit (.int .u8 29), .lit (.int .u8 17), .lit (.int .u8 4), .lit (.int .u8 62), .lit (.int .u8 47), .lit (.int .u8 59), .lit (.int .u8 36), .lit (.int .u8 45), .lit (.int .u8 43), .lit (.int .u8 51), .lit (.int .u8 22), .lit (.int .u8 53), .lit (.int .u8 39), .lit (.int .u8 33), .lit (.int .u8 30), .lit (.int .u8 24), .lit (.int .u8 18), .lit (.int .u8 12), .lit (.int .u8 5), .lit (.int .u8 63), .lit (.int .u8 55), .lit (.int .u8 48), .lit (.int .u8 27), .lit (.int .u8 60), .lit (.int .u8 41), .lit (.int .u8 37), .lit (.int .u8 16), .lit (.int .u8 46), .lit (.int .u8 35), .lit (.int .u8 44), .lit (.int .u8 21), .lit (.int .u8 52), .lit (.int .u8 32), .lit (.int .u8 23), .lit (.int .u8 11), .lit (.int .u8 54), .lit (.int .u8 26), .lit (.int .u8 40), .lit (.int .u8 15), .lit (.int .u8 34), .lit (.int .u8 20), .lit (.int .u8 31), .lit (.int .u8 10), .lit (.int .u8 25), .lit (.int .u8 14), .lit (.int .u8 19), .lit (.int .u8 9), .lit (.int .u8 13), .lit (.int .u8 8), .lit (.int .u8 7), .lit (.int .u8 6)]
def laid_internal_strconv_uint64pow10 {H : Type} : DataW H := .agg [.lit (.int .u64 1), .lit (.int .u64 10), .lit (.int .u64 100), .lit (.int .u64 1000), .lit (.int .u64 10000), .lit (.int .u64 100000), .lit (.int .u64 1000000), .lit (.int .u64 10000000), .lit (.int .u64 100000000), .lit (.int .u64 1000000000), .lit (.int .u64 10000000000), .lit (.int .u64 100000000000), .lit (.int .u64 1000000000000), .lit (.int .u64 10000000000000), .lit (.int .u64 100000000000000), .lit (.int .u64 1000000000000000), .lit (.int .u64 10000000000000000), .lit (.int .u64 100000000000000000), .lit (.int .u64 1000000000000000000), .lit (.int .u64 10000000000000000000)]
def laid_worldmint_lexer_kinds {H : Type} : DataW H := .agg [.lit (.int .u8 0), .lit (.int .u8 0), .lit (.int .u8 0), .lit (.int .u8 0), .lit (.int .u8 0), .lit (.int .u8 0), .lit (.int .u8 0), .lit (.int .u8 0), .lit (.int .u8 0), .lit (.int .u8 1), .lit (.int .u8 1), .lit (.int .u8 0), .lit (.int .u8 0), .lit (.int .u8 0), .lit (.int .u8 0), .lit (.int .u8 0), .lit (.int .u8 0), .lit (.int .u8 0), .lit (.int .u8 0), .lit (.int .u8 0), .lit (.int .u8 0), .lit (.int .u8 0), .lit (.int .u8 0), .lit (.int .u8 0), .lit (.int .u8 0), .lit (.int .u8 0), .lit (.int .u8 0), .lit (.int .u8 0), .lit (.int .u8 0), .lit (.int .u8 0), .lit (.int .u8 0), .lit (.int .u8 0), .lit (.int .u8 1), .lit (.int .u8 0), .lit (.int .u8 0), .lit (.int .u8 2), .lit (.int .u8 0), .lit (.int .u8 0), .lit (.int .u8 0), .lit (.int .u8 0), .lit (.int .u8 7), .lit (.int .u8 7), .lit (.int .u8 0), .lit (.int .u8 7), .lit (.int .u8 7), .lit (.int .u8 6), .lit (.int .u8 7), .lit (.int .u8 0), .lit (.int .u8 4), .lit (.int .u8 4), .lit (.int .u8 4), .lit (.int .u8 4), .lit (.int .u8 4), .lit (.int .u8 4), .lit (.int .u8 4), .lit (.int .u8 4), .lit (.int .u8 4), .lit (.int .u8 4), .lit (.int .u8 7), .lit (.int .u8 7), .lit (.int .u8 7), .lit (.int .u8 7), .lit (.int .u8 7), .lit (.int .u8 0), .lit (.int .u8 0), .lit (.int .u8 0), .lit (.int .u8 0), .lit (.int .u8 0), .lit (.int .u8 0), .lit (.int .u8 0), .lit (.int .u8 0), .lit (.int .u8 0), .lit (.int .u8 0), .lit (.int .u8 0), .lit (.int .u8 0), .lit (.int .u8 0), .lit (.int .u8 0), .lit (.int .u8 0), .lit (.int .u8 0), .lit (.int .u8 0), .lit (.int .u8 0), .lit (.int .u8 0), .lit (.int .u8 0), .lit (.int .u8 0), .lit (.int .u8 0), .lit (.int .u8 0), .lit (.int .u8 0), .lit (.int .u8 0), .lit (.int .u8 0), .lit (.int .u8 0), .lit (.int .u8 0), .lit (.int .u8 0), .lit (.int .u8 0), .lit (.int .u8 0), .lit (.int .u8 0), .lit (.int .u8 5), .lit (.int .u8 0), .lit (.int .u8 3), .lit (.int .u8 3), .lit (.int .u8 3), .lit (.int .u8 3), .lit (.int .u8 3), .lit (.int .u8 3), .lit (.int .u8 3), .lit (.int .u8 3), .lit (.int .u8 3), .lit (.int .u8 3), .lit (.int .u8 3), .lit (.int .u8 3), .lit (.int .u8 3), .lit (.int .u8 3), .lit (.int .u8 3), .lit (.int .u8 3), .lit (.int .u8 3), .lit (.int .u8 3), .lit (.int .u8 3), .lit (.int .u8 3), .lit (.int .u8 3), .lit (.int .u8 3), .lit (.int .u8 3), .lit (.int .u8 3), .lit (.int .u8 3), .lit (.int .u8 3), .lit (.int .u8 7), .lit (.int .u8 0), .lit (.int .u8 7), .lit (.int .u8 0), .lit (.int .u8 0)]

/-- 'worldmintlaw10.LawsComplete': WHATEVER THE INPUT: true; the input reads as it did. -/
def lawsCompleteSpec : ChangeSpec := { name := "lawsComplete", fn := fun _ => fun
  | [d1, d2] => { results := [.lit (.bool true)], args := [d1, d2] }
  | _ => none }
def lawsCompleteRow : OpenClaim := { program := "ytkjhlkngihponaagreatdoor", sum := "edb393cb789c1a70236f782cdf1caceeeeda6573127c075265f8d6cbb5788668", func := "worldmint/worldmintlaw10.LawsComplete", spec := "lawsComplete", inPlace := ["internal/bytealg.IndexByteString", "internal/abi.NoEscape", "internal/bytealg.MakeNoZero"], unfollowed := true, recurses := true, named := ["worldmint/lexer.kinds", "internal/strconv.uint64pow10", "math/bits.deBruijn32tab", "math/bits.deBruijn64tab"], apart := false, laid := [("math/bits.deBruijn32tab", laid_math_bits_deBruijn32tab), ("math/bits.deBruijn64tab", laid_math_bits_deBruijn64tab), ("internal/strconv.uint64pow10", laid_internal_strconv_uint64pow10), ("worldmint/lexer.kinds", laid_worldmint_lexer_kinds)] }
def LawsCompleteSaid : Prop := lawsCompleteRow.holds Tryz.pinned (OpenSpec.ofChange lawsCompleteSpec)

/-- ITS FALSE NEIGHBOUR: 'it returns false'. Refute it at one input. -/
def lawsCompleteWrong : ChangeSpec := { name := "lawsComplete", fn := fun _ => fun
  | [d1, d2] => { results := [.lit (.bool false)], args := [d1, d2] }
  | _ => none }
def LawsCompleteWrongFalsely : Prop := lawsCompleteRow.holds Tryz.pinned (OpenSpec.ofChange lawsCompleteWrong)

/-- 'worldmintlaw10.LawsFewer': WHATEVER THE INPUT: true; the input reads as it did. -/
def lawsFewerSpec : ChangeSpec := { name := "lawsFewer", fn := fun _ => fun
  | [d1, d2] => { results := [.lit (.bool true)], args := [d1, d2] }
  | _ => none }
def lawsFewerRow : OpenClaim := { program := "ytkjhlkngihponaagreatdoor", sum := "edb393cb789c1a70236f782cdf1caceeeeda6573127c075265f8d6cbb5788668", func := "worldmint/worldmintlaw10.LawsFewer", spec := "lawsFewer", inPlace := ["internal/bytealg.IndexByteString", "internal/abi.NoEscape", "internal/bytealg.MakeNoZero"], unfollowed := true, recurses := true, named := ["worldmint/lexer.kinds", "internal/strconv.uint64pow10", "math/bits.deBruijn32tab", "math/bits.deBruijn64tab"], apart := false, laid := [("math/bits.deBruijn32tab", laid_math_bits_deBruijn32tab), ("math/bits.deBruijn64tab", laid_math_bits_deBruijn64tab), ("internal/strconv.uint64pow10", laid_internal_strconv_uint64pow10), ("worldmint/lexer.kinds", laid_worldmint_lexer_kinds)] }
def LawsFewerSaid : Prop := lawsFewerRow.holds Tryz.pinned (OpenSpec.ofChange lawsFewerSpec)

/-- ITS FALSE NEIGHBOUR: 'it returns false'. Refute it at one input. -/
def lawsFewerWrong : ChangeSpec := { name := "lawsFewer", fn := fun _ => fun
  | [d1, d2] => { results := [.lit (.bool false)], args := [d1, d2] }
  | _ => none }
def LawsFewerWrongFalsely : Prop := lawsFewerRow.holds Tryz.pinned (OpenSpec.ofChange lawsFewerWrong)

/-- 'worldmintlaw10.LawsEffects': WHATEVER THE INPUT: true; the input reads as it did. -/
def lawsEffectsSpec : ChangeSpec := { name := "lawsEffects", fn := fun _ => fun
  | [d1, d2] => { results := [.lit (.bool true)], args := [d1, d2] }
  | _ => none }
def lawsEffectsRow : OpenClaim := { program := "ytkjhlkngihponaagreatdoor", sum := "edb393cb789c1a70236f782cdf1caceeeeda6573127c075265f8d6cbb5788668", func := "worldmint/worldmintlaw10.LawsEffects", spec := "lawsEffects", inPlace := ["internal/bytealg.IndexByteString", "internal/abi.NoEscape", "internal/bytealg.MakeNoZero"], unfollowed := true, recurses := true, named := ["worldmint/lexer.kinds", "internal/strconv.uint64pow10", "math/bits.deBruijn32tab", "math/bits.deBruijn64tab"], apart := false, laid := [("math/bits.deBruijn32tab", laid_math_bits_deBruijn32tab), ("math/bits.deBruijn64tab", laid_math_bits_deBruijn64tab), ("internal/strconv.uint64pow10", laid_internal_strconv_uint64pow10), ("worldmint/lexer.kinds", laid_worldmint_lexer_kinds)] }
def LawsEffectsSaid : Prop := lawsEffectsRow.holds Tryz.pinned (OpenSpec.ofChange lawsEffectsSpec)

/-- ITS FALSE NEIGHBOUR: 'it returns false'. Refute it at one input. -/
def lawsEffectsWrong : ChangeSpec := { name := "lawsEffects", fn := fun _ => fun
  | [d1, d2] => { results := [.lit (.bool false)], args := [d1, d2] }
  | _ => none }
def LawsEffectsWrongFalsely : Prop := lawsEffectsRow.holds Tryz.pinned (OpenSpec.ofChange lawsEffectsWrong)

/-- 'worldmintlaw10.LawsBasis': WHATEVER THE INPUT: true; the input reads as it did. -/
def lawsBasisSpec : ChangeSpec := { name := "lawsBasis", fn := fun _ => fun
  | [d1, d2] => { results := [.lit (.bool true)], args := [d1, d2] }
  | _ => none }
def lawsBasisRow : OpenClaim := { program := "ytkjhlkngihponaagreatdoor", sum := "edb393cb789c1a70236f782cdf1caceeeeda6573127c075265f8d6cbb5788668", func := "worldmint/worldmintlaw10.LawsBasis", spec := "lawsBasis", inPlace := ["internal/bytealg.IndexByteString", "internal/abi.NoEscape", "internal/bytealg.MakeNoZero"], unfollowed := true, recurses := true, named := ["worldmint/lexer.kinds", "internal/strconv.uint64pow10", "math/bits.deBruijn32tab", "math/bits.deBruijn64tab"], apart := false, laid := [("math/bits.deBruijn32tab", laid_math_bits_deBruijn32tab), ("math/bits.deBruijn64tab", laid_math_bits_deBruijn64tab), ("internal/strconv.uint64pow10", laid_internal_strconv_uint64pow10), ("worldmint/lexer.kinds", laid_worldmint_lexer_kinds)] }
def LawsBasisSaid : Prop := lawsBasisRow.holds Tryz.pinned (OpenSpec.ofChange lawsBasisSpec)

/-- ITS FALSE NEIGHBOUR: 'it returns false'. Refute it at one input. -/
def lawsBasisWrong : ChangeSpec := { name := "lawsBasis", fn := fun _ => fun
  | [d1, d2] => { results := [.lit (.bool false)], args := [d1, d2] }
  | _ => none }
def LawsBasisWrongFalsely : Prop := lawsBasisRow.holds Tryz.pinned (OpenSpec.ofChange lawsBasisWrong)

/-- 'worldmintlaw10.LawsHolds': WHATEVER THE INPUT: true; the input reads as it did. -/
def lawsHoldsSpec : ChangeSpec := { name := "lawsHolds", fn := fun _ => fun
  | [d1, d2, d3, d4, d5] => { results := [.lit (.bool true)], args := [d1, d2, d3, d4, d5] }
  | _ => none }
def lawsHoldsRow : OpenClaim := { program := "ytkjhlkngihponaagreatdoor", sum := "edb393cb789c1a70236f782cdf1caceeeeda6573127c075265f8d6cbb5788668", func := "worldmint/worldmintlaw10.LawsHolds", spec := "lawsHolds", inPlace := ["internal/bytealg.IndexByteString", "internal/abi.NoEscape", "internal/bytealg.MakeNoZero"], unfollowed := true, recurses := true, named := ["worldmint/lexer.kinds", "internal/strconv.uint64pow10", "math/bits.deBruijn32tab", "math/bits.deBruijn64tab"], apart := false, laid := [("math/bits.deBruijn32tab", laid_math_bits_deBruijn32tab), ("math/bits.deBruijn64tab", laid_math_bits_deBruijn64tab), ("internal/strconv.uint64pow10", laid_internal_strconv_uint64pow10), ("worldmint/lexer.kinds", laid_worldmint_lexer_kinds)] }
def LawsHoldsSaid : Prop := lawsHoldsRow.holds Tryz.pinned (OpenSpec.ofChange lawsHoldsSpec)

/-- ITS FALSE NEIGHBOUR: 'it returns false'. Refute it at one input. -/
def lawsHoldsWrong : ChangeSpec := { name := "lawsHolds", fn := fun _ => fun
  | [d1, d2, d3, d4, d5] => { results := [.lit (.bool false)], args := [d1, d2, d3, d4, d5] }
  | _ => none }
def LawsHoldsWrongFalsely : Prop := lawsHoldsRow.holds Tryz.pinned (OpenSpec.ofChange lawsHoldsWrong)

/-- 'worldmintlaw10.LawsPrint': WHATEVER THE INPUT: true; the input reads as it did. -/
def lawsPrintSpec : ChangeSpec := { name := "lawsPrint", fn := fun _ => fun
  | [d1, d2, d3, d4, d5] => { results := [.lit (.bool true)], args := [d1, d2, d3, d4, d5] }
  | _ => none }
def lawsPrintRow : OpenClaim := { program := "ytkjhlkngihponaagreatdoor", sum := "edb393cb789c1a70236f782cdf1caceeeeda6573127c075265f8d6cbb5788668", func := "worldmint/worldmintlaw10.LawsPrint", spec := "lawsPrint", inPlace := ["internal/bytealg.IndexByteString", "internal/abi.NoEscape", "internal/bytealg.MakeNoZero"], unfollowed := true, recurses := true, named := ["worldmint/lexer.kinds", "internal/strconv.uint64pow10", "math/bits.deBruijn32tab", "math/bits.deBruijn64tab"], apart := false, laid := [("math/bits.deBruijn32tab", laid_math_bits_deBruijn32tab), ("math/bits.deBruijn64tab", laid_math_bits_deBruijn64tab), ("internal/strconv.uint64pow10", laid_internal_strconv_uint64pow10), ("worldmint/lexer.kinds", laid_worldmint_lexer_kinds)] }
def LawsPrintSaid : Prop := lawsPrintRow.holds Tryz.pinned (OpenSpec.ofChange lawsPrintSpec)

/-- ITS FALSE NEIGHBOUR: 'it returns false'. Refute it at one input. -/
def lawsPrintWrong : ChangeSpec := { name := "lawsPrint", fn := fun _ => fun
  | [d1, d2, d3, d4, d5] => { results := [.lit (.bool false)], args := [d1, d2, d3, d4, d5] }
  | _ => none }
def LawsPrintWrongFalsely : Prop := lawsPrintRow.holds Tryz.pinned (OpenSpec.ofChange lawsPrintWrong)

/-- 'worldmintlaw10.LawsValue': WHATEVER THE INPUT: true; the input reads as it did. -/
def lawsValueSpec : ChangeSpec := { name := "lawsValue", fn := fun _ => fun
  | [d1, d2, d3, d4, d5] => { results := [.lit (.bool true)], args := [d1, d2, d3, d4, d5] }
  | _ => none }
def lawsValueRow : OpenClaim := { program := "ytkjhlkngihponaagreatdoor", sum := "edb393cb789c1a70236f782cdf1caceeeeda6573127c075265f8d6cbb5788668", func := "worldmint/worldmintlaw10.LawsValue", spec := "lawsValue", inPlace := ["internal/bytealg.IndexByteString", "internal/abi.NoEscape", "internal/bytealg.MakeNoZero"], unfollowed := true, recurses := true, named := ["worldmint/lexer.kinds", "internal/strconv.uint64pow10", "math/bits.deBruijn32tab", "math/bits.deBruijn64tab"], apart := false, laid := [("math/bits.deBruijn32tab", laid_math_bits_deBruijn32tab), ("math/bits.deBruijn64tab", laid_math_bits_deBruijn64tab), ("internal/strconv.uint64pow10", laid_internal_strconv_uint64pow10), ("worldmint/lexer.kinds", laid_worldmint_lexer_kinds)] }
def LawsValueSaid : Prop := lawsValueRow.holds Tryz.pinned (OpenSpec.ofChange lawsValueSpec)

/-- ITS FALSE NEIGHBOUR: 'it returns false'. Refute it at one input. -/
def lawsValueWrong : ChangeSpec := { name := "lawsValue", fn := fun _ => fun
  | [d1, d2, d3, d4, d5] => { results := [.lit (.bool false)], args := [d1, d2, d3, d4, d5] }
  | _ => none }
def LawsValueWrongFalsely : Prop := lawsValueRow.holds Tryz.pinned (OpenSpec.ofChange lawsValueWrong)

/-- 'worldmintlaw10.LawsKept': WHATEVER THE INPUT: true; the input reads as it did. -/
def lawsKeptSpec : ChangeSpec := { name := "lawsKept", fn := fun _ => fun
  | [d1, d2, d3, d4] => { results := [.lit (.bool true)], args := [d1, d2, d3, d4] }
  | _ => none }
def lawsKeptRow : OpenClaim := { program := "ytkjhlkngihponaagreatdoor", sum := "edb393cb789c1a70236f782cdf1caceeeeda6573127c075265f8d6cbb5788668", func := "worldmint/worldmintlaw10.LawsKept", spec := "lawsKept", inPlace := ["internal/bytealg.IndexByteString", "internal/abi.NoEscape", "internal/bytealg.MakeNoZero"], unfollowed := true, recurses := true, named := ["worldmint/lexer.kinds", "internal/strconv.uint64pow10", "math/bits.deBruijn32tab", "math/bits.deBruijn64tab"], apart := false, laid := [("math/bits.deBruijn32tab", laid_math_bits_deBruijn32tab), ("math/bits.deBruijn64tab", laid_math_bits_deBruijn64tab), ("internal/strconv.uint64pow10", laid_internal_strconv_uint64pow10), ("worldmint/lexer.kinds", laid_worldmint_lexer_kinds)] }
def LawsKeptSaid : Prop := lawsKeptRow.holds Tryz.pinned (OpenSpec.ofChange lawsKeptSpec)

/-- ITS FALSE NEIGHBOUR: 'it returns false'. Refute it at one input. -/
def lawsKeptWrong : ChangeSpec := { name := "lawsKept", fn := fun _ => fun
  | [d1, d2, d3, d4] => { results := [.lit (.bool false)], args := [d1, d2, d3, d4] }
  | _ => none }
def LawsKeptWrongFalsely : Prop := lawsKeptRow.holds Tryz.pinned (OpenSpec.ofChange lawsKeptWrong)

/- THE SECOND FORM. 'bulk': how many values and letters a reading holds, each counted each time it is reached (what is shared counts as often as it is met; a slice's spare places count too). A statement '..UptoSaid' is the law's where the arguments, and the package variables that the reading takes, are together of bulk at most 1048576: NARROWER than '..Said'. Prove '..Said' where nothing that the law and all that it calls make is longer than what came in: it says more and counts as full. Else prove '..UptoSaid'. A law counts once. -/
mutual
def uptoBulk {H : Type} : DataW H → Nat
  | .lit (.string bytes) => bytes.length + 1
  | .lit _ => 1
  | .nil => 1
  | .ptr d => uptoBulk d + 1
  | .slice elems spare => uptoBulkAll elems + uptoBulkAll spare + 1
  | .agg parts => uptoBulkAll parts + 1
  | .iface _ d => uptoBulk d + 1
  | .map entries => uptoBulkEntries entries + 1
  | .held _ => 1
def uptoBulkAll {H : Type} : List (DataW H) → Nat
  | [] => 0
  | d :: r => uptoBulk d + uptoBulkAll r
def uptoBulkEntries {H : Type} : List (Lit × DataW H) → Nat
  | [] => 0
  | x :: r => uptoBulkEntry x + uptoBulkEntries r
def uptoBulkEntry {H : Type} : Lit × DataW H → Nat
  | (.string bytes, d) => bytes.length + uptoBulk d + 1
  | (_, d) => uptoBulk d + 1
 end
def uptoSmall : (H : Type) → List (DataW H) → Bool := fun _ ds => decide (uptoBulkAll ds ≤ 1048576)
def OpenSpec.upto (s : _root_.Go.ChangeSpec) : _root_.Go.OpenSpec := { _root_.Go.OpenSpec.ofChange s with cond := some uptoSmall }

/-- 'worldmintlaw10.LawsComplete', WHERE WHAT IT READS IS OF BULK AT MOST 1048576: true; the input reads as it did. -/
def lawsCompleteUptoRow : OpenClaim := { program := "ytkjhlkngihponaagreatdoor", sum := "edb393cb789c1a70236f782cdf1caceeeeda6573127c075265f8d6cbb5788668", func := "worldmint/worldmintlaw10.LawsComplete", spec := "lawsComplete", inPlace := ["internal/bytealg.IndexByteString", "internal/abi.NoEscape", "internal/bytealg.MakeNoZero"], unfollowed := true, recurses := true, named := ["worldmint/lexer.kinds", "internal/strconv.uint64pow10", "math/bits.deBruijn32tab", "math/bits.deBruijn64tab"], apart := false, laid := [("math/bits.deBruijn32tab", laid_math_bits_deBruijn32tab), ("math/bits.deBruijn64tab", laid_math_bits_deBruijn64tab), ("internal/strconv.uint64pow10", laid_internal_strconv_uint64pow10), ("worldmint/lexer.kinds", laid_worldmint_lexer_kinds)], narrowed := true }
def LawsCompleteUptoSaid : Prop := lawsCompleteUptoRow.holds Tryz.pinned (OpenSpec.upto lawsCompleteSpec)

/-- 'worldmintlaw10.LawsFewer', WHERE WHAT IT READS IS OF BULK AT MOST 1048576: true; the input reads as it did. -/
def lawsFewerUptoRow : OpenClaim := { program := "ytkjhlkngihponaagreatdoor", sum := "edb393cb789c1a70236f782cdf1caceeeeda6573127c075265f8d6cbb5788668", func := "worldmint/worldmintlaw10.LawsFewer", spec := "lawsFewer", inPlace := ["internal/bytealg.IndexByteString", "internal/abi.NoEscape", "internal/bytealg.MakeNoZero"], unfollowed := true, recurses := true, named := ["worldmint/lexer.kinds", "internal/strconv.uint64pow10", "math/bits.deBruijn32tab", "math/bits.deBruijn64tab"], apart := false, laid := [("math/bits.deBruijn32tab", laid_math_bits_deBruijn32tab), ("math/bits.deBruijn64tab", laid_math_bits_deBruijn64tab), ("internal/strconv.uint64pow10", laid_internal_strconv_uint64pow10), ("worldmint/lexer.kinds", laid_worldmint_lexer_kinds)], narrowed := true }
def LawsFewerUptoSaid : Prop := lawsFewerUptoRow.holds Tryz.pinned (OpenSpec.upto lawsFewerSpec)

/-- 'worldmintlaw10.LawsEffects', WHERE WHAT IT READS IS OF BULK AT MOST 1048576: true; the input reads as it did. -/
def lawsEffectsUptoRow : OpenClaim := { program := "ytkjhlkngihponaagreatdoor", sum := "edb393cb789c1a70236f782cdf1caceeeeda6573127c075265f8d6cbb5788668", func := "worldmint/worldmintlaw10.LawsEffects", spec := "lawsEffects", inPlace := ["internal/bytealg.IndexByteString", "internal/abi.NoEscape", "internal/bytealg.MakeNoZero"], unfollowed := true, recurses := true, named := ["worldmint/lexer.kinds", "internal/strconv.uint64pow10", "math/bits.deBruijn32tab", "math/bits.deBruijn64tab"], apart := false, laid := [("math/bits.deBruijn32tab", laid_math_bits_deBruijn32tab), ("math/bits.deBruijn64tab", laid_math_bits_deBruijn64tab), ("internal/strconv.uint64pow10", laid_internal_strconv_uint64pow10), ("worldmint/lexer.kinds", laid_worldmint_lexer_kinds)], narrowed := true }
def LawsEffectsUptoSaid : Prop := lawsEffectsUptoRow.holds Tryz.pinned (OpenSpec.upto lawsEffectsSpec)

/-- 'worldmintlaw10.LawsBasis', WHERE WHAT IT READS IS OF BULK AT MOST 1048576: true; the input reads as it did. -/
def lawsBasisUptoRow : OpenClaim := { program := "ytkjhlkngihponaagreatdoor", sum := "edb393cb789c1a70236f782cdf1caceeeeda6573127c075265f8d6cbb5788668", func := "worldmint/worldmintlaw10.LawsBasis", spec := "lawsBasis", inPlace := ["internal/bytealg.IndexByteString", "internal/abi.NoEscape", "internal/bytealg.MakeNoZero"], unfollowed := true, recurses := true, named := ["worldmint/lexer.kinds", "internal/strconv.uint64pow10", "math/bits.deBruijn32tab", "math/bits.deBruijn64tab"], apart := false, laid := [("math/bits.deBruijn32tab", laid_math_bits_deBruijn32tab), ("math/bits.deBruijn64tab", laid_math_bits_deBruijn64tab), ("internal/strconv.uint64pow10", laid_internal_strconv_uint64pow10), ("worldmint/lexer.kinds", laid_worldmint_lexer_kinds)], narrowed := true }
def LawsBasisUptoSaid : Prop := lawsBasisUptoRow.holds Tryz.pinned (OpenSpec.upto lawsBasisSpec)

/-- 'worldmintlaw10.LawsHolds', WHERE WHAT IT READS IS OF BULK AT MOST 1048576: true; the input reads as it did. -/
def lawsHoldsUptoRow : OpenClaim := { program := "ytkjhlkngihponaagreatdoor", sum := "edb393cb789c1a70236f782cdf1caceeeeda6573127c075265f8d6cbb5788668", func := "worldmint/worldmintlaw10.LawsHolds", spec := "lawsHolds", inPlace := ["internal/bytealg.IndexByteString", "internal/abi.NoEscape", "internal/bytealg.MakeNoZero"], unfollowed := true, recurses := true, named := ["worldmint/lexer.kinds", "internal/strconv.uint64pow10", "math/bits.deBruijn32tab", "math/bits.deBruijn64tab"], apart := false, laid := [("math/bits.deBruijn32tab", laid_math_bits_deBruijn32tab), ("math/bits.deBruijn64tab", laid_math_bits_deBruijn64tab), ("internal/strconv.uint64pow10", laid_internal_strconv_uint64pow10), ("worldmint/lexer.kinds", laid_worldmint_lexer_kinds)], narrowed := true }
def LawsHoldsUptoSaid : Prop := lawsHoldsUptoRow.holds Tryz.pinned (OpenSpec.upto lawsHoldsSpec)

/-- 'worldmintlaw10.LawsPrint', WHERE WHAT IT READS IS OF BULK AT MOST 1048576: true; the input reads as it did. -/
def lawsPrintUptoRow : OpenClaim := { program := "ytkjhlkngihponaagreatdoor", sum := "edb393cb789c1a70236f782cdf1caceeeeda6573127c075265f8d6cbb5788668", func := "worldmint/worldmintlaw10.LawsPrint", spec := "lawsPrint", inPlace := ["internal/bytealg.IndexByteString", "internal/abi.NoEscape", "internal/bytealg.MakeNoZero"], unfollowed := true, recurses := true, named := ["worldmint/lexer.kinds", "internal/strconv.uint64pow10", "math/bits.deBruijn32tab", "math/bits.deBruijn64tab"], apart := false, laid := [("math/bits.deBruijn32tab", laid_math_bits_deBruijn32tab), ("math/bits.deBruijn64tab", laid_math_bits_deBruijn64tab), ("internal/strconv.uint64pow10", laid_internal_strconv_uint64pow10), ("worldmint/lexer.kinds", laid_worldmint_lexer_kinds)], narrowed := true }
def LawsPrintUptoSaid : Prop := lawsPrintUptoRow.holds Tryz.pinned (OpenSpec.upto lawsPrintSpec)

/-- 'worldmintlaw10.LawsValue', WHERE WHAT IT READS IS OF BULK AT MOST 1048576: true; the input reads as it did. -/
def lawsValueUptoRow : OpenClaim := { program := "ytkjhlkngihponaagreatdoor", sum := "edb393cb789c1a70236f782cdf1caceeeeda6573127c075265f8d6cbb5788668", func := "worldmint/worldmintlaw10.LawsValue", spec := "lawsValue", inPlace := ["internal/bytealg.IndexByteString", "internal/abi.NoEscape", "internal/bytealg.MakeNoZero"], unfollowed := true, recurses := true, named := ["worldmint/lexer.kinds", "internal/strconv.uint64pow10", "math/bits.deBruijn32tab", "math/bits.deBruijn64tab"], apart := false, laid := [("math/bits.deBruijn32tab", laid_math_bits_deBruijn32tab), ("math/bits.deBruijn64tab", laid_math_bits_deBruijn64tab), ("internal/strconv.uint64pow10", laid_internal_strconv_uint64pow10), ("worldmint/lexer.kinds", laid_worldmint_lexer_kinds)], narrowed := true }
def LawsValueUptoSaid : Prop := lawsValueUptoRow.holds Tryz.pinned (OpenSpec.upto lawsValueSpec)

/-- 'worldmintlaw10.LawsKept', WHERE WHAT IT READS IS OF BULK AT MOST 1048576: true; the input reads as it did. -/
def lawsKeptUptoRow : OpenClaim := { program := "ytkjhlkngihponaagreatdoor", sum := "edb393cb789c1a70236f782cdf1caceeeeda6573127c075265f8d6cbb5788668", func := "worldmint/worldmintlaw10.LawsKept", spec := "lawsKept", inPlace := ["internal/bytealg.IndexByteString", "internal/abi.NoEscape", "internal/bytealg.MakeNoZero"], unfollowed := true, recurses := true, named := ["worldmint/lexer.kinds", "internal/strconv.uint64pow10", "math/bits.deBruijn32tab", "math/bits.deBruijn64tab"], apart := false, laid := [("math/bits.deBruijn32tab", laid_math_bits_deBruijn32tab), ("math/bits.deBruijn64tab", laid_math_bits_deBruijn64tab), ("internal/strconv.uint64pow10", laid_internal_strconv_uint64pow10), ("worldmint/lexer.kinds", laid_worldmint_lexer_kinds)], narrowed := true }
def LawsKeptUptoSaid : Prop := lawsKeptUptoRow.holds Tryz.pinned (OpenSpec.upto lawsKeptSpec)

end Rows
end Go.Proofs.YtkjhlkngihponaaGreatDoor
