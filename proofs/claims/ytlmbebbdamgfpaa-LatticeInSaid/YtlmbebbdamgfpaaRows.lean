/-
  No cell of these rows narrows 'for every input' (looked for: loops, veiled, ifaces, maps, wideKeys, modest, calm, conditions, laid).
  DERIVED. THE GIVEN ROWS OF THIS SEAT. 8 by the template 'for every input the law returns true; each argument reads behind the call as it read before'; 0 by the template 'total and deterministic' (their statements: YtlmbebbdamgfpaaTotals.lean).
  GIVEN WITH THE SEED: the statements are not yours to turn. If you find one false, say at which input.
  Laid BY PROGRAM, IN A SANDBOX (cutbox-rows.mjs): the forced cells as the released guide's own fill.sh prints them over the translation 8effc13974de4331… (all of the seat's roots in one cut). By AI agents, Wed Nov 11 2026. No macro, syntax, notation, axiom, sorry.
-/
import Derived.Test.YtlmbebbdamgfpaaChecked
import GoSem.Claim
import GoSem.ClaimJoined
import GoSem.ClaimMapViews
import Derived.JoinedTies
import Derived.KernelRfl
namespace Go.Proofs.Ytlmbebbdamgfpaa
/- THE CELL 'sum', in the pinned program and in every row, IS THE sha256 OF THE DUMP (.gsa) THAT YtlmbebbdamgfpaaProg.lean LOADS. Nothing in Lean hashes anything: it is a label: what it is worth is what the hold of that sum in a sandbox is worth. -/
noncomputable def Try.pinned : Pinned := { name := "ytlmbebbdamgfpaa", sum := "8effc13974de433154a22bf5d5ed6a8d0a380665e2e856980e46c2ac6986b1cd", checked := Try.checked }
namespace Rows
def none {H : Type} : Left H := { results := [], args := [] }

/-- 'worldmintlaw06.LatticeHermite': WHATEVER THE INPUT: true; the input reads as it did. -/
def latticeHermiteSpec : ChangeSpec := { name := "latticeHermite", fn := fun _ => fun
  | [d1, d2, d3] => { results := [.lit (.bool true)], args := [d1, d2, d3] }
  | _ => none }
def latticeHermiteRow : OpenClaim := { program := "ytlmbebbdamgfpaa", sum := "8effc13974de433154a22bf5d5ed6a8d0a380665e2e856980e46c2ac6986b1cd", func := "worldmint/worldmintlaw06.LatticeHermite", spec := "latticeHermite", unfollowed := true, recurses := true, apart := false }
def LatticeHermiteSaid : Prop := latticeHermiteRow.holds Try.pinned (OpenSpec.ofChange latticeHermiteSpec)

/-- ITS FALSE NEIGHBOUR: 'it returns false'. Refute it at one input. -/
def latticeHermiteWrong : ChangeSpec := { name := "latticeHermite", fn := fun _ => fun
  | [d1, d2, d3] => { results := [.lit (.bool false)], args := [d1, d2, d3] }
  | _ => none }
def LatticeHermiteWrongFalsely : Prop := latticeHermiteRow.holds Try.pinned (OpenSpec.ofChange latticeHermiteWrong)

/-- 'worldmintlaw06.LatticeKernel': WHATEVER THE INPUT: true; the input reads as it did. -/
def latticeKernelSpec : ChangeSpec := { name := "latticeKernel", fn := fun _ => fun
  | [d1, d2, d3] => { results := [.lit (.bool true)], args := [d1, d2, d3] }
  | _ => none }
def latticeKernelRow : OpenClaim := { program := "ytlmbebbdamgfpaa", sum := "8effc13974de433154a22bf5d5ed6a8d0a380665e2e856980e46c2ac6986b1cd", func := "worldmint/worldmintlaw06.LatticeKernel", spec := "latticeKernel", unfollowed := true, recurses := true, apart := false }
def LatticeKernelSaid : Prop := latticeKernelRow.holds Try.pinned (OpenSpec.ofChange latticeKernelSpec)

/-- ITS FALSE NEIGHBOUR: 'it returns false'. Refute it at one input. -/
def latticeKernelWrong : ChangeSpec := { name := "latticeKernel", fn := fun _ => fun
  | [d1, d2, d3] => { results := [.lit (.bool false)], args := [d1, d2, d3] }
  | _ => none }
def LatticeKernelWrongFalsely : Prop := latticeKernelRow.holds Try.pinned (OpenSpec.ofChange latticeKernelWrong)

/-- 'worldmintlaw06.LatticeNormal': WHATEVER THE INPUT: true; the input reads as it did. -/
def latticeNormalSpec : ChangeSpec := { name := "latticeNormal", fn := fun _ => fun
  | [d1, d2] => { results := [.lit (.bool true)], args := [d1, d2] }
  | _ => none }
def latticeNormalRow : OpenClaim := { program := "ytlmbebbdamgfpaa", sum := "8effc13974de433154a22bf5d5ed6a8d0a380665e2e856980e46c2ac6986b1cd", func := "worldmint/worldmintlaw06.LatticeNormal", spec := "latticeNormal", unfollowed := true, recurses := true, apart := false }
def LatticeNormalSaid : Prop := latticeNormalRow.holds Try.pinned (OpenSpec.ofChange latticeNormalSpec)

/-- ITS FALSE NEIGHBOUR: 'it returns false'. Refute it at one input. -/
def latticeNormalWrong : ChangeSpec := { name := "latticeNormal", fn := fun _ => fun
  | [d1, d2] => { results := [.lit (.bool false)], args := [d1, d2] }
  | _ => none }
def LatticeNormalWrongFalsely : Prop := latticeNormalRow.holds Try.pinned (OpenSpec.ofChange latticeNormalWrong)

/-- 'worldmintlaw06.LatticeUnique': WHATEVER THE INPUT: true; the input reads as it did. -/
def latticeUniqueSpec : ChangeSpec := { name := "latticeUnique", fn := fun _ => fun
  | [d1, d2, d3, d4, d5] => { results := [.lit (.bool true)], args := [d1, d2, d3, d4, d5] }
  | _ => none }
def latticeUniqueRow : OpenClaim := { program := "ytlmbebbdamgfpaa", sum := "8effc13974de433154a22bf5d5ed6a8d0a380665e2e856980e46c2ac6986b1cd", func := "worldmint/worldmintlaw06.LatticeUnique", spec := "latticeUnique", unfollowed := true, recurses := true, apart := false }
def LatticeUniqueSaid : Prop := latticeUniqueRow.holds Try.pinned (OpenSpec.ofChange latticeUniqueSpec)

/-- ITS FALSE NEIGHBOUR: 'it returns false'. Refute it at one input. -/
def latticeUniqueWrong : ChangeSpec := { name := "latticeUnique", fn := fun _ => fun
  | [d1, d2, d3, d4, d5] => { results := [.lit (.bool false)], args := [d1, d2, d3, d4, d5] }
  | _ => none }
def LatticeUniqueWrongFalsely : Prop := latticeUniqueRow.holds Try.pinned (OpenSpec.ofChange latticeUniqueWrong)

/-- 'worldmintlaw06.LatticeAll': WHATEVER THE INPUT: true; the input reads as it did. -/
def latticeAllSpec : ChangeSpec := { name := "latticeAll", fn := fun _ => fun
  | [d] => { results := [.lit (.bool true)], args := [d] }
  | _ => none }
def latticeAllRow : OpenClaim := { program := "ytlmbebbdamgfpaa", sum := "8effc13974de433154a22bf5d5ed6a8d0a380665e2e856980e46c2ac6986b1cd", func := "worldmint/worldmintlaw06.LatticeAll", spec := "latticeAll", unfollowed := true, recurses := true, apart := false }
def LatticeAllSaid : Prop := latticeAllRow.holds Try.pinned (OpenSpec.ofChange latticeAllSpec)

/-- ITS FALSE NEIGHBOUR: 'it returns false'. Refute it at one input. -/
def latticeAllWrong : ChangeSpec := { name := "latticeAll", fn := fun _ => fun
  | [d] => { results := [.lit (.bool false)], args := [d] }
  | _ => none }
def LatticeAllWrongFalsely : Prop := latticeAllRow.holds Try.pinned (OpenSpec.ofChange latticeAllWrong)

/-- 'worldmintlaw06.LatticeIn': WHATEVER THE INPUT: true; the input reads as it did. -/
def latticeInSpec : ChangeSpec := { name := "latticeIn", fn := fun _ => fun
  | [d1, d2, d3, d4] => { results := [.lit (.bool true)], args := [d1, d2, d3, d4] }
  | _ => none }
def latticeInRow : OpenClaim := { program := "ytlmbebbdamgfpaa", sum := "8effc13974de433154a22bf5d5ed6a8d0a380665e2e856980e46c2ac6986b1cd", func := "worldmint/worldmintlaw06.LatticeIn", spec := "latticeIn", unfollowed := true, recurses := true, apart := false }
def LatticeInSaid : Prop := latticeInRow.holds Try.pinned (OpenSpec.ofChange latticeInSpec)

/-- ITS FALSE NEIGHBOUR: 'it returns false'. Refute it at one input. -/
def latticeInWrong : ChangeSpec := { name := "latticeIn", fn := fun _ => fun
  | [d1, d2, d3, d4] => { results := [.lit (.bool false)], args := [d1, d2, d3, d4] }
  | _ => none }
def LatticeInWrongFalsely : Prop := latticeInRow.holds Try.pinned (OpenSpec.ofChange latticeInWrong)

/-- 'worldmintlaw06.LatticeIndependent': WHATEVER THE INPUT: true; the input reads as it did. -/
def latticeIndependentSpec : ChangeSpec := { name := "latticeIndependent", fn := fun _ => fun
  | [d1, d2, d3] => { results := [.lit (.bool true)], args := [d1, d2, d3] }
  | _ => none }
def latticeIndependentRow : OpenClaim := { program := "ytlmbebbdamgfpaa", sum := "8effc13974de433154a22bf5d5ed6a8d0a380665e2e856980e46c2ac6986b1cd", func := "worldmint/worldmintlaw06.LatticeIndependent", spec := "latticeIndependent", unfollowed := true, recurses := true, apart := false }
def LatticeIndependentSaid : Prop := latticeIndependentRow.holds Try.pinned (OpenSpec.ofChange latticeIndependentSpec)

/-- ITS FALSE NEIGHBOUR: 'it returns false'. Refute it at one input. -/
def latticeIndependentWrong : ChangeSpec := { name := "latticeIndependent", fn := fun _ => fun
  | [d1, d2, d3] => { results := [.lit (.bool false)], args := [d1, d2, d3] }
  | _ => none }
def LatticeIndependentWrongFalsely : Prop := latticeIndependentRow.holds Try.pinned (OpenSpec.ofChange latticeIndependentWrong)

/-- 'worldmintlaw06.LatticeMany': WHATEVER THE INPUT: true; the input reads as it did. -/
def latticeManySpec : ChangeSpec := { name := "latticeMany", fn := fun _ => fun
  | [d1, d2, d3] => { results := [.lit (.bool true)], args := [d1, d2, d3] }
  | _ => none }
def latticeManyRow : OpenClaim := { program := "ytlmbebbdamgfpaa", sum := "8effc13974de433154a22bf5d5ed6a8d0a380665e2e856980e46c2ac6986b1cd", func := "worldmint/worldmintlaw06.LatticeMany", spec := "latticeMany", unfollowed := true, recurses := true, apart := false }
def LatticeManySaid : Prop := latticeManyRow.holds Try.pinned (OpenSpec.ofChange latticeManySpec)

/-- ITS FALSE NEIGHBOUR: 'it returns false'. Refute it at one input. -/
def latticeManyWrong : ChangeSpec := { name := "latticeMany", fn := fun _ => fun
  | [d1, d2, d3] => { results := [.lit (.bool false)], args := [d1, d2, d3] }
  | _ => none }
def LatticeManyWrongFalsely : Prop := latticeManyRow.holds Try.pinned (OpenSpec.ofChange latticeManyWrong)

/- THE SECOND FORM. 'bulk': how many values and letters a reading holds, each counted each time it is reached (what is shared counts as often as it is met; a slice's spare places count too). A statement '..UptoSaid' is the law's where the arguments, and the package variables that the reading takes, are together of bulk at most 1048576: NARROWER than '..Said'. Prove '..Said' where nothing that the law and all that it calls make is longer than what came in: it says more and counts as full. Else prove '..UptoSaid'. A law counts once. -/
mutual
def uptoBulk {H : Type} : DataW H → Nat
  | .lit (.string bytes) => bytes.length + 1
  | .lit _ => 1
  | .nil => 1
  | .ptr d => uptoBulk d + 1
  | .slice elems spare => uptoBulkAll elems + uptoBulkAll spare + 1
  | .agg parts => uptoBulkAll parts + 1
  | .iface _ d => uptoBulk d + 1
  | .map entries => uptoBulkEntries entries + 1
  | .held _ => 1
def uptoBulkAll {H : Type} : List (DataW H) → Nat
  | [] => 0
  | d :: r => uptoBulk d + uptoBulkAll r
def uptoBulkEntries {H : Type} : List (Lit × DataW H) → Nat
  | [] => 0
  | x :: r => uptoBulkEntry x + uptoBulkEntries r
def uptoBulkEntry {H : Type} : Lit × DataW H → Nat
  | (.string bytes, d) => bytes.length + uptoBulk d + 1
  | (_, d) => uptoBulk d + 1
 end
def uptoSmall : (H : Type) → List (DataW H) → Bool := fun _ ds => decide (uptoBulkAll ds ≤ 1048576)
def OpenSpec.upto (s : _root_.Go.ChangeSpec) : _root_.Go.OpenSpec := { _root_.Go.OpenSpec.ofChange s with cond := some uptoSmall }

/-- 'worldmintlaw06.LatticeHermite', WHERE WHAT IT READS IS OF BULK AT MOST 1048576: true; the input reads as it did. -/
def latticeHermiteUptoRow : OpenClaim := { program := "ytlmbebbdamgfpaa", sum := "8effc13974de433154a22bf5d5ed6a8d0a380665e2e856980e46c2ac6986b1cd", func := "worldmint/worldmintlaw06.LatticeHermite", spec := "latticeHermite", unfollowed := true, recurses := true, apart := false, narrowed := true }
def LatticeHermiteUptoSaid : Prop := latticeHermiteUptoRow.holds Try.pinned (OpenSpec.upto latticeHermiteSpec)

/-- 'worldmintlaw06.LatticeKernel', WHERE WHAT IT READS IS OF BULK AT MOST 1048576: true; the input reads as it did. -/
def latticeKernelUptoRow : OpenClaim := { program := "ytlmbebbdamgfpaa", sum := "8effc13974de433154a22bf5d5ed6a8d0a380665e2e856980e46c2ac6986b1cd", func := "worldmint/worldmintlaw06.LatticeKernel", spec := "latticeKernel", unfollowed := true, recurses := true, apart := false, narrowed := true }
def LatticeKernelUptoSaid : Prop := latticeKernelUptoRow.holds Try.pinned (OpenSpec.upto latticeKernelSpec)

/-- 'worldmintlaw06.LatticeNormal', WHERE WHAT IT READS IS OF BULK AT MOST 1048576: true; the input reads as it did. -/
def latticeNormalUptoRow : OpenClaim := { program := "ytlmbebbdamgfpaa", sum := "8effc13974de433154a22bf5d5ed6a8d0a380665e2e856980e46c2ac6986b1cd", func := "worldmint/worldmintlaw06.LatticeNormal", spec := "latticeNormal", unfollowed := true, recurses := true, apart := false, narrowed := true }
def LatticeNormalUptoSaid : Prop := latticeNormalUptoRow.holds Try.pinned (OpenSpec.upto latticeNormalSpec)

/-- 'worldmintlaw06.LatticeUnique', WHERE WHAT IT READS IS OF BULK AT MOST 1048576: true; the input reads as it did. -/
def latticeUniqueUptoRow : OpenClaim := { program := "ytlmbebbdamgfpaa", sum := "8effc13974de433154a22bf5d5ed6a8d0a380665e2e856980e46c2ac6986b1cd", func := "worldmint/worldmintlaw06.LatticeUnique", spec := "latticeUnique", unfollowed := true, recurses := true, apart := false, narrowed := true }
def LatticeUniqueUptoSaid : Prop := latticeUniqueUptoRow.holds Try.pinned (OpenSpec.upto latticeUniqueSpec)

/-- 'worldmintlaw06.LatticeAll', WHERE WHAT IT READS IS OF BULK AT MOST 1048576: true; the input reads as it did. -/
def latticeAllUptoRow : OpenClaim := { program := "ytlmbebbdamgfpaa", sum := "8effc13974de433154a22bf5d5ed6a8d0a380665e2e856980e46c2ac6986b1cd", func := "worldmint/worldmintlaw06.LatticeAll", spec := "latticeAll", unfollowed := true, recurses := true, apart := false, narrowed := true }
def LatticeAllUptoSaid : Prop := latticeAllUptoRow.holds Try.pinned (OpenSpec.upto latticeAllSpec)

/-- 'worldmintlaw06.LatticeIn', WHERE WHAT IT READS IS OF BULK AT MOST 1048576: true; the input reads as it did. -/
def latticeInUptoRow : OpenClaim := { program := "ytlmbebbdamgfpaa", sum := "8effc13974de433154a22bf5d5ed6a8d0a380665e2e856980e46c2ac6986b1cd", func := "worldmint/worldmintlaw06.LatticeIn", spec := "latticeIn", unfollowed := true, recurses := true, apart := false, narrowed := true }
def LatticeInUptoSaid : Prop := latticeInUptoRow.holds Try.pinned (OpenSpec.upto latticeInSpec)

/-- 'worldmintlaw06.LatticeIndependent', WHERE WHAT IT READS IS OF BULK AT MOST 1048576: true; the input reads as it did. -/
def latticeIndependentUptoRow : OpenClaim := { program := "ytlmbebbdamgfpaa", sum := "8effc13974de433154a22bf5d5ed6a8d0a380665e2e856980e46c2ac6986b1cd", func := "worldmint/worldmintlaw06.LatticeIndependent", spec := "latticeIndependent", unfollowed := true, recurses := true, apart := false, narrowed := true }
def LatticeIndependentUptoSaid : Prop := latticeIndependentUptoRow.holds Try.pinned (OpenSpec.upto latticeIndependentSpec)

/-- 'worldmintlaw06.LatticeMany', WHERE WHAT IT READS IS OF BULK AT MOST 1048576: true; the input reads as it did. -/
def latticeManyUptoRow : OpenClaim := { program := "ytlmbebbdamgfpaa", sum := "8effc13974de433154a22bf5d5ed6a8d0a380665e2e856980e46c2ac6986b1cd", func := "worldmint/worldmintlaw06.LatticeMany", spec := "latticeMany", unfollowed := true, recurses := true, apart := false, narrowed := true }
def LatticeManyUptoSaid : Prop := latticeManyUptoRow.holds Try.pinned (OpenSpec.upto latticeManySpec)

end Rows
end Go.Proofs.Ytlmbebbdamgfpaa
