/- worldmintref06.IsNormal. -/
import Derived.Test.YtlmbebbdamgfpaaQULIsN
set_option linter.unusedVariables false
set_option linter.unusedSimpArgs false
set_option linter.unusedVariables false
set_option linter.unusedSimpArgs false
namespace Go.Proofs.Ytlmbebbdamgfpaa
open Go.RowKit

/-- what IsNormal answers -/
def RIsNPost (w0 : World) (b : List (List Int)) (n : Nat) (e : Ending) (w' : World) : Prop :=
 Below w0.heap.size w0 w' ∧ ∃ t : Bool, e = .returned (.bool t) ∧ (t = true ↔ IsN b n)
theorem RIsNPost.no {w0 w' : World} {b : List (List Int)} {n : Nat} (h : ¬ IsN b n) (hB : Below w0.heap.size w0 w') : RIsNPost w0 b n (.returned (.bool false)) w' := ⟨hB, false, rfl, by simp [h]⟩

end Go.Proofs.Ytlmbebbdamgfpaa
