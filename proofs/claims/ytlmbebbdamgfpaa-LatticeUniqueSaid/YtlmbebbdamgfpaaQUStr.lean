/- Texts as values: plain Lean. -/
import Derived.Test.YtlmbebbdamgfpaaQUDecimal
import Derived.Test.YtlmbebbdamgfpaaQUMem
set_option linter.unusedVariables false
set_option linter.unusedSimpArgs false
namespace Go.Proofs.Ytlmbebbdamgfpaa
open Go.RowKit

def sv (t : Tx) : Value := .string ⟨t.toArray⟩
end Go.Proofs.Ytlmbebbdamgfpaa
