/- worldmintlaw06.LatticeNormal. -/
import Derived.Test.YtlmbebbdamgfpaaQULMatr
import Derived.Test.YtlmbebbdamgfpaaQULRIsN
import Derived.Test.YtlmbebbdamgfpaaQULVect
import Derived.Test.YtlmbebbdamgfpaaQULSmP
set_option linter.unusedVariables false
set_option linter.unusedSimpArgs false
set_option linter.unusedVariables false
set_option linter.unusedSimpArgs false
namespace Go.Proofs.Ytlmbebbdamgfpaa
open Go.RowKit

theorem MatSpec.small {m : List (List Int)} (h : MatSpec m 20) : SmallM m 60 := by
 obtain ⟨c, hc, hr⟩ := h.cols
 refine ⟨h.rows, ?_, fun r hrm => cols_of hr r hrm, fun r hrm x hx => by have := h.ent r hrm x hx; omega⟩
 rcases Nat.eq_zero_or_pos m.length with h0 | h0
 ·rw [List.eq_nil_of_length_eq_zero h0]; exact Nat.zero_le _
 ·rw [cols_eq hr h0]; exact hc
theorem SmallM.fit {m : List (List Int)} {X : Nat} (h : SmallM m X) (hX : X ≤ 1099511627776) : ∀ r ∈ m, ∀ x ∈ r, -9223372036854775808 ≤ x ∧ x ≤ 9223372036854775807 := fun r hr x hx => by
 have := h.ent r hr x hx
 omega
theorem SmallM.times_le {m : List (List Int)} {v : List Int} (h : SmallM m 60) (hv : ∀ x ∈ v, -3 ≤ x ∧ x ≤ 3) : ∀ x ∈ timesL v m, -900 ≤ x ∧ x ≤ 900 := by
 intro x hx
 obtain ⟨j, hj, rfl⟩ := List.mem_iff_getElem.1 hx
 have h1 := extE_leV (V := 3) (fun x hx => by have := hv x hx; omega) h.ent m.length j (Nat.le_refl _)
 have h2 : m.length * (3 * 60) ≤ 5 * (3 * 60) := Nat.mul_le_mul_right _ h.rows
 have e : (timesL v m)[j] = extE v m m.length j := by simp [timesL]
 rw [e]
 omega

end Go.Proofs.Ytlmbebbdamgfpaa
