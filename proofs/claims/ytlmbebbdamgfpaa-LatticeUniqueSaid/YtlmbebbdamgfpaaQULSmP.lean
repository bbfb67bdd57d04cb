/- Small matrices: their normal forms and kernels fit; what the laws want of them. -/
import Derived.Test.YtlmbebbdamgfpaaQULTimes
set_option linter.unusedVariables false
set_option linter.unusedSimpArgs false
set_option linter.unusedVariables false
set_option linter.unusedSimpArgs false
namespace Go.Proofs.Ytlmbebbdamgfpaa

/-- a matrix of at most 5 rows with small entries -/
structure SmallM (m : List (List Int)) (X : Nat) : Prop where
 rows : m.length ≤ 5
 cols : colsOf m ≤ 5
 even : ∀ r ∈ m, r.length = colsOf m
 ent : ∀ r ∈ m, ∀ x ∈ r, x.natAbs ≤ X
/-- the entries of a normal form of such a matrix -/
def topE : Int := 466560000000
section
variable {m H K : List (List Int)}
theorem SmallM.chk {X : Nat} (h : SmallM m X) (hX : X ≤ 1099511627776) : checkZ m = 0 :=
 checkZ_ok.2 ⟨by have := h.rows; omega, fun r hr => by have := h.even r hr; have := h.cols; omega, h.even, fun r hr x hx => by have := h.ent r hr x hx; omega⟩
theorem vec_mem {r : List Int} {x : Int} (h : x ∈ r) : ∃ j, vec r j = x := by
 obtain ⟨j, hj, rfl⟩ := List.mem_iff_getElem.1 h
 exact ⟨j, vec_at hj⟩
theorem SmallM.herm (h : SmallM m 60) (hs : NormSpec (m.map vec) 0 (H.map vec)) : ∀ r ∈ H, ∀ x ∈ r, -topE ≤ x ∧ x ≤ topE := by
 intro r hr x hx
 obtain ⟨j, rfl⟩ := vec_mem hx
 have := hs.bound (K := 5) (X := 60) h.even h.rows (by omega) (vec_le' h.ent) (vec r) (List.mem_map.2 ⟨r, hr, rfl⟩) j
 have e : 5 * (fac 5 * 60 ^ 5) = 466560000000 := by decide
 rw [e] at this
 unfold topE
 omega
theorem fit_top (h : ∀ r ∈ H, ∀ x ∈ r, -topE ≤ x ∧ x ≤ topE) : ∀ r ∈ H, ∀ x ∈ r, fitZ x := fun r hr x hx => by
 have := h r hr x hx
 unfold topE at this
 constructor <;> omega
theorem cols_of {n : Nat} (h : ∀ r ∈ H, r.length = n) : ∀ r ∈ H, r.length = colsOf H := by
 intro r hr
 unfold colsOf
 cases H with
 | nil => cases hr
 | cons a H => rw [h r hr]; simpa using (h a (by simp)).symm
theorem cols_eq {n : Nat} (h : ∀ r ∈ H, r.length = n) (h0 : 0 < H.length) : colsOf H = n := by
 unfold colsOf
 cases H with
 | nil => simp at h0
 | cons a H => simpa using h a (by simp)
theorem timesL_vec {v : List Int} (hc : ∀ r ∈ m, r.length = colsOf m) (j : Nat) : vec (timesL v m) j = ext_ (vec v) (m.map vec) 0 j := by
 rcases Nat.lt_or_ge j (colsOf m) with hj | hj
 ·rw [vec_at (by rw [timesL_len]; exact hj)]
  simp [timesL, extE]
 ·rw [vec_out (by rw [timesL_len]; exact hj), ker_out hc _ j hj]
theorem times_span {v : List Int} (hc : ∀ r ∈ m, r.length = colsOf m) : InSpan (m.map vec) (vec (timesL v m)) := span_ext.2 ⟨vec v, timesL_vec hc⟩
end
end Go.Proofs.Ytlmbebbdamgfpaa
