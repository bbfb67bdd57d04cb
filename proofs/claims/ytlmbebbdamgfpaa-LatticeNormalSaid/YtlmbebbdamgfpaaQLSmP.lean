/- Small matrices: their normal forms and kernels fit; what the laws want of them. -/
import Derived.Test.YtlmbebbdamgfpaaQLTimes
set_option linter.unusedVariables false
set_option linter.unusedSimpArgs false
set_option linter.unusedVariables false
set_option linter.unusedSimpArgs false
namespace Go.Proofs.Ytlmbebbdamgfpaa

/-- a matrix of at most 5 rows with small entries -/
structure SmallM (m : List (List Int)) (X : Nat) : Prop where
 rows : m.length ≤ 5
 cols : colsOf m ≤ 5
 even : ∀ r ∈ m, r.length = colsOf m
 ent : ∀ r ∈ m, ∀ x ∈ r, x.natAbs ≤ X
/-- the entries of a normal form of such a matrix -/
def topE : Int := 466560000000
section
variable {m H K : List (List Int)}
theorem SmallM.chk {X : Nat} (h : SmallM m X) (hX : X ≤ 1099511627776) : checkZ m = 0 :=
 checkZ_ok.2 ⟨by have := h.rows; omega, fun r hr => by have := h.even r hr; have := h.cols; omega, h.even, fun r hr x hx => by have := h.ent r hr x hx; omega⟩
theorem vec_mem {r : List Int} {x : Int} (h : x ∈ r) : ∃ j, vec r j = x := by
 obtain ⟨j, hj, rfl⟩ := List.mem_iff_getElem.1 h
 exact ⟨j, vec_at hj⟩
theorem SmallM.herm (h : SmallM m 60) (hs : NormSpec (m.map vec) 0 (H.map vec)) : ∀ r ∈ H, ∀ x ∈ r, -topE ≤ x ∧ x ≤ topE := by
 intro r hr x hx
 obtain ⟨j, rfl⟩ := vec_mem hx
 have := hs.bound (K := 5) (X := 60) h.even h.rows (by omega) (vec_le' h.ent) (vec r) (List.mem_map.2 ⟨r, hr, rfl⟩) j
 have e : 5 * (fac 5 * 60 ^ 5) = 466560000000 := by decide
 rw [e] at this
 unfold topE
 omega
theorem SmallM.ker (h : SmallM m 60) (hs : KerSpec m (K.map vec)) : ∀ r ∈ K, ∀ x ∈ r, -topE ≤ x ∧ x ≤ topE := by
 intro r hr x hx
 obtain ⟨j, rfl⟩ := vec_mem hx
 have := (hs.norm h.even).bound (K := 5) (X := 60) (kerRows_row h.even) (by rw [kerRows_len]; exact h.rows) (by omega) (kerRows_le (by omega) h.ent) (vec r) (List.mem_map.2 ⟨r, hr, rfl⟩) j
 have e : 5 * (fac 5 * 60 ^ 5) = 466560000000 := by decide
 rw [e] at this
 unfold topE
 omega
theorem fit_top (h : ∀ r ∈ H, ∀ x ∈ r, -topE ≤ x ∧ x ≤ topE) : ∀ r ∈ H, ∀ x ∈ r, fitZ x := fun r hr x hx => by
 have := h r hr x hx
 unfold topE at this
 constructor <;> omega
theorem cols_of {n : Nat} (h : ∀ r ∈ H, r.length = n) : ∀ r ∈ H, r.length = colsOf H := by
 intro r hr
 unfold colsOf
 cases H with
 | nil => cases hr
 | cons a H => rw [h r hr]; simpa using (h a (by simp)).symm
theorem cols_eq {n : Nat} (h : ∀ r ∈ H, r.length = n) (h0 : 0 < H.length) : colsOf H = n := by
 unfold colsOf
 cases H with
 | nil => simp at h0
 | cons a H => simpa using h a (by simp)
theorem top_chk {n : Nat} (hl : H.length ≤ 64) (hn : n ≤ 128) (h : ∀ r ∈ H, r.length = n) (he : ∀ r ∈ H, ∀ x ∈ r, -topE ≤ x ∧ x ≤ topE) : checkZ H = 0 :=
 checkZ_ok.2 ⟨hl, fun r hr => by rw [h r hr]; exact hn, cols_of h, fun r hr x hx => by have := he r hr x hx; unfold topE at this; omega⟩
/-- the normal form of a normal form -/
theorem norm_again {n : Nat} {H2 : List (List Int)} (hn : Nrm 0 (H.map vec)) (h : ∀ r ∈ H, r.length = n) (hs : NormSpec (H.map vec) 0 (H2.map vec)) (h2 : ∀ r ∈ H2, r.length = colsOf H) (hl : H2.length ≤ H.length) : H2 = H := by
 rcases Nat.eq_zero_or_pos H.length with h0 | h0
 ·rw [List.eq_nil_of_length_eq_zero h0, List.eq_nil_of_length_eq_zero (show H2.length = 0 by omega)]
 ·exact map_vec_inj (n := n) (fun r hr => by rw [h2 r hr, cols_eq h h0]) h (hs.uniq (norm_self (nrm_isN h hn)))
theorem timesL_vec {v : List Int} (hc : ∀ r ∈ m, r.length = colsOf m) (j : Nat) : vec (timesL v m) j = ext_ (vec v) (m.map vec) 0 j := by
 rcases Nat.lt_or_ge j (colsOf m) with hj | hj
 ·rw [vec_at (by rw [timesL_len]; exact hj)]
  simp [timesL, extE]
 ·rw [vec_out (by rw [timesL_len]; exact hj), ker_out hc _ j hj]
theorem times_span {v : List Int} (hc : ∀ r ∈ m, r.length = colsOf m) : InSpan (m.map vec) (vec (timesL v m)) := span_ext.2 ⟨vec v, timesL_vec hc⟩
theorem herm_in {n : Nat} {v : List Int} (hl : H.length ≤ 64) (hn : n ≤ 128) (h : ∀ r ∈ H, r.length = n) (hs : NormSpec (m.map vec) 0 (H.map vec)) (hv : v.length = n) (hsp : InSpan (m.map vec) (vec v)) : InB H v :=
 ⟨hl, by omega, by rw [hv]; exact nrm_isN h hs.nrm, (herm_span hs _).2 hsp⟩
/-- what lies in the kernel -/
theorem ker_in {v : List Int} (hm : m.length ≤ 64) (hl : K.length ≤ 64) (hc : ∀ r ∈ m, r.length = colsOf m) (h : ∀ r ∈ K, r.length = m.length) (hs : KerSpec m (K.map vec)) (hv : v.length = m.length) : InB K v ↔ ∀ x ∈ timesL v m, x = 0 := by
 have e : InSpan (K.map vec) (vec v) ↔ ∀ x ∈ timesL v m, x = 0 := by
  rw [hs.span]
  constructor
  ·rintro ⟨-, h2⟩ x hx
   obtain ⟨j, rfl⟩ := vec_mem hx
   rw [timesL_vec hc, h2]
  ·intro h0
   refine ⟨fun j hj => vec_out (by omega), fun j => ?_⟩
   rw [← timesL_vec hc]
   rcases Nat.lt_or_ge j (timesL v m).length with hj | hj
   ·rw [vec_at hj]; exact h0 _ (List.getElem_mem _)
   ·exact vec_out hj
 exact ⟨fun h1 => e.1 h1.2.2.2, fun h1 => ⟨hl, by omega, by rw [hv]; exact nrm_isN h hs.nrm, e.2 h1⟩⟩
theorem ext_smul (a : Int) (u u' : Vec) (j : Nat) (h : ∀ t, u' t = a * u t) : ∀ (M : List Vec) (s : Nat), ext_ u' M s j = a * ext_ u M s j
 | [], s => by simp [ext_]
 | r :: M, s => by
  simp only [ext_]
  rw [ext_smul a u u' j h M (s + 1), h s, Int.mul_add, Int.mul_assoc]
/-- a multiple of a vector -/
theorem times_mul {v w : List Int} {a : Int} (ha : a ≠ 0) (hc : ∀ r ∈ m, r.length = colsOf m) (hw : ∀ t, vec w t = a * vec v t) : (∀ x ∈ timesL w m, x = 0) ↔ ∀ x ∈ timesL v m, x = 0 := by
 have key : ∀ j, vec (timesL w m) j = a * vec (timesL v m) j := fun j => by
  rw [timesL_vec hc, timesL_vec hc]
  exact ext_smul a (vec v) (vec w) j hw _ 0
 have z : ∀ u : List Int, (∀ x ∈ u, x = 0) ↔ ∀ j, vec u j = 0 := fun u => by
  constructor
  ·intro h j
   rcases Nat.lt_or_ge j u.length with hj | hj
   ·rw [vec_at hj]; exact h _ (List.getElem_mem _)
   ·exact vec_out hj
  ·intro h x hx
   obtain ⟨j, rfl⟩ := vec_mem hx
   exact h j
 rw [z, z]
 constructor
 ·intro h j
  have := key j
  rw [h j] at this
  exact (Int.mul_eq_zero.1 this.symm).resolve_left ha
 ·intro h j
  rw [key j, h j, Int.mul_zero]
end
end Go.Proofs.Ytlmbebbdamgfpaa
