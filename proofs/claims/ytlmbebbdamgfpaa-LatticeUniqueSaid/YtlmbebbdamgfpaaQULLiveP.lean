/- The examples of the lattice section; plain Lean. -/
import Derived.Test.YtlmbebbdamgfpaaQULInd
set_option linter.unusedVariables false
set_option linter.unusedSimpArgs false
set_option linter.unusedVariables false
set_option linter.unusedSimpArgs false
namespace Go.Proofs.Ytlmbebbdamgfpaa

/-- the column of a row's first entry that is not 0 -/
def pv (r : List Int) : Nat := r.findIdx (fun x => !decide (x = 0))
theorem pv_le (r : List Int) : pv r ≤ r.length := List.findIdx_le_length
theorem pv_low {r : List Int} {c : Nat} (h : c < pv r) : vec r c = 0 := by
 have h1 := List.not_of_lt_findIdx h
 have h2 := pv_le r
 rw [vec_at (by omega)]
 simpa using h1
theorem pv_at {r : List Int} (h : pv r < r.length) : vec r (pv r) ≠ 0 := by
 have := List.findIdx_getElem (w := h)
 rw [vec_at h]
 have h2 : (!decide (r[pv r] = 0)) = true := this
 simpa using h2
theorem pv_eq {r : List Int} {q : Nat} (h : ∀ c, c < q → vec r c = 0) (hq : q < r.length) (hz : vec r q ≠ 0) : pv r = q := by
 rcases Nat.lt_trichotomy (pv r) q with h1 | h1 | h1
 ·exact absurd (h _ h1) (pv_at (by omega))
 ·exact h1
 ·exact absurd (pv_low h1) hz
theorem pv_none {r : List Int} (h : ∀ c, c < r.length → vec r c = 0) : pv r = r.length := by
 rcases Nat.lt_or_ge (pv r) r.length with h1 | h1
 ·exact absurd (h _ h1) (pv_at h1)
 ·have := pv_le r; omega
/-- row i fits the rows before it -/
def IsNi (b : List (List Int)) (n i : Nat) : Prop := ∀ h : i < b.length, b[i].length = n ∧ pv b[i] < n ∧ 0 ≤ vec b[i] (pv b[i]) ∧ (∀ k (hk : k < i), pv (b[k]'(by omega)) < pv b[i]) ∧ ∀ k (hk : k < i), 0 ≤ vec (b[k]'(by omega)) (pv b[i]) ∧ vec (b[k]'(by omega)) (pv b[i]) < vec b[i] (pv b[i])
/-- rows of length n in normal form -/
def IsN (b : List (List Int)) (n : Nat) : Prop := ∀ i, i < b.length → IsNi b n i
theorem IsN.row {b : List (List Int)} {n : Nat} (h : IsN b n) (i : Nat) (hi : i < b.length) : b[i].length = n ∧ pv b[i] < n ∧ 0 < vec b[i] (pv b[i]) := by
 obtain ⟨h1, h2, h3, -, -⟩ := h i hi hi
 have := pv_at (r := b[i]) (by omega)
 exact ⟨h1, h2, by omega⟩
theorem IsN.piv {b : List (List Int)} {n : Nat} (h : IsN b n) (i : Nat) (hi : i < b.length) : IsPiv (vec b[i]) (pv b[i]) :=
 ⟨fun j hj => pv_low hj, pv_at (by have := h.row i hi; omega)⟩
theorem IsN.nrm_ {b : List (List Int)} {n : Nat} (h : IsN b n) : ∀ (k i lo : Nat), i + k = b.length → (∀ hi : i < b.length, lo ≤ pv b[i]) → Nrm lo ((b.drop i).map vec)
 | 0, i, lo, hk, _ => by rw [List.drop_eq_nil_of_le (by omega)]; trivial
 | k + 1, i, lo, hk, hlo => by
  have hi : i < b.length := by omega
  rw [List.drop_eq_getElem_cons hi, List.map_cons]
  refine ⟨pv b[i], hlo hi, h.piv i hi, (h.row i hi).2.2, h.nrm_ k (i + 1) _ (by omega) (fun hi2 => (h (i + 1) hi2 hi2).2.2.2.1 i (by omega)), fun s hs e hp => ?_⟩
  obtain ⟨r, hr, rfl⟩ := List.mem_map.1 hs
  obtain ⟨t, ht, rfl⟩ := List.mem_iff_getElem.1 hr
  rw [List.length_drop] at ht
  rw [List.getElem_drop] at hp ⊢
  obtain rfl := hp.uniq (h.piv (i + 1 + t) (by omega))
  exact (h (i + 1 + t) (by omega) (by omega)).2.2.2.2 i (by omega)
theorem IsN.nrm {b : List (List Int)} {n : Nat} (h : IsN b n) : Nrm 0 (b.map vec) := by simpa using h.nrm_ b.length 0 0 (by omega) (fun _ => Nat.zero_le _)

/-- a vector that is reduced by the first i rows -/
structure RestTo (b : List (List Int)) (n : Nat) (v : List Int) (i : Nat) (rest : List Int) : Prop where
 len : rest.length = n
 iff_ : InSpan (b.map vec) (vec v) ↔ InSpan ((b.drop i).map vec) (vec rest)
theorem RestTo.start {b : List (List Int)} {n : Nat} {v : List Int} (h : v.length = n) : RestTo b n v 0 v := ⟨h, by simp⟩
theorem RestTo.split {b : List (List Int)} {n : Nat} {v rest : List Int} {i : Nat} (hn : IsN b n) (h : RestTo b n v i rest) (hi : i < b.length) :
 InSpan (b.map vec) (vec v) ↔ ∃ x w, InSpan ((b.drop (i + 1)).map vec) w ∧ w (pv b[i]) = 0 ∧ ∀ j, vec rest j = x * vec b[i] j + w j := by
 rw [h.iff_, List.drop_eq_getElem_cons hi, List.map_cons]
 have hlow : ∀ w, InSpan ((b.drop (i + 1)).map vec) w → w (pv b[i]) = 0 := fun w hw =>
  (hn.nrm_ (b.length - (i + 1)) (i + 1) (pv b[i] + 1) (by omega) (fun hi2 => (hn (i + 1) hi2 hi2).2.2.2.1 i (by omega))).low hw _ (by omega)
 constructor
 ·intro hs
  obtain ⟨x, w, h1, h2⟩ := span_cons hs
  exact ⟨x, w, h1, hlow w h1, h2⟩
 ·rintro ⟨x, w, h1, -, h2⟩
  exact (((InSpan.mem (by simp : vec b[i] ∈ vec b[i] :: (b.drop (i + 1)).map vec)).smul x).add (span_more h1)).congr (fun j => by rw [h2])
theorem RestTo.fails {b : List (List Int)} {n : Nat} {v rest : List Int} {i : Nat} (hn : IsN b n) (h : RestTo b n v i rest) (hi : i < b.length) (hr : vec rest (pv b[i]) % vec b[i] (pv b[i]) ≠ 0) : ¬ InSpan (b.map vec) (vec v) := by
 rw [h.split hn hi]
 rintro ⟨x, w, h1, h2, h3⟩
 rw [h3, h2, Int.add_zero, Int.mul_emod_left] at hr
 exact hr rfl
theorem RestTo.step {b : List (List Int)} {n : Nat} {v rest rest' : List Int} {i : Nat} (hn : IsN b n) (h : RestTo b n v i rest) (hi : i < b.length) (hr : vec rest (pv b[i]) % vec b[i] (pv b[i]) = 0) (hl : rest'.length = n)
 (he : ∀ j, vec rest' j = vec rest j - vec rest (pv b[i]) / vec b[i] (pv b[i]) * vec b[i] j) : RestTo b n v (i + 1) rest' := by
 refine ⟨hl, (h.split hn hi).trans ⟨?_, ?_⟩⟩
 ·rintro ⟨x, w, h1, h2, h3⟩
  refine h1.congr (fun j => ?_)
  have hp := (hn.row i hi).2.2
  rw [he, h3 (pv b[i]), h2, Int.add_zero, Int.mul_ediv_cancel _ (by omega), h3 j]
  omega
 ·intro hs
  have hm := Int.emod_add_mul_ediv (vec rest (pv b[i])) (vec b[i] (pv b[i]))
  refine ⟨vec rest (pv b[i]) / vec b[i] (pv b[i]), vec rest', hs, ?_, fun j => by rw [he]; omega⟩
  rw [he]
  rw [Int.mul_comm] at hm
  omega
theorem RestTo.done {b : List (List Int)} {n : Nat} {v rest : List Int} (h : RestTo b n v b.length rest) : InSpan (b.map vec) (vec v) ↔ ∀ x ∈ rest, x = 0 := by
 rw [h.iff_, List.drop_eq_nil_of_le (Nat.le_refl _)]
 constructor
 ·intro hs x hx
  obtain ⟨j, hj, rfl⟩ := List.mem_iff_getElem.1 hx
  have := span_nil hs j
  rwa [vec_at hj] at this
 ·intro h0
  refine InSpan.zero.congr (fun j => ?_)
  rcases Nat.lt_or_ge j rest.length with hj | hj
  ·rw [vec_at hj]; exact (h0 _ (List.getElem_mem hj)).symm
  ·rw [vec_out hj]
/-- what In answers -/
def InB (b : List (List Int)) (v : List Int) : Prop := b.length ≤ 64 ∧ v.length ≤ 128 ∧ IsN b v.length ∧ InSpan (b.map vec) (vec v)
end Go.Proofs.Ytlmbebbdamgfpaa
set_option linter.unusedVariables false
set_option linter.unusedSimpArgs false
namespace Go.Proofs.Ytlmbebbdamgfpaa

theorem isn_ex : IsN [[1, 1], [0, 2]] 2 := by
 intro i hi h
 match i, hi with
 | 0, _ => exact ⟨rfl, by (simp only [List.getElem_cons_zero, List.getElem_cons_succ]; decide), by (simp only [List.getElem_cons_zero, List.getElem_cons_succ]; decide), fun k hk => by omega, fun k hk => by omega⟩
 | 1, _ =>
  refine ⟨rfl, by (simp only [List.getElem_cons_zero, List.getElem_cons_succ]; decide), by (simp only [List.getElem_cons_zero, List.getElem_cons_succ]; decide), fun k hk => ?_, fun k hk => ?_⟩
  ·obtain rfl : k = 0 := by omega
   (simp only [List.getElem_cons_zero, List.getElem_cons_succ]; decide)
  ·obtain rfl : k = 0 := by omega
   (simp only [List.getElem_cons_zero, List.getElem_cons_succ]; decide)
theorem isn_ex3 : IsN [[1, 1, -1], [0, 3, -2]] 3 := by
 intro i hi h
 match i, hi with
 | 0, _ => exact ⟨rfl, by (simp only [List.getElem_cons_zero, List.getElem_cons_succ]; decide), by (simp only [List.getElem_cons_zero, List.getElem_cons_succ]; decide), fun k hk => by omega, fun k hk => by omega⟩
 | 1, _ =>
  refine ⟨rfl, by (simp only [List.getElem_cons_zero, List.getElem_cons_succ]; decide), by (simp only [List.getElem_cons_zero, List.getElem_cons_succ]; decide), fun k hk => ?_, fun k hk => ?_⟩
  ·obtain rfl : k = 0 := by omega
   (simp only [List.getElem_cons_zero, List.getElem_cons_succ]; decide)
  ·obtain rfl : k = 0 := by omega
   (simp only [List.getElem_cons_zero, List.getElem_cons_succ]; decide)
theorem herm_ex : NormSpec ([[2, 4], [3, 5]].map vec) 0 ([[1, 1], [0, 2]].map vec) := by
 have a1 : ∀ r ∈ ([[1, 1], [0, 2]] : List (List Int)).map vec, InSpan ([[2, 4], [3, 5]].map vec) r := by
  intro r hr
  simp only [List.map_cons, List.map_nil, List.mem_cons, List.not_mem_nil, or_false] at hr
  rcases hr with rfl | rfl
  ·exact ⟨[-1, 1], fun j => match j with
    | 0 => rfl
    | 1 => rfl
    | j + 2 => by simp [comb, vec]⟩
  ·exact ⟨[3, -2], fun j => match j with
    | 0 => rfl
    | 1 => rfl
    | j + 2 => by simp [comb, vec]⟩
 have a2 : ∀ r ∈ ([[2, 4], [3, 5]] : List (List Int)).map vec, InSpan ([[1, 1], [0, 2]].map vec) r := by
  intro r hr
  simp only [List.map_cons, List.map_nil, List.mem_cons, List.not_mem_nil, or_false] at hr
  rcases hr with rfl | rfl
  ·exact ⟨[2, 1], fun j => match j with
    | 0 => rfl
    | 1 => rfl
    | j + 2 => by simp [comb, vec]⟩
  ·exact ⟨[3, 1], fun j => match j with
    | 0 => rfl
    | 1 => rfl
    | j + 2 => by simp [comb, vec]⟩
 exact ⟨isn_ex.nrm, fun v => ⟨fun h => ⟨v, h.trans a1, fun j hj => by omega, fun j => by rw [Nat.zero_add]⟩, fun ⟨u, h1, _, h3⟩ => (h1.congr (fun j => by rw [h3, Nat.zero_add])).trans a2⟩⟩
theorem ker_ex : KerSpec [[1], [2], [3]] ([[1, 1, -1], [0, 3, -2]].map vec) := by
 refine ⟨isn_ex3.nrm, fun v => ⟨?_, ?_⟩⟩
 ·rintro h
  obtain ⟨q, hq⟩ := h
  have e : ∃ x y : Int, ∀ j, v j = x * vec [1, 1, -1] j + y * vec [0, 3, -2] j := by
   match q with
   | [] => exact ⟨0, 0, fun j => by rw [hq]; simp [comb]⟩
   | [x] => exact ⟨x, 0, fun j => by rw [hq]; simp [comb]⟩
   | x :: y :: q => exact ⟨x, y, fun j => by rw [hq]; cases q <;> simp [comb]⟩
  obtain ⟨x, y, hv⟩ := e
  refine ⟨fun j hj => ?_, fun j => ?_⟩
  ·rw [hv, vec_out (by simpa using hj), vec_out (by simpa using hj)]; simp
  ·match j with
   | 0 =>
    show v 0 * 1 + (v 1 * 2 + (v 2 * 3 + 0)) = 0
    rw [hv 0, hv 1, hv 2]
    show (x * 1 + y * 0) * 1 + ((x * 1 + y * 3) * 2 + ((x * -1 + y * -2) * 3 + 0)) = 0
    omega
   | j + 1 => simp [ext_, vec]
 ·rintro ⟨h1, h2⟩
  have h0 : v 0 * 1 + (v 1 * 2 + (v 2 * 3 + 0)) = 0 := h2 0
  refine ⟨[v 0, v 1 + v 2], fun j => ?_⟩
  match j with
  | 0 =>
   show v 0 = v 0 * 1 + ((v 1 + v 2) * 0 + 0)
   omega
  | 1 =>
   show v 1 = v 0 * 1 + ((v 1 + v 2) * 3 + 0)
   omega
  | 2 =>
   show v 2 = v 0 * -1 + ((v 1 + v 2) * -2 + 0)
   omega
  | j + 3 =>
   rw [h1 (j + 3) (by simp)]
   simp [comb, vec]
theorem inb_no : ¬ InB [[1, 1], [0, 2]] [3, 4] := by
 rintro ⟨-, -, -, q, hq⟩
 have e : ∃ x y : Int, ∀ j, vec [3, 4] j = x * vec [1, 1] j + y * vec [0, 2] j := by
  match q with
  | [] => exact ⟨0, 0, fun j => by rw [hq]; simp [comb]⟩
  | [x] => exact ⟨x, 0, fun j => by rw [hq]; simp [comb]⟩
  | x :: y :: q => exact ⟨x, y, fun j => by rw [hq]; cases q <;> simp [comb]⟩
 obtain ⟨x, y, hv⟩ := e
 have e0 : (3 : Int) = x * 1 + y * 0 := hv 0
 have e1 : (4 : Int) = x * 1 + y * 2 := hv 1
 omega
theorem inb_yes : InB [[1, 1], [0, 2]] [3, 5] :=
 ⟨by decide, by decide, isn_ex, ⟨[3, 1], fun j => match j with
  | 0 => rfl
  | 1 => rfl
  | j + 2 => by simp [comb, vec]⟩⟩
/-- rows of one length, by what they read as -/
theorem map_vec_inj {n : Nat} : ∀ {A B : List (List Int)}, (∀ r ∈ A, r.length = n) → (∀ r ∈ B, r.length = n) → A.map vec = B.map vec → A = B
 | [], [], _, _, _ => rfl
 | [], b :: B, _, _, h => by simp at h
 | a :: A, [], _, _, h => by simp at h
 | a :: A, b :: B, h1, h2, h => by
  simp only [List.map_cons, List.cons.injEq] at h
  rw [vec_inj (l := a) (l' := b) (by rw [h1 a (by simp), h2 b (by simp)]) (fun j => by rw [h.1]), map_vec_inj (fun r hr => h1 r (by simp [hr])) (fun r hr => h2 r (by simp [hr])) h.2]
end Go.Proofs.Ytlmbebbdamgfpaa
