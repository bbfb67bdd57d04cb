/- bezout's law; rows as lists; an insertion place by place; plain Lean. -/

set_option linter.unusedVariables false
set_option linter.unusedSimpArgs false
/- Determinants by columns, over lists of rows; combinations; plain Lean. -/
namespace Go.Proofs.Ytlmbebbdamgfpaa

abbrev Vec := Nat → Int
/-- a row is taken out, times its entry in a column, with alternating signs -/
def xpd (c : Nat) : (List Vec → Int) → List Vec → Int
 | _, [] => 0
 | f, r :: rs => r c * f rs - xpd c (fun l => f (r :: l)) rs
def det : List Nat → List Vec → Int
 | [], _ => 1
 | c :: cs, R => xpd c (det cs) R

theorem xpd_sub (c : Nat) : ∀ (R : List Vec) (f g : List Vec → Int), xpd c (fun l => f l - g l) R = xpd c f R - xpd c g R
 | [], f, g => by simp [xpd]
 | r :: rs, f, g => by
  simp only [xpd]
  rw [xpd_sub c rs (fun l => f (r :: l)) (fun l => g (r :: l)), Int.mul_sub]
  omega
theorem xpd_mul (c : Nat) (a : Int) : ∀ (R : List Vec) (f : List Vec → Int), xpd c (fun l => a * f l) R = a * xpd c f R
 | [], f => by simp [xpd]
 | r :: rs, f => by
  simp only [xpd]
  rw [xpd_mul c a rs (fun l => f (r :: l)), Int.mul_sub, ← Int.mul_assoc, ← Int.mul_assoc, Int.mul_comm (r c) a]
theorem xpd_comm (a b : Nat) : ∀ (R : List Vec) (f : List Vec → Int), xpd a (fun l => xpd b f l) R = -xpd b (fun l => xpd a f l) R
 | [], f => by simp [xpd]
 | r :: rs, f => by
  simp only [xpd]
  rw [xpd_sub a rs, xpd_sub b rs, xpd_mul, xpd_mul, xpd_comm a b rs (fun l => f (r :: l))]
  show _ = -(r b * xpd a (fun l => f l) rs - (r a * xpd b f rs - xpd b (fun l => xpd a (fun l => f (r :: l)) l) rs))
  have e1 : xpd a (fun l => f l) rs = xpd a f rs := rfl
  have e2 : xpd b (fun l => f l) rs = xpd b f rs := rfl
  rw [e1]
  omega
theorem det_swap (a b : Nat) (cs : List Nat) (R : List Vec) : det (a :: b :: cs) R = -det (b :: a :: cs) R := xpd_comm a b R (det cs)
theorem det_same (a : Nat) (cs : List Nat) (R : List Vec) : det (a :: a :: cs) R = 0 := by
 have := det_swap a a cs R
 omega
theorem det_scale {s : Int} {l1 l2 : List Nat} (x : Nat) (R : List Vec) (h : ∀ R, det l1 R = s * det l2 R) : det (x :: l1) R = s * det (x :: l2) R := by
 show xpd x (det l1) R = s * xpd x (det l2) R
 rw [← xpd_mul, show det l1 = fun l => s * det l2 l from funext h]
theorem det_zero (c : Nat) : ∀ (cs : List Nat), c ∈ cs → ∀ R, det (c :: cs) R = 0
 | [], h, _ => by simp at h
 | b :: cs, h, R => by
  by_cases hb : c = b
  ·subst hb; exact det_same _ _ _
  ·have hc : c ∈ cs := by simpa [hb] using h
   rw [det_swap, det_scale (s := 0) (l2 := []) b R (fun R => by rw [det_zero c cs hc R, Int.zero_mul]), Int.zero_mul]
   rfl
/-- a column comes to the front -/
theorem det_front (c : Nat) : ∀ (cs : List Nat), c ∈ cs → ∃ s : Int, (s = 1 ∨ s = -1) ∧ ∀ R, det cs R = s * det (c :: cs.erase c) R
 | [], h => by simp at h
 | b :: cs, h => by
  by_cases hb : b = c
  ·subst hb
   exact ⟨1, .inl rfl, fun R => by rw [List.erase_cons_head, Int.one_mul]⟩
  ·have hc : c ∈ cs := by rcases List.mem_cons.1 h with h | h; exact absurd h.symm hb; exact h
   obtain ⟨s, hs, h2⟩ := det_front c cs hc
   refine ⟨-s, by omega, fun R => ?_⟩
   rw [det_scale b R h2, det_swap, List.erase_cons_tail (by simpa using hb), Int.neg_mul, Int.mul_neg]

/-- linear combinations -/
def comb : List Int → List Vec → Vec
 | q :: qs, r :: rs => fun j => q * r j + comb qs rs j
 | _, _ => fun _ => 0
def xco : (List Vec → Int) → List Vec → List Int
 | _, [] => []
 | f, r :: rs => f rs :: (xco (fun l => f (r :: l)) rs).map (fun x => -x)
theorem comb_neg : ∀ (q : List Int) (R : List Vec) (j : Nat), comb (q.map (fun x => -x)) R j = -comb q R j
 | [], R, j => by cases R <;> simp [comb]
 | x :: q, [], j => by simp [comb]
 | x :: q, r :: R, j => by simp only [List.map_cons, comb, comb_neg q R j, Int.neg_mul]; omega
theorem xpd_comb (c : Nat) : ∀ (R : List Vec) (f : List Vec → Int), xpd c f R = comb (xco f R) R c
 | [], f => by simp [xpd, comb, xco]
 | r :: rs, f => by
  simp only [xpd, xco, comb, comb_neg]
  rw [xpd_comb c rs, Int.mul_comm]
  omega
theorem det_comb (c : Nat) (cs : List Nat) (R : List Vec) : det (c :: cs) R = comb (xco (det cs) R) R c := xpd_comb c R _

/-- the span over the integers -/
def InSpan (A : List Vec) (v : Vec) : Prop := ∃ q : List Int, ∀ j, v j = comb q A j
theorem comb_add : ∀ (p q : List Int) (R : List Vec), ∃ s : List Int, ∀ j, comb p R j + comb q R j = comb s R j
 | [], q, R => ⟨q, fun j => by cases R <;> simp [comb]⟩
 | p, [], R => ⟨p, fun j => by cases R <;> simp [comb]⟩
 | x :: p, y :: q, [] => ⟨[], fun j => by simp [comb]⟩
 | x :: p, y :: q, r :: R => by
  obtain ⟨s, hs⟩ := comb_add p q R
  refine ⟨(x + y) :: s, fun j => ?_⟩
  simp only [comb, ← hs j, Int.add_mul]
  omega
theorem comb_smul (a : Int) : ∀ (q : List Int) (R : List Vec) (j : Nat), comb (q.map (fun x => a * x)) R j = a * comb q R j
 | [], R, j => by cases R <;> simp [comb]
 | x :: q, [], j => by simp [comb]
 | x :: q, r :: R, j => by simp only [List.map_cons, comb, comb_smul a q R j, Int.mul_add, Int.mul_assoc]
section
variable {A : List Vec} {v w : Vec}
theorem InSpan.zero : InSpan A (fun _ => 0) := ⟨[], fun j => by cases A <;> simp [comb]⟩
theorem InSpan.add (h : InSpan A v) (h2 : InSpan A w) : InSpan A (fun j => v j + w j) := by
 obtain ⟨p, hp⟩ := h
 obtain ⟨q, hq⟩ := h2
 obtain ⟨s, hs⟩ := comb_add p q A
 exact ⟨s, fun j => by show v j + w j = _; rw [hp, hq, hs]⟩
theorem InSpan.smul (a : Int) (h : InSpan A v) : InSpan A (fun j => a * v j) := by
 obtain ⟨p, hp⟩ := h
 exact ⟨p.map (fun x => a * x), fun j => by show a * v j = _; rw [comb_smul, hp]⟩
theorem InSpan.congr (h : InSpan A v) (he : ∀ j, v j = w j) : InSpan A w := by
 obtain ⟨p, hp⟩ := h
 exact ⟨p, fun j => by rw [← he, hp]⟩
theorem InSpan.sub (h : InSpan A v) (h2 : InSpan A w) : InSpan A (fun j => v j - w j) := (h.add (h2.smul (-1))).congr (fun j => by omega)
theorem InSpan.mem : ∀ {A : List Vec} {v : Vec}, v ∈ A → InSpan A v
 | [], v, h => by simp at h
 | a :: A, v, h => by
  rcases List.mem_cons.1 h with rfl | h
  ·exact ⟨[1], fun j => by cases A <;> simp [comb]⟩
  ·obtain ⟨q, hq⟩ := InSpan.mem h
   exact ⟨0 :: q, fun j => by simp [comb, hq]⟩
/-- combinations of elements of a span -/
theorem InSpan.comb : ∀ (q : List Int) (R : List Vec), (∀ r ∈ R, InSpan A r) → InSpan A (comb q R)
 | [], R, _ => InSpan.zero.congr (fun j => by cases R <;> simp [Go.Proofs.Ytlmbebbdamgfpaa.comb])
 | x :: q, [], _ => InSpan.zero.congr (fun j => by simp [Go.Proofs.Ytlmbebbdamgfpaa.comb])
 | x :: q, r :: R, h => ((h r (by simp)).smul x |>.add (InSpan.comb q R (fun r hr => h r (by simp [hr])))).congr (fun j => by simp [Go.Proofs.Ytlmbebbdamgfpaa.comb])
theorem InSpan.trans {B : List Vec} (h : InSpan A v) (hB : ∀ r ∈ A, InSpan B r) : InSpan B v := by
 obtain ⟨q, hq⟩ := h
 exact (InSpan.comb q A hB).congr (fun j => (hq j).symm)
/-- what holds of the rows, and is linear, holds of the span -/
theorem InSpan.lin {P : Vec → Prop} (h : InSpan A v) (h0 : P (fun _ => 0)) (ha : ∀ (x : Int) (u w : Vec), P u → P w → P (fun j => x * u j + w j)) (hc : ∀ u w : Vec, (∀ j, u j = w j) → P u → P w) (hA : ∀ r ∈ A, P r) : P v := by
 obtain ⟨q, hq⟩ := h
 have key : ∀ (q : List Int) (R : List Vec), (∀ r ∈ R, P r) → P (Go.Proofs.Ytlmbebbdamgfpaa.comb q R) := by
  intro q
  induction q with
  | nil => intro R _; exact hc _ _ (fun j => by cases R <;> simp [Go.Proofs.Ytlmbebbdamgfpaa.comb]) h0
  | cons x q ih =>
   intro R hR
   cases R with
   | nil => exact hc _ _ (fun j => by simp [Go.Proofs.Ytlmbebbdamgfpaa.comb]) h0
   | cons r R => exact hc _ _ (fun j => by simp [Go.Proofs.Ytlmbebbdamgfpaa.comb]) (ha x r _ (hR r (by simp)) (ih R (fun r hr => hR r (by simp [hr]))))
 exact hc _ _ (fun j => (hq j).symm) (key q A hA)
end

/-- bounds -/
theorem xpd_le (c : Nat) (M F : Nat) : ∀ (R : List Vec) (f : List Vec → Int), (∀ r ∈ R, (r c).natAbs ≤ M) → (∀ l, (∀ r ∈ l, r ∈ R) → l.length < R.length → (f l).natAbs ≤ F) → (xpd c f R).natAbs ≤ R.length * (M * F)
 | [], f, _, _ => by simp [xpd]
 | r :: rs, f, h1, h2 => by
  have h3 := xpd_le c M F rs (fun l => f (r :: l)) (fun a ha => h1 a (by simp [ha])) (fun l hl hlen => h2 (r :: l) (fun a ha => by
   rcases List.mem_cons.1 ha with rfl | ha
   ·simp
   ·exact List.mem_cons_of_mem _ (hl a ha)) (by simp; omega))
  have h4 := h1 r (by simp)
  have h5 := h2 rs (fun a ha => by simp [ha]) (by simp)
  have h6 : (r c * f rs).natAbs ≤ M * F := by rw [Int.natAbs_mul]; exact Nat.mul_le_mul h4 h5
  simp only [xpd, List.length_cons, Nat.succ_mul]
  omega
theorem det_le (M K : Nat) : ∀ (cs : List Nat) (R : List Vec), R.length ≤ K → (∀ r ∈ R, ∀ j, (r j).natAbs ≤ M) → (det cs R).natAbs ≤ (K * M) ^ cs.length
 | [], R, _, _ => by simp [det]
 | c :: cs, R, hK, hM => by
  have := xpd_le c M ((K * M) ^ cs.length) R (det cs) (fun r hr => hM r hr c) (fun l hl hlen => det_le M K cs l (by omega) (fun r hr => hM r (hl r hr)))
  rw [List.length_cons, Nat.pow_succ, Nat.mul_comm _ (K * M), Nat.mul_assoc]
  exact Nat.le_trans this (Nat.mul_le_mul_right _ hK)
end Go.Proofs.Ytlmbebbdamgfpaa
namespace Go.Proofs.Ytlmbebbdamgfpaa

/-- the combination of rows with given entries in columns -/
def fit : List Nat → List Vec → Vec → Vec
 | c :: cs, r :: rs, y => fun j => y c * r j + fit cs rs y j
 | _, _, _ => fun _ => 0
theorem fit_lin (x : Int) : ∀ (cs : List Nat) (M : List Vec) (u w : Vec) (j : Nat), fit cs M (fun j => x * u j + w j) j = x * fit cs M u j + fit cs M w j
 | [], M, u, w, j => by cases M <;> simp [fit]
 | c :: cs, [], u, w, j => by simp [fit]
 | c :: cs, r :: M, u, w, j => by
  simp only [fit, fit_lin x cs M u w j, Int.mul_add, Int.add_mul, Int.mul_assoc]
  omega
theorem fit_nil (M : List Vec) (u : Vec) (j : Nat) : fit [] M u j = 0 := by cases M <;> simp [fit]
theorem fit_zero : ∀ (cs : List Nat) (M : List Vec) (u : Vec) (j : Nat), (∀ c ∈ cs, u c = 0) → fit cs M u j = 0
 | [], M, u, j, _ => fit_nil M u j
 | c :: cs, [], u, j, _ => by simp [fit]
 | c :: cs, r :: M, u, j, h => by simp [fit, h c (by simp), fit_zero cs M u j (fun c hc => h c (by simp [hc]))]
theorem fit_congr : ∀ (cs : List Nat) (M : List Vec) (u w : Vec) (j : Nat), (∀ c ∈ cs, u c = w c) → fit cs M u j = fit cs M w j
 | [], M, u, w, j, _ => by rw [fit_nil, fit_nil]
 | c :: cs, [], u, w, j, _ => by simp [fit]
 | c :: cs, r :: M, u, w, j, h => by simp [fit, h c (by simp), fit_congr cs M u w j (fun c hc => h c (by simp [hc]))]
theorem fit_snoc : ∀ (cs : List Nat) (M : List Vec) (c : Nat) (r : Vec) (u : Vec) (j : Nat), cs.length = M.length → fit (cs ++ [c]) (M ++ [r]) u j = fit cs M u j + u c * r j
 | [], [], c, r, u, j, _ => by simp [fit]
 | c' :: cs, r' :: M, c, r, u, j, h => by simp only [List.cons_append, fit, fit_snoc cs M c r u j (by simpa using h)]; omega
 | [], _ :: _, _, _, _, _, h => by simp at h
 | _ :: _, [], _, _, _, _, h => by simp at h
/-- at one pivot alone -/
theorem fit_one (d : Int) : ∀ (cs : List Nat) (M : List Vec) (u : Vec) (j t : Nat) (_ : cs.length = M.length) (ht : t < cs.length), (∀ s (h : s < cs.length), u cs[s] = if s = t then d else 0) → fit cs M u j = d * (M[t]'(by omega)) j
 | c :: cs, r :: M, u, j, 0, hl, ht, h => by
  have h0 := h 0 (by simp)
  simp only [List.getElem_cons_zero, if_true] at h0
  have h1 : fit cs M u j = 0 := fit_zero cs M u j (fun c hc => by
   obtain ⟨s, hs, rfl⟩ := List.mem_iff_getElem.1 hc
   have := h (s + 1) (by simpa using hs)
   simpa using this)
  simp [fit, h0, h1]
 | c :: cs, r :: M, u, j, t + 1, hl, ht, h => by
  have h0 := h 0 (by simp)
  simp only [List.getElem_cons_zero] at h0
  rw [if_neg (by omega)] at h0
  have h1 := fit_one d cs M u j t (by simpa using hl) (by simpa using ht) (fun s hs => by
   have := h (s + 1) (by simpa using hs)
   simpa using this)
  simp [fit, h0, h1]
 | c :: cs, [], _, _, _, hl, _, _ => by simp at hl
 | [], _, _, _, _, _, ht, _ => by simp at ht

/-- an entry is a minor, up to its sign -/
def Minor (A : List Vec) (v : Vec) : Prop := ∃ (s : Int) (C : List Nat) (R : List Vec), (s = 1 ∨ s = -1) ∧ C.length < A.length ∧ R.length ≤ A.length ∧ (∀ r ∈ R, r ∈ A) ∧ ∀ j, v j = s * det (j :: C) R
theorem Minor.span {A : List Vec} {v : Vec} (h : Minor A v) : InSpan A v := by
 obtain ⟨s, C, R, _, _, _, hR, hv⟩ := h
 refine ((InSpan.comb (xco (det C) R) R (fun r hr => InSpan.mem (hR r hr))).smul s).congr (fun j => ?_)
 rw [hv, det_comb]
theorem Minor.le {A : List Vec} {v : Vec} (h : Minor A v) (M K : Nat) (hK : A.length ≤ K) (hM1 : 1 ≤ M) (hM : ∀ r ∈ A, ∀ j, (r j).natAbs ≤ M) (j : Nat) : (v j).natAbs ≤ (K * M) ^ K := by
 obtain ⟨s, C, R, hs, hC, hR, hRA, hv⟩ := h
 have h1 := det_le M K (j :: C) R (by omega) (fun r hr => hM r (hRA r hr))
 have h2 : (K * M) ^ (j :: C).length ≤ (K * M) ^ K := Nat.pow_le_pow_right (Nat.mul_pos (by omega) hM1) (by simp; omega)
 rw [hv, Int.natAbs_mul]
 have : s.natAbs = 1 := by rcases hs with rfl | rfl <;> rfl
 rw [this]
 omega
theorem Minor.perm {A B : List Vec} {v : Vec} (h : Minor A v) (hl : A.length = B.length) (hm : ∀ r ∈ A, r ∈ B) : Minor B v := by
 obtain ⟨s, C, R, hs, hC, hR, hRA, hv⟩ := h
 exact ⟨s, C, R, hs, by omega, by omega, fun r hr => hm r (hRA r hr), hv⟩

/-- the state of the elimination: the rows A (in the order that the exchanges have left), what they have become, the pivots so far, the denominator; the columns before col are done -/
structure Elim (A M : List Vec) (ps : List Nat) (d : Int) (col : Nat) : Prop where
 len : M.length = A.length
 le : ps.length ≤ A.length
 d0 : d ≠ 0
 d1 : d = det ps.reverse (A.take ps.length).reverse
 low : ∀ i (h : i < M.length) (h' : i < A.length), ps.length ≤ i → ∀ j, M[i] j = det (j :: ps.reverse) (A[i] :: (A.take ps.length).reverse)
 inv : ∀ i (h : i < M.length) (h' : i < A.length) (j : Nat), d * A[i] j = fit ps (M.take ps.length) A[i] j + if ps.length ≤ i then M[i] j else 0
 diag : ∀ s t (h : s < M.length) (_ : s < ps.length) (h' : t < ps.length), M[s] ps[t] = if s = t then d else 0
 zero : ∀ i (h : i < M.length), ps.length ≤ i → ∀ j, j < col → M[i] j = 0
 left : ∀ s (h : s < M.length) (h' : s < ps.length), ∀ j, j < ps[s] → M[s] j = 0
 sorted : ps.Pairwise (· < ·)
 lt : ∀ c ∈ ps, c < col
 minor : ∀ r ∈ M, Minor A r

theorem Elim.start (A : List Vec) : Elim A A [] 1 0 where
 len := rfl
 le := by simp
 d0 := by omega
 d1 := rfl
 low := fun i h h' _ j => by simp [det, xpd]
 inv := fun i h h' j => by simp [fit_nil]
 diag := fun s t _ h _ => by simp at h
 zero := fun _ _ _ j h => by omega
 left := fun s _ h => by simp at h
 sorted := List.Pairwise.nil
 lt := by simp
 minor := fun r hr => ⟨1, [], [r], .inl rfl, by have := List.length_pos_of_mem hr; simp; omega, by have := List.length_pos_of_mem hr; simp; omega, by simpa using hr, fun j => by simp [det, xpd]⟩

/-- a column in which the lower rows have nothing -/
theorem Elim.skip {A M : List Vec} {ps : List Nat} {d : Int} {col : Nat} (h : Elim A M ps d col) (h0 : ∀ i (h : i < M.length), ps.length ≤ i → M[i] col = 0) : Elim A M ps d (col + 1) :=
 { h with
  zero := fun i hi hk j hj => by
   rcases Nat.lt_or_ge j col with h1 | h1
   ·exact h.zero i hi hk j h1
   ·obtain rfl : j = col := by omega
    exact h0 i hi hk
  lt := fun c hc => by have := h.lt c hc; omega }

def swapL {α : Type} (l : List α) (a b : Nat) (ha : a < l.length) (hb : b < l.length) : List α := (l.set a l[b]).set b l[a]
section
variable {α : Type} {l : List α} {a b : Nat} {ha : a < l.length} {hb : b < l.length}
theorem swapL_len : (swapL l a b ha hb).length = l.length := by simp [swapL]
theorem swapL_at (i : Nat) (hi : i < l.length) : (swapL l a b ha hb)[i]'(by rw [swapL_len]; exact hi) = if i = b then l[a] else if i = a then l[b] else l[i] := by
 unfold swapL
 rw [List.getElem_set]
 by_cases h : b = i
 ·rw [if_pos h, if_pos h.symm]
 ·rw [if_neg h, if_neg (Ne.symm h), List.getElem_set]
  by_cases h2 : a = i
  ·rw [if_pos h2, if_pos h2.symm]
  ·rw [if_neg h2, if_neg (Ne.symm h2)]
theorem swapL_take (k : Nat) (h1 : k ≤ a) (h2 : k ≤ b) : (swapL l a b ha hb).take k = l.take k := by
 apply List.ext_getElem
 ·simp [swapL_len]
 ·intro i hi hi'
  have : i < k := by simp at hi'; omega
  rw [List.getElem_take, List.getElem_take, swapL_at i (by simp at hi'; omega), if_neg (by omega), if_neg (by omega)]
theorem swapL_mem (x : α) (h : x ∈ swapL l a b ha hb) : x ∈ l := by
 obtain ⟨i, hi, rfl⟩ := List.mem_iff_getElem.1 h
 rw [swapL_at i (by rw [swapL_len] at hi; exact hi)]
 split
 ·exact List.getElem_mem _
 ·split <;> exact List.getElem_mem _
theorem swapL_mem' (x : α) (h : x ∈ l) : x ∈ swapL l a b ha hb := by
 obtain ⟨i, hi, rfl⟩ := List.mem_iff_getElem.1 h
 by_cases h1 : i = a
 ·subst h1
  have := List.getElem_mem (l := swapL l i b ha hb) (n := b) (by rw [swapL_len]; exact hb)
  rwa [swapL_at b hb, if_pos rfl] at this
 ·by_cases h2 : i = b
  ·subst h2
   have := List.getElem_mem (l := swapL l a i ha hb) (n := a) (by rw [swapL_len]; exact ha)
   rw [swapL_at a ha] at this
   by_cases h3 : a = i
   ·exact absurd h3.symm h1
   ·rwa [if_neg h3, if_pos rfl] at this
  ·have := List.getElem_mem (l := swapL l a b ha hb) (n := i) (by rw [swapL_len]; exact hi)
   rwa [swapL_at i hi, if_neg h2, if_neg h1] at this
end

/-- two lower rows are exchanged -/
theorem Elim.swap {A M : List Vec} {ps : List Nat} {d : Int} {col : Nat} (h : Elim A M ps d col) (a b : Nat) (ha : a < M.length) (hb : b < M.length) (h1 : ps.length ≤ a) (h2 : ps.length ≤ b) :
 Elim (swapL A a b (by rw [← h.len]; exact ha) (by rw [← h.len]; exact hb)) (swapL M a b ha hb) ps d col where
 len := by rw [swapL_len, swapL_len, h.len]
 le := by rw [swapL_len]; exact h.le
 d0 := h.d0
 d1 := by rw [swapL_take _ h1 h2]; exact h.d1
 low := fun i hi hi' hk j => by
  rw [swapL_len] at hi hi'
  rw [swapL_take _ h1 h2, swapL_at i hi, swapL_at i hi']
  split
  ·exact h.low a _ _ h1 j
  ·split
   ·exact h.low b _ _ h2 j
   ·exact h.low i _ _ hk j
 inv := fun i hi hi' j => by
  rw [swapL_len] at hi hi'
  rw [swapL_take _ h1 h2, swapL_at i hi, swapL_at i hi']
  by_cases e1 : i = b
  ·subst e1
   have := h.inv a ha (by rw [← h.len]; exact ha) j
   rw [if_pos h1] at this
   simpa [h2] using this
  ·by_cases e2 : i = a
   ·subst e2
    have := h.inv b hb (by rw [← h.len]; exact hb) j
    rw [if_pos h2] at this
    simpa [h1, e1] using this
   ·have := h.inv i hi hi' j
    simpa [e1, e2] using this
 diag := fun s t hs hk hs' => by
  rw [swapL_len] at hs
  rw [swapL_at s hs, if_neg (by omega), if_neg (by omega)]
  exact h.diag s t hs hk hs'
 zero := fun i hi hk j hj => by
  rw [swapL_len] at hi
  rw [swapL_at i hi]
  split
  ·exact h.zero a _ h1 j hj
  ·split
   ·exact h.zero b _ h2 j hj
   ·exact h.zero i hi hk j hj
 left := fun s hs hk j hj => by
  rw [swapL_len] at hs
  rw [swapL_at s hs, if_neg (by omega), if_neg (by omega)]
  exact h.left s hs hk j hj
 sorted := h.sorted
 lt := h.lt
 minor := fun r hr => (h.minor r (swapL_mem r hr)).perm (by rw [swapL_len]) (fun r hr => swapL_mem' r hr)

theorem fit_step {d head : Int} {p : Vec} {col : Nat} (u : Vec) (j : Nat) : ∀ (ps : List Nat) (L L' : List Vec), L.length = L'.length → (∀ t (h : t < L.length) (h' : t < L'.length) (j : Nat), d * L'[t] j = head * L[t] j - L[t] col * p j) → d * fit ps L' u j = head * fit ps L u j - fit ps L u col * p j
 | [], L, L', _, _ => by simp [fit_nil]
 | c :: ps, [], [], _, _ => by simp [fit]
 | c :: ps, r :: L, r' :: L', hl, h => by
  have h0 := h 0 (by simp) (by simp) j
  have ih := fit_step u j ps L L' (by simpa using hl) (fun t h1 h2 j => by
   have := h (t + 1) (by simpa using h1) (by simpa using h2) j
   simpa using this)
  simp only [List.getElem_cons_zero] at h0
  simp only [fit]
  grind
 | _ :: _, [], _ :: _, hl, _ => by simp at hl
 | _ :: _, _ :: _, [], hl, _ => by simp at hl

section
variable {A M : List Vec} {ps : List Nat} {d : Int} {col : Nat}
theorem Elim.rel (h : Elim A M ps d col) (q : List Int) (j : Nat) : ∀ (R : List Vec), (∀ r ∈ R, r ∈ A.take ps.length) → d * comb q R j = fit ps (M.take ps.length) (comb q R) j := by
 induction q with
 | nil => intro R _; cases R <;> simp [comb, fit_zero]
 | cons x q ih =>
  intro R hR
  cases R with
  | nil => simp [comb, fit_zero]
  | cons r R =>
   have h1 := ih R (fun r hr => hR r (by simp [hr]))
   obtain ⟨t, ht, hr⟩ := List.mem_iff_getElem.1 (hR r (by simp))
   rw [List.length_take] at ht
   rw [List.getElem_take] at hr
   have h2 := h.inv t (by have := h.len; omega) (by omega) j
   rw [if_neg (by omega), hr] at h2
   simp only [comb]
   rw [fit_lin, ← h1, Int.mul_add, show d * (x * r j) = x * (d * r j) by grind, h2]
   grind
/-- a combination of a lower row, the next row and the rows above -/
theorem Elim.rel2 (h : Elim A M ps d col) (q : List Int) (x : Int) (k j : Nat) (hk : k < A.length) (hkm : k < M.length) (hp : ps.length ≤ k) (R : List Vec) (hR : ∀ r ∈ R, r ∈ A.take ps.length) :
 d * comb (x :: q) (A[k] :: R) j = fit ps (M.take ps.length) (comb (x :: q) (A[k] :: R)) j + x * M[k] j := by
 have h1 := h.rel q j R hR
 have h2 := h.inv k hkm hk j
 rw [if_pos hp] at h2
 simp only [comb]
 rw [fit_lin, ← h1, Int.mul_add, show d * (x * A[k] j) = x * (d * A[k] j) by grind, h2]
 grind
theorem Elim.rel3 (h : Elim A M ps d col) (q : List Int) (x y : Int) (i k j : Nat) (hi : i < A.length) (him : i < M.length) (hpi : ps.length ≤ i) (hk : k < A.length) (hkm : k < M.length) (hp : ps.length ≤ k) (R : List Vec) (hR : ∀ r ∈ R, r ∈ A.take ps.length) :
 d * comb (x :: y :: q) (A[i] :: A[k] :: R) j = fit ps (M.take ps.length) (comb (x :: y :: q) (A[i] :: A[k] :: R)) j + x * M[i] j + y * M[k] j := by
 have h1 := h.rel2 q y k j hk hkm hp R hR
 have h2 := h.inv i him hi j
 rw [if_pos hpi] at h2
 rw [show comb (x :: y :: q) (A[i] :: A[k] :: R) = fun j => x * A[i] j + comb (y :: q) (A[k] :: R) j from rfl, fit_lin]
 show d * (x * A[i] j + comb (y :: q) (A[k] :: R) j) = _
 rw [Int.mul_add, h1, show d * (x * A[i] j) = x * (d * A[i] j) by grind, h2]
 grind

/-- the quotients of one step, and what they are -/
theorem Elim.exact (h : Elim A M ps d col) (hk : ps.length < M.length) (hc : M[ps.length] col ≠ 0) (i : Nat) (hi : i < M.length) (hne : i ≠ ps.length) :
 ∃ Y : Vec, Minor A Y ∧ (∀ j, d * Y j = M[ps.length] col * M[i] j - M[i] col * M[ps.length] j) ∧
  (ps.length < i → ∀ j, Y j = det (j :: col :: ps.reverse) ((A[i]'(by rw [← h.len]; exact hi)) :: (A[ps.length]'(by rw [← h.len]; exact hk)) :: (A.take ps.length).reverse)) ∧
  (∀ hs : i < ps.length, (∀ c ∈ col :: ps, c ≠ ps[i] → Y c = 0) ∧ Y ps[i] = M[ps.length] col) := by
 have hlen := h.len
 have hkA : ps.length < A.length := by omega
 have hhead := h.low ps.length hk hkA (Nat.le_refl _) col
 have hRR : ∀ r ∈ (A.take ps.length).reverse, r ∈ A.take ps.length := fun r hr => List.mem_reverse.1 hr
 have hrl : (A.take ps.length).reverse.length = ps.length := by simp; omega
 have hRA : ∀ r ∈ (A.take ps.length).reverse, r ∈ A := fun r hr => List.mem_of_mem_take (hRR r hr)
 rcases Nat.lt_or_ge ps.length i with hlt | hge
 ·-- a lower row
  have hiA : i < A.length := by omega
  have hMi := h.low i hi hiA (by omega) col
  refine ⟨fun j => det (j :: col :: ps.reverse) (A[i] :: A[ps.length] :: (A.take ps.length).reverse), ?_, fun j => ?_, fun _ j => rfl, fun hs => by omega⟩
  ·refine ⟨1, col :: ps.reverse, A[i] :: A[ps.length] :: (A.take ps.length).reverse, .inl rfl, by simp; omega, by simp; omega, fun r hr => ?_, fun j => by simp⟩
   rcases List.mem_cons.1 hr with rfl | hr
   ·exact List.getElem_mem _
   ·rcases List.mem_cons.1 hr with rfl | hr
    ·exact List.getElem_mem _
    ·exact hRA r hr
  ·have e : xco (det (col :: ps.reverse)) (A[i] :: A[ps.length] :: (A.take ps.length).reverse) = M[ps.length] col :: (-(M[i] col)) :: ((xco (fun l => det (col :: ps.reverse) (A[i] :: A[ps.length] :: l)) (A.take ps.length).reverse).map (fun x => -x)).map (fun x => -x) := by
    rw [hhead, hMi]; rfl
   have h3 := h.rel3 (((xco (fun l => det (col :: ps.reverse) (A[i] :: A[ps.length] :: l)) (A.take ps.length).reverse).map (fun x => -x)).map (fun x => -x)) (M[ps.length] col) (-(M[i] col)) i ps.length j hiA hi (by omega) hkA hk (Nat.le_refl _) _ hRR
   rw [← e] at h3
   have h4 : fit ps (M.take ps.length) (comb (xco (det (col :: ps.reverse)) (A[i] :: A[ps.length] :: (A.take ps.length).reverse)) (A[i] :: A[ps.length] :: (A.take ps.length).reverse)) j = 0 := fit_zero _ _ _ _ (fun c hcm => by
    rw [← det_comb]
    exact det_zero c _ (by simp [hcm]) _)
   rw [h4] at h3
   show d * det (j :: col :: ps.reverse) (A[i] :: A[ps.length] :: (A.take ps.length).reverse) = _
   rw [det_comb, h3]
   grind
 ·-- a row of a pivot
  have hs : i < ps.length := by omega
  have hcol : col ≠ ps[i] := fun e => by have := h.lt ps[i] (List.getElem_mem hs); omega
  obtain ⟨s, hs1, hs2⟩ := det_front ps[i] (col :: ps.reverse) (by simp)
  have hY0 : ∀ c ∈ col :: ps, c ≠ ps[i] → s * det (c :: (col :: ps.reverse).erase ps[i]) (A[ps.length] :: (A.take ps.length).reverse) = 0 := by
   intro c hcm hcn
   rw [det_zero c _ ((List.mem_erase_of_ne hcn).2 (by simpa using hcm))]
   simp
  have hY1 : s * det (ps[i] :: (col :: ps.reverse).erase ps[i]) (A[ps.length] :: (A.take ps.length).reverse) = M[ps.length] col := by rw [← hs2, hhead]
  refine ⟨fun j => s * det (j :: (col :: ps.reverse).erase ps[i]) (A[ps.length] :: (A.take ps.length).reverse), ?_, fun j => ?_, fun h => by omega, fun _ => ⟨hY0, hY1⟩⟩
  ·refine ⟨s, (col :: ps.reverse).erase ps[i], A[ps.length] :: (A.take ps.length).reverse, hs1, ?_, by simp; omega, fun r hr => ?_, fun j => rfl⟩
   ·rw [List.length_erase_of_mem (by simp)]; simp; omega
   ·rcases List.mem_cons.1 hr with rfl | hr
    ·exact List.getElem_mem _
    ·exact hRA r hr
  ·obtain ⟨x, q, hx⟩ : ∃ x q, xco (det ((col :: ps.reverse).erase ps[i])) (A[ps.length] :: (A.take ps.length).reverse) = x :: q := ⟨_, _, rfl⟩
   have hrel : ∀ j, d * (s * det (j :: (col :: ps.reverse).erase ps[i]) (A[ps.length] :: (A.take ps.length).reverse)) = M[ps.length] col * M[i] j + (s * x) * M[ps.length] j := by
    intro j
    have h3 := h.rel2 q x ps.length j hkA hk (Nat.le_refl _) _ hRR
    rw [← hx] at h3
    have h4 : fit ps (M.take ps.length) (fun j => s * comb (xco (det ((col :: ps.reverse).erase ps[i])) (A[ps.length] :: (A.take ps.length).reverse)) (A[ps.length] :: (A.take ps.length).reverse) j + (fun _ => 0) j) j = M[ps.length] col * M[i] j := by
     have h5 := fit_one (M[ps.length] col) ps (M.take ps.length) (fun j => s * comb (xco (det ((col :: ps.reverse).erase ps[i])) (A[ps.length] :: (A.take ps.length).reverse)) (A[ps.length] :: (A.take ps.length).reverse) j + (fun _ => 0) j) j i (by simp; omega) hs (fun t ht => by
      show s * comb _ _ ps[t] + 0 = _
      rw [← det_comb]
      split
      ·next e => subst e; rw [hY1]; omega
      ·next e =>
       rw [hY0 ps[t] (by simp) (fun e2 => e (by
        rcases Nat.lt_trichotomy t i with h6 | h6 | h6
        ·have := List.pairwise_iff_getElem.1 h.sorted t i ht hs h6; omega
        ·exact h6
        ·have := List.pairwise_iff_getElem.1 h.sorted i t hs ht h6; omega))]
       rfl)
     rw [h5, List.getElem_take]
    rw [fit_lin, fit_zero ps _ (fun _ => 0) j (fun _ _ => rfl)] at h4
    rw [show det (j :: (col :: ps.reverse).erase ps[i]) (A[ps.length] :: (A.take ps.length).reverse) = _ from det_comb _ _ _]
    grind
   have hx2 := hrel col
   rw [hY0 col (by simp) hcol] at hx2
   have hx3 : s * x = -(M[i] col) := by
    have h7 : M[ps.length] col * (M[i] col + s * x) = 0 := by grind
    rcases Int.mul_eq_zero.1 h7 with h8 | h8
    ·exact absurd h8 hc
    ·omega
   show d * (s * _) = _
   rw [hrel j, hx3]
   grind

/-- a step: the rows but that of the pivot are combined with it -/
theorem Elim.step (h : Elim A M ps d col) (hk : ps.length < M.length) (hc : M[ps.length] col ≠ 0) (M' : List Vec) (hl : M'.length = M.length)
 (hp : ∀ (h' : ps.length < M'.length) (j : Nat), M'[ps.length] j = M[ps.length] j)
 (ho : ∀ i (h : i < M.length) (h' : i < M'.length), i ≠ ps.length → ∀ j, M'[i] j = (M[ps.length] col * M[i] j - M[i] col * M[ps.length] j) / d) :
 Elim A M' (ps ++ [col]) (M[ps.length] col) (col + 1) := by
 have hlen := h.len
 have hkA : ps.length < A.length := by omega
 have hd := h.d0
 have hkM' : ps.length < M'.length := by omega
 -- each row is the exact one
 have key : ∀ i (hi : i < M.length) (hi' : i < M'.length), i ≠ ps.length → Minor A M'[i] ∧ (∀ j, d * M'[i] j = M[ps.length] col * M[i] j - M[i] col * M[ps.length] j) ∧
  (ps.length < i → ∀ (h1 : i < A.length) (h2 : ps.length < A.length), ∀ j, M'[i] j = det (j :: col :: ps.reverse) (A[i] :: A[ps.length] :: (A.take ps.length).reverse)) ∧
  (∀ hs : i < ps.length, (∀ c ∈ col :: ps, c ≠ ps[i] → M'[i] c = 0) ∧ M'[i] ps[i] = M[ps.length] col) := by
  intro i hi hi' hne
  obtain ⟨Y, h1, h2, h3, h4⟩ := h.exact hk hc i hi hne
  have he : ∀ j, M'[i] j = Y j := fun j => by rw [ho i hi hi' hne j, ← h2 j, Int.mul_ediv_cancel_left _ hd]
  obtain ⟨s, C, R, g1, g2, g3, g4, g5⟩ := h1
  refine ⟨⟨s, C, R, g1, g2, g3, g4, fun j => by rw [he, g5]⟩, fun j => by rw [he, h2], fun hlt _ _ j => by rw [he, h3 hlt j], fun hs => ⟨fun c hcm hcn => by rw [he, (h4 hs).1 c hcm hcn], by rw [he, (h4 hs).2]⟩⟩
 have htk : M'.take (ps.length + 1) = M'.take ps.length ++ [M'[ps.length]] := by rw [List.take_succ_eq_append_getElem hkM']
 have hAk : (A.take (ps.length + 1)).reverse = A[ps.length] :: (A.take ps.length).reverse := by rw [List.take_succ_eq_append_getElem hkA]; simp
 have hrev : (ps ++ [col]).reverse = col :: ps.reverse := by simp
 have hl1 : (ps ++ [col]).length = ps.length + 1 := by simp
 refine ⟨by omega, by rw [hl1]; omega, hc, ?_, ?_, ?_, ?_, ?_, ?_, ?_, ?_, ?_⟩
 ·rw [hrev, hl1, hAk]
  exact h.low ps.length hk hkA (Nat.le_refl _) col
 ·intro i hi hi' hki j
  rw [hl1] at hki
  rw [hrev, hl1, hAk]
  exact (key i (by omega) hi (by omega)).2.2.1 (by omega) hi' hkA j
 ·intro i hi hi' j
  rw [hl1, htk]
  have hfl : ps.length = (M'.take ps.length).length := by simp; omega
  rw [fit_snoc ps (M'.take ps.length) col M'[ps.length] A[i] j hfl]
  have hf := fit_step (d := d) (head := M[ps.length] col) (p := M[ps.length]) (col := col) A[i] j ps (M.take ps.length) (M'.take ps.length) (by simp; omega) (fun t ht ht' j => by
   rw [List.length_take] at ht
   rw [List.getElem_take, List.getElem_take]
   exact (key t (by omega) (by omega) (by omega)).2.1 j)
  have h1 := h.inv i (by omega) hi' j
  have h2 := h.inv i (by omega) hi' col
  rw [hp hkM']
  apply Int.eq_of_mul_eq_mul_left hd
  rcases Nat.lt_trichotomy i ps.length with hc1 | hc1 | hc1
  ·rw [if_neg (by omega)] at h1 h2 ⊢
   grind
  ·subst hc1
   rw [if_pos (Nat.le_refl _)] at h1 h2
   rw [if_neg (by omega)]
   grind
  ·rw [if_pos (by omega)] at h1 h2 ⊢
   have h3 := (key i (by omega) hi (by omega)).2.1 j
   grind
 ·intro s t hs hsk htk'
  rw [hl1] at hsk htk'
  rw [List.getElem_append]
  by_cases hsp : s = ps.length
  ·subst hsp
   rw [hp]
   by_cases htp : t < ps.length
   ·rw [dif_pos htp, if_neg (by omega)]
    exact h.zero _ hk (Nat.le_refl _) _ (h.lt _ (List.getElem_mem _))
   ·rw [dif_neg htp, if_pos (by omega)]
    simp
  ·have hk4 := (key s (by omega) hs hsp).2.2.2 (by omega)
   by_cases htp : t < ps.length
   ·rw [dif_pos htp]
    by_cases hst : s = t
    ·subst hst
     rw [if_pos rfl]
     exact hk4.2
    ·rw [if_neg hst]
     refine hk4.1 _ (by simp) (fun e => hst ?_)
     rcases Nat.lt_trichotomy t s with h6 | h6 | h6
     ·have := List.pairwise_iff_getElem.1 h.sorted t s htp (by omega) h6; omega
     ·exact h6.symm
     ·have := List.pairwise_iff_getElem.1 h.sorted s t (by omega) htp h6; omega
   ·rw [dif_neg htp, if_neg (by omega)]
    have hlt := h.lt ps[s] (List.getElem_mem (by omega))
    have := hk4.1 col (by simp) (by omega)
    simpa using this
 ·intro i hi hki j hj
  rw [hl1] at hki
  have h2 := (key i (by omega) hi (by omega)).2.1 j
  by_cases hjc : j = col
  ·subst hjc
   have h3 : d * M'[i] j = 0 := by rw [h2]; grind
   exact (Int.mul_eq_zero.1 h3).resolve_left hd
  ·rw [h.zero i (by omega) (by omega) j (by omega), h.zero ps.length hk (Nat.le_refl _) j (by omega)] at h2
   have h3 : d * M'[i] j = 0 := by rw [h2]; simp
   exact (Int.mul_eq_zero.1 h3).resolve_left hd
 ·intro s hs hsk j hj
  rw [hl1] at hsk
  rw [List.getElem_append] at hj
  by_cases hsp : s < ps.length
  ·rw [dif_pos hsp] at hj
   have hlt := h.lt ps[s] (List.getElem_mem hsp)
   have h2 := (key s (by omega) hs (by omega)).2.1 j
   rw [h.left s (by omega) hsp j hj, h.zero ps.length hk (Nat.le_refl _) j (by omega)] at h2
   have h3 : d * M'[s] j = 0 := by rw [h2]; simp
   exact (Int.mul_eq_zero.1 h3).resolve_left hd
  ·rw [dif_neg hsp] at hj
   obtain rfl : s = ps.length := by omega
   rw [hp]
   exact h.zero _ hk (Nat.le_refl _) j (by simpa using hj)
 ·exact List.pairwise_append.2 ⟨h.sorted, by simp, fun a ha b hb => by simp at hb; subst hb; exact h.lt a ha⟩
 ·intro c hcm
  rcases List.mem_append.1 hcm with h1 | h1
  ·have := h.lt c h1; omega
  ·simp at h1; omega
 ·intro r hr
  obtain ⟨i, hi, rfl⟩ := List.mem_iff_getElem.1 hr
  by_cases hne : i = ps.length
  ·subst hne
   obtain ⟨s, C, R, g1, g2, g3, g4, g5⟩ := h.minor M[ps.length] (List.getElem_mem hk)
   exact ⟨s, C, R, g1, g2, g3, g4, fun j => by rw [hp, g5]⟩
  ·exact (key i (by omega) hi hne).1
end
end Go.Proofs.Ytlmbebbdamgfpaa
namespace Go.Proofs.Ytlmbebbdamgfpaa

def IsPiv (r : Vec) (c : Nat) : Prop := (∀ j, j < c → r j = 0) ∧ r c ≠ 0
theorem IsPiv.uniq {r : Vec} {c e : Nat} (h : IsPiv r c) (h2 : IsPiv r e) : c = e := by
 rcases Nat.lt_trichotomy c e with h3 | h3 | h3
 ·exact absurd (h2.1 c h3) h.2
 ·exact h3
 ·exact absurd (h.1 e h3) h2.2
/-- rows in normal form, from a column on -/
def Nrm : Nat → List Vec → Prop
 | _, [] => True
 | lo, r :: rs => ∃ c, lo ≤ c ∧ IsPiv r c ∧ 0 < r c ∧ Nrm (c + 1) rs ∧ ∀ s ∈ rs, ∀ e, IsPiv s e → 0 ≤ r e ∧ r e < s e

theorem Nrm.low : ∀ {lo : Nat} {B : List Vec} {v : Vec}, Nrm lo B → InSpan B v → ∀ j, j < lo → v j = 0
 | lo, [], v, _, h, j, _ => by
  obtain ⟨q, hq⟩ := h
  rw [hq]
  cases q <;> simp [comb]
 | lo, r :: rs, v, ⟨c, h1, h2, h3, h4, _⟩, h, j, hj => by
  obtain ⟨q, hq⟩ := h
  rw [hq]
  cases q with
  | nil => simp [comb]
  | cons x q =>
   have := Nrm.low h4 (v := comb q rs) ⟨q, fun _ => rfl⟩ j (by omega)
   simp [comb, this, h2.1 j (by omega)]
theorem span_cons {r : Vec} {rs : List Vec} {v : Vec} (h : InSpan (r :: rs) v) : ∃ x w, InSpan rs w ∧ ∀ j, v j = x * r j + w j := by
 obtain ⟨q, hq⟩ := h
 cases q with
 | nil => exact ⟨0, fun _ => 0, InSpan.zero, fun j => by rw [hq]; simp [comb]⟩
 | cons x q => exact ⟨x, comb q rs, ⟨q, fun _ => rfl⟩, fun j => by rw [hq]; simp [comb]⟩
theorem span_more {r : Vec} {rs : List Vec} {v : Vec} (h : InSpan rs v) : InSpan (r :: rs) v := h.trans (fun r hr => InSpan.mem (by simp [hr]))
/-- nothing in the first pivot's column: of the other rows -/
theorem Nrm.tail {c : Nat} {r : Vec} {rs : List Vec} {v : Vec} (hp : r c ≠ 0) (h : Nrm (c + 1) rs) (hv : InSpan (r :: rs) v) (h0 : v c = 0) : InSpan rs v := by
 obtain ⟨x, w, hw, he⟩ := span_cons hv
 have h1 := he c
 rw [h0, h.low hw c (by omega)] at h1
 have h2 : x * r c = 0 := by omega
 obtain rfl := (Int.mul_eq_zero.1 h2).resolve_right hp
 exact hw.congr (fun j => by rw [he]; simp)
theorem Nrm.small : ∀ {lo : Nat} {B : List Vec} {w : Vec}, Nrm lo B → InSpan B w → (∀ s ∈ B, ∀ e, IsPiv s e → w e < s e ∧ -(w e) < s e) → ∀ j, w j = 0
 | lo, [], w, _, h, _, j => by
  obtain ⟨q, hq⟩ := h
  rw [hq]
  cases q <;> simp [comb]
 | lo, r :: rs, w, ⟨c, h1, h2, h3, h4, _⟩, h, hs, j => by
  obtain ⟨x, u, hu, he⟩ := span_cons h
  have h5 := hs r (by simp) c h2
  have h6 : w c = x * r c := by rw [he, h4.low hu c (by omega)]; omega
  rw [h6] at h5
  have hx : x = 0 := by
   rcases Int.lt_trichotomy x 0 with hx | hx | hx
   ·have : r c * 1 ≤ r c * (-x) := Int.mul_le_mul_of_nonneg_left (by omega) (by omega)
    have e : -(x * r c) = r c * (-x) := by grind
    omega
   ·exact hx
   ·have : r c * 1 ≤ r c * x := Int.mul_le_mul_of_nonneg_left (by omega) (by omega)
    have e : x * r c = r c * x := by grind
    omega
  subst hx
  have he' : ∀ j, w j = u j := fun j => by rw [he]; simp
  rw [he']
  exact h4.small hu (fun s hsm e hp => by rw [← he']; exact hs s (by simp [hsm]) e hp) j
theorem span_nil {v : Vec} (h : InSpan [] v) (j : Nat) : v j = 0 := by
 obtain ⟨q, hq⟩ := h
 rw [hq]
 cases q <;> simp [comb]
theorem Nrm.pivot_le {lo lo' c : Nat} {r : Vec} {B : List Vec} (hr : IsPiv r c) (h : InSpan B r) (hB : Nrm lo' B) : lo' ≤ c := by
 rcases Nat.lt_or_ge c lo' with h1 | h1
 ·exact absurd (hB.low h c h1) hr.2
 ·exact h1
/-- normal forms are unique -/
theorem Nrm.uniq : ∀ {lo lo' : Nat} {B B' : List Vec}, Nrm lo B → Nrm lo' B' → (∀ v, InSpan B v → InSpan B' v) → (∀ v, InSpan B' v → InSpan B v) → B = B'
 | _, _, [], [], _, _, _, _ => rfl
 | _, _, r :: rs, [], ⟨c, _, h, _⟩, _, h1, _ => absurd (span_nil (h1 r (InSpan.mem (by simp))) c) h.2
 | _, _, [], r :: rs, _, ⟨c, _, h, _⟩, _, h2 => absurd (span_nil (h2 r (InSpan.mem (by simp))) c) h.2
 | lo, lo', r :: rs, r' :: rs', ⟨c, a1, a2, a3, a4, a5⟩, ⟨c', b1, b2, b3, b4, b5⟩, h1, h2 => by
  have hr' : InSpan (r' :: rs') r := h1 r (InSpan.mem (by simp))
  have hr : InSpan (r :: rs) r' := h2 r' (InSpan.mem (by simp))
  have nB : Nrm c (r :: rs) := ⟨c, Nat.le_refl _, a2, a3, a4, a5⟩
  have nB' : Nrm c' (r' :: rs') := ⟨c', Nat.le_refl _, b2, b3, b4, b5⟩
  obtain rfl : c = c' := by
   have e1 := Nrm.pivot_le (lo := 0) a2 hr' nB'
   have e2 := Nrm.pivot_le (lo := 0) b2 hr nB
   omega
  obtain ⟨x, w, hw, he⟩ := span_cons hr'
  obtain ⟨y, u, hu, hf⟩ := span_cons hr
  have e1 : r c = x * r' c := by rw [he, b4.low hw c (by omega)]; omega
  have e2 : r' c = y * r c := by rw [hf, a4.low hu c (by omega)]; omega
  have hx0 : 0 < x := by
   rcases Int.lt_or_le 0 x with h | h
   ·exact h
   ·have := Int.mul_nonneg (show 0 ≤ -x by omega) (show 0 ≤ r' c by omega)
    have e : -x * r' c = -(x * r' c) := Int.neg_mul _ _
    omega
  have hy0 : 0 < y := by
   rcases Int.lt_or_le 0 y with h | h
   ·exact h
   ·have := Int.mul_nonneg (show 0 ≤ -y by omega) (show 0 ≤ r c by omega)
    have e : -y * r c = -(y * r c) := Int.neg_mul _ _
    omega
  have hle1 : r' c ≤ r c := by
   have : 1 * r' c ≤ x * r' c := Int.mul_le_mul_of_nonneg_right (by omega) (by omega)
   omega
  have hle2 : r c ≤ r' c := by
   have : 1 * r c ≤ y * r c := Int.mul_le_mul_of_nonneg_right (by omega) (by omega)
   omega
  have hcc : r c = r' c := by omega
  have t1 : ∀ v, InSpan rs v → InSpan rs' v := fun v hv => b4.tail b2.2 (h1 v (span_more hv)) (a4.low hv c (by omega))
  have t2 : ∀ v, InSpan rs' v → InSpan rs v := fun v hv => a4.tail a2.2 (h2 v (span_more hv)) (b4.low hv c (by omega))
  obtain rfl := Nrm.uniq a4 b4 t1 t2
  have hd : InSpan rs (fun j => r j - r' j) := b4.tail b2.2 (hr'.sub (InSpan.mem (by simp))) (by show r c - r' c = 0; omega)
  have h0 := a4.small hd (fun s hs e hp => by
   have g1 := a5 s hs e hp
   have g2 := b5 s hs e hp
   show r e - r' e < s e ∧ -(r e - r' e) < s e
   omega)
  have : r = r' := funext (fun j => by have : r j - r' j = 0 := h0 j; omega)
  rw [this]

/-- the coordinates in columns -/
def res (ps : List Nat) (v : Vec) : Vec := fun t => if h : t < ps.length then v ps[t] else 0
theorem res_comb (ps : List Nat) : ∀ (q : List Int) (A : List Vec) (t : Nat), res ps (comb q A) t = comb q (A.map (res ps)) t
 | [], A, t => by cases A <;> simp [res, comb]
 | x :: q, [], t => by simp [res, comb]
 | x :: q, r :: A, t => by
  have := res_comb ps q A t
  unfold res at this ⊢
  simp only [List.map_cons, comb]
  split
  ·next h => rw [dif_pos h] at this; rw [this]
  ·next h => rw [dif_neg h] at this; rw [← this]; simp
/-- the sum that is extended over all columns -/
def ext_ (u : Vec) : List Vec → Nat → Vec
 | [], _ => fun _ => 0
 | r :: M, s => fun j => u s * r j + ext_ u M (s + 1) j
theorem fit_ext (ps : List Nat) (v : Vec) (j : Nat) : ∀ (n s : Nat) (M : List Vec), s + n = ps.length → M.length = n → fit (ps.drop s) M v j = ext_ (res ps v) M s j
 | 0, s, M, h1, h2 => by
  obtain rfl := List.eq_nil_of_length_eq_zero h2
  rw [List.drop_eq_nil_of_le (by omega)]
  rfl
 | n + 1, s, r :: M, h1, h2 => by
  rw [List.drop_eq_getElem_cons (show s < ps.length by omega)]
  simp only [fit, ext_]
  rw [fit_ext ps v j n (s + 1) M (by omega) (by simpa using h2)]
  simp [res, show s < ps.length by omega]
 | n + 1, s, [], h1, h2 => by simp at h2
theorem ext_congr (u u' : Vec) (j : Nat) : ∀ (M : List Vec) (s : Nat), (∀ t, s ≤ t → t < s + M.length → u t = u' t) → ext_ u M s j = ext_ u' M s j
 | [], s, _ => rfl
 | r :: M, s, h => by
  simp only [ext_]
  rw [h s (Nat.le_refl _) (by simp), ext_congr u u' j M (s + 1) (fun t h1 h2 => h t (by omega) (by simp; omega))]
theorem ext_zero (u : Vec) (j : Nat) : ∀ (M : List Vec) (s : Nat), (∀ t (h : t < M.length), u (s + t) * M[t] j = 0) → ext_ u M s j = 0
 | [], s, _ => rfl
 | r :: M, s, h => by
  simp only [ext_]
  have h0 := h 0 (by simp)
  simp only [Nat.add_zero, List.getElem_cons_zero] at h0
  rw [h0, ext_zero u j M (s + 1) (fun t ht => by
   have := h (t + 1) (by simpa using ht)
   rw [show s + 1 + t = s + (t + 1) by omega]
   simpa using this)]
  rfl

/-- an upper triangular basis in normal form of the span of rows, n columns -/
structure Tri (n : Nat) (Sq : List Vec) (R : List Vec) : Prop where
 len : Sq.length = n
 low : ∀ i (h : i < Sq.length), ∀ t, t < i → Sq[i] t = 0
 pos : ∀ i (h : i < Sq.length), 0 < Sq[i] i
 red : ∀ s i (h : i < Sq.length) (_ : s < i), 0 ≤ (Sq[s]'(by omega)) i ∧ (Sq[s]'(by omega)) i < Sq[i] i
 into : ∀ r ∈ Sq, InSpan R r
 onto : ∀ r ∈ R, InSpan Sq r

section
variable {A M Sq V : List Vec} {ps : List Nat} {d : Int} {col : Nat}
/-- what lies in the span, by its coordinates -/
theorem Elim.coord (h : Elim A M ps d col) (h0 : ∀ i (h : i < M.length), ps.length ≤ i → ∀ j, M[i] j = 0) {v : Vec} (hv : InSpan A v) (j : Nat) : d * v j = ext_ (res ps v) (M.take ps.length) 0 j := by
 have key : d * v j = fit ps (M.take ps.length) v j := by
  refine hv.lin (P := fun v => d * v j = fit ps (M.take ps.length) v j) ?_ ?_ ?_ ?_
  ·rw [fit_zero _ _ _ _ (fun _ _ => rfl)]; simp
  ·intro x u w hu hw
   simp only [] at hu hw ⊢
   rw [fit_lin, ← hu, ← hw]
   grind
  ·intro u w he hu
   show d * w j = fit ps (M.take ps.length) w j
   rw [← he j, hu, fit_congr _ _ _ _ _ (fun c _ => he c)]
  ·intro r hr
   obtain ⟨i, hi, rfl⟩ := List.mem_iff_getElem.1 hr
   have h1 := h.inv i (by rw [h.len]; exact hi) hi j
   rw [h1]
   split
   ·next hk => rw [h0 i _ hk j]; omega
   ·omega
 rw [key]
 have := fit_ext ps v j ps.length 0 (M.take ps.length) (by omega) (by have := h.len; have := h.le; simp; omega)
 simpa using this
/-- the rows that are extended from the triangular ones -/
structure Extd (V Sq M : List Vec) (k : Nat) (d : Int) : Prop where
 len : V.length = Sq.length
 eq : ∀ i (h : i < V.length) (h' : i < Sq.length) (j : Nat), V[i] j = ext_ Sq[i] (M.take k) 0 j / d
theorem Elim.extd (h : Elim A M ps d col) (h0 : ∀ i (h : i < M.length), ps.length ≤ i → ∀ j, M[i] j = 0) (ht : Tri ps.length Sq (A.map (res ps))) (hv : Extd V Sq M ps.length d) (i : Nat) (hi : i < V.length) :
 InSpan A V[i] ∧ (∀ j, d * V[i] j = ext_ (Sq[i]'(by rw [← hv.len]; exact hi)) (M.take ps.length) 0 j) ∧ ∀ t (h : t < ps.length), V[i] ps[t] = (Sq[i]'(by rw [← hv.len]; exact hi)) t := by
 have hi' : i < Sq.length := by rw [← hv.len]; exact hi
 obtain ⟨q, hq⟩ := ht.into Sq[i] (List.getElem_mem hi')
 have hs : InSpan A (comb q A) := ⟨q, fun _ => rfl⟩
 have hr : ∀ t, res ps (comb q A) t = Sq[i] t := fun t => by rw [res_comb, hq]
 have e1 : ∀ j, d * comb q A j = ext_ Sq[i] (M.take ps.length) 0 j := fun j => by
  rw [h.coord h0 hs j]
  exact ext_congr _ _ _ _ _ (fun t _ _ => hr t)
 have e2 : ∀ j, V[i] j = comb q A j := fun j => by rw [hv.eq i hi hi' j, ← e1 j, Int.mul_ediv_cancel_left _ h.d0]
 refine ⟨hs.congr (fun j => (e2 j).symm), fun j => by rw [e2, e1], fun t htp => ?_⟩
 rw [e2, ← hr t]
 simp [res, htp]
/-- both spans agree -/
theorem Elim.extd_span (h : Elim A M ps d col) (h0 : ∀ i (h : i < M.length), ps.length ≤ i → ∀ j, M[i] j = 0) (ht : Tri ps.length Sq (A.map (res ps))) (hv : Extd V Sq M ps.length d) :
 (∀ v, InSpan V v → InSpan A v) ∧ (∀ v, InSpan A v → InSpan V v) := by
 have hVA : ∀ r ∈ V, InSpan A r := fun r hr => by
  obtain ⟨i, hi, rfl⟩ := List.mem_iff_getElem.1 hr
  exact (h.extd h0 ht hv i hi).1
 refine ⟨fun v hv' => hv'.trans hVA, fun v hv' => hv'.trans (fun r hr => ?_)⟩
 obtain ⟨q, hq⟩ := ht.onto (res ps r) (List.mem_map.2 ⟨r, hr, rfl⟩)
 -- the coordinates of the combination of V agree
 have hc : ∀ (q : List Int) (n : Nat) (t : Nat) (_ : t < ps.length), comb q (V.drop n) ps[t] = comb q (Sq.drop n) t := by
  intro q
  induction q with
  | nil => intro n t _; cases V.drop n <;> cases Sq.drop n <;> simp [comb]
  | cons x q ih =>
   intro n t htp
   rcases Nat.lt_or_ge n V.length with hn | hn
   ·rw [List.drop_eq_getElem_cons hn, List.drop_eq_getElem_cons (show n < Sq.length by rw [← hv.len]; exact hn)]
    simp only [comb]
    rw [ih (n + 1) t htp, (h.extd h0 ht hv n hn).2.2 t htp]
   ·rw [List.drop_eq_nil_of_le hn, List.drop_eq_nil_of_le (by rw [← hv.len]; exact hn)]
    simp [comb]
 have hw : InSpan A (fun j => r j - comb q V j) := (InSpan.mem hr).sub ((show InSpan V (comb q V) from ⟨q, fun _ => rfl⟩).trans hVA)
 refine ⟨q, fun j => ?_⟩
 have h1 := h.coord h0 hw j
 rw [ext_zero _ _ _ _ (fun t htl => by
  have htp : t < ps.length := by rw [List.length_take] at htl; omega
  have e : res ps (fun j => r j - comb q V j) (0 + t) = 0 := by
   rw [Nat.zero_add]
   simp only [res, dif_pos htp]
   have h2 := hc q 0 t htp
   rw [List.drop_zero, List.drop_zero] at h2
   rw [h2, ← hq t]
   simp [res, htp]
  rw [e, Int.zero_mul])] at h1
 have := (Int.mul_eq_zero.1 h1).resolve_left h.d0
 omega
/-- what an extended row is, column by column -/
theorem Elim.extd_low (h : Elim A M ps d col) (h0 : ∀ i (h : i < M.length), ps.length ≤ i → ∀ j, M[i] j = 0) (ht : Tri ps.length Sq (A.map (res ps))) (hv : Extd V Sq M ps.length d) (i : Nat) (hi : i < V.length) (hip : i < ps.length) :
 IsPiv V[i] ps[i] ∧ 0 < V[i] ps[i] := by
 have hi' : i < Sq.length := by rw [← hv.len]; exact hi
 obtain ⟨h1, h2, h3⟩ := h.extd h0 ht hv i hi
 have h4 := h3 i hip
 have h5 := ht.pos i hi'
 refine ⟨⟨fun j hj => ?_, by omega⟩, by omega⟩
 have h6 := h2 j
 rw [ext_zero _ _ _ _ (fun t htl => by
  have htp : t < ps.length := by rw [List.length_take] at htl; omega
  rw [Nat.zero_add]
  rcases Nat.lt_or_ge t i with h7 | h7
  ·rw [ht.low i hi' t h7, Int.zero_mul]
  ·rw [List.getElem_take, h.left t (by rw [List.length_take] at htl; omega) htp j (by
    rcases Nat.lt_or_ge i t with h8 | h8
    ·have := List.pairwise_iff_getElem.1 h.sorted i t hip htp h8; omega
    ·obtain rfl : i = t := by omega
     exact hj), Int.mul_zero])] at h6
 exact (Int.mul_eq_zero.1 h6).resolve_left h.d0
/-- the extended rows are in normal form -/
theorem Elim.extd_nrm (h : Elim A M ps d col) (h0 : ∀ i (h : i < M.length), ps.length ≤ i → ∀ j, M[i] j = 0) (ht : Tri ps.length Sq (A.map (res ps))) (hv : Extd V Sq M ps.length d) : ∀ (n i lo : Nat), i + n = V.length → (∀ hi : i < ps.length, lo ≤ ps[i]) → Nrm lo (V.drop i)
 | 0, i, lo, hn, _ => by rw [List.drop_eq_nil_of_le (by omega)]; trivial
 | n + 1, i, lo, hn, hlo => by
  have hl1 := hv.len
  have hl2 := ht.len
  have hip : i < ps.length := by omega
  have h1 := h.extd_low h0 ht hv i (by omega) hip
  rw [List.drop_eq_getElem_cons (show i < V.length by omega)]
  refine ⟨ps[i], hlo hip, h1.1, h1.2, Elim.extd_nrm h h0 ht hv n (i + 1) _ (by omega) (fun hi2 => by have := List.pairwise_iff_getElem.1 h.sorted i (i + 1) hip hi2 (by omega); omega), fun s hs e hp => ?_⟩
  obtain ⟨t, ht', rfl⟩ := List.mem_iff_getElem.1 hs
  rw [List.length_drop] at ht'
  rw [List.getElem_drop] at hp ⊢
  have h2 := h.extd_low h0 ht hv (i + 1 + t) (by omega) (by omega)
  obtain rfl := h2.1.uniq hp
  have h3 := (h.extd h0 ht hv i (by omega)).2.2 (i + 1 + t) (by omega)
  have h4 := (h.extd h0 ht hv (i + 1 + t) (by omega)).2.2 (i + 1 + t) (by omega)
  rw [h3, h4]
  exact ht.red i (i + 1 + t) (by omega) (by omega)
end
end Go.Proofs.Ytlmbebbdamgfpaa
namespace Go.Proofs.Ytlmbebbdamgfpaa

/-- m times the unit vector k -/
def unitV (m : Int) (k : Nat) : Vec := fun t => if t = k then m else 0
theorem span_of_mod {L : List Vec} {m : Int} : ∀ (n : Nat) (j : Nat) (w : Vec), (∀ k, j ≤ k → k < n → InSpan L (unitV m k)) → (∀ k, k < j → w k = 0) → (∀ k, n ≤ k → w k = 0) → (∀ k, m ∣ w k) → InSpan L w
 | 0, j, w, _, _, h2, _ => InSpan.zero.congr (fun k => (h2 k (by omega)).symm)
 | n + 1, j, w, hL, h1, h2, h3 => by
  rcases Nat.lt_or_ge n j with hn | hn
  ·exact InSpan.zero.congr (fun k => by
    rcases Nat.lt_or_ge k j with h | h
    ·exact (h1 k h).symm
    ·exact (h2 k (by omega)).symm)
  ·obtain ⟨x, hx⟩ := h3 n
   have ih := span_of_mod (L := L) (m := m) n j (fun k => if k = n then 0 else w k) (fun k a b => hL k a (by omega)) (fun k hk => by
    split
    ·rfl
    ·exact h1 k hk) (fun k hk => by
    split
    ·rfl
    ·exact h2 k (by omega)) (fun k => by
    split
    ·exact ⟨0, by simp⟩
    ·exact h3 k)
   refine (ih.add ((hL n hn (by omega)).smul x)).congr (fun k => ?_)
   show (if k = n then 0 else w k) + x * unitV m n k = w k
   unfold unitV
   by_cases hk : k = n
   ·subst hk
    rw [if_pos rfl, if_pos rfl, hx, Int.zero_add, Int.mul_comm]
   ·rw [if_neg hk, if_neg hk]
    omega

/-- one place of an insertion -/
structure InsStep (m : Int) (n j : Nat) (row add row' add' : Vec) : Prop where
 zero : ∀ k, k < j → row' k = 0
 pos : 0 < row' j
 addz : ∀ k, k ≤ j → add' k = 0
 top : ∀ k, n ≤ k → row' k = 0 ∧ add' k = 0
 into : ∀ L : List Vec, (∀ k, j < k → k < n → InSpan L (unitV m k)) → InSpan (row :: add :: L) row' ∧ InSpan (row :: add :: L) add'
 onto : ∀ L : List Vec, (∀ k, j < k → k < n → InSpan L (unitV m k)) → InSpan (row' :: add' :: L) row ∧ InSpan (row' :: add' :: L) add

theorem span_two {a b : Vec} {L : List Vec} (x y : Int) {w z : Vec} (hz : InSpan L z) (h : ∀ k, w k = x * a k + y * b k + z k) : InSpan (a :: b :: L) w := by
 have h1 : InSpan (a :: b :: L) a := InSpan.mem (by simp)
 have h2 : InSpan (a :: b :: L) b := InSpan.mem (by simp)
 have h3 : InSpan (a :: b :: L) z := hz.trans (fun r hr => InSpan.mem (by simp [hr]))
 exact (((h1.smul x).add (h2.smul y)).add h3).congr (fun k => (h k).symm)

/-- a unimodular combination, modulo m behind the place j -/
theorem InsStep.mk' {m : Int} {n j : Nat} {row add row' add' : Vec} (u v c d : Int) (hdet : u * d - v * c = 1) (hr : ∀ k, k < j → row k = 0) (ha : ∀ k, k < j → add k = 0) (hrt : ∀ k, n ≤ k → row k = 0) (hat : ∀ k, n ≤ k → add k = 0) (hjn : j < n)
 (hpos : 0 < row' j) (hj1 : row' j = u * row j + v * add j) (hj2 : add' j = 0) (hj3 : c * row j + d * add j = 0)
 (h1 : ∀ k, k < j → row' k = row k) (h2 : ∀ k, k < j → add' k = add k) (h1t : ∀ k, n ≤ k → row' k = 0) (h2t : ∀ k, n ≤ k → add' k = 0)
 (h3 : ∀ k, j < k → k < n → m ∣ (u * row k + v * add k) - row' k) (h4 : ∀ k, j < k → k < n → m ∣ (c * row k + d * add k) - add' k) : InsStep m n j row add row' add' := by
 have w1 : ∀ L : List Vec, (∀ k, j < k → k < n → InSpan L (unitV m k)) → InSpan L (fun k => (u * row k + v * add k) - row' k) := fun L hL => by
  refine span_of_mod n (j + 1) _ (fun k a b => hL k (by omega) b) (fun k hk => ?_) (fun k hk => ?_) (fun k => ?_)
  ·show u * row k + v * add k - row' k = 0
   rcases Nat.lt_or_ge k j with h | h
   ·rw [h1 k h, hr k h, ha k h]; simp
   ·obtain rfl : k = j := by omega
    omega
  ·show u * row k + v * add k - row' k = 0
   rw [h1t k hk, hrt k hk, hat k hk]; simp
  ·show m ∣ u * row k + v * add k - row' k
   rcases Nat.lt_or_ge k (j + 1) with h | h
   ·refine ⟨0, ?_⟩
    rcases Nat.lt_or_ge k j with h5 | h5
    ·rw [h1 k h5, hr k h5, ha k h5]; simp
    ·obtain rfl : k = j := by omega
     omega
   ·rcases Nat.lt_or_ge k n with h5 | h5
    ·exact h3 k (by omega) h5
    ·exact ⟨0, by rw [h1t k h5, hrt k h5, hat k h5]; simp⟩
 have w2 : ∀ L : List Vec, (∀ k, j < k → k < n → InSpan L (unitV m k)) → InSpan L (fun k => (c * row k + d * add k) - add' k) := fun L hL => by
  refine span_of_mod n (j + 1) _ (fun k a b => hL k (by omega) b) (fun k hk => ?_) (fun k hk => ?_) (fun k => ?_)
  ·show c * row k + d * add k - add' k = 0
   rcases Nat.lt_or_ge k j with h | h
   ·rw [h2 k h, hr k h, ha k h]; simp
   ·obtain rfl : k = j := by omega
    omega
  ·show c * row k + d * add k - add' k = 0
   rw [h2t k hk, hrt k hk, hat k hk]; simp
  ·show m ∣ c * row k + d * add k - add' k
   rcases Nat.lt_or_ge k (j + 1) with h | h
   ·refine ⟨0, ?_⟩
    rcases Nat.lt_or_ge k j with h5 | h5
    ·rw [h2 k h5, hr k h5, ha k h5]; simp
    ·obtain rfl : k = j := by omega
     omega
   ·rcases Nat.lt_or_ge k n with h5 | h5
    ·exact h4 k (by omega) h5
    ·exact ⟨0, by rw [h2t k h5, hrt k h5, hat k h5]; simp⟩
 refine ⟨fun k hk => by rw [h1 k hk, hr k hk], hpos, fun k hk => ?_, fun k hk => ⟨h1t k hk, h2t k hk⟩, fun L hL => ⟨?_, ?_⟩, fun L hL => ⟨?_, ?_⟩⟩
 ·rcases Nat.lt_or_ge k j with h | h
  ·rw [h2 k h, ha k h]
  ·obtain rfl : k = j := by omega
   exact hj2
 ·exact span_two u v ((w1 L hL).smul (-1)) (fun k => by show row' k = _ + -1 * (u * row k + v * add k - row' k); omega)
 ·exact span_two c d ((w2 L hL).smul (-1)) (fun k => by show add' k = _ + -1 * (c * row k + d * add k - add' k); omega)
 ·refine span_two d (-v) (((w1 L hL).smul d).add ((w2 L hL).smul (-v))) (fun k => ?_)
  show row k = d * row' k + -v * add' k + (d * (u * row k + v * add k - row' k) + -v * (c * row k + d * add k - add' k))
  have e : row k = (u * d - v * c) * row k := by rw [hdet]; omega
  grind
 ·refine span_two (-c) u (((w1 L hL).smul (-c)).add ((w2 L hL).smul u)) (fun k => ?_)
  show add k = -c * row' k + u * add' k + (-c * (u * row k + v * add k - row' k) + u * (c * row k + d * add k - add' k))
  have e : add k = (u * d - v * c) * add k := by rw [hdet]; omega
  grind

/-- rows from the place j on, upper triangular, whose span holds the multiples of m -/
def TriL (m : Int) (n : Nat) : Nat → List Vec → Prop
 | j, [] => j = n
 | j, r :: rs => j < n ∧ (∀ k, k < j → r k = 0) ∧ 0 < r j ∧ (∀ k, n ≤ k → r k = 0) ∧ InSpan (r :: rs) (unitV m j) ∧ TriL m n (j + 1) rs
theorem TriL.unit {m : Int} {n : Nat} : ∀ {j : Nat} {L : List Vec}, TriL m n j L → ∀ k, j ≤ k → k < n → InSpan L (unitV m k)
 | j, [], h, k, h1, h2 => by
  have : j = n := h
  omega
 | j, r :: rs, ⟨_, _, _, _, h5, h6⟩, k, h1, h2 => by
  rcases Nat.lt_or_ge j k with h | h
  ·exact span_more (h6.unit k h h2)
  ·obtain rfl : k = j := by omega
   exact h5
theorem TriL.len {m : Int} {n : Nat} : ∀ {j : Nat} {L : List Vec}, TriL m n j L → j + L.length = n
 | j, [], h => h
 | j, r :: rs, ⟨_, _, _, _, _, h6⟩ => by have := h6.len; simp; omega

inductive Ins (m : Int) (n : Nat) : Nat → List Vec → Vec → List Vec → Prop
 | nil (j : Nat) (a : Vec) : Ins m n j [] a []
 | cons {j : Nat} {row a row' a' : Vec} {rest rest' : List Vec} (h : InsStep m n j row a row' a') (h2 : Ins m n (j + 1) rest a' rest') : Ins m n j (row :: rest) a (row' :: rest')

theorem Ins.spec {m : Int} {n : Nat} {j : Nat} {L L' : List Vec} {a : Vec} (h : Ins m n j L a L') : TriL m n j L → (∀ k, k < j → a k = 0) → (∀ k, n ≤ k → a k = 0) →
 TriL m n j L' ∧ (∀ r ∈ L', InSpan (a :: L) r) ∧ (∀ r ∈ a :: L, InSpan L' r) := by
 induction h with
 | nil j a =>
  intro ht h1 h2
  obtain rfl : j = n := ht
  refine ⟨rfl, by simp, fun r hr => ?_⟩
  simp at hr
  subst hr
  exact InSpan.zero.congr (fun k => by
   rcases Nat.lt_or_ge k j with h | h
   ·exact (h1 k h).symm
   ·exact (h2 k h).symm)
 | @cons j row a row' a' rest rest' hs hi ih =>
  intro ht h1 h2
  obtain ⟨t1, t2, t3, t4, t5, t6⟩ := ht
  obtain ⟨i1, i2, i3⟩ := ih t6 (fun k hk => hs.addz k (by omega)) (fun k hk => (hs.top k hk).2)
  have hu : ∀ k, j < k → k < n → InSpan rest (unitV m k) := fun k hk hk2 => t6.unit k hk hk2
  obtain ⟨n1, n2⟩ := hs.into rest hu
  obtain ⟨o1, o2⟩ := hs.onto rest hu
  -- the span of the old ones lies in that of the new ones
  have q1 : ∀ v, InSpan (row' :: a' :: rest) v → InSpan (row' :: rest') v := fun v hv => hv.trans (fun r hr => by
   rcases List.mem_cons.1 hr with rfl | hr
   ·exact InSpan.mem (by simp)
   ·exact span_more (i3 r hr))
  have q2 : ∀ r ∈ a :: row :: rest, InSpan (row' :: rest') r := fun r hr => by
   rcases List.mem_cons.1 hr with rfl | hr
   ·exact q1 _ o2
   ·rcases List.mem_cons.1 hr with rfl | hr
    ·exact q1 _ o1
    ·exact span_more (i3 r (by simp [hr]))
  have q3 : ∀ v, InSpan (row :: a :: rest) v → InSpan (a :: row :: rest) v := fun v hv => hv.trans (fun r hr => InSpan.mem (by
   simp only [List.mem_cons] at hr ⊢
   rcases hr with h | h | h
   ·exact .inr (.inl h)
   ·exact .inl h
   ·exact .inr (.inr h)))
  refine ⟨⟨t1, hs.zero, hs.pos, fun k hk => (hs.top k hk).1, t5.trans (fun r hr => q2 r (by simp only [List.mem_cons] at hr ⊢; exact .inr hr)), i1⟩, fun r hr => ?_, q2⟩
  rcases List.mem_cons.1 hr with rfl | hr
  ·exact q3 _ n1
  ·exact (i2 r hr).trans (fun r hr => by
    rcases List.mem_cons.1 hr with rfl | hr
    ·exact q3 _ n2
    ·exact InSpan.mem (by simp [hr]))

/-- one row reduced by those behind it: the row as it is before the place k0 -/
structure RedTo (m : Int) (n i : Nat) (rest : List Vec) (row row' : Vec) (k0 : Nat) : Prop where
 at_ : ∀ t, t ≤ i → row' t = row t
 top : ∀ t, n ≤ t → row' t = 0
 diff : InSpan rest (fun t => row t - row' t)
 red : ∀ t (h : t - (i + 1) < rest.length), i < t → t < k0 → 0 ≤ row' t ∧ row' t < rest[t - (i + 1)] t
/-- reduced, all of them -/
inductive Reds (m : Int) (n : Nat) : Nat → List Vec → List Vec → Prop
 | nil (j : Nat) : Reds m n j [] []
 | cons {j : Nat} {row row' : Vec} {rest rest' : List Vec} (h : RedTo m n j rest row row' n) (h2 : Reds m n (j + 1) rest rest') : Reds m n j (row :: rest) (row' :: rest')
theorem RedTo.start {m : Int} {n i : Nat} {rest : List Vec} {row : Vec} (ht : ∀ t, n ≤ t → row t = 0) : RedTo m n i rest row row (i + 1) :=
 ⟨fun _ _ => rfl, ht, InSpan.zero.congr (fun t => by omega), fun t _ h1 h2 => by omega⟩
/-- one more place -/
theorem RedTo.step {m q : Int} {n i k : Nat} {rest : List Vec} {row row1 row2 : Vec} (h : RedTo m n i rest row row1 k) (hik : i < k) (hkn : k < n) (hT : TriL m n (i + 1) rest) (hl : k - (i + 1) < rest.length)
 (hz : ∀ t, t < k → rest[k - (i + 1)] t = 0) (hd : 0 < rest[k - (i + 1)] k) (hrt : ∀ t, n ≤ t → rest[k - (i + 1)] t = 0)
 (hq : q = row1 k / rest[k - (i + 1)] k) (h1 : ∀ t, t < k → row2 t = row1 t) (h2 : row2 k = row1 k - q * rest[k - (i + 1)] k) (h3 : ∀ t, k < t → t < n → m ∣ (row1 t - q * rest[k - (i + 1)] t) - row2 t) (h4 : ∀ t, n ≤ t → row2 t = 0) :
 RedTo m n i rest row row2 (k + 1) := by
 have hm := Int.emod_add_mul_ediv (row1 k) (rest[k - (i + 1)] k)
 have e2 : row2 k = row1 k % rest[k - (i + 1)] k := by
  rw [h2, hq]
  have : row1 k / rest[k - (i + 1)] k * rest[k - (i + 1)] k = rest[k - (i + 1)] k * (row1 k / rest[k - (i + 1)] k) := Int.mul_comm _ _
  omega
 refine ⟨fun t ht => by rw [h1 t (by omega), h.at_ t ht], h4, ?_, fun t hl' hit htk => ?_⟩
 ·have hw : InSpan rest (fun t => (row1 t - q * rest[k - (i + 1)] t) - row2 t) := by
   refine span_of_mod n (k + 1) _ (fun t a b => hT.unit t (by omega) b) (fun t ht => ?_) (fun t ht => ?_) (fun t => ?_)
   ·show row1 t - q * rest[k - (i + 1)] t - row2 t = 0
    rcases Nat.lt_or_ge t k with h5 | h5
    ·rw [h1 t h5, hz t h5]; simp
    ·obtain rfl : t = k := by omega
     rw [h2]; omega
   ·show row1 t - q * rest[k - (i + 1)] t - row2 t = 0
    rw [h4 t ht, hrt t ht, h.top t ht]; simp
   ·show m ∣ row1 t - q * rest[k - (i + 1)] t - row2 t
    rcases Nat.lt_or_ge t (k + 1) with h5 | h5
    ·refine ⟨0, ?_⟩
     rcases Nat.lt_or_ge t k with h6 | h6
     ·rw [h1 t h6, hz t h6]; simp
     ·obtain rfl : t = k := by omega
      rw [h2]; omega
    ·rcases Nat.lt_or_ge t n with h6 | h6
     ·exact h3 t (by omega) h6
     ·exact ⟨0, by rw [h4 t h6, hrt t h6, h.top t h6]; simp⟩
  exact ((h.diff.add ((InSpan.mem (List.getElem_mem hl)).smul q)).add hw).congr (fun t => by
   show row t - row1 t + q * rest[k - (i + 1)] t + (row1 t - q * rest[k - (i + 1)] t - row2 t) = row t - row2 t
   omega)
 ·rcases Nat.lt_or_ge t k with h5 | h5
  ·rw [h1 t h5]
   exact h.red t hl' hit h5
  ·obtain rfl : t = k := by omega
   rw [e2]
   exact ⟨Int.emod_nonneg _ (by omega), Int.emod_lt_of_pos _ hd⟩

theorem TriL.at_ {m : Int} {n : Nat} : ∀ {j : Nat} {L : List Vec}, TriL m n j L → ∀ t (h : t < L.length), (∀ k, k < j + t → L[t] k = 0) ∧ 0 < L[t] (j + t) ∧ (∀ k, n ≤ k → L[t] k = 0)
 | j, r :: rs, ⟨_, h2, h3, h4, _, _⟩, 0, h => ⟨by simpa using h2, by simpa using h3, by simpa using h4⟩
 | j, r :: rs, ⟨_, _, _, _, _, h6⟩, t + 1, h => by
  have := h6.at_ t (by simpa using h)
  rw [show j + 1 + t = j + (t + 1) by omega] at this
  simpa using this
theorem Reds.spec {m : Int} {n : Nat} {j : Nat} {L L' : List Vec} (h : Reds m n j L L') : TriL m n j L →
 L'.length = L.length ∧ (∀ r ∈ L', InSpan L r) ∧ (∀ r ∈ L, InSpan L' r) ∧ (∀ i (h : i < L.length) (h' : i < L'.length), ∀ t, t ≤ j + i → L'[i] t = L[i] t) ∧ (∀ s i (hs : s < L'.length) (hi : i < L.length), s < i → 0 ≤ L'[s] (j + i) ∧ L'[s] (j + i) < L[i] (j + i)) := by
 induction h with
 | nil j => intro _; simp
 | @cons j row row' rest rest' h1 h2 ih =>
  intro ht
  obtain ⟨t1, t2, t3, t4, t5, t6⟩ := ht
  obtain ⟨i1, i2, i3, i4, i5⟩ := ih t6
  refine ⟨by simp [i1], fun r hr => ?_, fun r hr => ?_, fun i hi hi' t htj => ?_, fun s i hs hi hsi => ?_⟩
  ·rcases List.mem_cons.1 hr with rfl | hr
   ·exact ((InSpan.mem (by simp : row ∈ row :: rest)).sub (span_more h1.diff)).congr (fun t => by show row t - (row t - r t) = r t; omega)
   ·exact span_more (i2 r hr)
  ·rcases List.mem_cons.1 hr with rfl | hr
   ·exact ((InSpan.mem (by simp : row' ∈ row' :: rest')).add (span_more (h1.diff.trans i3))).congr (fun t => by show row' t + (r t - row' t) = r t; omega)
   ·exact span_more (i3 r hr)
  ·cases i with
   | zero => exact h1.at_ t (by simpa using htj)
   | succ i => exact i4 i (by simpa using hi) (by simpa using hi') t (by omega)
  ·cases i with
   | zero => omega
   | succ i =>
    have hi2 : i < rest.length := by simpa using hi
    have hlen := t6.len
    cases s with
    | zero =>
     have e : j + (i + 1) - (j + 1) = i := by omega
     have := h1.red (j + (i + 1)) (by omega) (by omega) (by omega)
     have key : ∀ u (hu : u < rest.length), u = i → rest[u] = rest[i] := fun u hu h => by subst h; rfl
     rw [key _ _ e] at this
     simpa using this
    | succ s =>
     have := i5 s i (by simpa using hs) hi2 (by omega)
     rw [show j + 1 + i = j + (i + 1) by omega] at this
     simpa using this
end Go.Proofs.Ytlmbebbdamgfpaa
namespace Go.Proofs.Ytlmbebbdamgfpaa

/-- the state of bezout -/
structure Bez (x y a b now next : Int) : Prop where
 a0 : 0 < a
 b0 : 0 ≤ b
 x0 : 0 ≤ x
 ax : a ≤ x + y
 by_ : b ≤ y
 ca : ∃ k, a = now * x + k * y
 cb : ∃ k, b = next * x + k * y
 sg : ∃ s N M : Int, (s = 1 ∨ s = -1) ∧ 0 ≤ N ∧ 0 ≤ M ∧ now = s * N ∧ next = -(s * M) ∧ N * b + M * a = y ∧ N ≤ y
 dv : ∀ g : Int, g ∣ a → g ∣ b → g ∣ x ∧ g ∣ y
theorem Bez.start {x y : Int} (hx : 0 < x) (hy : 0 < y) : Bez x y x y 1 0 :=
 ⟨hx, by omega, by omega, by omega, by omega, ⟨0, by omega⟩, ⟨1, by omega⟩, ⟨1, 1, 0, .inl rfl, by omega, by omega, by omega, by omega, by omega, by omega⟩, fun g h1 h2 => ⟨h1, h2⟩⟩
theorem Bez.step {x y a b now next : Int} (h : Bez x y a b now next) (hb : b ≠ 0) : Bez x y b (a % b) next (now - a / b * next) := by
 obtain ⟨a0, b0, x0, ax, by_, ⟨k1, ca⟩, ⟨k2, cb⟩, ⟨s, N, M, hs, hN, hM, e1, e2, e3, e4⟩, dv⟩ := h
 have hm := Int.emod_add_mul_ediv a b
 have hq : 0 ≤ a / b := Int.ediv_nonneg (by omega) b0
 have hr := Int.emod_nonneg a hb
 have hr2 := Int.emod_lt_of_pos a (show 0 < b by omega)
 generalize hqe : a / b = q at *
 generalize hre : a % b = r at *
 refine ⟨by omega, hr, x0, by omega, by omega, ⟨k2, cb⟩, ⟨k1 - q * k2, by grind⟩, ⟨-s, M, N + q * M, by omega, hM, ?_, by rw [e2]; grind, by rw [e1, e2]; grind, by grind, ?_⟩, fun g h1 h2 => dv g ?_ h1⟩
 ·have := Int.mul_nonneg hq hM; omega
 ·have h5 : M ≤ M * a := by
   have := Int.mul_le_mul_of_nonneg_left (show 1 ≤ a by omega) hM
   omega
  have := Int.mul_nonneg hN b0
  omega
 ·rw [← hm]
  exact Int.dvd_add h2 (Int.dvd_trans h1 (Int.dvd_mul_right _ _))
/-- what bezout answers -/
structure BezOut (x y g u v : Int) : Prop where
 g0 : 0 < g
 gx : g ∣ x
 gy : g ∣ y
 eq : u * x + v * y = g
 ub : u.natAbs ≤ y.natAbs
 vb : v.natAbs ≤ x.natAbs + 1
theorem Bez.nextB {x y a b now next : Int} (h : Bez x y a b now next) (hy : 0 < y) : next.natAbs ≤ y.natAbs := by
 obtain ⟨a0, b0, x0, ax, by_, ⟨k1, ca⟩, ⟨k2, cb⟩, ⟨s, N, M, hs, hN, hM, e1, e2, e3, e4⟩, dv⟩ := h
 have h5 : M ≤ M * a := by
  have := Int.mul_le_mul_of_nonneg_left (show 1 ≤ a by omega) hM
  omega
 have := Int.mul_nonneg hN b0
 rcases hs with rfl | rfl <;> omega
theorem Bez.nowB {x y a b now next : Int} (h : Bez x y a b now next) (hy : 0 < y) : now.natAbs ≤ y.natAbs := by
 obtain ⟨a0, b0, x0, ax, by_, ⟨k1, ca⟩, ⟨k2, cb⟩, ⟨s, N, M, hs, hN, hM, e1, e2, e3, e4⟩, dv⟩ := h
 rcases hs with rfl | rfl <;> omega
theorem Bez.done {x y a now next : Int} (h : Bez x y a 0 now next) (hx : 0 < x) (hy : 0 < y) : BezOut x y a now ((a - now * x) / y) := by
 have hb := h.nowB hy
 obtain ⟨a0, b0, x0, ax, by_, ⟨k1, ca⟩, ⟨k2, cb⟩, -, dv⟩ := h
 obtain ⟨d1, d2⟩ := dv a (Int.dvd_refl a) (Int.dvd_zero a)
 have hv : (a - now * x) / y = k1 := by
  rw [show a - now * x = k1 * y by omega, Int.mul_ediv_cancel _ (by omega)]
 have hay : a ≤ y := Int.le_of_dvd hy d2
 refine ⟨a0, d1, d2, by rw [hv]; omega, hb, ?_⟩
 rw [hv]
 have h1 : k1 * y = a - now * x := by omega
 have h2 : k1.natAbs * y.natAbs ≤ (x.natAbs + 1) * y.natAbs := by
  rw [← Int.natAbs_mul, h1]
  have h3 : (now * x).natAbs ≤ y.natAbs * x.natAbs := by rw [Int.natAbs_mul]; exact Nat.mul_le_mul_right _ hb
  rw [Nat.add_mul, Nat.one_mul, Nat.mul_comm x.natAbs]
  generalize now * x = P at *
  generalize y.natAbs * x.natAbs = Q at *
  omega
 exact Nat.le_of_mul_le_mul_right h2 (by omega)

/-- a list as a row without end -/
def vec (l : List Int) : Vec := fun j => l[j]?.getD 0
theorem vec_at {l : List Int} {j : Nat} (h : j < l.length) : vec l j = l[j] := by simp [vec, h]
theorem vec_out {l : List Int} {j : Nat} (h : l.length ≤ j) : vec l j = 0 := by simp [vec, h]
theorem vec_set {l : List Int} {j : Nat} (h : j < l.length) (z : Int) (k : Nat) : vec (l.set j z) k = if k = j then z else vec l k := by
 unfold vec
 by_cases e : k = j
 ·subst e; simp [h]
 ·rw [List.getElem?_set_ne (Ne.symm e), if_neg e]
theorem vec_inj {l l' : List Int} (h : l.length = l'.length) (he : ∀ j, vec l j = vec l' j) : l = l' := by
 refine List.ext_getElem h (fun j h1 h2 => ?_)
 have := he j
 rwa [vec_at h1, vec_at h2] at this

/-- the insertion up to the place j -/
def InsTo (m : Int) (n : Nat) (L : List Vec) (a : Vec) (j : Nat) (L2 : List Vec) (a2 : Vec) : Prop :=
 ∀ rest, Ins m n j (L.drop j) a2 rest → Ins m n 0 L a (L2.take j ++ rest)
theorem InsTo.start (m : Int) (n : Nat) (L L2 : List Vec) (a : Vec) : InsTo m n L a 0 L2 a := fun rest h => by simpa using h
theorem InsTo.step {m : Int} {n j : Nat} {L L2 : List Vec} {a a2 a3 row' : Vec} (h : InsTo m n L a j L2 a2) (hj : j < L.length) (hj2 : j < L2.length) (hs : InsStep m n j L[j] a2 row' a3) : InsTo m n L a (j + 1) (L2.set j row') a3 := by
 intro rest hr
 have := h (row' :: rest) (by rw [List.drop_eq_getElem_cons hj]; exact .cons hs hr)
 rw [List.take_succ_eq_append_getElem (by simpa using hj2), List.getElem_set_self, List.take_set_of_le (Nat.le_refl _)]
 simpa using this
theorem InsTo.done {m : Int} {n : Nat} {L L2 : List Vec} {a a2 : Vec} (h : InsTo m n L a L.length L2 a2) (hl : L2.length = L.length) : Ins m n 0 L a L2 := by
 have := h [] (by rw [List.drop_eq_nil_of_le (Nat.le_refl _)]; exact .nil _ _)
 rwa [List.append_nil, List.take_of_length_le (by omega)] at this
end Go.Proofs.Ytlmbebbdamgfpaa
