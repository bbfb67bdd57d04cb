/- Fraction-free elimination: all quotients are exact; plain Lean. -/
import Derived.Test.YtlmbebbdamgfpaaQHLDet
set_option linter.unusedVariables false
set_option linter.unusedSimpArgs false
namespace Go.Proofs.Ytlmbebbdamgfpaa

def fit : List Nat -> List Vec -> Vec -> Vec
 | c :: cs, r :: rs, y => fun j => y c * r j + fit cs rs y j
 | _, _, _ => fun _ => 0
theorem qDH (x : Int) : ∀ (cs : List Nat) (M : List Vec) (u w : Vec) (j : Nat), fit cs M (fun j => x * u j + w j) j = x * fit cs M u j + fit cs M w j
 | [], M, u, w, j => by cases M <;> simp [fit]
 | c :: cs, [], u, w, j => by simp [fit]
 | c :: cs, r :: M, u, w, j => by
  simp only [fit, qDH x cs M u w j, Int.mul_add, Int.add_mul, Int.mul_assoc]; omega
theorem qEu (M : List Vec) (u : Vec) (j : Nat) : fit [] M u j = 0 := by cases M <;> simp [fit]
theorem qCs : ∀ (cs : List Nat) (M : List Vec) (u : Vec) (j : Nat), (∀ c ∈ cs, u c = 0) -> fit cs M u j = 0
 | [], M, u, j, _ => qEu M u j
 | c :: cs, [], u, j, _ => by simp [fit]
 | c :: cs, r :: M, u, j, h => by simp [fit, h c (by simp), qCs cs M u j (fun c hc => h c (by simp [hc]))]
theorem qGi : ∀ (cs : List Nat) (M : List Vec) (u w : Vec) (j : Nat), (∀ c ∈ cs, u c = w c) -> fit cs M u j = fit cs M w j
 | [], M, u, w, j, _ => by rw [qEu, qEu]
 | c :: cs, [], u, w, j, _ => by simp [fit]
 | c :: cs, r :: M, u, w, j, h => by simp [fit, h c (by simp), qGi cs M u w j (fun c hc => h c (by simp [hc]))]
theorem qHL : ∀ (cs : List Nat) (M : List Vec) (c : Nat) (r : Vec) (u : Vec) (j : Nat), cs.length = M.length -> fit (cs ++ [c]) (M ++ [r]) u j = fit cs M u j + u c * r j
 | [], [], c, r, u, j, _ => by simp [fit]
 | c' :: cs, r' :: M, c, r, u, j, h => by simp only [List.cons_append, fit, qHL cs M c r u j (by simpa using h)]; omega
 | [], _ :: _, _, _, _, _, h => by simp at h
 | _ :: _, [], _, _, _, _, h => by simp at h
theorem qI7 (d : Int) : ∀ (cs : List Nat) (M : List Vec) (u : Vec) (j t : Nat) (_ : cs.length = M.length) (ht : t < cs.length), (∀ s (h : s < cs.length), u cs[s] = if s = t then d else 0) -> fit cs M u j = d * (M[t]'(by omega)) j
 | c :: cs, r :: M, u, j, 0, hl, ht, h => by
  have h0 := h 0 (by simp); simp only [List.getElem_cons_zero, if_true] at h0; have h1 : fit cs M u j = 0 := qCs cs M u j (fun c hc => by
   obtain ⟨s, hs, rfl⟩ := List.mem_iff_getElem.1 hc; have := h (s + 1) (by simpa using hs); simpa using this)
  simp [fit, h0, h1]
 | c :: cs, r :: M, u, j, t + 1, hl, ht, h => by
  have h0 := h 0 (by simp); simp only [List.getElem_cons_zero] at h0; rw [if_neg (by omega)] at h0; have h1 := qI7 d cs M u j t (by simpa using hl) (by simpa using ht) (fun s hs => by
   have := h (s + 1) (by simpa using hs); simpa using this)
  simp [fit, h0, h1]
 | c :: cs, [], _, _, _, hl, _, _ => by simp at hl
 | [], _, _, _, _, _, ht, _ => by simp at ht
def qDK (A : List Vec) (v : Vec) : Prop := ∃ (s : Int) (C : List Nat) (R : List Vec), (s = 1 \/ s = -1) /\ C.length < A.length /\ R.length <= A.length /\ (∀ r ∈ R, r ∈ A) /\ ∀ j, v j = s * det (j :: C) R
theorem qDK.span {A : List Vec} {v : Vec} (h : qDK A v) : qAa A v := by
 obtain ⟨s, C, R, _, _, _, hR, hv⟩ := h; refine ((qAa.comb (xco (det C) R) R (fun r hr => qAa.mem (hR r hr))).smul s).congr (fun j => ?_); rw [hv, qDl]
theorem qDK.le {A : List Vec} {v : Vec} (h : qDK A v) (M K : Nat) (hK : A.length <= K) (hM1 : 1 <= M) (hM : ∀ r ∈ A, ∀ j, (r j).natAbs <= M) (j : Nat) : (v j).natAbs <= (K * M) ^ K := by
 obtain ⟨s, C, R, hs, hC, hR, hRA, hv⟩ := h; have h1 := qKt M K (j :: C) R (by omega) (fun r hr => hM r (hRA r hr)); have h2 : (K * M) ^ (j :: C).length <= (K * M) ^ K := Nat.pow_le_pow_right (Nat.mul_pos (by omega) hM1) (by simp; omega); rw [hv, Int.natAbs_mul]; have : s.natAbs = 1 := by rcases hs with rfl | rfl <;> rfl
 rw [this]; omega
theorem qDK.perm {A B : List Vec} {v : Vec} (h : qDK A v) (hl : A.length = B.length) (hm : ∀ r ∈ A, r ∈ B) : qDK B v := by
 obtain ⟨s, C, R, hs, hC, hR, hRA, hv⟩ := h; exact ⟨s, C, R, hs, by omega, by omega, fun r hr => hm r (hRA r hr), hv⟩
structure qBO (A M : List Vec) (ps : List Nat) (d : Int) (col : Nat) : Prop where
 len : M.length = A.length
 le : ps.length <= A.length
 d0 : d ≠ 0
 d1 : d = det ps.reverse (A.take ps.length).reverse
 low : ∀ i (h : i < M.length) (h' : i < A.length), ps.length <= i -> ∀ j, M[i] j = det (j :: ps.reverse) (A[i] :: (A.take ps.length).reverse)
 inv : ∀ i (h : i < M.length) (h' : i < A.length) (j : Nat), d * A[i] j = fit ps (M.take ps.length) A[i] j + if ps.length <= i then M[i] j else 0
 diag : ∀ s t (h : s < M.length) (_ : s < ps.length) (h' : t < ps.length), M[s] ps[t] = if s = t then d else 0
 zero : ∀ i (h : i < M.length), ps.length <= i -> ∀ j, j < col -> M[i] j = 0
 left : ∀ s (h : s < M.length) (h' : s < ps.length), ∀ j, j < ps[s] -> M[s] j = 0
 sorted : ps.Pairwise (· < ·)
 lt : ∀ c ∈ ps, c < col
 minor : ∀ r ∈ M, qDK A r
theorem qBO.start (A : List Vec) : qBO A A [] 1 0 where
 len := rfl
 le := by simp
 d0 := by omega
 d1 := rfl
 low := fun i h h' _ j => by simp [det, xpd]
 inv := fun i h h' j => by simp [qEu]
 diag := fun s t _ h _ => by simp at h
 zero := fun _ _ _ j h => by omega
 left := fun s _ h => by simp at h
 sorted := List.Pairwise.nil
 lt := by simp
 minor := fun r hr => ⟨1, [], [r], .inl rfl, by have := List.length_pos_of_mem hr; simp; omega, by have := List.length_pos_of_mem hr; simp; omega, by simpa using hr, fun j => by simp [det, xpd]⟩
theorem qBO.skip {A M : List Vec} {ps : List Nat} {d : Int} {col : Nat} (h : qBO A M ps d col) (h0 : ∀ i (h : i < M.length), ps.length <= i -> M[i] col = 0) : qBO A M ps d (col + 1) :=
 { h with
  zero := fun i hi hk j hj => by
   rcases Nat.lt_or_ge j col with h1 | h1
   ·exact h.zero i hi hk j h1
   ·obtain rfl : j = col := by omega
    exact h0 i hi hk
  lt := fun c hc => by have := h.lt c hc; omega }
def qAu {α : Type} (l : List α) (a b : Nat) (ha : a < l.length) (hb : b < l.length) : List α := (l.set a l[b]).set b l[a]
section
variable {α : Type} {l : List α} {a b : Nat} {ha : a < l.length} {hb : b < l.length}
theorem qAb : (qAu l a b ha hb).length = l.length := by simp [qAu]
theorem qAq (i : Nat) (hi : i < l.length) : (qAu l a b ha hb)[i]'(by rw [qAb]; exact hi) = if i = b then l[a] else if i = a then l[b] else l[i] := by
 unfold qAu; rw [List.getElem_set]; by_cases h : b = i
 ·rw [if_pos h, if_pos h.symm]
 ·rw [if_neg h, if_neg (Ne.symm h), List.getElem_set]
  by_cases h2 : a = i
  ·rw [if_pos h2, if_pos h2.symm]
  ·rw [if_neg h2, if_neg (Ne.symm h2)]
theorem qDu (k : Nat) (h1 : k <= a) (h2 : k <= b) : (qAu l a b ha hb).take k = l.take k := by
 apply List.ext_getElem
 ·simp [qAb]
 ·intro i hi hi'
  have : i < k := by simp at hi'; omega
  rw [List.getElem_take, List.getElem_take, qAq i (by simp at hi'; omega), if_neg (by omega), if_neg (by omega)]
theorem qBb (x : α) (h : x ∈ qAu l a b ha hb) : x ∈ l := by
 obtain ⟨i, hi, rfl⟩ := List.mem_iff_getElem.1 h; rw [qAq i (by rw [qAb] at hi; exact hi)]
 split
 ·exact List.getElem_mem _
 ·split <;> exact List.getElem_mem _
theorem qEP (x : α) (h : x ∈ l) : x ∈ qAu l a b ha hb := by
 obtain ⟨i, hi, rfl⟩ := List.mem_iff_getElem.1 h; by_cases h1 : i = a
 ·subst h1
  have := List.getElem_mem (l := qAu l i b ha hb) (n := b) (by rw [qAb]; exact hb)
  rwa [qAq b hb, if_pos rfl] at this
 ·by_cases h2 : i = b
  ·subst h2
   have := List.getElem_mem (l := qAu l a i ha hb) (n := a) (by rw [qAb]; exact ha); rw [qAq a ha] at this; by_cases h3 : a = i
   ·exact absurd h3.symm h1
   ·rwa [if_neg h3, if_pos rfl] at this
  ·have := List.getElem_mem (l := qAu l a b ha hb) (n := i) (by rw [qAb]; exact hi)
   rwa [qAq i hi, if_neg h2, if_neg h1] at this
end
theorem qBO.swap {A M : List Vec} {ps : List Nat} {d : Int} {col : Nat} (h : qBO A M ps d col) (a b : Nat) (ha : a < M.length) (hb : b < M.length) (h1 : ps.length <= a) (h2 : ps.length <= b) :
 qBO (qAu A a b (by rw [<- h.len]; exact ha) (by rw [<- h.len]; exact hb)) (qAu M a b ha hb) ps d col where
 len := by rw [qAb, qAb, h.len]
 le := by rw [qAb]; exact h.le
 d0 := h.d0
 d1 := by rw [qDu _ h1 h2]; exact h.d1
 low := fun i hi hi' hk j => by
  rw [qAb] at hi hi'; rw [qDu _ h1 h2, qAq i hi, qAq i hi']
  split
  ·exact h.low a _ _ h1 j
  ·split
   ·exact h.low b _ _ h2 j
   ·exact h.low i _ _ hk j
 inv := fun i hi hi' j => by
  rw [qAb] at hi hi'; rw [qDu _ h1 h2, qAq i hi, qAq i hi']; by_cases e1 : i = b
  ·subst e1
   have := h.inv a ha (by rw [<- h.len]; exact ha) j; rw [if_pos h1] at this; simpa [h2] using this
  ·by_cases e2 : i = a
   ·subst e2
    have := h.inv b hb (by rw [<- h.len]; exact hb) j; rw [if_pos h2] at this; simpa [h1, e1] using this
   ·have := h.inv i hi hi' j
    simpa [e1, e2] using this
 diag := fun s t hs hk hs' => by
  rw [qAb] at hs; rw [qAq s hs, if_neg (by omega), if_neg (by omega)]; exact h.diag s t hs hk hs'
 zero := fun i hi hk j hj => by
  rw [qAb] at hi; rw [qAq i hi]
  split
  ·exact h.zero a _ h1 j hj
  ·split
   ·exact h.zero b _ h2 j hj
   ·exact h.zero i hi hk j hj
 left := fun s hs hk j hj => by
  rw [qAb] at hs; rw [qAq s hs, if_neg (by omega), if_neg (by omega)]; exact h.left s hs hk j hj
 sorted := h.sorted
 lt := h.lt
 minor := fun r hr => (h.minor r (qBb r hr)).perm (by rw [qAb]) (fun r hr => qEP r hr)
theorem qHK {d head : Int} {p : Vec} {col : Nat} (u : Vec) (j : Nat) : ∀ (ps : List Nat) (L L' : List Vec), L.length = L'.length -> (∀ t (h : t < L.length) (h' : t < L'.length) (j : Nat), d * L'[t] j = head * L[t] j - L[t] col * p j) -> d * fit ps L' u j = head * fit ps L u j - fit ps L u col * p j
 | [], L, L', _, _ => by simp [qEu]
 | c :: ps, [], [], _, _ => by simp [fit]
 | c :: ps, r :: L, r' :: L', hl, h => by
  have h0 := h 0 (by simp) (by simp) j; have ih := qHK u j ps L L' (by simpa using hl) (fun t h1 h2 j => by
   have := h (t + 1) (by simpa using h1) (by simpa using h2) j; simpa using this)
  simp only [List.getElem_cons_zero] at h0; simp only [fit]
  grind
 | _ :: _, [], _ :: _, hl, _ => by simp at hl
 | _ :: _, _ :: _, [], hl, _ => by simp at hl
section
variable {A M : List Vec} {ps : List Nat} {d : Int} {col : Nat}
theorem qBO.rel (h : qBO A M ps d col) (q : List Int) (j : Nat) : ∀ (R : List Vec), (∀ r ∈ R, r ∈ A.take ps.length) -> d * comb q R j = fit ps (M.take ps.length) (comb q R) j := by
 induction q with
 | nil => intro R _; cases R <;> simp [comb, qCs]
 | cons x q ih =>
  intro R hR; cases R with
  | nil => simp [comb, qCs]
  | cons r R =>
   have h1 := ih R (fun r hr => hR r (by simp [hr])); obtain ⟨t, ht, hr⟩ := List.mem_iff_getElem.1 (hR r (by simp)); rw [List.length_take] at ht; rw [List.getElem_take] at hr; have h2 := h.inv t (by have := h.len; omega) (by omega) j; rw [if_neg (by omega), hr] at h2; simp only [comb]; rw [qDH, <- h1, Int.mul_add, show d * (x * r j) = x * (d * r j) by grind, h2]
   grind
theorem qBO.rel2 (h : qBO A M ps d col) (q : List Int) (x : Int) (k j : Nat) (hk : k < A.length) (hkm : k < M.length) (hp : ps.length <= k) (R : List Vec) (hR : ∀ r ∈ R, r ∈ A.take ps.length) :
 d * comb (x :: q) (A[k] :: R) j = fit ps (M.take ps.length) (comb (x :: q) (A[k] :: R)) j + x * M[k] j := by
 have h1 := h.rel q j R hR; have h2 := h.inv k hkm hk j; rw [if_pos hp] at h2; simp only [comb]; rw [qDH, <- h1, Int.mul_add, show d * (x * A[k] j) = x * (d * A[k] j) by grind, h2]
 grind
theorem qBO.rel3 (h : qBO A M ps d col) (q : List Int) (x y : Int) (i k j : Nat) (hi : i < A.length) (him : i < M.length) (hpi : ps.length <= i) (hk : k < A.length) (hkm : k < M.length) (hp : ps.length <= k) (R : List Vec) (hR : ∀ r ∈ R, r ∈ A.take ps.length) :
 d * comb (x :: y :: q) (A[i] :: A[k] :: R) j = fit ps (M.take ps.length) (comb (x :: y :: q) (A[i] :: A[k] :: R)) j + x * M[i] j + y * M[k] j := by
 have h1 := h.rel2 q y k j hk hkm hp R hR; have h2 := h.inv i him hi j; rw [if_pos hpi] at h2; rw [show comb (x :: y :: q) (A[i] :: A[k] :: R) = fun j => x * A[i] j + comb (y :: q) (A[k] :: R) j from rfl, qDH]
 show d * (x * A[i] j + comb (y :: q) (A[k] :: R) j) = _
 rw [Int.mul_add, h1, show d * (x * A[i] j) = x * (d * A[i] j) by grind, h2]
 grind
theorem qBO.exact (h : qBO A M ps d col) (hk : ps.length < M.length) (hc : M[ps.length] col ≠ 0) (i : Nat) (hi : i < M.length) (hne : i ≠ ps.length) :
 ∃ Y : Vec, qDK A Y /\ (∀ j, d * Y j = M[ps.length] col * M[i] j - M[i] col * M[ps.length] j) /\
  (ps.length < i -> ∀ j, Y j = det (j :: col :: ps.reverse) ((A[i]'(by rw [<- h.len]; exact hi)) :: (A[ps.length]'(by rw [<- h.len]; exact hk)) :: (A.take ps.length).reverse)) /\
  (∀ hs : i < ps.length, (∀ c ∈ col :: ps, c ≠ ps[i] -> Y c = 0) /\ Y ps[i] = M[ps.length] col) := by
 have hlen := h.len; have hkA : ps.length < A.length := by omega
 have hhead := h.low ps.length hk hkA (Nat.le_refl _) col; have hRR : ∀ r ∈ (A.take ps.length).reverse, r ∈ A.take ps.length := fun r hr => List.mem_reverse.1 hr; have hrl : (A.take ps.length).reverse.length = ps.length := by simp; omega
 have hRA : ∀ r ∈ (A.take ps.length).reverse, r ∈ A := fun r hr => List.mem_of_mem_take (hRR r hr); rcases Nat.lt_or_ge ps.length i with hlt | hge
 ·-- a lower row
  have hiA : i < A.length := by omega
  have hMi := h.low i hi hiA (by omega) col; refine ⟨fun j => det (j :: col :: ps.reverse) (A[i] :: A[ps.length] :: (A.take ps.length).reverse), ?_, fun j => ?_, fun _ j => rfl, fun hs => by omega⟩
  ·refine ⟨1, col :: ps.reverse, A[i] :: A[ps.length] :: (A.take ps.length).reverse, .inl rfl, by simp; omega, by simp; omega, fun r hr => ?_, fun j => by simp⟩
   rcases List.mem_cons.1 hr with rfl | hr
   ·exact List.getElem_mem _
   ·rcases List.mem_cons.1 hr with rfl | hr
    ·exact List.getElem_mem _
    ·exact hRA r hr
  ·have e : xco (det (col :: ps.reverse)) (A[i] :: A[ps.length] :: (A.take ps.length).reverse) = M[ps.length] col :: (-(M[i] col)) :: ((xco (fun l => det (col :: ps.reverse) (A[i] :: A[ps.length] :: l)) (A.take ps.length).reverse).map (fun x => -x)).map (fun x => -x) := by
    rw [hhead, hMi]; rfl
   have h3 := h.rel3 (((xco (fun l => det (col :: ps.reverse) (A[i] :: A[ps.length] :: l)) (A.take ps.length).reverse).map (fun x => -x)).map (fun x => -x)) (M[ps.length] col) (-(M[i] col)) i ps.length j hiA hi (by omega) hkA hk (Nat.le_refl _) _ hRR; rw [<- e] at h3; have h4 : fit ps (M.take ps.length) (comb (xco (det (col :: ps.reverse)) (A[i] :: A[ps.length] :: (A.take ps.length).reverse)) (A[i] :: A[ps.length] :: (A.take ps.length).reverse)) j = 0 := qCs _ _ _ _ (fun c hcm => by
    rw [<- qDl]; exact qFw c _ (by simp [hcm]) _)
   rw [h4] at h3
   show d * det (j :: col :: ps.reverse) (A[i] :: A[ps.length] :: (A.take ps.length).reverse) = _
   rw [qDl, h3]
   grind
 ·-- a row of a pivot
  have hs : i < ps.length := by omega
  have hcol : col ≠ ps[i] := fun e => by have := h.lt ps[i] (List.getElem_mem hs); omega
  obtain ⟨s, hs1, hs2⟩ := qGu ps[i] (col :: ps.reverse) (by simp); have hY0 : ∀ c ∈ col :: ps, c ≠ ps[i] -> s * det (c :: (col :: ps.reverse).erase ps[i]) (A[ps.length] :: (A.take ps.length).reverse) = 0 := by
   intro c hcm hcn; rw [qFw c _ ((List.mem_erase_of_ne hcn).2 (by simpa using hcm))]; simp
  have hY1 : s * det (ps[i] :: (col :: ps.reverse).erase ps[i]) (A[ps.length] :: (A.take ps.length).reverse) = M[ps.length] col := by rw [<- hs2, hhead]
  refine ⟨fun j => s * det (j :: (col :: ps.reverse).erase ps[i]) (A[ps.length] :: (A.take ps.length).reverse), ?_, fun j => ?_, fun h => by omega, fun _ => ⟨hY0, hY1⟩⟩
  ·refine ⟨s, (col :: ps.reverse).erase ps[i], A[ps.length] :: (A.take ps.length).reverse, hs1, ?_, by simp; omega, fun r hr => ?_, fun j => rfl⟩
   ·rw [List.length_erase_of_mem (by simp)]; simp; omega
   ·rcases List.mem_cons.1 hr with rfl | hr
    ·exact List.getElem_mem _
    ·exact hRA r hr
  ·obtain ⟨x, q, hx⟩ : ∃ x q, xco (det ((col :: ps.reverse).erase ps[i])) (A[ps.length] :: (A.take ps.length).reverse) = x :: q := ⟨_, _, rfl⟩
   have hrel : ∀ j, d * (s * det (j :: (col :: ps.reverse).erase ps[i]) (A[ps.length] :: (A.take ps.length).reverse)) = M[ps.length] col * M[i] j + (s * x) * M[ps.length] j := by
    intro j; have h3 := h.rel2 q x ps.length j hkA hk (Nat.le_refl _) _ hRR; rw [<- hx] at h3; have h4 : fit ps (M.take ps.length) (fun j => s * comb (xco (det ((col :: ps.reverse).erase ps[i])) (A[ps.length] :: (A.take ps.length).reverse)) (A[ps.length] :: (A.take ps.length).reverse) j + (fun _ => 0) j) j = M[ps.length] col * M[i] j := by
     have h5 := qI7 (M[ps.length] col) ps (M.take ps.length) (fun j => s * comb (xco (det ((col :: ps.reverse).erase ps[i])) (A[ps.length] :: (A.take ps.length).reverse)) (A[ps.length] :: (A.take ps.length).reverse) j + (fun _ => 0) j) j i (by simp; omega) hs (fun t ht => by
      show s * comb _ _ ps[t] + 0 = _
      rw [<- qDl]
      split
      ·next e => subst e; rw [hY1]; omega
      ·next e =>
       rw [hY0 ps[t] (by simp) (fun e2 => e (by
        rcases Nat.lt_trichotomy t i with h6 | h6 | h6
        ·have := List.pairwise_iff_getElem.1 h.sorted t i ht hs h6; omega
        ·exact h6
        ·have := List.pairwise_iff_getElem.1 h.sorted i t hs ht h6; omega))]
       rfl)
     rw [h5, List.getElem_take]
    rw [qDH, qCs ps _ (fun _ => 0) j (fun _ _ => rfl)] at h4; rw [show det (j :: (col :: ps.reverse).erase ps[i]) (A[ps.length] :: (A.take ps.length).reverse) = _ from qDl _ _ _]
    grind
   have hx2 := hrel col; rw [hY0 col (by simp) hcol] at hx2; have hx3 : s * x = -(M[i] col) := by
    have h7 : M[ps.length] col * (M[i] col + s * x) = 0 := by grind
    rcases Int.mul_eq_zero.1 h7 with h8 | h8
    ·exact absurd h8 hc
    ·omega
   show d * (s * _) = _
   rw [hrel j, hx3]
   grind
theorem qBO.step (h : qBO A M ps d col) (hk : ps.length < M.length) (hc : M[ps.length] col ≠ 0) (M' : List Vec) (hl : M'.length = M.length)
 (hp : ∀ (h' : ps.length < M'.length) (j : Nat), M'[ps.length] j = M[ps.length] j)
 (ho : ∀ i (h : i < M.length) (h' : i < M'.length), i ≠ ps.length -> ∀ j, M'[i] j = (M[ps.length] col * M[i] j - M[i] col * M[ps.length] j) / d) :
 qBO A M' (ps ++ [col]) (M[ps.length] col) (col + 1) := by
 have hlen := h.len; have hkA : ps.length < A.length := by omega
 have hd := h.d0; have hkM' : ps.length < M'.length := by omega
 -- each row is the exact one
 have key : ∀ i (hi : i < M.length) (hi' : i < M'.length), i ≠ ps.length -> qDK A M'[i] /\ (∀ j, d * M'[i] j = M[ps.length] col * M[i] j - M[i] col * M[ps.length] j) /\
  (ps.length < i -> ∀ (h1 : i < A.length) (h2 : ps.length < A.length), ∀ j, M'[i] j = det (j :: col :: ps.reverse) (A[i] :: A[ps.length] :: (A.take ps.length).reverse)) /\
  (∀ hs : i < ps.length, (∀ c ∈ col :: ps, c ≠ ps[i] -> M'[i] c = 0) /\ M'[i] ps[i] = M[ps.length] col) := by
  intro i hi hi' hne; obtain ⟨Y, h1, h2, h3, h4⟩ := h.exact hk hc i hi hne; have he : ∀ j, M'[i] j = Y j := fun j => by rw [ho i hi hi' hne j, <- h2 j, Int.mul_ediv_cancel_left _ hd]
  obtain ⟨s, C, R, g1, g2, g3, g4, g5⟩ := h1; refine ⟨⟨s, C, R, g1, g2, g3, g4, fun j => by rw [he, g5]⟩, fun j => by rw [he, h2], fun hlt _ _ j => by rw [he, h3 hlt j], fun hs => ⟨fun c hcm hcn => by rw [he, (h4 hs).1 c hcm hcn], by rw [he, (h4 hs).2]⟩⟩
 have htk : M'.take (ps.length + 1) = M'.take ps.length ++ [M'[ps.length]] := by rw [List.take_succ_eq_append_getElem hkM']
 have hAk : (A.take (ps.length + 1)).reverse = A[ps.length] :: (A.take ps.length).reverse := by rw [List.take_succ_eq_append_getElem hkA]; simp
 have hrev : (ps ++ [col]).reverse = col :: ps.reverse := by simp
 have hl1 : (ps ++ [col]).length = ps.length + 1 := by simp
 refine ⟨by omega, by rw [hl1]; omega, hc, ?_, ?_, ?_, ?_, ?_, ?_, ?_, ?_, ?_⟩
 ·rw [hrev, hl1, hAk]
  exact h.low ps.length hk hkA (Nat.le_refl _) col
 ·intro i hi hi' hki j
  rw [hl1] at hki; rw [hrev, hl1, hAk]; exact (key i (by omega) hi (by omega)).2.2.1 (by omega) hi' hkA j
 ·intro i hi hi' j
  rw [hl1, htk]; have hfl : ps.length = (M'.take ps.length).length := by simp; omega
  rw [qHL ps (M'.take ps.length) col M'[ps.length] A[i] j hfl]; have hf := qHK (d := d) (head := M[ps.length] col) (p := M[ps.length]) (col := col) A[i] j ps (M.take ps.length) (M'.take ps.length) (by simp; omega) (fun t ht ht' j => by
   rw [List.length_take] at ht; rw [List.getElem_take, List.getElem_take]; exact (key t (by omega) (by omega) (by omega)).2.1 j)
  have h1 := h.inv i (by omega) hi' j; have h2 := h.inv i (by omega) hi' col; rw [hp hkM']; apply Int.eq_of_mul_eq_mul_left hd; rcases Nat.lt_trichotomy i ps.length with hc1 | hc1 | hc1
  ·rw [if_neg (by omega)] at h1 h2 ⊢
   grind
  ·subst hc1
   rw [if_pos (Nat.le_refl _)] at h1 h2; rw [if_neg (by omega)]
   grind
  ·rw [if_pos (by omega)] at h1 h2 ⊢
   have h3 := (key i (by omega) hi (by omega)).2.1 j
   grind
 ·intro s t hs hsk htk'
  rw [hl1] at hsk htk'; rw [List.getElem_append]; by_cases hsp : s = ps.length
  ·subst hsp
   rw [hp]; by_cases htp : t < ps.length
   ·rw [dif_pos htp, if_neg (by omega)]
    exact h.zero _ hk (Nat.le_refl _) _ (h.lt _ (List.getElem_mem _))
   ·rw [dif_neg htp, if_pos (by omega)]
    simp
  ·have hk4 := (key s (by omega) hs hsp).2.2.2 (by omega)
   by_cases htp : t < ps.length
   ·rw [dif_pos htp]
    by_cases hst : s = t
    ·subst hst
     rw [if_pos rfl]; exact hk4.2
    ·rw [if_neg hst]
     refine hk4.1 _ (by simp) (fun e => hst ?_); rcases Nat.lt_trichotomy t s with h6 | h6 | h6
     ·have := List.pairwise_iff_getElem.1 h.sorted t s htp (by omega) h6; omega
     ·exact h6.symm
     ·have := List.pairwise_iff_getElem.1 h.sorted s t (by omega) htp h6; omega
   ·rw [dif_neg htp, if_neg (by omega)]
    have hlt := h.lt ps[s] (List.getElem_mem (by omega)); have := hk4.1 col (by simp) (by omega); simpa using this
 ·intro i hi hki j hj
  rw [hl1] at hki; have h2 := (key i (by omega) hi (by omega)).2.1 j; by_cases hjc : j = col
  ·subst hjc
   have h3 : d * M'[i] j = 0 := by rw [h2]; grind
   exact (Int.mul_eq_zero.1 h3).resolve_left hd
  ·rw [h.zero i (by omega) (by omega) j (by omega), h.zero ps.length hk (Nat.le_refl _) j (by omega)] at h2
   have h3 : d * M'[i] j = 0 := by rw [h2]; simp
   exact (Int.mul_eq_zero.1 h3).resolve_left hd
 ·intro s hs hsk j hj
  rw [hl1] at hsk; rw [List.getElem_append] at hj; by_cases hsp : s < ps.length
  ·rw [dif_pos hsp] at hj
   have hlt := h.lt ps[s] (List.getElem_mem hsp); have h2 := (key s (by omega) hs (by omega)).2.1 j; rw [h.left s (by omega) hsp j hj, h.zero ps.length hk (Nat.le_refl _) j (by omega)] at h2; have h3 : d * M'[s] j = 0 := by rw [h2]; simp
   exact (Int.mul_eq_zero.1 h3).resolve_left hd
  ·rw [dif_neg hsp] at hj
   obtain rfl : s = ps.length := by omega
   rw [hp]; exact h.zero _ hk (Nat.le_refl _) j (by simpa using hj)
 ·exact List.pairwise_append.2 ⟨h.sorted, by simp, fun a ha b hb => by simp at hb; subst hb; exact h.lt a ha⟩
 ·intro c hcm
  rcases List.mem_append.1 hcm with h1 | h1
  ·have := h.lt c h1; omega
  ·simp at h1; omega
 ·intro r hr
  obtain ⟨i, hi, rfl⟩ := List.mem_iff_getElem.1 hr; by_cases hne : i = ps.length
  ·subst hne
   obtain ⟨s, C, R, g1, g2, g3, g4, g5⟩ := h.minor M[ps.length] (List.getElem_mem hk); exact ⟨s, C, R, g1, g2, g3, g4, fun j => by rw [hp, g5]⟩
  ·exact (key i (by omega) hi hne).1
end
end Go.Proofs.Ytlmbebbdamgfpaa
