/- Normal forms of lattices: uniqueness; the normal form from the elimination; plain Lean. -/
import Derived.Test.YtkjhlkngihponaaGreatDoorQVLDet
import Derived.Test.YtkjhlkngihponaaGreatDoorQVWDiv
set_option linter.unusedVariables false
set_option linter.unusedSimpArgs false
set_option maxHeartbeats 8000000
set_option maxRecDepth 100000
namespace Go.Proofs.YtkjhlkngihponaaGreatDoor

def fit : List Nat -> List Vec -> Vec -> Vec
 | c :: cs, r :: rs, y => fun j => y c * r j + fit cs rs y j
 | _, _, _ => fun _ => 0
theorem qDU (x : Int) : ∀ (cs : List Nat) (M : List Vec) (u w : Vec) (j : Nat), fit cs M (fun j => x * u j + w j) j = x * fit cs M u j + fit cs M w j
 | [], M, u, w, j => by cases M <;> simp [fit]
 | c :: cs, [], u, w, j => by simp [fit]
 | c :: cs, r :: M, u, w, j => by
  simp only [fit, qDU x cs M u w j, Int.mul_add, Int.add_mul, Int.mul_assoc]; omega
theorem qE5 (M : List Vec) (u : Vec) (j : Nat) : fit [] M u j = 0 := by cases M <;> simp [fit]
theorem qCg : ∀ (cs : List Nat) (M : List Vec) (u : Vec) (j : Nat), (∀ c ∈ cs, u c = 0) -> fit cs M u j = 0
 | [], M, u, j, _ => qE5 M u j
 | c :: cs, [], u, j, _ => by simp [fit]
 | c :: cs, r :: M, u, j, h => by simp [fit, h c (by simp), qCg cs M u j (fun c hc => h c (by simp [hc]))]
theorem qHc : ∀ (cs : List Nat) (M : List Vec) (u w : Vec) (j : Nat), (∀ c ∈ cs, u c = w c) -> fit cs M u j = fit cs M w j
 | [], M, u, w, j, _ => by rw [qE5, qE5]
 | c :: cs, [], u, w, j, _ => by simp [fit]
 | c :: cs, r :: M, u, w, j, h => by simp [fit, h c (by simp), qHc cs M u w j (fun c hc => h c (by simp [hc]))]
theorem qJk : ∀ (cs : List Nat) (M : List Vec) (c : Nat) (r : Vec) (u : Vec) (j : Nat), cs.length = M.length -> fit (cs ++ [c]) (M ++ [r]) u j = fit cs M u j + u c * r j
 | [], [], c, r, u, j, _ => by simp [fit]
 | c' :: cs, r' :: M, c, r, u, j, h => by simp only [List.cons_append, fit, qJk cs M c r u j (by simpa using h)]; omega
 | [], _ :: _, _, _, _, _, h => by simp at h
 | _ :: _, [], _, _, _, _, h => by simp at h
theorem qLL (d : Int) : ∀ (cs : List Nat) (M : List Vec) (u : Vec) (j t : Nat) (_ : cs.length = M.length) (ht : t < cs.length), (∀ s (h : s < cs.length), u cs[s] = if s = t then d else 0) -> fit cs M u j = d * (M[t]'(by omega)) j
 | c :: cs, r :: M, u, j, 0, hl, ht, h => by
  have h0 := h 0 (by simp); simp only [List.getElem_cons_zero, if_true] at h0; have h1 : fit cs M u j = 0 := qCg cs M u j (fun c hc => by
   obtain ⟨s, hs, rfl⟩ := List.mem_iff_getElem.1 hc; have := h (s + 1) (by simpa using hs); simpa using this)
  simp [fit, h0, h1]
 | c :: cs, r :: M, u, j, t + 1, hl, ht, h => by
  have h0 := h 0 (by simp); simp only [List.getElem_cons_zero] at h0; rw [if_neg (by omega)] at h0; have h1 := qLL d cs M u j t (by simpa using hl) (by simpa using ht) (fun s hs => by
   have := h (s + 1) (by simpa using hs); simpa using this)
  simp [fit, h0, h1]
 | c :: cs, [], _, _, _, hl, _, _ => by simp at hl
 | [], _, _, _, _, _, ht, _ => by simp at ht
def qD0 (A : List Vec) (v : Vec) : Prop := ∃ (s : Int) (C : List Nat) (R : List Vec), (s = 1 \/ s = -1) /\ C.length < A.length /\ R.length <= A.length /\ (∀ r ∈ R, r ∈ A) /\ ∀ j, v j = s * det (j :: C) R
theorem qD0.span {A : List Vec} {v : Vec} (h : qD0 A v) : qAa A v := by
 obtain ⟨s, C, R, _, _, _, hR, hv⟩ := h; refine ((qAa.comb (xco (det C) R) R (fun r hr => qAa.mem (hR r hr))).smul s).congr (fun j => ?_); rw [hv, qDy]
theorem qD0.le {A : List Vec} {v : Vec} (h : qD0 A v) (M K : Nat) (hK : A.length <= K) (hM1 : 1 <= M) (hM : ∀ r ∈ A, ∀ j, (r j).natAbs <= M) (j : Nat) : (v j).natAbs <= (K * M) ^ K := by
 obtain ⟨s, C, R, hs, hC, hR, hRA, hv⟩ := h; have h1 := qNE M K (j :: C) R (by omega) (fun r hr => hM r (hRA r hr)); have h2 : (K * M) ^ (j :: C).length <= (K * M) ^ K := Nat.pow_le_pow_right (Nat.mul_pos (by omega) hM1) (by simp; omega); rw [hv, Int.natAbs_mul]; have : s.natAbs = 1 := by rcases hs with rfl | rfl <;> rfl
 rw [this]; omega
theorem qD0.perm {A B : List Vec} {v : Vec} (h : qD0 A v) (hl : A.length = B.length) (hm : ∀ r ∈ A, r ∈ B) : qD0 B v := by
 obtain ⟨s, C, R, hs, hC, hR, hRA, hv⟩ := h; exact ⟨s, C, R, hs, by omega, by omega, fun r hr => hm r (hRA r hr), hv⟩
structure qBE (A M : List Vec) (ps : List Nat) (d : Int) (col : Nat) : Prop where
 len : M.length = A.length
 le : ps.length <= A.length
 d0 : d ≠ 0
 d1 : d = det ps.reverse (A.take ps.length).reverse
 low : ∀ i (h : i < M.length) (h' : i < A.length), ps.length <= i -> ∀ j, M[i] j = det (j :: ps.reverse) (A[i] :: (A.take ps.length).reverse)
 inv : ∀ i (h : i < M.length) (h' : i < A.length) (j : Nat), d * A[i] j = fit ps (M.take ps.length) A[i] j + if ps.length <= i then M[i] j else 0
 diag : ∀ s t (h : s < M.length) (_ : s < ps.length) (h' : t < ps.length), M[s] ps[t] = if s = t then d else 0
 zero : ∀ i (h : i < M.length), ps.length <= i -> ∀ j, j < col -> M[i] j = 0
 left : ∀ s (h : s < M.length) (h' : s < ps.length), ∀ j, j < ps[s] -> M[s] j = 0
 sorted : ps.Pairwise (· < ·)
 lt : ∀ c ∈ ps, c < col
 minor : ∀ r ∈ M, qD0 A r
theorem qBE.start (A : List Vec) : qBE A A [] 1 0 where
 len := rfl
 le := by simp
 d0 := by omega
 d1 := rfl
 low := fun i h h' _ j => by simp [det, xpd]
 inv := fun i h h' j => by simp [qE5]
 diag := fun s t _ h _ => by simp at h
 zero := fun _ _ _ j h => by omega
 left := fun s _ h => by simp at h
 sorted := List.Pairwise.nil
 lt := by simp
 minor := fun r hr => ⟨1, [], [r], .inl rfl, by have := List.length_pos_of_mem hr; simp; omega, by have := List.length_pos_of_mem hr; simp; omega, by simpa using hr, fun j => by simp [det, xpd]⟩
theorem qBE.skip {A M : List Vec} {ps : List Nat} {d : Int} {col : Nat} (h : qBE A M ps d col) (h0 : ∀ i (h : i < M.length), ps.length <= i -> M[i] col = 0) : qBE A M ps d (col + 1) :=
 { h with
  zero := fun i hi hk j hj => by
   rcases Nat.lt_or_ge j col with h1 | h1
   ·exact h.zero i hi hk j h1
   ·obtain rfl : j = col := by omega
    exact h0 i hi hk
  lt := fun c hc => by have := h.lt c hc; omega }
def qAH {α : Type} (l : List α) (a b : Nat) (ha : a < l.length) (hb : b < l.length) : List α := (l.set a l[b]).set b l[a]
section
variable {α : Type} {l : List α} {a b : Nat} {ha : a < l.length} {hb : b < l.length}
theorem qAi : (qAH l a b ha hb).length = l.length := by simp [qAH]
theorem qAx (i : Nat) (hi : i < l.length) : (qAH l a b ha hb)[i]'(by rw [qAi]; exact hi) = if i = b then l[a] else if i = a then l[b] else l[i] := by
 unfold qAH; rw [List.getElem_set]; by_cases h : b = i
 ·rw [if_pos h, if_pos h.symm]
 ·rw [if_neg h, if_neg (Ne.symm h), List.getElem_set]
  by_cases h2 : a = i
  ·rw [if_pos h2, if_pos h2.symm]
  ·rw [if_neg h2, if_neg (Ne.symm h2)]
theorem qDJ (k : Nat) (h1 : k <= a) (h2 : k <= b) : (qAH l a b ha hb).take k = l.take k := by
 apply List.ext_getElem
 ·simp [qAi]
 ·intro i hi hi'
  have : i < k := by simp at hi'; omega
  rw [List.getElem_take, List.getElem_take, qAx i (by simp at hi'; omega), if_neg (by omega), if_neg (by omega)]
theorem qEC (x : α) (h : x ∈ qAH l a b ha hb) : x ∈ l := by
 obtain ⟨i, hi, rfl⟩ := List.mem_iff_getElem.1 h; rw [qAx i (by rw [qAi] at hi; exact hi)]
 split
 ·exact List.getElem_mem _
 ·split <;> exact List.getElem_mem _
theorem qFF (x : α) (h : x ∈ l) : x ∈ qAH l a b ha hb := by
 obtain ⟨i, hi, rfl⟩ := List.mem_iff_getElem.1 h; by_cases h1 : i = a
 ·subst h1
  have := List.getElem_mem (l := qAH l i b ha hb) (n := b) (by rw [qAi]; exact hb)
  rwa [qAx b hb, if_pos rfl] at this
 ·by_cases h2 : i = b
  ·subst h2
   have := List.getElem_mem (l := qAH l a i ha hb) (n := a) (by rw [qAi]; exact ha); rw [qAx a ha] at this; by_cases h3 : a = i
   ·exact absurd h3.symm h1
   ·rwa [if_neg h3, if_pos rfl] at this
  ·have := List.getElem_mem (l := qAH l a b ha hb) (n := i) (by rw [qAi]; exact hi)
   rwa [qAx i hi, if_neg h2, if_neg h1] at this
end
theorem qBE.swap {A M : List Vec} {ps : List Nat} {d : Int} {col : Nat} (h : qBE A M ps d col) (a b : Nat) (ha : a < M.length) (hb : b < M.length) (h1 : ps.length <= a) (h2 : ps.length <= b) :
 qBE (qAH A a b (by rw [<- h.len]; exact ha) (by rw [<- h.len]; exact hb)) (qAH M a b ha hb) ps d col where
 len := by rw [qAi, qAi, h.len]
 le := by rw [qAi]; exact h.le
 d0 := h.d0
 d1 := by rw [qDJ _ h1 h2]; exact h.d1
 low := fun i hi hi' hk j => by
  rw [qAi] at hi hi'; rw [qDJ _ h1 h2, qAx i hi, qAx i hi']
  split
  ·exact h.low a _ _ h1 j
  ·split
   ·exact h.low b _ _ h2 j
   ·exact h.low i _ _ hk j
 inv := fun i hi hi' j => by
  rw [qAi] at hi hi'; rw [qDJ _ h1 h2, qAx i hi, qAx i hi']; by_cases e1 : i = b
  ·subst e1
   have := h.inv a ha (by rw [<- h.len]; exact ha) j; rw [if_pos h1] at this; simpa [h2] using this
  ·by_cases e2 : i = a
   ·subst e2
    have := h.inv b hb (by rw [<- h.len]; exact hb) j; rw [if_pos h2] at this; simpa [h1, e1] using this
   ·have := h.inv i hi hi' j
    simpa [e1, e2] using this
 diag := fun s t hs hk hs' => by
  rw [qAi] at hs; rw [qAx s hs, if_neg (by omega), if_neg (by omega)]; exact h.diag s t hs hk hs'
 zero := fun i hi hk j hj => by
  rw [qAi] at hi; rw [qAx i hi]
  split
  ·exact h.zero a _ h1 j hj
  ·split
   ·exact h.zero b _ h2 j hj
   ·exact h.zero i hi hk j hj
 left := fun s hs hk j hj => by
  rw [qAi] at hs; rw [qAx s hs, if_neg (by omega), if_neg (by omega)]; exact h.left s hs hk j hj
 sorted := h.sorted
 lt := h.lt
 minor := fun r hr => (h.minor r (qEC r hr)).perm (by rw [qAi]) (fun r hr => qFF r hr)
theorem qJj {d head : Int} {p : Vec} {col : Nat} (u : Vec) (j : Nat) : ∀ (ps : List Nat) (L L' : List Vec), L.length = L'.length -> (∀ t (h : t < L.length) (h' : t < L'.length) (j : Nat), d * L'[t] j = head * L[t] j - L[t] col * p j) -> d * fit ps L' u j = head * fit ps L u j - fit ps L u col * p j
 | [], L, L', _, _ => by simp [qE5]
 | c :: ps, [], [], _, _ => by simp [fit]
 | c :: ps, r :: L, r' :: L', hl, h => by
  have h0 := h 0 (by simp) (by simp) j; have ih := qJj u j ps L L' (by simpa using hl) (fun t h1 h2 j => by
   have := h (t + 1) (by simpa using h1) (by simpa using h2) j; simpa using this)
  simp only [List.getElem_cons_zero] at h0; simp only [fit]
  grind
 | _ :: _, [], _ :: _, hl, _ => by simp at hl
 | _ :: _, _ :: _, [], hl, _ => by simp at hl
section
variable {A M : List Vec} {ps : List Nat} {d : Int} {col : Nat}
theorem qBE.rel (h : qBE A M ps d col) (q : List Int) (j : Nat) : ∀ (R : List Vec), (∀ r ∈ R, r ∈ A.take ps.length) -> d * comb q R j = fit ps (M.take ps.length) (comb q R) j := by
 induction q with
 | nil => intro R _; cases R <;> simp [comb, qCg]
 | cons x q ih =>
  intro R hR; cases R with
  | nil => simp [comb, qCg]
  | cons r R =>
   have h1 := ih R (fun r hr => hR r (by simp [hr])); obtain ⟨t, ht, hr⟩ := List.mem_iff_getElem.1 (hR r (by simp)); rw [List.length_take] at ht; rw [List.getElem_take] at hr; have h2 := h.inv t (by have := h.len; omega) (by omega) j; rw [if_neg (by omega), hr] at h2; simp only [comb]; rw [qDU, <- h1, Int.mul_add, show d * (x * r j) = x * (d * r j) by grind, h2]
   grind
theorem qBE.rel2 (h : qBE A M ps d col) (q : List Int) (x : Int) (k j : Nat) (hk : k < A.length) (hkm : k < M.length) (hp : ps.length <= k) (R : List Vec) (hR : ∀ r ∈ R, r ∈ A.take ps.length) :
 d * comb (x :: q) (A[k] :: R) j = fit ps (M.take ps.length) (comb (x :: q) (A[k] :: R)) j + x * M[k] j := by
 have h1 := h.rel q j R hR; have h2 := h.inv k hkm hk j; rw [if_pos hp] at h2; simp only [comb]; rw [qDU, <- h1, Int.mul_add, show d * (x * A[k] j) = x * (d * A[k] j) by grind, h2]
 grind
theorem qBE.rel3 (h : qBE A M ps d col) (q : List Int) (x y : Int) (i k j : Nat) (hi : i < A.length) (him : i < M.length) (hpi : ps.length <= i) (hk : k < A.length) (hkm : k < M.length) (hp : ps.length <= k) (R : List Vec) (hR : ∀ r ∈ R, r ∈ A.take ps.length) :
 d * comb (x :: y :: q) (A[i] :: A[k] :: R) j = fit ps (M.take ps.length) (comb (x :: y :: q) (A[i] :: A[k] :: R)) j + x * M[i] j + y * M[k] j := by
 have h1 := h.rel2 q y k j hk hkm hp R hR; have h2 := h.inv i him hi j; rw [if_pos hpi] at h2; rw [show comb (x :: y :: q) (A[i] :: A[k] :: R) = fun j => x * A[i] j + comb (y :: q) (A[k] :: R) j from rfl, qDU]
 show d * (x * A[i] j + comb (y :: q) (A[k] :: R) j) = _
 rw [Int.mul_add, h1, show d * (x * A[i] j) = x * (d * A[i] j) by grind, h2]
 grind
theorem qBE.exact (h : qBE A M ps d col) (hk : ps.length < M.length) (hc : M[ps.length] col ≠ 0) (i : Nat) (hi : i < M.length) (hne : i ≠ ps.length) :
 ∃ Y : Vec, qD0 A Y /\ (∀ j, d * Y j = M[ps.length] col * M[i] j - M[i] col * M[ps.length] j) /\
  (ps.length < i -> ∀ j, Y j = det (j :: col :: ps.reverse) ((A[i]'(by rw [<- h.len]; exact hi)) :: (A[ps.length]'(by rw [<- h.len]; exact hk)) :: (A.take ps.length).reverse)) /\
  (∀ hs : i < ps.length, (∀ c ∈ col :: ps, c ≠ ps[i] -> Y c = 0) /\ Y ps[i] = M[ps.length] col) := by
 have hlen := h.len; have hkA : ps.length < A.length := by omega
 have hhead := h.low ps.length hk hkA (Nat.le_refl _) col; have hRR : ∀ r ∈ (A.take ps.length).reverse, r ∈ A.take ps.length := fun r hr => List.mem_reverse.1 hr; have hrl : (A.take ps.length).reverse.length = ps.length := by simp; omega
 have hRA : ∀ r ∈ (A.take ps.length).reverse, r ∈ A := fun r hr => List.mem_of_mem_take (hRR r hr); rcases Nat.lt_or_ge ps.length i with hlt | hge
 ·-- a lower row
  have hiA : i < A.length := by omega
  have hMi := h.low i hi hiA (by omega) col; refine ⟨fun j => det (j :: col :: ps.reverse) (A[i] :: A[ps.length] :: (A.take ps.length).reverse), ?_, fun j => ?_, fun _ j => rfl, fun hs => by omega⟩
  ·refine ⟨1, col :: ps.reverse, A[i] :: A[ps.length] :: (A.take ps.length).reverse, .inl rfl, by simp; omega, by simp; omega, fun r hr => ?_, fun j => by simp⟩
   rcases List.mem_cons.1 hr with rfl | hr
   ·exact List.getElem_mem _
   ·rcases List.mem_cons.1 hr with rfl | hr
    ·exact List.getElem_mem _
    ·exact hRA r hr
  ·have e : xco (det (col :: ps.reverse)) (A[i] :: A[ps.length] :: (A.take ps.length).reverse) = M[ps.length] col :: (-(M[i] col)) :: ((xco (fun l => det (col :: ps.reverse) (A[i] :: A[ps.length] :: l)) (A.take ps.length).reverse).map (fun x => -x)).map (fun x => -x) := by
    rw [hhead, hMi]; rfl
   have h3 := h.rel3 (((xco (fun l => det (col :: ps.reverse) (A[i] :: A[ps.length] :: l)) (A.take ps.length).reverse).map (fun x => -x)).map (fun x => -x)) (M[ps.length] col) (-(M[i] col)) i ps.length j hiA hi (by omega) hkA hk (Nat.le_refl _) _ hRR; rw [<- e] at h3; have h4 : fit ps (M.take ps.length) (comb (xco (det (col :: ps.reverse)) (A[i] :: A[ps.length] :: (A.take ps.length).reverse)) (A[i] :: A[ps.length] :: (A.take ps.length).reverse)) j = 0 := qCg _ _ _ _ (fun c hcm => by
    rw [<- qDy]; exact qGo c _ (by simp [hcm]) _)
   rw [h4] at h3
   show d * det (j :: col :: ps.reverse) (A[i] :: A[ps.length] :: (A.take ps.length).reverse) = _
   rw [qDy, h3]
   grind
 ·-- a row of a pivot
  have hs : i < ps.length := by omega
  have hcol : col ≠ ps[i] := fun e => by have := h.lt ps[i] (List.getElem_mem hs); omega
  obtain ⟨s, hs1, hs2⟩ := qHp ps[i] (col :: ps.reverse) (by simp); have hY0 : ∀ c ∈ col :: ps, c ≠ ps[i] -> s * det (c :: (col :: ps.reverse).erase ps[i]) (A[ps.length] :: (A.take ps.length).reverse) = 0 := by
   intro c hcm hcn; rw [qGo c _ ((List.mem_erase_of_ne hcn).2 (by simpa using hcm))]; simp
  have hY1 : s * det (ps[i] :: (col :: ps.reverse).erase ps[i]) (A[ps.length] :: (A.take ps.length).reverse) = M[ps.length] col := by rw [<- hs2, hhead]
  refine ⟨fun j => s * det (j :: (col :: ps.reverse).erase ps[i]) (A[ps.length] :: (A.take ps.length).reverse), ?_, fun j => ?_, fun h => by omega, fun _ => ⟨hY0, hY1⟩⟩
  ·refine ⟨s, (col :: ps.reverse).erase ps[i], A[ps.length] :: (A.take ps.length).reverse, hs1, ?_, by simp; omega, fun r hr => ?_, fun j => rfl⟩
   ·rw [List.length_erase_of_mem (by simp)]; simp; omega
   ·rcases List.mem_cons.1 hr with rfl | hr
    ·exact List.getElem_mem _
    ·exact hRA r hr
  ·obtain ⟨x, q, hx⟩ : ∃ x q, xco (det ((col :: ps.reverse).erase ps[i])) (A[ps.length] :: (A.take ps.length).reverse) = x :: q := ⟨_, _, rfl⟩
   have hrel : ∀ j, d * (s * det (j :: (col :: ps.reverse).erase ps[i]) (A[ps.length] :: (A.take ps.length).reverse)) = M[ps.length] col * M[i] j + (s * x) * M[ps.length] j := by
    intro j; have h3 := h.rel2 q x ps.length j hkA hk (Nat.le_refl _) _ hRR; rw [<- hx] at h3; have h4 : fit ps (M.take ps.length) (fun j => s * comb (xco (det ((col :: ps.reverse).erase ps[i])) (A[ps.length] :: (A.take ps.length).reverse)) (A[ps.length] :: (A.take ps.length).reverse) j + (fun _ => 0) j) j = M[ps.length] col * M[i] j := by
     have h5 := qLL (M[ps.length] col) ps (M.take ps.length) (fun j => s * comb (xco (det ((col :: ps.reverse).erase ps[i])) (A[ps.length] :: (A.take ps.length).reverse)) (A[ps.length] :: (A.take ps.length).reverse) j + (fun _ => 0) j) j i (by simp; omega) hs (fun t ht => by
      show s * comb _ _ ps[t] + 0 = _
      rw [<- qDy]
      split
      ·next e => subst e; rw [hY1]; omega
      ·next e =>
       rw [hY0 ps[t] (by simp) (fun e2 => e (by
        rcases Nat.lt_trichotomy t i with h6 | h6 | h6
        ·have := List.pairwise_iff_getElem.1 h.sorted t i ht hs h6; omega
        ·exact h6
        ·have := List.pairwise_iff_getElem.1 h.sorted i t hs ht h6; omega))]
       rfl)
     rw [h5, List.getElem_take]
    rw [qDU, qCg ps _ (fun _ => 0) j (fun _ _ => rfl)] at h4; rw [show det (j :: (col :: ps.reverse).erase ps[i]) (A[ps.length] :: (A.take ps.length).reverse) = _ from qDy _ _ _]
    grind
   have hx2 := hrel col; rw [hY0 col (by simp) hcol] at hx2; have hx3 : s * x = -(M[i] col) := by
    have h7 : M[ps.length] col * (M[i] col + s * x) = 0 := by grind
    rcases Int.mul_eq_zero.1 h7 with h8 | h8
    ·exact absurd h8 hc
    ·omega
   show d * (s * _) = _
   rw [hrel j, hx3]
   grind
theorem qBE.step (h : qBE A M ps d col) (hk : ps.length < M.length) (hc : M[ps.length] col ≠ 0) (M' : List Vec) (hl : M'.length = M.length)
 (hp : ∀ (h' : ps.length < M'.length) (j : Nat), M'[ps.length] j = M[ps.length] j)
 (ho : ∀ i (h : i < M.length) (h' : i < M'.length), i ≠ ps.length -> ∀ j, M'[i] j = (M[ps.length] col * M[i] j - M[i] col * M[ps.length] j) / d) :
 qBE A M' (ps ++ [col]) (M[ps.length] col) (col + 1) := by
 have hlen := h.len; have hkA : ps.length < A.length := by omega
 have hd := h.d0; have hkM' : ps.length < M'.length := by omega
 -- each row is the exact one
 have key : ∀ i (hi : i < M.length) (hi' : i < M'.length), i ≠ ps.length -> qD0 A M'[i] /\ (∀ j, d * M'[i] j = M[ps.length] col * M[i] j - M[i] col * M[ps.length] j) /\
  (ps.length < i -> ∀ (h1 : i < A.length) (h2 : ps.length < A.length), ∀ j, M'[i] j = det (j :: col :: ps.reverse) (A[i] :: A[ps.length] :: (A.take ps.length).reverse)) /\
  (∀ hs : i < ps.length, (∀ c ∈ col :: ps, c ≠ ps[i] -> M'[i] c = 0) /\ M'[i] ps[i] = M[ps.length] col) := by
  intro i hi hi' hne; obtain ⟨Y, h1, h2, h3, h4⟩ := h.exact hk hc i hi hne; have he : ∀ j, M'[i] j = Y j := fun j => by rw [ho i hi hi' hne j, <- h2 j, Int.mul_ediv_cancel_left _ hd]
  obtain ⟨s, C, R, g1, g2, g3, g4, g5⟩ := h1; refine ⟨⟨s, C, R, g1, g2, g3, g4, fun j => by rw [he, g5]⟩, fun j => by rw [he, h2], fun hlt _ _ j => by rw [he, h3 hlt j], fun hs => ⟨fun c hcm hcn => by rw [he, (h4 hs).1 c hcm hcn], by rw [he, (h4 hs).2]⟩⟩
 have htk : M'.take (ps.length + 1) = M'.take ps.length ++ [M'[ps.length]] := by rw [List.take_succ_eq_append_getElem hkM']
 have hAk : (A.take (ps.length + 1)).reverse = A[ps.length] :: (A.take ps.length).reverse := by rw [List.take_succ_eq_append_getElem hkA]; simp
 have hrev : (ps ++ [col]).reverse = col :: ps.reverse := by simp
 have hl1 : (ps ++ [col]).length = ps.length + 1 := by simp
 refine ⟨by omega, by rw [hl1]; omega, hc, ?_, ?_, ?_, ?_, ?_, ?_, ?_, ?_, ?_⟩
 ·rw [hrev, hl1, hAk]
  exact h.low ps.length hk hkA (Nat.le_refl _) col
 ·intro i hi hi' hki j
  rw [hl1] at hki; rw [hrev, hl1, hAk]; exact (key i (by omega) hi (by omega)).2.2.1 (by omega) hi' hkA j
 ·intro i hi hi' j
  rw [hl1, htk]; have hfl : ps.length = (M'.take ps.length).length := by simp; omega
  rw [qJk ps (M'.take ps.length) col M'[ps.length] A[i] j hfl]; have hf := qJj (d := d) (head := M[ps.length] col) (p := M[ps.length]) (col := col) A[i] j ps (M.take ps.length) (M'.take ps.length) (by simp; omega) (fun t ht ht' j => by
   rw [List.length_take] at ht; rw [List.getElem_take, List.getElem_take]; exact (key t (by omega) (by omega) (by omega)).2.1 j)
  have h1 := h.inv i (by omega) hi' j; have h2 := h.inv i (by omega) hi' col; rw [hp hkM']; apply Int.eq_of_mul_eq_mul_left hd; rcases Nat.lt_trichotomy i ps.length with hc1 | hc1 | hc1
  ·rw [if_neg (by omega)] at h1 h2 ⊢
   grind
  ·subst hc1
   rw [if_pos (Nat.le_refl _)] at h1 h2; rw [if_neg (by omega)]
   grind
  ·rw [if_pos (by omega)] at h1 h2 ⊢
   have h3 := (key i (by omega) hi (by omega)).2.1 j
   grind
 ·intro s t hs hsk htk'
  rw [hl1] at hsk htk'; rw [List.getElem_append]; by_cases hsp : s = ps.length
  ·subst hsp
   rw [hp]; by_cases htp : t < ps.length
   ·rw [dif_pos htp, if_neg (by omega)]
    exact h.zero _ hk (Nat.le_refl _) _ (h.lt _ (List.getElem_mem _))
   ·rw [dif_neg htp, if_pos (by omega)]
    simp
  ·have hk4 := (key s (by omega) hs hsp).2.2.2 (by omega)
   by_cases htp : t < ps.length
   ·rw [dif_pos htp]
    by_cases hst : s = t
    ·subst hst
     rw [if_pos rfl]; exact hk4.2
    ·rw [if_neg hst]
     refine hk4.1 _ (by simp) (fun e => hst ?_); rcases Nat.lt_trichotomy t s with h6 | h6 | h6
     ·have := List.pairwise_iff_getElem.1 h.sorted t s htp (by omega) h6; omega
     ·exact h6.symm
     ·have := List.pairwise_iff_getElem.1 h.sorted s t (by omega) htp h6; omega
   ·rw [dif_neg htp, if_neg (by omega)]
    have hlt := h.lt ps[s] (List.getElem_mem (by omega)); have := hk4.1 col (by simp) (by omega); simpa using this
 ·intro i hi hki j hj
  rw [hl1] at hki; have h2 := (key i (by omega) hi (by omega)).2.1 j; by_cases hjc : j = col
  ·subst hjc
   have h3 : d * M'[i] j = 0 := by rw [h2]; grind
   exact (Int.mul_eq_zero.1 h3).resolve_left hd
  ·rw [h.zero i (by omega) (by omega) j (by omega), h.zero ps.length hk (Nat.le_refl _) j (by omega)] at h2
   have h3 : d * M'[i] j = 0 := by rw [h2]; simp
   exact (Int.mul_eq_zero.1 h3).resolve_left hd
 ·intro s hs hsk j hj
  rw [hl1] at hsk; rw [List.getElem_append] at hj; by_cases hsp : s < ps.length
  ·rw [dif_pos hsp] at hj
   have hlt := h.lt ps[s] (List.getElem_mem hsp); have h2 := (key s (by omega) hs (by omega)).2.1 j; rw [h.left s (by omega) hsp j hj, h.zero ps.length hk (Nat.le_refl _) j (by omega)] at h2; have h3 : d * M'[s] j = 0 := by rw [h2]; simp
   exact (Int.mul_eq_zero.1 h3).resolve_left hd
  ·rw [dif_neg hsp] at hj
   obtain rfl : s = ps.length := by omega
   rw [hp]; exact h.zero _ hk (Nat.le_refl _) j (by simpa using hj)
 ·exact List.pairwise_append.2 ⟨h.sorted, by simp, fun a ha b hb => by simp at hb; subst hb; exact h.lt a ha⟩
 ·intro c hcm
  rcases List.mem_append.1 hcm with h1 | h1
  ·have := h.lt c h1; omega
  ·simp at h1; omega
 ·intro r hr
  obtain ⟨i, hi, rfl⟩ := List.mem_iff_getElem.1 hr; by_cases hne : i = ps.length
  ·subst hne
   obtain ⟨s, C, R, g1, g2, g3, g4, g5⟩ := h.minor M[ps.length] (List.getElem_mem hk); exact ⟨s, C, R, g1, g2, g3, g4, fun j => by rw [hp, g5]⟩
  ·exact (key i (by omega) hi hne).1
end
open Go.RowKit
theorem Two.only {S : Nat -> Prop} {w w' : World} {b : Nat} {t : TypeId} {x y : Value} (h : Two w b t x y) (ho : qAc S w w') (hn : ¬ S b) : Two w' b t x y := (ho.block b h.lt hn).trans h
theorem One.only {S : Nat -> Prop} {w w' : World} {b : Nat} {t : TypeId} {x : Value} (h : One w b t x) (ho : qAc S w w') (hn : ¬ S b) : One w' b t x := (ho.block b h.lt hn).trans h
theorem qA0 {P : Program} (w : World) {ops : Array Oper} {rest : List Oper} {o : Oper} {a : Act} {Q : Exit -> Act -> World -> Prop}
 (hg : o.guard = none) (l c : Operand) (t : TypeId) (hop : o.op = Op.makeSlice t l c)
 (e : TypeId) (i : TypeInfo) (z : Value) (h1 : P.underlying t = some (.slice e)) (h2 : P.info? e = some i) (h3 : i.zero = some z)
 (kl kc : IntKind) (A C : Int) (n : Nat) (hl : a.eval l = .int kl A) (hc : a.eval c = .int kc C) (hA : A = (n : Int)) (hC : C = (n : Int)) (b2 : i.bytes * n <= 281474976710656) (b3 : n <= 9223372036854775807)
 (hK : ∀ w', qAo w' w.heap.size e (madeCells z.cells (n * i.size)).toList -> Below w.heap.size w w' -> w.heap.size < w'.heap.size -> wpList P ops Q rest (a.put o.dst (.slice (some ⟨w.heap.size, 0, none⟩) n n)) w') :
 wpList P ops Q (o :: rest) a w := by
 refine wpList_make_full w hg l c t hop w.heap.size e i _ i.size h1 h2 h3 rfl kl kc A C n hl hc hA hC b2 (by unfold maxLen; exact b3) (Nat.le_refl _) ?_; intro w' hown hgr; have hblk : qAo w' w.heap.size e (madeCells z.cells (n * i.size)).toList := by
  rcases hown.2 with ⟨hv, _⟩ | ⟨g, cap, cur, hv, _, hb, hn, hm, hs, ht⟩
  ·cases hv
  ·injection hv with hv1 hv2 hv3
   injection hv1 with hv1; injection hv1 with hv1; subst hv1 hv3; unfold qAo; rw [hb]; have : cur.toList = (madeCells z.cells (n * i.size)).toList := by
    rw [<- ht, List.take_of_length_le]; rw [Array.length_toList, hs]; exact Nat.le_refl _
   rw [<- this]
 exact hK w' hblk (qCX hgr) hblk.lt
theorem qDq (z : Array Value) (n : Nat) : (madeCells z n).toList.length = n := by simp [madeCells]
theorem qEY (z : Array Value) (n k : Nat) (hk : k < n) : (madeCells z n).toList[k]? = some z[k % z.size]! := by
 simp [madeCells, hk]
theorem qMN (z : Array Value) (n : Nat) (hz : 0 < z.size) {u : Value} (h : u ∈ (madeCells z n).toList) : u ∈ z := by
 obtain ⟨k, hk, rfl⟩ := List.mem_iff_getElem.1 h; rw [qDq] at hk; have h2 := qEY z n k hk; rw [List.getElem?_eq_getElem (by rw [qDq]; exact hk)] at h2; injection h2 with h2; rw [h2, getElem!_pos z _ (Nat.mod_lt _ hz)]; exact Array.getElem_mem _
theorem qGa (z : Value) (n : Nat) (hz : z.cells = #[z]) : (madeCells z.cells (n * 1)).toList = List.replicate n z := by
 rw [hz]; refine List.ext_getElem? (fun k => ?_); rcases Nat.lt_or_ge k n with h | h
 ·rw [qEY _ _ _ (by omega)]
  simp [h, Nat.mod_one]
 ·rw [List.getElem?_eq_none (by rw [qDq]; omega), List.getElem?_eq_none (by simpa using h)]
theorem qAz.made {w : World} {g n : Nat} (h : qAo w g 73 (madeCells (Value.agg #[.bool false, .slice none 0 0]).cells (n * 2)).toList) : qAz w g (List.replicate n 0) := by
 have hc : (Value.agg #[.bool false, .slice none 0 0]).cells = #[.bool false, .slice none 0 0] := rfl; rw [hc] at h; refine ⟨_, h, by rw [qDq]; simp, fun u hu x => ?_, fun j hj => ?_⟩
 ·have := qMN _ _ (by simp) hu
  simp at this; rcases this with rfl | rfl <;> intro e <;> cases e
 ·simp only [List.length_replicate] at hj
  refine ⟨none, 0, 0, ?_, ?_, ?_⟩
  ·rw [qEY _ _ _ (by omega)]; simp
  ·rw [qEY _ _ _ (by omega)]
   have : (j * 2 + 1) % (#[Value.bool false, Value.slice none 0 0]).size = 1 := by show (j * 2 + 1) % 2 = 1; omega
   rw [this]; rfl
  ·have h0 := qAC w
   simpa using h0
abbrev Rw := Nat × Nat
def rwC (n : Nat) (x : Rw) : Value := .slice (some ⟨x.1, 0, none⟩) n x.2
structure qAy (w : World) (l : List Rw) (n : Nat) (M : List (List Int)) : Prop where
 len : M.length = l.length
 row : ∀ i (h : i < l.length), qAz w l[i].1 (M[i]'(by omega)) /\ (M[i]'(by omega)).length = n
 nodup : ∀ i j (h : i < l.length) (h' : j < l.length), i ≠ j -> l[i].1 ≠ l[j].1
 cap : ∀ i (h : i < l.length), n <= l[i].2 /\ l[i].2 <= 9223372036854775807
section
variable {w w' : World} {B n : Nat} {l : List Rw} {M : List (List Int)}
theorem qAy.nil (w : World) (n : Nat) : qAy w [] n [] := ⟨rfl, fun i h => by simp at h, fun i j h => by simp at h, fun i h => by simp at h⟩
theorem qAy.blw (h : qAy w l n M) (hb : Below w.heap.size w w') : qAy w' l n M :=
 ⟨h.len, fun i hi => ⟨(h.row i hi).1.blw hb, (h.row i hi).2⟩, h.nodup, h.cap⟩
instance : Mv w w' (qAy w l n M) (qAy w' l n M) := ⟨fun hb h => qAy.blw h hb⟩
theorem qAy.only {S : Nat -> Prop} (h : qAy w l n M) (ho : qAc S w w') (hS : ∀ b, S b -> qAh w b) (hr : ∀ i (hi : i < l.length), ¬ S l[i].1) : qAy w' l n M :=
 ⟨h.len, fun i hi => ⟨(h.row i hi).1.only ho hS (hr i hi), (h.row i hi).2⟩, h.nodup, h.cap⟩
theorem qAy.off {g o1 o2 : Nat} {s : Bool} {a : Option Addr} {n' c : Nat} (h : qAy w l n M) (hg : qAh w g) (hr : ∀ i (hi : i < l.length), l[i].1 ≠ g) : qAy (st2 w g o1 o2 s a n' c) l n M :=
 h.only (S := fun b => b = g) ((qAc.refl _ _).off' (.inl rfl)) (fun b e => e ▸ hg) hr
theorem qAy.lt (h : qAy w l n M) (i : Nat) (hi : i < l.length) : l[i].1 < w.heap.size := (h.row i hi).1.lt
theorem qAy.snoc (h : qAy w l n M) {g c : Nat} {zs : List Int} (hr : qAz w g zs) (hz : zs.length = n) (hg : ∀ i (hi : i < l.length), l[i].1 ≠ g) (hc : n <= c) (hc2 : c <= 9223372036854775807) : qAy w (l ++ [(g, c)]) n (M ++ [zs]) := by
 have hl := h.len; refine ⟨by simp [hl], fun i hi => ?_, fun i j hi hj hij => ?_, fun i hi => ?_⟩
 ·simp only [List.length_append, List.length_singleton] at hi
  by_cases e : i < l.length
  ·rw [List.getElem_append_left e, List.getElem_append_left (by omega)]; exact h.row i e
  ·obtain rfl : i = l.length := by omega
   rw [List.getElem_append_right (by omega), List.getElem_append_right (by omega)]; simp only [hl, Nat.sub_self, List.getElem_singleton]; exact ⟨hr, hz⟩
 ·simp only [List.length_append, List.length_singleton] at hi hj
  by_cases e : i < l.length <;> by_cases e2 : j < l.length
  ·rw [List.getElem_append_left e, List.getElem_append_left e2]; exact h.nodup i j e e2 hij
  ·rw [List.getElem_append_left e, List.getElem_append_right (by omega)]
   simpa using hg i e
  ·rw [List.getElem_append_right (by omega), List.getElem_append_left e2]
   simpa using (hg j e2).symm
  ·omega
 ·simp only [List.length_append, List.length_singleton] at hi
  by_cases e : i < l.length
  ·rw [List.getElem_append_left e]; exact h.cap i e
  ·rw [List.getElem_append_right (by omega)]
   simpa using ⟨hc, hc2⟩
theorem qAy.turn {i : Nat} (h : qAy w l n M) (hi : i < l.length) {zs : List Int} (hz : zs.length = n) {S : Nat -> Prop} (hr : qAz w' l[i].1 zs) (ho : qAc S w w') (hS : ∀ b, S b -> qAh w b) (hk : ∀ k (hk : k < l.length), k ≠ i -> ¬ S l[k].1) : qAy w' l n (M.set i zs) := by
 refine ⟨by rw [List.length_set]; exact h.len, fun k hk' => ?_, h.nodup, h.cap⟩; by_cases e : k = i
 ·subst e
  rw [List.getElem_set_self]; exact ⟨hr, hz⟩
 ·rw [List.getElem_set_ne (Ne.symm e)]
  exact ⟨(h.row k hk').1.only ho hS (hk k hk' e), (h.row k hk').2⟩
theorem qGM {n : Nat} {l : List Rw} : ∀ u ∈ l.map (rwC n), ∀ x, u ≠ .int .u32 x := by
 intro u hu x; obtain ⟨y, _, rfl⟩ := List.mem_map.1 hu; intro e; cases e
structure qCn (w : World) (R : Nat) (l : List Rw) (n : Nat) (M : List (List Int)) : Prop where
 blk : qAo w R 77 (l.map (rwC n))
 rows : qAy w l n M
 apart : ∀ i (h : i < l.length), l[i].1 ≠ R
theorem qCn.blw {R : Nat} (h : qCn w R l n M) (hb : Below w.heap.size w w') : qCn w' R l n M := ⟨h.blk.blw hb, h.rows.blw hb, h.apart⟩
instance {R : Nat} : Mv w w' (qCn w R l n M) (qCn w' R l n M) := ⟨fun hb h => qCn.blw h hb⟩
theorem qCn.lt {R : Nat} (h : qCn w R l n M) : R < w.heap.size := h.blk.lt
theorem qCn.len {R : Nat} (h : qCn w R l n M) : M.length = l.length := h.rows.len
theorem qCn.get {R : Nat} (h : qCn w R l n M) (i : Nat) (hi : i < l.length) : w.cell? ⟨R, i, none⟩ = some (.slice (some ⟨l[i].1, 0, none⟩) n l[i].2) := by
 rw [h.blk.cell]; simp [hi, rwC]
theorem qCn.noInt {R : Nat} (h : qCn w R l n M) : qAh w R := h.blk.noInt qGM
theorem qCn.only {R : Nat} {S : Nat -> Prop} (h : qCn w R l n M) (ho : qAc S w w') (hS : ∀ b, S b -> qAh w b) (hB : ¬ S R) (hr : ∀ i (hi : i < l.length), ¬ S l[i].1) : qCn w' R l n M :=
 ⟨h.blk.only ho hB, h.rows.only ho hS hr, h.apart⟩
theorem qCn.turn {R i : Nat} (h : qCn w R l n M) (hi : i < l.length) {zs : List Int} (hz : zs.length = n) {S : Nat -> Prop} (hr : qAz w' l[i].1 zs) (ho : qAc S w w') (hS : ∀ b, S b -> qAh w b) (hR : ¬ S R) (hk : ∀ k (hk : k < l.length), k ≠ i -> ¬ S l[k].1) : qCn w' R l n (M.set i zs) :=
 ⟨h.blk.only ho hR, h.rows.turn hi hz hr ho hS hk, h.apart⟩
end
def WOf (w : World) (v : Value) (zs : List Int) : Prop := qAf 2 (fun W z cs => ∃ s a n c, cs = [.bool s, .slice a n c] /\ qAq W (.agg #[.bool s, .slice a n c]) z) w v zs
theorem WOf.blw {w w' : World} {v : Value} {zs : List Int} (h : WOf w v zs) (hb : Below w.heap.size w w') : WOf w' v zs :=
 qAf.below h hb (fun _ _ ⟨s, a, n, c, e, hw⟩ => ⟨s, a, n, c, e, hw.blw hb⟩)
instance {w w' : World} {v : Value} {zs : List Int} : Mv w w' (WOf w v zs) (WOf w' v zs) := ⟨fun hb h => WOf.blw h hb⟩
theorem qAz.of_ {w : World} {g c : Nat} {zs : List Int} (h : qAz w g zs) (hc : zs.length <= c) (hc2 : c <= 9223372036854775807) : WOf w (.slice (some ⟨g, 0, none⟩) zs.length c) zs := by
 refine ⟨_, c, rfl, hc, hc2, fun _ => ⟨g, rfl, h.lt, fun j hj => ?_⟩⟩; obtain ⟨s, a, n, c, h1, h2, h3⟩ := h.get j hj; refine ⟨_, ⟨s, a, n, c, rfl, h3⟩, rfl, fun i hi => ?_⟩
 match i, hi with
 | 0, _ => simpa using h1
 | 1, _ => simpa using h2
theorem WOf.at_ {w : World} {v : Value} {zs : List Int} (h : WOf w v zs) (j : Nat) (hj : j < zs.length) : ∃ b cap s a n c, v = .slice (some ⟨b, 0, none⟩) zs.length cap /\ b < w.heap.size /\ w.cell? ⟨b, j * 2, none⟩ = some (.bool s) /\ w.cell? ⟨b, j * 2 + 1, none⟩ = some (.slice a n c) /\ qAq w (.agg #[.bool s, .slice a n c]) zs[j] := by
 obtain ⟨b, cap, cs, hv, hb, ⟨s, a, n, c, rfl, hw⟩, _, hc⟩ := qAf.at_ h j hj; have h0 := hc 0 (by omega); have h1 := hc 1 (by omega); exact ⟨b, cap, s, a, n, c, hv, hb, by simpa using h0, by simpa using h1, hw⟩
def qHG (w : World) (v : Value) (M : List (List Int)) : Prop := qAf 1 (fun W r cs => ∃ u, cs = [u] /\ WOf W u r) w v M
theorem qHG.blw {w w' : World} {v : Value} {M : List (List Int)} (h : qHG w v M) (hb : Below w.heap.size w w') : qHG w' v M :=
 qAf.below h hb (fun _ _ ⟨u, e, hu⟩ => ⟨u, e, hu.blw hb⟩)
instance {w w' : World} {v : Value} {M : List (List Int)} : Mv w w' (qHG w v M) (qHG w' v M) := ⟨fun hb h => qHG.blw h hb⟩
theorem qHG.at_ {w : World} {v : Value} {M : List (List Int)} (h : qHG w v M) (j : Nat) (hj : j < M.length) :
 ∃ b cap a c, v = .slice (some ⟨b, 0, none⟩) M.length cap /\ b < w.heap.size /\ w.cell? ⟨b, j, none⟩ = some (.slice a M[j].length c) /\ WOf w (.slice a M[j].length c) M[j] /\ M[j].length <= c /\ c <= 9223372036854775807 := by
 obtain ⟨b, cap, cs, hv, hb, ⟨u, rfl, hu⟩, _, hcell⟩ := qAf.at_ h j hj; obtain ⟨a, c, rfl, h1, h2⟩ := qAf.form hu; have h0 := hcell 0 (by omega); exact ⟨b, cap, a, c, hv, hb, by simpa using h0, hu, h1, h2⟩
theorem qCn.mat {w : World} {R n c : Nat} {l : List Rw} {M : List (List Int)} (h : qCn w R l n M) (hc : l.length <= c) (hc2 : c <= 9223372036854775807) : qHG w (.slice (some ⟨R, 0, none⟩) l.length c) M := by
 refine ⟨_, c, by rw [h.len], by rw [h.len]; exact hc, hc2, fun _ => ⟨R, rfl, h.lt, fun j hj => ?_⟩⟩; have hj' : j < l.length := by rw [<- h.len]; exact hj
 obtain ⟨hr, hl⟩ := h.rows.row j hj'; refine ⟨_, ⟨_, rfl, hr.of_ (c := l[j].2) (by rw [hl]; exact (h.rows.cap j hj').1) (h.rows.cap j hj').2⟩, rfl, fun i hi => ?_⟩; obtain rfl : i = 0 := by omega
 have := h.get j hj'; rw [hl]; simpa using this
section
variable {w : World} {ops : Array Oper} {rest : List Oper} {o : Oper} {a : Act} {Q : Exit -> Act -> World -> Prop} {l c : Operand} {kl kc : IntKind} {A C : Int}
theorem qPR : (Tryz.prog.info? 73).map (fun i => (i.zero, i.size, i.bytes)) = some (some (.agg #[.bool false, .slice none 0 0]), 2, 32) := by kernel_rfl
theorem qNz : (Tryz.prog.info? 77).map (fun i => (i.zero, i.size, i.bytes)) = some (some (.slice none 0 0), 1, 24) := by kernel_rfl
theorem qPl : (Tryz.prog.info? 22).map (fun i => (i.zero, i.size, i.bytes)) = some (some (.slice none 0 0), 1, 24) := by kernel_rfl
theorem qPT : (Tryz.prog.info? 3).map (fun i => (i.zero, i.size, i.bytes)) = some (some (.int .i64 0), 1, 8) := by kernel_rfl
theorem qPS : (Tryz.prog.info? 230).map (fun i => (i.zero, i.size, i.bytes)) = some (some (.agg #[.slice none 0 0, .int .i64 0]), 2, 32) := by kernel_rfl
theorem qBb (hg : o.guard = none) (hop : o.op = Op.makeSlice 77 l c) (n : Nat) (hl : a.eval l = .int kl A) (hc : a.eval c = .int kc C) (hA : A = (n : Int)) (hC : C = (n : Int)) (hn : n <= 1000)
 (hK : ∀ w', qAz w' w.heap.size (List.replicate n 0) -> Below w.heap.size w w' -> w.heap.size < w'.heap.size -> wpList Tryz.prog ops Q rest (a.put o.dst (.slice (some ⟨w.heap.size, 0, none⟩) n n)) w') : wpList Tryz.prog ops Q (o :: rest) a w := by
 obtain ⟨i, hi, hz0, hz1, hz2⟩ := info_parts qPR; refine qA0 w hg l c _ hop 73 i _ Tryz.underlying77 hi hz0 kl kc A C n hl hc hA hC (by rw [hz2]; omega) (by omega) (fun w' h1 h2 h3 => ?_); rw [hz1] at h1; exact hK w' (qAz.made h1) h2 h3
theorem qCj (hg : o.guard = none) (hop : o.op = Op.makeSlice 78 l c) (n : Nat) (hl : a.eval l = .int kl A) (hc : a.eval c = .int kc C) (hA : A = (n : Int)) (hC : C = (n : Int)) (hn : n <= 1000)
 (hK : ∀ w', qAo w' w.heap.size 77 (List.replicate n (.slice none 0 0)) -> Below w.heap.size w w' -> w.heap.size < w'.heap.size -> wpList Tryz.prog ops Q rest (a.put o.dst (.slice (some ⟨w.heap.size, 0, none⟩) n n)) w') : wpList Tryz.prog ops Q (o :: rest) a w := by
 obtain ⟨i, hi, hz0, hz1, hz2⟩ := info_parts qNz; refine qA0 w hg l c _ hop 77 i _ Tryz.underlying78 hi hz0 kl kc A C n hl hc hA hC (by rw [hz2]; omega) (by omega) (fun w' h1 h2 h3 => ?_); rw [hz1, qGa _ _ rfl] at h1; exact hK w' h1 h2 h3
theorem qCq (hg : o.guard = none) (hop : o.op = Op.makeSlice 30 l c) (n : Nat) (hl : a.eval l = .int kl A) (hc : a.eval c = .int kc C) (hA : A = (n : Int)) (hC : C = (n : Int)) (hn : n <= 1000)
 (hK : ∀ w', qAo w' w.heap.size 22 (List.replicate n (.slice none 0 0)) -> Below w.heap.size w w' -> w.heap.size < w'.heap.size -> wpList Tryz.prog ops Q rest (a.put o.dst (.slice (some ⟨w.heap.size, 0, none⟩) n n)) w') : wpList Tryz.prog ops Q (o :: rest) a w := by
 obtain ⟨i, hi, hz0, hz1, hz2⟩ := info_parts qPl; refine qA0 w hg l c _ hop 22 i _ Tryz.underlying30 hi hz0 kl kc A C n hl hc hA hC (by rw [hz2]; omega) (by omega) (fun w' h1 h2 h3 => ?_); rw [hz1, qGa _ _ rfl] at h1; exact hK w' h1 h2 h3
theorem qBv (hg : o.guard = none) (hop : o.op = Op.makeSlice 22 l c) (n : Nat) (hl : a.eval l = .int kl A) (hc : a.eval c = .int kc C) (hA : A = (n : Int)) (hC : C = (n : Int)) (hn : n <= 1000)
 (hK : ∀ w', qAo w' w.heap.size 3 ((List.replicate n 0).map zv) -> Below w.heap.size w w' -> w.heap.size < w'.heap.size -> wpList Tryz.prog ops Q rest (a.put o.dst (.slice (some ⟨w.heap.size, 0, none⟩) n n)) w') : wpList Tryz.prog ops Q (o :: rest) a w := by
 obtain ⟨i, hi, hz0, hz1, hz2⟩ := info_parts qPT; refine qA0 w hg l c _ hop 3 i _ Tryz.underlying22 hi hz0 kl kc A C n hl hc hA hC (by rw [hz2]; omega) (by omega) (fun w' h1 h2 h3 => ?_); rw [hz1, qGa _ _ rfl] at h1; exact hK w' (by rw [List.map_replicate]; exact h1) h2 h3
def lnZ (k : Nat) : List Value := (List.replicate k ()).flatMap (fun _ => [Value.slice none 0 0, .int .i64 0])
theorem qCL (k : Nat) : lnZ (k + 1) = .slice none 0 0 :: .int .i64 0 :: lnZ k := by simp [lnZ, List.replicate_succ]
theorem qIe (k : Nat) : (lnZ k).length = k * 2 := by
 induction k with
 | zero => rfl
 | succ k ih => rw [qCL]; simp [ih]; omega
theorem qLr : ∀ (n k : Nat), k < n * 2 -> (lnZ n)[k]? = some (#[Value.slice none 0 0, .int .i64 0][k % 2]!)
 | n + 1, 0, _ => by rw [qCL]; rfl
 | n + 1, 1, _ => by rw [qCL]; rfl
 | n + 1, k + 2, h => by
  rw [qCL, List.getElem?_cons_succ, List.getElem?_cons_succ, qLr n k (by omega), show (k + 2) % 2 = k % 2 by omega]
theorem qDG (hg : o.guard = none) (hop : o.op = Op.makeSlice 185 l c) (n : Nat) (hl : a.eval l = .int kl A) (hc : a.eval c = .int kc C) (hA : A = (n : Int)) (hC : C = (n : Int)) (hn : n <= 1000)
 (hK : ∀ w', qAo w' w.heap.size 230 (lnZ n) -> Below w.heap.size w w' -> w.heap.size < w'.heap.size -> wpList Tryz.prog ops Q rest (a.put o.dst (.slice (some ⟨w.heap.size, 0, none⟩) n n)) w') : wpList Tryz.prog ops Q (o :: rest) a w := by
 obtain ⟨i, hi, hz0, hz1, hz2⟩ := info_parts qPS; refine qA0 w hg l c _ hop 230 i _ Tryz.underlying185 hi hz0 kl kc A C n hl hc hA hC (by rw [hz2]; omega) (by omega) (fun w' h1 h2 h3 => ?_); have e : (madeCells (Value.agg #[.slice none 0 0, .int .i64 0]).cells (n * 2)).toList = lnZ n := by
  refine List.ext_getElem? (fun k => ?_); rcases Nat.lt_or_ge k (n * 2) with h | h
  ·rw [qEY _ _ _ h, qLr n k h]; rfl
  ·rw [List.getElem?_eq_none (by rw [qDq]; omega), List.getElem?_eq_none (by rw [qIe]; omega)]
 rw [hz1, e] at h1; exact hK w' h1 h2 h3
end
def rwZ (n : Nat) (l : List Rw) (k : Nat) : List Value := l.map (rwC n) ++ List.replicate k (.slice none 0 0)
theorem qGL {n k : Nat} {l : List Rw} : ∀ u ∈ rwZ n l k, ∀ x, u ≠ .int .u32 x := by
 intro u hu x; rcases List.mem_append.1 hu with h | h
 ·exact qGM u h x
 ·rw [(List.mem_replicate.1 h).2]; intro e; cases e
theorem qN3 {n k g : Nat} {l : List Rw} (c : Nat) : (rwZ n l (k + 1)).set l.length (.slice (some ⟨g, 0, none⟩) n c) = rwZ n (l ++ [(g, c)]) k := by
 unfold rwZ; rw [List.set_append_right _ _ (by simp)]; simp [List.replicate_succ, rwC]
theorem qKY {n k i : Nat} {l : List Rw} (hi : i < l.length) : (rwZ n l k)[i]? = some (.slice (some ⟨l[i].1, 0, none⟩) n l[i].2) := by
 unfold rwZ; rw [List.getElem?_append_left (by simpa using hi)]; simp [hi, rwC]
theorem qEI {n k : Nat} {l : List Rw} : (rwZ n l (k + 1))[l.length]? = some (.slice none 0 0) := by
 unfold rwZ; rw [List.getElem?_append_right (by simp)]; simp [List.replicate_succ]
theorem qA6 {S : Nat -> Prop} {B : Nat} {w0 w w' : World} (hb : Below B w0 w) (h : qAc S w w') (hS : ∀ k, S k -> B <= k) (hB : B <= w.heap.size) : Below B w0 w' := qAc.below h hb hB hS
theorem qI4 {n k g j : Nat} {l : List Rw} (c : Nat) (h : l.length = j) : (rwZ n l (k + 1)).set j (.slice (some ⟨g, 0, none⟩) n c) = rwZ n (l ++ [(g, c)]) k := by subst h; exact qN3 c
theorem qCH {α : Type} {P : α -> Prop} {l : List α} {x : α} (h : ∀ k (hk : k < l.length), P l[k]) (hx : P x) : ∀ k (hk : k < (l ++ [x]).length), P ((l ++ [x])[k]) := by
 intro k hk; rw [List.getElem_append]
 split
 ·next h2 => exact h k h2
 ·next h2 => simpa using hx
structure RwX (w : World) (R : Nat) (l : List Rw) (n : Nat) (M : List (List Int)) (j : Nat) : Prop where
 blk : qAo w R 77 (l.map (rwC n))
 len : M.length = l.length
 row : ∀ i (h : i < l.length), i ≠ j -> qAz w l[i].1 (M[i]'(by omega)) /\ (M[i]'(by omega)).length = n
 nodup : ∀ i j (h : i < l.length) (h' : j < l.length), i ≠ j -> l[i].1 ≠ l[j].1
 cap : ∀ i (h : i < l.length), n <= l[i].2 /\ l[i].2 <= 9223372036854775807
 apart : ∀ i (h : i < l.length), l[i].1 ≠ R
section
variable {w w' : World} {R n j : Nat} {l : List Rw} {M : List (List Int)}
theorem qCn.x (h : qCn w R l n M) (j : Nat) : RwX w R l n M j := ⟨h.blk, h.len, fun i hi _ => h.rows.row i hi, h.rows.nodup, h.rows.cap, h.apart⟩
theorem RwX.blw (h : RwX w R l n M j) (hb : Below w.heap.size w w') : RwX w' R l n M j := ⟨h.blk.blw hb, h.len, fun i hi hij => ⟨(h.row i hi hij).1.blw hb, (h.row i hi hij).2⟩, h.nodup, h.cap, h.apart⟩
instance : Mv w w' (RwX w R l n M j) (RwX w' R l n M j) := ⟨fun hb h => RwX.blw h hb⟩
theorem RwX.only {S : Nat -> Prop} (h : RwX w R l n M j) (ho : qAc S w w') (hS : ∀ b, S b -> qAh w b) (hr : ¬ S R /\ ∀ i (hi : i < l.length), i ≠ j -> ¬ S l[i].1) : RwX w' R l n M j :=
 ⟨h.blk.only ho hr.1, h.len, fun i hi hij => ⟨(h.row i hi hij).1.only ho hS (hr.2 i hi hij), (h.row i hi hij).2⟩, h.nodup, h.cap, h.apart⟩
theorem RwX.off {g o1 o2 : Nat} {s : Bool} {a : Option Addr} {n' c : Nat} (h : RwX w R l n M j) (hg : qAh w g) (hr : R ≠ g /\ ∀ i (hi : i < l.length), i ≠ j -> l[i].1 ≠ g) : RwX (st2 w g o1 o2 s a n' c) R l n M j :=
 h.only (S := fun b => b = g) ((qAc.refl _ _).off' (.inl rfl)) (fun b e => e ▸ hg) hr
theorem RwX.lt (h : RwX w R l n M j) : R < w.heap.size := h.blk.lt
theorem RwX.get (h : RwX w R l n M j) (i : Nat) (hi : i < l.length) : w.cell? ⟨R, i, none⟩ = some (.slice (some ⟨l[i].1, 0, none⟩) n l[i].2) := by
 rw [h.blk.cell]; simp [hi, rwC]
theorem RwX.close (h : RwX w R l n M j) (hj : j < l.length) {zs : List Int} (hr : qAz w l[j].1 zs) (hz : zs.length = n) : qCn w R l n (M.set j zs) := by
 refine ⟨h.blk, ⟨by rw [List.length_set]; exact h.len, fun i hi => ?_, h.nodup, h.cap⟩, h.apart⟩; by_cases e : i = j
 ·subst e
  rw [List.getElem_set_self]; exact ⟨hr, hz⟩
 ·rw [List.getElem_set_ne (Ne.symm e)]
  exact h.row i hi e
end
theorem qCn.off9 {w : World} {R n g o1 o2 : Nat} {l : List Rw} {M : List (List Int)} {s : Bool} {a : Option Addr} {n' c : Nat} (h : qCn w R l n M) (hg : qAh w g) (hr : R ≠ g /\ ∀ i (hi : i < l.length), l[i].1 ≠ g) : qCn (st2 w g o1 o2 s a n' c) R l n M :=
 h.only (S := fun b => b = g) ((qAc.refl _ _).off' (.inl rfl)) (fun b e => e ▸ hg) hr.1 hr.2
def qGy (z : Int) : Prop := -9223372036854775808 <= z /\ z <= 9223372036854775807
theorem qDM {z : Int} (h : qGy z) : qA7 z = .tuple #[.int .i64 z, .bool true] := if_pos h
theorem qDL {z : Int} (h : ¬ qGy z) : qA7 z = .tuple #[.int .i64 0, .bool false] := if_neg h
def rwI (x : Nat × Nat) : Value := .slice (some ⟨x.1, 0, none⟩) x.2 x.2
def qKA (l : List (Nat × Nat)) (k : Nat) : List Value := l.map rwI ++ List.replicate k (.slice none 0 0)
theorem qJV {k : Nat} {l : List (Nat × Nat)} : ∀ u ∈ qKA l k, ∀ x, u ≠ .int .u32 x := by
 intro u hu x; rcases List.mem_append.1 hu with h | h
 ·obtain ⟨y, _, rfl⟩ := List.mem_map.1 h
  intro e; cases e
 ·rw [(List.mem_replicate.1 h).2]; intro e; cases e
theorem qMz {k g j : Nat} {l : List (Nat × Nat)} (c : Nat) (h : l.length = j) : (qKA l (k + 1)).set j (.slice (some ⟨g, 0, none⟩) c c) = qKA (l ++ [(g, c)]) k := by
 subst h; unfold qKA; rw [List.set_append_right _ _ (by simp)]; simp [List.replicate_succ, rwI]
theorem qK0 {k i : Nat} {l : List (Nat × Nat)} (hi : i < l.length) : (qKA l k)[i]? = some (.slice (some ⟨l[i].1, 0, none⟩) l[i].2 l[i].2) := by
 unfold qKA; rw [List.getElem?_append_left (by simpa using hi)]; simp [hi, rwI]
theorem qKZ {k j : Nat} {l : List (Nat × Nat)} (h : l.length = j) : (qKA l (k + 1))[j]? = some (.slice none 0 0) := by
 subst h; unfold qKA; rw [List.getElem?_append_right (by simp)]; simp [List.replicate_succ]
theorem qIQ {l : List Int} : ∀ u ∈ l.map zv, ∀ x, u ≠ .int .u32 x := by
 intro u hu x; obtain ⟨y, _, rfl⟩ := List.mem_map.1 hu; intro e; cases e
theorem qOU {r : List Int} {q : Nat} (hq : q < r.length) : ((r.take q ++ (List.replicate r.length 0).drop q).map zv).set q (.int .i64 r[q]) = (r.take (q + 1) ++ (List.replicate r.length 0).drop (q + 1)).map zv := by
 rw [<- qCk (by simp) (by simpa using hq), List.map_set]; rfl
structure qA8 (w : World) (l : List (Nat × Nat)) (M : List (List Int)) : Prop where
 len : M.length = l.length
 row : ∀ i (h : i < l.length), qAo w l[i].1 3 ((M[i]'(by omega)).map zv) /\ (M[i]'(by omega)).length = l[i].2
theorem qA8.nil (w : World) : qA8 w [] [] := ⟨rfl, fun i h => by simp at h⟩
theorem qA8.blw {w w' : World} {l : List (Nat × Nat)} {M : List (List Int)} (h : qA8 w l M) (hb : Below w.heap.size w w') : qA8 w' l M := ⟨h.len, fun i hi => ⟨(h.row i hi).1.blw hb, (h.row i hi).2⟩⟩
instance {w w' : World} {l : List (Nat × Nat)} {M : List (List Int)} : Mv w w' (qA8 w l M) (qA8 w' l M) := ⟨fun hb h => qA8.blw h hb⟩
theorem qA8.only {w w' : World} {S : Nat -> Prop} {l : List (Nat × Nat)} {M : List (List Int)} (h : qA8 w l M) (ho : qAc S w w') (_ : ∀ b, S b -> qAh w b) (hr : ∀ i (hi : i < l.length), ¬ S l[i].1) : qA8 w' l M := ⟨h.len, fun i hi => ⟨(h.row i hi).1.only ho (hr i hi), (h.row i hi).2⟩⟩
theorem qA8.lt {w : World} {l : List (Nat × Nat)} {M : List (List Int)} (h : qA8 w l M) (i : Nat) (hi : i < l.length) : l[i].1 < w.heap.size := (h.row i hi).1.lt
theorem qA8.snoc {w : World} {l : List (Nat × Nat)} {M : List (List Int)} (h : qA8 w l M) {g : Nat} {r : List Int} (hr : qAo w g 3 (r.map zv)) : qA8 w (l ++ [(g, r.length)]) (M ++ [r]) := by
 have hl := h.len; refine ⟨by simp [hl], fun i hi => ?_⟩; simp only [List.length_append, List.length_singleton] at hi; by_cases e : i < l.length
 ·rw [List.getElem_append_left e, List.getElem_append_left (by omega)]; exact h.row i e
 ·obtain rfl : i = l.length := by omega
  rw [List.getElem_append_right (by omega), List.getElem_append_right (by omega)]; simp only [hl, Nat.sub_self, List.getElem_singleton]; exact ⟨hr, trivial⟩
theorem qA8.mat {w : World} {R n : Nat} {l : List (Nat × Nat)} {M : List (List Int)} (h : qA8 w l M) (hb : qAo w R 22 (qKA l 0)) (hc : ∀ r ∈ M, r.length <= 9223372036854775807) (hn : M.length <= n) (hn2 : n <= 9223372036854775807) : qBa w (.slice (some ⟨R, 0, none⟩) M.length n) M := by
 refine ⟨_, n, rfl, hn, hn2, fun _ => ⟨R, rfl, hb.lt, fun j hj => ?_⟩⟩; have hj' : j < l.length := by rw [<- h.len]; exact hj
 obtain ⟨h1, h2⟩ := h.row j hj'; refine ⟨_, ⟨_, rfl, qBR h1 (Nat.le_refl _) (hc _ (List.getElem_mem _))⟩, rfl, fun i hi => ?_⟩; obtain rfl : i = 0 := by omega
 rw [hb.cell, Nat.mul_one, Nat.add_zero, qK0 hj', <- h2]; rfl
theorem qJS (v : Value) (M : List (List Int)) (w0 : World) (h : qHG w0 v M) (hm : M.length <= 1000) (hc : ∀ r ∈ M, r.length <= 1000) (hs : ∀ r ∈ M, ∀ x ∈ r, Sz 16000 x) :
 Calls Tryz.prog 68 #[v] w0 fun e w' => Below w0.heap.size w0 w' /\ ((e = .returned (.tuple #[.slice none 0 0, .int .i64 4]) /\ ∃ r ∈ M, ∃ x ∈ r, ¬ qGy x) \/ ∃ u, e = .returned (.tuple #[u, .int .i64 0]) /\ qBa w' u M /\ ∀ r ∈ M, ∀ x ∈ r, qGy x) := by
 have H := hZ h; obtain ⟨av, cv, rfl, q1, q2⟩ := qAf.form h; have Hc := hZ hc; have Hs := hZ hs; have HB := hZ (Below.refl w0.heap.size w0); clear h hc hs
 go_enter Tryz.func68, Tryz.ntmps68
 go_wp2_with (at_make; refine qCq rfl rfl (M.length) rfl rfl rfl rfl (by omega) ?_)
 intro w1 h_9 hB hlt9; obtain ⟨R, hb⟩ := eX w0.heap.size; rw [hb] at h_9 ⊢; have Ob' := hZ h_9; have hge_R : Hid (w0.heap.size <= R) := hZ (Nat.le_of_eq hb); have hlt_R : Hid (R < w1.heap.size) := hZ (by rw [<- hb]; exact hlt9); clear h_9 hb hlt9; replace HB := bT HB hB; clear hB; have Ob := Ob'; clear Ob'
 go_wp2_with fail
 have HgR : Hid (w0.heap.size <= R) := hZ hge_R.o; clear hge_R hlt_R
 go_loopw [16] (fun i wr => ∃ (j : Nat) (l : List (Nat × Nat)), j <= M.length /\ i = .int .i64 j /\ Hid (l.length = j /\ (∀ k (h : k < l.length), R < l[k].1)) /\ Hid (∀ r ∈ M.take j, ∀ x ∈ r, qGy x) /\ Hid (qAo wr R 22 (qKA l (M.length - j))) /\ Hid (qA8 wr l (M.take j)) /\ Hid (Below w0.heap.size w0 wr)) (fun i _ => M.length - (intOf i).toNat)
 case atStart => exact ⟨0, [], by omega, rfl, hZ ⟨rfl, fun k h => by simp at h⟩, hZ (by simp), hZ (by simpa [qKA] using Ob.o), hZ (qA8.nil _), HB⟩
 case round =>
  clear HB Ob; obtain ⟨j, l, hj, rfl, HL, HF, Ob, II, HB⟩ := hrel; obtain ⟨w1, rfl⟩ := eY wr; by_cases hlt : j < M.length
  ·skip
   obtain ⟨b, cap, a, c, hv, hb, n1, HI, g1, g2⟩ := H.o.at_ j hlt; injection hv with f1 f2 f3; subst f1; clear f2 f3; have HI := hZ HI; have Hr : Hid (M[j].length <= 1000) := hZ (Hc.o _ (List.getElem_mem hlt)); have Hsr : Hid (∀ x ∈ M[j], Sz 16000 x) := hZ (Hs.o _ (List.getElem_mem hlt)); have Hmem : Hid (M[j] ∈ M) := hZ (List.getElem_mem hlt); have HM : Hid (M.take (j + 1) = M.take j ++ [M[j]]) := hZ (by rw [List.take_succ_eq_append_getElem hlt]); replace n1 := (HB.o.cell (p := ⟨b, j, none⟩) hb).trans n1; generalize M[j] = r at *; have hr1 := Hr.o; have i1 : (0 : Int) <= (j : Int) := by omega
   have i2 : (j : Int) < (M.length : Int) := by omega
   go_wp2_with (at_make; refine qBv rfl rfl (r.length) rfl rfl rfl rfl (by omega) ?_)
   intro w2 h_9 hB hlt9; obtain ⟨g, hb⟩ := eX w1.heap.size; rw [hb] at h_9 ⊢; have Oc' := hZ h_9; have hge_g : Hid (w1.heap.size <= g) := hZ (Nat.le_of_eq hb); have hlt_g : Hid (g < w2.heap.size) := hZ (by rw [<- hb]; exact hlt9); have HLg : Hid ((∀ k (h : k < l.length), l[k].1 < g) /\ R < g) := hZ ⟨fun k h => by rw [<- hb]; exact II.o.lt k h, by rw [<- hb]; exact Ob.o.lt⟩; clear h_9 hb hlt9; replace Ob := Ob.b hB; replace II := II.b hB; replace HB := bT HB hB; clear hB; have Oc := Oc'; clear Oc'; have HGG : Hid (w0.heap.size <= g) := hZ (by have := HLg.o.2; have := HgR.o; omega); clear hge_g hlt_g; have Hk : Hid (M.length - j = (M.length - (j + 1)) + 1) := hZ (by omega); rw [Hk.o] at Ob; have e0 : w2.cell? ⟨R, j, none⟩ = some (.slice none 0 0) := (Ob.o.cell j).trans (qKZ HL.o.1); have e2 := Ob.o.frozen (j); obtain ⟨w3, hw⟩ := eX (w2.setCell ⟨R, j, none⟩ (.slice (some ⟨g, 0, none⟩) r.length r.length)); have ho : qAc (fun b => b = R) w2 w3 := by rw [<- hw]; exact (qAc.refl (fun b => b = R) _).set (p := ⟨R, j, none⟩) rfl _
   have hN : ∀ b, b = R -> qAh w2 b := fun b e => e ▸ Ob.o.noInt qJV; replace Ob := hZ ((by have h1 := Ob.o.set j (.slice (some ⟨g, 0, none⟩) r.length r.length); rw [hw, qMz r.length HL.o.1] at h1; exact h1)); replace II := hZ (II.o.only ho hN (fun i hi => by intro (e : _ = R); have := HL.o.2 i hi; omega)); replace Oc := hZ (Oc.o.only ho (by intro (e : _ = R); have := HLg.o.2; omega)); replace HB := hZ (qA6 HB.o ho (fun b e => by have := HgR.o; omega) HB.o.size); clear ho hN
   go_wp2_with fail
   clear hw e0 e2; have HTl : Hid (r.length = (List.replicate r.length (0 : Int)).length) := hZ (by simp)
   go_loopw [29] (fun i wr => ∃ q : Nat, q <= r.length /\ i = .int .i64 q /\ Hid (∀ x ∈ r.take q, qGy x) /\ Hid (qAo wr R 22 (qKA (l ++ [(g, r.length)]) (M.length - (j + 1)))) /\ Hid (qA8 wr l (M.take j)) /\ Hid (qAo wr g 3 ((r.take q ++ (List.replicate r.length 0).drop q).map zv)) /\ Hid (Below w0.heap.size w0 wr)) (fun i _ => r.length - (intOf i).toNat)
   case atStart => exact ⟨0, by omega, rfl, hZ (by simp), Ob, II, hZ (by simpa using Oc.o), HB⟩
   case round =>
    clear Ob II Oc HB; obtain ⟨q, hq, rfl, HFr, Ob, II, Oc, HB⟩ := hrel; obtain ⟨w3, rfl⟩ := eY wr; by_cases hql : q < r.length
    ·skip
     have i3 : (0 : Int) <= (q : Int) := by omega
     have i4 : (q : Int) < (r.length : Int) := by omega
     obtain ⟨b9, c9, s_h, a_h, n_h, c_h, hv9, hb9, d0h, d1h, h_h⟩ := (HI.o.blw HB.o).at_ q hql; injection hv9 with f1 f2 f3; subst f1; clear f2 f3; obtain ⟨z, hz⟩ := eX (r[q]); rw [hz] at h_h; have Vh := hZ h_h; have Sh : Hid (Sz 16000 z) := hZ (hz ▸ Hsr.o _ (List.getElem_mem _)); have Hz := hZ hz; have Hzm : Hid (z ∈ r) := hZ (hz ▸ List.getElem_mem _); clear h_h hz hb9; have hgl := Oc.o.lt; obtain ⟨w4, hw⟩ := eX ((w3.alloc (.cells #[.bool s_h, .slice a_h n_h c_h] 73))); have hB := aB hw; obtain ⟨bh, hb_bh⟩ := eX w3.heap.size; have h9 := Bx.new (w := w3) Vh.o; rw [hw, hb_bh] at h9; have Fh' := hZ h9; have hge_bh : w3.heap.size <= bh := by omega
     clear h9; replace Ob := Ob.b hB; replace II := II.b hB; replace Oc := Oc.b hB; replace Vh := Vh.b hB; replace HB := bT HB hB; have Fh := Fh'; clear Fh'; clear hB; have hgb : g < bh := by omega
     clear hgl; obtain ⟨s_p, a_p, n_p, c_p, t_p, h_p⟩ := Fh.o; have d0p := t_p.cell0; have d1p := t_p.cell1; have Vp := hZ h_p; clear t_p h_p
     go_wp2_with fail
     clear hw hb_bh d0h d1h; clear d0p d1p; by_cases hf : qGy z
     ·skip
      refine (qDk _ _ w4 Vp.o (Sh.o.lim (by omega))).mono ?_; rintro e w5 ⟨he, hB⟩; rw [qDM hf] at he; subst he; replace Ob := Ob.b hB; replace II := II.b hB; replace Oc := Oc.b hB; replace Vh := Vh.b hB; replace Fh := Fh.b hB; replace Vp := Vp.b hB; replace HB := bT HB hB; clear hB; clear Fh Vp Vh; have e0 : w5.cell? ⟨R, j, none⟩ = some (.slice (some ⟨g, 0, none⟩) r.length r.length) := (Ob.o.cell j).trans (by have h1 := HL.o.1; subst h1; rw [qK0 (by simp)]; simp); obtain ⟨u9, e1⟩ : ∃ u, w5.cell? ⟨g, q, none⟩ = some u := ⟨_, (Oc.o.cell q).trans (List.getElem?_eq_getElem (by simp; omega))⟩; have e2 := Oc.o.frozen (q); obtain ⟨w6, hw⟩ := eX (w5.setCell ⟨g, q, none⟩ (.int .i64 z)); have ho : qAc (fun b => b = g) w5 w6 := by rw [<- hw]; exact (qAc.refl (fun b => b = g) _).set (p := ⟨g, q, none⟩) rfl _
      have hN : ∀ b, b = g -> qAh w5 b := fun b e => e ▸ Oc.o.noInt qIQ; replace Oc := hZ ((by have h1 := Oc.o.set q (.int .i64 z); rw [hw] at h1; have h2 := qOU hql; rw [Hz.o] at h2; rw [h2] at h1; exact h1)); replace Ob := hZ (Ob.o.only ho (by intro (e : _ = g); have := HLg.o.2; omega)); replace II := hZ (II.o.only ho hN (fun i hi => by intro (e : _ = g); have := HLg.o.1 i hi; omega)); replace HB := hZ (qA6 HB.o ho (fun b e => by have := HGG.o; omega) HB.o.size); clear ho hN
      go_wp2_with fail
      go_roundw
      case rel => exact ⟨q + 1, by omega, by go_num, hZ (by rw [List.take_succ_eq_append_getElem hql]; intro s hs; rcases List.mem_append.1 hs with h | h; exact HFr.o s h; rw [List.mem_singleton.1 h, Hz.o]; exact hf), Ob, II, Oc, HB⟩
      case measure => simp [intOf]; omega
     ·skip
      refine (qDk _ _ w4 Vp.o (Sh.o.lim (by omega))).mono ?_; rintro e w5 ⟨he, hB⟩; rw [qDL hf] at he; subst he; replace Ob := Ob.b hB; replace II := II.b hB; replace Oc := Oc.b hB; replace Vh := Vh.b hB; replace Fh := Fh.b hB; replace Vp := Vp.b hB; replace HB := bT HB hB; clear hB
      go_wp2_with fail
      exact bodyPost_ret (v := .tuple #[.slice none 0 0, .int .i64 4]) (by simp [results, Tryz.results68, go_sem]) rfl ⟨HB.o, .inl ⟨rfl, r, Hmem.o, z, Hzm.o, hf⟩⟩
    ·skip
     obtain rfl : q = r.length := by omega
     go_wp2_with fail
     go_roundw
     case rel =>
      have hR := Oc.o; rw [List.take_of_length_le (Nat.le_refl _), List.drop_eq_nil_of_le (by simp), List.append_nil] at hR; have hF := HFr.o; rw [List.take_of_length_le (Nat.le_refl _)] at hF; exact ⟨j + 1, l ++ [(g, r.length)], by omega, by go_num, hZ ⟨by have := HL.o.1; simp; omega, qCH (P := fun (x : Nat × Nat) => R < x.1) HL.o.2 HLg.o.2⟩, hZ (by rw [HM.o]; intro s hs; rcases List.mem_append.1 hs with h | h; exact HF.o s h; rw [List.mem_singleton.1 h]; exact hF), Ob, hZ (by rw [HM.o]; exact II.o.snoc hR), HB⟩
     case measure => simp [intOf]; omega
  ·skip
   obtain rfl : j = M.length := by omega
   go_wp2_with fail
   have h1 := Ob.o; rw [Nat.sub_self] at h1; have h2 := II.o; rw [List.take_of_length_le (Nat.le_refl _)] at h2; have h3 := HF.o; rw [List.take_of_length_le (Nat.le_refl _)] at h3; exact bodyPost_ret (v := .tuple #[.slice (some ⟨R, 0, none⟩) M.length M.length, .int .i64 0]) (by simp [results, Tryz.results68, go_sem]) rfl ⟨HB.o, .inr ⟨_, rfl, h2.mat h1 (fun r hr => by have := Hc.o r hr; omega) (Nat.le_refl _) (by omega), h3⟩⟩
def qCD (r : Vec) (c : Nat) : Prop := (∀ j, j < c -> r j = 0) /\ r c ≠ 0
theorem qCD.uniq {r : Vec} {c e : Nat} (h : qCD r c) (h2 : qCD r e) : c = e := by
 rcases Nat.lt_trichotomy c e with h3 | h3 | h3
 ·exact absurd (h2.1 c h3) h.2
 ·exact h3
 ·exact absurd (h.1 e h3) h2.2
def Nrm : Nat -> List Vec -> Prop
 | _, [] => True
 | lo, r :: rs => ∃ c, lo <= c /\ qCD r c /\ 0 < r c /\ Nrm (c + 1) rs /\ ∀ s ∈ rs, ∀ e, qCD s e -> 0 <= r e /\ r e < s e
theorem Nrm.low : ∀ {lo : Nat} {B : List Vec} {v : Vec}, Nrm lo B -> qAa B v -> ∀ j, j < lo -> v j = 0
 | lo, [], v, _, h, j, _ => by
  obtain ⟨q, hq⟩ := h; rw [hq]; cases q <;> simp [comb]
 | lo, r :: rs, v, ⟨c, h1, h2, h3, h4, _⟩, h, j, hj => by
  obtain ⟨q, hq⟩ := h; rw [hq]; cases q with
  | nil => simp [comb]
  | cons x q =>
   have := Nrm.low h4 (v := comb q rs) ⟨q, fun _ => rfl⟩ j (by omega); simp [comb, this, h2.1 j (by omega)]
theorem qCt {r : Vec} {rs : List Vec} {v : Vec} (h : qAa (r :: rs) v) : ∃ x w, qAa rs w /\ ∀ j, v j = x * r j + w j := by
 obtain ⟨q, hq⟩ := h; cases q with
 | nil => exact ⟨0, fun _ => 0, qAa.zero, fun j => by rw [hq]; simp [comb]⟩
 | cons x q => exact ⟨x, comb q rs, ⟨q, fun _ => rfl⟩, fun j => by rw [hq]; simp [comb]⟩
theorem qBg {r : Vec} {rs : List Vec} {v : Vec} (h : qAa rs v) : qAa (r :: rs) v := h.trans (fun r hr => qAa.mem (by simp [hr]))
theorem Nrm.tail {c : Nat} {r : Vec} {rs : List Vec} {v : Vec} (hp : r c ≠ 0) (h : Nrm (c + 1) rs) (hv : qAa (r :: rs) v) (h0 : v c = 0) : qAa rs v := by
 obtain ⟨x, w, hw, he⟩ := qCt hv; have h1 := he c; rw [h0, h.low hw c (by omega)] at h1; have h2 : x * r c = 0 := by omega
 obtain rfl := (Int.mul_eq_zero.1 h2).resolve_right hp; exact hw.congr (fun j => by rw [he]; simp)
theorem Nrm.small : ∀ {lo : Nat} {B : List Vec} {w : Vec}, Nrm lo B -> qAa B w -> (∀ s ∈ B, ∀ e, qCD s e -> w e < s e /\ -(w e) < s e) -> ∀ j, w j = 0
 | lo, [], w, _, h, _, j => by
  obtain ⟨q, hq⟩ := h; rw [hq]; cases q <;> simp [comb]
 | lo, r :: rs, w, ⟨c, h1, h2, h3, h4, _⟩, h, hs, j => by
  obtain ⟨x, u, hu, he⟩ := qCt h; have h5 := hs r (by simp) c h2; have h6 : w c = x * r c := by rw [he, h4.low hu c (by omega)]; omega
  rw [h6] at h5; have hx : x = 0 := by
   rcases Int.lt_trichotomy x 0 with hx | hx | hx
   ·have : r c * 1 <= r c * (-x) := Int.mul_le_mul_of_nonneg_left (by omega) (by omega)
    have e : -(x * r c) = r c * (-x) := by grind
    omega
   ·exact hx
   ·have : r c * 1 <= r c * x := Int.mul_le_mul_of_nonneg_left (by omega) (by omega)
    have e : x * r c = r c * x := by grind
    omega
  subst hx; have he' : ∀ j, w j = u j := fun j => by rw [he]; simp
  rw [he']; exact h4.small hu (fun s hsm e hp => by rw [<- he']; exact hs s (by simp [hsm]) e hp) j
theorem qCG {v : Vec} (h : qAa [] v) (j : Nat) : v j = 0 := by
 obtain ⟨q, hq⟩ := h; rw [hq]; cases q <;> simp [comb]
theorem Nrm.pivot_le {lo lo' c : Nat} {r : Vec} {B : List Vec} (hr : qCD r c) (h : qAa B r) (hB : Nrm lo' B) : lo' <= c := by
 rcases Nat.lt_or_ge c lo' with h1 | h1
 ·exact absurd (hB.low h c h1) hr.2
 ·exact h1
theorem Nrm.uniq : ∀ {lo lo' : Nat} {B B' : List Vec}, Nrm lo B -> Nrm lo' B' -> (∀ v, qAa B v -> qAa B' v) -> (∀ v, qAa B' v -> qAa B v) -> B = B'
 | _, _, [], [], _, _, _, _ => rfl
 | _, _, r :: rs, [], ⟨c, _, h, _⟩, _, h1, _ => absurd (qCG (h1 r (qAa.mem (by simp))) c) h.2
 | _, _, [], r :: rs, _, ⟨c, _, h, _⟩, _, h2 => absurd (qCG (h2 r (qAa.mem (by simp))) c) h.2
 | lo, lo', r :: rs, r' :: rs', ⟨c, a1, a2, a3, a4, a5⟩, ⟨c', b1, b2, b3, b4, b5⟩, h1, h2 => by
  have hr' : qAa (r' :: rs') r := h1 r (qAa.mem (by simp)); have hr : qAa (r :: rs) r' := h2 r' (qAa.mem (by simp)); have nB : Nrm c (r :: rs) := ⟨c, Nat.le_refl _, a2, a3, a4, a5⟩; have nB' : Nrm c' (r' :: rs') := ⟨c', Nat.le_refl _, b2, b3, b4, b5⟩; obtain rfl : c = c' := by
   have e1 := Nrm.pivot_le (lo := 0) a2 hr' nB'; have e2 := Nrm.pivot_le (lo := 0) b2 hr nB; omega
  obtain ⟨x, w, hw, he⟩ := qCt hr'; obtain ⟨y, u, hu, hf⟩ := qCt hr; have e1 : r c = x * r' c := by rw [he, b4.low hw c (by omega)]; omega
  have e2 : r' c = y * r c := by rw [hf, a4.low hu c (by omega)]; omega
  have hx0 : 0 < x := by
   rcases Int.lt_or_le 0 x with h | h
   ·exact h
   ·have := Int.mul_nonneg (show 0 <= -x by omega) (show 0 <= r' c by omega)
    have e : -x * r' c = -(x * r' c) := Int.neg_mul _ _; omega
  have hy0 : 0 < y := by
   rcases Int.lt_or_le 0 y with h | h
   ·exact h
   ·have := Int.mul_nonneg (show 0 <= -y by omega) (show 0 <= r c by omega)
    have e : -y * r c = -(y * r c) := Int.neg_mul _ _; omega
  have hle1 : r' c <= r c := by
   have : 1 * r' c <= x * r' c := Int.mul_le_mul_of_nonneg_right (by omega) (by omega); omega
  have hle2 : r c <= r' c := by
   have : 1 * r c <= y * r c := Int.mul_le_mul_of_nonneg_right (by omega) (by omega); omega
  have hcc : r c = r' c := by omega
  have t1 : ∀ v, qAa rs v -> qAa rs' v := fun v hv => b4.tail b2.2 (h1 v (qBg hv)) (a4.low hv c (by omega)); have t2 : ∀ v, qAa rs' v -> qAa rs v := fun v hv => a4.tail a2.2 (h2 v (qBg hv)) (b4.low hv c (by omega)); obtain rfl := Nrm.uniq a4 b4 t1 t2; have hd : qAa rs (fun j => r j - r' j) := b4.tail b2.2 (hr'.sub (qAa.mem (by simp))) (by show r c - r' c = 0; omega); have h0 := a4.small hd (fun s hs e hp => by
   have g1 := a5 s hs e hp; have g2 := b5 s hs e hp
   show r e - r' e < s e /\ -(r e - r' e) < s e
   omega)
  have : r = r' := funext (fun j => by have : r j - r' j = 0 := h0 j; omega); rw [this]
def res (ps : List Nat) (v : Vec) : Vec := fun t => if h : t < ps.length then v ps[t] else 0
theorem qF2 (ps : List Nat) : ∀ (q : List Int) (A : List Vec) (t : Nat), res ps (comb q A) t = comb q (A.map (res ps)) t
 | [], A, t => by cases A <;> simp [res, comb]
 | x :: q, [], t => by simp [res, comb]
 | x :: q, r :: A, t => by
  have := qF2 ps q A t; unfold res at this ⊢; simp only [List.map_cons, comb]
  split
  ·next h => rw [dif_pos h] at this; rw [this]
  ·next h => rw [dif_neg h] at this; rw [<- this]; simp
def qA3 (u : Vec) : List Vec -> Nat -> Vec
 | [], _ => fun _ => 0
 | r :: M, s => fun j => u s * r j + qA3 u M (s + 1) j
theorem qLM (ps : List Nat) (v : Vec) (j : Nat) : ∀ (n s : Nat) (M : List Vec), s + n = ps.length -> M.length = n -> fit (ps.drop s) M v j = qA3 (res ps v) M s j
 | 0, s, M, h1, h2 => by
  obtain rfl := List.eq_nil_of_length_eq_zero h2; rw [List.drop_eq_nil_of_le (by omega)]; rfl
 | n + 1, s, r :: M, h1, h2 => by
  rw [List.drop_eq_getElem_cons (show s < ps.length by omega)]; simp only [fit, qA3]; rw [qLM ps v j n (s + 1) M (by omega) (by simpa using h2)]; simp [res, show s < ps.length by omega]
 | n + 1, s, [], h1, h2 => by simp at h2
theorem qB6 (u u' : Vec) (j : Nat) : ∀ (M : List Vec) (s : Nat), (∀ t, s <= t -> t < s + M.length -> u t = u' t) -> qA3 u M s j = qA3 u' M s j
 | [], s, _ => rfl
 | r :: M, s, h => by
  simp only [qA3]; rw [h s (Nat.le_refl _) (by simp), qB6 u u' j M (s + 1) (fun t h1 h2 => h t (by omega) (by simp; omega))]
theorem qBd (u : Vec) (j : Nat) : ∀ (M : List Vec) (s : Nat), (∀ t (h : t < M.length), u (s + t) * M[t] j = 0) -> qA3 u M s j = 0
 | [], s, _ => rfl
 | r :: M, s, h => by
  simp only [qA3]; have h0 := h 0 (by simp); simp only [Nat.add_zero, List.getElem_cons_zero] at h0; rw [h0, qBd u j M (s + 1) (fun t ht => by
   have := h (t + 1) (by simpa using ht); rw [show s + 1 + t = s + (t + 1) by omega]; simpa using this)]
  rfl
structure Tri (n : Nat) (Sq : List Vec) (R : List Vec) : Prop where
 len : Sq.length = n
 low : ∀ i (h : i < Sq.length), ∀ t, t < i -> Sq[i] t = 0
 pos : ∀ i (h : i < Sq.length), 0 < Sq[i] i
 red : ∀ s i (h : i < Sq.length) (_ : s < i), 0 <= (Sq[s]'(by omega)) i /\ (Sq[s]'(by omega)) i < Sq[i] i
 into : ∀ r ∈ Sq, qAa R r
 onto : ∀ r ∈ R, qAa Sq r
section
variable {A M Sq V : List Vec} {ps : List Nat} {d : Int} {col : Nat}
theorem qBE.coord (h : qBE A M ps d col) (h0 : ∀ i (h : i < M.length), ps.length <= i -> ∀ j, M[i] j = 0) {v : Vec} (hv : qAa A v) (j : Nat) : d * v j = qA3 (res ps v) (M.take ps.length) 0 j := by
 have key : d * v j = fit ps (M.take ps.length) v j := by
  refine hv.lin (P := fun v => d * v j = fit ps (M.take ps.length) v j) ?_ ?_ ?_ ?_
  ·rw [qCg _ _ _ _ (fun _ _ => rfl)]; simp
  ·intro x u w hu hw
   simp only [] at hu hw ⊢; rw [qDU, <- hu, <- hw]
   grind
  ·intro u w he hu
   show d * w j = fit ps (M.take ps.length) w j
   rw [<- he j, hu, qHc _ _ _ _ _ (fun c _ => he c)]
  ·intro r hr
   obtain ⟨i, hi, rfl⟩ := List.mem_iff_getElem.1 hr; have h1 := h.inv i (by rw [h.len]; exact hi) hi j; rw [h1]
   split
   ·next hk => rw [h0 i _ hk j]; omega
   ·omega
 rw [key]; have := qLM ps v j ps.length 0 (M.take ps.length) (by omega) (by have := h.len; have := h.le; simp; omega); simpa using this
structure qOS (V Sq M : List Vec) (k : Nat) (d : Int) : Prop where
 len : V.length = Sq.length
 eq : ∀ i (h : i < V.length) (h' : i < Sq.length) (j : Nat), V[i] j = qA3 Sq[i] (M.take k) 0 j / d
theorem qBE.extd (h : qBE A M ps d col) (h0 : ∀ i (h : i < M.length), ps.length <= i -> ∀ j, M[i] j = 0) (ht : Tri ps.length Sq (A.map (res ps))) (hv : qOS V Sq M ps.length d) (i : Nat) (hi : i < V.length) :
 qAa A V[i] /\ (∀ j, d * V[i] j = qA3 (Sq[i]'(by rw [<- hv.len]; exact hi)) (M.take ps.length) 0 j) /\ ∀ t (h : t < ps.length), V[i] ps[t] = (Sq[i]'(by rw [<- hv.len]; exact hi)) t := by
 have hi' : i < Sq.length := by rw [<- hv.len]; exact hi
 obtain ⟨q, hq⟩ := ht.into Sq[i] (List.getElem_mem hi'); have hs : qAa A (comb q A) := ⟨q, fun _ => rfl⟩; have hr : ∀ t, res ps (comb q A) t = Sq[i] t := fun t => by rw [qF2, hq]
 have e1 : ∀ j, d * comb q A j = qA3 Sq[i] (M.take ps.length) 0 j := fun j => by
  rw [h.coord h0 hs j]; exact qB6 _ _ _ _ _ (fun t _ _ => hr t)
 have e2 : ∀ j, V[i] j = comb q A j := fun j => by rw [hv.eq i hi hi' j, <- e1 j, Int.mul_ediv_cancel_left _ h.d0]
 refine ⟨hs.congr (fun j => (e2 j).symm), fun j => by rw [e2, e1], fun t htp => ?_⟩; rw [e2, <- hr t]; simp [res, htp]
theorem qBE.extd_span (h : qBE A M ps d col) (h0 : ∀ i (h : i < M.length), ps.length <= i -> ∀ j, M[i] j = 0) (ht : Tri ps.length Sq (A.map (res ps))) (hv : qOS V Sq M ps.length d) :
 (∀ v, qAa V v -> qAa A v) /\ (∀ v, qAa A v -> qAa V v) := by
 have hVA : ∀ r ∈ V, qAa A r := fun r hr => by
  obtain ⟨i, hi, rfl⟩ := List.mem_iff_getElem.1 hr; exact (h.extd h0 ht hv i hi).1
 refine ⟨fun v hv' => hv'.trans hVA, fun v hv' => hv'.trans (fun r hr => ?_)⟩; obtain ⟨q, hq⟩ := ht.onto (res ps r) (List.mem_map.2 ⟨r, hr, rfl⟩)
 -- the coordinates of the combination of V agree
 have hc : ∀ (q : List Int) (n : Nat) (t : Nat) (_ : t < ps.length), comb q (V.drop n) ps[t] = comb q (Sq.drop n) t := by
  intro q
  induction q with
  | nil => intro n t _; cases V.drop n <;> cases Sq.drop n <;> simp [comb]
  | cons x q ih =>
   intro n t htp; rcases Nat.lt_or_ge n V.length with hn | hn
   ·rw [List.drop_eq_getElem_cons hn, List.drop_eq_getElem_cons (show n < Sq.length by rw [<- hv.len]; exact hn)]
    simp only [comb]; rw [ih (n + 1) t htp, (h.extd h0 ht hv n hn).2.2 t htp]
   ·rw [List.drop_eq_nil_of_le hn, List.drop_eq_nil_of_le (by rw [<- hv.len]; exact hn)]
    simp [comb]
 have hw : qAa A (fun j => r j - comb q V j) := (qAa.mem hr).sub ((show qAa V (comb q V) from ⟨q, fun _ => rfl⟩).trans hVA); refine ⟨q, fun j => ?_⟩; have h1 := h.coord h0 hw j; rw [qBd _ _ _ _ (fun t htl => by
  have htp : t < ps.length := by rw [List.length_take] at htl; omega
  have e : res ps (fun j => r j - comb q V j) (0 + t) = 0 := by
   rw [Nat.zero_add]; simp only [res, dif_pos htp]; have h2 := hc q 0 t htp; rw [List.drop_zero, List.drop_zero] at h2; rw [h2, <- hq t]; simp [res, htp]
  rw [e, Int.zero_mul])] at h1
 have := (Int.mul_eq_zero.1 h1).resolve_left h.d0; omega
theorem qBE.extd_low (h : qBE A M ps d col) (h0 : ∀ i (h : i < M.length), ps.length <= i -> ∀ j, M[i] j = 0) (ht : Tri ps.length Sq (A.map (res ps))) (hv : qOS V Sq M ps.length d) (i : Nat) (hi : i < V.length) (hip : i < ps.length) :
 qCD V[i] ps[i] /\ 0 < V[i] ps[i] := by
 have hi' : i < Sq.length := by rw [<- hv.len]; exact hi
 obtain ⟨h1, h2, h3⟩ := h.extd h0 ht hv i hi; have h4 := h3 i hip; have h5 := ht.pos i hi'; refine ⟨⟨fun j hj => ?_, by omega⟩, by omega⟩; have h6 := h2 j; rw [qBd _ _ _ _ (fun t htl => by
  have htp : t < ps.length := by rw [List.length_take] at htl; omega
  rw [Nat.zero_add]; rcases Nat.lt_or_ge t i with h7 | h7
  ·rw [ht.low i hi' t h7, Int.zero_mul]
  ·rw [List.getElem_take, h.left t (by rw [List.length_take] at htl; omega) htp j (by
    rcases Nat.lt_or_ge i t with h8 | h8
    ·have := List.pairwise_iff_getElem.1 h.sorted i t hip htp h8; omega
    ·obtain rfl : i = t := by omega
     exact hj), Int.mul_zero])] at h6
 exact (Int.mul_eq_zero.1 h6).resolve_left h.d0
theorem qBE.extd_nrm (h : qBE A M ps d col) (h0 : ∀ i (h : i < M.length), ps.length <= i -> ∀ j, M[i] j = 0) (ht : Tri ps.length Sq (A.map (res ps))) (hv : qOS V Sq M ps.length d) : ∀ (n i lo : Nat), i + n = V.length -> (∀ hi : i < ps.length, lo <= ps[i]) -> Nrm lo (V.drop i)
 | 0, i, lo, hn, _ => by rw [List.drop_eq_nil_of_le (by omega)]; trivial
 | n + 1, i, lo, hn, hlo => by
  have hl1 := hv.len; have hl2 := ht.len; have hip : i < ps.length := by omega
  have h1 := h.extd_low h0 ht hv i (by omega) hip; rw [List.drop_eq_getElem_cons (show i < V.length by omega)]; refine ⟨ps[i], hlo hip, h1.1, h1.2, qBE.extd_nrm h h0 ht hv n (i + 1) _ (by omega) (fun hi2 => by have := List.pairwise_iff_getElem.1 h.sorted i (i + 1) hip hi2 (by omega); omega), fun s hs e hp => ?_⟩; obtain ⟨t, ht', rfl⟩ := List.mem_iff_getElem.1 hs; rw [List.length_drop] at ht'; rw [List.getElem_drop] at hp ⊢; have h2 := h.extd_low h0 ht hv (i + 1 + t) (by omega) (by omega); obtain rfl := h2.1.uniq hp; have h3 := (h.extd h0 ht hv i (by omega)).2.2 (i + 1 + t) (by omega); have h4 := (h.extd h0 ht hv (i + 1 + t) (by omega)).2.2 (i + 1 + t) (by omega); rw [h3, h4]; exact ht.red i (i + 1 + t) (by omega) (by omega)
end
end Go.Proofs.YtkjhlkngihponaaGreatDoor
