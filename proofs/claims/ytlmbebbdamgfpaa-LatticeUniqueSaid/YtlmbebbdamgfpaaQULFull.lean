/- Complete eliminations; bounds and numbers of the rows of normal forms; plain Lean. -/
import Derived.Test.YtlmbebbdamgfpaaQULLiveP
import Derived.Test.YtlmbebbdamgfpaaQULEl
set_option linter.unusedVariables false
set_option linter.unusedSimpArgs false
set_option linter.unusedVariables false
set_option linter.unusedSimpArgs false
namespace Go.Proofs.Ytlmbebbdamgfpaa

theorem ent_swp {M : List (List Int)} {a b : Nat} (ha : a < M.length) (hb : b < M.length) (j : Nat) : ent (swapL M a b ha hb) a j = ent M b j := by
 have h1 : a < (swapL M a b ha hb).length := by rw [swapL_len]; exact ha
 unfold ent
 rw [List.getElem?_eq_getElem h1, List.getElem?_eq_getElem hb, swapL_at a ha]
 by_cases e : a = b
 ·subst e; simp
 ·rw [if_neg e, if_pos rfl]
theorem elimL_full {M0 : List (List Int)} {c : Nat} (hc : ∀ r ∈ M0, r.length = c) : ∀ col, ∃ M ps d, ElimL M0 M ps d col ∧ ∀ r ∈ M, r.length = c
 | 0 => ⟨M0, [], 1, ElimL.start M0, hc⟩
 | n + 1 => by
  obtain ⟨M, ps, d, h, hr⟩ := elimL_full hc n
  by_cases hz : ∃ i, ps.length ≤ i ∧ i < M.length ∧ ent M i n ≠ 0
  ·obtain ⟨i, hp, hi, hne⟩ := hz
   have hk : ps.length < M.length := by omega
   have hs := h.swap ps.length i hk hi (Nat.le_refl _) hp
   have hk2 : ps.length < (swapL M ps.length i hk hi).length := by rw [swapL_len]; exact hk
   have hr2 : ∀ r ∈ swapL M ps.length i hk hi, r.length = c := fun r hr' => hr r (swapL_mem r hr')
   refine ⟨_, _, _, hs.step hr2 hk2 (by rw [ent_swp]; exact hne), fun r hr' => ?_⟩
   obtain ⟨t, ht, rfl⟩ := List.mem_iff_getElem.1 hr'
   rw [stepM_len] at ht
   rw [stepM_at ht hk2]
   split
   ·exact hr2 _ (List.getElem_mem _)
   ·exact oprL_len (hr2 _ (List.getElem_mem _)) (hr2 _ (List.getElem_mem _))
  ·exact ⟨M, ps, d, h.skip (fun q h1 h2 => Classical.byContradiction (fun h3 => hz ⟨q, h1, h2, h3⟩)), hr⟩
/-- all columns are done -/
theorem elim_done {M0 : List (List Int)} {c : Nat} (hc : ∀ r ∈ M0, r.length = c) : ∃ (A M : List Vec) (ps : List Nat) (d : Int), A.length = M0.length ∧ (∀ r, r ∈ A ↔ r ∈ M0.map vec) ∧ Elim A M ps d c ∧ (∀ i (h : i < M.length), ps.length ≤ i → ∀ j, M[i] j = 0) ∧ (Ind (M0.map vec) ↔ ps.length = M.length) := by
 obtain ⟨M, ps, d, ⟨A, a1, a2, a3, a4⟩, hr⟩ := elimL_full hc c
 have hz : ∀ i (h : i < (M.map vec).length), ps.length ≤ i → ∀ j, (M.map vec)[i] j = 0 := fun i h hp j => by
  rcases Nat.lt_or_ge j c with hj | hj
  ·exact a3.zero i h hp j hj
  ·rw [List.getElem_map, vec_out (by rw [hr _ (List.getElem_mem _)]; exact hj)]
 refine ⟨A.map vec, M.map vec, ps, d, by rw [List.length_map, a1], fun r => ?_, a3, hz, a4.trans (a3.ind hz)⟩
 simp only [List.mem_map]
 exact ⟨fun ⟨x, hx, e⟩ => ⟨x, (a2 x).1 hx, e⟩, fun ⟨x, hx, e⟩ => ⟨x, (a2 x).2 hx, e⟩⟩

/-- a pivot in the span is one of the rows -/
theorem Nrm.piv_dvd : ∀ {lo : Nat} {B : List Vec} {v : Vec} {c : Nat}, Nrm lo B → InSpan B v → IsPiv v c → ∃ s ∈ B, IsPiv s c ∧ 0 < s c ∧ s c ∣ v c
 | _, [], v, c, _, h, hp => absurd (span_nil h c) hp.2
 | lo, r :: rs, v, c, ⟨p, h1, h2, h3, h4, h5⟩, h, hp => by
  obtain ⟨x, w, hw, he⟩ := span_cons h
  rcases Nat.lt_trichotomy c p with hc | hc | hc
  ·refine absurd ?_ hp.2
   rw [he, h2.1 c hc, h4.low hw c (by omega)]; simp
  ·subst hc
   exact ⟨r, by simp, h2, h3, x, by rw [he, h4.low hw c (by omega), Int.mul_comm]; simp⟩
  ·obtain ⟨s, k1, k2⟩ := h4.piv_dvd (h4_tail h2 h4 h (hp.1 p hc)) hp
   exact ⟨s, by simp [k1], k2⟩
where h4_tail {p : Nat} {r : Vec} {rs : List Vec} {v : Vec} (h2 : IsPiv r p) (h4 : Nrm (p + 1) rs) (h : InSpan (r :: rs) v) (h0 : v p = 0) : InSpan rs v := Nrm.tail h2.2 h4 h h0
/-- entries in the columns of pivots -/
theorem Nrm.ent_le : ∀ {lo : Nat} {B : List Vec}, Nrm lo B → ∀ v ∈ B, ∀ s ∈ B, ∀ e, IsPiv s e → 0 ≤ v e ∧ v e ≤ s e
 | _, [], _, v, hv, _, _, _, _ => by cases hv
 | lo, r :: rs, ⟨p, h1, h2, h3, h4, h5⟩, v, hv, s, hs, e, he => by
  rcases List.mem_cons.1 hv with rfl | hv' <;> rcases List.mem_cons.1 hs with rfl | hs'
  ·obtain rfl := h2.uniq he
   omega
  ·have := h5 s hs' e he; omega
  ·obtain rfl := h2.uniq he
   have := h4.low (InSpan.mem hv') p (by omega)
   omega
  ·exact h4.ent_le v hv' s hs' e he
section
variable {A M : List Vec} {ps : List Nat} {d : Int} {col : Nat}
theorem Elim.mpiv (h : Elim A M ps d col) (t : Nat) (ht : t < ps.length) (hm : t < M.length) : IsPiv M[t] ps[t] ∧ M[t] ps[t] = d := by
 have h1 := h.diag t t hm ht ht
 rw [if_pos rfl] at h1
 exact ⟨⟨fun j hj => h.left t hm ht j hj, by rw [h1]; exact h.d0⟩, h1⟩
theorem Elim.mspan (h : Elim A M ps d col) (t : Nat) (hm : t < M.length) : InSpan A M[t] := (h.minor _ (List.getElem_mem hm)).span
theorem Elim.lenM (h : Elim A M ps d col) : ps.length ≤ M.length := by have := h.len; have := h.le; omega
theorem Elim.piv (h : Elim A M ps d col) (h0 : ∀ i (h : i < M.length), ps.length ≤ i → ∀ j, M[i] j = 0) {v : Vec} (hv : InSpan A v) {c : Nat} (hp : IsPiv v c) : c ∈ ps := by
 refine Classical.byContradiction (fun hn => hp.2 ?_)
 have h1 := h.coord h0 hv c
 rw [ext_zero _ _ _ _ (fun t ht => by
  have htp : t < ps.length := by rw [List.length_take] at ht; omega
  rw [Nat.zero_add, List.getElem_take]
  rcases Nat.lt_trichotomy ps[t] c with hc | hc | hc
  ·simp only [res, dif_pos htp]
   rw [hp.1 _ hc, Int.zero_mul]
  ·exact absurd (hc ▸ List.getElem_mem htp) hn
  ·rw [h.left t (by rw [List.length_take] at ht; omega) htp c hc, Int.mul_zero])] at h1
 exact (Int.mul_eq_zero.1 h1).resolve_left h.d0
end
theorem ext_le (D F : Nat) (u : Vec) (j : Nat) : ∀ (M : List Vec) (s : Nat), (∀ t, (u t).natAbs ≤ D) → (∀ r ∈ M, (r j).natAbs ≤ F) → (ext_ u M s j).natAbs ≤ M.length * (D * F)
 | [], s, _, _ => by simp [ext_]
 | r :: M, s, h1, h2 => by
  have ih := ext_le D F u j M (s + 1) h1 (fun r hr => h2 r (by simp [hr]))
  have h3 : (u s * r j).natAbs ≤ D * F := by rw [Int.natAbs_mul]; exact Nat.mul_le_mul (h1 s) (h2 r (by simp))
  simp only [ext_, List.length_cons, Nat.succ_mul]
  omega
def fac : Nat → Nat
 | 0 => 1
 | n + 1 => (n + 1) * fac n
theorem fac_pos : ∀ n, 1 ≤ fac n
 | 0 => Nat.le_refl _
 | n + 1 => Nat.mul_pos (by omega) (fac_pos n)
theorem det_fac (X : Nat) : ∀ (cs : List Nat) (K : Nat) (R : List Vec), R.length ≤ K → (∀ r ∈ R, ∀ j, (r j).natAbs ≤ X) → (det cs R).natAbs ≤ fac K * X ^ cs.length
 | [], K, R, _, _ => by simp [det]; exact fac_pos K
 | c :: cs, 0, R, hK, hM => by
  have : R = [] := List.eq_nil_of_length_eq_zero (by omega)
  subst this
  simp [det, xpd]
 | c :: cs, K + 1, R, hK, hM => by
  have := xpd_le c X (fac K * X ^ cs.length) R (det cs) (fun r hr => hM r hr c) (fun l hl hlen => det_fac X cs K l (by omega) (fun r hr => hM r (hl r hr)))
  refine Nat.le_trans this (Nat.le_trans (Nat.mul_le_mul_right _ hK) (Nat.le_of_eq ?_))
  rw [List.length_cons, Nat.pow_succ, fac, ← Nat.mul_assoc X, Nat.mul_comm X, Nat.mul_assoc, Nat.mul_comm X, ← Nat.mul_assoc]
theorem Minor.fac {A : List Vec} {v : Vec} (h : Minor A v) (X K : Nat) (hK : A.length ≤ K) (hX1 : 1 ≤ X) (hX : ∀ r ∈ A, ∀ j, (r j).natAbs ≤ X) (j : Nat) : (v j).natAbs ≤ Go.Proofs.Ytlmbebbdamgfpaa.fac K * X ^ K := by
 obtain ⟨s, C, R, hs, hC, hR, hRA, hv⟩ := h
 have h1 := det_fac X (j :: C) K R (by omega) (fun r hr => hX r (hRA r hr))
 have h2 : X ^ (j :: C).length ≤ X ^ K := Nat.pow_le_pow_right hX1 (by simp; omega)
 rw [hv, Int.natAbs_mul]
 have : s.natAbs = 1 := by rcases hs with rfl | rfl <;> rfl
 rw [this, Nat.one_mul]
 exact Nat.le_trans h1 (Nat.mul_le_mul_left _ h2)
/-- how great the entries of a normal form can be -/
theorem NormSpec.bound {M0 : List (List Int)} {H : List Vec} {c n K X : Nat} (h : NormSpec (M0.map vec) c H) (hn : ∀ r ∈ M0, r.length = n) (hl : M0.length ≤ K) (hX1 : 1 ≤ X) (hX : ∀ r ∈ M0.map vec, ∀ j, (r j).natAbs ≤ X) : ∀ v ∈ H, ∀ j, (v j).natAbs ≤ K * (fac K * X ^ K) := by
 obtain ⟨A, M, ps, d, a1, a2, he, h0, -⟩ := elim_done hn
 have hA : ∀ r ∈ A, InSpan (M0.map vec) r := fun r hr => InSpan.mem ((a2 r).1 hr)
 have hA' : ∀ r ∈ M0.map vec, InSpan A r := fun r hr => InSpan.mem ((a2 r).2 hr)
 have hXA : ∀ r ∈ A, ∀ j, (r j).natAbs ≤ X := fun r hr => hX r ((a2 r).1 hr)
 intro v hv j
 obtain ⟨u, u1, u2, u3⟩ := (h.span v).1 (InSpan.mem hv)
 have u1' := u1.trans hA'
 have hc := he.coord h0 u1' (c + j)
 have hb : ∀ t, (res ps u t).natAbs ≤ d.natAbs := fun t => by
  unfold res
  split
  ·next ht =>
   have htm : t < M.length := Nat.lt_of_lt_of_le ht he.lenM
   rcases Nat.lt_or_ge ps[t] c with hp | hp
   ·rw [u2 _ hp]; simp
   ·obtain ⟨p1, p2⟩ := he.mpiv t ht htm
    have e1 : c + (ps[t] - c) = ps[t] := by omega
    have hs : InSpan H (sh c M[t]) := (h.span _).2 ⟨M[t], (he.mspan t htm).trans hA, fun k hk => p1.1 k (by omega), fun k => rfl⟩
    obtain ⟨s, s1, s2, s3, s4⟩ := h.nrm.piv_dvd (c := ps[t] - c) hs ⟨fun k hk => p1.1 _ (by omega), by unfold sh; rw [e1]; exact p1.2⟩
    have s5 := h.nrm.ent_le v hv s s1 _ s2
    have s6 := u3 (ps[t] - c)
    rw [e1] at s6
    have s7 : sh c M[t] (ps[t] - c) = d := by unfold sh; rw [e1]; exact p2
    rw [s7] at s4
    have s8 : (s (ps[t] - c)).natAbs ≤ d.natAbs := Nat.le_of_dvd (Int.natAbs_pos.2 he.d0) (Int.natAbs_dvd_natAbs.2 s4)
    rw [← s6]
    omega
  ·simp
 have hm := ext_le d.natAbs (fac K * X ^ K) (res ps u) (c + j) (M.take ps.length) 0 hb (fun r hr => (he.minor r (List.mem_of_mem_take hr)).fac X K (by rw [a1]; exact hl) hX1 hXA (c + j))
 rw [← hc, Int.natAbs_mul, ← u3] at hm
 have hk : (M.take ps.length).length ≤ K := by
  rw [List.length_take]
  have := he.len
  omega
 have h9 : d.natAbs * (v j).natAbs ≤ d.natAbs * (K * (fac K * X ^ K)) := by
  refine Nat.le_trans hm (Nat.le_trans (Nat.mul_le_mul_right _ hk) (Nat.le_of_eq ?_))
  rw [Nat.mul_left_comm]
 exact Nat.le_of_mul_le_mul_left h9 (Int.natAbs_pos.2 he.d0)

/-- the columns of the pivots -/
theorem Nrm.pivots : ∀ {lo : Nat} {B : List Vec}, Nrm lo B → ∃ P : List Nat, P.length = B.length ∧ P.Pairwise (· < ·) ∧ (∀ p ∈ P, lo ≤ p) ∧ ∀ e, e ∈ P ↔ ∃ s ∈ B, IsPiv s e
 | lo, [], _ => ⟨[], rfl, List.Pairwise.nil, by simp, by simp⟩
 | lo, r :: rs, ⟨c, h1, h2, h3, h4, h5⟩ => by
  obtain ⟨P, p1, p2, p3, p4⟩ := h4.pivots
  refine ⟨c :: P, by simp [p1], List.pairwise_cons.2 ⟨fun a ha => by have := p3 a ha; omega, p2⟩, fun p hp => ?_, fun e => ?_⟩
  ·rcases List.mem_cons.1 hp with rfl | hp
   ·exact h1
   ·have := p3 p hp; omega
  ·constructor
   ·intro he
    rcases List.mem_cons.1 he with rfl | he
    ·exact ⟨r, by simp, h2⟩
    ·obtain ⟨s, s1, s2⟩ := (p4 e).1 he
     exact ⟨s, by simp [s1], s2⟩
   ·rintro ⟨s, hs, hp⟩
    rcases List.mem_cons.1 hs with rfl | hs
    ·obtain rfl := h2.uniq hp
     simp
    ·exact List.mem_cons.2 (.inr ((p4 e).2 ⟨s, hs, hp⟩))
theorem ext_cols {x : Vec} {j : Nat} : ∀ (L L' : List Vec) (s : Nat), L.length = L'.length → (∀ i (h : i < L.length) (h' : i < L'.length), L[i] j = L'[i] j) → ext_ x L s j = ext_ x L' s j
 | [], [], s, _, _ => rfl
 | [], a :: b, s, hl, _ => by simp at hl
 | a :: b, [], s, hl, _ => by simp at hl
 | r :: L, r' :: L', s, hl, he => by
  simp only [ext_]
  rw [ext_cols L L' (s + 1) (by simpa using hl) (fun i h h' => he (i + 1) (by simpa using h) (by simpa using h'))]
  have := he 0 (by simp) (by simp)
  simp only [List.getElem_cons_zero] at this
  rw [this]
theorem ker_low {m : List (List Int)} {c : Nat} (hc : ∀ r ∈ m, r.length = c) (x : Vec) (j : Nat) (hj : j < c) : ext_ x ((kerRows m).map vec) 0 j = ext_ x (m.map vec) 0 j := by
 refine ext_cols _ _ 0 (by simp [kerRows_len]) (fun i h h' => ?_)
 simp only [List.length_map] at h'
 rw [List.getElem_map, List.getElem_map, kerRows_at m i h', kerRow, vec_app, if_pos (by rw [hc _ (List.getElem_mem _)]; exact hj)]
theorem ker_high {m : List (List Int)} {c : Nat} (hc : ∀ r ∈ m, r.length = c) (x : Vec) (t : Nat) : ext_ x ((kerRows m).map vec) 0 (c + t) = if t < m.length then x t else 0 := by
 rw [ext_unit x (c + t) t _ 0 (fun i h => ?_)]
 ·simp [kerRows_len]
 ·simp only [List.length_map, kerRows_len] at h
  rw [List.getElem_map, kerRows_at m i h, kerRow, vec_app, hc _ (List.getElem_mem _), if_neg (by omega), show c + t - c = t by omega, vec_unit _ _ _ h, Nat.zero_add]
theorem ker_out {m : List (List Int)} {c : Nat} (hc : ∀ r ∈ m, r.length = c) (x : Vec) (j : Nat) (hj : c ≤ j) : ext_ x (m.map vec) 0 j = 0 :=
 ext_zero _ _ _ _ (fun t ht => by
  rw [List.getElem_map, vec_out (by rw [hc _ (List.getElem_mem _)]; exact hj), Int.mul_zero])
/-- the kernel is what the identity's columns say -/
theorem KerSpec.norm {m : List (List Int)} {c : Nat} (hc : ∀ r ∈ m, r.length = c) {H : List Vec} (h : KerSpec m H) : NormSpec ((kerRows m).map vec) c H := by
 refine ⟨h.nrm, fun v => (h.span v).trans ⟨?_, ?_⟩⟩
 ·rintro ⟨h1, h2⟩
  refine ⟨ext_ v ((kerRows m).map vec) 0, span_ext.2 ⟨v, fun _ => rfl⟩, fun j hj => by rw [ker_low hc v j hj, h2], fun j => ?_⟩
  rw [ker_high hc]
  split
  ·rfl
  ·exact h1 j (by omega)
 ·rintro ⟨u, h1, h2, h3⟩
  obtain ⟨x, hx⟩ := span_ext.1 h1
  have h4 : ∀ t, v t = if t < m.length then x t else 0 := fun t => by rw [h3, hx, ker_high hc]
  refine ⟨fun j hj => by rw [h4, if_neg (by omega)], fun j => ?_⟩
  rcases Nat.lt_or_ge j c with hj | hj
  ·rw [ext_congr v x j _ 0 (fun t _ ht => by rw [h4, if_pos (by simpa using ht)]), ← ker_low hc x j hj, ← hx, h2 j hj]
  ·exact ker_out hc v j hj
theorem vec_le' {M : List (List Int)} {X : Nat} (h : ∀ r ∈ M, ∀ x ∈ r, x.natAbs ≤ X) : ∀ v ∈ M.map vec, ∀ j, (v j).natAbs ≤ X := by
 intro v hv j
 obtain ⟨r, hr, rfl⟩ := List.mem_map.1 hv
 rcases Nat.lt_or_ge j r.length with hj | hj
 ·rw [vec_at hj]; exact h r hr _ (List.getElem_mem _)
 ·rw [vec_out hj]; simp
end Go.Proofs.Ytlmbebbdamgfpaa
