/- Complete eliminations; bounds and numbers of the rows of normal forms; plain Lean. -/
import Derived.Test.YtlmbebbdamgfpaaQHLawLMany
import Derived.Test.YtlmbebbdamgfpaaQHLElP
set_option linter.unusedVariables false
set_option linter.unusedSimpArgs false
namespace Go.Proofs.Ytlmbebbdamgfpaa

theorem qLb {M : List (List Int)} {a b : Nat} (ha : a < M.length) (hb : b < M.length) (j : Nat) : ent (qAu M a b ha hb) a j = ent M b j := by
 have h1 : a < (qAu M a b ha hb).length := by rw [qAb]; exact ha
 unfold ent; rw [List.getElem?_eq_getElem h1, List.getElem?_eq_getElem hb, qAq a ha]; by_cases e : a = b
 ·subst e; simp
 ·rw [if_neg e, if_pos rfl]
theorem qEX {M0 : List (List Int)} {c : Nat} (hc : ∀ r ∈ M0, r.length = c) : ∀ col, ∃ M ps d, qA1 M0 M ps d col /\ ∀ r ∈ M, r.length = c
 | 0 => ⟨M0, [], 1, qA1.start M0, hc⟩
 | n + 1 => by
  obtain ⟨M, ps, d, h, hr⟩ := qEX hc n; by_cases hz : ∃ i, ps.length <= i /\ i < M.length /\ ent M i n ≠ 0
  ·obtain ⟨i, hp, hi, hne⟩ := hz
   have hk : ps.length < M.length := by omega
   have hs := h.swap ps.length i hk hi (Nat.le_refl _) hp; have hk2 : ps.length < (qAu M ps.length i hk hi).length := by rw [qAb]; exact hk
   have hr2 : ∀ r ∈ qAu M ps.length i hk hi, r.length = c := fun r hr' => hr r (qBb r hr'); refine ⟨_, _, _, hs.step hr2 hk2 (by rw [qLb]; exact hne), fun r hr' => ?_⟩; obtain ⟨t, ht, rfl⟩ := List.mem_iff_getElem.1 hr'; rw [qBq] at ht; rw [qB3 ht hk2]
   split
   ·exact hr2 _ (List.getElem_mem _)
   ·exact qFh (hr2 _ (List.getElem_mem _)) (hr2 _ (List.getElem_mem _))
  ·exact ⟨M, ps, d, h.skip (fun q h1 h2 => Classical.byContradiction (fun h3 => hz ⟨q, h1, h2, h3⟩)), hr⟩
theorem qGm {M0 : List (List Int)} {c : Nat} (hc : ∀ r ∈ M0, r.length = c) : ∃ (A M : List Vec) (ps : List Nat) (d : Int), A.length = M0.length /\ (∀ r, r ∈ A ↔ r ∈ M0.map vec) /\ qBO A M ps d c /\ (∀ i (h : i < M.length), ps.length <= i -> ∀ j, M[i] j = 0) /\ (Ind (M0.map vec) ↔ ps.length = M.length) := by
 obtain ⟨M, ps, d, ⟨A, a1, a2, a3, a4⟩, hr⟩ := qEX hc c; have hz : ∀ i (h : i < (M.map vec).length), ps.length <= i -> ∀ j, (M.map vec)[i] j = 0 := fun i h hp j => by
  rcases Nat.lt_or_ge j c with hj | hj
  ·exact a3.zero i h hp j hj
  ·rw [List.getElem_map, qAr (by rw [hr _ (List.getElem_mem _)]; exact hj)]
 refine ⟨A.map vec, M.map vec, ps, d, by rw [List.length_map, a1], fun r => ?_, a3, hz, a4.trans (a3.ind hz)⟩; simp only [List.mem_map]; exact ⟨fun ⟨x, hx, e⟩ => ⟨x, (a2 x).1 hx, e⟩, fun ⟨x, hx, e⟩ => ⟨x, (a2 x).2 hx, e⟩⟩
theorem Nrm.piv_dvd : ∀ {lo : Nat} {B : List Vec} {v : Vec} {c : Nat}, Nrm lo B -> qAa B v -> qBN v c -> ∃ s ∈ B, qBN s c /\ 0 < s c /\ s c ∣ v c
 | _, [], v, c, _, h, hp => absurd (qB4 h c) hp.2
 | lo, r :: rs, v, c, ⟨p, h1, h2, h3, h4, h5⟩, h, hp => by
  obtain ⟨x, w, hw, he⟩ := qBW h; rcases Nat.lt_trichotomy c p with hc | hc | hc
  ·refine absurd ?_ hp.2
   rw [he, h2.1 c hc, h4.low hw c (by omega)]; simp
  ·subst hc
   exact ⟨r, by simp, h2, h3, x, by rw [he, h4.low hw c (by omega), Int.mul_comm]; simp⟩
  ·obtain ⟨s, k1, k2⟩ := h4.piv_dvd (h4_tail h2 h4 h (hp.1 p hc)) hp
   exact ⟨s, by simp [k1], k2⟩
where h4_tail {p : Nat} {r : Vec} {rs : List Vec} {v : Vec} (h2 : qBN r p) (h4 : Nrm (p + 1) rs) (h : qAa (r :: rs) v) (h0 : v p = 0) : qAa rs v := Nrm.tail h2.2 h4 h h0
theorem Nrm.ent_le : ∀ {lo : Nat} {B : List Vec}, Nrm lo B -> ∀ v ∈ B, ∀ s ∈ B, ∀ e, qBN s e -> 0 <= v e /\ v e <= s e
 | _, [], _, v, hv, _, _, _, _ => by cases hv
 | lo, r :: rs, ⟨p, h1, h2, h3, h4, h5⟩, v, hv, s, hs, e, he => by
  rcases List.mem_cons.1 hv with rfl | hv' <;> rcases List.mem_cons.1 hs with rfl | hs'
  ·obtain rfl := h2.uniq he
   omega
  ·have := h5 s hs' e he; omega
  ·obtain rfl := h2.uniq he
   have := h4.low (qAa.mem hv') p (by omega); omega
  ·exact h4.ent_le v hv' s hs' e he
section
variable {A M : List Vec} {ps : List Nat} {d : Int} {col : Nat}
theorem qBO.mpiv (h : qBO A M ps d col) (t : Nat) (ht : t < ps.length) (hm : t < M.length) : qBN M[t] ps[t] /\ M[t] ps[t] = d := by
 have h1 := h.diag t t hm ht ht; rw [if_pos rfl] at h1; exact ⟨⟨fun j hj => h.left t hm ht j hj, by rw [h1]; exact h.d0⟩, h1⟩
theorem qBO.mspan (h : qBO A M ps d col) (t : Nat) (hm : t < M.length) : qAa A M[t] := (h.minor _ (List.getElem_mem hm)).span
theorem qBO.lenM (h : qBO A M ps d col) : ps.length <= M.length := by have := h.len; have := h.le; omega
theorem qBO.piv (h : qBO A M ps d col) (h0 : ∀ i (h : i < M.length), ps.length <= i -> ∀ j, M[i] j = 0) {v : Vec} (hv : qAa A v) {c : Nat} (hp : qBN v c) : c ∈ ps := by
 refine Classical.byContradiction (fun hn => hp.2 ?_); have h1 := h.coord h0 hv c; rw [qBg _ _ _ _ (fun t ht => by
  have htp : t < ps.length := by rw [List.length_take] at ht; omega
  rw [Nat.zero_add, List.getElem_take]; rcases Nat.lt_trichotomy ps[t] c with hc | hc | hc
  ·simp only [res, dif_pos htp]
   rw [hp.1 _ hc, Int.zero_mul]
  ·exact absurd (hc ▸ List.getElem_mem htp) hn
  ·rw [h.left t (by rw [List.length_take] at ht; omega) htp c hc, Int.mul_zero])] at h1
 exact (Int.mul_eq_zero.1 h1).resolve_left h.d0
end
theorem qKq (D F : Nat) (u : Vec) (j : Nat) : ∀ (M : List Vec) (s : Nat), (∀ t, (u t).natAbs <= D) -> (∀ r ∈ M, (r j).natAbs <= F) -> (qA8 u M s j).natAbs <= M.length * (D * F)
 | [], s, _, _ => by simp [qA8]
 | r :: M, s, h1, h2 => by
  have ih := qKq D F u j M (s + 1) h1 (fun r hr => h2 r (by simp [hr])); have h3 : (u s * r j).natAbs <= D * F := by rw [Int.natAbs_mul]; exact Nat.mul_le_mul (h1 s) (h2 r (by simp))
  simp only [qA8, List.length_cons, Nat.succ_mul]; omega
def fac : Nat -> Nat
 | 0 => 1
 | n + 1 => (n + 1) * fac n
theorem qI9 : ∀ n, 1 <= fac n
 | 0 => Nat.le_refl _
 | n + 1 => Nat.mul_pos (by omega) (qI9 n)
theorem qJf (X : Nat) : ∀ (cs : List Nat) (K : Nat) (R : List Vec), R.length <= K -> (∀ r ∈ R, ∀ j, (r j).natAbs <= X) -> (det cs R).natAbs <= fac K * X ^ cs.length
 | [], K, R, _, _ => by simp [det]; exact qI9 K
 | c :: cs, 0, R, hK, hM => by
  have : R = [] := List.eq_nil_of_length_eq_zero (by omega); subst this; simp [det, xpd]
 | c :: cs, K + 1, R, hK, hM => by
  have := qIB c X (fac K * X ^ cs.length) R (det cs) (fun r hr => hM r hr c) (fun l hl hlen => qJf X cs K l (by omega) (fun r hr => hM r (hl r hr))); refine Nat.le_trans this (Nat.le_trans (Nat.mul_le_mul_right _ hK) (Nat.le_of_eq ?_)); rw [List.length_cons, Nat.pow_succ, fac, <- Nat.mul_assoc X, Nat.mul_comm X, Nat.mul_assoc, Nat.mul_comm X, <- Nat.mul_assoc]
theorem qDK.fac {A : List Vec} {v : Vec} (h : qDK A v) (X K : Nat) (hK : A.length <= K) (hX1 : 1 <= X) (hX : ∀ r ∈ A, ∀ j, (r j).natAbs <= X) (j : Nat) : (v j).natAbs <= Go.Proofs.Ytlmbebbdamgfpaa.fac K * X ^ K := by
 obtain ⟨s, C, R, hs, hC, hR, hRA, hv⟩ := h; have h1 := qJf X (j :: C) K R (by omega) (fun r hr => hX r (hRA r hr)); have h2 : X ^ (j :: C).length <= X ^ K := Nat.pow_le_pow_right hX1 (by simp; omega); rw [hv, Int.natAbs_mul]; have : s.natAbs = 1 := by rcases hs with rfl | rfl <;> rfl
 rw [this, Nat.one_mul]; exact Nat.le_trans h1 (Nat.mul_le_mul_left _ h2)
theorem qAw.bound {M0 : List (List Int)} {H : List Vec} {c n K X : Nat} (h : qAw (M0.map vec) c H) (hn : ∀ r ∈ M0, r.length = n) (hl : M0.length <= K) (hX1 : 1 <= X) (hX : ∀ r ∈ M0.map vec, ∀ j, (r j).natAbs <= X) : ∀ v ∈ H, ∀ j, (v j).natAbs <= K * (fac K * X ^ K) := by
 obtain ⟨A, M, ps, d, a1, a2, he, h0, -⟩ := qGm hn; have hA : ∀ r ∈ A, qAa (M0.map vec) r := fun r hr => qAa.mem ((a2 r).1 hr); have hA' : ∀ r ∈ M0.map vec, qAa A r := fun r hr => qAa.mem ((a2 r).2 hr); have hXA : ∀ r ∈ A, ∀ j, (r j).natAbs <= X := fun r hr => hX r ((a2 r).1 hr); intro v hv j; obtain ⟨u, u1, u2, u3⟩ := (h.span v).1 (qAa.mem hv); have u1' := u1.trans hA'; have hc := he.coord h0 u1' (c + j); have hb : ∀ t, (res ps u t).natAbs <= d.natAbs := fun t => by
  unfold res
  split
  ·next ht =>
   have htm : t < M.length := Nat.lt_of_lt_of_le ht he.lenM; rcases Nat.lt_or_ge ps[t] c with hp | hp
   ·rw [u2 _ hp]; simp
   ·obtain ⟨p1, p2⟩ := he.mpiv t ht htm
    have e1 : c + (ps[t] - c) = ps[t] := by omega
    have hs : qAa H (sh c M[t]) := (h.span _).2 ⟨M[t], (he.mspan t htm).trans hA, fun k hk => p1.1 k (by omega), fun k => rfl⟩; obtain ⟨s, s1, s2, s3, s4⟩ := h.nrm.piv_dvd (c := ps[t] - c) hs ⟨fun k hk => p1.1 _ (by omega), by unfold sh; rw [e1]; exact p1.2⟩; have s5 := h.nrm.ent_le v hv s s1 _ s2; have s6 := u3 (ps[t] - c); rw [e1] at s6; have s7 : sh c M[t] (ps[t] - c) = d := by unfold sh; rw [e1]; exact p2
    rw [s7] at s4; have s8 : (s (ps[t] - c)).natAbs <= d.natAbs := Nat.le_of_dvd (Int.natAbs_pos.2 he.d0) (Int.natAbs_dvd_natAbs.2 s4); rw [<- s6]; omega
  ·simp
 have hm := qKq d.natAbs (fac K * X ^ K) (res ps u) (c + j) (M.take ps.length) 0 hb (fun r hr => (he.minor r (List.mem_of_mem_take hr)).fac X K (by rw [a1]; exact hl) hX1 hXA (c + j)); rw [<- hc, Int.natAbs_mul, <- u3] at hm; have hk : (M.take ps.length).length <= K := by
  rw [List.length_take]; have := he.len; omega
 have h9 : d.natAbs * (v j).natAbs <= d.natAbs * (K * (fac K * X ^ K)) := by
  refine Nat.le_trans hm (Nat.le_trans (Nat.mul_le_mul_right _ hk) (Nat.le_of_eq ?_)); rw [Nat.mul_left_comm]
 exact Nat.le_of_mul_le_mul_left h9 (Int.natAbs_pos.2 he.d0)
theorem Nrm.pivots : ∀ {lo : Nat} {B : List Vec}, Nrm lo B -> ∃ P : List Nat, P.length = B.length /\ P.Pairwise (· < ·) /\ (∀ p ∈ P, lo <= p) /\ ∀ e, e ∈ P ↔ ∃ s ∈ B, qBN s e
 | lo, [], _ => ⟨[], rfl, List.Pairwise.nil, by simp, by simp⟩
 | lo, r :: rs, ⟨c, h1, h2, h3, h4, h5⟩ => by
  obtain ⟨P, p1, p2, p3, p4⟩ := h4.pivots; refine ⟨c :: P, by simp [p1], List.pairwise_cons.2 ⟨fun a ha => by have := p3 a ha; omega, p2⟩, fun p hp => ?_, fun e => ?_⟩
  ·rcases List.mem_cons.1 hp with rfl | hp
   ·exact h1
   ·have := p3 p hp; omega
  ·constructor
   ·intro he
    rcases List.mem_cons.1 he with rfl | he
    ·exact ⟨r, by simp, h2⟩
    ·obtain ⟨s, s1, s2⟩ := (p4 e).1 he
     exact ⟨s, by simp [s1], s2⟩
   ·rintro ⟨s, hs, hp⟩
    rcases List.mem_cons.1 hs with rfl | hs
    ·obtain rfl := h2.uniq hp
     simp
    ·exact List.mem_cons.2 (.inr ((p4 e).2 ⟨s, hs, hp⟩))
theorem qFR : ∀ {P Q : List Nat}, P.Pairwise (· < ·) -> Q.Pairwise (· < ·) -> (∀ e, e ∈ P ↔ e ∈ Q) -> P = Q
 | [], [], _, _, _ => rfl
 | [], q :: Q, _, _, h => by have := (h q).2 (by simp); simp at this
 | p :: P, [], _, _, h => by have := (h p).1 (by simp); simp at this
 | p :: P, q :: Q, h1, h2, h => by
  have k1 := List.pairwise_cons.1 h1; have k2 := List.pairwise_cons.1 h2; have e : p = q := by
   have a := (h p).1 (by simp); have b := (h q).2 (by simp); rcases List.mem_cons.1 a with a | a
   ·exact a
   ·rcases List.mem_cons.1 b with b | b
    ·exact b.symm
    ·have := k1.1 q b; have := k2.1 p a; omega
  subst e; rw [qFR k1.2 k2.2 (fun x => ⟨fun hx => ?_, fun hx => ?_⟩)]
  ·rcases List.mem_cons.1 ((h x).1 (by simp [hx])) with e | e
   ·have := k1.1 x hx; omega
   ·exact e
  ·rcases List.mem_cons.1 ((h x).2 (by simp [hx])) with e | e
   ·have := k2.1 x hx; omega
   ·exact e
theorem qHN {x : Vec} {j : Nat} : ∀ (L L' : List Vec) (s : Nat), L.length = L'.length -> (∀ i (h : i < L.length) (h' : i < L'.length), L[i] j = L'[i] j) -> qA8 x L s j = qA8 x L' s j
 | [], [], s, _, _ => rfl
 | [], a :: b, s, hl, _ => by simp at hl
 | a :: b, [], s, hl, _ => by simp at hl
 | r :: L, r' :: L', s, hl, he => by
  simp only [qA8]; rw [qHN L L' (s + 1) (by simpa using hl) (fun i h h' => he (i + 1) (by simpa using h) (by simpa using h'))]; have := he 0 (by simp) (by simp); simp only [List.getElem_cons_zero] at this; rw [this]
theorem qI5 {m : List (List Int)} {c : Nat} (hc : ∀ r ∈ m, r.length = c) (x : Vec) (j : Nat) (hj : j < c) : qA8 x ((qAH m).map vec) 0 j = qA8 x (m.map vec) 0 j := by
 refine qHN _ _ 0 (by simp [qAs]) (fun i h h' => ?_); simp only [List.length_map] at h'; rw [List.getElem_map, List.getElem_map, qA6 m i h', qBL, qE7, if_pos (by rw [hc _ (List.getElem_mem _)]; exact hj)]
theorem qHH {m : List (List Int)} {c : Nat} (hc : ∀ r ∈ m, r.length = c) (x : Vec) (t : Nat) : qA8 x ((qAH m).map vec) 0 (c + t) = if t < m.length then x t else 0 := by
 rw [qFt x (c + t) t _ 0 (fun i h => ?_)]
 ·simp [qAs]
 ·simp only [List.length_map, qAs] at h
  rw [List.getElem_map, qA6 m i h, qBL, qE7, hc _ (List.getElem_mem _), if_neg (by omega), show c + t - c = t by omega, qHp _ _ _ h, Nat.zero_add]
theorem qK1 {m : List (List Int)} {c : Nat} (hc : ∀ r ∈ m, r.length = c) (x : Vec) (j : Nat) (hj : c <= j) : qA8 x (m.map vec) 0 j = 0 :=
 qBg _ _ _ _ (fun t ht => by
  rw [List.getElem_map, qAr (by rw [hc _ (List.getElem_mem _)]; exact hj), Int.mul_zero])
theorem qBu.norm {m : List (List Int)} {c : Nat} (hc : ∀ r ∈ m, r.length = c) {H : List Vec} (h : qBu m H) : qAw ((qAH m).map vec) c H := by
 refine ⟨h.nrm, fun v => (h.span v).trans ⟨?_, ?_⟩⟩
 ·rintro ⟨h1, h2⟩
  refine ⟨qA8 v ((qAH m).map vec) 0, qC9.2 ⟨v, fun _ => rfl⟩, fun j hj => by rw [qI5 hc v j hj, h2], fun j => ?_⟩; rw [qHH hc]
  split
  ·rfl
  ·exact h1 j (by omega)
 ·rintro ⟨u, h1, h2, h3⟩
  obtain ⟨x, hx⟩ := qC9.1 h1; have h4 : ∀ t, v t = if t < m.length then x t else 0 := fun t => by rw [h3, hx, qHH hc]
  refine ⟨fun j hj => by rw [h4, if_neg (by omega)], fun j => ?_⟩; rcases Nat.lt_or_ge j c with hj | hj
  ·rw [qCh v x j _ 0 (fun t _ ht => by rw [h4, if_pos (by simpa using ht)]), <- qI5 hc x j hj, <- hx, h2 j hj]
  ·exact qK1 hc v j hj
end Go.Proofs.Ytlmbebbdamgfpaa
