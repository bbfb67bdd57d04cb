/- The reducing of the triangular basis, over lists; plain Lean. -/
import Derived.Test.YtlmbebbdamgfpaaQHRegFree
set_option linter.unusedVariables false
set_option linter.unusedSimpArgs false
namespace Go.Proofs.Ytlmbebbdamgfpaa

theorem qFC.drop {m : Int} {n : Nat} : ∀ {j : Nat} {L : List Vec}, qFC m n j L -> ∀ i, i <= L.length -> qFC m n (j + i) (L.drop i)
 | j, L, h, 0, _ => by simpa using h
 | j, [], h, i + 1, hi => by simp at hi
 | j, r :: rs, ⟨_, _, _, _, _, h6⟩, i + 1, hi => by
  have := h6.drop i (by simpa using hi)
  rwa [show j + 1 + i = j + (i + 1) by omega] at this
structure qFL (m q : Int) (n j k : Nat) (sj row1 row2 : List Int) : Prop where
 len : row2.length = n
 low : ∀ t, t < j -> vec row2 t = vec row1 t
 at_ : vec row2 j = vec row1 j - q * vec sj j
 rest : ∀ t, k <= t -> vec row2 t = vec row1 t
 dvd : ∀ t, j < t -> t < k -> m ∣ vec row1 t - q * vec sj t - vec row2 t
 bd : Bd m row2
section
variable {m q : Int} {n i j k : Nat} {sj row1 row2 : List Int}
theorem qFL.none (hl : row1.length = n) (hb : Bd m row1) : qFL m 0 n j n sj row1 row1 :=
 ⟨hl, fun _ _ => rfl, by rw [Int.zero_mul, Int.sub_zero], fun _ _ => rfl, fun t _ _ => ⟨0, by rw [Int.zero_mul]; omega⟩, hb⟩
theorem qFL.start (hl : row1.length = n) (hj : j < n) (hb : Bd m row1) (hq : q = vec row1 j / vec sj j) (hs : 0 < vec sj j /\ vec sj j <= m) : qFL m q n j (j + 1) sj row1 (row1.set j (vec row1 j - q * vec sj j)) := by
 have e : ∀ t, vec (row1.set j (vec row1 j - q * vec sj j)) t = if t = j then vec row1 j - q * vec sj j else vec row1 t := fun t => qBS (by omega) _ t; have hm := Int.emod_add_mul_ediv (vec row1 j) (vec sj j); rw [<- hq, Int.mul_comm] at hm; have h1 := Int.emod_nonneg (vec row1 j) (show vec sj j ≠ 0 by omega); have h2 := Int.emod_lt_of_pos (vec row1 j) hs.1; refine ⟨by rw [List.length_set]; exact hl, fun t ht => by rw [e, if_neg (by omega)], by rw [e, if_pos rfl], fun t ht => by rw [e, if_neg (by omega)], fun t h1 h2 => by omega, hb.set j ⟨by omega, by omega⟩⟩
theorem qFL.skip (h : qFL m q n j k sj row1 row2) (hj : j < k) (h0 : vec sj k = 0) : qFL m q n j (k + 1) sj row1 row2 :=
 ⟨h.len, h.low, h.at_, fun t ht => h.rest t (by omega), fun t h1 h2 => by
  rcases Nat.lt_or_ge t k with h3 | h3
  ·exact h.dvd t h1 h3
  ·obtain rfl : t = k := by omega
   rw [h.rest t (Nat.le_refl _), h0]; exact ⟨0, by simp⟩, h.bd⟩
theorem qFL.step (h : qFL m q n j k sj row1 row2) (hm : 0 < m) (hj : j < k) (hk : k < n) {z : Int} (hz : z = (vec row2 k - q * vec sj k) % m) : qFL m q n j (k + 1) sj row1 (row2.set k z) := by
 have hl := h.len; have e : ∀ t, vec (row2.set k z) t = if t = k then z else vec row2 t := fun t => qBS (by omega) z t; refine ⟨by rw [List.length_set]; exact hl, fun t ht => by rw [e, if_neg (by omega)]; exact h.low t ht, by rw [e, if_neg (by omega)]; exact h.at_, fun t ht => by rw [e, if_neg (by omega)]; exact h.rest t (by omega), fun t h1 h2 => ?_, h.bd.set k ?_⟩
 ·rw [e]
  rcases Nat.lt_or_ge t k with h3 | h3
  ·rw [if_neg (by omega)]; exact h.dvd t h1 h3
  ·obtain rfl : t = k := by omega
   rw [if_pos rfl, hz, h.rest t (Nat.le_refl _)]; exact qEv m _
 ·rw [hz]
  have := Int.emod_nonneg (vec row2 k - q * vec sj k) (show m ≠ 0 by omega); have := Int.emod_lt_of_pos (vec row2 k - q * vec sj k) hm; omega
theorem qFL.red {sq : List (List Int)} {row : Vec} (hT : qFC m n 0 (sq.map vec)) (hsq : sq.length = n) (h : qCL m n i ((sq.map vec).drop (i + 1)) row (vec row1) j) (hij : i < j) (hjn : j < n) (hl1 : row1.length = n) (hq : q = vec row1 j / vec (sq[j]'(by omega)) j) (hk : qFL m q n j n (sq[j]'(by omega)) row1 row2) :
 qCL m n i ((sq.map vec).drop (i + 1)) row (vec row2) (j + 1) := by
 have hlen : ((sq.map vec).drop (i + 1)).length = n - (i + 1) := by simp [hsq]
 have e : ∀ hh : j - (i + 1) < ((sq.map vec).drop (i + 1)).length, ((sq.map vec).drop (i + 1))[j - (i + 1)] = vec (sq[j]'(by omega)) := fun hh => by
  rw [List.getElem_drop, List.getElem_map]
  congr 2
  omega
 have hh : j - (i + 1) < ((sq.map vec).drop (i + 1)).length := by omega
 obtain ⟨t1, t2, t3⟩ := hT.at_ j (by simp; omega); rw [List.getElem_map, Nat.zero_add] at t1 t2; rw [List.getElem_map] at t3; have hT2 := hT.drop (i + 1) (by simp; omega); rw [Nat.zero_add] at hT2; exact h.step (q := q) hij hjn hT2 hh (by rw [e hh]; exact t1) (by rw [e hh]; exact t2) (by rw [e hh]; exact t3) (by rw [e hh]; exact hq) hk.low (by rw [e hh]; exact hk.at_) (by rw [e hh]; exact hk.dvd) (fun t ht => qAr (by rw [hk.len]; exact ht))
end
structure qJu (m : Int) (n : Nat) (L0 : List (List Int)) (i : Nat) (L : List (List Int)) : Prop where
 to : qCQ m n (L0.map vec) i (L.map vec)
 rest : ∀ t (h : t < L.length) (h' : t < L0.length), i <= t -> L[t] = L0[t]
 len : L.length = L0.length
 bd : ∀ r ∈ L, Bd m r
theorem qJu.start {m : Int} {n : Nat} {L : List (List Int)} (hb : ∀ r ∈ L, Bd m r) : qJu m n L 0 L := ⟨qCQ.start _ _ _ _, fun _ _ _ _ => rfl, rfl, hb⟩
theorem qJu.step {m : Int} {n i : Nat} {L0 L : List (List Int)} {row' : List Int} (h : qJu m n L0 i L) (hi : i < L.length) (hi' : i < L0.length) (hs : qCL m n i ((L0.map vec).drop (i + 1)) (vec L0[i]) (vec row') n) (hb : Bd m row') : qJu m n L0 (i + 1) (L.set i row') := by
 have hlen := h.len; refine ⟨?_, fun t ht ht' hit => ?_, by rw [List.length_set]; exact hlen, fun r hr => ?_⟩
 ·rw [List.map_set]
  refine h.to.step (by simpa using hi') (by simpa using hi) ?_; rw [List.getElem_map]; exact hs
 ·rw [List.getElem_set_ne (by omega)]
  exact h.rest t (by simpa using ht) ht' (by omega)
 ·rcases List.mem_or_eq_of_mem_set hr with h1 | h1
  ·exact h.bd r h1
  ·rw [h1]; exact hb
theorem qJu.done {m : Int} {n : Nat} {L0 L : List (List Int)} (h : qJu m n L0 L0.length L) : qIA m n 0 (L0.map vec) (L.map vec) := by
 have := h.to; exact qCQ.done (by simpa using this) (by simpa using h.len)
theorem qCL.first {m : Int} {n i : Nat} {rest : List Vec} {row : List Int} (hl : row.length = n) : qCL m n i rest (vec row) (vec row) (i + 1) := qCL.start (fun t ht => qAr (by omega))
def dgL (m : Int) (n : Nat) : List (List Int) := (List.range n).map (fun i => (List.replicate n 0).set i m)
theorem qEy (m : Int) (n : Nat) : (dgL m n).length = n := by simp [dgL]
theorem qKs (m : Int) (n i : Nat) (h : i < n) : (dgL m n)[i]'(by rw [qEy]; exact h) = (List.replicate n 0).set i m := by simp [dgL]
theorem qLE (m : Int) (n i : Nat) (hi : i < n) : vec ((List.replicate n 0).set i m) = qBT m i := by
 funext t
 rw [qBS (by simpa using hi)]; unfold qBT
 split
 ·rfl
 ·unfold vec
  rcases Nat.lt_or_ge t n with h | h
  ·simp [h]
  ·rw [List.getElem?_eq_none (by simpa using h)]; rfl
theorem qLi (m : Int) (n : Nat) : (dgL m n).map vec = diag m 0 n := by
 refine List.ext_getElem (by simp [qEy, qFv]) (fun i h1 h2 => ?_); simp only [List.length_map, qEy] at h1; rw [List.getElem_map, qKs m n i h1, qLE m n i h1, qHj, Nat.zero_add]
theorem qL8 {m : Int} (hm : 0 < m) (n : Nat) : ∀ r ∈ dgL m n, Bd m r := by
 intro r hr x hx; obtain ⟨i, _, rfl⟩ := List.mem_map.1 hr; rcases List.mem_or_eq_of_mem_set hx with h | h
 ·rw [(List.mem_replicate.1 h).2]; omega
 ·omega
def cdL (m : Int) (ps : List Nat) (r : List Int) : List Int := ps.map (fun p => vec r p % m)
theorem qFA {m : Int} {ps : List Nat} {r : List Int} : (cdL m ps r).length = ps.length := by simp [cdL]
theorem qLl {m : Int} {ps : List Nat} {r : List Int} (t : Nat) : vec (cdL m ps r) t = res ps (vec r) t % m := by
 unfold cdL res; by_cases h : t < ps.length
 ·rw [dif_pos h, qAk (by simpa using h), List.getElem_map]
 ·rw [dif_neg h, qAr (by simp; omega)]; simp
theorem qMb {m : Int} (hm : 0 < m) (ps : List Nat) (r : List Int) : Bd m (cdL m ps r) := by
 intro x hx; obtain ⟨p, _, rfl⟩ := List.mem_map.1 hx; have := Int.emod_nonneg (vec r p) (show m ≠ 0 by omega); have := Int.emod_lt_of_pos (vec r p) hm; omega
structure SqL (m : Int) (ps : List Nat) (M0 : List (List Int)) (j : Nat) (sq : List (List Int)) : Prop where
 to : qH5 m ps.length (sq.map vec) ((M0.take j).map (fun r => res ps (vec r)))
 bd : ∀ r ∈ sq, Bd m r
theorem SqL.start {m : Int} (hm : 0 < m) (ps : List Nat) (M0 : List (List Int)) : SqL m ps M0 0 (dgL m ps.length) :=
 ⟨by rw [qLi]; simpa using qH5.start hm ps.length, qL8 hm _⟩
theorem SqL.step {m : Int} {ps : List Nat} {M0 sq sq' : List (List Int)} {j : Nat} (h : SqL m ps M0 j sq) (hj : j < M0.length) (hi : Ins m ps.length 0 (sq.map vec) (vec (cdL m ps M0[j])) (sq'.map vec)) (hb : ∀ r ∈ sq', Bd m r) : SqL m ps M0 (j + 1) sq' := by
 refine ⟨?_, hb⟩; rw [List.take_succ_eq_append_getElem hj, List.map_append, List.map_singleton]; refine h.to.step (fun t ht => ?_) (fun t ht => qAr (by rw [qFA]; exact ht)) (fun t => ?_) hi
 ·unfold res
  rw [dif_neg (by omega)]
 ·rw [qLl]
  exact qEv m _
end Go.Proofs.Ytlmbebbdamgfpaa
