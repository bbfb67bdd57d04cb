/- The reducing of the triangular basis, over lists; plain Lean. -/
import Derived.Test.YtlmbebbdamgfpaaQULInd
set_option linter.unusedVariables false
set_option linter.unusedSimpArgs false
set_option linter.unusedVariables false
set_option linter.unusedSimpArgs false
namespace Go.Proofs.Ytlmbebbdamgfpaa

/-- multiples of the row are taken away up to the place k -/
structure DivTo (m q : Int) (n j k : Nat) (row as_ as' : List Int) : Prop where
 len : as'.length = n
 keep : ∀ t, t ≤ j → vec as' t = vec as_ t
 rest : ∀ t, k ≤ t → vec as' t = vec as_ t
 dvd : ∀ t, j < t → t < k → m ∣ vec as_ t - q * vec row t - vec as' t
 bd : Bd m as'
section
variable {m q : Int} {n j k : Nat} {row as_ as' : List Int}
theorem DivTo.start (hl : as_.length = n) (hb : Bd m as_) : DivTo m q n j (j + 1) row as_ as_ := ⟨hl, fun _ _ => rfl, fun _ _ => rfl, fun t h1 h2 => by omega, hb⟩
theorem DivTo.skip (h : DivTo m q n j k row as_ as') (h0 : vec row k = 0) : DivTo m q n j (k + 1) row as_ as' :=
 ⟨h.len, h.keep, fun t ht => h.rest t (by omega), fun t h1 h2 => by
  rcases Nat.lt_or_ge t k with h3 | h3
  ·exact h.dvd t h1 h3
  ·obtain rfl : t = k := by omega
   rw [h.rest t (Nat.le_refl _), h0]
   exact ⟨0, by simp⟩, h.bd⟩
theorem DivTo.step (h : DivTo m q n j k row as_ as') (hm : 0 < m) (hj : j < k) (hk : k < n) {z : Int} (hz : z = (vec as' k - q * vec row k) % m) : DivTo m q n j (k + 1) row as_ (as'.set k z) := by
 have hl := h.len
 have e : ∀ t, vec (as'.set k z) t = if t = k then z else vec as' t := fun t => vec_set (by omega) z t
 refine ⟨by rw [List.length_set]; exact hl, fun t ht => by rw [e, if_neg (by omega)]; exact h.keep t ht, fun t ht => by rw [e, if_neg (by omega)]; exact h.rest t (by omega), fun t h1 h2 => ?_, h.bd.set k ?_⟩
 ·rw [e]
  rcases Nat.lt_or_ge t k with h3 | h3
  ·rw [if_neg (by omega)]; exact h.dvd t h1 h3
  ·obtain rfl : t = k := by omega
   rw [if_pos rfl, hz, h.rest t (Nat.le_refl _)]
   exact dvd_mod m _
 ·rw [hz]
  have := Int.emod_nonneg (vec as' k - q * vec row k) (show m ≠ 0 by omega)
  have := Int.emod_lt_of_pos (vec as' k - q * vec row k) hm
  omega
theorem DivTo.ins (h : DivTo m q n j n row as_ as') (hr : ∀ k, k < j → vec row k = 0) (hp : 0 < vec row j) (ha : ∀ k, k < j → vec as_ k = 0) (hrl : row.length = n) (hal : as_.length = n) (hj : j < n) (hq : vec as_ j = q * vec row j) : InsStep m n j (vec row) (vec as_) (vec row) (vec (as'.set j 0)) ∧ Bd m (as'.set j 0) ∧ (as'.set j 0).length = n ∧ ∀ t, t ≤ j → vec (as'.set j 0) t = 0 := by
 have hl := h.len
 have e : ∀ t, vec (as'.set j 0) t = if t = j then 0 else vec as' t := fun t => vec_set (by omega) 0 t
 have z : ∀ t, t ≤ j → vec (as'.set j 0) t = 0 := fun t ht => by
  rw [e]
  split
  ·rfl
  ·rw [h.keep t ht, ha t (by omega)]
 have hm0 : 0 ≤ m := by
  rcases Int.lt_or_le m 0 with h1 | h1
  ·exfalso
   have := h.bd (as'[j]'(by omega)) (List.getElem_mem _)
   omega
  ·exact h1
 refine ⟨ins_div hr hp ha hrl hal (by rw [List.length_set]; exact hl) hj hq z (fun t h1 h2 => ?_), h.bd.set j ⟨by omega, hm0⟩, by rw [List.length_set]; exact hl, z⟩
 rw [e, if_neg (by omega)]
 exact h.dvd t h1 h2
end
/-- both rows are combined up to the place k -/
structure CombTo (m u v c d : Int) (n j k : Nat) (row as_ row' as' : List Int) : Prop where
 lenr : row'.length = n
 lena : as'.length = n
 keepr : ∀ t, t ≤ j → vec row' t = vec row t
 keepa : ∀ t, t ≤ j → vec as' t = vec as_ t
 restr : ∀ t, k ≤ t → vec row' t = vec row t
 resta : ∀ t, k ≤ t → vec as' t = vec as_ t
 dvdr : ∀ t, j < t → t < k → m ∣ (u * vec row t + v * vec as_ t) - vec row' t
 dvda : ∀ t, j < t → t < k → m ∣ (c * vec row t + d * vec as_ t) - vec as' t
 bdr : Bd m row'
 bda : Bd m as'
section
variable {m u v c d : Int} {n j k : Nat} {row as_ row' as' : List Int}
theorem CombTo.start (hl : row.length = n) (hl2 : as_.length = n) (hb : Bd m row) (hb2 : Bd m as_) : CombTo m u v c d n j (j + 1) row as_ row as_ :=
 ⟨hl, hl2, fun _ _ => rfl, fun _ _ => rfl, fun _ _ => rfl, fun _ _ => rfl, fun t h1 h2 => by omega, fun t h1 h2 => by omega, hb, hb2⟩
theorem CombTo.skip (h : CombTo m u v c d n j k row as_ row' as') (h1 : vec row' k = 0) (h2 : vec as' k = 0) : CombTo m u v c d n j (k + 1) row as_ row' as' := by
 have e1 := h.restr k (Nat.le_refl _)
 have e2 := h.resta k (Nat.le_refl _)
 refine ⟨h.lenr, h.lena, h.keepr, h.keepa, fun t ht => h.restr t (by omega), fun t ht => h.resta t (by omega), fun t g1 g2 => ?_, fun t g1 g2 => ?_, h.bdr, h.bda⟩
 ·rcases Nat.lt_or_ge t k with h3 | h3
  ·exact h.dvdr t g1 h3
  ·obtain rfl : t = k := by omega
   rw [← e1, ← e2, h1, h2]
   exact ⟨0, by simp⟩
 ·rcases Nat.lt_or_ge t k with h3 | h3
  ·exact h.dvda t g1 h3
  ·obtain rfl : t = k := by omega
   rw [← e1, ← e2, h1, h2]
   exact ⟨0, by simp⟩
theorem CombTo.step (h : CombTo m u v c d n j k row as_ row' as') (hm : 0 < m) (hj : j < k) (hk : k < n) {x y : Int} (hx : vec row' k = x) (hy : vec as' k = y) : CombTo m u v c d n j (k + 1) row as_ (row'.set k ((u * x + v * y) % m)) (as'.set k ((c * x + d * y) % m)) := by
 have e1 := h.restr k (Nat.le_refl _)
 have e2 := h.resta k (Nat.le_refl _)
 have hl := h.lenr
 have hl2 := h.lena
 have r1 : ∀ t, vec (row'.set k ((u * x + v * y) % m)) t = if t = k then (u * x + v * y) % m else vec row' t := fun t => vec_set (by omega) _ t
 have r2 : ∀ t, vec (as'.set k ((c * x + d * y) % m)) t = if t = k then (c * x + d * y) % m else vec as' t := fun t => vec_set (by omega) _ t
 have bd : ∀ z : Int, 0 ≤ z % m ∧ z % m ≤ m := fun z => by
  have := Int.emod_nonneg z (show m ≠ 0 by omega)
  have := Int.emod_lt_of_pos z hm
  omega
 refine ⟨by rw [List.length_set]; exact hl, by rw [List.length_set]; exact hl2, fun t ht => by rw [r1, if_neg (by omega)]; exact h.keepr t ht, fun t ht => by rw [r2, if_neg (by omega)]; exact h.keepa t ht, fun t ht => by rw [r1, if_neg (by omega)]; exact h.restr t (by omega), fun t ht => by rw [r2, if_neg (by omega)]; exact h.resta t (by omega), fun t g1 g2 => ?_, fun t g1 g2 => ?_, h.bdr.set k (bd _), h.bda.set k (bd _)⟩
 ·rw [r1]
  rcases Nat.lt_or_ge t k with h3 | h3
  ·rw [if_neg (by omega)]; exact h.dvdr t g1 h3
  ·obtain rfl : t = k := by omega
   rw [if_pos rfl, ← e1, ← e2, hx, hy]
   exact dvd_mod m _
 ·rw [r2]
  rcases Nat.lt_or_ge t k with h3 | h3
  ·rw [if_neg (by omega)]; exact h.dvda t g1 h3
  ·obtain rfl : t = k := by omega
   rw [if_pos rfl, ← e1, ← e2, hx, hy]
   exact dvd_mod m _
theorem CombTo.ins {g : Int} (hb : BezOut (vec row j) (vec as_ j) g u v) (h : CombTo m u v (-(vec as_ j / g)) (vec row j / g) n j n row as_ row' as') (hr : ∀ k, k < j → vec row k = 0) (ha : ∀ k, k < j → vec as_ k = 0) (hrl : row.length = n) (hal : as_.length = n) (hj : j < n) (hg : g ≤ m) :
 InsStep m n j (vec row) (vec as_) (vec (row'.set j g)) (vec (as'.set j 0)) ∧ Bd m (row'.set j g) ∧ Bd m (as'.set j 0) ∧ (row'.set j g).length = n ∧ (as'.set j 0).length = n ∧ ∀ t, t ≤ j → vec (as'.set j 0) t = 0 := by
 have hl := h.lenr
 have hl2 := h.lena
 have g0 := hb.g0
 have r1 : ∀ t, vec (row'.set j g) t = if t = j then g else vec row' t := fun t => vec_set (by omega) _ t
 have r2 : ∀ t, vec (as'.set j 0) t = if t = j then 0 else vec as' t := fun t => vec_set (by omega) _ t
 have z : ∀ t, t ≤ j → vec (as'.set j 0) t = 0 := fun t ht => by
  rw [r2]
  split
  ·rfl
  ·rw [h.keepa t ht, ha t (by omega)]
 refine ⟨ins_comb hb hr ha hrl hal (by rw [List.length_set]; exact hl) (by rw [List.length_set]; exact hl2) hj (by rw [r1, if_pos rfl]) (fun t ht => by rw [r1, if_neg (by omega), h.keepr t (by omega), hr t ht]) z (fun t h1 h2 => ?_) (fun t h1 h2 => ?_), h.bdr.set j ⟨by omega, hg⟩, h.bda.set j ⟨by omega, by omega⟩, by rw [List.length_set]; exact hl, by rw [List.length_set]; exact hl2, z⟩
 ·rw [r1, if_neg (by omega)]; exact h.dvdr t h1 h2
 ·rw [r2, if_neg (by omega)]; exact h.dvda t h1 h2
end
theorem Bd.sz {m : Int} {l : List Int} (h : Bd m l) {j : Nat} (hj : j < l.length) : 0 ≤ l[j] ∧ l[j] ≤ m := h _ (List.getElem_mem hj)
/-- the insertion up to place j, over lists -/
structure InsL (m : Int) (n : Nat) (L0 : List (List Int)) (a0 : List Int) (j : Nat) (L : List (List Int)) (a : List Int) : Prop where
 to : InsTo m n (L0.map vec) (vec a0) j (L.map vec) (vec a)
 rest : ∀ i (h : i < L.length) (h' : i < L0.length), j ≤ i → L[i] = L0[i]
 len : L.length = L0.length
 low : ∀ t, t < j → vec a t = 0
 bd : ∀ r ∈ L, Bd m r
 bda : Bd m a
 alen : a.length = n
theorem InsL.start {m : Int} {n : Nat} {L : List (List Int)} {a : List Int} (hb : ∀ r ∈ L, Bd m r) (hba : Bd m a) (hl : a.length = n) : InsL m n L a 0 L a :=
 ⟨InsTo.start _ _ _ _ _, fun _ _ _ _ => rfl, rfl, fun t h => by omega, hb, hba, hl⟩
theorem InsL.step {m : Int} {n j : Nat} {L0 L : List (List Int)} {a0 a row' a' : List Int} (h : InsL m n L0 a0 j L a) (hj : j < L.length) (hs : InsStep m n j (vec L[j]) (vec a) (vec row') (vec a')) (hb : Bd m row') (hb2 : Bd m a') (hl : a'.length = n) (hz : ∀ t, t ≤ j → vec a' t = 0) : InsL m n L0 a0 (j + 1) (L.set j row') a' := by
 have hlen := h.len
 refine ⟨?_, fun i hi hi' hij => ?_, by rw [List.length_set]; exact hlen, fun t ht => hz t (by omega), fun r hr => ?_, hb2, hl⟩
 ·rw [List.map_set]
  refine h.to.step (by simp; omega) (by simpa using hj) ?_
  rw [List.getElem_map, ← h.rest j hj (by omega) (Nat.le_refl _)]
  exact hs
 ·rw [List.getElem_set_ne (by omega)]
  exact h.rest i (by simpa using hi) hi' (by omega)
 ·rcases List.mem_or_eq_of_mem_set hr with h1 | h1
  ·exact h.bd r h1
  ·rw [h1]; exact hb
theorem InsL.same {m : Int} {n j : Nat} {L0 L : List (List Int)} {a0 a : List Int} (h : InsL m n L0 a0 j L a) (hj : j < L.length) (hs : InsStep m n j (vec L[j]) (vec a) (vec L[j]) (vec a)) (hz : vec a j = 0) : InsL m n L0 a0 (j + 1) L a := by
 have h1 := h.step (row' := L[j]) (a' := a) hj hs (h.bd _ (List.getElem_mem _)) h.bda h.alen (fun t ht => by
  rcases Nat.lt_or_ge t j with h2 | h2
  ·exact h.low t h2
  ·rw [show t = j by omega]; exact hz)
 rwa [List.set_getElem_self] at h1
theorem InsL.done {m : Int} {n : Nat} {L0 L : List (List Int)} {a0 a : List Int} (h : InsL m n L0 a0 L0.length L a) : Ins m n 0 (L0.map vec) (vec a0) (L.map vec) := by
 have := h.to
 have hl := h.len
 exact InsTo.done (a2 := vec a) (by simpa using this) (by simpa using hl)
end Go.Proofs.Ytlmbebbdamgfpaa
set_option linter.unusedVariables false
set_option linter.unusedSimpArgs false
namespace Go.Proofs.Ytlmbebbdamgfpaa

theorem TriL.drop {m : Int} {n : Nat} : ∀ {j : Nat} {L : List Vec}, TriL m n j L → ∀ i, i ≤ L.length → TriL m n (j + i) (L.drop i)
 | j, L, h, 0, _ => by simpa using h
 | j, [], h, i + 1, hi => by simp at hi
 | j, r :: rs, ⟨_, _, _, _, _, h6⟩, i + 1, hi => by
  have := h6.drop i (by simpa using hi)
  rwa [show j + 1 + i = j + (i + 1) by omega] at this

/-- a row, the multiple of another one being taken away up to the place k -/
structure RedK (m q : Int) (n j k : Nat) (sj row1 row2 : List Int) : Prop where
 len : row2.length = n
 low : ∀ t, t < j → vec row2 t = vec row1 t
 at_ : vec row2 j = vec row1 j - q * vec sj j
 rest : ∀ t, k ≤ t → vec row2 t = vec row1 t
 dvd : ∀ t, j < t → t < k → m ∣ vec row1 t - q * vec sj t - vec row2 t
 bd : Bd m row2
section
variable {m q : Int} {n i j k : Nat} {sj row1 row2 : List Int}
theorem RedK.none (hl : row1.length = n) (hb : Bd m row1) : RedK m 0 n j n sj row1 row1 :=
 ⟨hl, fun _ _ => rfl, by rw [Int.zero_mul, Int.sub_zero], fun _ _ => rfl, fun t _ _ => ⟨0, by rw [Int.zero_mul]; omega⟩, hb⟩
theorem RedK.start (hl : row1.length = n) (hj : j < n) (hb : Bd m row1) (hq : q = vec row1 j / vec sj j) (hs : 0 < vec sj j ∧ vec sj j ≤ m) : RedK m q n j (j + 1) sj row1 (row1.set j (vec row1 j - q * vec sj j)) := by
 have e : ∀ t, vec (row1.set j (vec row1 j - q * vec sj j)) t = if t = j then vec row1 j - q * vec sj j else vec row1 t := fun t => vec_set (by omega) _ t
 have hm := Int.emod_add_mul_ediv (vec row1 j) (vec sj j)
 rw [← hq, Int.mul_comm] at hm
 have h1 := Int.emod_nonneg (vec row1 j) (show vec sj j ≠ 0 by omega)
 have h2 := Int.emod_lt_of_pos (vec row1 j) hs.1
 refine ⟨by rw [List.length_set]; exact hl, fun t ht => by rw [e, if_neg (by omega)], by rw [e, if_pos rfl], fun t ht => by rw [e, if_neg (by omega)], fun t h1 h2 => by omega, hb.set j ⟨by omega, by omega⟩⟩
theorem RedK.skip (h : RedK m q n j k sj row1 row2) (hj : j < k) (h0 : vec sj k = 0) : RedK m q n j (k + 1) sj row1 row2 :=
 ⟨h.len, h.low, h.at_, fun t ht => h.rest t (by omega), fun t h1 h2 => by
  rcases Nat.lt_or_ge t k with h3 | h3
  ·exact h.dvd t h1 h3
  ·obtain rfl : t = k := by omega
   rw [h.rest t (Nat.le_refl _), h0]
   exact ⟨0, by simp⟩, h.bd⟩
theorem RedK.step (h : RedK m q n j k sj row1 row2) (hm : 0 < m) (hj : j < k) (hk : k < n) {z : Int} (hz : z = (vec row2 k - q * vec sj k) % m) : RedK m q n j (k + 1) sj row1 (row2.set k z) := by
 have hl := h.len
 have e : ∀ t, vec (row2.set k z) t = if t = k then z else vec row2 t := fun t => vec_set (by omega) z t
 refine ⟨by rw [List.length_set]; exact hl, fun t ht => by rw [e, if_neg (by omega)]; exact h.low t ht, by rw [e, if_neg (by omega)]; exact h.at_, fun t ht => by rw [e, if_neg (by omega)]; exact h.rest t (by omega), fun t h1 h2 => ?_, h.bd.set k ?_⟩
 ·rw [e]
  rcases Nat.lt_or_ge t k with h3 | h3
  ·rw [if_neg (by omega)]; exact h.dvd t h1 h3
  ·obtain rfl : t = k := by omega
   rw [if_pos rfl, hz, h.rest t (Nat.le_refl _)]
   exact dvd_mod m _
 ·rw [hz]
  have := Int.emod_nonneg (vec row2 k - q * vec sj k) (show m ≠ 0 by omega)
  have := Int.emod_lt_of_pos (vec row2 k - q * vec sj k) hm
  omega
/-- one more place of a row is reduced -/
theorem RedK.red {sq : List (List Int)} {row : Vec} (hT : TriL m n 0 (sq.map vec)) (hsq : sq.length = n) (h : RedTo m n i ((sq.map vec).drop (i + 1)) row (vec row1) j) (hij : i < j) (hjn : j < n) (hl1 : row1.length = n) (hq : q = vec row1 j / vec (sq[j]'(by omega)) j) (hk : RedK m q n j n (sq[j]'(by omega)) row1 row2) :
 RedTo m n i ((sq.map vec).drop (i + 1)) row (vec row2) (j + 1) := by
 have hlen : ((sq.map vec).drop (i + 1)).length = n - (i + 1) := by simp [hsq]
 have e : ∀ hh : j - (i + 1) < ((sq.map vec).drop (i + 1)).length, ((sq.map vec).drop (i + 1))[j - (i + 1)] = vec (sq[j]'(by omega)) := fun hh => by
  rw [List.getElem_drop, List.getElem_map]
  congr 2
  omega
 have hh : j - (i + 1) < ((sq.map vec).drop (i + 1)).length := by omega
 obtain ⟨t1, t2, t3⟩ := hT.at_ j (by simp; omega)
 rw [List.getElem_map, Nat.zero_add] at t1 t2
 rw [List.getElem_map] at t3
 have hT2 := hT.drop (i + 1) (by simp; omega)
 rw [Nat.zero_add] at hT2
 exact h.step (q := q) hij hjn hT2 hh (by rw [e hh]; exact t1) (by rw [e hh]; exact t2) (by rw [e hh]; exact t3) (by rw [e hh]; exact hq) hk.low (by rw [e hh]; exact hk.at_) (by rw [e hh]; exact hk.dvd) (fun t ht => vec_out (by rw [hk.len]; exact ht))
end
/-- the reducing up to row i, over lists -/
structure RedL (m : Int) (n : Nat) (L0 : List (List Int)) (i : Nat) (L : List (List Int)) : Prop where
 to : RedsTo m n (L0.map vec) i (L.map vec)
 rest : ∀ t (h : t < L.length) (h' : t < L0.length), i ≤ t → L[t] = L0[t]
 len : L.length = L0.length
 bd : ∀ r ∈ L, Bd m r
theorem RedL.start {m : Int} {n : Nat} {L : List (List Int)} (hb : ∀ r ∈ L, Bd m r) : RedL m n L 0 L := ⟨RedsTo.start _ _ _ _, fun _ _ _ _ => rfl, rfl, hb⟩
theorem RedL.step {m : Int} {n i : Nat} {L0 L : List (List Int)} {row' : List Int} (h : RedL m n L0 i L) (hi : i < L.length) (hi' : i < L0.length) (hs : RedTo m n i ((L0.map vec).drop (i + 1)) (vec L0[i]) (vec row') n) (hb : Bd m row') : RedL m n L0 (i + 1) (L.set i row') := by
 have hlen := h.len
 refine ⟨?_, fun t ht ht' hit => ?_, by rw [List.length_set]; exact hlen, fun r hr => ?_⟩
 ·rw [List.map_set]
  refine h.to.step (by simpa using hi') (by simpa using hi) ?_
  rw [List.getElem_map]
  exact hs
 ·rw [List.getElem_set_ne (by omega)]
  exact h.rest t (by simpa using ht) ht' (by omega)
 ·rcases List.mem_or_eq_of_mem_set hr with h1 | h1
  ·exact h.bd r h1
  ·rw [h1]; exact hb
theorem RedL.done {m : Int} {n : Nat} {L0 L : List (List Int)} (h : RedL m n L0 L0.length L) : Reds m n 0 (L0.map vec) (L.map vec) := by
 have := h.to
 exact RedsTo.done (by simpa using this) (by simpa using h.len)
theorem RedTo.first {m : Int} {n i : Nat} {rest : List Vec} {row : List Int} (hl : row.length = n) : RedTo m n i rest (vec row) (vec row) (i + 1) := RedTo.start (fun t ht => vec_out (by omega))

/-- the square that triangle begins with -/
def dgL (m : Int) (n : Nat) : List (List Int) := (List.range n).map (fun i => (List.replicate n 0).set i m)
theorem dgL_len (m : Int) (n : Nat) : (dgL m n).length = n := by simp [dgL]
theorem dgL_at (m : Int) (n i : Nat) (h : i < n) : (dgL m n)[i]'(by rw [dgL_len]; exact h) = (List.replicate n 0).set i m := by simp [dgL]
theorem vec_dg (m : Int) (n i : Nat) (hi : i < n) : vec ((List.replicate n 0).set i m) = unitV m i := by
 funext t
 rw [vec_set (by simpa using hi)]
 unfold unitV
 split
 ·rfl
 ·unfold vec
  rcases Nat.lt_or_ge t n with h | h
  ·simp [h]
  ·rw [List.getElem?_eq_none (by simpa using h)]; rfl
theorem dgL_vec (m : Int) (n : Nat) : (dgL m n).map vec = diag m 0 n := by
 refine List.ext_getElem (by simp [dgL_len, diag_len]) (fun i h1 h2 => ?_)
 simp only [List.length_map, dgL_len] at h1
 rw [List.getElem_map, dgL_at m n i h1, vec_dg m n i h1, diag_at, Nat.zero_add]
theorem dgL_bd {m : Int} (hm : 0 < m) (n : Nat) : ∀ r ∈ dgL m n, Bd m r := by
 intro r hr x hx
 obtain ⟨i, _, rfl⟩ := List.mem_map.1 hr
 rcases List.mem_or_eq_of_mem_set hx with h | h
 ·rw [(List.mem_replicate.1 h).2]; omega
 ·omega
/-- the coordinates of a row, modulo m -/
def cdL (m : Int) (ps : List Nat) (r : List Int) : List Int := ps.map (fun p => vec r p % m)
theorem cdL_len {m : Int} {ps : List Nat} {r : List Int} : (cdL m ps r).length = ps.length := by simp [cdL]
theorem cdL_vec {m : Int} {ps : List Nat} {r : List Int} (t : Nat) : vec (cdL m ps r) t = res ps (vec r) t % m := by
 unfold cdL res
 by_cases h : t < ps.length
 ·rw [dif_pos h, vec_at (by simpa using h), List.getElem_map]
 ·rw [dif_neg h, vec_out (by simp; omega)]; simp
theorem cdL_bd {m : Int} (hm : 0 < m) (ps : List Nat) (r : List Int) : Bd m (cdL m ps r) := by
 intro x hx
 obtain ⟨p, _, rfl⟩ := List.mem_map.1 hx
 have := Int.emod_nonneg (vec r p) (show m ≠ 0 by omega)
 have := Int.emod_lt_of_pos (vec r p) hm
 omega
/-- the rows that are in the square, over lists -/
structure SqL (m : Int) (ps : List Nat) (M0 : List (List Int)) (j : Nat) (sq : List (List Int)) : Prop where
 to : SqTo m ps.length (sq.map vec) ((M0.take j).map (fun r => res ps (vec r)))
 bd : ∀ r ∈ sq, Bd m r
theorem SqL.start {m : Int} (hm : 0 < m) (ps : List Nat) (M0 : List (List Int)) : SqL m ps M0 0 (dgL m ps.length) :=
 ⟨by rw [dgL_vec]; simpa using SqTo.start hm ps.length, dgL_bd hm _⟩
theorem SqL.step {m : Int} {ps : List Nat} {M0 sq sq' : List (List Int)} {j : Nat} (h : SqL m ps M0 j sq) (hj : j < M0.length) (hi : Ins m ps.length 0 (sq.map vec) (vec (cdL m ps M0[j])) (sq'.map vec)) (hb : ∀ r ∈ sq', Bd m r) : SqL m ps M0 (j + 1) sq' := by
 refine ⟨?_, hb⟩
 rw [List.take_succ_eq_append_getElem hj, List.map_append, List.map_singleton]
 refine h.to.step (fun t ht => ?_) (fun t ht => vec_out (by rw [cdL_len]; exact ht)) (fun t => ?_) hi
 ·unfold res
  rw [dif_neg (by omega)]
 ·rw [cdL_vec]
  exact dvd_mod m _
end Go.Proofs.Ytlmbebbdamgfpaa
