/- A region that draws its order: operations that may come up in any order are met once each, by a relation on what has come up. -/
import Derived.Test.YtlmbebbdamgfpaaQJLComb
import Derived.Test.YtlmbebbdamgfpaaQJWSubtr
set_option linter.unusedVariables false
set_option linter.unusedSimpArgs false
namespace Go.Proofs.Ytlmbebbdamgfpaa

def diag (m : Int) : Nat -> Nat -> List Vec
 | _, 0 => []
 | j, k + 1 => qBJ m j :: diag m (j + 1) k
theorem qHD {m : Int} (hm : 0 < m) : ∀ (k j n : Nat), j + k = n -> qFh m n j (diag m j k)
 | 0, j, n, h => by show j = n; omega
 | k + 1, j, n, h => by
  refine ⟨by omega, fun t ht => ?_, ?_, fun t ht => ?_, InsSpan0 _ _, qHD hm k (j + 1) n (by omega)⟩
  ·show (if t = j then m else 0) = 0
   rw [if_neg (by omega)]
  ·show 0 < if j = j then m else 0
   rw [if_pos rfl]; exact hm
  ·show (if t = j then m else 0) = 0
   rw [if_neg (by omega)]
where InsSpan0 (a : Vec) (L : List Vec) : qAa (a :: L) a := qAa.mem (by simp)
theorem qFb {m : Int} : ∀ (k j : Nat), (diag m j k).length = k
 | 0, _ => rfl
 | k + 1, j => by simp [diag, qFb k]
theorem qHE {m : Int} : ∀ (k j : Nat) (v : Vec), v ∈ diag m j k -> ∃ t, j <= t /\ t < j + k /\ v = qBJ m t
 | 0, j, v, h => by simp [diag] at h
 | k + 1, j, v, h => by
  rcases List.mem_cons.1 h with rfl | h
  ·exact ⟨j, by omega, by omega, rfl⟩
  ·obtain ⟨t, h1, h2, h3⟩ := qHE k (j + 1) v h
   exact ⟨t, by omega, by omega, h3⟩
theorem qGX {m : Int} : ∀ (k j i : Nat) (h : i < (diag m j k).length), (diag m j k)[i] = qBJ m (j + i)
 | k + 1, j, 0, h => by simp [diag]
 | k + 1, j, i + 1, h => by
  simp only [diag, List.getElem_cons_succ]; rw [qGX k (j + 1) i]
  congr 1
  omega
def qMQ (m : Int) (l : List Int) : List Int := l.map (fun x => x % m)
structure qHQ (m : Int) (n : Nat) (Sq R : List Vec) : Prop where
 tri : qFh m n 0 Sq
 into : ∀ r ∈ Sq, qAa (diag m 0 n ++ R) r
 onto : ∀ r ∈ R, qAa Sq r
theorem qHQ.start {m : Int} (hm : 0 < m) (n : Nat) : qHQ m n (diag m 0 n) [] :=
 ⟨qHD hm n 0 n (by omega), fun r hr => qAa.mem (by simpa using hr), fun r hr => by simp at hr⟩
theorem qHQ.step {m : Int} {n : Nat} {Sq Sq' R : List Vec} {a : Vec} {a' : Vec} (h : qHQ m n Sq R) (ha : ∀ t, n <= t -> a t = 0) (ha' : ∀ t, n <= t -> a' t = 0) (hd : ∀ t, m ∣ a t - a' t) (hi : Ins m n 0 Sq a' Sq') : qHQ m n Sq' (R ++ [a]) := by
 obtain ⟨t1, t2, t3⟩ := hi.spec h.tri (fun k hk => by omega) ha'; have hdiff : ∀ L : List Vec, (∀ k, k < n -> qAa L (qBJ m k)) -> qAa L (fun t => a t - a' t) := fun L hL =>
  qBL n 0 _ (fun k _ b => hL k b) (fun k hk => by omega) (fun k hk => by
   show a k - a' k = 0
   rw [ha k hk, ha' k hk]; rfl) hd
 refine ⟨t1, fun r hr => (t2 r hr).trans (fun s hs => ?_), fun r hr => ?_⟩
 ·rcases List.mem_cons.1 hs with rfl | hs
  ·have h1 : qAa (diag m 0 n ++ (R ++ [a])) a := qAa.mem (by simp)
   have h2 := hdiff (diag m 0 n ++ (R ++ [a])) (fun k hk => qAa.mem (by
    rw [List.mem_append]; refine .inl ?_; have : (diag m 0 n)[k]'(by rw [qFb]; exact hk) = qBJ m k := by rw [qGX]; congr 1; omega
    rw [<- this]; exact List.getElem_mem _))
   exact (h1.sub h2).congr (fun j => by show a j - (a j - s j) = s j; omega)
  ·refine (h.into s hs).trans (fun q hq => qAa.mem ?_)
   simp only [List.mem_append] at hq ⊢; rcases hq with h | h
   ·exact .inl h
   ·exact .inr (.inl h)
 ·simp only [List.mem_append, List.mem_singleton] at hr
  rcases hr with hr | rfl
  ·exact (h.onto r hr).trans (fun s hs => t3 s (by simp [hs]))
  ·have h1 := t3 a' (by simp)
   have h2 := hdiff Sq' (fun k hk => t1.unit k (by omega) hk); exact (h1.add h2).congr (fun j => by show a' j + (r j - a' j) = r j; omega)
def qCL (m : Int) (n : Nat) (L : List Vec) (i : Nat) (L2 : List Vec) : Prop :=
 ∀ rest, qIt m n i (L.drop i) rest -> qIt m n 0 L (L2.take i ++ rest)
theorem qCL.start (m : Int) (n : Nat) (L L2 : List Vec) : qCL m n L 0 L2 := fun rest h => by simpa using h
theorem qCL.step {m : Int} {n i : Nat} {L L2 : List Vec} {row' : Vec} (h : qCL m n L i L2) (hi : i < L.length) (hi2 : i < L2.length) (hs : qCI m n i (L.drop (i + 1)) L[i] row' n) : qCL m n L (i + 1) (L2.set i row') := by
 intro rest hr; have := h (row' :: rest) (by rw [List.drop_eq_getElem_cons hi]; exact .cons hs hr); rw [List.take_succ_eq_append_getElem (by simpa using hi2), List.getElem_set_self, List.take_set_of_le (Nat.le_refl _)]; simpa using this
theorem qCL.done {m : Int} {n : Nat} {L L2 : List Vec} (h : qCL m n L L.length L2) (hl : L2.length = L.length) : qIt m n 0 L L2 := by
 have := h [] (by rw [List.drop_eq_nil_of_le (Nat.le_refl _)]; exact .nil _)
 rwa [List.append_nil, List.take_of_length_le (by omega)] at this
theorem qHQ.tri_ {m : Int} {n : Nat} {Sq Sq' R : List Vec} (h : qHQ m n Sq R) (hr : qIt m n 0 Sq Sq') (hu : ∀ k, k < n -> qAa R (qBJ m k)) : Tri n Sq' R := by
 obtain ⟨r1, r2, r3, r4, r5⟩ := hr.spec h.tri; have hlen : Sq.length = n := by have := h.tri.len; omega
 refine ⟨by omega, fun i hi t ht => ?_, fun i hi => ?_, fun s i hi hs => ?_, fun r hr' => ?_, fun r hr' => ?_⟩
 ·rw [r4 i (by omega) hi t (by omega)]
  exact (h.tri.at_ i (by omega)).1 t (by omega)
 ·rw [r4 i (by omega) hi i (by omega)]
  have := (h.tri.at_ i (by omega)).2.1
  rwa [Nat.zero_add] at this
 ·have := r5 s i (by omega) (by omega) hs
  rw [r4 i (by omega) hi i (by omega)]
  rwa [Nat.zero_add] at this
 ·refine (r2 r hr').trans (fun s hs => (h.into s hs).trans (fun q hq => ?_))
  rcases List.mem_append.1 hq with hq | hq
  ·obtain ⟨t, _, ht, rfl⟩ := qHE n 0 q hq
   exact hu t (by omega)
  ·exact qAa.mem hq
 ·exact (h.onto r hr').trans r3
theorem qBD.unit {A M : List Vec} {ps : List Nat} {d : Int} {col : Nat} (h : qBD A M ps d col) (hk : ∀ i (h : i < M.length), qDu A M[i]) (hz : ∀ i (hi : i < M.length) t (ht : t < ps.length), i < ps.length -> M[i] ps[t] = if t = i then d else 0) (k : Nat) (hkn : k < ps.length) : qAa (A.map (res ps)) (qBJ d k) := by
 have hkM : k < M.length := by have := h.len; have := h.le; omega
 obtain ⟨q, hq⟩ := (hk k hkM).span; refine ⟨q, fun t => ?_⟩; rw [<- qEW]; unfold res qBJ; by_cases ht : t < ps.length
 ·rw [dif_pos ht, <- hq, hz k hkM t ht hkn]
 ·rw [dif_neg ht, if_neg (by omega)]
theorem qJE {L : List Vec} {d : Int} {k : Nat} (h : qAa L (qBJ d k)) : qAa L (qBJ (if d < 0 then -d else d) k) := by
 split
 ·refine (h.smul (-1)).congr (fun t => ?_)
  show -1 * (if t = k then d else 0) = if t = k then -d else 0
  split <;> omega
 ·exact h
def Bd (m : Int) (l : List Int) : Prop := ∀ x ∈ l, 0 <= x /\ x <= m
theorem Bd.set {m z : Int} {l : List Int} (h : Bd m l) (j : Nat) (hz : 0 <= z /\ z <= m) : Bd m (l.set j z) := by
 intro x hx; rcases List.mem_or_eq_of_mem_set hx with h1 | h1
 ·exact h x h1
 ·rw [h1]; exact hz
theorem Bd.mod {m : Int} (hm : 0 < m) (l : List Int) : Bd m (qMQ m l) := by
 intro x hx; obtain ⟨y, _, rfl⟩ := List.mem_map.1 hx; have := Int.emod_nonneg y (show m ≠ 0 by omega); have := Int.emod_lt_of_pos y hm; omega
theorem qEa (m x : Int) : m ∣ x - x % m := ⟨x / m, by have := Int.emod_add_mul_ediv x m; omega⟩
section
variable {m : Int} {n j : Nat} {row add row' add' : List Int}
theorem qJ3 (hr : ∀ k, k < j -> vec row k = 0) (hp : 0 < vec row j) (ha : ∀ k, k <= j -> vec add k = 0) (hrl : row.length = n) (hal : add.length = n) (hj : j < n) : qBm m n j (vec row) (vec add) (vec row) (vec add) :=
 qBm.mk' 1 0 0 1 (by omega) hr (fun k hk => ha k (by omega)) (fun k hk => qAq (by omega)) (fun k hk => qAq (by omega)) hj hp (by omega) (ha j (by omega)) (by rw [ha j (by omega)]; omega) (fun _ _ => rfl) (fun _ _ => rfl) (fun k hk => qAq (by omega)) (fun k hk => qAq (by omega))
  (fun k _ _ => ⟨0, by omega⟩) (fun k _ _ => ⟨0, by omega⟩)
theorem qLh {q : Int} (hr : ∀ k, k < j -> vec row k = 0) (hp : 0 < vec row j) (ha : ∀ k, k < j -> vec add k = 0) (hrl : row.length = n) (hal : add.length = n) (hal' : add'.length = n) (hj : j < n) (hq : vec add j = q * vec row j) (h0 : ∀ k, k <= j -> vec add' k = 0) (h1 : ∀ k, j < k -> k < n -> m ∣ vec add k - q * vec row k - vec add' k) :
 qBm m n j (vec row) (vec add) (vec row) (vec add') :=
 qBm.mk' 1 0 (-q) 1 (by omega) hr ha (fun k hk => qAq (by omega)) (fun k hk => qAq (by omega)) hj hp (by omega) (h0 j (by omega)) (by rw [hq, Int.neg_mul]; omega) (fun _ _ => rfl) (fun k hk => by rw [h0 k (by omega), ha k hk]) (fun k hk => qAq (by omega)) (fun k hk => qAq (by omega))
  (fun k _ _ => ⟨0, by omega⟩) (fun k a b => by have := h1 k a b; rw [Int.neg_mul]; rwa [show -(q * vec row k) + 1 * vec add k - vec add' k = vec add k - q * vec row k - vec add' k by omega])
theorem qJ4 {g u v : Int} (hb : qGj (vec row j) (vec add j) g u v) (hr : ∀ k, k < j -> vec row k = 0) (ha : ∀ k, k < j -> vec add k = 0) (hrl : row.length = n) (hal : add.length = n) (hrl' : row'.length = n) (hal' : add'.length = n) (hj : j < n)
 (h1 : vec row' j = g) (h0 : ∀ k, k < j -> vec row' k = 0) (h2 : ∀ k, k <= j -> vec add' k = 0)
 (h3 : ∀ k, j < k -> k < n -> m ∣ (u * vec row k + v * vec add k) - vec row' k) (h4 : ∀ k, j < k -> k < n -> m ∣ (-(vec add j / g) * vec row k + vec row j / g * vec add k) - vec add' k) : qBm m n j (vec row) (vec add) (vec row') (vec add') := by
 obtain ⟨x, hx⟩ := hb.gx; obtain ⟨y, hy⟩ := hb.gy; have hg := hb.g0; have e1 : vec row j / g = x := by rw [hx, Int.mul_ediv_cancel_left _ (by omega)]
 have e2 : vec add j / g = y := by rw [hy, Int.mul_ediv_cancel_left _ (by omega)]
 rw [e1, e2] at h4; have hd : u * x + v * y = 1 := by
  have h5 := hb.eq; rw [hx, hy] at h5; have h6 : g * (u * x + v * y) = g * 1 := by
   rw [Int.mul_one]
   conv => rhs; rw [<- h5]
   grind
  exact Int.eq_of_mul_eq_mul_left (by omega) h6
 refine qBm.mk' u v (-y) x (by rw [Int.mul_neg]; omega) hr ha (fun k hk => qAq (by omega)) (fun k hk => qAq (by omega)) hj (by rw [h1]; exact hg) (by rw [h1]; exact hb.eq.symm) (h2 j (by omega)) (by rw [hx, hy]; grind) (fun k hk => by rw [h0 k hk, hr k hk]) (fun k hk => by rw [h2 k (by omega), ha k hk]) (fun k hk => qAq (by omega)) (fun k hk => qAq (by omega)) h3 h4
end
structure qDE (m q : Int) (n j k : Nat) (row as_ as' : List Int) : Prop where
 len : as'.length = n
 keep : ∀ t, t <= j -> vec as' t = vec as_ t
 rest : ∀ t, k <= t -> vec as' t = vec as_ t
 dvd : ∀ t, j < t -> t < k -> m ∣ vec as_ t - q * vec row t - vec as' t
 bd : Bd m as'
section
variable {m q : Int} {n j k : Nat} {row as_ as' : List Int}
theorem qDE.start (hl : as_.length = n) (hb : Bd m as_) : qDE m q n j (j + 1) row as_ as_ := ⟨hl, fun _ _ => rfl, fun _ _ => rfl, fun t h1 h2 => by omega, hb⟩
theorem qDE.skip (h : qDE m q n j k row as_ as') (h0 : vec row k = 0) : qDE m q n j (k + 1) row as_ as' :=
 ⟨h.len, h.keep, fun t ht => h.rest t (by omega), fun t h1 h2 => by
  rcases Nat.lt_or_ge t k with h3 | h3
  ·exact h.dvd t h1 h3
  ·obtain rfl : t = k := by omega
   rw [h.rest t (Nat.le_refl _), h0]; exact ⟨0, by simp⟩, h.bd⟩
theorem qDE.step (h : qDE m q n j k row as_ as') (hm : 0 < m) (hj : j < k) (hk : k < n) {z : Int} (hz : z = (vec as' k - q * vec row k) % m) : qDE m q n j (k + 1) row as_ (as'.set k z) := by
 have hl := h.len; have e : ∀ t, vec (as'.set k z) t = if t = k then z else vec as' t := fun t => qBI (by omega) z t; refine ⟨by rw [List.length_set]; exact hl, fun t ht => by rw [e, if_neg (by omega)]; exact h.keep t ht, fun t ht => by rw [e, if_neg (by omega)]; exact h.rest t (by omega), fun t h1 h2 => ?_, h.bd.set k ?_⟩
 ·rw [e]
  rcases Nat.lt_or_ge t k with h3 | h3
  ·rw [if_neg (by omega)]; exact h.dvd t h1 h3
  ·obtain rfl : t = k := by omega
   rw [if_pos rfl, hz, h.rest t (Nat.le_refl _)]; exact qEa m _
 ·rw [hz]
  have := Int.emod_nonneg (vec as' k - q * vec row k) (show m ≠ 0 by omega); have := Int.emod_lt_of_pos (vec as' k - q * vec row k) hm; omega
theorem qDE.ins (h : qDE m q n j n row as_ as') (hr : ∀ k, k < j -> vec row k = 0) (hp : 0 < vec row j) (ha : ∀ k, k < j -> vec as_ k = 0) (hrl : row.length = n) (hal : as_.length = n) (hj : j < n) (hq : vec as_ j = q * vec row j) : qBm m n j (vec row) (vec as_) (vec row) (vec (as'.set j 0)) /\ Bd m (as'.set j 0) /\ (as'.set j 0).length = n /\ ∀ t, t <= j -> vec (as'.set j 0) t = 0 := by
 have hl := h.len; have e : ∀ t, vec (as'.set j 0) t = if t = j then 0 else vec as' t := fun t => qBI (by omega) 0 t; have z : ∀ t, t <= j -> vec (as'.set j 0) t = 0 := fun t ht => by
  rw [e]
  split
  ·rfl
  ·rw [h.keep t ht, ha t (by omega)]
 have hm0 : 0 <= m := by
  rcases Int.lt_or_le m 0 with h1 | h1
  ·exfalso
   have := h.bd (as'[j]'(by omega)) (List.getElem_mem _); omega
  ·exact h1
 refine ⟨qLh hr hp ha hrl hal (by rw [List.length_set]; exact hl) hj hq z (fun t h1 h2 => ?_), h.bd.set j ⟨by omega, hm0⟩, by rw [List.length_set]; exact hl, z⟩; rw [e, if_neg (by omega)]; exact h.dvd t h1 h2
end
structure qCh (m u v c d : Int) (n j k : Nat) (row as_ row' as' : List Int) : Prop where
 lenr : row'.length = n
 lena : as'.length = n
 keepr : ∀ t, t <= j -> vec row' t = vec row t
 keepa : ∀ t, t <= j -> vec as' t = vec as_ t
 restr : ∀ t, k <= t -> vec row' t = vec row t
 resta : ∀ t, k <= t -> vec as' t = vec as_ t
 dvdr : ∀ t, j < t -> t < k -> m ∣ (u * vec row t + v * vec as_ t) - vec row' t
 dvda : ∀ t, j < t -> t < k -> m ∣ (c * vec row t + d * vec as_ t) - vec as' t
 bdr : Bd m row'
 bda : Bd m as'
section
variable {m u v c d : Int} {n j k : Nat} {row as_ row' as' : List Int}
theorem qCh.start (hl : row.length = n) (hl2 : as_.length = n) (hb : Bd m row) (hb2 : Bd m as_) : qCh m u v c d n j (j + 1) row as_ row as_ :=
 ⟨hl, hl2, fun _ _ => rfl, fun _ _ => rfl, fun _ _ => rfl, fun _ _ => rfl, fun t h1 h2 => by omega, fun t h1 h2 => by omega, hb, hb2⟩
theorem qCh.skip (h : qCh m u v c d n j k row as_ row' as') (h1 : vec row' k = 0) (h2 : vec as' k = 0) : qCh m u v c d n j (k + 1) row as_ row' as' := by
 have e1 := h.restr k (Nat.le_refl _); have e2 := h.resta k (Nat.le_refl _); refine ⟨h.lenr, h.lena, h.keepr, h.keepa, fun t ht => h.restr t (by omega), fun t ht => h.resta t (by omega), fun t g1 g2 => ?_, fun t g1 g2 => ?_, h.bdr, h.bda⟩
 ·rcases Nat.lt_or_ge t k with h3 | h3
  ·exact h.dvdr t g1 h3
  ·obtain rfl : t = k := by omega
   rw [<- e1, <- e2, h1, h2]; exact ⟨0, by simp⟩
 ·rcases Nat.lt_or_ge t k with h3 | h3
  ·exact h.dvda t g1 h3
  ·obtain rfl : t = k := by omega
   rw [<- e1, <- e2, h1, h2]; exact ⟨0, by simp⟩
theorem qCh.step (h : qCh m u v c d n j k row as_ row' as') (hm : 0 < m) (hj : j < k) (hk : k < n) {x y : Int} (hx : vec row' k = x) (hy : vec as' k = y) : qCh m u v c d n j (k + 1) row as_ (row'.set k ((u * x + v * y) % m)) (as'.set k ((c * x + d * y) % m)) := by
 have e1 := h.restr k (Nat.le_refl _); have e2 := h.resta k (Nat.le_refl _); have hl := h.lenr; have hl2 := h.lena; have r1 : ∀ t, vec (row'.set k ((u * x + v * y) % m)) t = if t = k then (u * x + v * y) % m else vec row' t := fun t => qBI (by omega) _ t; have r2 : ∀ t, vec (as'.set k ((c * x + d * y) % m)) t = if t = k then (c * x + d * y) % m else vec as' t := fun t => qBI (by omega) _ t; have bd : ∀ z : Int, 0 <= z % m /\ z % m <= m := fun z => by
  have := Int.emod_nonneg z (show m ≠ 0 by omega); have := Int.emod_lt_of_pos z hm; omega
 refine ⟨by rw [List.length_set]; exact hl, by rw [List.length_set]; exact hl2, fun t ht => by rw [r1, if_neg (by omega)]; exact h.keepr t ht, fun t ht => by rw [r2, if_neg (by omega)]; exact h.keepa t ht, fun t ht => by rw [r1, if_neg (by omega)]; exact h.restr t (by omega), fun t ht => by rw [r2, if_neg (by omega)]; exact h.resta t (by omega), fun t g1 g2 => ?_, fun t g1 g2 => ?_, h.bdr.set k (bd _), h.bda.set k (bd _)⟩
 ·rw [r1]
  rcases Nat.lt_or_ge t k with h3 | h3
  ·rw [if_neg (by omega)]; exact h.dvdr t g1 h3
  ·obtain rfl : t = k := by omega
   rw [if_pos rfl, <- e1, <- e2, hx, hy]; exact qEa m _
 ·rw [r2]
  rcases Nat.lt_or_ge t k with h3 | h3
  ·rw [if_neg (by omega)]; exact h.dvda t g1 h3
  ·obtain rfl : t = k := by omega
   rw [if_pos rfl, <- e1, <- e2, hx, hy]; exact qEa m _
theorem qCh.ins {g : Int} (hb : qGj (vec row j) (vec as_ j) g u v) (h : qCh m u v (-(vec as_ j / g)) (vec row j / g) n j n row as_ row' as') (hr : ∀ k, k < j -> vec row k = 0) (ha : ∀ k, k < j -> vec as_ k = 0) (hrl : row.length = n) (hal : as_.length = n) (hj : j < n) (hg : g <= m) :
 qBm m n j (vec row) (vec as_) (vec (row'.set j g)) (vec (as'.set j 0)) /\ Bd m (row'.set j g) /\ Bd m (as'.set j 0) /\ (row'.set j g).length = n /\ (as'.set j 0).length = n /\ ∀ t, t <= j -> vec (as'.set j 0) t = 0 := by
 have hl := h.lenr; have hl2 := h.lena; have g0 := hb.g0; have r1 : ∀ t, vec (row'.set j g) t = if t = j then g else vec row' t := fun t => qBI (by omega) _ t; have r2 : ∀ t, vec (as'.set j 0) t = if t = j then 0 else vec as' t := fun t => qBI (by omega) _ t; have z : ∀ t, t <= j -> vec (as'.set j 0) t = 0 := fun t ht => by
  rw [r2]
  split
  ·rfl
  ·rw [h.keepa t ht, ha t (by omega)]
 refine ⟨qJ4 hb hr ha hrl hal (by rw [List.length_set]; exact hl) (by rw [List.length_set]; exact hl2) hj (by rw [r1, if_pos rfl]) (fun t ht => by rw [r1, if_neg (by omega), h.keepr t (by omega), hr t ht]) z (fun t h1 h2 => ?_) (fun t h1 h2 => ?_), h.bdr.set j ⟨by omega, hg⟩, h.bda.set j ⟨by omega, by omega⟩, by rw [List.length_set]; exact hl, by rw [List.length_set]; exact hl2, z⟩
 ·rw [r1, if_neg (by omega)]; exact h.dvdr t h1 h2
 ·rw [r2, if_neg (by omega)]; exact h.dvda t h1 h2
end
theorem Bd.sz {m : Int} {l : List Int} (h : Bd m l) {j : Nat} (hj : j < l.length) : 0 <= l[j] /\ l[j] <= m := h _ (List.getElem_mem hj)
structure qIp (m : Int) (n : Nat) (L0 : List (List Int)) (a0 : List Int) (j : Nat) (L : List (List Int)) (a : List Int) : Prop where
 to : qEq m n (L0.map vec) (vec a0) j (L.map vec) (vec a)
 rest : ∀ i (h : i < L.length) (h' : i < L0.length), j <= i -> L[i] = L0[i]
 len : L.length = L0.length
 low : ∀ t, t < j -> vec a t = 0
 bd : ∀ r ∈ L, Bd m r
 bda : Bd m a
 alen : a.length = n
theorem qIp.start {m : Int} {n : Nat} {L : List (List Int)} {a : List Int} (hb : ∀ r ∈ L, Bd m r) (hba : Bd m a) (hl : a.length = n) : qIp m n L a 0 L a :=
 ⟨qEq.start _ _ _ _ _, fun _ _ _ _ => rfl, rfl, fun t h => by omega, hb, hba, hl⟩
theorem qIp.step {m : Int} {n j : Nat} {L0 L : List (List Int)} {a0 a row' a' : List Int} (h : qIp m n L0 a0 j L a) (hj : j < L.length) (hs : qBm m n j (vec L[j]) (vec a) (vec row') (vec a')) (hb : Bd m row') (hb2 : Bd m a') (hl : a'.length = n) (hz : ∀ t, t <= j -> vec a' t = 0) : qIp m n L0 a0 (j + 1) (L.set j row') a' := by
 have hlen := h.len; refine ⟨?_, fun i hi hi' hij => ?_, by rw [List.length_set]; exact hlen, fun t ht => hz t (by omega), fun r hr => ?_, hb2, hl⟩
 ·rw [List.map_set]
  refine h.to.step (by simp; omega) (by simpa using hj) ?_; rw [List.getElem_map, <- h.rest j hj (by omega) (Nat.le_refl _)]; exact hs
 ·rw [List.getElem_set_ne (by omega)]
  exact h.rest i (by simpa using hi) hi' (by omega)
 ·rcases List.mem_or_eq_of_mem_set hr with h1 | h1
  ·exact h.bd r h1
  ·rw [h1]; exact hb
theorem qIp.same {m : Int} {n j : Nat} {L0 L : List (List Int)} {a0 a : List Int} (h : qIp m n L0 a0 j L a) (hj : j < L.length) (hs : qBm m n j (vec L[j]) (vec a) (vec L[j]) (vec a)) (hz : vec a j = 0) : qIp m n L0 a0 (j + 1) L a := by
 have h1 := h.step (row' := L[j]) (a' := a) hj hs (h.bd _ (List.getElem_mem _)) h.bda h.alen (fun t ht => by
  rcases Nat.lt_or_ge t j with h2 | h2
  ·exact h.low t h2
  ·rw [show t = j by omega]; exact hz)
 rwa [List.set_getElem_self] at h1
theorem qIp.done {m : Int} {n : Nat} {L0 L : List (List Int)} {a0 a : List Int} (h : qIp m n L0 a0 L0.length L a) : Ins m n 0 (L0.map vec) (vec a0) (L.map vec) := by
 have := h.to; have hl := h.len; exact qEq.done (a2 := vec a) (by simpa using this) (by simpa using hl)
open Go
section
variable {P : Program} {md : Region.Mode} {ops : Array Oper} {Q : Exit -> Act -> World -> Prop} {S : World -> Prop} {late : List Nat}
def qFm (listed : Array Bool) (p : Nat -> Bool) : List Nat -> Array Bool
 | [] => listed
 | i :: r => if p i then (qFm listed p r).setIfInBounds i true else qFm listed p r
theorem qBF {listed : Array Bool} {p q : Nat -> Bool} : ∀ {L : List Nat}, (∀ j ∈ L, p j = q j) -> qFm listed p L = qFm listed q L
 | [], _ => rfl
 | i :: r, h => by
  unfold qFm; rw [h i List.mem_cons_self, qBF (L := r) (fun j hj => h j (List.mem_cons_of_mem _ hj))]
theorem qC9 {listed : Array Bool} {p : Nat -> Bool} {i : Nat} : ∀ {L : List Nat}, i ∈ L -> qFm listed (fun j => j == i || p j) L = (qFm listed p L).setIfInBounds i true
 | [], h => by cases h
 | a :: r, h => by
  unfold qFm; by_cases e : a = i
  ·subst e
   rw [if_pos (by simp)]; by_cases hr : a ∈ r
   ·rw [qC9 hr]
    split
    ·rw [Array.setIfInBounds_setIfInBounds]
    ·rw [Array.setIfInBounds_setIfInBounds]
   ·rw [qBF (q := p) (fun j hj => by simp [show j ≠ a from fun h9 => hr (h9 ▸ hj)])]
    split
    ·rw [Array.setIfInBounds_setIfInBounds]
    ·rfl
  ·have hr : i ∈ r := (List.mem_cons.1 h).resolve_left (Ne.symm e)
   rw [qC9 hr]; simp only [beq_iff_eq, e, Bool.or_eq_true, false_or]
   split
   ·rw [Array.setIfInBounds_comm _ _ (Ne.symm e)]
   ·rfl
def qGu : List Nat -> List (List Nat)
 | [] => [[]]
 | a :: r => qGu r ++ (qGu r).map (a :: ·)
theorem qB2 (p : Nat -> Bool) : ∀ L : List Nat, L.filter p ∈ qGu L
 | [] => by simp [qGu]
 | a :: r => by
  unfold qGu; rw [List.filter_cons, List.mem_append]
  split
  ·exact Or.inr (List.mem_map.2 ⟨_, qB2 p r, rfl⟩)
  ·exact Or.inl (qB2 p r)
def qMD (md : Region.Mode) (ops : Array Oper) (listed : Array Bool) (L : List Nat) (dep : List (Nat × Nat)) : Bool := (qGu L).all fun l =>
 !(dep.all fun d => !(l.contains d.1) || l.contains d.2) || (L.all l.contains) ||
  (let r := Region.ready md ops (qFm listed l.contains L); !r.isEmpty && r.all fun i => L.contains i && !l.contains i && !late.contains i && dep.all fun d => !(d.1 == i) || l.contains d.2)
theorem qLm (L : List Nat) (dep : List (Nat × Nat)) (n : Nat) (J : Array Value -> List Deferred -> (Nat -> Bool) -> Act -> World -> Prop) {f : Nat} {listed : Array Bool} {tmps : Array Value} {ds : List Deferred} {w : World}
 (h0 : J tmps ds (fun _ => false) ⟨tmps, ds⟩ w) (hb : qMD (late := late) md ops listed L dep = true := by kernel_rfl) (hn : L.Nodup := by decide) (hl : L.length = n := by rfl) (hd : dep.all (fun d => L.contains d.1 && L.contains d.2) = true := by rfl)
 (hstep : qKI (fun i => ∀ p a w, J tmps ds p a w -> (∀ d, (i, d) ∈ dep -> p d = true) -> wpOp P ops Q i (fun a' w' => S w' /\ J tmps ds (fun j => j == i || p j) a' w') a w) L)
 (hfin : ∀ p a w, J tmps ds p a w -> (∀ j ∈ L, p j = true) -> qAz P md ops Q S late f (qFm listed (fun _ => true) L) a w) : qAz P md ops Q S late (f + n) listed ⟨tmps, ds⟩ w := by
 have key : ∀ (k : Nat) (p : Nat -> Bool) (a : Act) (w : World), (L.filter (fun j => !p j)).length = k -> (∀ d ∈ dep, p d.1 = true -> p d.2 = true) -> J tmps ds p a w -> qAz P md ops Q S late (f + k) (qFm listed p L) a w := by
  intro k
  induction k with
  | zero =>
   intro p a w hk _ hJ; have hp : ∀ j ∈ L, p j = true := fun j hj => by
    have := List.filter_eq_nil_iff.1 (List.length_eq_zero_iff.1 hk) j hj; simpa using this
   rw [qBF (q := fun _ => true) hp]; exact hfin p a w hJ hp
  | succ k ih =>
   intro p a w hk hc hJ; have hm := qB2 p L; obtain ⟨l, hl'⟩ : ∃ l, L.filter p = l := ⟨_, rfl⟩; have hlp : ∀ j ∈ L, l.contains j = p j := fun j hj => by
    rw [<- hl']; cases hpj : p j
    ·rw [List.contains_eq_mem, decide_eq_false_iff_not, List.mem_filter]
     rintro ⟨_, h9⟩; rw [hpj] at h9; cases h9
    ·rw [List.contains_eq_mem, decide_eq_true_iff, List.mem_filter]
     exact ⟨hj, hpj⟩
   rw [hl'] at hm; have h1 := List.all_eq_true.1 hb l hm; have hdL : ∀ d ∈ dep, d.1 ∈ L /\ d.2 ∈ L := fun d hd' => by
    have := List.all_eq_true.1 hd d hd'; simpa using this
   have c1 : (dep.all fun d => !(l.contains d.1) || l.contains d.2) = true := List.all_eq_true.2 fun d hd' => by
    rw [hlp _ (hdL d hd').1, hlp _ (hdL d hd').2]; cases hp1 : p d.1
    ·rfl
    ·rw [hc d hd' hp1]; rfl
   have c2 : (L.all l.contains) = false := by
    rw [Bool.eq_false_iff]; intro h9; have : L.filter (fun j => !p j) = [] := List.filter_eq_nil_iff.2 fun j hj => by
     have := List.all_eq_true.1 h9 j hj; rw [hlp j hj] at this; simp [this]
    rw [this] at hk; cases hk
   rw [c1, c2, qBF (q := p) hlp] at h1; simp only [Bool.not_true, Bool.or_self, Bool.false_or, Bool.and_eq_true, List.all_eq_true, Bool.not_eq_true', List.isEmpty_eq_false_iff] at h1; obtain ⟨r1, r2⟩ := h1; refine ⟨fun h9 => absurd h9 r1, fun i hi => ?_⟩; obtain ⟨⟨⟨k1, k2⟩, k3⟩, k4⟩ := r2 i hi; have hiL : i ∈ L := by simpa using k1
   have hpi : p i = false := by rw [<- hlp i hiL]; exact k2
   have hdi : ∀ d, (i, d) ∈ dep -> p d = true := fun d hd' => by
    have := k4 (i, d) hd'; rw [hlp d (hdL _ hd').2] at this; simpa using this
   refine wpOp_mono (fun a' w' h9 => ⟨fun _ _ => h9.1, ?_⟩) (hstep.mem i hiL p a w hJ hdi); rw [<- qC9 hiL]; refine ih _ a' w' ?_ (fun d hd' h8 => ?_) h9.2
   ·have e1 : L.filter (fun j => !(j == i || p j)) = (L.filter (fun j => !p j)).erase i := by
     rw [List.Nodup.erase_eq_filter (hn.filter _), List.filter_filter]; refine List.filter_congr fun j _ => ?_; cases hji : (j == i) <;> cases hpj : p j <;> simp_all
    rw [e1, List.length_erase_of_mem (List.mem_filter.2 ⟨hiL, by simp [hpi]⟩), hk]; rfl
   ·simp only [Bool.or_eq_true, beq_iff_eq] at h8 ⊢
    rcases h8 with h8 | h8
    ·exact Or.inr (hdi d.2 (h8 ▸ hd'))
    ·exact Or.inr (hc d hd' h8)
 have e0 : qFm listed (fun _ => false) L = listed := by
  clear hb hstep hfin key hl hn hd
  induction L with
  | nil => rfl
  | cons i r ih => exact ih
 have := key n (fun _ => false) ⟨tmps, ds⟩ w (by rw [show (L.filter (fun _ => !false)) = L from List.filter_eq_self.2 (fun _ _ => rfl)]; exact hl) (fun _ _ h => by cases h) h0
 rwa [e0] at this
def qKE (P : Program) (ops : Array Oper) (Q : Exit -> Act -> World -> Prop) (i : Nat) (J : Act -> Prop) (a : Act) : Prop :=
 ∃ o d v, ops[i]? = some o /\ o.dst = some d /\ (∀ c a w, Q (.panic c) (a.put o.dst v) w -> Q (.panic c) a w) /\ Region.wanted o (yielded ops a.tmps) = true /\ (∀ w, (execOp (Act.eval a) o).run P w = .ok (.value v) w) /\ J ⟨a.tmps.setIfInBounds d v, a.defers⟩
theorem qCl (i d : Nat) {o : Oper} {v : Value} {J : Act -> Prop} {a : Act} (hi : ops[i]? = some o) (hd : o.dst = some d) (hQ : ∀ c a w, Q (.panic c) (a.put o.dst v) w -> Q (.panic c) a w)
 (hw : Region.wanted o (yielded ops a.tmps) = true) (hy : ∀ w, (execOp (Act.eval a) o).run P w = .ok (.value v) w) (h : J ⟨a.tmps.setIfInBounds d v, a.defers⟩) : qKE P ops Q i J a := ⟨o, d, v, hi, hd, hQ, hw, hy, h⟩
def qKv (md : Region.Mode) (ops : Array Oper) (listed : Array Bool) (A pu : List Nat) (dep : List (Nat × Nat)) : Bool := (qGu (A ++ pu)).all fun l =>
 !(dep.all fun d => !(l.contains d.1) || l.contains d.2) || ((A ++ pu).all l.contains) ||
  (match pu.find? (fun i => !l.contains i && (Region.ready md ops (qFm listed l.contains (A ++ pu))).contains i && Region.free md ops (qFm listed l.contains (A ++ pu)) i && dep.all fun d => !(d.1 == i) || l.contains d.2) with
  | some _ => true
  | none => (let r := Region.ready md ops (qFm listed l.contains (A ++ pu)); !r.isEmpty && r.all fun i => A.contains i && !l.contains i && !late.contains i && dep.all fun d => !(d.1 == i) || l.contains d.2))
theorem qLl (A pu : List Nat) (dep : List (Nat × Nat)) (n : Nat) (J : Array Value -> List Deferred -> (Nat -> Bool) -> Act -> World -> Prop) {f : Nat} {listed : Array Bool} {tmps : Array Value} {ds : List Deferred} {w : World}
 (h0 : J tmps ds (fun _ => false) ⟨tmps, ds⟩ w) (hb : qKv (late := late) md ops listed A pu dep = true := by kernel_rfl) (hn : (A ++ pu).Nodup := by decide) (hl : (A ++ pu).length = n := by rfl) (hd : dep.all (fun d => (A ++ pu).contains d.1 && (A ++ pu).contains d.2) = true := by rfl) (hsel : Region.noSelect ops = true := by kernel_rfl)
 (hstep : qKI (fun i => ∀ p a w, J tmps ds p a w -> (∀ d, (i, d) ∈ dep -> p d = true) -> wpOp P ops Q i (fun a' w' => S w' /\ J tmps ds (fun j => j == i || p j) a' w') a w) A)
 (hpure : qKI (fun i => ∀ p a w, J tmps ds p a w -> (∀ d, (i, d) ∈ dep -> p d = true) -> qKE P ops Q i (fun a' => J tmps ds (fun j => j == i || p j) a' w) a) pu)
 (hfin : ∀ p a w, J tmps ds p a w -> (∀ j ∈ A ++ pu, p j = true) -> qAz P md ops Q S late f (qFm listed (fun _ => true) (A ++ pu)) a w) : qAz P md ops Q S late (f + n) listed ⟨tmps, ds⟩ w := by
 unfold qKv at hb; have hA : ∀ j ∈ A, j ∈ A ++ pu := fun j hj => List.mem_append_left _ hj; have hP : ∀ j ∈ pu, j ∈ A ++ pu := fun j hj => List.mem_append_right _ hj; generalize A ++ pu = L at hb hn hl hd hfin hA hP; have key : ∀ (k : Nat) (p : Nat -> Bool) (a : Act) (w : World), (L.filter (fun j => !p j)).length = k -> (∀ d ∈ dep, p d.1 = true -> p d.2 = true) -> J tmps ds p a w -> qAz P md ops Q S late (f + k) (qFm listed p L) a w := by
  intro k
  induction k with
  | zero =>
   intro p a w hk _ hJ; have hp : ∀ j ∈ L, p j = true := fun j hj => by
    have := List.filter_eq_nil_iff.1 (List.length_eq_zero_iff.1 hk) j hj; simpa using this
   rw [qBF (q := fun _ => true) hp]; exact hfin p a w hJ hp
  | succ k ih =>
   intro p a w hk hc hJ; have hm := qB2 p L; obtain ⟨l, hl'⟩ : ∃ l, L.filter p = l := ⟨_, rfl⟩; have hlp : ∀ j ∈ L, l.contains j = p j := fun j hj => by
    rw [<- hl']; cases hpj : p j
    ·rw [List.contains_eq_mem, decide_eq_false_iff_not, List.mem_filter]
     rintro ⟨_, h9⟩; rw [hpj] at h9; cases h9
    ·rw [List.contains_eq_mem, decide_eq_true_iff, List.mem_filter]
     exact ⟨hj, hpj⟩
   rw [hl'] at hm; have h1 := List.all_eq_true.1 hb l hm; have hdL : ∀ d ∈ dep, d.1 ∈ L /\ d.2 ∈ L := fun d hd' => by
    have := List.all_eq_true.1 hd d hd'; simpa using this
   have c1 : (dep.all fun d => !(l.contains d.1) || l.contains d.2) = true := List.all_eq_true.2 fun d hd' => by
    rw [hlp _ (hdL d hd').1, hlp _ (hdL d hd').2]; cases hp1 : p d.1
    ·rfl
    ·rw [hc d hd' hp1]; rfl
   have c2 : (L.all l.contains) = false := by
    rw [Bool.eq_false_iff]; intro h9; have : L.filter (fun j => !p j) = [] := List.filter_eq_nil_iff.2 fun j hj => by
     have := List.all_eq_true.1 h9 j hj; rw [hlp j hj] at this; simp [this]
    rw [this] at hk; cases hk
   rw [c1, c2, qBF (q := p) hlp] at h1; simp only [Bool.not_true, Bool.or_self, Bool.false_or] at h1; have hdep : ∀ i, (∀ d, (i, d) ∈ dep -> l.contains d = true) -> ∀ d, (i, d) ∈ dep -> p d = true := fun i h d hd' => by
    have := h d hd'
    rwa [hlp d (hdL _ hd').2] at this
   have hrest : ∀ i, i ∈ L -> p i = false -> (L.filter (fun j => !(j == i || p j))).length = k := fun i hiL hpi => by
    have e1 : L.filter (fun j => !(j == i || p j)) = (L.filter (fun j => !p j)).erase i := by
     rw [List.Nodup.erase_eq_filter (hn.filter _), List.filter_filter]; refine List.filter_congr fun j _ => ?_; cases hji : (j == i) <;> cases hpj : p j <;> simp_all
    rw [e1, List.length_erase_of_mem (List.mem_filter.2 ⟨hiL, by simp [hpi]⟩), hk]; rfl
   have hclosed : ∀ i, (∀ d, (i, d) ∈ dep -> p d = true) -> ∀ d ∈ dep, (d.1 == i || p d.1) = true -> (d.2 == i || p d.2) = true := fun i hdi d hd' h8 => by
    simp only [Bool.or_eq_true, beq_iff_eq] at h8 ⊢; rcases h8 with h8 | h8
    ·exact Or.inr (hdi d.2 (h8 ▸ hd'))
    ·exact Or.inr (hc d hd' h8)
   split at h1
   ·rename_i i hf
    have hi := List.mem_of_find?_eq_some hf; have h2 := List.find?_some hf; simp only [Bool.and_eq_true, Bool.not_eq_true', List.all_eq_true] at h2; obtain ⟨⟨⟨k2, k3⟩, k4⟩, k5⟩ := h2; have hpi : p i = false := by rw [<- hlp i (hP i hi)]; exact k2
    have hdi := hdep i (fun d hd' => by have := k5 (i, d) hd'; simpa using this); obtain ⟨o, d, v, e1, e2, e3, e4, e5, e6⟩ := hpure.mem i hi p a w hJ hdi; refine qLY (tmps := a.tmps) (ds := a.defers) i d e1 e2 hsel k4 k3 e3 e4 e5 ?_; rw [<- qC9 (hP i hi)]; exact ih _ _ w (hrest i (hP i hi) hpi) (hclosed i hdi) e6
   ·simp only [Bool.and_eq_true, List.all_eq_true, Bool.not_eq_true', List.isEmpty_eq_false_iff] at h1
    obtain ⟨r1, r2⟩ := h1; refine ⟨fun h9 => absurd h9 r1, fun i hi => ?_⟩; obtain ⟨⟨⟨k1, k2⟩, k3⟩, k4⟩ := r2 i hi; have hiA : i ∈ A := by simpa using k1
    have hpi : p i = false := by rw [<- hlp i (hA i hiA)]; exact k2
    have hdi := hdep i (fun d hd' => by have := k4 (i, d) hd'; simpa using this); refine wpOp_mono (fun a' w' h9 => ⟨fun _ _ => h9.1, ?_⟩) (hstep.mem i hiA p a w hJ hdi); rw [<- qC9 (hA i hiA)]; exact ih _ a' w' (hrest i (hA i hiA) hpi) (hclosed i hdi) h9.2
 have e0 : qFm listed (fun _ => false) L = listed := by
  clear hb hfin key hl hn hd hA hP
  induction L with
  | nil => rfl
  | cons i r ih => exact ih
 have := key n (fun _ => false) ⟨tmps, ds⟩ w (by rw [show (L.filter (fun _ => !false)) = L from List.filter_eq_self.2 (fun _ _ => rfl)]; exact hl) (fun _ _ h => by cases h) h0
 rwa [e0] at this
theorem qAW (i : Nat) {o : Oper} {J : Act -> World -> Prop} {a : Act} {w : World} (ho : ops[i]? = some o)
 (h : ∀ K' : Act -> World -> Prop, Shut (∀ a w, S w -> J a w -> K' a w) -> if Region.wanted o (yielded ops a.tmps) = true then Oper.wp P o a w K' Q else K' (a.put o.dst undef) w) :
 wpOp P ops Q i (fun a' w' => S w' /\ J a' w') a w :=
 wpOp_step ho (fun K' hK => h K' (fun a w hS hW => hK a w ⟨hS, hW⟩))
end
end Go.Proofs.Ytlmbebbdamgfpaa
