/- Independent rows; plain Lean. -/
import Derived.Test.YtlmbebbdamgfpaaQULBezP
set_option linter.unusedVariables false
set_option linter.unusedSimpArgs false
set_option linter.unusedVariables false
set_option linter.unusedSimpArgs false
namespace Go.Proofs.Ytlmbebbdamgfpaa

/-- m times the unit vectors from j on -/
def diag (m : Int) : Nat → Nat → List Vec
 | _, 0 => []
 | j, k + 1 => unitV m j :: diag m (j + 1) k
theorem diag_tri {m : Int} (hm : 0 < m) : ∀ (k j n : Nat), j + k = n → TriL m n j (diag m j k)
 | 0, j, n, h => by show j = n; omega
 | k + 1, j, n, h => by
  refine ⟨by omega, fun t ht => ?_, ?_, fun t ht => ?_, InsSpan0 _ _, diag_tri hm k (j + 1) n (by omega)⟩
  ·show (if t = j then m else 0) = 0
   rw [if_neg (by omega)]
  ·show 0 < if j = j then m else 0
   rw [if_pos rfl]; exact hm
  ·show (if t = j then m else 0) = 0
   rw [if_neg (by omega)]
where InsSpan0 (a : Vec) (L : List Vec) : InSpan (a :: L) a := InSpan.mem (by simp)
theorem diag_len {m : Int} : ∀ (k j : Nat), (diag m j k).length = k
 | 0, _ => rfl
 | k + 1, j => by simp [diag, diag_len k]
theorem diag_mem {m : Int} : ∀ (k j : Nat) (v : Vec), v ∈ diag m j k → ∃ t, j ≤ t ∧ t < j + k ∧ v = unitV m t
 | 0, j, v, h => by simp [diag] at h
 | k + 1, j, v, h => by
  rcases List.mem_cons.1 h with rfl | h
  ·exact ⟨j, by omega, by omega, rfl⟩
  ·obtain ⟨t, h1, h2, h3⟩ := diag_mem k (j + 1) v h
   exact ⟨t, by omega, by omega, h3⟩
theorem diag_at {m : Int} : ∀ (k j i : Nat) (h : i < (diag m j k).length), (diag m j k)[i] = unitV m (j + i)
 | k + 1, j, 0, h => by simp [diag]
 | k + 1, j, i + 1, h => by
  simp only [diag, List.getElem_cons_succ]
  rw [diag_at k (j + 1) i]
  congr 1
  omega

/-- a row modulo m -/
def modL (m : Int) (l : List Int) : List Int := l.map (fun x => x % m)
/-- the square, once the rows R are inserted -/
structure SqTo (m : Int) (n : Nat) (Sq R : List Vec) : Prop where
 tri : TriL m n 0 Sq
 into : ∀ r ∈ Sq, InSpan (diag m 0 n ++ R) r
 onto : ∀ r ∈ R, InSpan Sq r
theorem SqTo.start {m : Int} (hm : 0 < m) (n : Nat) : SqTo m n (diag m 0 n) [] :=
 ⟨diag_tri hm n 0 n (by omega), fun r hr => InSpan.mem (by simpa using hr), fun r hr => by simp at hr⟩
theorem SqTo.step {m : Int} {n : Nat} {Sq Sq' R : List Vec} {a : Vec} {a' : Vec} (h : SqTo m n Sq R) (ha : ∀ t, n ≤ t → a t = 0) (ha' : ∀ t, n ≤ t → a' t = 0) (hd : ∀ t, m ∣ a t - a' t) (hi : Ins m n 0 Sq a' Sq') : SqTo m n Sq' (R ++ [a]) := by
 obtain ⟨t1, t2, t3⟩ := hi.spec h.tri (fun k hk => by omega) ha'
 have hdiff : ∀ L : List Vec, (∀ k, k < n → InSpan L (unitV m k)) → InSpan L (fun t => a t - a' t) := fun L hL =>
  span_of_mod n 0 _ (fun k _ b => hL k b) (fun k hk => by omega) (fun k hk => by
   show a k - a' k = 0
   rw [ha k hk, ha' k hk]; rfl) hd
 refine ⟨t1, fun r hr => (t2 r hr).trans (fun s hs => ?_), fun r hr => ?_⟩
 ·rcases List.mem_cons.1 hs with rfl | hs
  ·have h1 : InSpan (diag m 0 n ++ (R ++ [a])) a := InSpan.mem (by simp)
   have h2 := hdiff (diag m 0 n ++ (R ++ [a])) (fun k hk => InSpan.mem (by
    rw [List.mem_append]
    refine .inl ?_
    have : (diag m 0 n)[k]'(by rw [diag_len]; exact hk) = unitV m k := by rw [diag_at]; congr 1; omega
    rw [← this]
    exact List.getElem_mem _))
   exact (h1.sub h2).congr (fun j => by show a j - (a j - s j) = s j; omega)
  ·refine (h.into s hs).trans (fun q hq => InSpan.mem ?_)
   simp only [List.mem_append] at hq ⊢
   rcases hq with h | h
   ·exact .inl h
   ·exact .inr (.inl h)
 ·simp only [List.mem_append, List.mem_singleton] at hr
  rcases hr with hr | rfl
  ·exact (h.onto r hr).trans (fun s hs => t3 s (by simp [hs]))
  ·have h1 := t3 a' (by simp)
   have h2 := hdiff Sq' (fun k hk => t1.unit k (by omega) hk)
   exact (h1.add h2).congr (fun j => by show a' j + (r j - a' j) = r j; omega)

/-- the reducing, up to row i -/
def RedsTo (m : Int) (n : Nat) (L : List Vec) (i : Nat) (L2 : List Vec) : Prop :=
 ∀ rest, Reds m n i (L.drop i) rest → Reds m n 0 L (L2.take i ++ rest)
theorem RedsTo.start (m : Int) (n : Nat) (L L2 : List Vec) : RedsTo m n L 0 L2 := fun rest h => by simpa using h
theorem RedsTo.step {m : Int} {n i : Nat} {L L2 : List Vec} {row' : Vec} (h : RedsTo m n L i L2) (hi : i < L.length) (hi2 : i < L2.length) (hs : RedTo m n i (L.drop (i + 1)) L[i] row' n) : RedsTo m n L (i + 1) (L2.set i row') := by
 intro rest hr
 have := h (row' :: rest) (by rw [List.drop_eq_getElem_cons hi]; exact .cons hs hr)
 rw [List.take_succ_eq_append_getElem (by simpa using hi2), List.getElem_set_self, List.take_set_of_le (Nat.le_refl _)]
 simpa using this
theorem RedsTo.done {m : Int} {n : Nat} {L L2 : List Vec} (h : RedsTo m n L L.length L2) (hl : L2.length = L.length) : Reds m n 0 L L2 := by
 have := h [] (by rw [List.drop_eq_nil_of_le (Nat.le_refl _)]; exact .nil _)
 rwa [List.append_nil, List.take_of_length_le (by omega)] at this
/-- the square is the normal form of the rows -/
theorem SqTo.tri_ {m : Int} {n : Nat} {Sq Sq' R : List Vec} (h : SqTo m n Sq R) (hr : Reds m n 0 Sq Sq') (hu : ∀ k, k < n → InSpan R (unitV m k)) : Tri n Sq' R := by
 obtain ⟨r1, r2, r3, r4, r5⟩ := hr.spec h.tri
 have hlen : Sq.length = n := by have := h.tri.len; omega
 refine ⟨by omega, fun i hi t ht => ?_, fun i hi => ?_, fun s i hi hs => ?_, fun r hr' => ?_, fun r hr' => ?_⟩
 ·rw [r4 i (by omega) hi t (by omega)]
  exact (h.tri.at_ i (by omega)).1 t (by omega)
 ·rw [r4 i (by omega) hi i (by omega)]
  have := (h.tri.at_ i (by omega)).2.1
  rwa [Nat.zero_add] at this
 ·have := r5 s i (by omega) (by omega) hs
  rw [r4 i (by omega) hi i (by omega)]
  rwa [Nat.zero_add] at this
 ·refine (r2 r hr').trans (fun s hs => (h.into s hs).trans (fun q hq => ?_))
  rcases List.mem_append.1 hq with hq | hq
  ·obtain ⟨t, _, ht, rfl⟩ := diag_mem n 0 q hq
   exact hu t (by omega)
  ·exact InSpan.mem hq
 ·exact (h.onto r hr').trans r3
/-- multiples of the denominator are combinations of the rows, in the pivots' columns -/
theorem Elim.unit {A M : List Vec} {ps : List Nat} {d : Int} {col : Nat} (h : Elim A M ps d col) (hk : ∀ i (h : i < M.length), Minor A M[i]) (hz : ∀ i (hi : i < M.length) t (ht : t < ps.length), i < ps.length → M[i] ps[t] = if t = i then d else 0) (k : Nat) (hkn : k < ps.length) : InSpan (A.map (res ps)) (unitV d k) := by
 have hkM : k < M.length := by have := h.len; have := h.le; omega
 obtain ⟨q, hq⟩ := (hk k hkM).span
 refine ⟨q, fun t => ?_⟩
 rw [← res_comb]
 unfold res unitV
 by_cases ht : t < ps.length
 ·rw [dif_pos ht, ← hq, hz k hkM t ht hkn]
 ·rw [dif_neg ht, if_neg (by omega)]
theorem unit_abs {L : List Vec} {d : Int} {k : Nat} (h : InSpan L (unitV d k)) : InSpan L (unitV (if d < 0 then -d else d) k) := by
 split
 ·refine (h.smul (-1)).congr (fun t => ?_)
  show -1 * (if t = k then d else 0) = if t = k then -d else 0
  split <;> omega
 ·exact h

/-- entries between 0 and m -/
def Bd (m : Int) (l : List Int) : Prop := ∀ x ∈ l, 0 ≤ x ∧ x ≤ m
theorem Bd.set {m z : Int} {l : List Int} (h : Bd m l) (j : Nat) (hz : 0 ≤ z ∧ z ≤ m) : Bd m (l.set j z) := by
 intro x hx
 rcases List.mem_or_eq_of_mem_set hx with h1 | h1
 ·exact h x h1
 ·rw [h1]; exact hz
theorem Bd.mod {m : Int} (hm : 0 < m) (l : List Int) : Bd m (modL m l) := by
 intro x hx
 obtain ⟨y, _, rfl⟩ := List.mem_map.1 hx
 have := Int.emod_nonneg y (show m ≠ 0 by omega)
 have := Int.emod_lt_of_pos y hm
 omega
theorem dvd_mod (m x : Int) : m ∣ x - x % m := ⟨x / m, by have := Int.emod_add_mul_ediv x m; omega⟩
section
variable {m : Int} {n j : Nat} {row add row' add' : List Int}
/-- nothing to insert at this place -/
theorem ins_skip (hr : ∀ k, k < j → vec row k = 0) (hp : 0 < vec row j) (ha : ∀ k, k ≤ j → vec add k = 0) (hrl : row.length = n) (hal : add.length = n) (hj : j < n) : InsStep m n j (vec row) (vec add) (vec row) (vec add) :=
 InsStep.mk' 1 0 0 1 (by omega) hr (fun k hk => ha k (by omega)) (fun k hk => vec_out (by omega)) (fun k hk => vec_out (by omega)) hj hp (by omega) (ha j (by omega)) (by rw [ha j (by omega)]; omega) (fun _ _ => rfl) (fun _ _ => rfl) (fun k hk => vec_out (by omega)) (fun k hk => vec_out (by omega))
  (fun k _ _ => ⟨0, by omega⟩) (fun k _ _ => ⟨0, by omega⟩)
/-- a multiple of the row is taken away -/
theorem ins_div {q : Int} (hr : ∀ k, k < j → vec row k = 0) (hp : 0 < vec row j) (ha : ∀ k, k < j → vec add k = 0) (hrl : row.length = n) (hal : add.length = n) (hal' : add'.length = n) (hj : j < n) (hq : vec add j = q * vec row j) (h0 : ∀ k, k ≤ j → vec add' k = 0) (h1 : ∀ k, j < k → k < n → m ∣ vec add k - q * vec row k - vec add' k) :
 InsStep m n j (vec row) (vec add) (vec row) (vec add') :=
 InsStep.mk' 1 0 (-q) 1 (by omega) hr ha (fun k hk => vec_out (by omega)) (fun k hk => vec_out (by omega)) hj hp (by omega) (h0 j (by omega)) (by rw [hq, Int.neg_mul]; omega) (fun _ _ => rfl) (fun k hk => by rw [h0 k (by omega), ha k hk]) (fun k hk => vec_out (by omega)) (fun k hk => vec_out (by omega))
  (fun k _ _ => ⟨0, by omega⟩) (fun k a b => by have := h1 k a b; rw [Int.neg_mul]; rwa [show -(q * vec row k) + 1 * vec add k - vec add' k = vec add k - q * vec row k - vec add' k by omega])
/-- both are combined -/
theorem ins_comb {g u v : Int} (hb : BezOut (vec row j) (vec add j) g u v) (hr : ∀ k, k < j → vec row k = 0) (ha : ∀ k, k < j → vec add k = 0) (hrl : row.length = n) (hal : add.length = n) (hrl' : row'.length = n) (hal' : add'.length = n) (hj : j < n)
 (h1 : vec row' j = g) (h0 : ∀ k, k < j → vec row' k = 0) (h2 : ∀ k, k ≤ j → vec add' k = 0)
 (h3 : ∀ k, j < k → k < n → m ∣ (u * vec row k + v * vec add k) - vec row' k) (h4 : ∀ k, j < k → k < n → m ∣ (-(vec add j / g) * vec row k + vec row j / g * vec add k) - vec add' k) : InsStep m n j (vec row) (vec add) (vec row') (vec add') := by
 obtain ⟨x, hx⟩ := hb.gx
 obtain ⟨y, hy⟩ := hb.gy
 have hg := hb.g0
 have e1 : vec row j / g = x := by rw [hx, Int.mul_ediv_cancel_left _ (by omega)]
 have e2 : vec add j / g = y := by rw [hy, Int.mul_ediv_cancel_left _ (by omega)]
 rw [e1, e2] at h4
 have hd : u * x + v * y = 1 := by
  have h5 := hb.eq
  rw [hx, hy] at h5
  have h6 : g * (u * x + v * y) = g * 1 := by
   rw [Int.mul_one]
   conv => rhs; rw [← h5]
   grind
  exact Int.eq_of_mul_eq_mul_left (by omega) h6
 refine InsStep.mk' u v (-y) x (by rw [Int.mul_neg]; omega) hr ha (fun k hk => vec_out (by omega)) (fun k hk => vec_out (by omega)) hj (by rw [h1]; exact hg) (by rw [h1]; exact hb.eq.symm) (h2 j (by omega)) (by rw [hx, hy]; grind) (fun k hk => by rw [h0 k hk, hr k hk]) (fun k hk => by rw [h2 k (by omega), ha k hk]) (fun k hk => vec_out (by omega)) (fun k hk => vec_out (by omega)) h3 h4
end
end Go.Proofs.Ytlmbebbdamgfpaa
set_option linter.unusedVariables false
set_option linter.unusedSimpArgs false
namespace Go.Proofs.Ytlmbebbdamgfpaa

/-- the columns from c on -/
def sh (c : Nat) (v : Vec) : Vec := fun j => v (c + j)
theorem comb_sh (c : Nat) : ∀ (q : List Int) (L : List Vec) (j : Nat), comb q (L.map (sh c)) j = comb q L (c + j)
 | [], L, j => by cases L <;> simp [comb]
 | x :: q, [], j => by simp [comb]
 | x :: q, r :: L, j => by
  simp only [List.map_cons, comb, comb_sh c q L j]
  rfl
theorem span_sh {c : Nat} {L : List Vec} {v : Vec} : InSpan (L.map (sh c)) v ↔ ∃ u, InSpan L u ∧ ∀ j, v j = u (c + j) := by
 constructor
 ·rintro ⟨q, hq⟩
  exact ⟨comb q L, ⟨q, fun _ => rfl⟩, fun j => by rw [hq, comb_sh]⟩
 ·rintro ⟨u, ⟨q, hq⟩, hv⟩
  exact ⟨q, fun j => by rw [hv, hq, comb_sh]⟩
theorem Nrm.shift {c : Nat} : ∀ {lo : Nat} {L : List Vec}, Nrm lo L → c ≤ lo → Nrm (lo - c) (L.map (sh c))
 | _, [], _, _ => trivial
 | lo, r :: rs, ⟨p, h1, h2, h3, h4, h5⟩, hc => by
  have e : c + (p - c) = p := by omega
  refine ⟨p - c, by omega, ⟨fun j hj => h2.1 _ (by omega), by show r (c + (p - c)) ≠ 0; rw [e]; exact h2.2⟩, by show 0 < r (c + (p - c)); rw [e]; exact h3, ?_, fun s hs e hp => ?_⟩
  ·have := h4.shift (c := c) (by omega)
   rwa [show p - c + 1 = p + 1 - c by omega]
  ·obtain ⟨s', hs', rfl⟩ := List.mem_map.1 hs
   refine h5 s' hs' (c + e) ⟨fun j hj => ?_, hp.2⟩
   rcases Nat.lt_or_ge j c with h | h
   ·exact h4.low (InsSp hs') j (by omega)
   ·have := hp.1 (j - c) (by omega)
    unfold sh at this
    rwa [show c + (j - c) = j by omega] at this
where InsSp {L : List Vec} {v : Vec} (h : v ∈ L) : InSpan L v := InSpan.mem h
/-- the first rows do not matter -/
theorem strip {c : Nat} {u : Vec} (h0 : ∀ j, j < c → u j = 0) : ∀ (k : Nat) {lo : Nat} {V : List Vec}, Nrm lo V → (∀ i (h : i < V.length), i < k → ∃ p, p < c ∧ IsPiv V[i] p) → InSpan V u → InSpan (V.drop k) u
 | 0, _, V, _, _, h => by simpa using h
 | k + 1, _, [], _, _, h => by simpa using h
 | k + 1, _, r :: rs, ⟨p, h1, h2, h3, h4, h5⟩, hp, h => by
  obtain ⟨p', hp1, hp2⟩ := hp 0 (by simp) (by omega)
  obtain rfl := h2.uniq hp2
  have := Nrm.tail h2.2 h4 h (h0 _ hp1)
  simpa using strip h0 k h4 (fun i hi hk => hp (i + 1) (by simpa using hi) (by omega)) this

structure NormSpec (A : List Vec) (c : Nat) (H : List Vec) : Prop where
 nrm : Nrm 0 H
 span : ∀ v, InSpan H v ↔ ∃ u, InSpan A u ∧ (∀ j, j < c → u j = 0) ∧ ∀ j, v j = u (c + j)
theorem NormSpec.uniq {A : List Vec} {c : Nat} {H H' : List Vec} (h : NormSpec A c H) (h' : NormSpec A c H') : H = H' :=
 h.nrm.uniq h'.nrm (fun v hv => (h'.span v).2 ((h.span v).1 hv)) (fun v hv => (h.span v).2 ((h'.span v).1 hv))
theorem NormSpec.mem {A B : List Vec} {c : Nat} {H : List Vec} (h : NormSpec A c H) (hm : ∀ r, r ∈ A ↔ r ∈ B) : NormSpec B c H :=
 ⟨h.nrm, fun v => (h.span v).trans ⟨fun ⟨u, h1, h2⟩ => ⟨u, h1.trans (fun r hr => InSpan.mem ((hm r).1 hr)), h2⟩, fun ⟨u, h1, h2⟩ => ⟨u, h1.trans (fun r hr => InSpan.mem ((hm r).2 hr)), h2⟩⟩⟩
section
variable {A M Sq V : List Vec} {ps : List Nat} {d : Int} {col : Nat}
theorem Elim.norm_none (h : Elim A M ps d col) (h0 : ∀ i (h : i < M.length), ps.length ≤ i → ∀ j, M[i] j = 0) {c : Nat} (hc : ∀ p ∈ ps, p < c) : NormSpec A c [] := by
 refine ⟨trivial, fun v => ⟨fun hv => ⟨fun _ => 0, InSpan.zero, fun _ _ => rfl, fun j => span_nil hv j⟩, fun ⟨u, h1, h2, h3⟩ => InSpan.zero.congr (fun j => ?_)⟩⟩
 rw [h3]
 have h4 := h.coord h0 h1 (c + j)
 rw [ext_zero _ _ _ _ (fun t ht => by
  have : res ps u (0 + t) = 0 := by
   rw [Nat.zero_add]
   unfold res
   split
   ·exact h2 _ (hc _ (List.getElem_mem _))
   ·rfl
  rw [this, Int.zero_mul])] at h4
 exact ((Int.mul_eq_zero.1 h4).resolve_left h.d0).symm
theorem Elim.norm_some (h : Elim A M ps d col) (h0 : ∀ i (h : i < M.length), ps.length ≤ i → ∀ j, M[i] j = 0) (ht : Tri ps.length Sq (A.map (res ps))) (hv : Extd V Sq M ps.length d) {c k : Nat} (hk : k < ps.length) (h1 : ∀ i (h : i < ps.length), i < k → ps[i] < c) (h2 : c ≤ ps[k]) : NormSpec A c ((V.drop k).map (sh c)) := by
 have hl : V.length = ps.length := by rw [hv.len, ht.len]
 have hn := h.extd_nrm h0 ht hv V.length 0 0 (by omega) (fun _ => Nat.zero_le _)
 rw [List.drop_zero] at hn
 have hn2 := h.extd_nrm h0 ht hv (V.length - k) k c (by omega) (fun _ => h2)
 obtain ⟨s1, s2⟩ := h.extd_span h0 ht hv
 refine ⟨by have := hn2.shift (Nat.le_refl c); rwa [Nat.sub_self] at this, fun v => span_sh.trans ⟨?_, ?_⟩⟩
 ·rintro ⟨u, h3, h4⟩
  exact ⟨u, s1 u (h3.trans (fun r hr => InSpan.mem (List.mem_of_mem_drop hr))), fun j hj => hn2.low h3 j hj, h4⟩
 ·rintro ⟨u, h3, h4, h5⟩
  refine ⟨u, strip h4 k hn (fun i hi hik => ⟨ps[i]'(by omega), h1 i (by omega) hik, (h.extd_low h0 ht hv i hi (by omega)).1⟩) (s2 u h3), h5⟩
end
theorem Tri.mem {n : Nat} {Sq R R' : List Vec} (h : Tri n Sq R) (hm : ∀ r, r ∈ R ↔ r ∈ R') : Tri n Sq R' :=
 ⟨h.len, h.low, h.pos, h.red, fun r hr => (h.into r hr).trans (fun s hs => InSpan.mem ((hm s).1 hs)), fun r hr => h.onto r ((hm r).2 hr)⟩

theorem ext_snoc (u : Vec) (r : Vec) (j : Nat) : ∀ (M : List Vec) (s : Nat), ext_ u (M ++ [r]) s j = ext_ u M s j + u (s + M.length) * r j
 | [], s => by simp [ext_]
 | a :: M, s => by
  simp only [List.cons_append, ext_, ext_snoc u r j M (s + 1)]
  rw [show s + 1 + M.length = s + (a :: M).length by simp; omega]
  omega
/-- entry j of the row that is extended from s -/
def extE (s : List Int) (M : List (List Int)) (k j : Nat) : Int := ext_ (vec s) ((M.take k).map vec) 0 j
theorem extE_succ (s : List Int) (M : List (List Int)) (k j : Nat) (hk : k < M.length) : extE s M (k + 1) j = extE s M k j + vec s k * vec M[k] j := by
 unfold extE
 rw [List.take_succ_eq_append_getElem hk, List.map_append, List.map_singleton, ext_snoc]
 simp [Nat.min_eq_left (Nat.le_of_lt hk)]
theorem extE_zero (s : List Int) (M : List (List Int)) (j : Nat) : extE s M 0 j = 0 := rfl
def extL (s : List Int) (M : List (List Int)) (k : Nat) (d : Int) (c n : Nat) : List Int := (List.range n).map (fun j => extE s M k (c + j) / d)
theorem extL_len {s : List Int} {M : List (List Int)} {k : Nat} {d : Int} {c n : Nat} : (extL s M k d c n).length = n := by simp [extL]

theorem span_ext {L : List Vec} {u : Vec} : InSpan L u ↔ ∃ x : Vec, ∀ j, u j = ext_ x L 0 j := by
 have k1 : ∀ (L : List Vec) (s : Nat) (x : Vec) (j : Nat), ∃ q : List Int, True := fun _ _ _ _ => ⟨[], trivial⟩
 have a1 : ∀ (L : List Vec) (s : Nat) (x : Vec) (j : Nat), ext_ x L s j = comb ((List.range' s L.length).map x) L j := by
  intro L
  induction L with
  | nil => intro s x j; simp [ext_, comb]
  | cons r L ih => intro s x j; simp only [ext_, List.length_cons, List.range'_succ, List.map_cons, comb]; rw [ih]
 have a2 : ∀ (L : List Vec) (q : List Int) (s : Nat) (x : Vec) (j : Nat), (∀ i, x (s + i) = vec q i) → comb q L j = ext_ x L s j := by
  intro L
  induction L with
  | nil => intro q s x j _; cases q <;> simp [comb, ext_]
  | cons r L ih =>
   intro q s x j h
   cases q with
   | nil => rw [ext_zero x j _ s (fun t ht => by rw [h]; simp [vec])]; rfl
   | cons y q =>
    simp only [comb, ext_]
    rw [ih q (s + 1) x j (fun i => by rw [show s + 1 + i = s + (i + 1) by omega, h]; simp [vec])]
    have := h 0
    simp only [Nat.add_zero] at this
    rw [this]
    simp [vec]
 constructor
 ·rintro ⟨q, hq⟩
  exact ⟨vec q, fun j => by rw [hq, a2 L q 0 (vec q) j (fun i => by rw [Nat.zero_add])]⟩
 ·rintro ⟨x, hx⟩
  exact ⟨_, fun j => by rw [hx, a1]⟩
theorem ext_unit (x : Vec) (col t : Nat) : ∀ (L : List Vec) (s : Nat), (∀ i (h : i < L.length), L[i] col = if s + i = t then 1 else 0) → ext_ x L s col = if s ≤ t ∧ t < s + L.length then x t else 0
 | [], s, _ => by
  simp only [ext_, List.length_nil, Nat.add_zero]
  rw [if_neg (by omega)]
 | r :: L, s, h => by
  simp only [ext_]
  rw [ext_unit x col t L (s + 1) (fun i hi => by
   have := h (i + 1) (by simpa using hi)
   rw [show s + 1 + i = s + (i + 1) by omega]
   simpa using this)]
  have h0 := h 0 (by simp)
  simp only [List.getElem_cons_zero, Nat.add_zero] at h0
  rw [h0]
  by_cases e : s = t
  ·subst e
   rw [if_pos rfl, if_neg (by omega), if_pos (by simp)]
   simp
  ·rw [if_neg e, Int.mul_zero, Int.zero_add]
   have : (s + 1 ≤ t ∧ t < s + 1 + L.length) ↔ (s ≤ t ∧ t < s + (r :: L).length) := by simp only [List.length_cons]; omega
   simp only [this]

/-- the kernel's rows are the normal form of all x with x * m = 0 -/
structure KerSpec (m : List (List Int)) (H : List Vec) : Prop where
 nrm : Nrm 0 H
 span : ∀ v, InSpan H v ↔ (∀ j, m.length ≤ j → v j = 0) ∧ ∀ j, ext_ v (m.map vec) 0 j = 0
theorem KerSpec.uniq {m : List (List Int)} {H H' : List Vec} (h : KerSpec m H) (h' : KerSpec m H') : H = H' :=
 h.nrm.uniq h'.nrm (fun v hv => (h'.span v).2 ((h.span v).1 hv)) (fun v hv => (h.span v).2 ((h'.span v).1 hv))
/-- row i continued by that of the identity -/
def kerRow (n : Nat) (r : List Int) (i : Nat) : List Int := r ++ (List.replicate n 0).set i 1
def kerRows (m : List (List Int)) : List (List Int) := m.mapIdx (fun i r => kerRow m.length r i)
theorem kerRows_len (m : List (List Int)) : (kerRows m).length = m.length := by simp [kerRows]
theorem kerRows_at (m : List (List Int)) (i : Nat) (h : i < m.length) : (kerRows m)[i]'(by rw [kerRows_len]; exact h) = kerRow m.length m[i] i := by simp [kerRows]
theorem vec_app (l l' : List Int) (j : Nat) : vec (l ++ l') j = if j < l.length then vec l j else vec l' (j - l.length) := by
 unfold vec
 by_cases h : j < l.length
 ·rw [if_pos h, List.getElem?_append_left h]
 ·rw [if_neg h, List.getElem?_append_right (by omega)]
theorem vec_unit (n i j : Nat) (hi : i < n) : vec ((List.replicate n 0).set i 1) j = if i = j then 1 else 0 := by
 rw [vec_set (by simpa using hi)]
 by_cases h : j = i
 ·rw [if_pos h, if_pos h.symm]
 ·rw [if_neg h, if_neg (Ne.symm h)]
  unfold vec
  rcases Nat.lt_or_ge j n with h2 | h2
  ·simp [h2]
  ·rw [List.getElem?_eq_none (by simpa using h2)]; rfl
theorem ker_spec {m : List (List Int)} {c : Nat} (hc : ∀ r ∈ m, r.length = c) {H : List Vec} (h : NormSpec ((kerRows m).map vec) c H) : KerSpec m H := by
 have e1 : ∀ (x : Vec) j, j < c → ext_ x ((kerRows m).map vec) 0 j = ext_ x (m.map vec) 0 j := by
  intro x j hj
  have key : ∀ (L L' : List Vec) (s : Nat), L.length = L'.length → (∀ i (h : i < L.length) (h' : i < L'.length), L[i] j = L'[i] j) → ext_ x L s j = ext_ x L' s j := by
   intro L
   induction L with
   | nil => intro L' s hl _; cases L' with
    | nil => rfl
    | cons a b => simp at hl
   | cons r L ih => intro L' s hl he; cases L' with
    | nil => simp at hl
    | cons r' L' =>
     simp only [ext_]
     rw [ih L' (s + 1) (by simpa using hl) (fun i h h' => he (i + 1) (by simpa using h) (by simpa using h'))]
     have := he 0 (by simp) (by simp)
     simp only [List.getElem_cons_zero] at this
     rw [this]
  refine key _ _ 0 (by simp [kerRows_len]) (fun i h h' => ?_)
  simp only [List.length_map] at h'
  rw [List.getElem_map, List.getElem_map, kerRows_at m i h', kerRow, vec_app, if_pos (by rw [hc _ (List.getElem_mem _)]; exact hj)]
 have e2 : ∀ (x : Vec) t, ext_ x ((kerRows m).map vec) 0 (c + t) = if t < m.length then x t else 0 := by
  intro x t
  rw [ext_unit x (c + t) t _ 0 (fun i h => ?_)]
  ·simp [kerRows_len]
  ·simp only [List.length_map, kerRows_len] at h
   rw [List.getElem_map, kerRows_at m i h, kerRow, vec_app, hc _ (List.getElem_mem _), if_neg (by omega), show c + t - c = t by omega, vec_unit _ _ _ h, Nat.zero_add]
 have e3 : ∀ (x y : Vec) j, (∀ t, t < m.length → x t = y t) → ext_ x (m.map vec) 0 j = ext_ y (m.map vec) 0 j := fun x y j h => ext_congr _ _ _ _ _ (fun t _ h2 => h t (by simpa using h2))
 refine ⟨h.nrm, fun v => (h.span v).trans ⟨?_, ?_⟩⟩
 ·rintro ⟨u, h1, h2, h3⟩
  obtain ⟨x, hx⟩ := span_ext.1 h1
  have h4 : ∀ t, v t = if t < m.length then x t else 0 := fun t => by rw [h3, hx, e2]
  refine ⟨fun j hj => by rw [h4, if_neg (by omega)], fun j => ?_⟩
  rcases Nat.lt_or_ge j c with hj | hj
  ·rw [e3 v x j (fun t ht => by rw [h4, if_pos ht]), ← e1 x j hj, ← hx, h2 j hj]
  ·refine ext_zero _ _ _ _ (fun t ht => ?_)
   rw [List.getElem_map, vec_out (by rw [hc _ (List.getElem_mem _)]; exact hj), Int.mul_zero]
 ·rintro ⟨h1, h2⟩
  refine ⟨ext_ v ((kerRows m).map vec) 0, span_ext.2 ⟨v, fun _ => rfl⟩, fun j hj => by rw [e1 v j hj, h2], fun j => ?_⟩
  rw [e2]
  split
  ·rfl
  ·exact h1 j (by omega)
end Go.Proofs.Ytlmbebbdamgfpaa
set_option linter.unusedVariables false
set_option linter.unusedSimpArgs false
namespace Go.Proofs.Ytlmbebbdamgfpaa

/-- the rows are independent -/
def Ind (L : List Vec) : Prop := ∀ x : Vec, (∀ j, ext_ x L 0 j = 0) → ∀ i, i < L.length → x i = 0
def upd (x : Vec) (a : Nat) (v : Int) : Vec := fun i => if i = a then v else x i
theorem ext_upd (x : Vec) (v : Int) (j : Nat) : ∀ (L : List Vec) (s a : Nat) (h : a < L.length), ext_ (upd x (s + a) v) L s j = ext_ x L s j + (v - x (s + a)) * L[a] j
 | r :: L, s, 0, h => by
  simp only [ext_, List.getElem_cons_zero, Nat.add_zero]
  rw [ext_congr (upd x s v) x j L (s + 1) (fun t h1 h2 => by unfold upd; rw [if_neg (by omega)])]
  have : upd x s v s = v := by unfold upd; rw [if_pos rfl]
  rw [this, Int.sub_mul]
  omega
 | r :: L, s, a + 1, h => by
  simp only [ext_, List.getElem_cons_succ]
  rw [show s + (a + 1) = s + 1 + a by omega, ext_upd x v j L (s + 1) a (by simpa using h)]
  have : upd x (s + 1 + a) v s = x s := by unfold upd; rw [if_neg (by omega)]
  rw [this]
  omega
theorem ext_set (x : Vec) (w : Vec) (j : Nat) : ∀ (L : List Vec) (s a : Nat) (h : a < L.length), ext_ x (L.set a w) s j = ext_ x L s j + x (s + a) * (w j - L[a] j)
 | r :: L, s, 0, h => by
  simp only [ext_, List.set_cons_zero, List.getElem_cons_zero, Nat.add_zero]
  rw [Int.mul_sub]; omega
 | r :: L, s, a + 1, h => by
  simp only [ext_, List.set_cons_succ, List.getElem_cons_succ]
  rw [ext_set x w j L (s + 1) a (by simpa using h), show s + (a + 1) = s + 1 + a by omega]
  omega
theorem Ind.swap {L : List Vec} {a b : Nat} (ha : a < L.length) (hb : b < L.length) (h : Ind L) : Ind (swapL L a b ha hb) := by
 by_cases hab : a = b
 ·subst hab
  have : swapL L a a ha hb = L := by
   refine List.ext_getElem (by rw [swapL_len]) (fun i h1 h2 => ?_)
   rw [swapL_at i h2]
   split
   ·next e => subst e; rfl
   ·rfl
  rw [this]; exact h
 intro x hx
 have key : ∀ j, ext_ (upd (upd x a (x b)) b (x a)) L 0 j = ext_ x (swapL L a b ha hb) 0 j := fun j => by
  have e1 := ext_upd (upd x a (x b)) (x a) j L 0 b hb
  have e2 := ext_upd x (x b) j L 0 a ha
  rw [Nat.zero_add] at e1 e2
  have e3 : upd x a (x b) b = x b := by unfold upd; rw [if_neg (Ne.symm hab)]
  rw [e3] at e1
  unfold swapL
  rw [ext_set x L[a] j _ 0 b (by simpa using hb), ext_set x L[b] j L 0 a ha, List.getElem_set_ne hab, Nat.zero_add, Nat.zero_add, e1, e2]
  rw [Int.mul_sub, Int.mul_sub, Int.sub_mul, Int.sub_mul]
  omega
 have h0 := h _ (fun j => by rw [key]; exact hx j)
 intro i hi
 rw [swapL_len] at hi
 by_cases h1 : i = a
 ·subst h1
  have := h0 b hb
  unfold upd at this
  simpa using this
 ·by_cases h2 : i = b
  ·subst h2
   have := h0 a ha
   unfold upd at this
   rw [if_neg hab, if_pos rfl] at this
   exact this
  ·have := h0 i hi
   unfold upd at this
   rwa [if_neg h2, if_neg h1] at this
theorem swapL_swap {α : Type} (L : List α) (a b : Nat) (ha : a < L.length) (hb : b < L.length) : swapL (swapL L a b ha hb) a b (by rw [swapL_len]; exact ha) (by rw [swapL_len]; exact hb) = L := by
 refine List.ext_getElem (by rw [swapL_len, swapL_len]) (fun i h1 h2 => ?_)
 rw [swapL_at i (by rw [swapL_len]; exact h2), swapL_at a ha, swapL_at b hb, swapL_at i h2]
 by_cases e1 : i = b <;> by_cases e2 : i = a <;> by_cases e3 : a = b
 all_goals (try subst e1) <;> (try subst e2) <;> simp_all
theorem Ind.swap_iff {L : List Vec} {a b : Nat} (ha : a < L.length) (hb : b < L.length) : Ind L ↔ Ind (swapL L a b ha hb) :=
 ⟨fun h => h.swap ha hb, fun h => by
  have := h.swap (a := a) (b := b) (by rw [swapL_len]; exact ha) (by rw [swapL_len]; exact hb)
  rwa [swapL_swap] at this⟩
/-- rows combined with one of them -/
theorem Ind.step {L L' : List Vec} {c : Int} {α β : Nat → Int} {p col : Nat} (hl : L'.length = L.length) (hp : p < L.length) (h : ∀ i (hi : i < L.length) (hi' : i < L'.length) j, c * L'[i] j = α i * L[i] j + β i * L[p] j) (hα : ∀ i, i < L.length → i ≠ p → α i ≠ 0) (hP : ∀ j, (L'[p]'(by omega)) j = L[p] j) (hcol : L[p] col ≠ 0) (hL : Ind L) : Ind L' := by
 intro y hy
 -- the sum, by the old rows
 have key : ∀ (A A' : List Vec) (s : Nat), A'.length = A.length → (∀ i (hi : i < A.length) (hi' : i < A'.length) j, c * A'[i] j = α (s + i) * A[i] j + β (s + i) * L[p] j) → ∃ q : Int, ∀ j, c * ext_ y A' s j = ext_ (fun i => α i * y i) A s j + q * L[p] j := by
  intro A
  induction A with
  | nil =>
   intro A' s hl _
   cases A' with
   | nil => exact ⟨0, fun j => by simp [ext_]⟩
   | cons a b => simp at hl
  | cons r A ih =>
   intro A' s hl he
   cases A' with
   | nil => simp at hl
   | cons r' A' =>
    obtain ⟨q, hq⟩ := ih A' (s + 1) (by simpa using hl) (fun i hi hi' j => by
     have := he (i + 1) (by simpa using hi) (by simpa using hi') j
     rw [show s + 1 + i = s + (i + 1) by omega]
     simpa using this)
    refine ⟨q + y s * β s, fun j => ?_⟩
    have h0 := he 0 (by simp) (by simp) j
    simp only [List.getElem_cons_zero, Nat.add_zero] at h0
    simp only [ext_]
    have h1 := hq j
    have h2 : c * (y s * r' j) = y s * (α s * r j + β s * L[p] j) := by rw [← h0]; grind
    rw [Int.mul_add, h1, h2]
    grind
 obtain ⟨q, hq⟩ := key L L' 0 hl (fun i hi hi' j => by rw [Nat.zero_add]; exact h i hi hi' j)
 have hz := hL (upd (fun i => α i * y i) p (α p * y p + q)) (fun j => by
  have e := ext_upd (fun i => α i * y i) (α p * y p + q) j L 0 p hp
  rw [Nat.zero_add] at e
  rw [e, show α p * y p + q - α p * y p = q by omega, ← hq j, hy j, Int.mul_zero])
 have h1 : ∀ i, i < L.length → i ≠ p → y i = 0 := fun i hi hip => by
  have := hz i hi
  unfold upd at this
  rw [if_neg hip] at this
  exact (Int.mul_eq_zero.1 this).resolve_left (hα i hi hip)
 intro i hi
 rw [hl] at hi
 by_cases hip : i = p
 ·subst hip
  -- only the pivot's row is left
  have e : ext_ y L' 0 col = y i * L'[i] col := by
   have e2 := ext_upd y 0 col L' 0 i (by omega)
   rw [Nat.zero_add] at e2
   rw [ext_zero (upd y i 0) col L' 0 (fun t ht => by
    rw [Nat.zero_add]
    have : upd y i 0 t = 0 := by
     unfold upd
     split
     ·rfl
     ·exact h1 t (by omega) (by assumption)
    rw [this, Int.zero_mul])] at e2
   rw [Int.zero_sub, Int.neg_mul] at e2
   omega
  rw [hy col, hP] at e
  exact (Int.mul_eq_zero.1 e.symm).resolve_right hcol
 ·exact h1 i hi hip
/-- a matrix that has been eliminated -/
theorem Elim.ind {A M : List Vec} {ps : List Nat} {d : Int} {col : Nat} (h : Elim A M ps d col) (h0 : ∀ i (h : i < M.length), ps.length ≤ i → ∀ j, M[i] j = 0) : Ind M ↔ ps.length = M.length := by
 have hle : ps.length ≤ M.length := by have := h.len; have := h.le; omega
 constructor
 ·intro hI
  rcases Nat.lt_or_ge ps.length M.length with hlt | hge
  ·exfalso
   have := hI (upd (fun _ => 0) ps.length 1) (fun j => by
    have e := ext_upd (fun _ => 0) 1 j M 0 ps.length hlt
    rw [Nat.zero_add] at e
    rw [e, h0 _ hlt (Nat.le_refl _) j, Int.mul_zero, ext_zero _ _ _ _ (fun t ht => by simp)]
    rfl) ps.length hlt
   unfold upd at this
   simp at this
  ·omega
 ·intro hk x hx i hi
  have hip : i < ps.length := by omega
  have e := hx ps[i]
  have e2 := ext_upd x 0 ps[i] M 0 i hi
  rw [Nat.zero_add] at e2
  rw [ext_zero (upd x i 0) ps[i] M 0 (fun t ht => by
   rw [Nat.zero_add]
   by_cases hti : t = i
   ·subst hti; unfold upd; simp
   ·rw [h.diag t i ht (by omega) hip, if_neg hti, Int.mul_zero]), h.diag i i hi hip hip, if_pos rfl] at e2
  rw [Int.zero_sub, Int.neg_mul] at e2
  have : x i * d = 0 := by omega
  exact (Int.mul_eq_zero.1 this).resolve_right h.d0
end Go.Proofs.Ytlmbebbdamgfpaa
