/- lattice.lead. -/
import Derived.Test.YtlmbebbdamgfpaaQHRegFree
import Derived.Test.YtlmbebbdamgfpaaQHLOwn
import Derived.Test.YtlmbebbdamgfpaaQHLBezP
set_option linter.unusedVariables false
set_option linter.unusedSimpArgs false
set_option maxHeartbeats 8000000
set_option maxRecDepth 100000
namespace Go.Proofs.Ytlmbebbdamgfpaa

def sh (c : Nat) (v : Vec) : Vec := fun j => v (c + j)
theorem qHk (c : Nat) : ∀ (q : List Int) (L : List Vec) (j : Nat), comb q (L.map (sh c)) j = comb q L (c + j)
 | [], L, j => by cases L <;> simp [comb]
 | x :: q, [], j => by simp [comb]
 | x :: q, r :: L, j => by
  simp only [List.map_cons, comb, qHk c q L j]; rfl
theorem qIJ {c : Nat} {L : List Vec} {v : Vec} : qAa (L.map (sh c)) v ↔ ∃ u, qAa L u /\ ∀ j, v j = u (c + j) := by
 constructor
 ·rintro ⟨q, hq⟩
  exact ⟨comb q L, ⟨q, fun _ => rfl⟩, fun j => by rw [hq, qHk]⟩
 ·rintro ⟨u, ⟨q, hq⟩, hv⟩
  exact ⟨q, fun j => by rw [hv, hq, qHk]⟩
theorem Nrm.shift {c : Nat} : ∀ {lo : Nat} {L : List Vec}, Nrm lo L -> c <= lo -> Nrm (lo - c) (L.map (sh c))
 | _, [], _, _ => trivial
 | lo, r :: rs, ⟨p, h1, h2, h3, h4, h5⟩, hc => by
  have e : c + (p - c) = p := by omega
  refine ⟨p - c, by omega, ⟨fun j hj => h2.1 _ (by omega), by show r (c + (p - c)) ≠ 0; rw [e]; exact h2.2⟩, by show 0 < r (c + (p - c)); rw [e]; exact h3, ?_, fun s hs e hp => ?_⟩
  ·have := h4.shift (c := c) (by omega)
   rwa [show p - c + 1 = p + 1 - c by omega]
  ·obtain ⟨s', hs', rfl⟩ := List.mem_map.1 hs
   refine h5 s' hs' (c + e) ⟨fun j hj => ?_, hp.2⟩; rcases Nat.lt_or_ge j c with h | h
   ·exact h4.low (InsSp hs') j (by omega)
   ·have := hp.1 (j - c) (by omega)
    unfold sh at this
    rwa [show c + (j - c) = j by omega] at this
where InsSp {L : List Vec} {v : Vec} (h : v ∈ L) : qAa L v := qAa.mem h
theorem qLG {c : Nat} {u : Vec} (h0 : ∀ j, j < c -> u j = 0) : ∀ (k : Nat) {lo : Nat} {V : List Vec}, Nrm lo V -> (∀ i (h : i < V.length), i < k -> ∃ p, p < c /\ qBN V[i] p) -> qAa V u -> qAa (V.drop k) u
 | 0, _, V, _, _, h => by simpa using h
 | k + 1, _, [], _, _, h => by simpa using h
 | k + 1, _, r :: rs, ⟨p, h1, h2, h3, h4, h5⟩, hp, h => by
  obtain ⟨p', hp1, hp2⟩ := hp 0 (by simp) (by omega); obtain rfl := h2.uniq hp2; have := Nrm.tail h2.2 h4 h (h0 _ hp1); simpa using qLG h0 k h4 (fun i hi hk => hp (i + 1) (by simpa using hi) (by omega)) this
structure qAw (A : List Vec) (c : Nat) (H : List Vec) : Prop where
 nrm : Nrm 0 H
 span : ∀ v, qAa H v ↔ ∃ u, qAa A u /\ (∀ j, j < c -> u j = 0) /\ ∀ j, v j = u (c + j)
theorem qAw.uniq {A : List Vec} {c : Nat} {H H' : List Vec} (h : qAw A c H) (h' : qAw A c H') : H = H' :=
 h.nrm.uniq h'.nrm (fun v hv => (h'.span v).2 ((h.span v).1 hv)) (fun v hv => (h.span v).2 ((h'.span v).1 hv))
theorem qAw.mem {A B : List Vec} {c : Nat} {H : List Vec} (h : qAw A c H) (hm : ∀ r, r ∈ A ↔ r ∈ B) : qAw B c H :=
 ⟨h.nrm, fun v => (h.span v).trans ⟨fun ⟨u, h1, h2⟩ => ⟨u, h1.trans (fun r hr => qAa.mem ((hm r).1 hr)), h2⟩, fun ⟨u, h1, h2⟩ => ⟨u, h1.trans (fun r hr => qAa.mem ((hm r).2 hr)), h2⟩⟩⟩
section
variable {A M Sq V : List Vec} {ps : List Nat} {d : Int} {col : Nat}
theorem qBO.norm_none (h : qBO A M ps d col) (h0 : ∀ i (h : i < M.length), ps.length <= i -> ∀ j, M[i] j = 0) {c : Nat} (hc : ∀ p ∈ ps, p < c) : qAw A c [] := by
 refine ⟨trivial, fun v => ⟨fun hv => ⟨fun _ => 0, qAa.zero, fun _ _ => rfl, fun j => qB4 hv j⟩, fun ⟨u, h1, h2, h3⟩ => qAa.zero.congr (fun j => ?_)⟩⟩; rw [h3]; have h4 := h.coord h0 h1 (c + j); rw [qBg _ _ _ _ (fun t ht => by
  have : res ps u (0 + t) = 0 := by
   rw [Nat.zero_add]; unfold res
   split
   ·exact h2 _ (hc _ (List.getElem_mem _))
   ·rfl
  rw [this, Int.zero_mul])] at h4
 exact ((Int.mul_eq_zero.1 h4).resolve_left h.d0).symm
theorem qBO.norm_some (h : qBO A M ps d col) (h0 : ∀ i (h : i < M.length), ps.length <= i -> ∀ j, M[i] j = 0) (ht : Tri ps.length Sq (A.map (res ps))) (hv : qLB V Sq M ps.length d) {c k : Nat} (hk : k < ps.length) (h1 : ∀ i (h : i < ps.length), i < k -> ps[i] < c) (h2 : c <= ps[k]) : qAw A c ((V.drop k).map (sh c)) := by
 have hl : V.length = ps.length := by rw [hv.len, ht.len]
 have hn := h.extd_nrm h0 ht hv V.length 0 0 (by omega) (fun _ => Nat.zero_le _); rw [List.drop_zero] at hn; have hn2 := h.extd_nrm h0 ht hv (V.length - k) k c (by omega) (fun _ => h2); obtain ⟨s1, s2⟩ := h.extd_span h0 ht hv; refine ⟨by have := hn2.shift (Nat.le_refl c); rwa [Nat.sub_self] at this, fun v => qIJ.trans ⟨?_, ?_⟩⟩
 ·rintro ⟨u, h3, h4⟩
  exact ⟨u, s1 u (h3.trans (fun r hr => qAa.mem (List.mem_of_mem_drop hr))), fun j hj => hn2.low h3 j hj, h4⟩
 ·rintro ⟨u, h3, h4, h5⟩
  refine ⟨u, qLG h4 k hn (fun i hi hik => ⟨ps[i]'(by omega), h1 i (by omega) hik, (h.extd_low h0 ht hv i hi (by omega)).1⟩) (s2 u h3), h5⟩
end
theorem Tri.mem {n : Nat} {Sq R R' : List Vec} (h : Tri n Sq R) (hm : ∀ r, r ∈ R ↔ r ∈ R') : Tri n Sq R' :=
 ⟨h.len, h.low, h.pos, h.red, fun r hr => (h.into r hr).trans (fun s hs => qAa.mem ((hm s).1 hs)), fun r hr => h.onto r ((hm r).2 hr)⟩
theorem qHM (u : Vec) (r : Vec) (j : Nat) : ∀ (M : List Vec) (s : Nat), qA8 u (M ++ [r]) s j = qA8 u M s j + u (s + M.length) * r j
 | [], s => by simp [qA8]
 | a :: M, s => by
  simp only [List.cons_append, qA8, qHM u r j M (s + 1)]; rw [show s + 1 + M.length = s + (a :: M).length by simp; omega]; omega
def qFK (s : List Int) (M : List (List Int)) (k j : Nat) : Int := qA8 (vec s) ((M.take k).map vec) 0 j
theorem qGk (s : List Int) (M : List (List Int)) (k j : Nat) (hk : k < M.length) : qFK s M (k + 1) j = qFK s M k j + vec s k * vec M[k] j := by
 unfold qFK; rw [List.take_succ_eq_append_getElem hk, List.map_append, List.map_singleton, qHM]; simp [Nat.min_eq_left (Nat.le_of_lt hk)]
theorem qGj (s : List Int) (M : List (List Int)) (j : Nat) : qFK s M 0 j = 0 := rfl
def qHb (s : List Int) (M : List (List Int)) (k : Nat) (d : Int) (c n : Nat) : List Int := (List.range n).map (fun j => qFK s M k (c + j) / d)
theorem qD4 {s : List Int} {M : List (List Int)} {k : Nat} {d : Int} {c n : Nat} : (qHb s M k d c n).length = n := by simp [qHb]
theorem qC9 {L : List Vec} {u : Vec} : qAa L u ↔ ∃ x : Vec, ∀ j, u j = qA8 x L 0 j := by
 have k1 : ∀ (L : List Vec) (s : Nat) (x : Vec) (j : Nat), ∃ q : List Int, True := fun _ _ _ _ => ⟨[], trivial⟩; have a1 : ∀ (L : List Vec) (s : Nat) (x : Vec) (j : Nat), qA8 x L s j = comb ((List.range' s L.length).map x) L j := by
  intro L
  induction L with
  | nil => intro s x j; simp [qA8, comb]
  | cons r L ih => intro s x j; simp only [qA8, List.length_cons, List.range'_succ, List.map_cons, comb]; rw [ih]
 have a2 : ∀ (L : List Vec) (q : List Int) (s : Nat) (x : Vec) (j : Nat), (∀ i, x (s + i) = vec q i) -> comb q L j = qA8 x L s j := by
  intro L
  induction L with
  | nil => intro q s x j _; cases q <;> simp [comb, qA8]
  | cons r L ih =>
   intro q s x j h; cases q with
   | nil => rw [qBg x j _ s (fun t ht => by rw [h]; simp [vec])]; rfl
   | cons y q =>
    simp only [comb, qA8]; rw [ih q (s + 1) x j (fun i => by rw [show s + 1 + i = s + (i + 1) by omega, h]; simp [vec])]; have := h 0; simp only [Nat.add_zero] at this; rw [this]; simp [vec]
 constructor
 ·rintro ⟨q, hq⟩
  exact ⟨vec q, fun j => by rw [hq, a2 L q 0 (vec q) j (fun i => by rw [Nat.zero_add])]⟩
 ·rintro ⟨x, hx⟩
  exact ⟨_, fun j => by rw [hx, a1]⟩
theorem qFt (x : Vec) (col t : Nat) : ∀ (L : List Vec) (s : Nat), (∀ i (h : i < L.length), L[i] col = if s + i = t then 1 else 0) -> qA8 x L s col = if s <= t /\ t < s + L.length then x t else 0
 | [], s, _ => by
  simp only [qA8, List.length_nil, Nat.add_zero]; rw [if_neg (by omega)]
 | r :: L, s, h => by
  simp only [qA8]; rw [qFt x col t L (s + 1) (fun i hi => by
   have := h (i + 1) (by simpa using hi); rw [show s + 1 + i = s + (i + 1) by omega]; simpa using this)]
  have h0 := h 0 (by simp); simp only [List.getElem_cons_zero, Nat.add_zero] at h0; rw [h0]; by_cases e : s = t
  ·subst e
   rw [if_pos rfl, if_neg (by omega), if_pos (by simp)]; simp
  ·rw [if_neg e, Int.mul_zero, Int.zero_add]
   have : (s + 1 <= t /\ t < s + 1 + L.length) ↔ (s <= t /\ t < s + (r :: L).length) := by simp only [List.length_cons]; omega
   simp only [this]
structure qBu (m : List (List Int)) (H : List Vec) : Prop where
 nrm : Nrm 0 H
 span : ∀ v, qAa H v ↔ (∀ j, m.length <= j -> v j = 0) /\ ∀ j, qA8 v (m.map vec) 0 j = 0
theorem qBu.uniq {m : List (List Int)} {H H' : List Vec} (h : qBu m H) (h' : qBu m H') : H = H' :=
 h.nrm.uniq h'.nrm (fun v hv => (h'.span v).2 ((h.span v).1 hv)) (fun v hv => (h.span v).2 ((h'.span v).1 hv))
def qBL (n : Nat) (r : List Int) (i : Nat) : List Int := r ++ (List.replicate n 0).set i 1
def qAH (m : List (List Int)) : List (List Int) := m.mapIdx (fun i r => qBL m.length r i)
theorem qAs (m : List (List Int)) : (qAH m).length = m.length := by simp [qAH]
theorem qA6 (m : List (List Int)) (i : Nat) (h : i < m.length) : (qAH m)[i]'(by rw [qAs]; exact h) = qBL m.length m[i] i := by simp [qAH]
theorem qE7 (l l' : List Int) (j : Nat) : vec (l ++ l') j = if j < l.length then vec l j else vec l' (j - l.length) := by
 unfold vec; by_cases h : j < l.length
 ·rw [if_pos h, List.getElem?_append_left h]
 ·rw [if_neg h, List.getElem?_append_right (by omega)]
theorem qHp (n i j : Nat) (hi : i < n) : vec ((List.replicate n 0).set i 1) j = if i = j then 1 else 0 := by
 rw [qBS (by simpa using hi)]; by_cases h : j = i
 ·rw [if_pos h, if_pos h.symm]
 ·rw [if_neg h, if_neg (Ne.symm h)]
  unfold vec; rcases Nat.lt_or_ge j n with h2 | h2
  ·simp [h2]
  ·rw [List.getElem?_eq_none (by simpa using h2)]; rfl
theorem qD3 {m : List (List Int)} {c : Nat} (hc : ∀ r ∈ m, r.length = c) {H : List Vec} (h : qAw ((qAH m).map vec) c H) : qBu m H := by
 have e1 : ∀ (x : Vec) j, j < c -> qA8 x ((qAH m).map vec) 0 j = qA8 x (m.map vec) 0 j := by
  intro x j hj; have key : ∀ (L L' : List Vec) (s : Nat), L.length = L'.length -> (∀ i (h : i < L.length) (h' : i < L'.length), L[i] j = L'[i] j) -> qA8 x L s j = qA8 x L' s j := by
   intro L
   induction L with
   | nil => intro L' s hl _; cases L' with
    | nil => rfl
    | cons a b => simp at hl
   | cons r L ih => intro L' s hl he; cases L' with
    | nil => simp at hl
    | cons r' L' =>
     simp only [qA8]; rw [ih L' (s + 1) (by simpa using hl) (fun i h h' => he (i + 1) (by simpa using h) (by simpa using h'))]; have := he 0 (by simp) (by simp); simp only [List.getElem_cons_zero] at this; rw [this]
  refine key _ _ 0 (by simp [qAs]) (fun i h h' => ?_); simp only [List.length_map] at h'; rw [List.getElem_map, List.getElem_map, qA6 m i h', qBL, qE7, if_pos (by rw [hc _ (List.getElem_mem _)]; exact hj)]
 have e2 : ∀ (x : Vec) t, qA8 x ((qAH m).map vec) 0 (c + t) = if t < m.length then x t else 0 := by
  intro x t; rw [qFt x (c + t) t _ 0 (fun i h => ?_)]
  ·simp [qAs]
  ·simp only [List.length_map, qAs] at h
   rw [List.getElem_map, qA6 m i h, qBL, qE7, hc _ (List.getElem_mem _), if_neg (by omega), show c + t - c = t by omega, qHp _ _ _ h, Nat.zero_add]
 have e3 : ∀ (x y : Vec) j, (∀ t, t < m.length -> x t = y t) -> qA8 x (m.map vec) 0 j = qA8 y (m.map vec) 0 j := fun x y j h => qCh _ _ _ _ _ (fun t _ h2 => h t (by simpa using h2)); refine ⟨h.nrm, fun v => (h.span v).trans ⟨?_, ?_⟩⟩
 ·rintro ⟨u, h1, h2, h3⟩
  obtain ⟨x, hx⟩ := qC9.1 h1; have h4 : ∀ t, v t = if t < m.length then x t else 0 := fun t => by rw [h3, hx, e2]
  refine ⟨fun j hj => by rw [h4, if_neg (by omega)], fun j => ?_⟩; rcases Nat.lt_or_ge j c with hj | hj
  ·rw [e3 v x j (fun t ht => by rw [h4, if_pos ht]), <- e1 x j hj, <- hx, h2 j hj]
  ·refine qBg _ _ _ _ (fun t ht => ?_)
   rw [List.getElem_map, qAr (by rw [hc _ (List.getElem_mem _)]; exact hj), Int.mul_zero]
 ·rintro ⟨h1, h2⟩
  refine ⟨qA8 v ((qAH m).map vec) 0, qC9.2 ⟨v, fun _ => rfl⟩, fun j hj => by rw [e1 v j hj, h2], fun j => ?_⟩; rw [e2]
  split
  ·rfl
  ·exact h1 j (by omega)
theorem qGg {m : List (List Int)} {H : List Vec} (h : qAw (m.map vec) 0 H) (v : Vec) : qAa H v ↔ qAa (m.map vec) v := by
 rw [h.span]; constructor
 ·rintro ⟨u, h1, -, h3⟩
  exact h1.congr (fun j => by rw [h3, Nat.zero_add])
 ·intro h1
  exact ⟨v, h1, fun j hj => by omega, fun j => by rw [Nat.zero_add]⟩
def Ind (L : List Vec) : Prop := ∀ x : Vec, (∀ j, qA8 x L 0 j = 0) -> ∀ i, i < L.length -> x i = 0
def upd (x : Vec) (a : Nat) (v : Int) : Vec := fun i => if i = a then v else x i
theorem qCW (x : Vec) (v : Int) (j : Nat) : ∀ (L : List Vec) (s a : Nat) (h : a < L.length), qA8 (upd x (s + a) v) L s j = qA8 x L s j + (v - x (s + a)) * L[a] j
 | r :: L, s, 0, h => by
  simp only [qA8, List.getElem_cons_zero, Nat.add_zero]; rw [qCh (upd x s v) x j L (s + 1) (fun t h1 h2 => by unfold upd; rw [if_neg (by omega)])]; have : upd x s v s = v := by unfold upd; rw [if_pos rfl]
  rw [this, Int.sub_mul]; omega
 | r :: L, s, a + 1, h => by
  simp only [qA8, List.getElem_cons_succ]; rw [show s + (a + 1) = s + 1 + a by omega, qCW x v j L (s + 1) a (by simpa using h)]; have : upd x (s + 1 + a) v s = x s := by unfold upd; rw [if_neg (by omega)]
  rw [this]; omega
theorem qG9 (x : Vec) (w : Vec) (j : Nat) : ∀ (L : List Vec) (s a : Nat) (h : a < L.length), qA8 x (L.set a w) s j = qA8 x L s j + x (s + a) * (w j - L[a] j)
 | r :: L, s, 0, h => by
  simp only [qA8, List.set_cons_zero, List.getElem_cons_zero, Nat.add_zero]; rw [Int.mul_sub]; omega
 | r :: L, s, a + 1, h => by
  simp only [qA8, List.set_cons_succ, List.getElem_cons_succ]; rw [qG9 x w j L (s + 1) a (by simpa using h), show s + (a + 1) = s + 1 + a by omega]; omega
theorem Ind.swap {L : List Vec} {a b : Nat} (ha : a < L.length) (hb : b < L.length) (h : Ind L) : Ind (qAu L a b ha hb) := by
 by_cases hab : a = b
 ·subst hab
  have : qAu L a a ha hb = L := by
   refine List.ext_getElem (by rw [qAb]) (fun i h1 h2 => ?_); rw [qAq i h2]
   split
   ·next e => subst e; rfl
   ·rfl
  rw [this]; exact h
 intro x hx; have key : ∀ j, qA8 (upd (upd x a (x b)) b (x a)) L 0 j = qA8 x (qAu L a b ha hb) 0 j := fun j => by
  have e1 := qCW (upd x a (x b)) (x a) j L 0 b hb; have e2 := qCW x (x b) j L 0 a ha; rw [Nat.zero_add] at e1 e2; have e3 : upd x a (x b) b = x b := by unfold upd; rw [if_neg (Ne.symm hab)]
  rw [e3] at e1; unfold qAu; rw [qG9 x L[a] j _ 0 b (by simpa using hb), qG9 x L[b] j L 0 a ha, List.getElem_set_ne hab, Nat.zero_add, Nat.zero_add, e1, e2]; rw [Int.mul_sub, Int.mul_sub, Int.sub_mul, Int.sub_mul]; omega
 have h0 := h _ (fun j => by rw [key]; exact hx j); intro i hi; rw [qAb] at hi; by_cases h1 : i = a
 ·subst h1
  have := h0 b hb; unfold upd at this; simpa using this
 ·by_cases h2 : i = b
  ·subst h2
   have := h0 a ha; unfold upd at this; rw [if_neg hab, if_pos rfl] at this; exact this
  ·have := h0 i hi
   unfold upd at this
   rwa [if_neg h2, if_neg h1] at this
theorem qIb {α : Type} (L : List α) (a b : Nat) (ha : a < L.length) (hb : b < L.length) : qAu (qAu L a b ha hb) a b (by rw [qAb]; exact ha) (by rw [qAb]; exact hb) = L := by
 refine List.ext_getElem (by rw [qAb, qAb]) (fun i h1 h2 => ?_); rw [qAq i (by rw [qAb]; exact h2), qAq a ha, qAq b hb, qAq i h2]; by_cases e1 : i = b <;> by_cases e2 : i = a <;> by_cases e3 : a = b
 all_goals (try subst e1) <;> (try subst e2) <;> simp_all
theorem Ind.swap_iff {L : List Vec} {a b : Nat} (ha : a < L.length) (hb : b < L.length) : Ind L ↔ Ind (qAu L a b ha hb) :=
 ⟨fun h => h.swap ha hb, fun h => by
  have := h.swap (a := a) (b := b) (by rw [qAb]; exact ha) (by rw [qAb]; exact hb)
  rwa [qIb] at this⟩
theorem Ind.step {L L' : List Vec} {c : Int} {α β : Nat -> Int} {p col : Nat} (hl : L'.length = L.length) (hp : p < L.length) (h : ∀ i (hi : i < L.length) (hi' : i < L'.length) j, c * L'[i] j = α i * L[i] j + β i * L[p] j) (hα : ∀ i, i < L.length -> i ≠ p -> α i ≠ 0) (hP : ∀ j, (L'[p]'(by omega)) j = L[p] j) (hcol : L[p] col ≠ 0) (hL : Ind L) : Ind L' := by
 intro y hy
 -- the sum, by the old rows
 have key : ∀ (A A' : List Vec) (s : Nat), A'.length = A.length -> (∀ i (hi : i < A.length) (hi' : i < A'.length) j, c * A'[i] j = α (s + i) * A[i] j + β (s + i) * L[p] j) -> ∃ q : Int, ∀ j, c * qA8 y A' s j = qA8 (fun i => α i * y i) A s j + q * L[p] j := by
  intro A
  induction A with
  | nil =>
   intro A' s hl _; cases A' with
   | nil => exact ⟨0, fun j => by simp [qA8]⟩
   | cons a b => simp at hl
  | cons r A ih =>
   intro A' s hl he; cases A' with
   | nil => simp at hl
   | cons r' A' =>
    obtain ⟨q, hq⟩ := ih A' (s + 1) (by simpa using hl) (fun i hi hi' j => by
     have := he (i + 1) (by simpa using hi) (by simpa using hi') j; rw [show s + 1 + i = s + (i + 1) by omega]; simpa using this)
    refine ⟨q + y s * β s, fun j => ?_⟩; have h0 := he 0 (by simp) (by simp) j; simp only [List.getElem_cons_zero, Nat.add_zero] at h0; simp only [qA8]; have h1 := hq j; have h2 : c * (y s * r' j) = y s * (α s * r j + β s * L[p] j) := by rw [<- h0]; grind
    rw [Int.mul_add, h1, h2]
    grind
 obtain ⟨q, hq⟩ := key L L' 0 hl (fun i hi hi' j => by rw [Nat.zero_add]; exact h i hi hi' j); have hz := hL (upd (fun i => α i * y i) p (α p * y p + q)) (fun j => by
  have e := qCW (fun i => α i * y i) (α p * y p + q) j L 0 p hp; rw [Nat.zero_add] at e; rw [e, show α p * y p + q - α p * y p = q by omega, <- hq j, hy j, Int.mul_zero])
 have h1 : ∀ i, i < L.length -> i ≠ p -> y i = 0 := fun i hi hip => by
  have := hz i hi; unfold upd at this; rw [if_neg hip] at this; exact (Int.mul_eq_zero.1 this).resolve_left (hα i hi hip)
 intro i hi; rw [hl] at hi; by_cases hip : i = p
 ·subst hip
  -- only the pivot's row is left
  have e : qA8 y L' 0 col = y i * L'[i] col := by
   have e2 := qCW y 0 col L' 0 i (by omega); rw [Nat.zero_add] at e2; rw [qBg (upd y i 0) col L' 0 (fun t ht => by
    rw [Nat.zero_add]; have : upd y i 0 t = 0 := by
     unfold upd
     split
     ·rfl
     ·exact h1 t (by omega) (by assumption)
    rw [this, Int.zero_mul])] at e2
   rw [Int.zero_sub, Int.neg_mul] at e2; omega
  rw [hy col, hP] at e; exact (Int.mul_eq_zero.1 e.symm).resolve_right hcol
 ·exact h1 i hi hip
theorem qBO.ind {A M : List Vec} {ps : List Nat} {d : Int} {col : Nat} (h : qBO A M ps d col) (h0 : ∀ i (h : i < M.length), ps.length <= i -> ∀ j, M[i] j = 0) : Ind M ↔ ps.length = M.length := by
 have hle : ps.length <= M.length := by have := h.len; have := h.le; omega
 constructor
 ·intro hI
  rcases Nat.lt_or_ge ps.length M.length with hlt | hge
  ·exfalso
   have := hI (upd (fun _ => 0) ps.length 1) (fun j => by
    have e := qCW (fun _ => 0) 1 j M 0 ps.length hlt; rw [Nat.zero_add] at e; rw [e, h0 _ hlt (Nat.le_refl _) j, Int.mul_zero, qBg _ _ _ _ (fun t ht => by simp)]; rfl) ps.length hlt
   unfold upd at this; simp at this
  ·omega
 ·intro hk x hx i hi
  have hip : i < ps.length := by omega
  have e := hx ps[i]; have e2 := qCW x 0 ps[i] M 0 i hi; rw [Nat.zero_add] at e2; rw [qBg (upd x i 0) ps[i] M 0 (fun t ht => by
   rw [Nat.zero_add]; by_cases hti : t = i
   ·subst hti; unfold upd; simp
   ·rw [h.diag t i ht (by omega) hip, if_neg hti, Int.mul_zero]), h.diag i i hi hip hip, if_pos rfl] at e2
  rw [Int.zero_sub, Int.neg_mul] at e2; have : x i * d = 0 := by omega
  exact (Int.mul_eq_zero.1 this).resolve_right h.d0
theorem Ind.ker {m : List (List Int)} {H : List Vec} (h : qBu m H) : Ind (m.map vec) ↔ H = [] := by
 constructor
 ·intro hI
  cases H with
  | nil => rfl
  | cons r H =>
   exfalso
   obtain ⟨c, h1, h2, h3, h4⟩ := h.nrm; obtain ⟨k1, k2⟩ := (h.span r).1 (qAa.mem (by simp)); have := hI r k2; rcases Nat.lt_or_ge c m.length with hc | hc
   ·exact h2.2 (this c (by simpa using hc))
   ·exact h2.2 (k1 c hc)
 ·rintro rfl x hx i hi
  have h1 := (h.span (fun j => if j < m.length then x j else 0)).2 ⟨fun j hj => if_neg (by omega), fun j => by
   rw [<- hx j]; exact qCh _ _ _ _ _ (fun t _ h2 => if_pos (by simpa using h2))⟩
  have := qB4 h1 i; simp only [List.length_map] at hi
  rwa [if_pos hi] at this
open Go.RowKit
theorem qAE.some_ {w : World} {g : Nat} {t : TypeId} {cs : List Value} (h : qAE w g t cs) (o : Nat) (ho : o < cs.length) : ∃ u, w.cell? ⟨g, o, none⟩ = some u := ⟨cs[o], (h.cell o).trans (List.getElem?_eq_getElem ho)⟩
def ent (M : List (List Int)) (i j : Nat) : Int := vec (M[i]?.getD []) j
theorem qHO {M : List (List Int)} {i j : Nat} (hi : i < M.length) (hj : j < M[i].length) : ent M i j = M[i][j] := by simp [ent, hi, vec, hj]
def qKf (w0 : World) (B n : Nat) (l : List Ln) (M : List (List Int)) (place col : Nat) (e : Ending) (w' : World) : Prop :=
 qAc (fun b => b = B) w0 w' /\ ((e = .returned (.bool false) /\ (∀ q, place <= q -> q < l.length -> ent M q col = 0) /\ qB0 w' B l n M) \/
  ∃ i, ∃ hi : i < l.length, ∃ hp : place < l.length, ∃ hi' : i < M.length, ∃ hp' : place < M.length, place <= i /\ ent M i col ≠ 0 /\ e = .returned (.bool true) /\ qB0 w' B (qAu l place i hp hi) n (qAu M place i hp' hi'))
theorem qJT (w0 : World) (B cB n place col : Nat) (l : List Ln) (M : List (List Int)) (h : qB0 w0 B l n M) (hl : l.length <= 1000) (hcB : l.length <= cB) (hcB2 : cB <= 9223372036854775807) (hplace : place <= l.length) (hcol : col < n) (hn : n <= 1000) (hS : ∀ r ∈ M, ∀ x ∈ r, Sz 4000 x) :
 Calls Try.prog 73 #[.slice (some ⟨B, 0, none⟩) l.length cB, .int .i64 place, .int .i64 col] w0 (qKf w0 B n l M place col) := by
 have K := hZ h; have HB := hZ (Below.refl w0.heap.size w0); have SZ := hZ hS; have Hlen := hZ h.len; have j1 : (0 : Int) <= (col : Int) := by omega
 have j2 : (col : Int) < (n : Int) := by omega
 clear h hS
 go_enter Try.func73, Try.ntmps73
 go_wp2_with fail
 go_loopw [7] (fun i wr => ∃ j : Nat, place <= j /\ j <= l.length /\ i = .int .i64 j /\ Hid (∀ q, place <= q -> q < j -> ent M q col = 0) /\ Hid (qB0 wr B l n M) /\ Hid (Below w0.heap.size w0 wr)) (fun i _ => l.length - (intOf i).toNat)
 case atStart => exact ⟨place, by omega, hplace, rfl, hZ (fun q h1 h2 => by omega), K, HB⟩
 case round =>
  clear K HB; obtain ⟨j, hpj, hj, rfl, HZ, K, HB⟩ := hrel; obtain ⟨w1, rfl⟩ := eY wr; by_cases hlt : j < l.length
  ·skip
   have i1 : (0 : Int) <= (j : Int) := by omega
   have i2 : (j : Int) < (l.length : Int) := by omega
   have i3 : (0 : Int) <= (place : Int) := by omega
   have i4 : (place : Int) < (l.length : Int) := by omega
   have hjm : j < M.length := by have := Hlen.o; omega
   have hpl : place < l.length := by omega
   obtain ⟨l0, l1⟩ := K.o.get j hlt; obtain ⟨hrow, hrl⟩ := K.o.row j hlt; obtain ⟨s_x, a_x, n_x, c_x, d0x, d1x, h_x⟩ := hrow.get col (by omega); have Vx := hZ h_x; have He : Hid (ent M j col = (M[j]'hjm)[col]'(by omega)) := hZ (qHO hjm (by omega)); have Sx : Hid (Sz 4000 ((M[j]'hjm)[col]'(by omega))) := hZ (SZ.o _ (List.getElem_mem _) _ (List.getElem_mem _)); generalize (M[j]'hjm)[col]'(by omega) = x at *; clear h_x hrow hrl; obtain ⟨g, hg⟩ := eX (l[j].1); obtain ⟨cg, hcg⟩ := eX (l[j].2.1); obtain ⟨ig, hig⟩ := eX (l[j].2.2); have Hg := hZ (And.intro hg (And.intro hcg hig)); rw [hg, hcg] at l0; rw [hig] at l1; rw [hg] at d0x d1x; clear hg hcg hig
   go_wp2_with fail
   clear d0x d1x l0 l1; by_cases hx : x = 0
   ·skip
    refine (qAD (w := w1) Vx.o Sx.o (by omega)).mono ?_; rintro e w2 ⟨he, hB⟩; rw [show qAK x 0 = 0 by rw [hx]; exact qAS 0] at he; subst he; replace K := K.b hB; replace Vx := Vx.b hB; replace HB := bT HB hB; clear hB
    go_wp2_with fail
    go_roundw
    case rel => exact ⟨j + 1, by omega, by omega, by go_num, hZ (fun q h1 h2 => if h3 : q < j then HZ.o q h1 h3 else by rw [show q = j by omega, He.o, hx]), K, HB⟩
    case measure => simp [intOf]; omega
   ·skip
    refine (qAD (w := w1) Vx.o Sx.o (by omega)).mono ?_; rintro e w2 ⟨he, hB⟩; obtain ⟨sgx, hs9, q0x, q1x⟩ := qA0 (x := x) hx; rw [hs9] at he; subst he; clear hs9; replace K := K.b hB; replace Vx := Vx.b hB; replace HB := bT HB hB; clear hB
    go_wp2_with fail
    obtain ⟨w3, hwd⟩ := eX w2.drew; have hB := dB hwd; replace K := K.b hB; replace Vx := Vx.b hB; replace HB := bT HB hB; clear hB; have HBr : Hid (qAc (fun b => False) w3 w3) := hZ (qAc.refl _ _); refine qAx [13, 15] (fun w' => qAc (fun b => False) w3 w') (by kernel_rfl) (by rw [hwd]; exact qAc.refl _ _) (fun hHeld => ?_); rw [hwd] at hHeld ⊢; clear hwd; obtain ⟨l0, l1⟩ := K.o.get j hlt; rw [Hg.o.1, Hg.o.2.1] at l0; rw [Hg.o.2.2] at l1; obtain ⟨m0, m1⟩ := K.o.get place hpl; obtain ⟨g', hg⟩ := eX (l[place].1); obtain ⟨cg', hcg⟩ := eX (l[place].2.1); obtain ⟨ig', hig⟩ := eX (l[place].2.2); have Hg' := hZ (And.intro hg (And.intro hcg hig)); rw [hg, hcg] at m0; rw [hig] at m1; clear hg hcg hig; refine pU 0 25 ?_; refine pU 1 26 ?_; refine pU 2 27 ?_; refine pU 3 28 ?_; refine pU 4 29 ?_; refine pU 5 30 ?_; refine pU 6 31 ?_; refine tV 7 32 (cF l0 K.o.lt) (cF l1 K.o.lt) ?_; refine pU 8 33 ?_; refine pU 9 34 ?_; refine pU 10 35 ?_; refine tV 11 36 (cF m0 K.o.lt) (cF m1 K.o.lt) ?_; refine pU 12 37 ?_; have f0 := K.o.frozen (place * 2); have f1 := K.o.frozen (place * 2 + 1); obtain ⟨wA, hwA⟩ := eX ((w3.setCell ⟨B, place * 2, none⟩ (.slice (some ⟨g, 0, none⟩) n cg)).setCell ⟨B, place * 2 + 1, none⟩ (.int .i64 ig)); have hbA : qAE wA B 103 (((l.flatMap (lnC n)).set (place * 2) (.slice (some ⟨g, 0, none⟩) n cg)).set (place * 2 + 1) (.int .i64 ig)) := by rw [<- hwA]; exact (K.o.blk.set (place * 2) (.slice (some ⟨g, 0, none⟩) n cg)).set (place * 2 + 1) (.int .i64 ig)
    obtain ⟨u0, hu0⟩ := hbA.some_ (j * 2) (by rw [List.length_set, List.length_set, qEp]; omega); obtain ⟨u1, hu1⟩ := hbA.some_ (j * 2 + 1) (by rw [List.length_set, List.length_set, qEp]; omega); have f2 := hbA.frozen (j * 2); have f3 := hbA.frozen (j * 2 + 1); obtain ⟨wB, hwB⟩ := eX ((wA.setCell ⟨B, j * 2, none⟩ (.slice (some ⟨g', 0, none⟩) n cg')).setCell ⟨B, j * 2 + 1, none⟩ (.int .i64 ig')); have hsw := K.o.swap place j hpl hlt; rw [Hg.o.1, Hg.o.2.1, Hg.o.2.2, Hg'.o.1, Hg'.o.2.1, Hg'.o.2.2, hwA, hwB] at hsw; have K2 := hZ hsw; clear hsw hbA; have HO : Hid (qAc (fun b => b = B) w0 wB) := hZ (by rw [<- hwB, <- hwA]; exact ((((qAc.of_below (S := fun b => b = B) HB.o).set (p := ⟨B, place * 2, none⟩) rfl _).set (p := ⟨B, place * 2 + 1, none⟩) rfl _).set (p := ⟨B, j * 2, none⟩) rfl _).set (p := ⟨B, j * 2 + 1, none⟩) rfl _); refine lU 13 fun K hK => ?_; go_simp
    try rw [hwA]
    refine hK.out _ _ ?_; clear hK K
    try simp only [Act.put, sX1, sX2, sX3]
    clear hwA f0 f1 m0 m1 l0 l1; refine pU 14 38 ?_; refine lU 15 fun K hK => ?_; go_simp
    try rw [hwB]
    refine hK.out _ _ ?_; clear hK K
    try simp only [Act.put, sX1, sX2, sX3]
    clear hwB hu0 hu1 f2 f3; refine dU ?_; clear hHeld
    go_wp2_with fail
    go_ret; exact ⟨HO.o, .inr ⟨j, hlt, hpl, by omega, by have := Hlen.o; omega, hpj, by rw [He.o]; exact hx, rfl, K2.o⟩⟩
  ·skip
   go_wp2_with fail
   go_ret; exact ⟨qAc.of_below HB.o, .inl ⟨rfl, fun q h1 h2 => HZ.o q h1 (by omega), K.o⟩⟩
end Go.Proofs.Ytlmbebbdamgfpaa
