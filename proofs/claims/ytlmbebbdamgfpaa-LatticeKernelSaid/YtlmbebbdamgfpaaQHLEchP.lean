/- The reference's echelon form: its steps keep the span and stay small; plain Lean. -/
import Derived.Test.YtlmbebbdamgfpaaQHLFull
import Derived.Test.YtlmbebbdamgfpaaQHLDet
set_option linter.unusedVariables false
set_option linter.unusedSimpArgs false
namespace Go.Proofs.Ytlmbebbdamgfpaa

def qCK (a b : List Int) (q : Int) : List Int := (List.range a.length).map (fun j => vec a j - q * vec b j)
theorem qBr {a b : List Int} {q : Int} : (qCK a b q).length = a.length := by simp [qCK]
theorem qFn {a b : List Int} {q : Int} (j : Nat) (h : j < a.length) : (qCK a b q)[j]'(by rw [qBr]; exact h) = vec a j - q * vec b j := by simp [qCK]
theorem qE6 {a b : List Int} {q : Int} (hl : b.length = a.length) (j : Nat) : vec (qCK a b q) j = vec a j - q * vec b j := by
 rcases Nat.lt_or_ge j a.length with h | h
 ·rw [qAk (by rw [qBr]; exact h), qFn j h]
 ·rw [qAr (by rw [qBr]; exact h), qAr h, qAr (by omega)]; simp
structure qCC (M0 M : List (List Int)) (n c top : Nat) : Prop where
 len : M.length = M0.length
 row : ∀ r ∈ M, r.length = n
 span : ∀ v, qAa (M.map vec) v ↔ qAa (M0.map vec) v
 le : top <= M.length
 piv : ∃ ps : List Nat, ps.length = top /\ ps.Pairwise (· < ·) /\ (∀ p ∈ ps, p < c) /\ ∀ i (h : i < M.length) (h' : i < ps.length), qBN (vec M[i]) ps[i]
 low : ∀ i (h : i < M.length), top <= i -> ∀ j, j < c -> vec M[i] j = 0
theorem qCC.start {M : List (List Int)} {n : Nat} (h : ∀ r ∈ M, r.length = n) : qCC M M n 0 0 :=
 ⟨rfl, h, fun _ => Iff.rfl, Nat.zero_le _, ⟨[], rfl, List.Pairwise.nil, fun _ h => (by cases h), fun _ _ h => (by simp at h)⟩, fun _ _ _ j hj => by omega⟩
section
variable {M0 M M' : List (List Int)} {n c top : Nat}
theorem qCC.turn (h : qCC M0 M n c top) (hl : M'.length = M.length) (hr : ∀ r ∈ M', r.length = n) (hlow : ∀ i (hi : i < M.length) (hi' : i < M'.length), i < top -> M'[i] = M[i])
 (h1 : ∀ i (hi : i < M'.length), top <= i -> qAa ((M.drop top).map vec) (vec M'[i])) (h2 : ∀ i (hi : i < M.length), top <= i -> qAa ((M'.drop top).map vec) (vec M[i])) : qCC M0 M' n c top := by
 have g : ∀ (A B : List (List Int)), A.length = B.length -> (∀ i (hi : i < A.length) (hi' : i < B.length), i < top -> A[i] = B[i]) -> (∀ i (hi : i < A.length), top <= i -> qAa ((B.drop top).map vec) (vec A[i])) -> ∀ v, qAa (A.map vec) v -> qAa (B.map vec) v := by
  intro A B hl he hs v hv; refine hv.trans (fun r hr => ?_); obtain ⟨a, ha, rfl⟩ := List.mem_map.1 hr; obtain ⟨i, hi, rfl⟩ := List.mem_iff_getElem.1 ha; rcases Nat.lt_or_ge i top with h3 | h3
  ·rw [he i hi (by omega) h3]
   exact qAa.mem (List.mem_map.2 ⟨_, List.getElem_mem _, rfl⟩)
  ·refine (hs i hi h3).trans (fun s hs' => qAa.mem ?_)
   obtain ⟨b, hb, rfl⟩ := List.mem_map.1 hs'; exact List.mem_map.2 ⟨b, List.mem_of_mem_drop hb, rfl⟩
 refine ⟨by rw [hl, h.len], hr, fun v => Iff.trans ⟨g M' M hl (fun i hi hi' => hlow i hi' hi) h1 v, g M M' hl.symm (fun i hi hi' ht => (hlow i hi hi' ht).symm) h2 v⟩ (h.span v), by rw [hl]; exact h.le, ?_, fun i hi ht j hj => ?_⟩
 ·obtain ⟨ps, p1, p2, p3, p4⟩ := h.piv
  exact ⟨ps, p1, p2, p3, fun i hi hi' => by rw [hlow i (by omega) hi (by omega)]; exact p4 i _ hi'⟩
 ·refine (h1 i hi ht).lin (P := fun v => v j = 0) rfl (fun x u w hu hw => by show x * u j + w j = 0; rw [hu, hw]; simp) (fun u w he hu => by rw [<- he j]; exact hu) (fun r hr => ?_)
  obtain ⟨b, hb, rfl⟩ := List.mem_map.1 hr; obtain ⟨k, hk, rfl⟩ := List.mem_iff_getElem.1 hb; rw [List.getElem_drop]; exact h.low _ _ (by omega) j hj
theorem qBe {M : List (List Int)} {top k : Nat} (hk : k < M.length) (h : top <= k) : vec M[k] ∈ (M.drop top).map vec := by
 refine List.mem_map.2 ⟨M[k], ?_, rfl⟩; rw [List.mem_iff_getElem]; exact ⟨k - top, by simp; omega, by rw [List.getElem_drop]; congr 1; omega⟩
theorem qCC.swap (h : qCC M0 M n c top) {a b : Nat} (ha : a < M.length) (hb : b < M.length) (h1 : top <= a) (h2 : top <= b) : qCC M0 (qAu M a b ha hb) n c top := by
 refine h.turn qAb (fun r hr => h.row r (qBb r hr)) (fun i hi hi' ht => ?_) (fun i hi ht => ?_) (fun i hi ht => ?_)
 ·rw [qAq i hi, if_neg (by omega), if_neg (by omega)]
 ·rw [qAq i (by rw [qAb] at hi; exact hi)]
  split
  ·exact qAa.mem (qBe ha h1)
  ·split
   ·exact qAa.mem (qBe hb h2)
   ·exact qAa.mem (qBe _ ht)
 ·have e : ∀ k (hk : k < M.length), top <= k -> qAa (((qAu M a b ha hb).drop top).map vec) (vec ((qAu M a b ha hb)[k]'(by rw [qAb]; exact hk))) := fun k hk hkt => qAa.mem (qBe _ hkt)
  by_cases e1 : i = a
  ·subst e1
   have := e b hb h2
   rwa [qAq b hb, if_pos rfl] at this
  ·by_cases e2 : i = b
   ·subst e2
    have := e a ha h1; rw [qAq a ha, if_neg (by omega), if_pos rfl] at this; exact this
   ·have := e i hi ht
    rwa [qAq i hi, if_neg e2, if_neg e1] at this
structure qDs (M : List (List Int)) (top c i : Nat) (M' : List (List Int)) : Prop where
 len : M'.length = M.length
 same : ∀ k (hk : k < M.length) (hk' : k < M'.length), k <= top \/ i <= k -> M'[k] = M[k]
 done : ∀ k (hk : k < M.length) (hk' : k < M'.length), top < k -> k < i -> M'[k] = qCK M[k] (M[top]?.getD []) (ent M k c / ent M top c)
theorem qDs.start {M : List (List Int)} {top c : Nat} : qDs M top c (top + 1) M := ⟨rfl, fun _ _ _ _ => rfl, fun _ _ _ h1 h2 => by omega⟩
theorem qDs.step {i : Nat} (h : qDs M top c i M') (ht : top < i) (hi : i < M.length) {r : List Int} (hr : r = qCK M[i] (M[top]?.getD []) (ent M i c / ent M top c)) : qDs M top c (i + 1) (M'.set i r) := by
 refine ⟨by rw [List.length_set]; exact h.len, fun k hk hk' hc => ?_, fun k hk hk' h1 h2 => ?_⟩
 ·rw [List.length_set] at hk'
  rw [List.getElem_set_ne (by omega)]; exact h.same k hk hk' (by omega)
 ·rw [List.length_set] at hk'
  by_cases e : k = i
  ·subst e
   rw [List.getElem_set_self, hr]
  ·rw [List.getElem_set_ne (Ne.symm e)]
   exact h.done k hk hk' h1 (by omega)
theorem qDs.row {i : Nat} (h : qDs M top c i M') (hr : ∀ r ∈ M, r.length = n) : ∀ r ∈ M', r.length = n := by
 intro r hr'; obtain ⟨k, hk, rfl⟩ := List.mem_iff_getElem.1 hr'; have hk2 : k < M.length := by rw [<- h.len]; exact hk
 by_cases e : top < k /\ k < i
 ·rw [h.done k hk2 hk e.1 e.2, qBr]; exact hr _ (List.getElem_mem _)
 ·rw [h.same k hk2 hk (by omega)]; exact hr _ (List.getElem_mem _)
theorem qCC.red {i : Nat} (h : qCC M0 M n c top) (ht : top < M.length) (hd : qDs M top c i M') : qCC M0 M' n c top := by
 have hv : ∀ k (hk : k < M.length) (hk' : k < M'.length), top < k -> k < i -> ∀ j, vec M'[k] j = vec M[k] j - (ent M k c / ent M top c) * vec M[top] j := fun k hk hk' h1 h2 j => by
  rw [hd.done k hk hk' h1 h2, List.getElem?_eq_getElem ht, Option.getD_some, qE6 (by rw [h.row _ (List.getElem_mem _), h.row _ (List.getElem_mem _)])]
 have ht' : top < M'.length := by rw [hd.len]; exact ht
 have e0 : M'[top] = M[top] := hd.same top ht ht' (.inl (Nat.le_refl _)); refine h.turn hd.len (hd.row h.row) (fun k hk hk' hkt => hd.same k hk hk' (by omega)) (fun k hk hkt => ?_) (fun k hk hkt => ?_)
 ·have hk2 : k < M.length := by rw [<- hd.len]; exact hk
  by_cases e : top < k /\ k < i
  ·exact ((qAa.mem (qBe hk2 hkt)).sub ((qAa.mem (qBe ht (Nat.le_refl _))).smul _)).congr (fun j => (hv k hk2 hk e.1 e.2 j).symm)
  ·rw [hd.same k hk2 hk (by omega)]
   exact qAa.mem (qBe hk2 hkt)
 ·have hk2 : k < M'.length := by rw [hd.len]; exact hk
  by_cases e : top < k /\ k < i
  ·refine ((qAa.mem (qBe hk2 hkt)).add ((qAa.mem (qBe ht' (Nat.le_refl _))).smul (ent M k c / ent M top c))).congr (fun j => ?_)
   rw [hv k hk hk2 e.1 e.2 j, e0]; omega
  ·have := qAa.mem (qBe hk2 hkt)
   rwa [hd.same k hk hk2 (by omega)] at this
theorem qCC.col0 (h : qCC M0 M n c top) (h0 : ∀ k, top <= k -> k < M.length -> ent M k c = 0) : qCC M0 M n (c + 1) top :=
 ⟨h.len, h.row, h.span, h.le, by
  obtain ⟨ps, p1, p2, p3, p4⟩ := h.piv; exact ⟨ps, p1, p2, fun p hp => by have := p3 p hp; omega, p4⟩, fun i hi ht j hj => by
  rcases Nat.lt_or_ge j c with h1 | h1
  ·exact h.low i hi ht j h1
  ·obtain rfl : j = c := by omega
   have := h0 i ht hi; simpa [ent, hi] using this⟩
theorem qCC.col1 (h : qCC M0 M n c top) (ht : top < M.length) (hp : ent M top c ≠ 0) (h0 : ∀ k, top < k -> k < M.length -> ent M k c = 0) : qCC M0 M n (c + 1) (top + 1) :=
 ⟨h.len, h.row, h.span, ht, by
  obtain ⟨ps, p1, p2, p3, p4⟩ := h.piv; refine ⟨ps ++ [c], by simp [p1], List.pairwise_append.2 ⟨p2, List.pairwise_singleton _ _, fun a ha b hb => by rw [List.mem_singleton.1 hb]; exact p3 a ha⟩, fun p hp => ?_, fun i hi hi' => ?_⟩
  ·rcases List.mem_append.1 hp with h1 | h1
   ·have := p3 p h1; omega
   ·rw [List.mem_singleton.1 h1]; omega
  ·rw [List.getElem_append]
   split
   ·next h1 => exact p4 i hi h1
   ·next h1 =>
    simp only [List.length_append, List.length_singleton] at hi'; obtain rfl : i = top := by omega
    simp only [List.getElem_singleton]; exact ⟨fun j hj => h.low i hi (Nat.le_refl _) j hj, by simpa [ent, hi] using hp⟩, fun i hi ht' j hj => by
  rcases Nat.lt_or_ge j c with h1 | h1
  ·exact h.low i hi (by omega) j h1
  ·obtain rfl : j = c := by omega
   have := h0 i (by omega) hi; simpa [ent, hi] using this⟩
structure qGF (M : List (List Int)) (top c i left least : Nat) : Prop where
 le : top <= i /\ i <= M.length /\ left + top <= i
 none : left = 0 -> least = top /\ ∀ k, top <= k -> k < i -> ent M k c = 0
 some : 0 < left -> top <= least /\ least < i /\ ent M least c ≠ 0 /\ ∀ k, top <= k -> k < i -> ent M k c ≠ 0 -> (ent M least c).natAbs <= (ent M k c).natAbs
 one : left = 1 -> ∀ k, top <= k -> k < i -> k ≠ least -> ent M k c = 0
 two : 2 <= left -> ∃ k, top <= k /\ k < i /\ k ≠ least /\ ent M k c ≠ 0
theorem qGF.start {M : List (List Int)} {top c : Nat} (h : top <= M.length) : qGF M top c top 0 top :=
 ⟨⟨Nat.le_refl _, h, by omega⟩, fun _ => ⟨rfl, fun k h1 h2 => by omega⟩, fun h => by omega, fun h => by omega, fun h => by omega⟩
theorem qGF.zero {i left least : Nat} (h : qGF M top c i left least) (hi : i < M.length) (h0 : ent M i c = 0) : qGF M top c (i + 1) left least := by
 have hl := h.le; refine ⟨⟨by omega, by omega, by omega⟩, fun h1 => ⟨(h.none h1).1, fun k h2 h3 => ?_⟩, fun h1 => ?_, fun h1 k h2 h3 h4 => ?_, fun h1 => ?_⟩
 ·rcases Nat.lt_or_ge k i with h4 | h4
  ·exact (h.none h1).2 k h2 h4
  ·obtain rfl : k = i := by omega
   exact h0
 ·obtain ⟨a1, a2, a3, a4⟩ := h.some h1
  refine ⟨a1, by omega, a3, fun k h2 h3 h4 => ?_⟩; rcases Nat.lt_or_ge k i with h5 | h5
  ·exact a4 k h2 h5 h4
  ·obtain rfl : k = i := by omega
   exact absurd h0 h4
 ·rcases Nat.lt_or_ge k i with h5 | h5
  ·exact h.one h1 k h2 h5 h4
  ·obtain rfl : k = i := by omega
   exact h0
 ·obtain ⟨k, a1, a2, a3, a4⟩ := h.two h1
  exact ⟨k, a1, by omega, a3, a4⟩
theorem qGF.step {i left least : Nat} (h : qGF M top c i left least) (hi : i < M.length) (h0 : ent M i c ≠ 0) : qGF M top c (i + 1) (left + 1) (if left + 1 = 1 \/ (ent M i c).natAbs < (ent M least c).natAbs then i else least) := by
 have hl := h.le; have hk' : ∀ k, k < i + 1 -> k < i \/ k = i := fun k hk => by omega
 refine ⟨⟨by omega, by omega, by omega⟩, fun h1 => by omega, fun _ => ?_, fun h1 k h2 h3 h4 => ?_, fun h1 => ?_⟩
 ·by_cases e : left = 0
  ·rw [if_pos (by omega)]
   refine ⟨by omega, by omega, h0, fun k h2 h3 h4 => ?_⟩; rcases hk' k h3 with h5 | rfl
   ·exact absurd ((h.none e).2 k h2 h5) h4
   ·exact Nat.le_refl _
  ·obtain ⟨a1, a2, a3, a4⟩ := h.some (by omega)
   split
   ·next h5 =>
    refine ⟨by omega, by omega, h0, fun k h2 h3 h4 => ?_⟩; rcases hk' k h3 with h6 | rfl
    ·have := a4 k h2 h6 h4; omega
    ·exact Nat.le_refl _
   ·next h5 =>
    refine ⟨a1, by omega, a3, fun k h2 h3 h4 => ?_⟩; rcases hk' k h3 with h6 | rfl
    ·exact a4 k h2 h6 h4
    ·omega
 ·have e : left = 0 := by omega
  rw [if_pos (by omega)] at h4; rcases hk' k h3 with h5 | h5
  ·exact (h.none e).2 k h2 h5
  ·exact absurd h5 h4
 ·obtain ⟨a1, a2, a3, a4⟩ := h.some (by omega)
  split
  ·exact ⟨least, a1, by omega, by omega, a3⟩
  ·exact ⟨i, by omega, by omega, by omega, h0⟩
end
def qCv (M : List (List Int)) (top c : Nat) : Prop := ∃ k k', top <= k /\ k < k' /\ k' < M.length /\ ent M k c ≠ 0 /\ ent M k' c ≠ 0
def qLu (M : List (List Int)) (top c w : Nat) : Prop :=
 w = 9 \/ (w = 3 /\ ∀ k, top <= k -> k < M.length -> ent M k c < 0 -> ∃ k', top <= k' /\ k' < M.length /\ ent M k' c ≠ 0 /\ (ent M k' c).natAbs < (ent M k c).natAbs) \/ (w = 1 /\ ∀ k, top <= k -> k < M.length -> 0 <= ent M k c)
structure qGE (M : List (List Int)) (top c b b' : Nat) : Prop where
 five : top + 1 < M.length -> 5 * b <= b' /\ 5 <= b
 mono : b <= b'
 fin : ∀ r ∈ M, ∀ x ∈ r, Sz b' x
 nz : (∀ k, top <= k -> k < M.length -> ent M k c = 0) \/ M.length <= top + 1 -> ∀ r ∈ M, ∀ x ∈ r, Sz b x
 pot : qCv M top c -> ∃ X C D w : Nat, (∀ r ∈ M, ∀ x ∈ r, x.natAbs <= X) /\ (∀ k, top <= k -> (ent M k c).natAbs <= C) /\ (∃ k, top <= k /\ k < M.length /\ ent M k c ≠ 0 /\ (ent M k c).natAbs <= D) /\ X * C * C * D * w <= 9 * 2 ^ (4 * b) /\ qLu M top c w
theorem qGl {M : List (List Int)} {X : Nat} (h : ∀ r ∈ M, ∀ x ∈ r, x.natAbs <= X) (k j : Nat) : (ent M k j).natAbs <= X := by
 unfold ent vec; cases hk : M[k]? with
 | none => simp
 | some r =>
  simp only [Option.getD_some]; cases hj : r[j]? with
  | none => simp
  | some x => exact h r (List.mem_of_getElem? hk) x (List.mem_of_getElem? hj)
theorem qGE.start {M : List (List Int)} {top c b b' : Nat} (h : ∀ r ∈ M, ∀ x ∈ r, Sz b x) (h5 : top + 1 < M.length -> 5 * b <= b' /\ 5 <= b) (hm : b <= b') : qGE M top c b b' := by
 refine ⟨h5, hm, fun r hr x hx => (h r hr x hx).mono hm, fun _ => h, fun ⟨k, k', h1, h2, h3, h4, h6⟩ => ?_⟩; have hX : ∀ r ∈ M, ∀ x ∈ r, x.natAbs <= 2 ^ b := fun r hr x hx => by have := h r hr x hx; unfold Sz at this; omega
 refine ⟨2 ^ b, 2 ^ b, 2 ^ b, 9, hX, fun k _ => qGl hX k c, ⟨k, h1, by omega, h4, qGl hX k c⟩, ?_, .inl rfl⟩; have e : 2 ^ b * 2 ^ b * 2 ^ b * 2 ^ b = 2 ^ (4 * b) := by rw [<- Nat.pow_add, <- Nat.pow_add, <- Nat.pow_add]; congr 1; omega
 rw [e]; omega
theorem qFu {M : List (List Int)} {a b : Nat} (ha : a < M.length) (hb : b < M.length) (k j : Nat) : ent (qAu M a b ha hb) k j = if k = b then ent M a j else if k = a then ent M b j else ent M k j := by
 rcases Nat.lt_or_ge k M.length with hk | hk
 ·have hk' : k < (qAu M a b ha hb).length := by rw [qAb]; exact hk
  unfold ent; rw [List.getElem?_eq_getElem hk', qAq k hk]; by_cases e1 : k = b
  ·rw [if_pos e1, if_pos e1, List.getElem?_eq_getElem ha]
  ·rw [if_neg e1, if_neg e1]
   by_cases e2 : k = a
   ·rw [if_pos e2, if_pos e2, List.getElem?_eq_getElem hb]
   ·rw [if_neg e2, if_neg e2, List.getElem?_eq_getElem hk]
 ·rw [if_neg (by omega), if_neg (by omega)]
  unfold ent; rw [List.getElem?_eq_none (by rw [qAb]; exact hk), List.getElem?_eq_none hk]
def sw (a b k : Nat) : Nat := if k = b then a else if k = a then b else k
theorem qCM {M : List (List Int)} {a b : Nat} (ha : a < M.length) (hb : b < M.length) (k j : Nat) : ent (qAu M a b ha hb) k j = ent M (sw a b k) j := by
 rw [qFu]; unfold sw
 split
 ·rfl
 ·split <;> rfl
theorem qKF (a b k : Nat) : sw a b (sw a b k) = k := by unfold sw; grind
theorem qDv {a b k top : Nat} (ha : top <= a) (hb : top <= b) (hk : top <= k) : top <= sw a b k := by unfold sw; grind
theorem qCb {a b k m : Nat} (ha : a < m) (hb : b < m) (hk : k < m) : sw a b k < m := by unfold sw; grind
theorem qCX {M : List (List Int)} {a b : Nat} (ha : a < M.length) (hb : b < M.length) (k j : Nat) : ent (qAu M a b ha hb) (sw a b k) j = ent M k j := by rw [qCM, qKF]
theorem qCv.of_ne {M : List (List Int)} {top c k k' : Nat} (h1 : top <= k) (h2 : top <= k') (hne : k ≠ k') (h3 : k < M.length) (h4 : k' < M.length) (h5 : ent M k c ≠ 0) (h6 : ent M k' c ≠ 0) : qCv M top c := by
 rcases Nat.lt_or_gt_of_ne hne with h | h
 ·exact ⟨k, k', h1, h, h4, h5, h6⟩
 ·exact ⟨k', k, h2, h, h3, h6, h5⟩
theorem qFQ {a b k k' : Nat} (h : sw a b k = sw a b k') : k = k' := by rw [<- qKF a b k, h, qKF]
theorem qCv.swap {M : List (List Int)} {top c a b : Nat} (ha : a < M.length) (hb : b < M.length) (h1 : top <= a) (h2 : top <= b) (h : qCv (qAu M a b ha hb) top c) : qCv M top c := by
 obtain ⟨k, k', g1, g2, g3, g4, g5⟩ := h; rw [qCM] at g4 g5; rw [qAb] at g3; exact qCv.of_ne (qDv h1 h2 g1) (qDv h1 h2 (by omega)) (fun e => by have := qFQ e; omega) (qCb ha hb (by omega)) (qCb ha hb g3) g4 g5
theorem qGE.swap {M : List (List Int)} {top c b b' a e : Nat} (h : qGE M top c b b') (ha : a < M.length) (he : e < M.length) (h1 : top <= a) (h2 : top <= e) : qGE (qAu M a e ha he) top c b b' := by
 refine ⟨by rw [qAb]; exact h.five, h.mono, fun r hr => h.fin r (qBb r hr), fun h0 r hr => h.nz ?_ r (qBb r hr), fun ht => ?_⟩
 ·rcases h0 with h0 | h0
  ·refine .inl (fun k g1 g2 => ?_)
   rw [<- qCX ha he]; exact h0 _ (qDv h1 h2 g1) (by rw [qAb]; exact qCb ha he g2)
  ·exact .inr (by rw [qAb] at h0; exact h0)
 ·obtain ⟨X, C, D, w, p1, p2, ⟨k, p3, p4, p5, p6⟩, p7, p8⟩ := h.pot (qCv.swap ha he h1 h2 ht)
  refine ⟨X, C, D, w, fun r hr => p1 r (qBb r hr), fun k hk => by rw [qCM]; exact p2 _ (qDv h1 h2 hk), ⟨sw a e k, qDv h1 h2 p3, by rw [qAb]; exact qCb ha he p4, by rw [qCX]; exact p5, by rw [qCX]; exact p6⟩, p7, ?_⟩; rcases p8 with p8 | ⟨q1, q2⟩ | ⟨q1, q2⟩
  ·exact .inl p8
  ·refine .inr (.inl ⟨q1, fun k g1 g2 g3 => ?_⟩)
   rw [qCM] at g3; rw [qAb] at g2; obtain ⟨k', r1, r2, r3, r4⟩ := q2 _ (qDv h1 h2 g1) (qCb ha he g2) g3; exact ⟨sw a e k', qDv h1 h2 r1, by rw [qAb]; exact qCb ha he r2, by rw [qCX]; exact r3, by rw [qCX, qCM]; exact r4⟩
  ·refine .inr (.inr ⟨q1, fun k g1 g2 => ?_⟩)
   rw [qCM]; rw [qAb] at g2; exact q2 _ (qDv h1 h2 g1) (qCb ha he g2)
theorem qKr {x p : Int} {C : Nat} (hx : x.natAbs <= C) : (x / p).natAbs <= C / p.natAbs + 1 := by
 have h1 := Int.natAbs_ediv x p; have h2 : x.natAbs / p.natAbs <= C / p.natAbs := Nat.div_le_div_right hx
 split at h1 <;> omega
theorem qLg {x p : Int} {C : Nat} (hx : x.natAbs <= C) (h0 : 0 <= x) : (x / p).natAbs <= C / p.natAbs := by
 have h1 := Int.natAbs_ediv x p; have h2 : x.natAbs / p.natAbs <= C / p.natAbs := Nat.div_le_div_right hx; rw [if_pos (.inl h0)] at h1; omega
theorem qLF {a q y : Int} {X Q : Nat} (ha : a.natAbs <= X) (hq : q.natAbs <= Q) (hy : y.natAbs <= X) : (a - q * y).natAbs <= X + Q * X := by
 have h1 : (q * y).natAbs <= Q * X := by rw [Int.natAbs_mul]; exact Nat.mul_le_mul hq hy
 omega
theorem qKM {X C D w l t : Nat} (ht : t * l <= C) (h1 : l <= C) (h2 : l <= D) : X * (3 * t) * l * l * l * w <= X * C * C * D * (3 * w) := by
 have e : X * (3 * t) * l * l * l * w = X * (t * l) * l * l * (3 * w) := by grind
 rw [e]; exact Nat.mul_le_mul_right _ (Nat.mul_le_mul (Nat.mul_le_mul (Nat.mul_le_mul_left _ ht) h1) h2)
theorem qKL {X C D l t : Nat} (ht : t * l <= C) (h2 : l <= D) : X * (2 * t) * l * l * (C / 2) <= X * C * C * D := by
 have e : X * (2 * t) * l * l * (C / 2) = X * (t * l) * (2 * (C / 2)) * l := by grind
 rw [e]; exact Nat.mul_le_mul (Nat.mul_le_mul (Nat.mul_le_mul_left _ ht) (by omega)) h2
theorem qKN {X C D w b : Nat} (hC : 1 <= C) (hD : 1 <= D) (hw : 1 <= w) (h : X * C * C * D * w <= 9 * 2 ^ (4 * b)) : X * (3 * C) <= 27 * 2 ^ (4 * b) := by
 have h1 : X * C * 1 * 1 * 1 <= X * C * C * D * w := Nat.mul_le_mul (Nat.mul_le_mul (Nat.mul_le_mul_left _ hC) hD) hw; have e : X * (3 * C) = 3 * (X * C * 1 * 1 * 1) := by grind
 omega
theorem qKK {b b' Y : Nat} (h5 : 5 <= b) (hb : 5 * b <= b') (h : Y <= 27 * 2 ^ (4 * b)) : Y < 2 ^ b' := by
 have h1 : 2 ^ (4 * b + 5) <= 2 ^ b' := Nat.pow_le_pow_right (by omega) (by omega); rw [Nat.pow_add] at h1; have h2 : 0 < 2 ^ (4 * b) := Nat.pow_pos (by omega); have e : (2 : Nat) ^ 5 = 32 := by decide
 rw [e] at h1; omega
section
variable {M M' : List (List Int)} {top c b b' n i : Nat}
theorem qDs.ent_ (hr : ∀ r ∈ M, r.length = n) (ht : top < M.length) (h : qDs M top c i M') (k : Nat) (h1 : top < k) (h2 : k < i) (h3 : k < M.length) (j : Nat) : ent M' k j = ent M k j - (ent M k c / ent M top c) * ent M top j := by
 have h3' : k < M'.length := by rw [h.len]; exact h3
 have h4 := h.done k h3 h3' h1 h2; unfold ent at *; rw [List.getElem?_eq_getElem h3', Option.getD_some, h4, List.getElem?_eq_getElem h3, List.getElem?_eq_getElem ht, Option.getD_some, Option.getD_some]; exact qE6 (by rw [hr _ (List.getElem_mem _), hr _ (List.getElem_mem _)]) j
theorem qDs.ent_same (h : qDs M top c i M') (k : Nat) (h1 : k <= top \/ i <= k) (j : Nat) : ent M' k j = ent M k j := by
 unfold ent; rcases Nat.lt_or_ge k M.length with h2 | h2
 ·have h3 : k < M'.length := by rw [h.len]; exact h2
  rw [List.getElem?_eq_getElem h3, List.getElem?_eq_getElem h2, h.same k h2 h3 h1]
 ·rw [List.getElem?_eq_none h2, List.getElem?_eq_none (by rw [h.len]; exact h2)]
theorem qDs.rest (hr : ∀ r ∈ M, r.length = n) (ht : top < M.length) (h : qDs M top c i M') (k : Nat) (h1 : top < k) (h2 : k < i) (h3 : k < M.length) : ent M' k c = ent M k c % ent M top c := by
 rw [h.ent_ hr ht k h1 h2 h3, Int.emod_def, Int.mul_comm]
theorem qLI {X : Nat} {r : List Int} (h : ∀ j, (vec r j).natAbs <= X) : ∀ x ∈ r, x.natAbs <= X := by
 intro x hx; obtain ⟨j, hj, rfl⟩ := List.mem_iff_getElem.1 hx; rw [<- qAk hj]; exact h j
theorem qLc {X : Nat} (h : ∀ k j, (ent M k j).natAbs <= X) : ∀ r ∈ M, ∀ x ∈ r, x.natAbs <= X := by
 intro r hr; obtain ⟨k, hk, rfl⟩ := List.mem_iff_getElem.1 hr; refine qLI (fun j => ?_); have := h k j; simpa [ent, hk] using this
theorem qDs.le {X Q : Nat} (hr : ∀ r ∈ M, r.length = n) (ht : top < M.length) (h : qDs M top c i M') (hX : ∀ r ∈ M, ∀ x ∈ r, x.natAbs <= X) (hQ : ∀ k, top < k -> k < M.length -> (ent M k c / ent M top c).natAbs <= Q) : ∀ r ∈ M', ∀ x ∈ r, x.natAbs <= X + Q * X := by
 refine qLc (fun k j => ?_); rcases Nat.lt_or_ge k M.length with h3 | h3
 ·by_cases e : top < k /\ k < i
  ·rw [h.ent_ hr ht k e.1 e.2 h3]
   exact qLF (qGl hX k j) (hQ k e.1 h3) (qGl hX top j)
  ·rw [h.ent_same k (by omega)]
   have := qGl hX k j; omega
 ·have : ent M' k j = 0 := by
   unfold ent; rw [List.getElem?_eq_none (by rw [h.len]; exact h3)]; simp [vec]
  rw [this]; simp
theorem qGE.red_fin (h : qGE M top c b b') (hr : ∀ r ∈ M, r.length = n) (ht : top < M.length) (hp : ent M top c ≠ 0) (hl : ∀ k, top <= k -> k < M.length -> ent M k c ≠ 0 -> (ent M top c).natAbs <= (ent M k c).natAbs) (h2 : qCv M top c) (hd : qDs M top c i M') : ∀ r ∈ M', ∀ x ∈ r, Sz b' x := by
 obtain ⟨X, C, D, w, p1, p2, ⟨k, p3, p4, p5, p6⟩, p7, p8⟩ := h.pot h2; have ht2 : top + 1 < M.length := by obtain ⟨k, k', a1, a2, a3, _, _⟩ := h2; omega
 obtain ⟨h5, h6⟩ := h.five ht2; have hlC : (ent M top c).natAbs <= C := p2 top (Nat.le_refl _); have hl0 : 0 < (ent M top c).natAbs := by omega
 have hw : 1 <= w := by rcases p8 with p8 | ⟨p8, _⟩ | ⟨p8, _⟩ <;> omega
 have hD : 1 <= D := by omega
 have hE := qKN (by omega) hD hw p7; have hQ : ∀ k, top < k -> k < M.length -> (ent M k c / ent M top c).natAbs <= C / (ent M top c).natAbs + 1 := fun k h1 _ => qKr (p2 k (by omega)); have hle := hd.le hr ht p1 hQ; have ht1 : C / (ent M top c).natAbs <= C := Nat.div_le_self _ _; intro r hrm x hx; have h8 := hle r hrm x hx; have h9 : X + (C / (ent M top c).natAbs + 1) * X <= X * (3 * C) := by
  have e1 : X + (C / (ent M top c).natAbs + 1) * X = X * (C / (ent M top c).natAbs + 2) := by grind
  rw [e1]; exact Nat.mul_le_mul_left _ (by omega)
 unfold Sz; exact qKK h6 h5 (by omega)
theorem qDs.two (hr : ∀ r ∈ M, r.length = n) (h : qDs M top c M.length M') (h2 : qCv M' top c) (ht : top < M.length) : ∃ k, top < k /\ k < M.length /\ ent M' k c ≠ 0 /\ ent M' k c = ent M k c % ent M top c /\ ent M k c ≠ 0 := by
 obtain ⟨k, k', a1, a2, a3, a4, a5⟩ := h2; rw [h.len] at a3; have e := h.rest hr ht k' (by omega) a3 a3; refine ⟨k', by omega, a3, a5, e, fun e0 => a5 ?_⟩; rw [e, e0, Int.zero_emod]
theorem qGE.red (h : qGE M top c b b') (hr : ∀ r ∈ M, r.length = n) (ht : top < M.length) (hp : ent M top c ≠ 0) (hl : ∀ k, top <= k -> k < M.length -> ent M k c ≠ 0 -> (ent M top c).natAbs <= (ent M k c).natAbs) (h2 : qCv M top c) (hd : qDs M top c M.length M') :
 qGE M' top c b b' /\ ent M' top c = ent M top c /\ (qCv M' top c -> ∃ k, top <= k /\ k < M'.length /\ ent M' k c ≠ 0 /\ (ent M' k c).natAbs < (ent M top c).natAbs) := by
 have hpm : ent M' top c = ent M top c := hd.ent_same top (.inl (Nat.le_refl _)) c; have hrest : ∀ k, top < k -> k < M.length -> ent M' k c = ent M k c % ent M top c := fun k a1 a2 => hd.rest hr ht k a1 a2 a2; have hrl : ∀ k, top < k -> k < M.length -> 0 <= ent M' k c /\ (ent M' k c).natAbs < (ent M top c).natAbs := fun k a1 a2 => by
  rw [hrest k a1 a2]; have h1 := Int.emod_nonneg (ent M k c) hp; have h3 := Int.emod_lt (ent M k c) hp; omega
 refine ⟨⟨by rw [hd.len]; exact h.five, h.mono, h.red_fin hr ht hp hl h2 hd, fun h0 => ?_, fun h3 => ?_⟩, hpm, fun h3 => ?_⟩
 ·exfalso
  rcases h0 with h0 | h0
  ·exact hp (by rw [<- hpm]; exact h0 top (Nat.le_refl _) (by rw [hd.len]; exact ht))
  ·obtain ⟨k, k', a1, a2, a3, _, _⟩ := h2
   rw [hd.len] at h0; omega
 ·obtain ⟨X, C, D, w, p1, p2, ⟨k0, p3, p4, p5, p6⟩, p7, p8⟩ := h.pot h2
  have hlC : (ent M top c).natAbs <= C := p2 top (Nat.le_refl _); have hlD : (ent M top c).natAbs <= D := Nat.le_trans (hl k0 p3 p4 p5) p6; have hl0 : 0 < (ent M top c).natAbs := by omega
  have htl : C / (ent M top c).natAbs * (ent M top c).natAbs <= C := Nat.div_mul_le_self _ _; have ht1 : 1 <= C / (ent M top c).natAbs := (Nat.one_le_div_iff hl0).2 hlC; obtain ⟨k1, q1, q2, q3, q4, q5⟩ := hd.two hr h3 ht; have hcol : ∀ k, top <= k -> (ent M' k c).natAbs <= (ent M top c).natAbs := fun k hk => by
   rcases Nat.lt_or_ge k M.length with a2 | a2
   ·rcases Nat.lt_or_ge top k with a1 | a1
    ·have := (hrl k a1 a2).2; omega
    ·obtain rfl : k = top := by omega
     rw [hpm]; exact Nat.le_refl _
   ·have : ent M' k c = 0 := by
     unfold ent; rw [List.getElem?_eq_none (by rw [hd.len]; exact a2)]; simp [vec]
    rw [this]; simp
  -- the general round
  have gen : ∀ w', w = 3 * w' -> qLu M' top c w' -> ∃ X C D w : Nat, (∀ r ∈ M', ∀ x ∈ r, x.natAbs <= X) /\ (∀ k, top <= k -> (ent M' k c).natAbs <= C) /\ (∃ k, top <= k /\ k < M'.length /\ ent M' k c ≠ 0 /\ (ent M' k c).natAbs <= D) /\ X * C * C * D * w <= 9 * 2 ^ (4 * b) /\ qLu M' top c w := by
   intro w' hw' hph; refine ⟨X * (3 * (C / (ent M top c).natAbs)), (ent M top c).natAbs, (ent M top c).natAbs, w', fun r hrm x hx => ?_, hcol, ⟨k1, by omega, by rw [hd.len]; exact q2, q3, hcol k1 (by omega)⟩, ?_, hph⟩
   ·have h8 := hd.le hr ht p1 (fun k a1 _ => qKr (p2 k (by omega))) r hrm x hx
    have e1 : X + (C / (ent M top c).natAbs + 1) * X = X * (C / (ent M top c).natAbs + 2) := by grind
    rw [e1] at h8; exact Nat.le_trans h8 (Nat.mul_le_mul_left _ (by omega))
   ·refine Nat.le_trans (qKM htl hlC hlD) ?_
    rw [<- hw']; exact p7
  rcases p8 with rfl | ⟨rfl, p8⟩ | ⟨rfl, p8⟩
  ·refine gen 3 rfl (.inr (.inl ⟨rfl, fun k a1 a2 a3 => ?_⟩))
   rw [hd.len] at a2; rcases Nat.lt_or_ge top k with a4 | a4
   ·have := (hrl k a4 a2).1; omega
   ·obtain rfl : k = top := by omega
    exact ⟨k1, by omega, by rw [hd.len]; exact q2, q3, by rw [hpm]; exact (hrl k1 q1 q2).2⟩
  ·refine gen 1 rfl (.inr (.inr ⟨rfl, fun k a1 a2 => ?_⟩))
   rw [hd.len] at a2; rcases Nat.lt_or_ge top k with a4 | a4
   ·exact (hrl k a4 a2).1
   ·obtain rfl : k = top := by omega
    rw [hpm]; rcases Int.lt_or_le (ent M k c) 0 with a5 | a5
    ·obtain ⟨k', r1, r2, r3, r4⟩ := p8 k (Nat.le_refl _) ht a5
     have := hl k' r1 r2 r3; omega
    ·exact a5
  ·refine ⟨X * (2 * (C / (ent M top c).natAbs)), (ent M top c).natAbs, C / 2, 1, fun r hrm x hx => ?_, hcol, ⟨k1, by omega, by rw [hd.len]; exact q2, q3, ?_⟩, ?_, .inr (.inr ⟨rfl, fun k a1 a2 => ?_⟩)⟩
   ·have h8 := hd.le hr ht p1 (fun k a1 a2 => qLg (p2 k (by omega)) (p8 k (by omega) a2)) r hrm x hx
    have e1 : X + C / (ent M top c).natAbs * X = X * (C / (ent M top c).natAbs + 1) := by grind
    rw [e1] at h8; exact Nat.le_trans h8 (Nat.mul_le_mul_left _ (by omega))
   ·have g1 := p8 k1 (by omega) q2
    have g2 := p8 top (Nat.le_refl _) ht; have g3 := hl k1 (by omega) q2 q5; have g4 := (hrl k1 q1 q2); have g5 := p2 k1 (by omega); have g6 : ent M k1 c = ent M k1 c % ent M top c + ent M top c * (ent M k1 c / ent M top c) := (Int.emod_add_mul_ediv _ _).symm; have g7 : 1 <= ent M k1 c / ent M top c := Int.le_ediv_of_mul_le (by omega) (by omega); have g8 : ent M top c * 1 <= ent M top c * (ent M k1 c / ent M top c) := Int.mul_le_mul_of_nonneg_left g7 g2; rw [q4] at g4 ⊢; omega
   ·rw [Nat.mul_one]
    refine Nat.le_trans (qKL htl hlD) ?_; rw [Nat.mul_one] at p7; exact p7
   ·rw [hd.len] at a2
    rcases Nat.lt_or_ge top k with a4 | a4
    ·exact (hrl k a4 a2).1
    ·obtain rfl : k = top := by omega
     rw [hpm]; exact p8 k (Nat.le_refl _) ht
 ·obtain ⟨k1, q1, q2, q3, q4, q5⟩ := hd.two hr h3 ht
  exact ⟨k1, by omega, by rw [hd.len]; exact q2, q3, (hrl k1 q1 q2).2⟩
end
end Go.Proofs.Ytlmbebbdamgfpaa
