/- lattice.eliminate. -/
import Derived.Test.YtlmbebbdamgfpaaQHLOwn
import Derived.Test.YtlmbebbdamgfpaaQHLLead
import Derived.Test.YtlmbebbdamgfpaaQHLSmall
import Derived.Test.YtlmbebbdamgfpaaQHLOpr
set_option linter.unusedVariables false
set_option linter.unusedSimpArgs false
namespace Go.Proofs.Ytlmbebbdamgfpaa
open Go.RowKit
theorem qCt.form {w : World} {base : Nat} {e : TypeId} {size : Nat} {v : Value} {n : Nat} {xs : List Value} (h : qCt w base e size v n xs) : ∃ a c, v = .slice a n c /\ n <= c /\ c <= 9223372036854775807 := by
 rcases h.1.2 with ⟨hv, rfl⟩ | ⟨g, cap, cur, hv, _, _, h1, h2, _⟩
 ·exact ⟨none, 0, hv, by omega, by omega⟩
 ·exact ⟨_, cap, hv, h1, by unfold maxLen at h2; exact h2⟩
theorem qCt.ints {w : World} {base : Nat} {v : Value} {ps : List Nat} (h : qCt w base 3 1 v ps.length (ps.map (iv .i64))) : qAo w v (ps.map (fun (p : Nat) => (p : Int))) := by
 refine qEr (base := base) (e := 3) ?_; rw [List.length_map, List.map_map]; exact h.1
theorem qLn (a b k : Nat) : (2 ^ a * 2 ^ b) ^ k = 2 ^ ((a + b) * k) := by rw [<- Nat.pow_add, <- Nat.pow_mul]
theorem Sz.of_pow {k l : Nat} {z : Int} (h : z.natAbs <= 2 ^ k) (hk : k < l) : Sz l z := by
 unfold Sz; exact Nat.lt_of_le_of_lt h (Nat.pow_lt_pow_right (by omega) hk)
def Sml (M : List (List Int)) : Prop := M.length <= 64 /\ ∀ r ∈ M, ∀ x ∈ r, x.natAbs <= 2 ^ 40
theorem qLD {M : List (List Int)} (h : ∀ r ∈ M, ∀ x ∈ r, x.natAbs <= 2 ^ 40) : ∀ v ∈ M.map vec, ∀ j, (v j).natAbs <= 2 ^ 40 := by
 intro v hv j; obtain ⟨r, hr, rfl⟩ := List.mem_map.1 hv; rcases Nat.lt_or_ge j r.length with hj | hj
 ·rw [qAk hj]; exact h r hr _ (List.getElem_mem _)
 ·rw [qAr hj]; simp
def qA1 (M0 M : List (List Int)) (ps : List Nat) (d : Int) (col : Nat) : Prop :=
 ∃ A : List (List Int), A.length = M0.length /\ (∀ r, r ∈ A ↔ r ∈ M0) /\ qBO (A.map vec) (M.map vec) ps d col /\ (Ind (M0.map vec) ↔ Ind (M.map vec))
section
variable {M0 M : List (List Int)} {ps : List Nat} {d : Int} {col : Nat}
theorem qA1.start (M : List (List Int)) : qA1 M M [] 1 0 := ⟨M, rfl, fun _ => Iff.rfl, qBO.start _, Iff.rfl⟩
theorem qA1.len (h : qA1 M0 M ps d col) : M.length = M0.length := by
 obtain ⟨A, h1, h2, h3, h9⟩ := h; have := h3.len; simpa [h1] using this
theorem qA1.sz (h : qA1 M0 M ps d col) (hs : Sml M0) : ∀ r ∈ M, ∀ x ∈ r, Sz 4000 x := by
 obtain ⟨A, h1, h2, h3, h9⟩ := h; intro r hr x hx; obtain ⟨j, hj, rfl⟩ := List.mem_iff_getElem.1 hx; have hm := h3.minor (vec r) (List.mem_map.2 ⟨r, hr, rfl⟩); have h4 := hm.le (2 ^ 40) (2 ^ 6) (by rw [List.length_map, h1]; exact hs.1) (Nat.pow_pos (by omega)) (qLD (fun r hr => hs.2 r ((h2 r).1 hr))) j; rw [qLn, qAk hj] at h4; exact Sz.of_pow h4 (by decide)
theorem qA1.dsz (h : qA1 M0 M ps d col) (hs : Sml M0) : Sz 4000 d := by
 have h0 := h.sz hs; obtain ⟨A, h1, h2, h3, h9⟩ := h; rcases Nat.eq_zero_or_pos ps.length with hp | hp
 ·have : ps = [] := List.eq_nil_of_length_eq_zero hp
  subst this; have h4 := h3.d1; simp [det] at h4; rw [h4]; exact Sz.one (by omega)
 ·have hlt : 0 < M.length := by have := h3.len; have := h3.le; simp at *; omega
  have h4 := h3.diag 0 0 (by simpa using hlt) hp hp; rw [if_pos rfl, List.getElem_map] at h4; rw [<- h4]; rcases Nat.lt_or_ge ps[0] (M[0]).length with hj | hj
  ·rw [qAk hj]; exact h0 _ (List.getElem_mem _) _ (List.getElem_mem _)
  ·rw [qAr hj]; exact Sz.zero _
theorem qA1.d0 (h : qA1 M0 M ps d col) : d ≠ 0 := by obtain ⟨A, h1, h2, h3, h9⟩ := h; exact h3.d0
theorem qA1.le (h : qA1 M0 M ps d col) : ps.length <= M.length := by obtain ⟨A, h1, h2, h3, h9⟩ := h; have := h3.le; have := h3.len; simp at *; omega
theorem qA1.skip (h : qA1 M0 M ps d col) (h0 : ∀ q, ps.length <= q -> q < M.length -> ent M q col = 0) : qA1 M0 M ps d (col + 1) := by
 obtain ⟨A, h1, h2, h3, h9⟩ := h; refine ⟨A, h1, h2, h3.skip (fun i hi hp => ?_), h9⟩; have h4 := h0 i hp (by simpa using hi); rw [List.getElem_map]; rw [List.length_map] at hi; simpa [ent, hi] using h4
theorem qEa {α β : Type} (f : α -> β) (l : List α) (a b : Nat) (ha : a < l.length) (hb : b < l.length) : (qAu l a b ha hb).map f = qAu (l.map f) a b (by simpa using ha) (by simpa using hb) := by
 simp [qAu, List.map_set]
theorem qA1.swap (h : qA1 M0 M ps d col) (a b : Nat) (ha : a < M.length) (hb : b < M.length) (h1 : ps.length <= a) (h2 : ps.length <= b) : qA1 M0 (qAu M a b ha hb) ps d col := by
 obtain ⟨A, e1, e2, e3, e9⟩ := h; have hl : M.length = A.length := by have := e3.len; simpa using this
 have := e3.swap a b (by simpa using ha) (by simpa using hb) h1 h2; rw [<- qEa, <- qEa] at this
 ·exact ⟨qAu A a b (by omega) (by omega), by rw [qAb, e1], fun r => ⟨fun hr => (e2 r).1 (qBb r hr), fun hr => qEP r ((e2 r).2 hr)⟩, this, by rw [qEa]; exact e9.trans (Ind.swap_iff _ _)⟩
 all_goals omega
def qCR (M : List (List Int)) (place col : Nat) (d : Int) : List (List Int) :=
 M.mapIdx (fun i r => if i = place then r else qDr (ent M place col) (vec r col) d r (M[place]?.getD []))
theorem qBq {place : Nat} : (qCR M place col d).length = M.length := by simp [qCR]
theorem qB3 {place i : Nat} (hi : i < M.length) (hp : place < M.length) : (qCR M place col d)[i]'(by rw [qBq]; exact hi) = if i = place then M[i] else qDr (ent M place col) (vec M[i] col) d M[i] M[place] := by
 simp [qCR, hp]
theorem qIC {h f d : Int} {zs ps : List Int} (hl : zs.length = ps.length) (j : Nat) : vec (qDr h f d zs ps) j = (h * vec zs j - f * vec ps j) / d := by
 rcases Nat.lt_or_ge j zs.length with hj | hj
 ·rw [qAk (by simp [qDr]; omega), qCT _ hj (by omega), qAk hj, qAk (by omega)]
 ·rw [qAr (by simp [qDr]; omega), qAr hj, qAr (by omega)]; simp
theorem qA1.step {n : Nat} (h : qA1 M0 M ps d col) (hn : ∀ r ∈ M, r.length = n) (hk : ps.length < M.length) (hc : ent M ps.length col ≠ 0) : qA1 M0 (qCR M ps.length col d) (ps ++ [col]) (ent M ps.length col) (col + 1) := by
 obtain ⟨A, e1, e2, e3, e9⟩ := h; have hk' : ps.length < (M.map vec).length := by simpa using hk
 have he : ent M ps.length col = (M.map vec)[ps.length] col := by simp [ent, hk]
 rw [he] at hc; have := e3.step hk' hc ((qCR M ps.length col d).map vec) (by simp [qBq]) (fun h' j => by
  rw [List.getElem_map, List.getElem_map, qB3 hk hk, if_pos rfl]) (fun i hi hi' hne j => by
  rw [List.length_map] at hi; rw [List.getElem_map, qB3 hi hk, if_neg hne, qIC (by rw [hn _ (List.getElem_mem _), hn _ (List.getElem_mem _)]), <- he]; simp [ent, hk])
 rw [<- he] at this
 -- the steps of rows
 have hs : ∀ i (hi : i < M.length) j, i ≠ ps.length -> d * vec ((qCR M ps.length col d)[i]'(by rw [qBq]; exact hi)) j = ent M ps.length col * vec M[i] j - vec M[i] col * vec M[ps.length] j := fun i hi j hne => by
  obtain ⟨Y, -, y2, -⟩ := e3.exact hk' hc i (by simpa using hi) hne; have h1 := y2 j; rw [<- he] at h1; simp only [List.getElem_map] at h1; rw [qB3 hi hk, if_neg hne, qIC (by rw [hn _ (List.getElem_mem _), hn _ (List.getElem_mem _)]), <- h1, Int.mul_ediv_cancel_left _ e3.d0]
 have hpp : (qCR M ps.length col d)[ps.length]'(by rw [qBq]; exact hk) = M[ps.length] := by rw [qB3 hk hk, if_pos rfl]
 refine ⟨A, e1, e2, this, e9.trans ⟨fun hI => ?_, fun hI => ?_⟩⟩
 ·refine hI.step (c := d) (α := fun i => if i = ps.length then d else ent M ps.length col) (β := fun i => if i = ps.length then 0 else -vec (M[i]?.getD []) col) (p := ps.length) (col := col) (by simp [qBq]) (by simpa using hk) (fun i hi hi' j => ?_) (fun i hi hip => by simp only [if_neg hip]; rw [he]; exact hc) (fun j => by simp only [List.getElem_map]; rw [hpp]) hc
  simp only [List.length_map] at hi; simp only [List.getElem_map]; by_cases hip : i = ps.length
  ·subst hip; rw [hpp, if_pos rfl, if_pos rfl]; omega
  ·rw [if_neg hip, if_neg hip, hs i hi j hip]
   simp only [List.getElem?_eq_getElem hi, Option.getD_some, Int.neg_mul]; omega
 ·refine hI.step (c := ent M ps.length col) (α := fun i => if i = ps.length then ent M ps.length col else d) (β := fun i => if i = ps.length then 0 else vec (M[i]?.getD []) col) (p := ps.length) (col := col) (by simp [qBq]) (by simp [qBq]; exact hk) (fun i hi hi' j => ?_) (fun i hi hip => by simp only [if_neg hip]; exact e3.d0) (fun j => by simp only [List.getElem_map]; rw [hpp]) (by simp only [List.getElem_map]; rw [hpp]; have h7 := hc; simpa using h7)
  simp only [List.length_map] at hi'; simp only [List.getElem_map]; by_cases hip : i = ps.length
  ·subst hip; rw [hpp, if_pos rfl, if_pos rfl]; omega
  ·rw [if_neg hip, if_neg hip, hpp, hs i hi' j hip]
   simp only [List.getElem?_eq_getElem hi', Option.getD_some]; omega
end
end Go.Proofs.Ytlmbebbdamgfpaa
