/- the reference's integers: Of. -/
import Derived.Test.YtlmbebbdamgfpaaQHLEchP
import Derived.Test.YtlmbebbdamgfpaaQHWKnuth
import Derived.Laws.OwnMore
import Derived.Deep.AppendLies
set_option linter.unusedVariables false
set_option linter.unusedSimpArgs false
set_option maxHeartbeats 4000000
set_option maxRecDepth 100000
namespace Go.Proofs.Ytlmbebbdamgfpaa

theorem qCC.wide {M0 M : List (List Int)} {n c c' top : Nat} (h : qCC M0 M n c top) (hc : c <= c') (he : c = c' \/ M.length <= top) : qCC M0 M n c' top := by
 rcases he with rfl | he
 ·exact h
 ·obtain ⟨ps, p1, p2, p3, p4⟩ := h.piv
  exact ⟨h.len, h.row, h.span, h.le, ⟨ps, p1, p2, fun p hp => by have := p3 p hp; omega, p4⟩, fun i hi ht => by omega⟩
theorem qJR {a b : List Int} {q : Int} {y z : Nat} (ha : ∀ x ∈ a, Sz y x) (hq : Sz (y + 1) q) (hb : ∀ x ∈ b, Sz z x) : ∀ x ∈ qCK a b q, Sz (y + (z + 2)) x := by
 intro x hx; obtain ⟨j, hj, rfl⟩ := List.mem_iff_getElem.1 hx; rw [qBr] at hj; rw [qFn j hj]; have h1 : Sz y (vec a j) := by rw [qAk hj]; exact ha _ (List.getElem_mem _)
 have h2 : Sz z (vec b j) := by
  rcases Nat.lt_or_ge j b.length with h | h
  ·rw [qAk h]; exact hb _ (List.getElem_mem _)
  ·rw [qAr h]; exact Sz.zero _
 exact ((h1.mono (by omega)).sub ((hq.mul h2).mono (show y + 1 + z <= y + z + 1 by omega))).mono (by omega)
def qDP (v : List Int) (c : Nat) : List Int := if vec v c < 0 then v.map (fun x => -x) else v
theorem qHA {v : List Int} {c : Nat} : (qDP v c).length = v.length := by unfold qDP; split <;> simp
theorem qE5 (v : List Int) (j : Nat) : vec (v.map (fun x => -x)) j = -vec v j := by
 unfold vec; rw [List.getElem?_map]; cases v[j]? <;> simp
theorem qIS {v : List Int} {c : Nat} : ∃ s : Int, (s = 1 \/ s = -1) /\ ∀ j, vec (qDP v c) j = s * vec v j := by
 unfold qDP
 split
 ·exact ⟨-1, .inr rfl, fun j => by rw [qE5]; omega⟩
 ·exact ⟨1, .inl rfl, fun j => by omega⟩
theorem qHz {v : List Int} {c : Nat} (h : qBN (vec v) c) : qBN (vec (qDP v c)) c /\ 0 < vec (qDP v c) c := by
 unfold qDP; have h2 := h.2
 split
 ·refine ⟨⟨fun j hj => by rw [qE5, h.1 j hj]; rfl, by rw [qE5]; omega⟩, by rw [qE5]; omega⟩
 ·exact ⟨h, by omega⟩
theorem qIR {v : List Int} {c y : Nat} (h : ∀ x ∈ v, Sz y x) : ∀ x ∈ qDP v c, Sz y x := by
 unfold qDP
 split
 ·intro x hx
  obtain ⟨z, hz, rfl⟩ := List.mem_map.1 hx; exact (h z hz).neg
 ·exact h
structure qIw (E : List (List Int)) (ps : List Nat) (n b i : Nat) (O : List (List Int)) : Prop where
 len : O.length = i
 row : ∀ r ∈ O, r.length = n
 piv : ∀ k (h : k < O.length) (h' : k < ps.length), qBN (vec O[k]) ps[k] /\ 0 < vec O[k] ps[k]
 red : ∀ k k' (h : k < k') (h' : k' < O.length) (h2 : k' < ps.length), 0 <= vec (O[k]'(by omega)) ps[k'] /\ vec (O[k]'(by omega)) ps[k'] < vec O[k'] ps[k']
 span : ∀ v, qAa (O.map vec) v ↔ qAa ((E.take i).map vec) v
 sz : ∀ r ∈ O, ∀ x ∈ r, Sz (b + i * (b + 2)) x
theorem qIw.start {E : List (List Int)} {ps : List Nat} {n b : Nat} : qIw E ps n b 0 [] :=
 ⟨rfl, fun r h => (by cases h), fun k h => (by simp at h), fun k k' h h' => (by simp at h'), fun v => by simp, fun r h => (by cases h)⟩
structure qHl (O : List (List Int)) (v : List Int) (c k : Nat) (O' : List (List Int)) : Prop where
 len : O'.length = O.length
 done : ∀ j (h : j < O.length) (h' : j < O'.length), j < k -> O'[j] = qCK O[j] v (vec O[j] c / vec v c)
 left : ∀ j (h : j < O.length) (h' : j < O'.length), k <= j -> O'[j] = O[j]
theorem qHl.start {O : List (List Int)} {v : List Int} {c : Nat} : qHl O v c 0 O := ⟨rfl, fun j h h' h2 => by omega, fun _ _ _ _ => rfl⟩
theorem qHl.step {O O' : List (List Int)} {v r : List Int} {c k : Nat} (h : qHl O v c k O') (hk : k < O.length) (hr : r = qCK O[k] v (vec O[k] c / vec v c)) : qHl O v c (k + 1) (O'.set k r) := by
 refine ⟨by rw [List.length_set]; exact h.len, fun j hj hj' hjk => ?_, fun j hj hj' hjk => ?_⟩
 ·rw [List.length_set] at hj'
  by_cases e : j = k
  ·subst e; rw [List.getElem_set_self, hr]
  ·rw [List.getElem_set_ne (Ne.symm e)]; exact h.done j hj hj' (by omega)
 ·rw [List.length_set] at hj'
  rw [List.getElem_set_ne (by omega)]; exact h.left j hj hj' (by omega)
theorem qHl.row {O O' : List (List Int)} {v : List Int} {c k n : Nat} (h : qHl O v c k O') (hr : ∀ r ∈ O, r.length = n) : ∀ r ∈ O', r.length = n := by
 intro r hr'; obtain ⟨j, hj, rfl⟩ := List.mem_iff_getElem.1 hr'; have hj2 : j < O.length := by rw [<- h.len]; exact hj
 rcases Nat.lt_or_ge j k with e | e
 ·rw [h.done j hj2 hj e, qBr]; exact hr _ (List.getElem_mem _)
 ·rw [h.left j hj2 hj e]; exact hr _ (List.getElem_mem _)
theorem qL7 {y : Nat} {x p : Int} (h : Sz y x) (hp : p ≠ 0) : Sz (y + 1) (x / p) := h.div hp
theorem qGP {k : Nat} {s : List Int} (h : ∀ x ∈ s, Sz k x) (i : Nat) : Sz k (vec s i) := by
 rcases Nat.lt_or_ge i s.length with hi | hi
 ·rw [qAk hi]; exact h _ (List.getElem_mem _)
 ·rw [qAr hi]; exact Sz.zero _
theorem qHl.sz {O O' : List (List Int)} {v : List Int} {c k y z : Nat} (h : qHl O v c k O') (hO : ∀ r ∈ O, ∀ x ∈ r, Sz y x) (hv : ∀ x ∈ v, Sz z x) (hp : vec v c ≠ 0) : ∀ r ∈ O', ∀ x ∈ r, Sz (y + (z + 2)) x := by
 intro r hr'; obtain ⟨j, hj, rfl⟩ := List.mem_iff_getElem.1 hr'; have hj2 : j < O.length := by rw [<- h.len]; exact hj
 have h1 := hO _ (List.getElem_mem hj2); rcases Nat.lt_or_ge j k with e | e
 ·rw [h.done j hj2 hj e]
  exact qJR h1 (qL7 (qGP h1 c) hp) hv
 ·rw [h.left j hj2 hj e]
  exact fun x hx => (h1 x hx).mono (by omega)
theorem qIw.step {E O O' : List (List Int)} {ps : List Nat} {n b i : Nat} (h : qIw E ps n b i O) (hs : ps.Pairwise (· < ·)) (hi : i < E.length) (hip : i < ps.length) (hE : E[i].length = n) (hp : qBN (vec E[i]) ps[i]) (hb : ∀ x ∈ E[i], Sz b x)
 (hd : qHl O (qDP E[i] ps[i]) ps[i] O.length O') : qIw E ps n b (i + 1) (O' ++ [qDP E[i] ps[i]]) := by
 obtain ⟨hp1, hp2⟩ := qHz hp; have hlen := h.len; have hl' : O'.length = i := by rw [hd.len, hlen]
 obtain ⟨s, hs1, hs2⟩ := qIS (v := E[i]) (c := ps[i]); generalize hv : qDP E[i] ps[i] = v at *; have hvn : v.length = n := by rw [<- hv, qHA, hE]
 have hvs : ∀ x ∈ v, Sz b x := by rw [<- hv]; exact qIR hb
 have hvec : ∀ k (hk : k < O.length) (hk' : k < O'.length) j, vec O'[k] j = vec O[k] j - (vec O[k] ps[i] / vec v ps[i]) * vec v j := fun k hk hk' j => by
  rw [hd.done k hk hk' hk, qE6 (by rw [hvn, h.row _ (List.getElem_mem _)])]
 have hlt : ∀ k (hk : k < i), ps[k]'(by omega) < ps[i] := fun k hk => List.pairwise_iff_getElem.1 hs k i (by omega) hip hk; have hkeep : ∀ k (hk : k < O.length) (hk' : k < O'.length) j, j < ps[i] -> vec O'[k] j = vec O[k] j := fun k hk hk' j hj => by
  rw [hvec k hk hk' j, hp1.1 j hj, Int.mul_zero, Int.sub_zero]
 refine ⟨by simp [hl'], fun r hr => ?_, fun k hk hk' => ?_, fun k k' h1 h2 h3 => ?_, fun u => ?_, fun r hr x hx => ?_⟩
 ·rcases List.mem_append.1 hr with h1 | h1
  ·exact hd.row h.row r h1
  ·rw [List.mem_singleton.1 h1]; exact hvn
 ·simp only [List.length_append, List.length_singleton, hl'] at hk
  rcases Nat.lt_or_ge k i with h1 | h1
  ·rw [List.getElem_append_left (by omega)]
   have hk1 : k < O.length := by omega
   obtain ⟨a1, a2⟩ := h.piv k hk1 hk'; have e := hkeep k hk1 (by omega); have h2 := hlt k h1; exact ⟨⟨fun j hj => by rw [e j (by omega)]; exact a1.1 j hj, by rw [e _ h2]; exact a1.2⟩, by rw [e _ h2]; exact a2⟩
  ·obtain rfl : k = i := by omega
   rw [List.getElem_append_right (by omega)]; simpa using ⟨hp1, hp2⟩
 ·simp only [List.length_append, List.length_singleton, hl'] at h2
  rcases Nat.lt_or_ge k' i with h4 | h4
  ·have h5 := h.red k k' h1 (by omega) h3
   have h6 := hlt k' h4; have e1 : (O' ++ [v])[k]'(by simp; omega) = O'[k]'(by omega) := List.getElem_append_left (by omega); have e2 : (O' ++ [v])[k']'(by simp; omega) = O'[k']'(by omega) := List.getElem_append_left (by omega); rw [e1, e2, hkeep k (by omega) (by omega) _ h6, hkeep k' (by omega) (by omega) _ h6]; exact h5
  ·obtain rfl : k' = i := by omega
   have e1 : (O' ++ [v])[k]'(by simp; omega) = O'[k]'(by omega) := List.getElem_append_left (by omega); have e2 : (O' ++ [v])[k']'(by simp; omega) = v := by rw [List.getElem_append_right (by omega)]; simp
   rw [e1, e2, hvec k (by omega) (by omega)]; have g1 := Int.emod_nonneg (vec (O[k]'(by omega)) ps[k']) (show vec v ps[k'] ≠ 0 by omega); have g2 := Int.emod_lt_of_pos (vec (O[k]'(by omega)) ps[k']) hp2; rw [Int.emod_def, Int.mul_comm] at g1 g2; exact ⟨g1, g2⟩
 ·rw [List.take_succ_eq_append_getElem hi, List.map_append, List.map_append]
  have hE1 : qAa (List.map vec [v]) (vec E[i]) := ((qAa.mem (show vec v ∈ List.map vec [v] by simp)).smul s).congr (fun j => by rw [hs2, <- Int.mul_assoc]; rcases hs1 with rfl | rfl <;> omega); have hE2 : qAa (List.map vec [E[i]]) (vec v) := ((qAa.mem (show vec E[i] ∈ List.map vec [E[i]] by simp)).smul s).congr (fun j => (hs2 j).symm); have up1 : ∀ {A B : List Vec} {u : Vec}, qAa A u -> qAa (A ++ B) u := fun h => h.trans (fun r hr => qAa.mem (by simp [hr])); have up2 : ∀ {A B : List Vec} {u : Vec}, qAa B u -> qAa (A ++ B) u := fun h => h.trans (fun r hr => qAa.mem (by simp [hr])); constructor
  ·intro hu
   refine hu.trans (fun r hr => ?_); rcases List.mem_append.1 hr with h1 | h1
   ·obtain ⟨a, ha, rfl⟩ := List.mem_map.1 h1
    obtain ⟨k, hk, rfl⟩ := List.mem_iff_getElem.1 ha; have hk1 : k < O.length := by omega
    refine ((up1 ((h.span _).1 (qAa.mem (List.mem_map.2 ⟨_, List.getElem_mem hk1, rfl⟩)))).sub ((up2 hE2).smul (vec O[k] ps[i] / vec v ps[i]))).congr (fun j => (hvec k hk1 hk j).symm)
   ·have : r = vec v := by simpa using h1
    rw [this]; exact up2 hE2
  ·intro hu
   refine hu.trans (fun r hr => ?_); rcases List.mem_append.1 hr with h1 | h1
   ·have h2 := (h.span r).2 (qAa.mem h1)
    refine h2.trans (fun r' hr' => ?_); obtain ⟨a, ha, rfl⟩ := List.mem_map.1 hr'; obtain ⟨k, hk, rfl⟩ := List.mem_iff_getElem.1 ha; have hk1 : k < O'.length := by omega
    refine ((up1 (qAa.mem (List.mem_map.2 ⟨_, List.getElem_mem hk1, rfl⟩))).add ((up2 (qAa.mem (show vec v ∈ List.map vec [v] by simp))).smul (vec O[k] ps[i] / vec v ps[i]))).congr (fun j => ?_); rw [hvec k hk hk1 j]; omega
   ·have : r = vec E[i] := by simpa using h1
    rw [this]; exact up2 hE1
 ·have e : b + (i + 1) * (b + 2) = b + i * (b + 2) + (b + 2) := by rw [Nat.add_mul]; omega
  rw [e]; rcases List.mem_append.1 hr with h1 | h1
  ·exact hd.sz h.sz hvs (by omega) r h1 x hx
  ·rw [List.mem_singleton.1 h1] at hx
   exact (hvs x hx).mono (by rw [Nat.add_assoc]; exact Nat.le_add_right _ _)
theorem qIw.nrm {E O : List (List Int)} {ps : List Nat} {n b i : Nat} (h : qIw E ps n b i O) (hs : ps.Pairwise (· < ·)) (hi : i = ps.length) (hc : ∀ p ∈ ps, p < n) : IsN O n := by
 have hlen := h.len; have hpv : ∀ k (hk : k < O.length), pv O[k] = ps[k]'(by omega) := fun k hk => by
  have h1 := h.piv k hk (by omega); exact qLK (fun c hc => h1.1.1 c hc) (by rw [h.row _ (List.getElem_mem _)]; exact hc _ (List.getElem_mem _)) h1.1.2
 intro k hk hk'; have h1 := h.piv k hk (by omega); rw [hpv k hk]; refine ⟨h.row _ (List.getElem_mem _), hc _ (List.getElem_mem _), by omega, fun j hj => ?_, fun j hj => h.red j k hj hk (by omega)⟩; rw [hpv j (by omega)]; exact List.pairwise_iff_getElem.1 hs j k (by omega) (by omega) hj
theorem qCC.nor {M0 E O : List (List Int)} {ps : List Nat} {n b top : Nat} (h : qCC M0 E n n top) (hO : qIw E ps n b top O) (p1 : ps.length = top) (p2 : ps.Pairwise (· < ·)) (p3 : ∀ p ∈ ps, p < n) : qAw (M0.map vec) 0 (O.map vec) := by
 refine ⟨(hO.nrm p2 p1.symm p3).nrm, fun v => ?_⟩; have e : qAa (O.map vec) v ↔ qAa (M0.map vec) v := by
  rw [hO.span, <- h.span]; constructor
  ·intro hv
   refine hv.trans (fun r hr => qAa.mem ?_); obtain ⟨a, ha, rfl⟩ := List.mem_map.1 hr; exact List.mem_map.2 ⟨a, List.mem_of_mem_take ha, rfl⟩
  ·intro hv
   refine hv.trans (fun r hr => ?_); obtain ⟨a, ha, rfl⟩ := List.mem_map.1 hr; obtain ⟨k, hk, rfl⟩ := List.mem_iff_getElem.1 ha; rcases Nat.lt_or_ge k top with h1 | h1
   ·refine qAa.mem (List.mem_map.2 ⟨E[k], ?_, rfl⟩)
    rw [List.mem_iff_getElem]; exact ⟨k, by simp; omega, by rw [List.getElem_take]⟩
   ·refine qAa.zero.congr (fun j => ?_)
    rcases Nat.lt_or_ge j n with h2 | h2
    ·exact (h.low k hk h1 j h2).symm
    ·rw [qAr (by rw [h.row _ (List.getElem_mem _)]; exact h2)]
 rw [e]; constructor
 ·intro hv
  exact ⟨v, hv, fun j hj => by omega, fun j => by rw [Nat.zero_add]⟩
 ·rintro ⟨u, h1, -, h3⟩
  exact h1.congr (fun j => by rw [h3, Nat.zero_add])
theorem qCC.strip_ {M0 E : List (List Int)} {n c top : Nat} (h : qCC M0 E n c top) {u : Vec} (hu : qAa (E.map vec) u) (h0 : ∀ j, j < c -> u j = 0) : ∀ k, k <= top -> qAa ((E.drop k).map vec) u
 | 0, _ => by simpa using hu
 | k + 1, hk => by
  obtain ⟨ps, p1, p2, p3, p4⟩ := h.piv; have hkE : k < E.length := by have := h.le; omega
  have ih := h.strip_ hu h0 k (by omega); rw [List.drop_eq_getElem_cons hkE, List.map_cons] at ih; obtain ⟨x, w, hw, he⟩ := qBW ih; have hkp : k < ps.length := by omega
  have hc := p3 _ (List.getElem_mem hkp); have hwz : w ps[k] = 0 := by
   refine hw.lin (P := fun v => v ps[k] = 0) rfl (fun x u w hu hw => by show x * u ps[k] + w ps[k] = 0; rw [hu, hw]; simp) (fun u w he hu => by rw [<- he]; exact hu) (fun r hr => ?_); obtain ⟨a, ha, rfl⟩ := List.mem_map.1 hr; obtain ⟨i, hi, rfl⟩ := List.mem_iff_getElem.1 ha; rw [List.getElem_drop]; rw [List.length_drop] at hi; rcases Nat.lt_or_ge (k + 1 + i) ps.length with h1 | h1
   ·exact (p4 (k + 1 + i) (by omega) h1).1 _ (List.pairwise_iff_getElem.1 p2 k (k + 1 + i) hkp h1 (by omega))
   ·exact h.low (k + 1 + i) (by omega) (by omega) _ hc
  have h2 := he ps[k]; rw [h0 _ hc, hwz] at h2; have h3 := (p4 k hkE hkp).2; obtain rfl := (Int.mul_eq_zero.1 (show x * vec E[k] ps[k] = 0 by omega)).resolve_right h3; exact hw.congr (fun j => by rw [he]; simp)
theorem qJy (l : List Int) (c j : Nat) : vec (l.drop c) j = vec l (c + j) := by
 unfold vec; rw [List.getElem?_drop]
theorem qCC.ker {M0 E : List (List Int)} {n c top : Nat} {H : List Vec} (h : qCC M0 E n c top) (hH : qAw (((E.drop top).map (List.drop c)).map vec) 0 H) : qAw (M0.map vec) c H := by
 have hsh : ((E.drop top).map (List.drop c)).map vec = ((E.drop top).map vec).map (sh c) := by
  rw [List.map_map, List.map_map]; refine List.map_congr_left (fun r _ => funext (fun j => ?_)); exact qJy r c j
 refine ⟨hH.nrm, fun v => ?_⟩; have e : qAa H v ↔ qAa (((E.drop top).map vec).map (sh c)) v := by
  rw [hH.span, hsh]; constructor
  ·rintro ⟨u, h1, -, h3⟩
   exact h1.congr (fun j => by rw [h3, Nat.zero_add])
  ·intro h1
   exact ⟨v, h1, fun j hj => by omega, fun j => by rw [Nat.zero_add]⟩
 rw [e, qIJ]; constructor
 ·rintro ⟨u, h1, h2⟩
  have h3 : qAa (E.map vec) u := h1.trans (fun r hr => qAa.mem (by
   obtain ⟨a, ha, rfl⟩ := List.mem_map.1 hr; exact List.mem_map.2 ⟨a, List.mem_of_mem_drop ha, rfl⟩))
  refine ⟨u, (h.span u).1 h3, fun j hj => ?_, h2⟩; refine h1.lin (P := fun v => v j = 0) rfl (fun x u w hu hw => by show x * u j + w j = 0; rw [hu, hw]; simp) (fun u w he hu => by rw [<- he]; exact hu) (fun r hr => ?_); obtain ⟨a, ha, rfl⟩ := List.mem_map.1 hr; obtain ⟨i, hi, rfl⟩ := List.mem_iff_getElem.1 ha; rw [List.getElem_drop]; rw [List.length_drop] at hi; exact h.low _ (by omega) (by omega) j hj
 ·rintro ⟨u, h1, h2, h3⟩
  exact ⟨u, h.strip_ ((h.span u).2 h1) h2 top (Nat.le_refl _), h3⟩
open Go.RowKit
abbrev T4 : Nat := 10000
theorem qAn : 2 <= T4 := by decide
def qBG (w : World) (v : Value) (n : Nat) : Prop := qAd .i64 w v (qAe T4 n)
def qAL (w : World) (v : Value) (z : Int) : Prop := ∃ vd, v = .agg #[.bool (decide (z < 0)), vd] /\ qBG w vd z.natAbs
theorem qAL.below {w w' : World} {v : Value} {z : Int} {B : Nat} (h : qAL w v z) (hB : w.heap.size <= B) (hb : Below B w w') : qAL w' v z := by
 obtain ⟨vw, hv, hm⟩ := h; exact ⟨vw, hv, qAd.below hm hB hb⟩
theorem qAL.form {w : World} {v : Value} {z : Int} (h : qAL w v z) : ∃ a n c, v = .agg #[.bool (decide (z < 0)), .slice a n c] /\ qBG w (.slice a n c) z.natAbs /\ n = (qAe T4 z.natAbs).length /\ n <= c /\ c <= 9223372036854775807 := by
 obtain ⟨vd, hv, hm⟩ := h; obtain ⟨a, c, rfl, h1, h2, h3⟩ := hm; exact ⟨a, _, c, hv, ⟨a, c, rfl, h1, h2, h3⟩, rfl, h1, h2⟩
def qJp (neg : Bool) (v : Value) (L : List Nat) (w : World) (e : Ending) (w' : World) : Prop :=
 (∃ a cap b n, v = .slice a L.length cap /\ e = .returned (.agg #[.bool b, .slice a n cap]) /\ qAL w' (.agg #[.bool b, .slice a n cap]) (sgn neg (val T4 L))) /\ Below w.heap.size w w'
theorem qF3 (neg : Bool) (v : Value) (L : List Nat) (w : World) (h : qAd .i64 w v L) (hlow : Low T4 L) (hlen : L.length <= 4611686018427387904) :
 Calls Try.prog 59 #[.bool neg, v] w (qJp neg v L w) := by
 have Htake := hZ (fun n hn => h.take n hn); obtain ⟨a, cap, rfl, h1, h2, hc⟩ := h; have Hc := hZ hc; have Hlow := hZ hlow; clear hc hlow; obtain ⟨N, hN⟩ := eX L.length; have HN := hZ hN; rw [hN] at h1 hlen ⊢; clear hN
 go_enter Try.func59, Try.ntmps59
 go_wp2
 have HB0 := hZ ((Below.refl w.heap.size w).alloc (Nat.le_refl _) (.cells #[.bool false, .slice none 0 0] 61)); have HT0 := hZ (Two.new w 61 (.bool false) (.slice none 0 0)); generalize hw0 : w.alloc (.cells #[.bool false, .slice none 0 0] 61) = w0 at *; have f0 := HT0.o.cell0; have f1 := HT0.o.cell1; have f2 := HT0.o.frozen 0; have f3 := HT0.o.frozen 1; clear hw0
 go_loop [1] (fun i => ∃ n : Nat, n <= N /\ i = .slice a n cap /\ Hid (∀ j (h : j < L.length), n <= j -> L[j] = 0)) (fun i => qMC i)
 case atStart => exact ⟨N, Nat.le_refl _, rfl, hZ (fun j hj hn => by rw [HN.o] at hj; omega)⟩
 case round =>
  obtain ⟨n, hn, rfl, hz⟩ := hrel; have hdone : ∀ n : Nat, n <= N -> (∀ j (h : j < L.length), n <= j -> L[j] = 0) -> (∀ h : n - 1 < L.length, n = 0 \/ L[n - 1] ≠ 0) -> ∀ b : Bool, b = (neg && decide (0 < n)) -> ∀ u u' : Value, qAL ((w0.setCell ⟨w.heap.size, 0, none⟩ u).setCell ⟨w.heap.size, 1, none⟩ u') (.agg #[.bool b, .slice a n cap]) (sgn neg (val T4 L)) := by
   intro n hn hz hl b hb u u'; obtain ⟨a', cap', hv, _, _, hr⟩ := Htake.o n (by rw [HN.o]; exact hn); rw [HN.o] at hv; injection hv with e1 e2 e3; subst e1 e3; rw [qD8 T4 qAn L Hlow.o n (by rw [HN.o]; exact hn) hz hl] at hr; have hnl : n = (qAe T4 (val T4 L)).length := by obtain ⟨_, _, hv, _⟩ := hr; injection hv
   refine ⟨.slice a n cap, ?_, ?_⟩
   ·rw [qIL, hb, hnl]
    have e9 : decide (0 < (qAe T4 (val T4 L)).length) = decide (0 < val T4 L) := by
     congr 1
     rw [eq_iff_iff, List.length_pos_iff, ne_eq, qBM T4 _ qAn]; omega
    rw [e9]
   ·rw [qAG]
    exact qAd.set_two (qAd.below hr (Nat.le_refl _) HB0.o) HT0.o u u'
  have Hd := hZ hdone; clear hdone; by_cases h0 : n = 0
  ·subst h0
   cases neg with
   | false =>
    go_wp2
    refine bodyPost_ret (v := .agg #[.bool false, .slice a 0 cap]) (by simp [results, Try.results59, go_sem, f0, f1]) rfl ⟨⟨_, _, _, _, HN.o ▸ rfl, rfl, Hd.o 0 hn hz.o (fun _ => .inl rfl) _ (by simp) _ _⟩, (HB0.o.setCell (p := ⟨w.heap.size, 0, none⟩) (Nat.le_refl _) _).setCell (p := ⟨w.heap.size, 1, none⟩) (Nat.le_refl _) _⟩
   | true =>
    go_wp2
    refine bodyPost_ret (v := .agg #[.bool false, .slice a 0 cap]) (by simp [results, Try.results59, go_sem, f0, f1]) rfl ⟨⟨_, _, _, _, HN.o ▸ rfl, rfl, Hd.o 0 hn hz.o (fun _ => .inl rfl) _ (by simp) _ _⟩, (HB0.o.setCell (p := ⟨w.heap.size, 0, none⟩) (Nat.le_refl _) _).setCell (p := ⟨w.heap.size, 1, none⟩) (Nat.le_refl _) _⟩
  ·have hlt : n - 1 < L.length := by rw [HN.o]; omega
   obtain ⟨b, off, rfl, hb, hcc⟩ := Hc.o (by rw [HN.o]; omega); have hcell := (HB0.o.cell (p := ⟨b, off + (n - 1), none⟩) hb).trans (hcc (n - 1) hlt); clear hcc; have hi : (off : Int) + ((n : Int) - 1) = ((off + (n - 1) : Nat) : Int) := by omega
   by_cases hzz : L[n - 1] = 0
   ·have hz2 : Hid (∀ j (h : j < L.length), n - 1 <= j -> L[j] = 0) := hZ (fun j hj hnj => by
     by_cases e : j = n - 1
     ·subst e; exact hzz
     ·exact hz.o j hj (by omega))
    rw [hzz] at hcell; clear hzz
    go_wp2
    go_round
    case rel => exact ⟨n - 1, by omega, by first | rfl | (congr 1; omega), hz2⟩
    case measure => simp [qMC]; omega
   ·have hne : (((L[n - 1] : Nat) : Int) == 0) = false := by simp; exact hzz
    have hnp : 0 < n := by omega
    cases neg with
    | false =>
     go_wp2
     refine bodyPost_ret (v := .agg #[.bool false, .slice (some ⟨b, off, none⟩) n cap]) (by simp [results, Try.results59, go_sem, f0, f1]) rfl ⟨⟨_, _, _, _, HN.o ▸ rfl, rfl, Hd.o n hn hz.o (fun _ => .inr hzz) _ (by simp [hnp]) _ _⟩, (HB0.o.setCell (p := ⟨w.heap.size, 0, none⟩) (Nat.le_refl _) _).setCell (p := ⟨w.heap.size, 1, none⟩) (Nat.le_refl _) _⟩
    | true =>
     go_wp2
     refine bodyPost_ret (v := .agg #[.bool true, .slice (some ⟨b, off, none⟩) n cap]) (by simp [results, Try.results59, go_sem, f0, f1]) rfl ⟨⟨_, _, _, _, HN.o ▸ rfl, rfl, Hd.o n hn hz.o (fun _ => .inr hzz) _ (by simp [hnp]) _ _⟩, (HB0.o.setCell (p := ⟨w.heap.size, 0, none⟩) (Nat.le_refl _) _).setCell (p := ⟨w.heap.size, 1, none⟩) (Nat.le_refl _) _⟩
theorem qAJ (neg : Bool) (v : Value) (L : List Nat) (w : World) (h : qAd .i64 w v L) (hlow : Low T4 L) (hlen : L.length <= 4611686018427387904) :
 Calls Try.prog 59 #[.bool neg, v] w fun e w' => (∃ vr, e = .returned vr /\ qAL w' vr (sgn neg (val T4 L))) /\ Below w.heap.size w w' :=
 (qF3 neg v L w h hlow hlen).mono (by rintro e w' ⟨⟨a, cap, b, n, hv, rfl, h1⟩, hB⟩; exact ⟨⟨_, rfl, h1⟩, hB⟩)
open Go.RowKit
theorem qDF : (Try.prog.info? 3).map (fun i => (i.zero, i.size, i.bytes)) = some (some (.int .i64 0), 1, 8) := by kernel_rfl
theorem qC7 (m : Nat) (h : m < 18446744073709551616) : (qAe T4 m).length <= 5 := qAO T4 qAn 5 m (Nat.lt_trans h (by decide))
theorem qAd.of_owns {k : IntKind} {w : World} {B : Nat} {e : TypeId} {ga : Option Addr} {n gc : Nat} {L : List Nat} (h : w.ownsRow B e 1 (.slice ga n gc) n (L.map (iv k))) (hn : n = L.length) : qAd k w (.slice ga n gc) L := by
 rcases id h.2 with ⟨hv, _⟩ | ⟨g, cap, cur, hv, _, hg, h1, h2, _, _⟩
 ·injection hv with e1 e2 e3
  subst e1 e2 e3; exact ⟨none, 0, by rw [<- hn], by omega, by omega, fun h0 => by omega⟩
 ·injection hv with e1 e2 e3
  subst e1 e3; subst hn; unfold maxLen at h2; refine ⟨_, gc, rfl, h1, by omega, fun h0 => ⟨g, 0, rfl, (Array.getElem?_eq_some_iff.1 hg).1, fun j hj => ?_⟩⟩; rw [Nat.zero_add, h.cellAt j (by omega), List.getElem?_map, List.getElem?_eq_getElem hj]; rfl
theorem qAL.set_two {w : World} {v : Value} {z : Int} {b : Nat} {t : TypeId} {x : Bool} {p : Option Addr} {l c : Nat} (h : qAL w v z) (hT : Two w b t (.bool x) (.slice p l c)) (u u' : Value) :
 qAL ((w.setCell ⟨b, 0, none⟩ u).setCell ⟨b, 1, none⟩ u') v z := by
 obtain ⟨vw, hv, hm⟩ := h; exact ⟨vw, hv, qAd.set_two hm hT u u'⟩
theorem qLN (m : Nat) (w : World) (h : m <= 9223372036854775807) :
 Calls Try.prog 40 #[.int .i64 (m : Int)] w fun e w' => (∃ vr, e = .returned vr /\ qAL w' vr (m : Int)) /\ Below w.heap.size w w' := by
 obtain ⟨i0, hi, hz0, hz1, hz2⟩ := info_parts qDF; have Hi := hZ hi; have Hz0 := hZ hz0; have Hz1 := hZ hz1; have Hz2 := hZ hz2; clear hi hz0 hz1 hz2; have hm0 : ¬ ((m : Int) < 0) := by omega
 have HL5 := hZ (qC7 m (by omega))
 go_enter Try.func40, Try.ntmps40
 go_wp2
 have HB0 := hZ ((Below.refl w.heap.size w).alloc (Nat.le_refl _) (.cells #[.bool false, .slice none 0 0] 61)); have HT0 := hZ (Two.new w 61 (.bool false) (.slice none 0 0)); have hs0 : w.heap.size < (w.alloc (.cells #[.bool false, .slice none 0 0] 61)).heap.size := by simp
 generalize hw0 : w.alloc (.cells #[.bool false, .slice none 0 0] 61) = w0 at *; clear hw0
 go_loopw [0, 3] (fun nv dv wr => ∃ (acc : List Nat) (r : Nat) (ga : Option Addr) (gc : Nat), nv = .int .i64 (r : Int) /\ dv = .slice ga acc.length gc /\ Hid (acc ++ qAe T4 r = qAe T4 m) /\ r <= m /\ Hid (wr.ownsRow w0.heap.size 3 1 (.slice ga acc.length gc) acc.length (acc.map (iv .i64))) /\ Hid (Below w0.heap.size w0 wr)) (fun nv _ _ => qIz nv)
 case atStart => exact ⟨[], m, none, 0, rfl, rfl, hZ rfl, Nat.le_refl _, hZ (World.ownsRow_nil _ _ _ _), hZ (Below.refl _ _)⟩
 case round =>
  obtain ⟨acc, r, ga, gc, rfl, rfl, hacc, hrm, hown, hB⟩ := hrel; have hzr := hB.o.size; have hal : acc.length <= 5 := by
   have h3 := congrArg List.length hacc.o; rw [List.length_append] at h3; have := HL5.o; omega
  have hgc : gc <= 9223372036854775807 := by
   rcases hown.o.2 with ⟨hv, _⟩ | ⟨_, _, _, hv, _, _, _, h3, _⟩
   ·injection hv with _ _ e; omega
   ·injection hv with _ _ e; unfold maxLen at h3; omega
  by_cases hr0 : r = 0
  ·subst hr0
   have hA : acc = qAe T4 m := by have h3 := hacc.o; rwa [qBf, List.append_nil] at h3
   have Hno := hZ (qAJ false _ acc _ (qAd.of_owns hown.o rfl) (by rw [hA]; exact qAl T4 qAn m) (by omega)); have HA := hZ hA; clear hA
   go_wp2_with fail
   refine Hno.o.mono ?_; rintro e w5 ⟨⟨vr, rfl, hr⟩, hB5⟩; rw [HA.o, qAi T4 qAn] at hr; have Hr := hZ hr; obtain ⟨a5, n5, c5, rfl, -, -, -⟩ := hr.form; have HT5 := hZ ((HT0.o.below hB.o (by omega)).below hB5 (by omega)); have f0 := HT5.o.cell0; have f1 := HT5.o.cell1; have f2 := HT5.o.frozen 0; have f3 := HT5.o.frozen 1; have HB5 := hZ (HB0.o.trans ((hB.o.trans (hB5.mono hzr)).mono (by omega))); clear hr hB5 Hno
   go_wp2
   refine bodyPost_ret (v := .agg #[.bool (decide (sgn false m < 0)), .slice a5 n5 c5]) (by simp [results, Try.results40, go_sem, f0, f1]) rfl ⟨⟨_, rfl, ?_⟩, (HB5.o.setCell (p := ⟨w.heap.size, 0, none⟩) (Nat.le_refl _) _).setCell (p := ⟨w.heap.size, 1, none⟩) (Nat.le_refl _) _⟩; exact Hr.o.set_two HT5.o _ _
  ·have hstep := qBs T4 r qAn hr0
   have hal2 : acc.length <= 4 := by
    have h3 := congrArg List.length hacc.o; rw [List.length_append, hstep, List.length_cons] at h3; have := HL5.o; omega
   have Hst := hZ hstep; obtain ⟨k, hk⟩ := eX (r % T4); obtain ⟨q, hq⟩ := eX (r / T4); have hk' : r % 10000 = k := hk; have hq' : r / 10000 = q := hq; have hkI : (r : Int) % 10000 = (k : Int) := by omega
   have hqI : (r : Int) / 10000 = (q : Int) := by omega
   have hk4 : k < 10000 := by omega
   have hqr : q < r := by omega
   rw [hk, hq] at Hst; have Hgown := hZ hown.o.lt; clear hstep hk hq hk' hq'
   go_wp2_with (at_builtin; refine wpList_append_own _ rfl _ _ 22 rfl w0.heap.size 3 i0 _ 1 8 Try.underlying22 Hi.o Hz0.o Hz1.o Hz2.o rfl (by decide) _ _ _ rfl (hown.o.alloc _) ⟨wr.heap.size, 0, none⟩ 1 1 [iv .i64 k] rfl rfl (cell_one_new _ _ _) (by simp [Value.oneCell', iv]) (by unfold maxLen; omega) (by omega) (by simp; omega) ?_)
   intro v5 w5 hown5 hgrow _; obtain ⟨g5, cap5, hv5, _⟩ := hown5.form (by omega); subst hv5; have Hown5 : Hid (w5.ownsRow w0.heap.size 3 1 (.slice (some ⟨g5, 0, none⟩) (acc ++ [k]).length cap5) (acc ++ [k]).length ((acc ++ [k]).map (iv .i64))) := hZ (by rw [List.length_append, List.map_append]; exact hown5); have HB5 := hZ ((hB.o.alloc (by omega) (.cells #[.int .i64 (k : Int)] 3)).grown hgrow (by simp; omega) (fun k e => (hown.o.lt k e).1)); clear hown5 hgrow
   go_wp2
   go_roundw
   case rel => exact ⟨acc ++ [k], q, some ⟨g5, 0, none⟩, cap5, rfl, by simp, hZ (by rw [List.append_assoc]; show acc ++ (k :: qAe T4 q) = _; rw [<- hacc.o, Hst.o]), by omega, Hown5, HB5⟩
   case measure => simp [qIz]; omega
def qMy : Value -> Nat
 | .int _ i => i.natAbs
 | _ => 0
theorem qLO (m : Nat) (w : World) (h0 : 0 < m) (h : m <= 9223372036854775808) :
 Calls Try.prog 40 #[.int .i64 (-(m : Int))] w fun e w' => (∃ vr, e = .returned vr /\ qAL w' vr (-(m : Int))) /\ Below w.heap.size w w' := by
 obtain ⟨i0, hi, hz0, hz1, hz2⟩ := info_parts qDF; have Hi := hZ hi; have Hz0 := hZ hz0; have Hz1 := hZ hz1; have Hz2 := hZ hz2; clear hi hz0 hz1 hz2; have hm0 : -(m : Int) < 0 := by omega
 have HL5 := hZ (qC7 m (by omega))
 go_enter Try.func40, Try.ntmps40
 go_wp2
 have HB0 := hZ ((Below.refl w.heap.size w).alloc (Nat.le_refl _) (.cells #[.bool false, .slice none 0 0] 61)); have HT0 := hZ (Two.new w 61 (.bool false) (.slice none 0 0)); have hs0 : w.heap.size < (w.alloc (.cells #[.bool false, .slice none 0 0] 61)).heap.size := by simp
 generalize hw0 : w.alloc (.cells #[.bool false, .slice none 0 0] 61) = w0 at *; clear hw0
 go_loopw [0, 3] (fun nv dv wr => ∃ (acc : List Nat) (r : Nat) (ga : Option Addr) (gc : Nat), nv = .int .i64 (-(r : Int)) /\ dv = .slice ga acc.length gc /\ Hid (acc ++ qAe T4 r = qAe T4 m) /\ r <= m /\ Hid (wr.ownsRow w0.heap.size 3 1 (.slice ga acc.length gc) acc.length (acc.map (iv .i64))) /\ Hid (Below w0.heap.size w0 wr)) (fun nv _ _ => qMy nv)
 case atStart => exact ⟨[], m, none, 0, rfl, rfl, hZ rfl, Nat.le_refl _, hZ (World.ownsRow_nil _ _ _ _), hZ (Below.refl _ _)⟩
 case round =>
  obtain ⟨acc, r, ga, gc, rfl, rfl, hacc, hrm, hown, hB⟩ := hrel; have hzr := hB.o.size; have hal : acc.length <= 5 := by
   have h3 := congrArg List.length hacc.o; rw [List.length_append] at h3; have := HL5.o; omega
  have hgc : gc <= 9223372036854775807 := by
   rcases hown.o.2 with ⟨hv, _⟩ | ⟨_, _, _, hv, _, _, _, h3, _⟩
   ·injection hv with _ _ e; omega
   ·injection hv with _ _ e; unfold maxLen at h3; omega
  by_cases hr0 : r = 0
  ·subst hr0
   have hA : acc = qAe T4 m := by have h3 := hacc.o; rwa [qBf, List.append_nil] at h3
   have Hno := hZ (qAJ true _ acc _ (qAd.of_owns hown.o rfl) (by rw [hA]; exact qAl T4 qAn m) (by omega)); have HA := hZ hA; clear hA
   go_wp2_with fail
   refine Hno.o.mono ?_; rintro e w5 ⟨⟨vr, rfl, hr⟩, hB5⟩; rw [HA.o, qAi T4 qAn] at hr; have Hr := hZ hr; obtain ⟨a5, n5, c5, rfl, -, -, -⟩ := hr.form; have HT5 := hZ ((HT0.o.below hB.o (by omega)).below hB5 (by omega)); have f0 := HT5.o.cell0; have f1 := HT5.o.cell1; have f2 := HT5.o.frozen 0; have f3 := HT5.o.frozen 1; have HB5 := hZ (HB0.o.trans ((hB.o.trans (hB5.mono hzr)).mono (by omega))); clear hr hB5 Hno
   go_wp2
   refine bodyPost_ret (v := .agg #[.bool (decide (sgn true m < 0)), .slice a5 n5 c5]) (by simp [results, Try.results40, go_sem, f0, f1]) rfl ⟨⟨_, rfl, ?_⟩, (HB5.o.setCell (p := ⟨w.heap.size, 0, none⟩) (Nat.le_refl _) _).setCell (p := ⟨w.heap.size, 1, none⟩) (Nat.le_refl _) _⟩; exact Hr.o.set_two HT5.o _ _
  ·have hstep := qBs T4 r qAn hr0
   have hal2 : acc.length <= 4 := by
    have h3 := congrArg List.length hacc.o; rw [List.length_append, hstep, List.length_cons] at h3; have := HL5.o; omega
   have Hst := hZ hstep; obtain ⟨k, hk⟩ := eX (r % T4); obtain ⟨q, hq⟩ := eX (r / T4); have hk' : r % 10000 = k := hk; have hq' : r / 10000 = q := hq; have hkI : (-(r : Int)).tmod 10000 = -(k : Int) := by rw [Int.neg_tmod, <- hk']; rfl
   have hqI : (-(r : Int)).tdiv 10000 = -(q : Int) := by rw [Int.neg_tdiv, <- hq']; rfl
   have hk4 : k < 10000 := by omega
   have hqr : q < r := by omega
   rw [hk, hq] at Hst; have Hgown := hZ hown.o.lt; clear hstep hk hq hk' hq'; rcases Nat.eq_zero_or_pos k with hk0 | hk0
   ·subst hk0
    rw [show -((0 : Nat) : Int) = 0 from rfl] at hkI
    go_wp2_with (at_builtin; refine wpList_append_own _ rfl _ _ 22 rfl w0.heap.size 3 i0 _ 1 8 Try.underlying22 Hi.o Hz0.o Hz1.o Hz2.o rfl (by decide) _ _ _ rfl (hown.o.alloc _) ⟨wr.heap.size, 0, none⟩ 1 1 [iv .i64 0] rfl rfl (cell_one_new _ _ _) (by simp [Value.oneCell', iv]) (by unfold maxLen; omega) (by omega) (by simp; omega) ?_)
    intro v5 w5 hown5 hgrow _; obtain ⟨g5, cap5, hv5, _⟩ := hown5.form (by omega); subst hv5; have Hown5 : Hid (w5.ownsRow w0.heap.size 3 1 (.slice (some ⟨g5, 0, none⟩) (acc ++ [0]).length cap5) (acc ++ [0]).length ((acc ++ [0]).map (iv .i64))) := hZ (by rw [List.length_append, List.map_append]; exact hown5); have HB5 := hZ ((hB.o.alloc (by omega) (.cells #[.int .i64 0] 3)).grown hgrow (by simp; omega) (fun k e => (hown.o.lt k e).1)); clear hown5 hgrow
    go_wp2
    go_roundw
    case rel => exact ⟨acc ++ [0], q, some ⟨g5, 0, none⟩, cap5, rfl, by simp, hZ (by rw [List.append_assoc]; show acc ++ (0 :: qAe T4 q) = _; rw [<- hacc.o, Hst.o]), by omega, Hown5, HB5⟩
    case measure => simp [qMy]; omega
   ·have hkn : -(k : Int) < 0 := by omega
    go_wp2_with (at_builtin; refine wpList_append_own _ rfl _ _ 22 rfl w0.heap.size 3 i0 _ 1 8 Try.underlying22 Hi.o Hz0.o Hz1.o Hz2.o rfl (by decide) _ _ _ rfl (hown.o.alloc _) ⟨wr.heap.size, 0, none⟩ 1 1 [iv .i64 k] rfl rfl (cell_one_new _ _ _) (by simp [Value.oneCell', iv]) (by unfold maxLen; omega) (by omega) (by simp; omega) ?_)
    intro v5 w5 hown5 hgrow _; obtain ⟨g5, cap5, hv5, _⟩ := hown5.form (by omega); subst hv5; have Hown5 : Hid (w5.ownsRow w0.heap.size 3 1 (.slice (some ⟨g5, 0, none⟩) (acc ++ [k]).length cap5) (acc ++ [k]).length ((acc ++ [k]).map (iv .i64))) := hZ (by rw [List.length_append, List.map_append]; exact hown5); have HB5 := hZ ((hB.o.alloc (by omega) (.cells #[.int .i64 (k : Int)] 3)).grown hgrow (by simp; omega) (fun k e => (hown.o.lt k e).1)); clear hown5 hgrow
    go_wp2
    go_roundw
    case rel => exact ⟨acc ++ [k], q, some ⟨g5, 0, none⟩, cap5, rfl, by simp, hZ (by rw [List.append_assoc]; show acc ++ (k :: qAe T4 q) = _; rw [<- hacc.o, Hst.o]), by omega, Hown5, HB5⟩
    case measure => simp [qMy]; omega
theorem qEi (z : Int) (w : World) (h1 : -9223372036854775808 <= z) (h2 : z <= 9223372036854775807) :
 Calls Try.prog 40 #[.int .i64 z] w fun e w' => (∃ vr, e = .returned vr /\ qAL w' vr z) /\ Below w.heap.size w w' := by
 rcases Int.lt_or_le z 0 with hz | hz
 ·obtain ⟨m, rfl⟩ : ∃ m : Nat, z = -(m : Int) := ⟨z.natAbs, by omega⟩
  exact qLO m w (by omega) (by omega)
 ·obtain ⟨m, rfl⟩ : ∃ m : Nat, z = (m : Int) := ⟨z.natAbs, by omega⟩
  exact qLN m w (by omega)
end Go.Proofs.Ytlmbebbdamgfpaa
