/- Drawn regions: several operations that may come up next; ways joined. -/
import Derived.Test.YtlmbebbdamgfpaaQHRegLast
import Derived.Test.YtlmbebbdamgfpaaQHWLen
import Derived.Lib.ItoaNum
import Derived.Deep.LoopGhost
import Derived.WalkMore
import Derived.Test.YtlmbebbdamgfpaaQHGMem
import Derived.Test.YtlmbebbdamgfpaaQHWKnuth
set_option linter.unusedVariables false
set_option linter.unusedSimpArgs false
set_option maxHeartbeats 4000000
set_option maxRecDepth 100000
namespace Go.Proofs.Ytlmbebbdamgfpaa

structure KnI (D N0 n m k : Nat) (N Q : List Nat) : Prop where
 len : N.length = m + n
 low : Low W2 N
 qlen : Q.length = m
 qlow : Low W2 Q
 zero : ∀ j (h : j < Q.length), j < k -> Q[j] = 0
 eq : val W2 N + D * val W2 Q = N0
 lt : val W2 N < D * W2 ^ k
theorem KnI.start (D N0 n m : Nat) (N : List Nat) (hl : N.length = m + n) (lN : Low W2 N) (hv : val W2 N = N0) (hlt : N0 < D * W2 ^ m) : KnI D N0 n m m N (List.replicate m 0) := by
 refine ⟨hl, lN, by simp, fun x hx => by rw [(List.mem_replicate.1 hx).2]; decide, fun j h _ => by simp, ?_, by omega⟩; rw [qBo W2 _ (fun x hx => (List.mem_replicate.1 hx).2)]; omega
theorem KnI.split {D N0 n m a : Nat} {N Q : List Nat} (h : KnI D N0 n m (a + 1) N Q) (ha : a < m) : ∃ A P C, N = A ++ P ++ C /\ A.length = a /\ P.length = n + 1 /\ A.length + P.length + C.length = m + n /\ Low W2 P := by
 refine ⟨N.take a, (N.drop a).take (n + 1), (N.drop a).drop (n + 1), ?_, ?_, ?_, ?_, qDg (fun x hx => h.low x (List.mem_of_mem_drop hx)) _⟩
 ·rw [List.append_assoc, List.take_append_drop, List.take_append_drop]
 ·rw [List.length_take, h.len]; omega
 ·rw [List.length_take, List.length_drop, h.len]; omega
 ·rw [List.length_take, List.length_take, List.length_drop, List.length_drop, List.length_drop, h.len]; omega
theorem qMj (A P C : List Nat) : val W2 (A ++ P ++ C) = val W2 A + W2 ^ A.length * val W2 P + W2 ^ A.length * W2 ^ P.length * val W2 C := by
 rw [List.append_assoc, qAN, qAN, Nat.mul_add, <- Nat.mul_assoc, Nat.add_assoc]
theorem KnI.high {D N0 n m a : Nat} {A P C Q : List Nat} (h : KnI D N0 n m (a + 1) (A ++ P ++ C) Q) (hA : A.length = a) (hP : P.length = n + 1) (hD : D < W2 ^ n) : val W2 C = 0 /\ val W2 P < D * W2 := by
 have h1 := h.lt; rw [qMj, hA, hP, Nat.pow_succ W2 a, Nat.pow_succ W2 n] at h1; have hX : 0 < W2 ^ a := Nat.pow_pos (by decide); have hc : val W2 C = 0 := by
  rcases Nat.eq_zero_or_pos (val W2 C) with h0 | h0
  ·exact h0
  ·have h2 : W2 ^ a * (W2 ^ n * W2) * 1 <= W2 ^ a * (W2 ^ n * W2) * val W2 C := Nat.mul_le_mul_left _ h0
   have h3 : D * (W2 ^ a * W2) <= W2 ^ n * (W2 ^ a * W2) := Nat.mul_le_mul_right _ (Nat.le_of_lt hD); have h4 : W2 ^ n * (W2 ^ a * W2) = W2 ^ a * (W2 ^ n * W2) := by rw [Nat.mul_left_comm]
   omega
 refine ⟨hc, ?_⟩; rw [hc, Nat.mul_zero, Nat.add_zero] at h1; have h5 : W2 ^ a * val W2 P < W2 ^ a * (D * W2) := by
  rw [Nat.mul_left_comm D] at h1; omega
 exact Nat.lt_of_mul_lt_mul_left h5
theorem KnI.next {D N0 n m a : Nat} {A P C Q : List Nat} (h : KnI D N0 n m (a + 1) (A ++ P ++ C) Q) (ha : a < Q.length) (hA : A.length = a) (hP : P.length = n + 1) (hD : D < W2 ^ n) (P' : List Nat) (x : Nat) (hP' : P'.length = n + 1) (lP' : Low W2 P') (hx : x < W2)
 (he : val W2 P' + x * D = val W2 P) (hlt : val W2 P' < D) : KnI D N0 n m a (A ++ P' ++ C) (Q.set a x) := by
 have hc := (h.high hA hP hD).1; have hX : 0 < W2 ^ a := Nat.pow_pos (by decide); have lA : Low W2 A := fun y hy => h.low y (by simp [hy]); have vA := qBk W2 (by decide) A lA; rw [hA] at vA; refine ⟨?_, ?_, by rw [List.length_set]; exact h.qlen, qAP h.qlow _ _ hx, fun j hj hja => ?_, ?_, ?_⟩
 ·have := h.len
  simp only [List.length_append] at this ⊢; omega
 ·exact qDA (qDA lA lP') (fun y hy => h.low y (by simp [hy]))
 ·rw [List.getElem_set_ne (by omega)]
  exact h.zero j (by rw [List.length_set] at hj; exact hj) (by omega)
 ·have e1 := qBh W2 Q a x ha
  rw [h.zero a ha (by omega), Nat.zero_mul, Nat.add_zero] at e1; have e2 := h.eq; rw [qMj, hc, hA, Nat.mul_zero, Nat.add_zero, <- he] at e2; rw [qMj, hc, hA, e1, Nat.mul_zero, Nat.add_zero]; generalize W2 ^ a = X at *; generalize val W2 P' = p at *; generalize val W2 A = q at *; generalize val W2 Q = r at *
  grind
 ·rw [qMj, hc, hA, Nat.mul_zero, Nat.add_zero]
  have h1 : W2 ^ a * (val W2 P' + 1) <= W2 ^ a * D := Nat.mul_le_mul_left _ hlt; rw [Nat.mul_add, Nat.mul_one] at h1; rw [Nat.mul_comm D]; omega
theorem KnI.done {D N0 n m : Nat} {N Q : List Nat} (h : KnI D N0 n m 0 N Q) (hD : D < W2 ^ n) : val W2 Q = N0 / D /\ val W2 (N.take n) = N0 % D := by
 have h1 := h.lt; have h2 := h.eq; rw [Nat.pow_zero, Nat.mul_one] at h1; have hp : 0 < D := by omega
 have hq : N0 / D = val W2 Q /\ N0 % D = val W2 N := by
  refine (Nat.div_mod_unique hp).2 ⟨by omega, h1⟩
 refine ⟨hq.1.symm, ?_⟩; rw [hq.2]; have h3 : N = N.take n ++ N.drop n := (List.take_append_drop n N).symm; have hl : (N.take n).length = n := by rw [List.length_take, h.len]; omega
 have h4 : val W2 N = val W2 (N.take n) + W2 ^ n * val W2 (N.drop n) := by
  conv => lhs; rw [h3]
  rw [qAN, hl]
 rcases Nat.eq_zero_or_pos (val W2 (N.drop n)) with h0 | h0
 ·rw [h0] at h4; omega
 ·have : W2 ^ n * 1 <= W2 ^ n * val W2 (N.drop n) := Nat.mul_le_mul_left _ h0
  omega
structure InI (D n : Nat) (P : List Nat) (q f : Nat) (P' : List Nat) : Prop where
 len : P'.length = n + 1
 low : Low W2 P'
 fl : f <= 1
 ql : q < W2
 ge : val W2 P / D <= q
 eq : val W2 P' + q * D = val W2 P + f * W2 ^ (n + 1)
theorem InI.done {D n : Nat} {P : List Nat} {q : Nat} {P' : List Nat} (h : InI D n P q 0 P') (hD : 0 < D) : val W2 P' + q * D = val W2 P /\ val W2 P' < D := by
 have h1 := h.eq; rw [Nat.zero_mul, Nat.add_zero] at h1; refine ⟨h1, ?_⟩; have h2 := (Nat.div_lt_iff_lt_mul hD).1 (Nat.lt_succ_of_le h.ge); rw [Nat.succ_mul] at h2; omega
theorem InI.less {D n : Nat} {P : List Nat} {q : Nat} {P' : List Nat} (h : InI D n P q 1 P') (hD : 0 < D) : 0 < q /\ ∀ P2 f, P2.length = n + 1 -> Low W2 P2 -> f <= 1 -> val W2 P2 + f * W2 ^ (n + 1) = val W2 P' + D -> InI D n P (q - 1) (1 - f) P2 := by
 have h1 := h.eq; rw [Nat.one_mul] at h1; have h2 := qBk W2 (by decide) P' h.low; rw [h.len] at h2; have h3 : val W2 P / D < q := by
  refine (Nat.div_lt_iff_lt_mul hD).2 ?_; omega
 have hq0 : 0 < q := Nat.zero_lt_of_lt h3; refine ⟨hq0, fun P2 f hl lo hf he => ⟨hl, lo, by omega, by have := h.ql; omega, Nat.le_sub_one_of_lt h3, ?_⟩⟩; clear h3; obtain ⟨r, rfl⟩ : ∃ r, q = r + 1 := ⟨q - 1, by omega⟩; rw [Nat.add_sub_cancel]; rw [Nat.add_mul, Nat.one_mul] at h1; rcases (show f = 0 \/ f = 1 by omega) with rfl | rfl
 ·simp only [Nat.zero_mul, Nat.sub_zero, Nat.one_mul] at *; omega
 ·simp only [Nat.sub_self, Nat.zero_mul, Nat.one_mul] at *; omega
theorem qHr (x : Nat) (h0 : 0 < x) (h : x < 4294967296) : 32 - Lib.bitLen x < 32 /\ 2147483648 <= x * 2 ^ (32 - Lib.bitLen x) /\ x * 2 ^ (32 - Lib.bitLen x) < 4294967296 := by
 obtain ⟨h1, h2, h3⟩ := Lib.bitLenAux_bounds 64 x (Nat.lt_trans h (by decide)) (by omega); have hL := qH2 x h; unfold Lib.bitLen at *; generalize Lib.bitLenAux 64 x = L at *; have e1 : 2 ^ (L - 1) * 2 ^ (32 - L) = 2147483648 := by
  rw [<- Nat.pow_add, show L - 1 + (32 - L) = 31 by omega]
 have e2 : 2 ^ L * 2 ^ (32 - L) = 4294967296 := by
  rw [<- Nat.pow_add, show L + (32 - L) = 32 by omega]
 refine ⟨by omega, ?_, ?_⟩
 ·rw [<- e1]; exact Nat.mul_le_mul_right _ h2
 ·rw [<- e2]; exact Nat.mul_lt_mul_of_pos_right h3 (Nat.pow_pos (by decide))
open Go.RowKit
theorem qJL (d n s : Nat) (L : List Nat) (hB : (qAe W2 d).length = n) (h1 : 1 <= n) (hx : n - 1 < (qAe W2 d).length) (hs : s = 32 - Lib.bitLen (qAe W2 d)[n - 1]) (hL : L.length = n + 1) (lL : Low W2 L) (hv : val W2 L = d * 2 ^ s) :
 s < 32 /\ (L.take n).length = n /\ Low W2 (L.take n) /\ val W2 (L.take n) = d * 2 ^ s /\ d * 2 ^ s < W2 ^ n /\ ∀ h : n - 1 < (L.take n).length, 2147483648 <= (L.take n)[n - 1] := by
 have hlow := qAl W2 qAm d; have hxl : (qAe W2 d)[n - 1] < 4294967296 := hlow _ (List.getElem_mem hx); have hx0 : 0 < (qAe W2 d)[n - 1] := by
  refine Nat.pos_of_ne_zero fun h0 => qGr W2 qAm d ?_; rw [List.getLast?_eq_getElem?, hB, List.getElem?_eq_getElem hx, h0]
 obtain ⟨b1, b2, b3⟩ := qHr _ hx0 hxl; rw [<- hs] at b1 b2 b3; have hT : val W2 (qAe W2 d) = d := qAi W2 qAm d; have e1 := qE8 (qAe W2 d) n hB h1 hx; have e2 := qBU (qAe W2 d) (n - 1) hlow (by omega); rw [hT] at e1; have hX : 0 < W2 ^ (n - 1) := Nat.pow_pos (by decide); have hS : 0 < 2 ^ s := Nat.pow_pos (by decide); have hW := qDZ n h1; have b4 : ((qAe W2 d)[n - 1] + 1) * 2 ^ s <= 4294967296 := by
  obtain ⟨t, ht⟩ : ∃ t, 4294967296 = 2 ^ s * t := ⟨2 ^ (32 - s), by rw [<- Nat.pow_add, show s + (32 - s) = 32 by omega]⟩; rw [ht, Nat.mul_comm ((qAe W2 d)[n - 1]) (2 ^ s)] at b3; have := Nat.lt_of_mul_lt_mul_left b3; rw [ht, Nat.mul_comm]; exact Nat.mul_le_mul_left _ this
 generalize (qAe W2 d)[n - 1] = x at *; generalize val W2 ((qAe W2 d).take (n - 1)) = lo at *; have c1 : 2147483648 * W2 ^ (n - 1) <= d * 2 ^ s := by
  have h2 : x * 2 ^ s * W2 ^ (n - 1) <= d * 2 ^ s := by
   rw [Nat.mul_right_comm]; exact Nat.mul_le_mul_right _ (by omega)
  exact Nat.le_trans (Nat.mul_le_mul_right _ b2) h2
 have c2 : d * 2 ^ s < W2 ^ n := by
  have h2 : d * 2 ^ s < (x + 1) * W2 ^ (n - 1) * 2 ^ s := Nat.mul_lt_mul_of_pos_right (by rw [Nat.add_mul, Nat.one_mul]; omega) hS; have h3 : (x + 1) * W2 ^ (n - 1) * 2 ^ s <= W2 ^ n := by
   rw [Nat.mul_right_comm, hW]; exact Nat.mul_le_mul_right _ b4
  omega
 have hl : (L.take n).length = n := by rw [List.length_take, hL]; omega
 have hlowT := qDg lL n; have hvt : val W2 (L.take n) = d * 2 ^ s := by
  have h3 : L = L.take n ++ L.drop n := (List.take_append_drop n L).symm; have h4 : val W2 L = val W2 (L.take n) + W2 ^ n * val W2 (L.drop n) := by
   conv => lhs; rw [h3]
   rw [qAN, hl]
  rcases Nat.eq_zero_or_pos (val W2 (L.drop n)) with h0 | h0
  ·rw [h0] at h4; omega
  ·have : W2 ^ n * 1 <= W2 ^ n * val W2 (L.drop n) := Nat.mul_le_mul_left _ h0
   omega
 refine ⟨b1, hl, hlowT, hvt, c2, fun h => ?_⟩; have e3 := qE8 (L.take n) n hl h1 h; have e4 := qBU (L.take n) (n - 1) hlowT (by omega); rw [hvt] at e3; have e5 : 2147483648 * W2 ^ (n - 1) < ((L.take n)[n - 1] + 1) * W2 ^ (n - 1) := by
  rw [Nat.add_mul, Nat.one_mul]; omega
 have := Nat.lt_of_mul_lt_mul_right e5; omega
theorem qJS (m d : Nat) (hd : d ≠ 0) : m < d * W2 ^ ((qAe W2 m).length - (qAe W2 d).length + 1) := by
 have h1 := qBk W2 (by decide) _ (qAl W2 qAm m); rw [qAi W2 qAm] at h1; have h2 : W2 ^ ((qAe W2 d).length - 1) <= d := by
  rcases Nat.lt_or_ge d (W2 ^ ((qAe W2 d).length - 1)) with h | h
  ·have := qAO W2 qAm _ _ h
   have h0 : 0 < (qAe W2 d).length := qG3.2 hd; omega
  ·exact h
 have h3 : W2 ^ (qAe W2 m).length <= W2 ^ ((qAe W2 d).length - 1 + ((qAe W2 m).length - (qAe W2 d).length + 1)) := Nat.pow_le_pow_right (by decide) (by omega); rw [Nat.pow_add] at h3; exact Nat.lt_of_lt_of_le h1 (Nat.le_trans h3 (Nat.mul_le_mul_right _ h2))
theorem Blk.part {w : World} {g : Nat} {A P C : List Nat} (h : Blk w g 88 .u32 (A ++ P ++ C)) (cap : Nat) (h1 : P.length <= cap) (h2 : cap <= 9223372036854775807) : qAd .u32 w (.slice (some ⟨g, A.length, none⟩) P.length cap) P :=
 ⟨_, cap, rfl, h1, h2, fun _ => ⟨g, A.length, rfl, h.lt, fun j hj => h.mid j hj⟩⟩
theorem Blk.front {w : World} {g n : Nat} {L : List Nat} (h : Blk w g 88 .u32 L) (hn : n <= L.length) (cap : Nat) (h1 : n <= cap) (h2 : cap <= 9223372036854775807) : qAd .u32 w (.slice (some ⟨g, 0, none⟩) n cap) (L.take n) := by
 have hl : (L.take n).length = n := by rw [List.length_take]; omega
 refine ⟨_, cap, by rw [hl], by omega, h2, fun _ => ⟨g, 0, rfl, h.lt, fun j hj => ?_⟩⟩; rw [List.getElem_take, Nat.zero_add]; exact h.cell j (by omega)
theorem qHg (va vb : Value) (m d : Nat) (w : World) (ha : qAT w va m) (hb : qAT w vb d) (hm : m < LIM) (hd : W2 <= d) (hdm : d <= m) :
 Calls Try.prog 62 #[va, vb] w (qHm m d w) := by
 obtain ⟨i0, hi, hz0, hz1, hz2⟩ := info_parts qDS; have Hi := hZ hi; have Hz0 := hZ hz0; have Hz1 := hZ hz1; have Hz2 := hZ hz2; clear hi hz0 hz1 hz2; have Ha := hZ ha; have Hb := hZ hb; have hla := (qA4 m).2 hm; have hlb := (qA4 d).2 (by omega); have hle := qAM W2 qAm d m hdm; have hl2 : 1 < (qAe W2 d).length := qEx W2 qAm 1 d (by rw [Nat.pow_one]; exact hd); have Hpow := hZ (qJS m d (by unfold W2 at hd; omega)); have Hcmp := hZ (qBY va vb m d w ha hb (by omega) (by omega)); have hc3 : ¬ (qAK (m : Int) (d : Int) < 0) := by
  unfold qAK; rw [if_neg (by omega)]
  split <;> simp
 generalize qAK (m : Int) (d : Int) = C at *; obtain ⟨aa, ca, rfl, h1, h2, h3⟩ := ha; obtain ⟨ab, cb, rfl, h4, h5, h6⟩ := hb; have hx : (qAe W2 d).length - 1 < (qAe W2 d).length := by omega
 obtain ⟨b, off, rfl, hbl, hcell⟩ := h6 (by omega); have c0 := hcell _ hx; have hxl : (qAe W2 d)[(qAe W2 d).length - 1] < 4294967296 := qAl W2 qAm d _ (List.getElem_mem hx); have hx0 : 0 < (qAe W2 d)[(qAe W2 d).length - 1] := by
  refine Nat.pos_of_ne_zero fun h0 => qGr W2 qAm d ?_; rw [List.getLast?_eq_getElem?, List.getElem?_eq_getElem hx, h0]
 have Hnorm := hZ (fun s L => qJL d (qAe W2 d).length s L rfl (by omega) hx); have Hls := hZ (fun (w' : World) s (hB : Below w.heap.size w w') => qEc _ (qAe W2 m) s w' (qAd.below Ha.o (Nat.le_refl _) hB) (qAl W2 qAm m)); have Hls2 := hZ (fun (w' : World) s (hB : Below w.heap.size w w') => qEc _ (qAe W2 d) s w' (qAd.below Hb.o (Nat.le_refl _) hB) (qAl W2 qAm d)); rw [qAi W2 qAm] at Hls Hls2; clear h3 h6 hcell; generalize (qAe W2 d)[(qAe W2 d).length - 1] = x at *; generalize (qAe W2 m).length = M at *; generalize (qAe W2 d).length = n at *; have Hc := hZ c0; have Hdm := hZ hdm; have Hd := hZ hd; have hne1 : ((n : Int) == 1) = false := by simp; omega
 have i1 : (0 : Int) <= (n : Int) - 1 := by omega
 have i2 : (n : Int) - 1 < (n : Int) := by omega
 have i3 : ((n : Int) - 1).toNat = n - 1 := by omega
 clear c0 hm hdm hd hlb
 go_enter Try.func62, Try.ntmps62
 go_wp2_with fail
 refine wp_scope_straight ?_
 go_wp2_with fail
 refine Hcmp.o.mono ?_; rintro e w' ⟨rfl, k, rfl⟩; have c1 : (w.drewN k).cell? ⟨b, off + (n - 1), none⟩ = some (.int .u32 (x : Int)) := Hc.o
 go_wp2_with fail
 refine (qJQ x _ hxl).mono ?_; rintro e w' ⟨rfl, rfl⟩; obtain ⟨s, hs⟩ := eX (32 - Lib.bitLen x); have Hs := hZ hs; have hs32 : s < 32 := by rw [<- hs]; exact (qHr x hx0 hxl).1
 rw [hs]; clear hs Hcmp c1; have HBk : Hid (Below w.heap.size w (w.drewN k)) := hZ ⟨rfl, rfl, rfl, Nat.le_refl _, fun _ _ => rfl⟩; obtain ⟨w1, hw1⟩ := eX (w.drewN k); have hz1 : w.heap.size = w1.heap.size := by rw [<- hw1]; rfl
 have Hzw := hZ hz1; rw [hw1] at HBk ⊢; clear hw1 hz1
 go_wp2_with fail
 refine qDO 9 (fun _ => True) (by kernel_rfl) (trivial) (fun hHeld => ?_); refine kU 0 45 ?_; refine kU 1 46 ?_; refine kU 3 48 ?_; refine kU 4 49 ?_; refine kU 6 51 ?_; refine qCp 2 (by kernel_rfl) rfl (fun K hK => ?_); go_simp; refine (Hls.o w1.drew s (HBk.o.drew) hs32 (by omega)).mono ?_; rintro e w2 ⟨N0, rfl, hblk2, lN, hlN, hvN, hB2⟩; obtain ⟨g1, hg1⟩ := eX w1.drew.heap.size; have Hg1 := hZ (show w1.heap.size = g1 from hg1); rw [hg1] at hblk2 hB2 ⊢; have HN := hZ (And.intro lN (And.intro hlN hvN)); have HblkN := hZ hblk2; have HB2 := hZ (HBk.o.drew.trans (by rw [Hzw.o, Hg1.o]; exact hB2)); have hz2 : g1 < w2.heap.size := hblk2.lt; clear hg1 hblk2 hB2 lN hlN hvN
 go_wp2_with fail
 refine hK.out _ _ (trivial) (fun hHeld => ?_); clear hK K
 try simp only [Act.put, List.setIfInBounds_toArray, List.set_cons_zero, List.set_cons_succ]
 refine qCp 5 (by kernel_rfl) rfl (fun K hK => ?_); go_simp; refine (Hls2.o w2 s HB2.o hs32 (by omega)).mono ?_; rintro e w3 ⟨D0, rfl, hblk3, lD, hlD, hvD, hB3⟩; obtain ⟨g2, hg2⟩ := eX w2.heap.size; have Hg2 := hZ hg2; rw [hg2] at hblk3 hB3 hz2 ⊢; obtain ⟨-, nl, nlow, nv, nlt, ntop⟩ := Hnorm.o s D0 Hs.o.symm hlD lD hvD; have Hnl := hZ nl; have Hnlow := hZ nlow; have Hnv := hZ nv; have Hnlt := hZ nlt; have Hntop := hZ ntop; have HblkD := hZ hblk3; have HblkN3 := hZ (HblkN.o.below hB3 hz2); have HB3 := hZ (HB2.o.trans (hB3.mono (by rw [Hzw.o, Hg1.o]; omega))); have hz3 : g2 < w3.heap.size := hblk3.lt; clear hg2 hblk3 hB3 lD hlD hvD nl nlow nv nlt ntop Hnorm HblkN HB2
 go_wp2_with fail
 refine hK.out _ _ (trivial) (fun hHeld => ?_); clear hK K
 try simp only [Act.put, List.setIfInBounds_toArray, List.set_cons_zero, List.set_cons_succ]
 have i9 : (n : Int) <= (n : Int) + 1 := by omega
 refine kU 7 52 ?_; refine qCp 8 (by kernel_rfl) rfl (fun K hK => ?_); go_simp
 go_wp2_with fail
 refine hK.out _ _ (trivial) (fun hHeld => ?_); clear hK K
 try simp only [Act.put, List.setIfInBounds_toArray, List.set_cons_zero, List.set_cons_succ]
 refine qI4 (by kernel_rfl) rfl (by kernel_rfl) (fun K hK => ?_); go_simp; refine hK.out _ _ ?_; clear hK K
 try simp only [Act.put, List.setIfInBounds_toArray, List.set_cons_zero, List.set_cons_succ]
 clear hHeld; obtain ⟨m1, hm1⟩ := eX (M - n + 1); have hm1I : (M : Int) - (n : Int) + 1 = (m1 : Int) := by omega
 have Hm1 := hZ hm1; clear hm1
 go_wp2_with (at_make; refine qAy _ rfl _ _ 56 rfl 88 i0 .u32 Try.underlying56 Hi.o Hz0.o Hz1.o _ _ _ _ m1 rfl rfl rfl rfl (by rw [Hz2.o]; omega) (by omega) ?_)
 intro w4 hblk4 hB4 hz4; obtain ⟨gq, hgq⟩ := eX w3.heap.size; rw [hgq] at hblk4 hB4 hz4 hz3 ⊢; have HblkQ := hZ hblk4; have HblkD4 := hZ (HblkD.o.below hB4 hz3); have HblkN4 := hZ (HblkN3.o.below hB4 (by omega)); have hgs : w.heap.size <= g1 := by rw [Hzw.o, Hg1.o]; exact Nat.le_refl _
 have HB4 := hZ (HB3.o.trans (hB4.mono (by omega))); clear hgq hblk4 hB4 HblkD HblkN3 HB3
 go_wp2
 go_step3
 go_wp2
 have HK0 : Hid (KnI (d * 2 ^ s) (m * 2 ^ s) n m1 m1 N0 (List.replicate m1 0)) := hZ (KnI.start _ _ n m1 N0 (by rw [HN.o.2.1, <- Hm1.o]; omega) HN.o.1 HN.o.2.2 (by
  rw [Nat.mul_right_comm, <- Hm1.o]; exact Nat.mul_lt_mul_of_pos_right Hpow.o (Nat.pow_pos (by decide))))
 have hm1b : m1 + n = M + 1 := by rw [<- Hm1.o]; omega
 have HDl := hZ (show n <= D0.length by have := Hnl.o; rw [List.length_take] at this; omega); have hDp : Hid (0 < d * 2 ^ s) := hZ (Nat.mul_pos (by have := Hd.o; unfold W2 at this; omega) (Nat.pow_pos (by decide))); clear hm1I i1 i2 i3 hne1 hc3
 go_loopg [13] m1 (fun g av wr => ∃ (N Q : List Nat), g <= m1 /\ av = .int .i64 ((g : Int) - 1) /\ Hid (KnI (d * 2 ^ s) (m * 2 ^ s) n m1 g N Q) /\ Hid (Blk wr g1 88 .u32 N) /\ Hid (Blk wr gq 88 .u32 Q) /\ Hid (Blk wr g2 88 .u32 D0) /\ Hid (Below w.heap.size w wr))
 case atStart => exact ⟨N0, _, Nat.le_refl _, rfl, HK0, HblkN4, HblkQ, HblkD4, HB4⟩
 case round =>
  obtain ⟨N, Q, hg, rfl, hK, hbN, hbQ, hbD, hB⟩ := hrel; clear HK0 HblkN4 HblkQ HblkD4 HB4; obtain ⟨wo, hwo⟩ : ∃ wo, wo = wr := ⟨_, rfl⟩; subst hwo; cases gk with
  | zero =>
   have hdone := hK.out.done Hnlt.o; have e1 : ((0 : Nat) : Int) - 1 = -1 := by omega
   rw [e1]; have hS0 : 0 < 2 ^ s := Nat.pow_pos (by decide); have hq1 : val W2 Q = m / d := by rw [hdone.1, Nat.mul_div_mul_right _ _ hS0]
   have hr1 : val W2 (N.take n) / 2 ^ s = m % d := by rw [hdone.2, Nat.mul_mod_mul_right, Nat.mul_div_cancel _ hS0]
   have hQl := hK.out.qlen; have hNl := hK.out.len; have hQrow := qAd.of_blk (hbQ.o.drew) (cap := m1) (by omega) (by omega); rw [hQl] at hQrow; have Htrim := hZ (qB1 (.slice (some ⟨gq, 0, none⟩) m1 m1) Q wo.drew hQrow hK.out.qlow (by omega)); have hNrow := (hbN.o.drew).front (n := n) (by omega) (M + 1) (by omega) (by omega); have Hshr := hZ (qGS (.slice (some ⟨g1, 0, none⟩) n (M + 1)) (N.take n) s wo.drew hNrow (qDg hK.out.low n) hs32 (by rw [List.length_take]; omega)); rw [hq1] at Htrim; rw [hr1] at Hshr; have i10 : (n : Int) <= (M : Int) + 1 := by omega
   clear hq1 hr1 hdone hQrow hNrow hQl hNl e1 hS0
   go_wp2_with fail
   refine qDO 8 (fun _ => True) (by kernel_rfl) (trivial) (fun hHeld => ?_); refine kU 0 93 ?_; refine kU 2 95 ?_; refine kU 3 96 ?_; refine kU 4 97 ?_; refine kU 5 98 ?_; refine qCp 1 (by kernel_rfl) rfl (fun K hK => ?_); go_simp; refine Htrim.o.mono ?_; rintro e w5 ⟨vq, rfl, hvq, rfl⟩; have Hvq := hZ hvq; clear hvq Htrim
   go_wp2_with fail
   refine hK.out _ _ (trivial) (fun hHeld => ?_); clear hK K
   try simp only [Act.put, List.setIfInBounds_toArray, List.set_cons_zero, List.set_cons_succ]
   refine qCp 6 (by kernel_rfl) rfl (fun K hK => ?_); go_simp; refine Hshr.o.mono ?_; rintro e w6 ⟨vr, rfl, hvr, hB6⟩; have Hvr := hZ hvr; have HB6 := hZ hB6; clear hvr hB6 Hshr
   go_wp2_with fail
   refine hK.out _ _ (trivial) (fun hHeld => ?_); clear hK K
   try simp only [Act.put, List.setIfInBounds_toArray, List.set_cons_zero, List.set_cons_succ]
   refine qCp 7 (by kernel_rfl) rfl (fun K hK => ?_); go_simp
   go_wp2_with fail
   refine hK.out _ _ (trivial) (fun hHeld => ?_); clear hK K
   try simp only [Act.put, List.setIfInBounds_toArray, List.set_cons_zero, List.set_cons_succ]
   refine qI4 (by kernel_rfl) rfl (by kernel_rfl) (fun K hK => ?_); go_simp; refine hK.out _ _ ?_; clear hK K
   try simp only [Act.put, List.setIfInBounds_toArray, List.set_cons_zero, List.set_cons_succ]
   clear hHeld
   go_wp2
   refine bodyPost_ret (v := .tuple #[vq, vr]) (by simp [results, Try.results62, go_sem]) rfl ⟨?_, _, _, rfl, ?_, ?_⟩
   ·exact (show Below w.heap.size w wo.drew from ⟨hB.o.os, hB.o.tape, hB.o.output, hB.o.size, hB.o.block⟩).trans (HB6.o.mono hB.o.size)
   ·exact qAd.below Hvq.o (Nat.le_refl _) HB6.o
   ·exact Hvr.o
  | succ a =>
   obtain ⟨A, Pt, Cc, rfl, hA, hP, hAPC, lP⟩ := hK.out.split (by omega); obtain ⟨hC0, hPlt⟩ := hK.out.high hA hP Hnlt.o; have hge : (0 : Int) <= ((a + 1 : Nat) : Int) - 1 := by omega
   have hpart := hbN.o.part (M + 1 - a) (by omega) (by omega); rw [hA, hP] at hpart; have hdiv := hbD.o.front HDl.o (n + 1) (by omega) (by omega); have Hest := hZ (qLa _ _ Pt (D0.take n) n wo hpart hdiv hP Hnl.o (by omega) (by omega) lP Hnlow.o (by rw [Hnl.o]; omega) (Hntop.o _) (by rw [Hnv.o]; exact hPlt)); rw [Hnv.o] at Hest; have e1 : ((a + 1 : Nat) : Int) - 1 = (a : Int) := by omega
   rw [e1]; clear e1 hge; have hge : (0 : Int) <= (a : Int) := by omega
   have Hb := hZ (And.intro hA (And.intro hP lP)); clear hpart hdiv hC0 hPlt hA hP lP
   go_wp2_with fail
   rw [show a + n + 1 - a = n + 1 by omega]; refine Hest.o.mono ?_; rintro e w5 ⟨q, k5, rfl, hqge, hql, rfl⟩; have Hqge := hZ hqge; have hql' : q < 4294967296 := hql; have Hsub := hZ (qFa g1 a (M + 1 - a) g2 0 (n + 1) n q A Pt Cc (D0.take n) (wo.drewN k5) Hb.o.1 Hb.o.2.1 Hnl.o (by omega) (by omega) (by omega) (by omega) (by omega) (by omega) hql (hbN.o.drewN k5) Hb.o.2.2 Hnlow.o (by omega) (hbD.o.drewN k5).lt (fun j hj => by
    rw [List.getElem_take, Nat.zero_add]; exact (hbD.o.drewN k5).cell j (by have := Hnl.o; have := HDl.o; omega)))
   clear hqge hql Hest
   go_wp2_with fail
   refine Hsub.o.mono ?_; rintro e w6 ⟨P1, f1, rfl, hb6, hl6, lo6, hf6, he6, hO6⟩; rw [Hnv.o] at he6; have HI1 : Hid (InI (d * 2 ^ s) n Pt q f1 P1) := hZ ⟨hl6, lo6, hf6, hql', Hqge.o, he6⟩; have Hb6 := hZ hb6; have HO6 := hZ hO6; clear hb6 hl6 lo6 he6 hO6 Hsub
   go_wp2_with fail
   go_loopg [15, 16] q (fun g dv mv wy => ∃ (f : Nat) (P2 : List Nat), dv = .int .u64 (g : Int) /\ mv = .bool (decide (f = 1)) /\ g < 4294967296 /\ Hid (InI (d * 2 ^ s) n Pt g f P2) /\ Hid (Blk wy g1 88 .u32 (A ++ P2 ++ Cc)) /\ Hid (qAc (fun k => k = g1) (wo.drewN k5) wy))
   case atStart => exact ⟨f1, P1, rfl, rfl, hql', HI1, Hb6, HO6⟩
   case round =>
    obtain ⟨f, P2, rfl, rfl, hgl, hI, hbP, hO⟩ := hrel; clear HI1 Hb6 HO6; have hfl := hI.o.fl; have hbQ2 := hZ (hO.o.blk (hbQ.o.drewN k5) (show ¬ gq = g1 by omega)); have hbD2 := hZ (hO.o.blk (hbD.o.drewN k5) (show ¬ g2 = g1 by omega)); have hB2 : Hid (Below w.heap.size w wr) := hZ (qAc.below hO.o (show Below w.heap.size w (wo.drewN k5) from ⟨hB.o.os, hB.o.tape, hB.o.output, hB.o.size, hB.o.block⟩) hB.o.size (fun k e => by omega)); rcases (show f = 0 \/ f = 1 by omega) with rfl | rfl
    ·have hQl : a < Q.length := by rw [hK.out.qlen]; omega
     have c1 := hbQ2.o.cell a hQl; have c2 := hbQ2.o.frozen a; have hdn := hI.o.done hDp.o; have HN2 := hZ (hK.out.next hQl Hb.o.1 Hb.o.2.1 Hnlt.o P2 gk hI.o.len hI.o.low hgl hdn.1 hdn.2); have hm2 : a < m1 := by omega
     have hwr : IntKind.u32.wrap (gk : Int) = (gk : Int) := by rw [IntKind.wrap_u32]; omega
     generalize Q[a] = qa at *; clear hdn
     go_wp2_with fail
     go_roundg a
     case measure => omega
     case rel =>
      refine ⟨A ++ P2 ++ Cc, Q.set a gk, by omega, by first | rfl | go_num, HN2, hZ (hbP.o.far (p := ⟨gq, a, none⟩) (show g1 ≠ gq by omega) _), hZ (hbQ2.o.set a gk), hZ (hbD2.o.far (p := ⟨gq, a, none⟩) (show g2 ≠ gq by omega) _), hZ (hB2.o.setCell (p := ⟨gq, a, none⟩) (show w.heap.size <= gq by omega) _)⟩
    ·have hl := hI.o.less hDp.o
     have h0 := hl.1; have Hl := hZ hl.2; have hde : (gk : Int) - 1 = ((gk - 1 : Nat) : Int) := by omega
     have Hres := hZ (qFY g1 a (M + 1 - a) g2 0 (n + 1) n A P2 Cc (D0.take n) wr Hb.o.1 hI.o.len Hnl.o (by omega) (by omega) (by omega) (by omega) (by omega) (by omega) hbP.o hI.o.low Hnlow.o (by omega) hbD2.o.lt (fun j hj => by
      rw [List.getElem_take, Nat.zero_add]; exact hbD2.o.cell j (by have := Hnl.o; have := HDl.o; omega)))
     clear hl
     go_wp2_with fail
     refine Hres.o.mono ?_; rintro e w7 ⟨P3, f3, rfl, hb7, hl7, lo7, hf7, he7, hO7⟩; rw [Hnv.o] at he7; have HI2 := hZ (Hl.o P3 f3 hl7 lo7 hf7 he7); have Hb7 := hZ hb7; have HO7 := hZ (hO.o.trans hO7); clear hb7 hl7 lo7 he7 hO7 Hres Hl
     go_wp2_with fail
     go_roundg (gk - 1)
     case measure => omega
     case rel => exact ⟨1 - f3, P3, by first | rfl | go_num, by rcases (show f3 = 0 \/ f3 = 1 by omega) with rfl | rfl <;> rfl, by omega, HI2, Hb7, HO7⟩
open Go.RowKit
theorem qEw {m d : Nat} (hd0 : d ≠ 0) (hm : m < LIM) (hd2 : d < LIM) : qLx m d := by
 by_cases h : m < d \/ d < W2
 ·exact qHf hd0 hm h hd2
 ·exact fun w va vb ha hb => qHg va vb m d w ha hb hm (by omega) (by omega)
theorem qJx (vx vy : Value) (x y : Int) (w : World) (hx : qAz w vx x) (hy : qAz w vy y) (hy0 : y ≠ 0) (hlx : x.natAbs < LIM) (hly : y.natAbs < LIM) :
 Calls Try.prog 43 #[vx, vy] w (qKy x y w) := qHi vx vy x y w hx hy hy0 hlx hly (qEw (by omega) hlx hly)
theorem qLh (x y : Int) (hy : y ≠ 0) : qOf x y * y + (rOf x y : Int) = x /\ rOf x y < y.natAbs := by
 have hp : 0 < y.natAbs := by omega
 have h1 := Nat.div_add_mod x.natAbs y.natAbs; have h2 := Nat.mod_lt x.natAbs hp; have hym : ∀ (s : Bool) (k : Nat), sgn (s != decide (y < 0)) k * y = sgn s (y.natAbs * k) := by
  intro s k; have e : ((y.natAbs * k : Nat) : Int) = (y.natAbs : Int) * (k : Int) := Int.natCast_mul _ _; unfold sgn; rw [e]; by_cases h : y < 0
  ·have hy2 : y = -(y.natAbs : Int) := by omega
   rw [decide_eq_true h]; generalize (y.natAbs : Int) = a at *; subst hy2; cases s <;> simp [Int.mul_comm, Int.mul_neg, Int.neg_mul]
  ·have hy2 : y = (y.natAbs : Int) := by omega
   rw [decide_eq_false h]; generalize (y.natAbs : Int) = a at *; subst hy2; cases s <;> simp [Int.mul_comm, Int.mul_neg, Int.neg_mul]
 by_cases h : x < 0 /\ x.natAbs % y.natAbs ≠ 0
 ·obtain ⟨hq, hr⟩ := qGV h
  rw [hq, hr, hym, decide_eq_true h.1]; refine ⟨?_, by omega⟩; unfold sgn; rw [if_pos rfl, Nat.mul_add, Nat.mul_one]; have := h.1; omega
 ·obtain ⟨hq, hr⟩ := qFf h
  rw [hq, hr, hym]; refine ⟨?_, h2⟩; by_cases hx : x < 0
  ·rw [decide_eq_true hx]
   have h0 : x.natAbs % y.natAbs = 0 := by
    rcases Nat.eq_zero_or_pos (x.natAbs % y.natAbs) with h3 | h3
    ·exact h3
    ·exact absurd ⟨hx, by omega⟩ h
   unfold sgn; rw [if_pos rfl, h0]; rw [h0] at h1; omega
  ·rw [decide_eq_false hx]
   unfold sgn; rw [if_neg (by simp)]; omega
open Go.RowKit
theorem qIZ (vx vy : Value) (x y : Int) (w : World) (hx : qAz w vx x) (hy : qAz w vy y) (hlx : x.natAbs < LIM) (hly : y.natAbs < LIM) (hy0 : y ≠ 0) :
 Calls Try.prog 75 #[vx, vy] w (qKw (qOf x y) w) := by
 obtain ⟨ax, nx, cx, rfl, hmx⟩ := hx.form; obtain ⟨ay, ny, cy, rfl, hmy⟩ := hy.form; obtain ⟨n, hn⟩ := eX w.heap.size; have Hn := hZ hn; obtain ⟨W, hW, t1, t2, t3, hBW, hsW⟩ := qCi w 58 (.bool (decide (x < 0))) (.slice ax nx cx) (.bool (decide (y < 0))) (.slice ay ny cy) (.bool false) (.slice none 0 0) n hn; have Hm := hZ (qHi _ _ x y W (hx.below' (Nat.le_of_eq hn) hBW) (hy.below' (Nat.le_of_eq hn) hBW) hy0 hlx hly (qEw (by omega) hlx hly)); clear hx hy hmx hmy hlx hly; generalize decide (x < 0) = sx at *; generalize decide (y < 0) = sy at *; have HBW := hZ hBW; have T3 := hZ t3; have d0 := t1.cell0; have d1 := t1.cell1; have d2 := t2.cell0; have d3 := t2.cell1; clear t1 t2 t3 hBW
 go_enter Try.func75, Try.ntmps75
 go_wp2_with fail
 clear hW; refine Hm.o.mono ?_; rintro e w2 ⟨hB2, vq, vr, rfl, hq, hr⟩; obtain ⟨pa, pn, pc, rfl, hPm⟩ := hq.form; obtain ⟨ra, rn, rc, rfl, -⟩ := hr.form; have HB2 := hZ (HBW.o.trans (hB2.mono (by omega))); have T32 := T3.o.below hB2 (by omega); have HP := hZ hPm; have HS2 := hZ (show n + 1 + 1 + 1 <= w2.heap.size by have := hB2.size; omega); generalize hsp : decide (qOf x y < 0) = sp at *; generalize decide ((rOf x y : Int) < 0) = sr at *; obtain ⟨w3, hw3⟩ := eX ((w2.alloc (.cells #[.bool sp, .slice pa pn pc] 58)).alloc (.cells #[.bool sr, .slice ra rn rc] 58)); have HB3 : Hid (Below w2.heap.size w2 w3) := hZ (by rw [<- hw3]; exact ((Below.refl _ _).alloc (Nat.le_refl _) _).alloc (by simp) _); have T5 : Two w3 w2.heap.size 58 (.bool sp) (.slice pa pn pc) := by rw [<- hw3]; exact (Two.new _ _ _ _).alloc _
 have p0 := T5.cell0; have p1 := T5.cell1; have T33 := T32.below HB3.o (by have := HS2.o; omega); have g0 := T33.cell0; have g1 := T33.cell1; have f0 := T33.frozen 0; have f1 := T33.frozen 1; have HT33 := hZ T33; clear hq hr hPm hB2 T32 T5 T33 d0 d1 d2 d3 T3
 go_wp2_with fail
 exact qDo HB2.o HB3.o HS2.o HT33.o HP.o hsp Hn.o (by intro W2 h0 h1; simp [results, Try.results75, go_sem, h0, h1]) rfl
theorem qG5 (vx vy : Value) (x y : Int) (w : World) (hx : qAz w vx x) (hy : qAz w vy y) (hlx : x.natAbs < LIM) (hly : y.natAbs < LIM) (hy0 : y ≠ 0) :
 Calls Try.prog 77 #[vx, vy] w (qKw (rOf x y : Int) w) := by
 obtain ⟨ax, nx, cx, rfl, hmx⟩ := hx.form; obtain ⟨ay, ny, cy, rfl, hmy⟩ := hy.form; obtain ⟨n, hn⟩ := eX w.heap.size; have Hn := hZ hn; obtain ⟨W, hW, t1, t2, t3, hBW, hsW⟩ := qCi w 58 (.bool (decide (x < 0))) (.slice ax nx cx) (.bool (decide (y < 0))) (.slice ay ny cy) (.bool false) (.slice none 0 0) n hn; have Hm := hZ (qHi _ _ x y W (hx.below' (Nat.le_of_eq hn) hBW) (hy.below' (Nat.le_of_eq hn) hBW) hy0 hlx hly (qEw (by omega) hlx hly)); clear hx hy hmx hmy hlx hly; generalize decide (x < 0) = sx at *; generalize decide (y < 0) = sy at *; have HBW := hZ hBW; have T3 := hZ t3; have d0 := t1.cell0; have d1 := t1.cell1; have d2 := t2.cell0; have d3 := t2.cell1; clear t1 t2 t3 hBW
 go_enter Try.func77, Try.ntmps77
 go_wp2_with fail
 clear hW; refine Hm.o.mono ?_; rintro e w2 ⟨hB2, vq, vr, rfl, hq, hr⟩; obtain ⟨ra, rn, rc, rfl, -⟩ := hq.form; obtain ⟨pa, pn, pc, rfl, hPm⟩ := hr.form; have HB2 := hZ (HBW.o.trans (hB2.mono (by omega))); have T32 := T3.o.below hB2 (by omega); have HP := hZ hPm; have HS2 := hZ (show n + 1 + 1 + 1 <= w2.heap.size by have := hB2.size; omega); generalize hsp : decide ((rOf x y : Int) < 0) = sp at *; generalize decide (qOf x y < 0) = sr at *; obtain ⟨w3, hw3⟩ := eX ((w2.alloc (.cells #[.bool sr, .slice ra rn rc] 58)).alloc (.cells #[.bool sp, .slice pa pn pc] 58)); have HB3 : Hid (Below w2.heap.size w2 w3) := hZ (by rw [<- hw3]; exact ((Below.refl _ _).alloc (Nat.le_refl _) _).alloc (by simp) _); have T5 : Two w3 (w2.heap.size + 1) 58 (.bool sp) (.slice pa pn pc) := by
  rw [<- hw3]; have h9 := Two.new (w2.alloc (.cells #[.bool sr, .slice ra rn rc] 58)) 58 (.bool sp) (.slice pa pn pc); simpa using h9
 have p0 := T5.cell0; have p1 := T5.cell1; have T33 := T32.below HB3.o (by have := HS2.o; omega); have g0 := T33.cell0; have g1 := T33.cell1; have f0 := T33.frozen 0; have f1 := T33.frozen 1; have HT33 := hZ T33; clear hq hr hPm hB2 T32 T5 T33 d0 d1 d2 d3 T3
 go_wp2_with fail
 exact qDo HB2.o HB3.o HS2.o HT33.o HP.o hsp Hn.o (by intro W2 h0 h1; simp [results, Try.results77, go_sem, h0, h1]) rfl
open Go
def qLX (J : Act -> World -> Prop) (Q : Exit -> Act -> World -> Prop) : Exit -> Act -> World -> Prop
 | .normal, a, w => J a w
 | e, a, w => Q e a w
theorem qAp {J : Act -> World -> Prop} {Q : Exit -> Act -> World -> Prop} {a : Act} {w : World} (h : J a w) : qLX J Q .normal a w := h
section
variable {P : Program} {md : Region.Mode} {ops : Array Oper} {Q : Exit -> Act -> World -> Prop} {S : World -> Prop} {last : Nat}
theorem qCa {c : Code} {tmps : Array Value} {ds : List Deferred} {w : World} (J : Array Value -> List Deferred -> Act -> World -> Prop) (h1 : c.wp P (qLX (J tmps ds) Q) ⟨tmps, ds⟩ w) (h2 : ∀ a w, J tmps ds a w -> Q .normal a w) : c.wp P Q ⟨tmps, ds⟩ w := by
 intro b k cs; obtain ⟨e, a₁, w₁, hq, harr⟩ := h1 b k cs; refine ⟨e, a₁, w₁, ?_, harr⟩; cases e with
 | normal => exact h2 _ _ hq
 | _ => exact hq
def qMm (f : Nat -> Prop) : List Nat -> Prop
 | [] => True
 | i :: r => f i /\ qMm f r
theorem qMm.mem {f : Nat -> Prop} : ∀ {l : List Nat}, qMm f l -> ∀ i ∈ l, f i
 | [], _, _, h => by cases h
 | j :: r, h, i, hi => by
  rcases List.mem_cons.1 hi with rfl | hi
  ·exact h.1
  ·exact qMm.mem h.2 i hi
end
end Go.Proofs.Ytlmbebbdamgfpaa
