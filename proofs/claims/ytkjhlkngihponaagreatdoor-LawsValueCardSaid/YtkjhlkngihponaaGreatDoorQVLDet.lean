/- A part of the proof. -/
import Derived.Test.YtkjhlkngihponaaGreatDoorQVRegLast
import Derived.Lib.ItoaNum
import Derived.Deep.LoopGhost
import Derived.WalkMore
import Derived.Test.YtkjhlkngihponaaGreatDoorQVGCat
import Derived.Test.YtkjhlkngihponaaGreatDoorQVWDiv
set_option linter.unusedVariables false
set_option linter.unusedSimpArgs false
set_option maxHeartbeats 4000000
set_option maxRecDepth 100000
namespace Go.Proofs.YtkjhlkngihponaaGreatDoor

structure KnI (D N0 n m k : Nat) (N Q : List Nat) : Prop where
 len : N.length = m + n
 low : Low W2 N
 qlen : Q.length = m
 qlow : Low W2 Q
 zero : ∀ j (h : j < Q.length), j < k -> Q[j] = 0
 eq : val W2 N + D * val W2 Q = N0
 lt : val W2 N < D * W2 ^ k
theorem KnI.start (D N0 n m : Nat) (N : List Nat) (hl : N.length = m + n) (lN : Low W2 N) (hv : val W2 N = N0) (hlt : N0 < D * W2 ^ m) : KnI D N0 n m m N (List.replicate m 0) := by
 refine ⟨hl, lN, by simp, fun x hx => by rw [(List.mem_replicate.1 hx).2]; decide, fun j h _ => by simp, ?_, by omega⟩; rw [qBL W2 _ (fun x hx => (List.mem_replicate.1 hx).2)]; omega
theorem KnI.split {D N0 n m a : Nat} {N Q : List Nat} (h : KnI D N0 n m (a + 1) N Q) (ha : a < m) : ∃ A P C, N = A ++ P ++ C /\ A.length = a /\ P.length = n + 1 /\ A.length + P.length + C.length = m + n /\ Low W2 P := by
 refine ⟨N.take a, (N.drop a).take (n + 1), (N.drop a).drop (n + 1), ?_, ?_, ?_, ?_, qDs (fun x hx => h.low x (List.mem_of_mem_drop hx)) _⟩
 ·rw [List.append_assoc, List.take_append_drop, List.take_append_drop]
 ·rw [List.length_take, h.len]; omega
 ·rw [List.length_take, List.length_drop, h.len]; omega
 ·rw [List.length_take, List.length_take, List.length_drop, List.length_drop, List.length_drop, h.len]; omega
theorem qPC (A P C : List Nat) : val W2 (A ++ P ++ C) = val W2 A + W2 ^ A.length * val W2 P + W2 ^ A.length * W2 ^ P.length * val W2 C := by
 rw [List.append_assoc, qAF, qAF, Nat.mul_add, <- Nat.mul_assoc, Nat.add_assoc]
theorem KnI.high {D N0 n m a : Nat} {A P C Q : List Nat} (h : KnI D N0 n m (a + 1) (A ++ P ++ C) Q) (hA : A.length = a) (hP : P.length = n + 1) (hD : D < W2 ^ n) : val W2 C = 0 /\ val W2 P < D * W2 := by
 have h1 := h.lt; rw [qPC, hA, hP, Nat.pow_succ W2 a, Nat.pow_succ W2 n] at h1; have hX : 0 < W2 ^ a := Nat.pow_pos (by decide); have hc : val W2 C = 0 := by
  rcases Nat.eq_zero_or_pos (val W2 C) with h0 | h0
  ·exact h0
  ·have h2 : W2 ^ a * (W2 ^ n * W2) * 1 <= W2 ^ a * (W2 ^ n * W2) * val W2 C := Nat.mul_le_mul_left _ h0
   have h3 : D * (W2 ^ a * W2) <= W2 ^ n * (W2 ^ a * W2) := Nat.mul_le_mul_right _ (Nat.le_of_lt hD); have h4 : W2 ^ n * (W2 ^ a * W2) = W2 ^ a * (W2 ^ n * W2) := by rw [Nat.mul_left_comm]
   omega
 refine ⟨hc, ?_⟩; rw [hc, Nat.mul_zero, Nat.add_zero] at h1; have h5 : W2 ^ a * val W2 P < W2 ^ a * (D * W2) := by
  rw [Nat.mul_left_comm D] at h1; omega
 exact Nat.lt_of_mul_lt_mul_left h5
theorem KnI.next {D N0 n m a : Nat} {A P C Q : List Nat} (h : KnI D N0 n m (a + 1) (A ++ P ++ C) Q) (ha : a < Q.length) (hA : A.length = a) (hP : P.length = n + 1) (hD : D < W2 ^ n) (P' : List Nat) (x : Nat) (hP' : P'.length = n + 1) (lP' : Low W2 P') (hx : x < W2)
 (he : val W2 P' + x * D = val W2 P) (hlt : val W2 P' < D) : KnI D N0 n m a (A ++ P' ++ C) (Q.set a x) := by
 have hc := (h.high hA hP hD).1; have hX : 0 < W2 ^ a := Nat.pow_pos (by decide); have lA : Low W2 A := fun y hy => h.low y (by simp [hy]); have vA := qBj W2 (by decide) A lA; rw [hA] at vA; refine ⟨?_, ?_, by rw [List.length_set]; exact h.qlen, qAT h.qlow _ _ hx, fun j hj hja => ?_, ?_, ?_⟩
 ·have := h.len
  simp only [List.length_append] at this ⊢; omega
 ·exact qDQ (qDQ lA lP') (fun y hy => h.low y (by simp [hy]))
 ·rw [List.getElem_set_ne (by omega)]
  exact h.zero j (by rw [List.length_set] at hj; exact hj) (by omega)
 ·have e1 := qBw W2 Q a x ha
  rw [h.zero a ha (by omega), Nat.zero_mul, Nat.add_zero] at e1; have e2 := h.eq; rw [qPC, hc, hA, Nat.mul_zero, Nat.add_zero, <- he] at e2; rw [qPC, hc, hA, e1, Nat.mul_zero, Nat.add_zero]; generalize W2 ^ a = X at *; generalize val W2 P' = p at *; generalize val W2 A = q at *; generalize val W2 Q = r at *
  grind
 ·rw [qPC, hc, hA, Nat.mul_zero, Nat.add_zero]
  have h1 : W2 ^ a * (val W2 P' + 1) <= W2 ^ a * D := Nat.mul_le_mul_left _ hlt; rw [Nat.mul_add, Nat.mul_one] at h1; rw [Nat.mul_comm D]; omega
theorem KnI.done {D N0 n m : Nat} {N Q : List Nat} (h : KnI D N0 n m 0 N Q) (hD : D < W2 ^ n) : val W2 Q = N0 / D /\ val W2 (N.take n) = N0 % D := by
 have h1 := h.lt; have h2 := h.eq; rw [Nat.pow_zero, Nat.mul_one] at h1; have hp : 0 < D := by omega
 have hq : N0 / D = val W2 Q /\ N0 % D = val W2 N := by
  refine (Nat.div_mod_unique hp).2 ⟨by omega, h1⟩
 refine ⟨hq.1.symm, ?_⟩; rw [hq.2]; have h3 : N = N.take n ++ N.drop n := (List.take_append_drop n N).symm; have hl : (N.take n).length = n := by rw [List.length_take, h.len]; omega
 have h4 : val W2 N = val W2 (N.take n) + W2 ^ n * val W2 (N.drop n) := by
  conv => lhs; rw [h3]
  rw [qAF, hl]
 rcases Nat.eq_zero_or_pos (val W2 (N.drop n)) with h0 | h0
 ·rw [h0] at h4; omega
 ·have : W2 ^ n * 1 <= W2 ^ n * val W2 (N.drop n) := Nat.mul_le_mul_left _ h0
  omega
structure InI (D n : Nat) (P : List Nat) (q f : Nat) (P' : List Nat) : Prop where
 len : P'.length = n + 1
 low : Low W2 P'
 fl : f <= 1
 ql : q < W2
 ge : val W2 P / D <= q
 eq : val W2 P' + q * D = val W2 P + f * W2 ^ (n + 1)
theorem InI.done {D n : Nat} {P : List Nat} {q : Nat} {P' : List Nat} (h : InI D n P q 0 P') (hD : 0 < D) : val W2 P' + q * D = val W2 P /\ val W2 P' < D := by
 have h1 := h.eq; rw [Nat.zero_mul, Nat.add_zero] at h1; refine ⟨h1, ?_⟩; have h2 := (Nat.div_lt_iff_lt_mul hD).1 (Nat.lt_succ_of_le h.ge); rw [Nat.succ_mul] at h2; omega
theorem InI.less {D n : Nat} {P : List Nat} {q : Nat} {P' : List Nat} (h : InI D n P q 1 P') (hD : 0 < D) : 0 < q /\ ∀ P2 f, P2.length = n + 1 -> Low W2 P2 -> f <= 1 -> val W2 P2 + f * W2 ^ (n + 1) = val W2 P' + D -> InI D n P (q - 1) (1 - f) P2 := by
 have h1 := h.eq; rw [Nat.one_mul] at h1; have h2 := qBj W2 (by decide) P' h.low; rw [h.len] at h2; have h3 : val W2 P / D < q := by
  refine (Nat.div_lt_iff_lt_mul hD).2 ?_; omega
 have hq0 : 0 < q := Nat.zero_lt_of_lt h3; refine ⟨hq0, fun P2 f hl lo hf he => ⟨hl, lo, by omega, by have := h.ql; omega, Nat.le_sub_one_of_lt h3, ?_⟩⟩; clear h3; obtain ⟨r, rfl⟩ : ∃ r, q = r + 1 := ⟨q - 1, by omega⟩; rw [Nat.add_sub_cancel]; rw [Nat.add_mul, Nat.one_mul] at h1; rcases (show f = 0 \/ f = 1 by omega) with rfl | rfl
 ·simp only [Nat.zero_mul, Nat.sub_zero, Nat.one_mul] at *; omega
 ·simp only [Nat.sub_self, Nat.zero_mul, Nat.one_mul] at *; omega
theorem qIY (x : Nat) (h0 : 0 < x) (h : x < 4294967296) : 32 - Lib.bitLen x < 32 /\ 2147483648 <= x * 2 ^ (32 - Lib.bitLen x) /\ x * 2 ^ (32 - Lib.bitLen x) < 4294967296 := by
 obtain ⟨h1, h2, h3⟩ := Lib.bitLenAux_bounds 64 x (Nat.lt_trans h (by decide)) (by omega); have hL := qJE x h; unfold Lib.bitLen at *; generalize Lib.bitLenAux 64 x = L at *; have e1 : 2 ^ (L - 1) * 2 ^ (32 - L) = 2147483648 := by
  rw [<- Nat.pow_add, show L - 1 + (32 - L) = 31 by omega]
 have e2 : 2 ^ L * 2 ^ (32 - L) = 4294967296 := by
  rw [<- Nat.pow_add, show L + (32 - L) = 32 by omega]
 refine ⟨by omega, ?_, ?_⟩
 ·rw [<- e1]; exact Nat.mul_le_mul_right _ h2
 ·rw [<- e2]; exact Nat.mul_lt_mul_of_pos_right h3 (Nat.pow_pos (by decide))
open Go.RowKit
theorem qMI (d n s : Nat) (L : List Nat) (hB : (qAd W2 d).length = n) (h1 : 1 <= n) (hx : n - 1 < (qAd W2 d).length) (hs : s = 32 - Lib.bitLen (qAd W2 d)[n - 1]) (hL : L.length = n + 1) (lL : Low W2 L) (hv : val W2 L = d * 2 ^ s) :
 s < 32 /\ (L.take n).length = n /\ Low W2 (L.take n) /\ val W2 (L.take n) = d * 2 ^ s /\ d * 2 ^ s < W2 ^ n /\ ∀ h : n - 1 < (L.take n).length, 2147483648 <= (L.take n)[n - 1] := by
 have hlow := qAl W2 qAg d; have hxl : (qAd W2 d)[n - 1] < 4294967296 := hlow _ (List.getElem_mem hx); have hx0 : 0 < (qAd W2 d)[n - 1] := by
  refine Nat.pos_of_ne_zero fun h0 => qFd W2 qAg d ?_; rw [List.getLast?_eq_getElem?, hB, List.getElem?_eq_getElem hx, h0]
 obtain ⟨b1, b2, b3⟩ := qIY _ hx0 hxl; rw [<- hs] at b1 b2 b3; have hT : val W2 (qAd W2 d) = d := qAj W2 qAg d; have e1 := qFV (qAd W2 d) n hB h1 hx; have e2 := qBN (qAd W2 d) (n - 1) hlow (by omega); rw [hT] at e1; have hX : 0 < W2 ^ (n - 1) := Nat.pow_pos (by decide); have hS : 0 < 2 ^ s := Nat.pow_pos (by decide); have hW := qEm n h1; have b4 : ((qAd W2 d)[n - 1] + 1) * 2 ^ s <= 4294967296 := by
  obtain ⟨t, ht⟩ : ∃ t, 4294967296 = 2 ^ s * t := ⟨2 ^ (32 - s), by rw [<- Nat.pow_add, show s + (32 - s) = 32 by omega]⟩; rw [ht, Nat.mul_comm ((qAd W2 d)[n - 1]) (2 ^ s)] at b3; have := Nat.lt_of_mul_lt_mul_left b3; rw [ht, Nat.mul_comm]; exact Nat.mul_le_mul_left _ this
 generalize (qAd W2 d)[n - 1] = x at *; generalize val W2 ((qAd W2 d).take (n - 1)) = lo at *; have c1 : 2147483648 * W2 ^ (n - 1) <= d * 2 ^ s := by
  have h2 : x * 2 ^ s * W2 ^ (n - 1) <= d * 2 ^ s := by
   rw [Nat.mul_right_comm]; exact Nat.mul_le_mul_right _ (by omega)
  exact Nat.le_trans (Nat.mul_le_mul_right _ b2) h2
 have c2 : d * 2 ^ s < W2 ^ n := by
  have h2 : d * 2 ^ s < (x + 1) * W2 ^ (n - 1) * 2 ^ s := Nat.mul_lt_mul_of_pos_right (by rw [Nat.add_mul, Nat.one_mul]; omega) hS; have h3 : (x + 1) * W2 ^ (n - 1) * 2 ^ s <= W2 ^ n := by
   rw [Nat.mul_right_comm, hW]; exact Nat.mul_le_mul_right _ b4
  omega
 have hl : (L.take n).length = n := by rw [List.length_take, hL]; omega
 have hlowT := qDs lL n; have hvt : val W2 (L.take n) = d * 2 ^ s := by
  have h3 : L = L.take n ++ L.drop n := (List.take_append_drop n L).symm; have h4 : val W2 L = val W2 (L.take n) + W2 ^ n * val W2 (L.drop n) := by
   conv => lhs; rw [h3]
   rw [qAF, hl]
  rcases Nat.eq_zero_or_pos (val W2 (L.drop n)) with h0 | h0
  ·rw [h0] at h4; omega
  ·have : W2 ^ n * 1 <= W2 ^ n * val W2 (L.drop n) := Nat.mul_le_mul_left _ h0
   omega
 refine ⟨b1, hl, hlowT, hvt, c2, fun h => ?_⟩; have e3 := qFV (L.take n) n hl h1 h; have e4 := qBN (L.take n) (n - 1) hlowT (by omega); rw [hvt] at e3; have e5 : 2147483648 * W2 ^ (n - 1) < ((L.take n)[n - 1] + 1) * W2 ^ (n - 1) := by
  rw [Nat.add_mul, Nat.one_mul]; omega
 have := Nat.lt_of_mul_lt_mul_right e5; omega
theorem qMU (m d : Nat) (hd : d ≠ 0) : m < d * W2 ^ ((qAd W2 m).length - (qAd W2 d).length + 1) := by
 have h1 := qBj W2 (by decide) _ (qAl W2 qAg m); rw [qAj W2 qAg] at h1; have h2 : W2 ^ ((qAd W2 d).length - 1) <= d := by
  rcases Nat.lt_or_ge d (W2 ^ ((qAd W2 d).length - 1)) with h | h
  ·have := qAM W2 qAg _ _ h
   have h0 : 0 < (qAd W2 d).length := qId.2 hd; omega
  ·exact h
 have h3 : W2 ^ (qAd W2 m).length <= W2 ^ ((qAd W2 d).length - 1 + ((qAd W2 m).length - (qAd W2 d).length + 1)) := Nat.pow_le_pow_right (by decide) (by omega); rw [Nat.pow_add] at h3; exact Nat.lt_of_lt_of_le h1 (Nat.le_trans h3 (Nat.mul_le_mul_right _ h2))
theorem Blk.part {w : World} {g : Nat} {A P C : List Nat} (h : Blk w g 151 .u32 (A ++ P ++ C)) (cap : Nat) (h1 : P.length <= cap) (h2 : cap <= 9223372036854775807) : qAb .u32 w (.slice (some ⟨g, A.length, none⟩) P.length cap) P :=
 ⟨_, cap, rfl, h1, h2, fun _ => ⟨g, A.length, rfl, h.lt, fun j hj => h.mid j hj⟩⟩
theorem Blk.front {w : World} {g n : Nat} {L : List Nat} (h : Blk w g 151 .u32 L) (hn : n <= L.length) (cap : Nat) (h1 : n <= cap) (h2 : cap <= 9223372036854775807) : qAb .u32 w (.slice (some ⟨g, 0, none⟩) n cap) (L.take n) := by
 have hl : (L.take n).length = n := by rw [List.length_take]; omega
 refine ⟨_, cap, by rw [hl], by omega, h2, fun _ => ⟨g, 0, rfl, h.lt, fun j hj => ?_⟩⟩; rw [List.getElem_take, Nat.zero_add]; exact h.cell j (by omega)
theorem qIz (va vb : Value) (m d : Nat) (w : World) (ha : qAD w va m) (hb : qAD w vb d) (hm : m < LIM) (hd : W2 <= d) (hdm : d <= m) :
 Calls Tryz.prog 113 #[va, vb] w (qIP m d w) := by
 obtain ⟨i0, hi, hz0, hz1, hz2⟩ := info_parts qD7; have Hi := hZ hi; have Hz0 := hZ hz0; have Hz1 := hZ hz1; have Hz2 := hZ hz2; clear hi hz0 hz1 hz2; have Ha := hZ ha; have Hb := hZ hb; have hla := (qAX m).2 hm; have hlb := (qAX d).2 (by omega); have hle := qAU W2 qAg d m hdm; have hl2 : 1 < (qAd W2 d).length := qFc W2 qAg 1 d (by rw [Nat.pow_one]; exact hd); have Hpow := hZ (qMU m d (by unfold W2 at hd; omega)); have Hcmp := hZ (qBT va vb m d w ha hb (by omega) (by omega)); have hc3 : ¬ (qAB (m : Int) (d : Int) < 0) := by
  unfold qAB; rw [if_neg (by omega)]
  split <;> simp
 generalize qAB (m : Int) (d : Int) = C at *; obtain ⟨aa, ca, rfl, h1, h2, h3⟩ := ha; obtain ⟨ab, cb, rfl, h4, h5, h6⟩ := hb; have hx : (qAd W2 d).length - 1 < (qAd W2 d).length := by omega
 obtain ⟨b, off, rfl, hbl, hcell⟩ := h6 (by omega); have c0 := hcell _ hx; have hxl : (qAd W2 d)[(qAd W2 d).length - 1] < 4294967296 := qAl W2 qAg d _ (List.getElem_mem hx); have hx0 : 0 < (qAd W2 d)[(qAd W2 d).length - 1] := by
  refine Nat.pos_of_ne_zero fun h0 => qFd W2 qAg d ?_; rw [List.getLast?_eq_getElem?, List.getElem?_eq_getElem hx, h0]
 have Hnorm := hZ (fun s L => qMI d (qAd W2 d).length s L rfl (by omega) hx); have Hls := hZ (fun (w' : World) s (hB : Below w.heap.size w w') => qEH _ (qAd W2 m) s w' (qAb.below Ha.o (Nat.le_refl _) hB) (qAl W2 qAg m)); have Hls2 := hZ (fun (w' : World) s (hB : Below w.heap.size w w') => qEH _ (qAd W2 d) s w' (qAb.below Hb.o (Nat.le_refl _) hB) (qAl W2 qAg d)); rw [qAj W2 qAg] at Hls Hls2; clear h3 h6 hcell; generalize (qAd W2 d)[(qAd W2 d).length - 1] = x at *; generalize (qAd W2 m).length = M at *; generalize (qAd W2 d).length = n at *; have Hc := hZ c0; have Hdm := hZ hdm; have Hd := hZ hd; have hne1 : ((n : Int) == 1) = false := by simp; omega
 have i1 : (0 : Int) <= (n : Int) - 1 := by omega
 have i2 : (n : Int) - 1 < (n : Int) := by omega
 have i3 : ((n : Int) - 1).toNat = n - 1 := by omega
 clear c0 hm hdm hd hlb
 go_enter Tryz.func113, Tryz.ntmps113
 go_wp2_with fail
 refine wp_scope_straight ?_
 go_wp2_with fail
 refine Hcmp.o.mono ?_; rintro e w' ⟨rfl, k, rfl⟩; have c1 : (w.drewN k).cell? ⟨b, off + (n - 1), none⟩ = some (.int .u32 (x : Int)) := Hc.o
 go_wp2_with fail
 refine (qMP x _ hxl).mono ?_; rintro e w' ⟨rfl, rfl⟩; obtain ⟨s, hs⟩ := eX (32 - Lib.bitLen x); have Hs := hZ hs; have hs32 : s < 32 := by rw [<- hs]; exact (qIY x hx0 hxl).1
 rw [hs]; clear hs Hcmp c1; have HBk : Hid (Below w.heap.size w (w.drewN k)) := hZ ⟨rfl, rfl, rfl, Nat.le_refl _, fun _ _ => rfl⟩; obtain ⟨w1, hw1⟩ := eX (w.drewN k); have hz1 : w.heap.size = w1.heap.size := by rw [<- hw1]; rfl
 have Hzw := hZ hz1; rw [hw1] at HBk ⊢; clear hw1 hz1
 go_wp2_with fail
 refine qD5 9 (fun _ => True) (by kernel_rfl) (trivial) (fun hHeld => ?_); refine kU 0 45 ?_; refine kU 1 46 ?_; refine kU 3 48 ?_; refine kU 4 49 ?_; refine kU 6 51 ?_; refine qBO 2 (by kernel_rfl) rfl (fun K hK => ?_); go_simp; refine (Hls.o w1.drew s (HBk.o.drew) hs32 (by omega)).mono ?_; rintro e w2 ⟨N0, rfl, hblk2, lN, hlN, hvN, hB2⟩; obtain ⟨g1, hg1⟩ := eX w1.drew.heap.size; have Hg1 := hZ (show w1.heap.size = g1 from hg1); rw [hg1] at hblk2 hB2 ⊢; have HN := hZ (And.intro lN (And.intro hlN hvN)); have HblkN := hZ hblk2; have HB2 := hZ (HBk.o.drew.trans (by rw [Hzw.o, Hg1.o]; exact hB2)); have hz2 : g1 < w2.heap.size := hblk2.lt; clear hg1 hblk2 hB2 lN hlN hvN
 go_wp2_with fail
 refine hK.out _ _ (trivial) (fun hHeld => ?_); clear hK K
 try simp only [Act.put, List.setIfInBounds_toArray, List.set_cons_zero, List.set_cons_succ]
 refine qBO 5 (by kernel_rfl) rfl (fun K hK => ?_); go_simp; refine (Hls2.o w2 s HB2.o hs32 (by omega)).mono ?_; rintro e w3 ⟨D0, rfl, hblk3, lD, hlD, hvD, hB3⟩; obtain ⟨g2, hg2⟩ := eX w2.heap.size; have Hg2 := hZ hg2; rw [hg2] at hblk3 hB3 hz2 ⊢; obtain ⟨-, nl, nlow, nv, nlt, ntop⟩ := Hnorm.o s D0 Hs.o.symm hlD lD hvD; have Hnl := hZ nl; have Hnlow := hZ nlow; have Hnv := hZ nv; have Hnlt := hZ nlt; have Hntop := hZ ntop; have HblkD := hZ hblk3; have HblkN3 := hZ (HblkN.o.below hB3 hz2); have HB3 := hZ (HB2.o.trans (hB3.mono (by rw [Hzw.o, Hg1.o]; omega))); have hz3 : g2 < w3.heap.size := hblk3.lt; clear hg2 hblk3 hB3 lD hlD hvD nl nlow nv nlt ntop Hnorm HblkN HB2
 go_wp2_with fail
 refine hK.out _ _ (trivial) (fun hHeld => ?_); clear hK K
 try simp only [Act.put, List.setIfInBounds_toArray, List.set_cons_zero, List.set_cons_succ]
 have i9 : (n : Int) <= (n : Int) + 1 := by omega
 refine kU 7 52 ?_; refine qBO 8 (by kernel_rfl) rfl (fun K hK => ?_); go_simp
 go_wp2_with fail
 refine hK.out _ _ (trivial) (fun hHeld => ?_); clear hK K
 try simp only [Act.put, List.setIfInBounds_toArray, List.set_cons_zero, List.set_cons_succ]
 refine qOg (by kernel_rfl) rfl (by kernel_rfl) (fun K hK => ?_); go_simp; refine hK.out _ _ ?_; clear hK K
 try simp only [Act.put, List.setIfInBounds_toArray, List.set_cons_zero, List.set_cons_succ]
 clear hHeld; obtain ⟨m1, hm1⟩ := eX (M - n + 1); have hm1I : (M : Int) - (n : Int) + 1 = (m1 : Int) := by omega
 have Hm1 := hZ hm1; clear hm1
 go_wp2_with (at_make; refine qAt _ rfl _ _ 71 rfl 151 i0 .u32 Tryz.underlying71 Hi.o Hz0.o Hz1.o _ _ _ _ m1 rfl rfl rfl rfl (by rw [Hz2.o]; omega) (by omega) ?_)
 intro w4 hblk4 hB4 hz4; obtain ⟨gq, hgq⟩ := eX w3.heap.size; rw [hgq] at hblk4 hB4 hz4 hz3 ⊢; have HblkQ := hZ hblk4; have HblkD4 := hZ (HblkD.o.below hB4 hz3); have HblkN4 := hZ (HblkN3.o.below hB4 (by omega)); have hgs : w.heap.size <= g1 := by rw [Hzw.o, Hg1.o]; exact Nat.le_refl _
 have HB4 := hZ (HB3.o.trans (hB4.mono (by omega))); clear hgq hblk4 hB4 HblkD HblkN3 HB3
 go_wp2
 go_step3
 go_wp2
 have HK0 : Hid (KnI (d * 2 ^ s) (m * 2 ^ s) n m1 m1 N0 (List.replicate m1 0)) := hZ (KnI.start _ _ n m1 N0 (by rw [HN.o.2.1, <- Hm1.o]; omega) HN.o.1 HN.o.2.2 (by
  rw [Nat.mul_right_comm, <- Hm1.o]; exact Nat.mul_lt_mul_of_pos_right Hpow.o (Nat.pow_pos (by decide))))
 have hm1b : m1 + n = M + 1 := by rw [<- Hm1.o]; omega
 have HDl := hZ (show n <= D0.length by have := Hnl.o; rw [List.length_take] at this; omega); have hDp : Hid (0 < d * 2 ^ s) := hZ (Nat.mul_pos (by have := Hd.o; unfold W2 at this; omega) (Nat.pow_pos (by decide))); clear hm1I i1 i2 i3 hne1 hc3
 go_loopg [13] m1 (fun g av wr => ∃ (N Q : List Nat), g <= m1 /\ av = .int .i64 ((g : Int) - 1) /\ Hid (KnI (d * 2 ^ s) (m * 2 ^ s) n m1 g N Q) /\ Hid (Blk wr g1 151 .u32 N) /\ Hid (Blk wr gq 151 .u32 Q) /\ Hid (Blk wr g2 151 .u32 D0) /\ Hid (Below w.heap.size w wr))
 case atStart => exact ⟨N0, _, Nat.le_refl _, rfl, HK0, HblkN4, HblkQ, HblkD4, HB4⟩
 case round =>
  obtain ⟨N, Q, hg, rfl, hK, hbN, hbQ, hbD, hB⟩ := hrel; clear HK0 HblkN4 HblkQ HblkD4 HB4; obtain ⟨wo, hwo⟩ : ∃ wo, wo = wr := ⟨_, rfl⟩; subst hwo; cases gk with
  | zero =>
   have hdone := hK.out.done Hnlt.o; have e1 : ((0 : Nat) : Int) - 1 = -1 := by omega
   rw [e1]; have hS0 : 0 < 2 ^ s := Nat.pow_pos (by decide); have hq1 : val W2 Q = m / d := by rw [hdone.1, Nat.mul_div_mul_right _ _ hS0]
   have hr1 : val W2 (N.take n) / 2 ^ s = m % d := by rw [hdone.2, Nat.mul_mod_mul_right, Nat.mul_div_cancel _ hS0]
   have hQl := hK.out.qlen; have hNl := hK.out.len; have hQrow := qAb.of_blk (hbQ.o.drew) (cap := m1) (by omega) (by omega); rw [hQl] at hQrow; have Htrim := hZ (qCa (.slice (some ⟨gq, 0, none⟩) m1 m1) Q wo.drew hQrow hK.out.qlow (by omega)); have hNrow := (hbN.o.drew).front (n := n) (by omega) (M + 1) (by omega) (by omega); have Hshr := hZ (qHZ (.slice (some ⟨g1, 0, none⟩) n (M + 1)) (N.take n) s wo.drew hNrow (qDs hK.out.low n) hs32 (by rw [List.length_take]; omega)); rw [hq1] at Htrim; rw [hr1] at Hshr; have i10 : (n : Int) <= (M : Int) + 1 := by omega
   clear hq1 hr1 hdone hQrow hNrow hQl hNl e1 hS0
   go_wp2_with fail
   refine qD5 8 (fun _ => True) (by kernel_rfl) (trivial) (fun hHeld => ?_); refine kU 0 93 ?_; refine kU 2 95 ?_; refine kU 3 96 ?_; refine kU 4 97 ?_; refine kU 5 98 ?_; refine qBO 1 (by kernel_rfl) rfl (fun K hK => ?_); go_simp; refine Htrim.o.mono ?_; rintro e w5 ⟨vq, rfl, hvq, rfl⟩; have Hvq := hZ hvq; clear hvq Htrim
   go_wp2_with fail
   refine hK.out _ _ (trivial) (fun hHeld => ?_); clear hK K
   try simp only [Act.put, List.setIfInBounds_toArray, List.set_cons_zero, List.set_cons_succ]
   refine qBO 6 (by kernel_rfl) rfl (fun K hK => ?_); go_simp; refine Hshr.o.mono ?_; rintro e w6 ⟨vr, rfl, hvr, hB6⟩; have Hvr := hZ hvr; have HB6 := hZ hB6; clear hvr hB6 Hshr
   go_wp2_with fail
   refine hK.out _ _ (trivial) (fun hHeld => ?_); clear hK K
   try simp only [Act.put, List.setIfInBounds_toArray, List.set_cons_zero, List.set_cons_succ]
   refine qBO 7 (by kernel_rfl) rfl (fun K hK => ?_); go_simp
   go_wp2_with fail
   refine hK.out _ _ (trivial) (fun hHeld => ?_); clear hK K
   try simp only [Act.put, List.setIfInBounds_toArray, List.set_cons_zero, List.set_cons_succ]
   refine qOg (by kernel_rfl) rfl (by kernel_rfl) (fun K hK => ?_); go_simp; refine hK.out _ _ ?_; clear hK K
   try simp only [Act.put, List.setIfInBounds_toArray, List.set_cons_zero, List.set_cons_succ]
   clear hHeld
   go_wp2
   refine bodyPost_ret (v := .tuple #[vq, vr]) (by simp [results, Tryz.results113, go_sem]) rfl ⟨?_, _, _, rfl, ?_, ?_⟩
   ·exact (show Below w.heap.size w wo.drew from ⟨hB.o.os, hB.o.tape, hB.o.output, hB.o.size, hB.o.block⟩).trans (HB6.o.mono hB.o.size)
   ·exact qAb.below Hvq.o (Nat.le_refl _) HB6.o
   ·exact Hvr.o
  | succ a =>
   obtain ⟨A, Pt, Cc, rfl, hA, hP, hAPC, lP⟩ := hK.out.split (by omega); obtain ⟨hC0, hPlt⟩ := hK.out.high hA hP Hnlt.o; have hge : (0 : Int) <= ((a + 1 : Nat) : Int) - 1 := by omega
   have hpart := hbN.o.part (M + 1 - a) (by omega) (by omega); rw [hA, hP] at hpart; have hdiv := hbD.o.front HDl.o (n + 1) (by omega) (by omega); have Hest := hZ (qOv _ _ Pt (D0.take n) n wo hpart hdiv hP Hnl.o (by omega) (by omega) lP Hnlow.o (by rw [Hnl.o]; omega) (Hntop.o _) (by rw [Hnv.o]; exact hPlt)); rw [Hnv.o] at Hest; have e1 : ((a + 1 : Nat) : Int) - 1 = (a : Int) := by omega
   rw [e1]; clear e1 hge; have hge : (0 : Int) <= (a : Int) := by omega
   have Hb := hZ (And.intro hA (And.intro hP lP)); clear hpart hdiv hC0 hPlt hA hP lP
   go_wp2_with fail
   rw [show a + n + 1 - a = n + 1 by omega]; refine Hest.o.mono ?_; rintro e w5 ⟨q, k5, rfl, hqge, hql, rfl⟩; have Hqge := hZ hqge; have hql' : q < 4294967296 := hql; have Hsub := hZ (qFY g1 a (M + 1 - a) g2 0 (n + 1) n q A Pt Cc (D0.take n) (wo.drewN k5) Hb.o.1 Hb.o.2.1 Hnl.o (by omega) (by omega) (by omega) (by omega) (by omega) (by omega) hql (hbN.o.drewN k5) Hb.o.2.2 Hnlow.o (by omega) (hbD.o.drewN k5).lt (fun j hj => by
    rw [List.getElem_take, Nat.zero_add]; exact (hbD.o.drewN k5).cell j (by have := Hnl.o; have := HDl.o; omega)))
   clear hqge hql Hest
   go_wp2_with fail
   refine Hsub.o.mono ?_; rintro e w6 ⟨P1, f1, rfl, hb6, hl6, lo6, hf6, he6, hO6⟩; rw [Hnv.o] at he6; have HI1 : Hid (InI (d * 2 ^ s) n Pt q f1 P1) := hZ ⟨hl6, lo6, hf6, hql', Hqge.o, he6⟩; have Hb6 := hZ hb6; have HO6 := hZ hO6; clear hb6 hl6 lo6 he6 hO6 Hsub
   go_wp2_with fail
   go_loopg [15, 16] q (fun g dv mv wy => ∃ (f : Nat) (P2 : List Nat), dv = .int .u64 (g : Int) /\ mv = .bool (decide (f = 1)) /\ g < 4294967296 /\ Hid (InI (d * 2 ^ s) n Pt g f P2) /\ Hid (Blk wy g1 151 .u32 (A ++ P2 ++ Cc)) /\ Hid (qAc (fun k => k = g1) (wo.drewN k5) wy))
   case atStart => exact ⟨f1, P1, rfl, rfl, hql', HI1, Hb6, HO6⟩
   case round =>
    obtain ⟨f, P2, rfl, rfl, hgl, hI, hbP, hO⟩ := hrel; clear HI1 Hb6 HO6; have hfl := hI.o.fl; have hbQ2 := hZ (hO.o.blk (hbQ.o.drewN k5) (show ¬ gq = g1 by omega)); have hbD2 := hZ (hO.o.blk (hbD.o.drewN k5) (show ¬ g2 = g1 by omega)); have hB2 : Hid (Below w.heap.size w wr) := hZ (qAc.below hO.o (show Below w.heap.size w (wo.drewN k5) from ⟨hB.o.os, hB.o.tape, hB.o.output, hB.o.size, hB.o.block⟩) hB.o.size (fun k e => by omega)); rcases (show f = 0 \/ f = 1 by omega) with rfl | rfl
    ·have hQl : a < Q.length := by rw [hK.out.qlen]; omega
     have c1 := hbQ2.o.cell a hQl; have c2 := hbQ2.o.frozen a; have hdn := hI.o.done hDp.o; have HN2 := hZ (hK.out.next hQl Hb.o.1 Hb.o.2.1 Hnlt.o P2 gk hI.o.len hI.o.low hgl hdn.1 hdn.2); have hm2 : a < m1 := by omega
     have hwr : IntKind.u32.wrap (gk : Int) = (gk : Int) := by rw [IntKind.wrap_u32]; omega
     generalize Q[a] = qa at *; clear hdn
     go_wp2_with fail
     go_roundg a
     case measure => omega
     case rel =>
      refine ⟨A ++ P2 ++ Cc, Q.set a gk, by omega, by first | rfl | go_num, HN2, hZ (hbP.o.far (p := ⟨gq, a, none⟩) (show g1 ≠ gq by omega) _), hZ (hbQ2.o.set a gk), hZ (hbD2.o.far (p := ⟨gq, a, none⟩) (show g2 ≠ gq by omega) _), hZ (hB2.o.setCell (p := ⟨gq, a, none⟩) (show w.heap.size <= gq by omega) _)⟩
    ·have hl := hI.o.less hDp.o
     have h0 := hl.1; have Hl := hZ hl.2; have hde : (gk : Int) - 1 = ((gk - 1 : Nat) : Int) := by omega
     have Hres := hZ (qGR g1 a (M + 1 - a) g2 0 (n + 1) n A P2 Cc (D0.take n) wr Hb.o.1 hI.o.len Hnl.o (by omega) (by omega) (by omega) (by omega) (by omega) (by omega) hbP.o hI.o.low Hnlow.o (by omega) hbD2.o.lt (fun j hj => by
      rw [List.getElem_take, Nat.zero_add]; exact hbD2.o.cell j (by have := Hnl.o; have := HDl.o; omega)))
     clear hl
     go_wp2_with fail
     refine Hres.o.mono ?_; rintro e w7 ⟨P3, f3, rfl, hb7, hl7, lo7, hf7, he7, hO7⟩; rw [Hnv.o] at he7; have HI2 := hZ (Hl.o P3 f3 hl7 lo7 hf7 he7); have Hb7 := hZ hb7; have HO7 := hZ (hO.o.trans hO7); clear hb7 hl7 lo7 he7 hO7 Hres Hl
     go_wp2_with fail
     go_roundg (gk - 1)
     case measure => omega
     case rel => exact ⟨1 - f3, P3, by first | rfl | go_num, by rcases (show f3 = 0 \/ f3 = 1 by omega) with rfl | rfl <;> rfl, by omega, HI2, Hb7, HO7⟩
theorem qFb {m d : Nat} (hd0 : d ≠ 0) (hm : m < LIM) (hd2 : d < LIM) : qOP m d := by
 by_cases h : m < d \/ d < W2
 ·exact qIy hd0 hm h hd2
 ·exact fun w va vb ha hb => qIz va vb m d w ha hb hm (by omega) (by omega)
theorem qMp (vx vy : Value) (x y : Int) (w : World) (hx : qAq w vx x) (hy : qAq w vy y) (hy0 : y ≠ 0) (hlx : x.natAbs < LIM) (hly : y.natAbs < LIM) :
 Calls Tryz.prog 50 #[vx, vy] w (qNL x y w) := qIA vx vy x y w hx hy hy0 hlx hly (qFb (by omega) hlx hly)
theorem qOA (x y : Int) (hy : y ≠ 0) : qOf x y * y + (rOf x y : Int) = x /\ rOf x y < y.natAbs := by
 have hp : 0 < y.natAbs := by omega
 have h1 := Nat.div_add_mod x.natAbs y.natAbs; have h2 := Nat.mod_lt x.natAbs hp; have hym : ∀ (s : Bool) (k : Nat), sgn (s != decide (y < 0)) k * y = sgn s (y.natAbs * k) := by
  intro s k; have e : ((y.natAbs * k : Nat) : Int) = (y.natAbs : Int) * (k : Int) := Int.natCast_mul _ _; unfold sgn; rw [e]; by_cases h : y < 0
  ·have hy2 : y = -(y.natAbs : Int) := by omega
   rw [decide_eq_true h]; generalize (y.natAbs : Int) = a at *; subst hy2; cases s <;> simp [Int.mul_comm, Int.mul_neg, Int.neg_mul]
  ·have hy2 : y = (y.natAbs : Int) := by omega
   rw [decide_eq_false h]; generalize (y.natAbs : Int) = a at *; subst hy2; cases s <;> simp [Int.mul_comm, Int.mul_neg, Int.neg_mul]
 by_cases h : x < 0 /\ x.natAbs % y.natAbs ≠ 0
 ·obtain ⟨hq, hr⟩ := qLa h
  rw [hq, hr, hym, decide_eq_true h.1]; refine ⟨?_, by omega⟩; unfold sgn; rw [if_pos rfl, Nat.mul_add, Nat.mul_one]; have := h.1; omega
 ·obtain ⟨hq, hr⟩ := qH4 h
  rw [hq, hr, hym]; refine ⟨?_, h2⟩; by_cases hx : x < 0
  ·rw [decide_eq_true hx]
   have h0 : x.natAbs % y.natAbs = 0 := by
    rcases Nat.eq_zero_or_pos (x.natAbs % y.natAbs) with h3 | h3
    ·exact h3
    ·exact absurd ⟨hx, by omega⟩ h
   unfold sgn; rw [if_pos rfl, h0]; rw [h0] at h1; omega
  ·rw [decide_eq_false hx]
   unfold sgn; rw [if_neg (by simp)]; omega
theorem qLq (vx vy : Value) (x y : Int) (w : World) (hx : qAq w vx x) (hy : qAq w vy y) (hlx : x.natAbs < LIM) (hly : y.natAbs < LIM) (hy0 : y ≠ 0) :
 Calls Tryz.prog 182 #[vx, vy] w (qNI (qOf x y) w) := by
 obtain ⟨ax, nx, cx, rfl, hmx⟩ := hx.form; obtain ⟨ay, ny, cy, rfl, hmy⟩ := hy.form; obtain ⟨n, hn⟩ := eX w.heap.size; have Hn := hZ hn; obtain ⟨W, hW, t1, t2, t3, hBW, hsW⟩ := qCm w 73 (.bool (decide (x < 0))) (.slice ax nx cx) (.bool (decide (y < 0))) (.slice ay ny cy) (.bool false) (.slice none 0 0) n hn; have Hm := hZ (qIA _ _ x y W (hx.below' (Nat.le_of_eq hn) hBW) (hy.below' (Nat.le_of_eq hn) hBW) hy0 hlx hly (qFb (by omega) hlx hly)); clear hx hy hmx hmy hlx hly; generalize decide (x < 0) = sx at *; generalize decide (y < 0) = sy at *; have HBW := hZ hBW; have T3 := hZ t3; have d0 := t1.cell0; have d1 := t1.cell1; have d2 := t2.cell0; have d3 := t2.cell1; clear t1 t2 t3 hBW
 go_enter Tryz.func182, Tryz.ntmps182
 go_wp2_with fail
 clear hW; refine Hm.o.mono ?_; rintro e w2 ⟨hB2, vq, vr, rfl, hq, hr⟩; obtain ⟨pa, pn, pc, rfl, hPm⟩ := hq.form; obtain ⟨ra, rn, rc, rfl, -⟩ := hr.form; have HB2 := hZ (HBW.o.trans (hB2.mono (by omega))); have T32 := T3.o.below hB2 (by omega); have HP := hZ hPm; have HS2 := hZ (show n + 1 + 1 + 1 <= w2.heap.size by have := hB2.size; omega); generalize hsp : decide (qOf x y < 0) = sp at *; generalize decide ((rOf x y : Int) < 0) = sr at *; obtain ⟨w3, hw3⟩ := eX ((w2.alloc (.cells #[.bool sp, .slice pa pn pc] 73)).alloc (.cells #[.bool sr, .slice ra rn rc] 73)); have HB3 : Hid (Below w2.heap.size w2 w3) := hZ (by rw [<- hw3]; exact aR.alloc (by simp) _); have T5 : Two w3 w2.heap.size 73 (.bool sp) (.slice pa pn pc) := by rw [<- hw3]; exact (Two.new _ _ _ _).alloc _
 have p0 := T5.cell0; have p1 := T5.cell1; have T33 := T32.below HB3.o (by have := HS2.o; omega); have g0 := T33.cell0; have g1 := T33.cell1; have f0 := T33.frozen 0; have f1 := T33.frozen 1; have HT33 := hZ T33; clear hq hr hPm hB2 T32 T5 T33 d0 d1 d2 d3 T3
 go_wp2_with fail
 exact qDC HB2.o HB3.o HS2.o HT33.o HP.o hsp Hn.o (by intro W2 h0 h1; simp [results, Tryz.results182, go_sem, h0, h1]) rfl
theorem qIg (vx vy : Value) (x y : Int) (w : World) (hx : qAq w vx x) (hy : qAq w vy y) (hlx : x.natAbs < LIM) (hly : y.natAbs < LIM) (hy0 : y ≠ 0) :
 Calls Tryz.prog 183 #[vx, vy] w (qNI (rOf x y : Int) w) := by
 obtain ⟨ax, nx, cx, rfl, hmx⟩ := hx.form; obtain ⟨ay, ny, cy, rfl, hmy⟩ := hy.form; obtain ⟨n, hn⟩ := eX w.heap.size; have Hn := hZ hn; obtain ⟨W, hW, t1, t2, t3, hBW, hsW⟩ := qCm w 73 (.bool (decide (x < 0))) (.slice ax nx cx) (.bool (decide (y < 0))) (.slice ay ny cy) (.bool false) (.slice none 0 0) n hn; have Hm := hZ (qIA _ _ x y W (hx.below' (Nat.le_of_eq hn) hBW) (hy.below' (Nat.le_of_eq hn) hBW) hy0 hlx hly (qFb (by omega) hlx hly)); clear hx hy hmx hmy hlx hly; generalize decide (x < 0) = sx at *; generalize decide (y < 0) = sy at *; have HBW := hZ hBW; have T3 := hZ t3; have d0 := t1.cell0; have d1 := t1.cell1; have d2 := t2.cell0; have d3 := t2.cell1; clear t1 t2 t3 hBW
 go_enter Tryz.func183, Tryz.ntmps183
 go_wp2_with fail
 clear hW; refine Hm.o.mono ?_; rintro e w2 ⟨hB2, vq, vr, rfl, hq, hr⟩; obtain ⟨ra, rn, rc, rfl, -⟩ := hq.form; obtain ⟨pa, pn, pc, rfl, hPm⟩ := hr.form; have HB2 := hZ (HBW.o.trans (hB2.mono (by omega))); have T32 := T3.o.below hB2 (by omega); have HP := hZ hPm; have HS2 := hZ (show n + 1 + 1 + 1 <= w2.heap.size by have := hB2.size; omega); generalize hsp : decide ((rOf x y : Int) < 0) = sp at *; generalize decide (qOf x y < 0) = sr at *; obtain ⟨w3, hw3⟩ := eX ((w2.alloc (.cells #[.bool sr, .slice ra rn rc] 73)).alloc (.cells #[.bool sp, .slice pa pn pc] 73)); have HB3 : Hid (Below w2.heap.size w2 w3) := hZ (by rw [<- hw3]; exact aR.alloc (by simp) _); have T5 : Two w3 (w2.heap.size + 1) 73 (.bool sp) (.slice pa pn pc) := by
  rw [<- hw3]; have h9 := Two.new (w2.alloc (.cells #[.bool sr, .slice ra rn rc] 73)) 73 (.bool sp) (.slice pa pn pc); simpa using h9
 have p0 := T5.cell0; have p1 := T5.cell1; have T33 := T32.below HB3.o (by have := HS2.o; omega); have g0 := T33.cell0; have g1 := T33.cell1; have f0 := T33.frozen 0; have f1 := T33.frozen 1; have HT33 := hZ T33; clear hq hr hPm hB2 T32 T5 T33 d0 d1 d2 d3 T3
 go_wp2_with fail
 exact qDC HB2.o HB3.o HS2.o HT33.o HP.o hsp Hn.o (by intro W2 h0 h1; simp [results, Tryz.results183, go_sem, h0, h1]) rfl
open Go
def qPj (J : Act -> World -> Prop) (Q : Exit -> Act -> World -> Prop) : Exit -> Act -> World -> Prop
 | .normal, a, w => J a w
 | e, a, w => Q e a w
theorem qAS {J : Act -> World -> Prop} {Q : Exit -> Act -> World -> Prop} {a : Act} {w : World} (h : J a w) : qPj J Q .normal a w := h
section
variable {P : Program} {md : Region.Mode} {ops : Array Oper} {Q : Exit -> Act -> World -> Prop} {S : World -> Prop} {last : Nat}
theorem qDF {c : Code} {tmps : Array Value} {ds : List Deferred} {w : World} (J : Array Value -> List Deferred -> Act -> World -> Prop) (h1 : c.wp P (qPj (J tmps ds) Q) ⟨tmps, ds⟩ w) (h2 : ∀ a w, J tmps ds a w -> Q .normal a w) : c.wp P Q ⟨tmps, ds⟩ w := by
 intro b k cs; obtain ⟨e, a₁, w₁, hq, harr⟩ := h1 b k cs; refine ⟨e, a₁, w₁, ?_, harr⟩; cases e with
 | normal => exact h2 _ _ hq
 | _ => exact hq
end
def Sz (k : Nat) (z : Int) : Prop := z.natAbs < 2 ^ k
theorem Sz.lim_ {k : Nat} {z : Int} (e : Nat) (he : LIM = 2 ^ e) (h : Sz k z) (hk : k <= e) : z.natAbs < LIM := by
 rw [he]; exact Nat.lt_of_lt_of_le h (Nat.pow_le_pow_right (by omega) hk)
theorem Sz.lim {k : Nat} {z : Int} (h : Sz k z) (hk : k <= 16384) : z.natAbs < LIM := h.lim_ 16384 qPf hk
theorem Sz.mono {k l : Nat} {z : Int} (h : Sz k z) (hk : k <= l) : Sz l z := Nat.lt_of_lt_of_le h (Nat.pow_le_pow_right (by omega) hk)
theorem Sz.mul {k l : Nat} {x y : Int} (h : Sz k x) (h2 : Sz l y) : Sz (k + l) (x * y) := by
 unfold Sz at *; rw [Int.natAbs_mul, Nat.pow_add]; exact Nat.mul_lt_mul'' h h2
theorem Sz.add {k : Nat} {x y : Int} (h : Sz k x) (h2 : Sz k y) : Sz (k + 1) (x + y) := by
 unfold Sz at *; rw [Nat.pow_succ]; omega
theorem Sz.sub {k : Nat} {x y : Int} (h : Sz k x) (h2 : Sz k y) : Sz (k + 1) (x - y) := by
 unfold Sz at *; rw [Nat.pow_succ]; omega
theorem Sz.neg {k : Nat} {x : Int} (h : Sz k x) : Sz k (-x) := by
 unfold Sz at *; omega
theorem Sz.of_le {k : Nat} {x y : Int} (h : Sz k x) (h2 : y.natAbs <= x.natAbs) : Sz k y := Nat.lt_of_le_of_lt h2 h
theorem Sz.zero (k : Nat) : Sz k 0 := by unfold Sz; exact Nat.pow_pos (by omega)
theorem Sz.one {k : Nat} (h : 0 < k) : Sz k 1 := by
 have : 2 ^ 1 <= 2 ^ k := Nat.pow_le_pow_right (by omega) h; unfold Sz; omega
theorem Sz.div {k : Nat} {x y : Int} (h : Sz k x) (hy : y ≠ 0) : Sz (k + 1) (x / y) := by
 unfold Sz at *; rw [Nat.pow_succ]; have h1 := Int.natAbs_ediv x y; have h2 : x.natAbs / y.natAbs <= x.natAbs := Nat.div_le_self _ _; have h3 : 0 < 2 ^ k := Nat.pow_pos (by omega)
 split at h1 <;> omega
theorem Sz.mod {k : Nat} {x y : Int} (h : Sz k y) (hy : y ≠ 0) : Sz k (x % y) := by
 unfold Sz at *; have h1 := Int.emod_nonneg x hy; have h2 := Int.emod_lt x hy; omega
attribute [irreducible] Sz
theorem qI5 (x y : Int) (hy : y ≠ 0) : qOf x y = x / y /\ (rOf x y : Int) = x % y := by
 obtain ⟨h1, h2⟩ := qOA x y hy; have h3 := Int.emod_add_mul_ediv x y; rcases Int.lt_or_gt_of_ne hy with h | h
 ·have := Int.ediv_emod_unique' (a := x) (b := y) (r := (rOf x y : Int)) (q := qOf x y) h
  obtain ⟨a, b⟩ := this.2 ⟨by rw [Int.mul_comm]; omega, by omega, by omega⟩; exact ⟨a.symm, b.symm⟩
 ·have := Int.ediv_emod_unique (a := x) (b := y) (r := (rOf x y : Int)) (q := qOf x y) h
  obtain ⟨a, b⟩ := this.2 ⟨by rw [Int.mul_comm]; omega, by omega, by omega⟩; exact ⟨a.symm, b.symm⟩
def Bx (w : World) (b : Nat) (z : Int) : Prop := ∃ s a n c, Two w b 73 (.bool s) (.slice a n c) /\ qAq w (.agg #[.bool s, .slice a n c]) z
section
variable {w w' : World} {b g : Nat} {z : Int}
theorem Bx.lt (h : Bx w b z) : b < w.heap.size := by obtain ⟨_, _, _, _, h, _⟩ := h; exact h.lt
theorem Bx.blw (h : Bx w b z) (hb : Below w.heap.size w w') : Bx w' b z := by
 obtain ⟨s, a, n, c, h1, h2⟩ := h; exact ⟨s, a, n, c, h1.below hb h1.lt, h2.below hb⟩
instance : Mv w w' (Bx w b z) (Bx w' b z) := ⟨fun hb h => Bx.blw h hb⟩
theorem Two.noInt {t : TypeId} {x y : Value} (h : Two w b t x y) (hx : ∀ i, x ≠ .int .u32 i) (hy : ∀ i, y ≠ .int .u32 i) : qAh w b := by
 intro o i he; rw [cell_of_row w b o _ t (0, 0) h] at he
 match o, he with
 | 0, he => simp at he; exact hx _ he
 | 1, he => simp at he; exact hy _ he
 | o + 2, he => simp at he
theorem Bx.noInt (h : Bx w b z) : qAh w b := by
 obtain ⟨s, a, n, c, h1, h2⟩ := h; exact h1.noInt (fun _ h => by cases h) (fun _ h => by cases h)
theorem One.noInt {t : TypeId} {x : Value} (h : One w b t x) (hx : ∀ i, x ≠ .int .u32 i) : qAh w b := by
 intro o i he; rw [cell_of_row w b o _ t (0, 0) h] at he
 match o, he with
 | 0, he => simp at he; exact hx _ he
 | o + 1, he => simp at he
theorem qGq {w : World} {a : Addr} {u : Value} (h : w.cell? a = none) : (w.setCell a u).cell? a = none := by
 unfold World.cell? at h ⊢; simp only [World.setCell, Array.getElem?_modify, if_true]; cases hh : w.heap[a.block]? with
 | none => simp
 | some x =>
  rw [hh] at h; cases x with
  | cells c e f =>
   simp only [Option.map_some]
   split
   ·rfl
   ·next hs =>
    simp [hs] at h ⊢; exact h
  | _ => simp
theorem qAh.set (h : qAh w g) (g' o : Nat) {u : Value} (hu : ∀ i, u ≠ .int .u32 i) : qAh (w.setCell ⟨g', o, none⟩ u) g := by
 intro p x he; by_cases e : (⟨g, p, none⟩ : Addr) = ⟨g', o, none⟩
 ·have h2 := h p x
  rw [e] at he h2; rcases hc : w.cell? ⟨g', o, none⟩ with _ | y
  ·rw [qGq hc] at he
   cases he
  ·rw [World.cell?_setCell_same _ _ _ hc] at he
   injection he with he; exact hu _ he
 ·rw [World.cell?_setCell_other _ _ _ _ (fun h => e h.symm)] at he
  exact h p x he
theorem qAh.below (h : qAh w g) (hb : Below w.heap.size w w') (hg : g < w.heap.size) : qAh w' g := by
 intro o x he; rw [hb.cell (p := ⟨g, o, none⟩) hg] at he; exact h o x he
def st2 (w : World) (g o1 o2 : Nat) (s : Bool) (a : Option Addr) (n c : Nat) : World := (w.setCell ⟨g, o1, none⟩ (.bool s)).setCell ⟨g, o2, none⟩ (.slice a n c)
variable {o1 o2 : Nat} {s : Bool} {a : Option Addr} {n c : Nat}
theorem qAh.off (h : qAh w b) : qAh (st2 w g o1 o2 s a n c) b := (h.set g o1 (fun _ h => by cases h)).set g o2 (fun _ h => by cases h)
theorem qAq.off {v : Value} (h : qAq w v z) (hg : qAh w g) : qAq (st2 w g o1 o2 s a n c) v z := (h.far hg _ _).far (hg.set g o1 (fun _ h => by cases h)) _ _
theorem Two.off {t : TypeId} {x y : Value} (h : Two w b t x y) (hne : b ≠ g) : Two (st2 w g o1 o2 s a n c) b t x y :=
 (Below.heap_setCell _ ⟨g, o2, none⟩ _ b hne).trans ((Below.heap_setCell w ⟨g, o1, none⟩ _ b hne).trans h)
theorem One.off {t : TypeId} {x : Value} (h : One w b t x) (hne : b ≠ g) : One (st2 w g o1 o2 s a n c) b t x :=
 (Below.heap_setCell _ ⟨g, o2, none⟩ _ b hne).trans ((Below.heap_setCell w ⟨g, o1, none⟩ _ b hne).trans h)
theorem qAo.off {t : TypeId} {cs : List Value} (h : qAo w b t cs) (hne : b ≠ g) : qAo (st2 w g o1 o2 s a n c) b t cs :=
 (Below.heap_setCell _ ⟨g, o2, none⟩ _ b hne).trans ((Below.heap_setCell w ⟨g, o1, none⟩ _ b hne).trans h)
theorem Bx.off (h : Bx w b z) (hg : qAh w g) (hne : b ≠ g) : Bx (st2 w g o1 o2 s a n c) b z := by
 obtain ⟨s, a, n, c, h1, h2⟩ := h; exact ⟨s, a, n, c, h1.off hne, h2.off hg⟩
theorem qAz.off {zs : List Int} (h : qAz w b zs) (hg : qAh w g) (hne : b ≠ g) : qAz (st2 w g o1 o2 s a n c) b zs :=
 (h.far hne hg _ _).far hne (hg.set g o1 (fun _ h => by cases h)) _ _
theorem qDA {B : Nat} {w0 : World} (h : Below B w0 w) (hg : B <= g) : Below B w0 (st2 w g o1 o2 s a n c) := (h.setCell (p := ⟨g, o1, none⟩) hg _).setCell (p := ⟨g, o2, none⟩) hg _
theorem qAc.off {S : Nat -> Prop} {w0 : World} (h : qAc S w0 w) (hg : S g) : qAc S w0 (st2 w g o1 o2 s a n c) := (h.set (p := ⟨g, o1, none⟩) hg _).set (p := ⟨g, o2, none⟩) hg _
theorem qMv : (st2 w g o1 o2 s a n c).heap.size = w.heap.size := by simp [st2, World.setCell]
theorem Bx.put {y : Int} (h : Bx w b y) (hv : qAq w (.agg #[.bool s, .slice a n c]) z) : Bx (st2 w b 0 1 s a n c) b z := by
 have hn := h.noInt; obtain ⟨s', a', n', c', h1, h2⟩ := h; exact ⟨s, a, n, c, h1.setB _ _, hv.off hn⟩
theorem Two.put1 {t : TypeId} {x y : Value} (h : Two w b t x y) : Two (st2 w b 0 1 s a n c) b t (.bool s) (.slice a n c) := h.setB _ _
theorem qAz.put' {zs : List Int} (h : qAz w g zs) (j : Nat) (hj : j < zs.length) (hv : qAq w (.agg #[.bool s, .slice a n c]) z) : qAz (st2 w g (j * 2) (j * 2 + 1) s a n c) g (zs.set j z) := by
 obtain ⟨vw, e, hm⟩ := hv; injection e with e; have e1 := congrArg (fun x => x[0]?) e; have e2 := congrArg (fun x => x[1]?) e; simp at e1 e2; subst e1 e2; exact h.put j hj ⟨_, rfl, hm⟩
theorem qAz.get {zs : List Int} (h : qAz w g zs) (j : Nat) (hj : j < zs.length) : ∃ s a n c, w.cell? ⟨g, j * 2, none⟩ = some (.bool s) /\ w.cell? ⟨g, j * 2 + 1, none⟩ = some (.slice a n c) /\ qAq w (.agg #[.bool s, .slice a n c]) zs[j] := by
 obtain ⟨a, n, c, h1, h2, h3⟩ := h.at_ j hj; exact ⟨_, a, n, c, h1, h2, h3⟩
theorem qAq.form4 {v : Value} (h : qAq w v z) : ∃ s a n c, v = .agg #[.bool s, .slice a n c] := by
 obtain ⟨a, n, c, rfl, _⟩ := h.form; exact ⟨_, _, _, _, rfl⟩
theorem Bx.new {s : Bool} {a : Option Addr} {n c : Nat} (hv : qAq w (.agg #[.bool s, .slice a n c]) z) : Bx (w.alloc (.cells #[.bool s, .slice a n c] 73)) w.heap.size z :=
 ⟨s, a, n, c, Two.new _ _ _ _, hv.below aR⟩
theorem Two.blw {t : TypeId} {x y : Value} (h : Two w b t x y) (hb : Below w.heap.size w w') : Two w' b t x y := h.below hb h.lt
instance {t : TypeId} {x y : Value} : Mv w w' (Two w b t x y) (Two w' b t x y) := ⟨fun hb h => Two.blw h hb⟩
theorem qAq.blw {v : Value} (h : qAq w v z) (hb : Below w.heap.size w w') : qAq w' v z := h.below hb
instance {v : Value} : Mv w w' (qAq w v z) (qAq w' v z) := ⟨fun hb h => qAq.blw h hb⟩
theorem qAz.blw {zs : List Int} (h : qAz w g zs) (hb : Below w.heap.size w w') : qAz w' g zs := h.below hb
instance {zs : List Int} : Mv w w' (qAz w g zs) (qAz w' g zs) := ⟨fun hb h => qAz.blw h hb⟩
theorem One.blw {t : TypeId} {x : Value} (h : One w b t x) (hb : Below w.heap.size w w') : One w' b t x := h.below hb h.lt
instance {t : TypeId} {x : Value} : Mv w w' (One w b t x) (One w' b t x) := ⟨fun hb h => One.blw h hb⟩
theorem qAo.blw {t : TypeId} {cs : List Value} (h : qAo w b t cs) (hb : Below w.heap.size w w') : qAo w' b t cs := h.below hb h.lt
instance {t : TypeId} {cs : List Value} : Mv w w' (qAo w b t cs) (qAo w' b t cs) := ⟨fun hb h => qAo.blw h hb⟩
end
def W1 (z : Int) (w : World) (e : Ending) (w' : World) : Prop :=
 ∃ s a n c, e = .returned (.agg #[.bool s, .slice a n c]) /\ qAq w' (.agg #[.bool s, .slice a n c]) z /\ Below w.heap.size w w'
theorem qNI.w1 {z : Int} {w : World} {e : Ending} {w' : World} (h : qNI z w e w') : W1 z w e w' := by
 obtain ⟨a, n, c, h1, h2, h3⟩ := h; exact ⟨_, a, n, c, h1, h2, h3⟩
section
variable {vx vy : Value} {x y : Int} {w : World} {k l : Nat}
theorem qBl (hx : qAq w vx x) (hy : qAq w vy y) (sx : Sz k x) (sy : Sz l y) (hk : k + l <= 16384) : Calls Tryz.prog 52 #[vx, vy] w (W1 (x * y) w) :=
 (qKa vx vy x y w hx hy (sx.lim (by omega)) (sy.lim (by omega)) ((sx.mul sy).lim hk)).mono (fun _ _ h => h.w1)
theorem qLd (hx : qAq w vx x) (hy : qAq w vy y) (sx : Sz k x) (sy : Sz k y) (hk : k <= 16000) : Calls Tryz.prog 185 #[vx, vy] w (W1 (x + y) w) :=
 (qLp vx vy x y w hx hy (sx.lim (by omega)) (sy.lim (by omega)) ((sx.add sy).lim (by omega))).mono (fun _ _ h => h.w1)
theorem qDP (hx : qAq w vx x) (hy : qAq w vy y) (sx : Sz k x) (sy : Sz k y) (hk : k <= 16000) : Calls Tryz.prog 51 #[vx, vy] w (W1 (x - y) w) :=
 (qKc vx vy x y w hx hy (sx.lim (by omega)) (sy.lim (by omega)) ((sx.sub sy).lim (by omega))).mono (fun _ _ h => h.w1)
theorem qD6 (hx : qAq w vx x) (hy : qAq w vy y) (sx : Sz k x) (sy : Sz l y) (hy0 : y ≠ 0) (hk : k <= 16384) (hl : l <= 16384) : Calls Tryz.prog 182 #[vx, vy] w (W1 (x / y) w) :=
 (qLq vx vy x y w hx hy (sx.lim hk) (sy.lim hl) hy0).mono (fun _ _ h => by rw [(qI5 x y hy0).1] at h; exact h.w1)
theorem qDp (hx : qAq w vx x) (hy : qAq w vy y) (sx : Sz k x) (sy : Sz l y) (hy0 : y ≠ 0) (hk : k <= 16384) (hl : l <= 16384) : Calls Tryz.prog 183 #[vx, vy] w (W1 (x % y) w) :=
 (qIg vx vy x y w hx hy (sx.lim hk) (sy.lim hl) hy0).mono (fun _ _ h => by rw [(qI5 x y hy0).2] at h; exact h.w1)
theorem qPc (hx : qAq w vx x) (sx : Sz k x) (hk : k <= 16384) : Calls Tryz.prog 62 #[vx] w (W1 (-x) w) :=
 (qN8 vx x w hx (sx.lim hk)).mono (fun _ _ ⟨v, e, h, hB⟩ => by obtain ⟨s, a, n, c, rfl⟩ := h.form4; exact ⟨s, a, n, c, e, h, hB⟩)
theorem qHb (z : Int) (h1 : -9223372036854775808 <= z) (h2 : z <= 9223372036854775807) : Calls Tryz.prog 61 #[.int .i64 z] w (W1 z w) :=
 (qGj z w h1 h2).mono (fun _ _ ⟨v, e, h, hB⟩ => by obtain ⟨s, a, n, c, rfl⟩ := h.form4; exact ⟨s, a, n, c, e, h, hB⟩)
theorem qAA (hx : qAq w vx x) (sx : Sz k x) (hk : k <= 16384) : Calls Tryz.prog 46 #[vx] w fun e w' => e = .returned (.int .i64 (qAB x 0)) /\ Below w.heap.size w w' := qF0 vx x w hx (sx.lim hk)
theorem qPp (hx : qAq w vx x) (hy : qAq w vy y) (sx : Sz k x) (sy : Sz l y) (hy0 : y ≠ 0) (hk : k <= 16384) (hl : l <= 16384) :
 Calls Tryz.prog 50 #[vx, vy] w fun e w' => ∃ s a n c s' a' n' c', e = .returned (.tuple #[.agg #[.bool s, .slice a n c], .agg #[.bool s', .slice a' n' c'], .int .i64 0]) /\ qAq w' (.agg #[.bool s, .slice a n c]) (x / y) /\ qAq w' (.agg #[.bool s', .slice a' n' c']) (x % y) /\ Below w.heap.size w w' :=
 (qMp vx vy x y w hx hy hy0 (sx.lim hk) (sy.lim hl)).mono (fun e w' ⟨hB, vq, vr, he, hq, hr⟩ => by
  obtain ⟨s, a, n, c, rfl⟩ := hq.form4; obtain ⟨s', a', n', c', rfl⟩ := hr.form4; rw [(qI5 x y hy0).1] at hq; rw [(qI5 x y hy0).2] at hr; exact ⟨s, a, n, c, s', a', n', c', he, hq, hr, hB⟩)
end
theorem qL7 (x : Int) : (qAB x 0 != 0) = decide (x ≠ 0) := by
 unfold qAB; by_cases h1 : x < 0
 ·rw [if_pos h1]; simp; omega
 ·rw [if_neg h1]
  by_cases h2 : 0 < x
  ·rw [if_pos h2]; simp; omega
  ·rw [if_neg h2]; simp; omega
section
variable {w w' w0 : World} {g o1 o2 b : Nat} {s : Bool} {a : Option Addr} {n c : Nat} {z : Int}
theorem qAq.offe {v : Value} (h : qAq w v z) (e : st2 w g o1 o2 s a n c = w') (hg : qAh w g) : qAq w' v z := e ▸ h.off hg
theorem Bx.offe (h : Bx w b z) (e : st2 w g o1 o2 s a n c = w') (hg : qAh w g) (hne : b ≠ g) : Bx w' b z := e ▸ h.off hg hne
theorem qAz.offe {zs : List Int} (h : qAz w b zs) (e : st2 w g o1 o2 s a n c = w') (hg : qAh w g) (hne : b ≠ g) : qAz w' b zs := e ▸ h.off hg hne
theorem Two.offe {t : TypeId} {x y : Value} (h : Two w b t x y) (e : st2 w g o1 o2 s a n c = w') (hne : b ≠ g) : Two w' b t x y := e ▸ h.off hne
theorem One.offe {t : TypeId} {x : Value} (h : One w b t x) (e : st2 w g o1 o2 s a n c = w') (hne : b ≠ g) : One w' b t x := e ▸ h.off hne
theorem qAo.offe {t : TypeId} {cs : List Value} (h : qAo w b t cs) (e : st2 w g o1 o2 s a n c = w') (hne : b ≠ g) : qAo w' b t cs := e ▸ h.off hne
end
theorem qAc.offs {S : Nat -> Prop} {w0 w w' : World} {g o1 o2 : Nat} {s : Bool} {a : Option Addr} {n c : Nat} (h : qAc S w0 w) (e : (w.setCell ⟨g, o1, none⟩ (.bool s)).setCell ⟨g, o2, none⟩ (.slice a n c) = w') (hg : S g) : qAc S w0 w' := by subst e; exact h.off hg
theorem bO {B : Nat} {w0 w w' : World} {g o1 o2 : Nat} {s : Bool} {a : Option Addr} {n c : Nat} (e : st2 w g o1 o2 s a n c = w') (h : Below B w0 w) (hg : B <= g) : Below B w0 w' := by subst e; exact qDA h hg
theorem qDe {z : Array Value} {n : Nat} {u : Value} (h : u ∈ Builtin.zeroCells z n) (hz : 0 < z.size) : u ∈ z := by
 unfold Builtin.zeroCells at h; obtain ⟨i, hi, rfl⟩ := Array.mem_map.1 h; have : i % z.size < z.size := Nat.mod_lt _ hz; rw [getElem!_pos z _ this]; exact Array.getElem_mem this
theorem qHO {w : World} {ops : Array Oper} {rest : List Oper} {o : Oper} {a : Act} {Q : Exit -> Act -> World -> Prop} (hgd : o.guard = none) (s x : Operand)
 (ho : o.op = .call { callee := .builtin .append, args := #[s, x], argTypes := #[77, 77] })
 (hs : a.eval s = .slice none 0 0) (g m c : Nat) (cs : List Value) (hx : a.eval x = .slice (some ⟨g, 0, none⟩) m c) (hcs : cs.length = m * 2) (hnews : ∀ j u, cs[j]? = some u -> w.cell? ⟨g, j, none⟩ = some u)
 (h0 : 0 < m) (hm : m <= 1000000)
 (h : ∀ (cap : Nat) (tl : List Value), m <= cap -> cap <= 9223372036854775807 -> (∀ u ∈ tl, u = .bool false \/ u = .slice none 0 0) -> wpList Tryz.prog ops Q rest (a.put o.dst (.slice (some ⟨w.heap.size, 0, none⟩) m cap)) (w.drew.alloc (.cells (cs ++ tl).toArray 73))) : wpList Tryz.prog ops Q (o :: rest) a w := by
 have hE : qKD Tryz.prog 77 73 2 32 := qKD.mk (z := .agg #[.bool false, .slice none 0 0]) Tryz.underlying77 (by kernel_rfl) rfl (by decide); have hz0 : (Tryz.prog.info? 73).map (fun i => (i.zero, i.size, i.bytes)) = some (some (.agg #[.bool false, .slice none 0 0]), 2, 32) := by kernel_rfl
 obtain ⟨i, hi, hz, hsize, hbyt⟩ := info_parts hz0; refine wpList_plain hgd fun K hK => ?_; have hr := run_append_nil (P := Tryz.prog) w 77 o.type 73 i _ hE.1 hi hz ⟨g, 0, none⟩ m c cs (by rw [hcs, hsize]) (fun j v hj => by
  have hadd : (⟨g, 0, none⟩ : Addr).add j = ⟨g, j, none⟩ := by unfold Addr.add; split <;> simp_all
  rw [hadd]; exact hnews j v hj) h0 (by omega) (by rw [hbyt]; omega)
 unfold Oper.wp execOp; simp only [ho, resolve, invoke, builtin, Sem.run_bind, Sem.run_pure, Result.andThen_ok, List.map_toArray, List.map_cons, List.map_nil, hs, hx, hr]; have hcap := grownCap_ge w m 0 73; have hcap2 := grownCap_le_maxLen w m 0 73 (by unfold maxLen; omega); have hh := h (grownCap w m 0 73) (Builtin.zeroCells (Value.agg #[.bool false, .slice none 0 0]).cells (grownCap w m 0 73 - m)).toList hcap (by unfold maxLen at hcap2; omega) (fun u hu => by
  have h2 := qDe (Array.mem_toList_iff.1 hu) (by simp [Value.cells]); simpa [Value.cells] using h2)
 have he : (cs ++ (Builtin.zeroCells (Value.agg #[.bool false, .slice none 0 0]).cells (grownCap w m 0 73 - m)).toList).toArray = cs.toArray ++ Builtin.zeroCells (Value.agg #[.bool false, .slice none 0 0]).cells (grownCap w m 0 73 - m) := by
  apply Array.ext'; simp
 rw [he] at hh; exact hK _ _ hh
section
variable {S : Nat -> Prop} {w w' w0 : World}
theorem qAb.only {v : Value} {L : List Nat} (h : qAb .u32 w v L) (ho : qAc S w w') (hS : ∀ b, S b -> qAh w b) : qAb .u32 w' v L := by
 obtain ⟨a, cap, hv, h1, h2, hc⟩ := h; refine ⟨a, cap, hv, h1, h2, fun h0 => ?_⟩; obtain ⟨b, off, ha, hlt, hcc⟩ := hc h0; have hn : ¬ S b := fun hs => hS b hs _ _ (hcc 0 h0); exact ⟨b, off, ha, Nat.lt_of_lt_of_le hlt ho.size, fun j hj => (ho.cell (p := ⟨b, off + j, none⟩) hn hlt).trans (hcc j hj)⟩
theorem qAq.only {v : Value} {z : Int} (h : qAq w v z) (ho : qAc S w w') (hS : ∀ b, S b -> qAh w b) : qAq w' v z := by
 obtain ⟨vw, hv, hm⟩ := h; exact ⟨vw, hv, qAb.only hm ho hS⟩
theorem Bx.only {b : Nat} {z : Int} (h : Bx w b z) (ho : qAc S w w') (hS : ∀ b, S b -> qAh w b) (hn : ¬ S b) : Bx w' b z := by
 obtain ⟨s, a, n, c, h1, h2⟩ := h; exact ⟨s, a, n, c, (ho.block b h1.lt hn).trans h1, h2.only ho hS⟩
theorem WCs.only {cs : List Value} {zs : List Int} (h : WCs w cs zs) (ho : qAc S w w') (hS : ∀ b, S b -> qAh w b) : WCs w' cs zs := by
 refine ⟨h.1, h.2.1, fun j hj => ?_⟩; obtain ⟨a, n, c, h1, h2, h3⟩ := h.2.2 j hj; exact ⟨a, n, c, h1, h2, h3.only ho hS⟩
theorem qAz.only {g : Nat} {zs : List Int} (h : qAz w g zs) (ho : qAc S w w') (hS : ∀ b, S b -> qAh w b) (hn : ¬ S g) : qAz w' g zs := by
 obtain ⟨cs, h1, h2⟩ := h; exact ⟨cs, h1.only ho hn, h2.only ho hS⟩
theorem qAc.off' {g o1 o2 : Nat} {s : Bool} {a : Option Addr} {n c : Nat} (h : qAc S w0 w) (hg : S g \/ w0.heap.size <= g) : qAc S w0 (st2 w g o1 o2 s a n c) := by
 refine ⟨h.os, h.tape, h.output, by rw [qMv]; exact h.size, fun k hk hn => ?_⟩; have hne : k ≠ g := by rintro rfl; rcases hg with h1 | h1; exact hn h1; omega
 exact (Below.heap_setCell _ ⟨g, o2, none⟩ _ k hne).trans ((Below.heap_setCell w ⟨g, o1, none⟩ _ k hne).trans (h.block k hk hn))
theorem qAc.blw (h : qAc S w0 w) (hb : Below w.heap.size w w') : qAc S w0 w' := h.trans (qAc.of_below hb)
instance : Mv w w' (qAc S w0 w) (qAc S w0 w') := ⟨fun hb h => qAc.blw h hb⟩
end
theorem qA9 {x : Int} (h : x ≠ 0) : ∃ sg, qAB x 0 = sg /\ (sg != 0) = true /\ (sg == 0) = false := by
 refine ⟨_, rfl, ?_, ?_⟩
 ·rw [qL7]; simpa using h
 ·have := qL7 x
  have h2 : (qAB x 0 != 0) = true := by rw [this]; simpa using h
  simpa using h2
theorem qCs {α : Type} {A B : List α} {j : Nat} (h : A.length = B.length) (hj : j <= B.length) : (A.take j ++ B.drop j).length = B.length := by simp; omega
theorem qMt {α : Type} {A B : List α} {j : Nat} (h : A.length = B.length) (hj : j < B.length) : (A.take j ++ B.drop j)[j]'(by rw [qCs h (by omega)]; exact hj) = B[j] := by
 rw [List.getElem_append_right (by simp; omega)]; simp [h, Nat.min_eq_left (Nat.le_of_lt hj)]
theorem qCk {α : Type} {A B : List α} {j : Nat} (h : A.length = B.length) (hj : j < B.length) : (A.take j ++ B.drop j).set j (A[j]'(by omega)) = A.take (j + 1) ++ B.drop (j + 1) := by
 refine List.ext_getElem (by simp; omega) (fun k h1 h2 => ?_); rw [List.getElem_set]
 split
 ·next e =>
  subst e; rw [List.getElem_append_left (by simp; omega), List.getElem_take]
 ·next e =>
  rcases Nat.lt_or_ge k j with hk | hk
  ·rw [List.getElem_append_left (by simp; omega), List.getElem_append_left (by simp; omega), List.getElem_take, List.getElem_take]
  ·rw [List.getElem_append_right (by simp; omega), List.getElem_append_right (by simp; omega), List.getElem_drop, List.getElem_drop]
   have h3 : (A.take j).length = j := by simp; omega
   have h4 : (A.take (j + 1)).length = j + 1 := by simp; omega
   congr 1
   omega
section
variable {w w' w0 : World} {g o1 o2 b : Nat} {s : Bool} {a : Option Addr} {n c : Nat} {z : Int}
theorem qAc.offe {S : Nat -> Prop} (h : qAc S w0 w) (e : st2 w g o1 o2 s a n c = w') (hg : S g \/ w0.heap.size <= g) : qAc S w0 w' := e ▸ h.off' hg
end
abbrev Vec := Nat -> Int
def xpd (c : Nat) : (List Vec -> Int) -> List Vec -> Int
 | _, [] => 0
 | f, r :: rs => r c * f rs - xpd c (fun l => f (r :: l)) rs
def det : List Nat -> List Vec -> Int
 | [], _ => 1
 | c :: cs, R => xpd c (det cs) R
theorem qHM (c : Nat) : ∀ (R : List Vec) (f g : List Vec -> Int), xpd c (fun l => f l - g l) R = xpd c f R - xpd c g R
 | [], f, g => by simp [xpd]
 | r :: rs, f, g => by
  simp only [xpd]; rw [qHM c rs (fun l => f (r :: l)) (fun l => g (r :: l)), Int.mul_sub]; omega
theorem qFT (c : Nat) (a : Int) : ∀ (R : List Vec) (f : List Vec -> Int), xpd c (fun l => a * f l) R = a * xpd c f R
 | [], f => by simp [xpd]
 | r :: rs, f => by
  simp only [xpd]; rw [qFT c a rs (fun l => f (r :: l)), Int.mul_sub, <- Int.mul_assoc, <- Int.mul_assoc, Int.mul_comm (r c) a]
theorem qIR (a b : Nat) : ∀ (R : List Vec) (f : List Vec -> Int), xpd a (fun l => xpd b f l) R = -xpd b (fun l => xpd a f l) R
 | [], f => by simp [xpd]
 | r :: rs, f => by
  simp only [xpd]; rw [qHM a rs, qHM b rs, qFT, qFT, qIR a b rs (fun l => f (r :: l))]
  show _ = -(r b * xpd a (fun l => f l) rs - (r a * xpd b f rs - xpd b (fun l => xpd a (fun l => f (r :: l)) l) rs))
  have e1 : xpd a (fun l => f l) rs = xpd a f rs := rfl; have e2 : xpd b (fun l => f l) rs = xpd b f rs := rfl; rw [e1]; omega
theorem qGp (a b : Nat) (cs : List Nat) (R : List Vec) : det (a :: b :: cs) R = -det (b :: a :: cs) R := qIR a b R (det cs)
theorem qNh (a : Nat) (cs : List Nat) (R : List Vec) : det (a :: a :: cs) R = 0 := by
 have := qGp a a cs R; omega
theorem qHo {s : Int} {l1 l2 : List Nat} (x : Nat) (R : List Vec) (h : ∀ R, det l1 R = s * det l2 R) : det (x :: l1) R = s * det (x :: l2) R := by
 show xpd x (det l1) R = s * xpd x (det l2) R
 rw [<- qFT, show det l1 = fun l => s * det l2 l from funext h]
theorem qGo (c : Nat) : ∀ (cs : List Nat), c ∈ cs -> ∀ R, det (c :: cs) R = 0
 | [], h, _ => by simp at h
 | b :: cs, h, R => by
  by_cases hb : c = b
  ·subst hb; exact qNh _ _ _
  ·have hc : c ∈ cs := by simpa [hb] using h
   rw [qGp, qHo (s := 0) (l2 := []) b R (fun R => by rw [qGo c cs hc R, Int.zero_mul]), Int.zero_mul]; rfl
theorem qHp (c : Nat) : ∀ (cs : List Nat), c ∈ cs -> ∃ s : Int, (s = 1 \/ s = -1) /\ ∀ R, det cs R = s * det (c :: cs.erase c) R
 | [], h => by simp at h
 | b :: cs, h => by
  by_cases hb : b = c
  ·subst hb
   exact ⟨1, .inl rfl, fun R => by rw [List.erase_cons_head, Int.one_mul]⟩
  ·have hc : c ∈ cs := by rcases List.mem_cons.1 h with h | h; exact absurd h.symm hb; exact h
   obtain ⟨s, hs, h2⟩ := qHp c cs hc; refine ⟨-s, by omega, fun R => ?_⟩; rw [qHo b R h2, qGp, List.erase_cons_tail (by simpa using hb), Int.neg_mul, Int.mul_neg]
def comb : List Int -> List Vec -> Vec
 | q :: qs, r :: rs => fun j => q * r j + comb qs rs j
 | _, _ => fun _ => 0
def xco : (List Vec -> Int) -> List Vec -> List Int
 | _, [] => []
 | f, r :: rs => f rs :: (xco (fun l => f (r :: l)) rs).map (fun x => -x)
theorem qJu : ∀ (q : List Int) (R : List Vec) (j : Nat), comb (q.map (fun x => -x)) R j = -comb q R j
 | [], R, j => by cases R <;> simp [comb]
 | x :: q, [], j => by simp [comb]
 | x :: q, r :: R, j => by simp only [List.map_cons, comb, qJu q R j, Int.neg_mul]; omega
theorem qIS (c : Nat) : ∀ (R : List Vec) (f : List Vec -> Int), xpd c f R = comb (xco f R) R c
 | [], f => by simp [xpd, comb, xco]
 | r :: rs, f => by
  simp only [xpd, xco, comb, qJu]; rw [qIS c rs, Int.mul_comm]; omega
theorem qDy (c : Nat) (cs : List Nat) (R : List Vec) : det (c :: cs) R = comb (xco (det cs) R) R c := qIS c R _
def qAa (A : List Vec) (v : Vec) : Prop := ∃ q : List Int, ∀ j, v j = comb q A j
theorem qJv : ∀ (p q : List Int) (R : List Vec), ∃ s : List Int, ∀ j, comb p R j + comb q R j = comb s R j
 | [], q, R => ⟨q, fun j => by cases R <;> simp [comb]⟩
 | p, [], R => ⟨p, fun j => by cases R <;> simp [comb]⟩
 | x :: p, y :: q, [] => ⟨[], fun j => by simp [comb]⟩
 | x :: p, y :: q, r :: R => by
  obtain ⟨s, hs⟩ := qJv p q R; refine ⟨(x + y) :: s, fun j => ?_⟩; simp only [comb, <- hs j, Int.add_mul]; omega
theorem qHr (a : Int) : ∀ (q : List Int) (R : List Vec) (j : Nat), comb (q.map (fun x => a * x)) R j = a * comb q R j
 | [], R, j => by cases R <;> simp [comb]
 | x :: q, [], j => by simp [comb]
 | x :: q, r :: R, j => by simp only [List.map_cons, comb, qHr a q R j, Int.mul_add, Int.mul_assoc]
section
variable {A : List Vec} {v w : Vec}
theorem qAa.zero : qAa A (fun _ => 0) := ⟨[], fun j => by cases A <;> simp [comb]⟩
theorem qAa.add (h : qAa A v) (h2 : qAa A w) : qAa A (fun j => v j + w j) := by
 obtain ⟨p, hp⟩ := h; obtain ⟨q, hq⟩ := h2; obtain ⟨s, hs⟩ := qJv p q A; exact ⟨s, fun j => by show v j + w j = _; rw [hp, hq, hs]⟩
theorem qAa.smul (a : Int) (h : qAa A v) : qAa A (fun j => a * v j) := by
 obtain ⟨p, hp⟩ := h; exact ⟨p.map (fun x => a * x), fun j => by show a * v j = _; rw [qHr, hp]⟩
theorem qAa.congr (h : qAa A v) (he : ∀ j, v j = w j) : qAa A w := by
 obtain ⟨p, hp⟩ := h; exact ⟨p, fun j => by rw [<- he, hp]⟩
theorem qAa.sub (h : qAa A v) (h2 : qAa A w) : qAa A (fun j => v j - w j) := (h.add (h2.smul (-1))).congr (fun j => by omega)
theorem qAa.mem : ∀ {A : List Vec} {v : Vec}, v ∈ A -> qAa A v
 | [], v, h => by simp at h
 | a :: A, v, h => by
  rcases List.mem_cons.1 h with rfl | h
  ·exact ⟨[1], fun j => by cases A <;> simp [comb]⟩
  ·obtain ⟨q, hq⟩ := qAa.mem h
   exact ⟨0 :: q, fun j => by simp [comb, hq]⟩
theorem qAa.comb : ∀ (q : List Int) (R : List Vec), (∀ r ∈ R, qAa A r) -> qAa A (comb q R)
 | [], R, _ => qAa.zero.congr (fun j => by cases R <;> simp [Go.Proofs.YtkjhlkngihponaaGreatDoor.comb])
 | x :: q, [], _ => qAa.zero.congr (fun j => by simp [Go.Proofs.YtkjhlkngihponaaGreatDoor.comb])
 | x :: q, r :: R, h => ((h r (by simp)).smul x |>.add (qAa.comb q R (fun r hr => h r (by simp [hr])))).congr (fun j => by simp [Go.Proofs.YtkjhlkngihponaaGreatDoor.comb])
theorem qAa.trans {B : List Vec} (h : qAa A v) (hB : ∀ r ∈ A, qAa B r) : qAa B v := by
 obtain ⟨q, hq⟩ := h; exact (qAa.comb q A hB).congr (fun j => (hq j).symm)
theorem qAa.lin {P : Vec -> Prop} (h : qAa A v) (h0 : P (fun _ => 0)) (ha : ∀ (x : Int) (u w : Vec), P u -> P w -> P (fun j => x * u j + w j)) (hc : ∀ u w : Vec, (∀ j, u j = w j) -> P u -> P w) (hA : ∀ r ∈ A, P r) : P v := by
 obtain ⟨q, hq⟩ := h; have key : ∀ (q : List Int) (R : List Vec), (∀ r ∈ R, P r) -> P (Go.Proofs.YtkjhlkngihponaaGreatDoor.comb q R) := by
  intro q
  induction q with
  | nil => intro R _; exact hc _ _ (fun j => by cases R <;> simp [Go.Proofs.YtkjhlkngihponaaGreatDoor.comb]) h0
  | cons x q ih =>
   intro R hR; cases R with
   | nil => exact hc _ _ (fun j => by simp [Go.Proofs.YtkjhlkngihponaaGreatDoor.comb]) h0
   | cons r R => exact hc _ _ (fun j => by simp [Go.Proofs.YtkjhlkngihponaaGreatDoor.comb]) (ha x r _ (hR r (by simp)) (ih R (fun r hr => hR r (by simp [hr]))))
 exact hc _ _ (fun j => (hq j).symm) (key q A hA)
end
theorem qKF (c : Nat) (M F : Nat) : ∀ (R : List Vec) (f : List Vec -> Int), (∀ r ∈ R, (r c).natAbs <= M) -> (∀ l, (∀ r ∈ l, r ∈ R) -> l.length < R.length -> (f l).natAbs <= F) -> (xpd c f R).natAbs <= R.length * (M * F)
 | [], f, _, _ => by simp [xpd]
 | r :: rs, f, h1, h2 => by
  have h3 := qKF c M F rs (fun l => f (r :: l)) (fun a ha => h1 a (by simp [ha])) (fun l hl hlen => h2 (r :: l) (fun a ha => by
   rcases List.mem_cons.1 ha with rfl | ha
   ·simp
   ·exact List.mem_cons_of_mem _ (hl a ha)) (by simp; omega))
  have h4 := h1 r (by simp); have h5 := h2 rs (fun a ha => by simp [ha]) (by simp); have h6 : (r c * f rs).natAbs <= M * F := by rw [Int.natAbs_mul]; exact Nat.mul_le_mul h4 h5
  simp only [xpd, List.length_cons, Nat.succ_mul]; omega
theorem qNE (M K : Nat) : ∀ (cs : List Nat) (R : List Vec), R.length <= K -> (∀ r ∈ R, ∀ j, (r j).natAbs <= M) -> (det cs R).natAbs <= (K * M) ^ cs.length
 | [], R, _, _ => by simp [det]
 | c :: cs, R, hK, hM => by
  have := qKF c M ((K * M) ^ cs.length) R (det cs) (fun r hr => hM r hr c) (fun l hl hlen => qNE M K cs l (by omega) (fun r hr => hM r (hl r hr))); rw [List.length_cons, Nat.pow_succ, Nat.mul_comm _ (K * M), Nat.mul_assoc]; exact Nat.le_trans this (Nat.mul_le_mul_right _ hK)
end Go.Proofs.YtkjhlkngihponaaGreatDoor
