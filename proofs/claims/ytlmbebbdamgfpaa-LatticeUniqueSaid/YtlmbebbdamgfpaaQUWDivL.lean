/- wide: divide, its long way. -/
import Derived.Test.YtlmbebbdamgfpaaQUWShiftR
import Derived.Lib.ItoaNum
import Derived.Test.YtlmbebbdamgfpaaQURegFork
import Derived.Deep.LoopGhost
import Derived.WalkMore
set_option linter.unusedVariables false
set_option linter.unusedSimpArgs false
set_option linter.unusedVariables false
set_option linter.unusedSimpArgs false
namespace Go.Proofs.Ytlmbebbdamgfpaa

/-- before the words below k of the quotient are done -/
structure KnI (D N0 n m k : Nat) (N Q : List Nat) : Prop where
 len : N.length = m + n
 low : Low W2 N
 qlen : Q.length = m
 qlow : Low W2 Q
 zero : ∀ j (h : j < Q.length), j < k → Q[j] = 0
 eq : val W2 N + D * val W2 Q = N0
 lt : val W2 N < D * W2 ^ k

theorem KnI.start (D N0 n m : Nat) (N : List Nat) (hl : N.length = m + n) (lN : Low W2 N) (hv : val W2 N = N0) (hlt : N0 < D * W2 ^ m) : KnI D N0 n m m N (List.replicate m 0) := by
 refine ⟨hl, lN, by simp, fun x hx => by rw [(List.mem_replicate.1 hx).2]; decide, fun j h _ => by simp, ?_, by omega⟩
 rw [val_zeros W2 _ (fun x hx => (List.mem_replicate.1 hx).2)]
 omega

theorem KnI.split {D N0 n m a : Nat} {N Q : List Nat} (h : KnI D N0 n m (a + 1) N Q) (ha : a < m) : ∃ A P C, N = A ++ P ++ C ∧ A.length = a ∧ P.length = n + 1 ∧ A.length + P.length + C.length = m + n ∧ Low W2 P := by
 refine ⟨N.take a, (N.drop a).take (n + 1), (N.drop a).drop (n + 1), ?_, ?_, ?_, ?_, low_take (fun x hx => h.low x (List.mem_of_mem_drop hx)) _⟩
 ·rw [List.append_assoc, List.take_append_drop, List.take_append_drop]
 ·rw [List.length_take, h.len]; omega
 ·rw [List.length_take, List.length_drop, h.len]; omega
 ·rw [List.length_take, List.length_take, List.length_drop, List.length_drop, List.length_drop, h.len]; omega

theorem val3 (A P C : List Nat) : val W2 (A ++ P ++ C) = val W2 A + W2 ^ A.length * val W2 P + W2 ^ A.length * W2 ^ P.length * val W2 C := by
 rw [List.append_assoc, val_append, val_append, Nat.mul_add, ← Nat.mul_assoc, Nat.add_assoc]

theorem KnI.high {D N0 n m a : Nat} {A P C Q : List Nat} (h : KnI D N0 n m (a + 1) (A ++ P ++ C) Q) (hA : A.length = a) (hP : P.length = n + 1) (hD : D < W2 ^ n) : val W2 C = 0 ∧ val W2 P < D * W2 := by
 have h1 := h.lt
 rw [val3, hA, hP, Nat.pow_succ W2 a, Nat.pow_succ W2 n] at h1
 have hX : 0 < W2 ^ a := Nat.pow_pos (by decide)
 have hc : val W2 C = 0 := by
  rcases Nat.eq_zero_or_pos (val W2 C) with h0 | h0
  ·exact h0
  ·have h2 : W2 ^ a * (W2 ^ n * W2) * 1 ≤ W2 ^ a * (W2 ^ n * W2) * val W2 C := Nat.mul_le_mul_left _ h0
   have h3 : D * (W2 ^ a * W2) ≤ W2 ^ n * (W2 ^ a * W2) := Nat.mul_le_mul_right _ (Nat.le_of_lt hD)
   have h4 : W2 ^ n * (W2 ^ a * W2) = W2 ^ a * (W2 ^ n * W2) := by rw [Nat.mul_left_comm]
   omega
 refine ⟨hc, ?_⟩
 rw [hc, Nat.mul_zero, Nat.add_zero] at h1
 have h5 : W2 ^ a * val W2 P < W2 ^ a * (D * W2) := by
  rw [Nat.mul_left_comm D] at h1
  omega
 exact Nat.lt_of_mul_lt_mul_left h5

theorem KnI.next {D N0 n m a : Nat} {A P C Q : List Nat} (h : KnI D N0 n m (a + 1) (A ++ P ++ C) Q) (ha : a < Q.length) (hA : A.length = a) (hP : P.length = n + 1) (hD : D < W2 ^ n) (P' : List Nat) (x : Nat) (hP' : P'.length = n + 1) (lP' : Low W2 P') (hx : x < W2)
 (he : val W2 P' + x * D = val W2 P) (hlt : val W2 P' < D) : KnI D N0 n m a (A ++ P' ++ C) (Q.set a x) := by
 have hc := (h.high hA hP hD).1
 have hX : 0 < W2 ^ a := Nat.pow_pos (by decide)
 have lA : Low W2 A := fun y hy => h.low y (by simp [hy])
 have vA := val_lt W2 (by decide) A lA
 rw [hA] at vA
 refine ⟨?_, ?_, by rw [List.length_set]; exact h.qlen, low_set h.qlow _ _ hx, fun j hj hja => ?_, ?_, ?_⟩
 ·have := h.len
  simp only [List.length_append] at this ⊢
  omega
 ·exact low_append (low_append lA lP') (fun y hy => h.low y (by simp [hy]))
 ·rw [List.getElem_set_ne (by omega)]
  exact h.zero j (by rw [List.length_set] at hj; exact hj) (by omega)
 ·have e1 := val_set W2 Q a x ha
  rw [h.zero a ha (by omega), Nat.zero_mul, Nat.add_zero] at e1
  have e2 := h.eq
  rw [val3, hc, hA, Nat.mul_zero, Nat.add_zero, ← he] at e2
  rw [val3, hc, hA, e1, Nat.mul_zero, Nat.add_zero]
  generalize W2 ^ a = X at *
  generalize val W2 P' = p at *
  generalize val W2 A = q at *
  generalize val W2 Q = r at *
  grind
 ·rw [val3, hc, hA, Nat.mul_zero, Nat.add_zero]
  have h1 : W2 ^ a * (val W2 P' + 1) ≤ W2 ^ a * D := Nat.mul_le_mul_left _ hlt
  rw [Nat.mul_add, Nat.mul_one] at h1
  rw [Nat.mul_comm D]
  omega

theorem KnI.done {D N0 n m : Nat} {N Q : List Nat} (h : KnI D N0 n m 0 N Q) (hD : D < W2 ^ n) : val W2 Q = N0 / D ∧ val W2 (N.take n) = N0 % D := by
 have h1 := h.lt
 have h2 := h.eq
 rw [Nat.pow_zero, Nat.mul_one] at h1
 have hp : 0 < D := by omega
 have hq : N0 / D = val W2 Q ∧ N0 % D = val W2 N := by
  refine (Nat.div_mod_unique hp).2 ⟨by omega, h1⟩
 refine ⟨hq.1.symm, ?_⟩
 rw [hq.2]
 have h3 : N = N.take n ++ N.drop n := (List.take_append_drop n N).symm
 have hl : (N.take n).length = n := by rw [List.length_take, h.len]; omega
 have h4 : val W2 N = val W2 (N.take n) + W2 ^ n * val W2 (N.drop n) := by
  conv => lhs; rw [h3]
  rw [val_append, hl]
 rcases Nat.eq_zero_or_pos (val W2 (N.drop n)) with h0 | h0
 ·rw [h0] at h4; omega
 ·have : W2 ^ n * 1 ≤ W2 ^ n * val W2 (N.drop n) := Nat.mul_le_mul_left _ h0
  omega

/-- while the digit is put right -/
structure InI (D n : Nat) (P : List Nat) (q f : Nat) (P' : List Nat) : Prop where
 len : P'.length = n + 1
 low : Low W2 P'
 fl : f ≤ 1
 ql : q < W2
 ge : val W2 P / D ≤ q
 eq : val W2 P' + q * D = val W2 P + f * W2 ^ (n + 1)

theorem InI.done {D n : Nat} {P : List Nat} {q : Nat} {P' : List Nat} (h : InI D n P q 0 P') (hD : 0 < D) : val W2 P' + q * D = val W2 P ∧ val W2 P' < D := by
 have h1 := h.eq
 rw [Nat.zero_mul, Nat.add_zero] at h1
 refine ⟨h1, ?_⟩
 have h2 := (Nat.div_lt_iff_lt_mul hD).1 (Nat.lt_succ_of_le h.ge)
 rw [Nat.succ_mul] at h2
 omega

theorem InI.less {D n : Nat} {P : List Nat} {q : Nat} {P' : List Nat} (h : InI D n P q 1 P') (hD : 0 < D) : 0 < q ∧ ∀ P2 f, P2.length = n + 1 → Low W2 P2 → f ≤ 1 → val W2 P2 + f * W2 ^ (n + 1) = val W2 P' + D → InI D n P (q - 1) (1 - f) P2 := by
 have h1 := h.eq
 rw [Nat.one_mul] at h1
 have h2 := val_lt W2 (by decide) P' h.low
 rw [h.len] at h2
 have h3 : val W2 P / D < q := by
  refine (Nat.div_lt_iff_lt_mul hD).2 ?_
  omega
 have hq0 : 0 < q := Nat.zero_lt_of_lt h3
 refine ⟨hq0, fun P2 f hl lo hf he => ⟨hl, lo, by omega, by have := h.ql; omega, Nat.le_sub_one_of_lt h3, ?_⟩⟩
 clear h3
 obtain ⟨r, rfl⟩ : ∃ r, q = r + 1 := ⟨q - 1, by omega⟩
 rw [Nat.add_sub_cancel]
 rw [Nat.add_mul, Nat.one_mul] at h1
 rcases (show f = 0 ∨ f = 1 by omega) with rfl | rfl
 ·simp only [Nat.zero_mul, Nat.sub_zero, Nat.one_mul] at *; omega
 ·simp only [Nat.sub_self, Nat.zero_mul, Nat.one_mul] at *; omega

/-- the bits of the first word of the divisor -/
theorem top_bits (x : Nat) (h0 : 0 < x) (h : x < 4294967296) : 32 - Lib.bitLen x < 32 ∧ 2147483648 ≤ x * 2 ^ (32 - Lib.bitLen x) ∧ x * 2 ^ (32 - Lib.bitLen x) < 4294967296 := by
 obtain ⟨h1, h2, h3⟩ := Lib.bitLenAux_bounds 64 x (Nat.lt_trans h (by decide)) (by omega)
 have hL := bitLen32 x h
 unfold Lib.bitLen at *
 generalize Lib.bitLenAux 64 x = L at *
 have e1 : 2 ^ (L - 1) * 2 ^ (32 - L) = 2147483648 := by
  rw [← Nat.pow_add, show L - 1 + (32 - L) = 31 by omega]
 have e2 : 2 ^ L * 2 ^ (32 - L) = 4294967296 := by
  rw [← Nat.pow_add, show L + (32 - L) = 32 by omega]
 refine ⟨by omega, ?_, ?_⟩
 ·rw [← e1]; exact Nat.mul_le_mul_right _ h2
 ·rw [← e2]; exact Nat.mul_lt_mul_of_pos_right h3 (Nat.pow_pos (by decide))

open Go.RowKit

/-- what shifting makes of the divisor -/
theorem norm_div (d n s : Nat) (L : List Nat) (hB : (digs W2 d).length = n) (h1 : 1 ≤ n) (hx : n - 1 < (digs W2 d).length) (hs : s = 32 - Lib.bitLen (digs W2 d)[n - 1]) (hL : L.length = n + 1) (lL : Low W2 L) (hv : val W2 L = d * 2 ^ s) :
 s < 32 ∧ (L.take n).length = n ∧ Low W2 (L.take n) ∧ val W2 (L.take n) = d * 2 ^ s ∧ d * 2 ^ s < W2 ^ n ∧ ∀ h : n - 1 < (L.take n).length, 2147483648 ≤ (L.take n)[n - 1] := by
 have hlow := digs_low W2 w2_two d
 have hxl : (digs W2 d)[n - 1] < 4294967296 := hlow _ (List.getElem_mem hx)
 have hx0 : 0 < (digs W2 d)[n - 1] := by
  refine Nat.pos_of_ne_zero fun h0 => digs_last W2 w2_two d ?_
  rw [List.getLast?_eq_getElem?, hB, List.getElem?_eq_getElem hx, h0]
 obtain ⟨b1, b2, b3⟩ := top_bits _ hx0 hxl
 rw [← hs] at b1 b2 b3
 have hT : val W2 (digs W2 d) = d := val_digs W2 w2_two d
 have e1 := val_top1 (digs W2 d) n hB h1 hx
 have e2 := take_val_lt (digs W2 d) (n - 1) hlow (by omega)
 rw [hT] at e1
 have hX : 0 < W2 ^ (n - 1) := Nat.pow_pos (by decide)
 have hS : 0 < 2 ^ s := Nat.pow_pos (by decide)
 have hW := pow_pred n h1
 have b4 : ((digs W2 d)[n - 1] + 1) * 2 ^ s ≤ 4294967296 := by
  obtain ⟨t, ht⟩ : ∃ t, 4294967296 = 2 ^ s * t := ⟨2 ^ (32 - s), by rw [← Nat.pow_add, show s + (32 - s) = 32 by omega]⟩
  rw [ht, Nat.mul_comm ((digs W2 d)[n - 1]) (2 ^ s)] at b3
  have := Nat.lt_of_mul_lt_mul_left b3
  rw [ht, Nat.mul_comm]
  exact Nat.mul_le_mul_left _ this
 generalize (digs W2 d)[n - 1] = x at *
 generalize val W2 ((digs W2 d).take (n - 1)) = lo at *
 have c1 : 2147483648 * W2 ^ (n - 1) ≤ d * 2 ^ s := by
  have h2 : x * 2 ^ s * W2 ^ (n - 1) ≤ d * 2 ^ s := by
   rw [Nat.mul_right_comm]
   exact Nat.mul_le_mul_right _ (by omega)
  exact Nat.le_trans (Nat.mul_le_mul_right _ b2) h2
 have c2 : d * 2 ^ s < W2 ^ n := by
  have h2 : d * 2 ^ s < (x + 1) * W2 ^ (n - 1) * 2 ^ s := Nat.mul_lt_mul_of_pos_right (by rw [Nat.add_mul, Nat.one_mul]; omega) hS
  have h3 : (x + 1) * W2 ^ (n - 1) * 2 ^ s ≤ W2 ^ n := by
   rw [Nat.mul_right_comm, hW]
   exact Nat.mul_le_mul_right _ b4
  omega
 have hl : (L.take n).length = n := by rw [List.length_take, hL]; omega
 have hlowT := low_take lL n
 have hvt : val W2 (L.take n) = d * 2 ^ s := by
  have h3 : L = L.take n ++ L.drop n := (List.take_append_drop n L).symm
  have h4 : val W2 L = val W2 (L.take n) + W2 ^ n * val W2 (L.drop n) := by
   conv => lhs; rw [h3]
   rw [val_append, hl]
  rcases Nat.eq_zero_or_pos (val W2 (L.drop n)) with h0 | h0
  ·rw [h0] at h4; omega
  ·have : W2 ^ n * 1 ≤ W2 ^ n * val W2 (L.drop n) := Nat.mul_le_mul_left _ h0
   omega
 refine ⟨b1, hl, hlowT, hvt, c2, fun h => ?_⟩
 have e3 := val_top1 (L.take n) n hl h1 h
 have e4 := take_val_lt (L.take n) (n - 1) hlowT (by omega)
 rw [hvt] at e3
 have e5 : 2147483648 * W2 ^ (n - 1) < ((L.take n)[n - 1] + 1) * W2 ^ (n - 1) := by
  rw [Nat.add_mul, Nat.one_mul]
  omega
 have := Nat.lt_of_mul_lt_mul_right e5
 omega

theorem len_powd (m d : Nat) (hd : d ≠ 0) : m < d * W2 ^ ((digs W2 m).length - (digs W2 d).length + 1) := by
 have h1 := val_lt W2 (by decide) _ (digs_low W2 w2_two m)
 rw [val_digs W2 w2_two] at h1
 have h2 : W2 ^ ((digs W2 d).length - 1) ≤ d := by
  rcases Nat.lt_or_ge d (W2 ^ ((digs W2 d).length - 1)) with h | h
  ·have := digs_len_le W2 w2_two _ _ h
   have h0 : 0 < (digs W2 d).length := mag_len.2 hd
   omega
  ·exact h
 have h3 : W2 ^ (digs W2 m).length ≤ W2 ^ ((digs W2 d).length - 1 + ((digs W2 m).length - (digs W2 d).length + 1)) := Nat.pow_le_pow_right (by decide) (by omega)
 rw [Nat.pow_add] at h3
 exact Nat.lt_of_lt_of_le h1 (Nat.le_trans h3 (Nat.mul_le_mul_right _ h2))

theorem Blk.part {w : World} {g : Nat} {A P C : List Nat} (h : Blk w g 88 .u32 (A ++ P ++ C)) (cap : Nat) (h1 : P.length ≤ cap) (h2 : cap ≤ 9223372036854775807) : RowAt .u32 w (.slice (some ⟨g, A.length, none⟩) P.length cap) P :=
 ⟨_, cap, rfl, h1, h2, fun _ => ⟨g, A.length, rfl, h.lt, fun j hj => h.mid j hj⟩⟩
theorem Blk.front {w : World} {g n : Nat} {L : List Nat} (h : Blk w g 88 .u32 L) (hn : n ≤ L.length) (cap : Nat) (h1 : n ≤ cap) (h2 : cap ≤ 9223372036854775807) : RowAt .u32 w (.slice (some ⟨g, 0, none⟩) n cap) (L.take n) := by
 have hl : (L.take n).length = n := by rw [List.length_take]; omega
 refine ⟨_, cap, by rw [hl], by omega, h2, fun _ => ⟨g, 0, rfl, h.lt, fun j hj => ?_⟩⟩
 rw [List.getElem_take, Nat.zero_add]
 exact h.cell j (by omega)

set_option maxRecDepth 100000 in
set_option maxHeartbeats 4000000 in
theorem divide_long (va vb : Value) (m d : Nat) (w : World) (ha : MagAt w va m) (hb : MagAt w vb d) (hm : m < LIM) (hd : W2 ≤ d) (hdm : d ≤ m) :
 Calls Try.prog 62 #[va, vb] w (DivPost m d w) := by
 obtain ⟨i0, hi, hz0, hz1, hz2⟩ := info_parts info32
 have Hi := Lib.hid hi
 have Hz0 := Lib.hid hz0
 have Hz1 := Lib.hid hz1
 have Hz2 := Lib.hid hz2
 clear hi hz0 hz1 hz2
 have Ha := Lib.hid ha
 have Hb := Lib.hid hb
 have hla := (lim_len m).2 hm
 have hlb := (lim_len d).2 (by omega)
 have hle := digs_len_mono W2 w2_two d m hdm
 have hl2 : 1 < (digs W2 d).length := digs_len_ge W2 w2_two 1 d (by rw [Nat.pow_one]; exact hd)
 have Hpow := Lib.hid (len_powd m d (by unfold W2 at hd; omega))
 have Hcmp := Lib.hid (compare_any va vb m d w ha hb (by omega) (by omega))
 have hc3 : ¬ (cmp3 (m : Int) (d : Int) < 0) := by
  unfold cmp3
  rw [if_neg (by omega)]
  split <;> simp
 generalize cmp3 (m : Int) (d : Int) = C at *
 obtain ⟨aa, ca, rfl, h1, h2, h3⟩ := ha
 obtain ⟨ab, cb, rfl, h4, h5, h6⟩ := hb
 have hx : (digs W2 d).length - 1 < (digs W2 d).length := by omega
 obtain ⟨b, off, rfl, hbl, hcell⟩ := h6 (by omega)
 have c0 := hcell _ hx
 have hxl : (digs W2 d)[(digs W2 d).length - 1] < 4294967296 := digs_low W2 w2_two d _ (List.getElem_mem hx)
 have hx0 : 0 < (digs W2 d)[(digs W2 d).length - 1] := by
  refine Nat.pos_of_ne_zero fun h0 => digs_last W2 w2_two d ?_
  rw [List.getLast?_eq_getElem?, List.getElem?_eq_getElem hx, h0]
 have Hnorm := Lib.hid (fun s L => norm_div d (digs W2 d).length s L rfl (by omega) hx)
 have Hls := Lib.hid (fun (w' : World) s (hB : Below w.heap.size w w') => shiftl_core _ (digs W2 m) s w' (RowAt.below Ha.out (Nat.le_refl _) hB) (digs_low W2 w2_two m))
 have Hls2 := Lib.hid (fun (w' : World) s (hB : Below w.heap.size w w') => shiftl_core _ (digs W2 d) s w' (RowAt.below Hb.out (Nat.le_refl _) hB) (digs_low W2 w2_two d))
 rw [val_digs W2 w2_two] at Hls Hls2
 clear h3 h6 hcell
 generalize (digs W2 d)[(digs W2 d).length - 1] = x at *
 generalize (digs W2 m).length = M at *
 generalize (digs W2 d).length = n at *
 have Hc := Lib.hid c0
 have Hdm := Lib.hid hdm
 have Hd := Lib.hid hd
 have hne1 : ((n : Int) == 1) = false := by simp; omega
 have i1 : (0 : Int) ≤ (n : Int) - 1 := by omega
 have i2 : (n : Int) - 1 < (n : Int) := by omega
 have i3 : ((n : Int) - 1).toNat = n - 1 := by omega
 clear c0 hm hdm hd hlb
 go_enter Try.func62, Try.ntmps62
 go_wp2_with fail
 refine wp_scope_straight ?_
 go_wp2_with fail
 refine Hcmp.out.mono ?_
 rintro e w' ⟨rfl, k, rfl⟩
 have c1 : (w.drewN k).cell? ⟨b, off + (n - 1), none⟩ = some (.int .u32 (x : Int)) := Hc.out
 go_wp2_with fail
 refine (lz32_any x _ hxl).mono ?_
 rintro e w' ⟨rfl, rfl⟩
 obtain ⟨s, hs⟩ : ∃ s, 32 - Lib.bitLen x = s := ⟨_, rfl⟩
 have Hs := Lib.hid hs
 have hs32 : s < 32 := by rw [← hs]; exact (top_bits x hx0 hxl).1
 rw [hs]
 clear hs Hcmp c1
 have HBk : Hid (Below w.heap.size w (w.drewN k)) := Lib.hid ⟨rfl, rfl, rfl, Nat.le_refl _, fun _ _ => rfl⟩
 obtain ⟨w1, hw1⟩ : ∃ w1, w.drewN k = w1 := ⟨_, rfl⟩
 have hz1 : w.heap.size = w1.heap.size := by rw [← hw1]; rfl
 have Hzw := Lib.hid hz1
 rw [hw1] at HBk ⊢
 clear hw1 hz1
 go_wp2_with fail
 refine startK 9 (fun _ => True) (by kernel_rfl) (trivial) (fun hHeld => ?_)
 refine takeK 0 45 (v := ?_) rfl rfl (by kernel_rfl) (by kernel_rfl) (by kernel_rfl) (by kernel_rfl) (fun _ _ _ h => h) (by rfl) ?_ (by assumption) ?_
 rotate_left
 ·(intro w hSw; go_simp; first | done | with_reducible rfl)
 simp only [List.setIfInBounds_toArray, List.set_cons_zero, List.set_cons_succ]
 refine takeK 1 46 (v := ?_) rfl rfl (by kernel_rfl) (by kernel_rfl) (by kernel_rfl) (by kernel_rfl) (fun _ _ _ h => h) (by rfl) ?_ (by assumption) ?_
 rotate_left
 ·(intro w hSw; go_simp; first | done | with_reducible rfl)
 simp only [List.setIfInBounds_toArray, List.set_cons_zero, List.set_cons_succ]
 refine takeK 3 48 (v := ?_) rfl rfl (by kernel_rfl) (by kernel_rfl) (by kernel_rfl) (by kernel_rfl) (fun _ _ _ h => h) (by rfl) ?_ (by assumption) ?_
 rotate_left
 ·(intro w hSw; go_simp; first | done | with_reducible rfl)
 simp only [List.setIfInBounds_toArray, List.set_cons_zero, List.set_cons_succ]
 refine takeK 4 49 (v := ?_) rfl rfl (by kernel_rfl) (by kernel_rfl) (by kernel_rfl) (by kernel_rfl) (fun _ _ _ h => h) (by rfl) ?_ (by assumption) ?_
 rotate_left
 ·(intro w hSw; go_simp; first | done | with_reducible rfl)
 simp only [List.setIfInBounds_toArray, List.set_cons_zero, List.set_cons_succ]
 refine takeK 6 51 (v := ?_) rfl rfl (by kernel_rfl) (by kernel_rfl) (by kernel_rfl) (by kernel_rfl) (fun _ _ _ h => h) (by rfl) ?_ (by assumption) ?_
 rotate_left
 ·(intro w hSw; go_simp; first | done | with_reducible rfl)
 simp only [List.setIfInBounds_toArray, List.set_cons_zero, List.set_cons_succ]
 refine stepK 2 (by kernel_rfl) rfl (fun K hK => ?_)
 go_simp
 refine (Hls.out w1.drew s (HBk.out.drew) hs32 (by omega)).mono ?_
 rintro e w2 ⟨N0, rfl, hblk2, lN, hlN, hvN, hB2⟩
 obtain ⟨g1, hg1⟩ : ∃ g1, w1.drew.heap.size = g1 := ⟨_, rfl⟩
 have Hg1 := Lib.hid (show w1.heap.size = g1 from hg1)
 rw [hg1] at hblk2 hB2 ⊢
 have HN := Lib.hid (And.intro lN (And.intro hlN hvN))
 have HblkN := Lib.hid hblk2
 have HB2 := Lib.hid (HBk.out.drew.trans (by rw [Hzw.out, Hg1.out]; exact hB2))
 have hz2 : g1 < w2.heap.size := hblk2.lt
 clear hg1 hblk2 hB2 lN hlN hvN
 go_wp2_with fail
 refine hK.out _ _ (trivial) (fun hHeld => ?_)
 clear hK K
 try simp only [Act.put, List.setIfInBounds_toArray, List.set_cons_zero, List.set_cons_succ]
 refine stepK 5 (by kernel_rfl) rfl (fun K hK => ?_)
 go_simp
 refine (Hls2.out w2 s HB2.out hs32 (by omega)).mono ?_
 rintro e w3 ⟨D0, rfl, hblk3, lD, hlD, hvD, hB3⟩
 obtain ⟨g2, hg2⟩ : ∃ g2, w2.heap.size = g2 := ⟨_, rfl⟩
 have Hg2 := Lib.hid hg2
 rw [hg2] at hblk3 hB3 hz2 ⊢
 obtain ⟨-, nl, nlow, nv, nlt, ntop⟩ := Hnorm.out s D0 Hs.out.symm hlD lD hvD
 have Hnl := Lib.hid nl
 have Hnlow := Lib.hid nlow
 have Hnv := Lib.hid nv
 have Hnlt := Lib.hid nlt
 have Hntop := Lib.hid ntop
 have HblkD := Lib.hid hblk3
 have HblkN3 := Lib.hid (HblkN.out.below hB3 hz2)
 have HB3 := Lib.hid (HB2.out.trans (hB3.mono (by rw [Hzw.out, Hg1.out]; omega)))
 have hz3 : g2 < w3.heap.size := hblk3.lt
 clear hg2 hblk3 hB3 lD hlD hvD nl nlow nv nlt ntop Hnorm HblkN HB2
 go_wp2_with fail
 refine hK.out _ _ (trivial) (fun hHeld => ?_)
 clear hK K
 try simp only [Act.put, List.setIfInBounds_toArray, List.set_cons_zero, List.set_cons_succ]
 have i9 : (n : Int) ≤ (n : Int) + 1 := by omega
 refine takeK 7 52 (v := ?_) rfl rfl (by kernel_rfl) (by kernel_rfl) (by kernel_rfl) (by kernel_rfl) (fun _ _ _ h => h) (by rfl) ?_ (by assumption) ?_
 rotate_left
 ·(intro w hSw; go_simp; first | done | with_reducible rfl)
 simp only [List.setIfInBounds_toArray, List.set_cons_zero, List.set_cons_succ]
 refine stepK 8 (by kernel_rfl) rfl (fun K hK => ?_)
 go_simp
 go_wp2_with fail
 refine hK.out _ _ (trivial) (fun hHeld => ?_)
 clear hK K
 try simp only [Act.put, List.setIfInBounds_toArray, List.set_cons_zero, List.set_cons_succ]
 refine lastK (by kernel_rfl) rfl (by kernel_rfl) (fun K hK => ?_)
 go_simp
 refine hK.out _ _ ?_
 clear hK K
 try simp only [Act.put, List.setIfInBounds_toArray, List.set_cons_zero, List.set_cons_succ]
 clear hHeld
 obtain ⟨m1, hm1⟩ : ∃ m1, M - n + 1 = m1 := ⟨_, rfl⟩
 have hm1I : (M : Int) - (n : Int) + 1 = (m1 : Int) := by omega
 have Hm1 := Lib.hid hm1
 clear hm1
 go_wp2_with (at_make; refine wpList_make_blk _ rfl _ _ 56 rfl 88 i0 .u32 Try.underlying56 Hi.out Hz0.out Hz1.out _ _ _ _ m1 rfl rfl rfl rfl (by rw [Hz2.out]; omega) (by omega) ?_)
 intro w4 hblk4 hB4 hz4
 obtain ⟨gq, hgq⟩ : ∃ gq, w3.heap.size = gq := ⟨_, rfl⟩
 rw [hgq] at hblk4 hB4 hz4 hz3 ⊢
 have HblkQ := Lib.hid hblk4
 have HblkD4 := Lib.hid (HblkD.out.below hB4 hz3)
 have HblkN4 := Lib.hid (HblkN3.out.below hB4 (by omega))
 have hgs : w.heap.size ≤ g1 := by rw [Hzw.out, Hg1.out]; exact Nat.le_refl _
 have HB4 := Lib.hid (HB3.out.trans (hB4.mono (by omega)))
 clear hgq hblk4 hB4 HblkD HblkN3 HB3
 go_wp2
 go_step3
 go_wp2
 have HK0 : Hid (KnI (d * 2 ^ s) (m * 2 ^ s) n m1 m1 N0 (List.replicate m1 0)) := Lib.hid (KnI.start _ _ n m1 N0 (by rw [HN.out.2.1, ← Hm1.out]; omega) HN.out.1 HN.out.2.2 (by
  rw [Nat.mul_right_comm, ← Hm1.out]
  exact Nat.mul_lt_mul_of_pos_right Hpow.out (Nat.pow_pos (by decide))))
 have hm1b : m1 + n = M + 1 := by rw [← Hm1.out]; omega
 have HDl := Lib.hid (show n ≤ D0.length by have := Hnl.out; rw [List.length_take] at this; omega)
 have hDp : Hid (0 < d * 2 ^ s) := Lib.hid (Nat.mul_pos (by have := Hd.out; unfold W2 at this; omega) (Nat.pow_pos (by decide)))
 clear hm1I i1 i2 i3 hne1 hc3
 go_loopg [13] m1 (fun g av wr => ∃ (N Q : List Nat), g ≤ m1 ∧ av = .int .i64 ((g : Int) - 1) ∧ Hid (KnI (d * 2 ^ s) (m * 2 ^ s) n m1 g N Q) ∧ Hid (Blk wr g1 88 .u32 N) ∧ Hid (Blk wr gq 88 .u32 Q) ∧ Hid (Blk wr g2 88 .u32 D0) ∧ Hid (Below w.heap.size w wr))
 case atStart => exact ⟨N0, _, Nat.le_refl _, rfl, HK0, HblkN4, HblkQ, HblkD4, HB4⟩
 case round =>
  obtain ⟨N, Q, hg, rfl, hK, hbN, hbQ, hbD, hB⟩ := hrel
  clear HK0 HblkN4 HblkQ HblkD4 HB4
  obtain ⟨wo, hwo⟩ : ∃ wo, wo = wr := ⟨_, rfl⟩
  subst hwo
  cases gk with
  | zero =>
   have hdone := hK.out.done Hnlt.out
   have e1 : ((0 : Nat) : Int) - 1 = -1 := by omega
   rw [e1]
   have hS0 : 0 < 2 ^ s := Nat.pow_pos (by decide)
   have hq1 : val W2 Q = m / d := by rw [hdone.1, Nat.mul_div_mul_right _ _ hS0]
   have hr1 : val W2 (N.take n) / 2 ^ s = m % d := by rw [hdone.2, Nat.mul_mod_mul_right, Nat.mul_div_cancel _ hS0]
   have hQl := hK.out.qlen
   have hNl := hK.out.len
   have hQrow := RowAt.of_blk (hbQ.out.drew) (cap := m1) (by omega) (by omega)
   rw [hQl] at hQrow
   have Htrim := Lib.hid (trim_any (.slice (some ⟨gq, 0, none⟩) m1 m1) Q wo.drew hQrow hK.out.qlow (by omega))
   have hNrow := (hbN.out.drew).front (n := n) (by omega) (M + 1) (by omega) (by omega)
   have Hshr := Lib.hid (shiftr_core (.slice (some ⟨g1, 0, none⟩) n (M + 1)) (N.take n) s wo.drew hNrow (low_take hK.out.low n) hs32 (by rw [List.length_take]; omega))
   rw [hq1] at Htrim
   rw [hr1] at Hshr
   have i10 : (n : Int) ≤ (M : Int) + 1 := by omega
   clear hq1 hr1 hdone hQrow hNrow hQl hNl e1 hS0
   go_wp2_with fail
   refine startK 8 (fun _ => True) (by kernel_rfl) (trivial) (fun hHeld => ?_)
   refine takeK 0 93 (v := ?_) rfl rfl (by kernel_rfl) (by kernel_rfl) (by kernel_rfl) (by kernel_rfl) (fun _ _ _ h => h) (by rfl) ?_ (by assumption) ?_
   rotate_left
   ·(intro w hSw; go_simp; first | done | with_reducible rfl)
   simp only [List.setIfInBounds_toArray, List.set_cons_zero, List.set_cons_succ]
   refine takeK 2 95 (v := ?_) rfl rfl (by kernel_rfl) (by kernel_rfl) (by kernel_rfl) (by kernel_rfl) (fun _ _ _ h => h) (by rfl) ?_ (by assumption) ?_
   rotate_left
   ·(intro w hSw; go_simp; first | done | with_reducible rfl)
   simp only [List.setIfInBounds_toArray, List.set_cons_zero, List.set_cons_succ]
   refine takeK 3 96 (v := ?_) rfl rfl (by kernel_rfl) (by kernel_rfl) (by kernel_rfl) (by kernel_rfl) (fun _ _ _ h => h) (by rfl) ?_ (by assumption) ?_
   rotate_left
   ·(intro w hSw; go_simp; first | done | with_reducible rfl)
   simp only [List.setIfInBounds_toArray, List.set_cons_zero, List.set_cons_succ]
   refine takeK 4 97 (v := ?_) rfl rfl (by kernel_rfl) (by kernel_rfl) (by kernel_rfl) (by kernel_rfl) (fun _ _ _ h => h) (by rfl) ?_ (by assumption) ?_
   rotate_left
   ·(intro w hSw; go_simp; first | done | with_reducible rfl)
   simp only [List.setIfInBounds_toArray, List.set_cons_zero, List.set_cons_succ]
   refine takeK 5 98 (v := ?_) rfl rfl (by kernel_rfl) (by kernel_rfl) (by kernel_rfl) (by kernel_rfl) (fun _ _ _ h => h) (by rfl) ?_ (by assumption) ?_
   rotate_left
   ·(intro w hSw; go_simp; first | done | with_reducible rfl)
   simp only [List.setIfInBounds_toArray, List.set_cons_zero, List.set_cons_succ]
   refine stepK 1 (by kernel_rfl) rfl (fun K hK => ?_)
   go_simp
   refine Htrim.out.mono ?_
   rintro e w5 ⟨vq, rfl, hvq, rfl⟩
   have Hvq := Lib.hid hvq
   clear hvq Htrim
   go_wp2_with fail
   refine hK.out _ _ (trivial) (fun hHeld => ?_)
   clear hK K
   try simp only [Act.put, List.setIfInBounds_toArray, List.set_cons_zero, List.set_cons_succ]
   refine stepK 6 (by kernel_rfl) rfl (fun K hK => ?_)
   go_simp
   refine Hshr.out.mono ?_
   rintro e w6 ⟨vr, rfl, hvr, hB6⟩
   have Hvr := Lib.hid hvr
   have HB6 := Lib.hid hB6
   clear hvr hB6 Hshr
   go_wp2_with fail
   refine hK.out _ _ (trivial) (fun hHeld => ?_)
   clear hK K
   try simp only [Act.put, List.setIfInBounds_toArray, List.set_cons_zero, List.set_cons_succ]
   refine stepK 7 (by kernel_rfl) rfl (fun K hK => ?_)
   go_simp
   go_wp2_with fail
   refine hK.out _ _ (trivial) (fun hHeld => ?_)
   clear hK K
   try simp only [Act.put, List.setIfInBounds_toArray, List.set_cons_zero, List.set_cons_succ]
   refine lastK (by kernel_rfl) rfl (by kernel_rfl) (fun K hK => ?_)
   go_simp
   refine hK.out _ _ ?_
   clear hK K
   try simp only [Act.put, List.setIfInBounds_toArray, List.set_cons_zero, List.set_cons_succ]
   clear hHeld
   go_wp2
   refine bodyPost_ret (v := .tuple #[vq, vr]) (by simp [results, Try.results62, go_sem]) rfl ⟨?_, _, _, rfl, ?_, ?_⟩
   ·exact (show Below w.heap.size w wo.drew from ⟨hB.out.os, hB.out.tape, hB.out.output, hB.out.size, hB.out.block⟩).trans (HB6.out.mono hB.out.size)
   ·exact RowAt.below Hvq.out (Nat.le_refl _) HB6.out
   ·exact Hvr.out
  | succ a =>
   obtain ⟨A, Pt, Cc, rfl, hA, hP, hAPC, lP⟩ := hK.out.split (by omega)
   obtain ⟨hC0, hPlt⟩ := hK.out.high hA hP Hnlt.out
   have hge : (0 : Int) ≤ ((a + 1 : Nat) : Int) - 1 := by omega
   have hpart := hbN.out.part (M + 1 - a) (by omega) (by omega)
   rw [hA, hP] at hpart
   have hdiv := hbD.out.front HDl.out (n + 1) (by omega) (by omega)
   have Hest := Lib.hid (est_any _ _ Pt (D0.take n) n wo hpart hdiv hP Hnl.out (by omega) (by omega) lP Hnlow.out (by rw [Hnl.out]; omega) (Hntop.out _) (by rw [Hnv.out]; exact hPlt))
   rw [Hnv.out] at Hest
   have e1 : ((a + 1 : Nat) : Int) - 1 = (a : Int) := by omega
   rw [e1]
   clear e1 hge
   have hge : (0 : Int) ≤ (a : Int) := by omega
   have Hb := Lib.hid (And.intro hA (And.intro hP lP))
   clear hpart hdiv hC0 hPlt hA hP lP
   go_wp2_with fail
   rw [show a + n + 1 - a = n + 1 by omega]
   refine Hest.out.mono ?_
   rintro e w5 ⟨q, k5, rfl, hqge, hql, rfl⟩
   have Hqge := Lib.hid hqge
   have hql' : q < 4294967296 := hql
   have Hsub := Lib.hid (subtract_core g1 a (M + 1 - a) g2 0 (n + 1) n q A Pt Cc (D0.take n) (wo.drewN k5) Hb.out.1 Hb.out.2.1 Hnl.out (by omega) (by omega) (by omega) (by omega) (by omega) (by omega) hql (hbN.out.drewN k5) Hb.out.2.2 Hnlow.out (by omega) (hbD.out.drewN k5).lt (fun j hj => by
    rw [List.getElem_take, Nat.zero_add]
    exact (hbD.out.drewN k5).cell j (by have := Hnl.out; have := HDl.out; omega)))
   clear hqge hql Hest
   go_wp2_with fail
   refine Hsub.out.mono ?_
   rintro e w6 ⟨P1, f1, rfl, hb6, hl6, lo6, hf6, he6, hO6⟩
   rw [Hnv.out] at he6
   have HI1 : Hid (InI (d * 2 ^ s) n Pt q f1 P1) := Lib.hid ⟨hl6, lo6, hf6, hql', Hqge.out, he6⟩
   have Hb6 := Lib.hid hb6
   have HO6 := Lib.hid hO6
   clear hb6 hl6 lo6 he6 hO6 Hsub
   go_wp2_with fail
   go_loopg [15, 16] q (fun g dv mv wy => ∃ (f : Nat) (P2 : List Nat), dv = .int .u64 (g : Int) ∧ mv = .bool (decide (f = 1)) ∧ g < 4294967296 ∧ Hid (InI (d * 2 ^ s) n Pt g f P2) ∧ Hid (Blk wy g1 88 .u32 (A ++ P2 ++ Cc)) ∧ Hid (Only (fun k => k = g1) (wo.drewN k5) wy))
   case atStart => exact ⟨f1, P1, rfl, rfl, hql', HI1, Hb6, HO6⟩
   case round =>
    obtain ⟨f, P2, rfl, rfl, hgl, hI, hbP, hO⟩ := hrel
    clear HI1 Hb6 HO6
    have hfl := hI.out.fl
    have hbQ2 := Lib.hid (hO.out.blk (hbQ.out.drewN k5) (show ¬ gq = g1 by omega))
    have hbD2 := Lib.hid (hO.out.blk (hbD.out.drewN k5) (show ¬ g2 = g1 by omega))
    have hB2 : Hid (Below w.heap.size w wr) := Lib.hid (Only.below hO.out (show Below w.heap.size w (wo.drewN k5) from ⟨hB.out.os, hB.out.tape, hB.out.output, hB.out.size, hB.out.block⟩) hB.out.size (fun k e => by omega))
    rcases (show f = 0 ∨ f = 1 by omega) with rfl | rfl
    ·have hQl : a < Q.length := by rw [hK.out.qlen]; omega
     have c1 := hbQ2.out.cell a hQl
     have c2 := hbQ2.out.frozen a
     have hdn := hI.out.done hDp.out
     have HN2 := Lib.hid (hK.out.next hQl Hb.out.1 Hb.out.2.1 Hnlt.out P2 gk hI.out.len hI.out.low hgl hdn.1 hdn.2)
     have hm2 : a < m1 := by omega
     have hwr : IntKind.u32.wrap (gk : Int) = (gk : Int) := by rw [IntKind.wrap_u32]; omega
     generalize Q[a] = qa at *
     clear hdn
     go_wp2_with fail
     go_roundg a
     case measure => omega
     case rel =>
      refine ⟨A ++ P2 ++ Cc, Q.set a gk, by omega, by first | rfl | go_num, HN2, Lib.hid (hbP.out.far (p := ⟨gq, a, none⟩) (show g1 ≠ gq by omega) _), Lib.hid (hbQ2.out.set a gk), Lib.hid (hbD2.out.far (p := ⟨gq, a, none⟩) (show g2 ≠ gq by omega) _), Lib.hid (hB2.out.setCell (p := ⟨gq, a, none⟩) (show w.heap.size ≤ gq by omega) _)⟩
    ·have hl := hI.out.less hDp.out
     have h0 := hl.1
     have Hl := Lib.hid hl.2
     have hde : (gk : Int) - 1 = ((gk - 1 : Nat) : Int) := by omega
     have Hres := Lib.hid (restore_core g1 a (M + 1 - a) g2 0 (n + 1) n A P2 Cc (D0.take n) wr Hb.out.1 hI.out.len Hnl.out (by omega) (by omega) (by omega) (by omega) (by omega) (by omega) hbP.out hI.out.low Hnlow.out (by omega) hbD2.out.lt (fun j hj => by
      rw [List.getElem_take, Nat.zero_add]
      exact hbD2.out.cell j (by have := Hnl.out; have := HDl.out; omega)))
     clear hl
     go_wp2_with fail
     refine Hres.out.mono ?_
     rintro e w7 ⟨P3, f3, rfl, hb7, hl7, lo7, hf7, he7, hO7⟩
     rw [Hnv.out] at he7
     have HI2 := Lib.hid (Hl.out P3 f3 hl7 lo7 hf7 he7)
     have Hb7 := Lib.hid hb7
     have HO7 := Lib.hid (hO.out.trans hO7)
     clear hb7 hl7 lo7 he7 hO7 Hres Hl
     go_wp2_with fail
     go_roundg (gk - 1)
     case measure => omega
     case rel => exact ⟨1 - f3, P3, by first | rfl | go_num, by rcases (show f3 = 0 ∨ f3 = 1 by omega) with rfl | rfl <;> rfl, by omega, HI2, Hb7, HO7⟩

end Go.Proofs.Ytlmbebbdamgfpaa
