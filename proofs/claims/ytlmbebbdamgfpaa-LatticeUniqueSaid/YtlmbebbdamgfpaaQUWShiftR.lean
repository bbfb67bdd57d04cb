/- wide: shiftRight. -/
import Derived.Test.YtlmbebbdamgfpaaQUWRest
import Derived.Lib.BitFns
import Derived.Lib.Walk
set_option linter.unusedVariables false
set_option linter.unusedSimpArgs false
set_option linter.unusedVariables false
set_option linter.unusedSimpArgs false
namespace Go.Proofs.Ytlmbebbdamgfpaa
open Go.RowKit

theorem tab_at (y : Nat) (h : y < 256) : ∀ h', (Lib.len8tab[y]'h').toNat = Lib.bitLen y := by
 intro h'
 have e := Lib.len8_eq ⟨y, h⟩
 unfold Lib.len8 at e
 simp only [Int.toNat_natCast] at e
 have e2 : Lib.len8tab[y]? = some (Lib.len8tab[y]'h') := by simp [h']
 rw [e2] at e
 exact Int.ofNat.inj e
theorem tab_size : Lib.len8tab.size = 256 := by decide +kernel

set_option maxHeartbeats 4000000 in
set_option maxRecDepth 100000 in
theorem len32_any (x : Nat) (w : World) (h1 : x < 4294967296) :
 Calls Try.prog 102 #[.int .u32 (x : Int)] w fun e w' => e = .returned (.int .i64 (Lib.bitLen x)) ∧ w' = w := by
 have hs := tab_size
 by_cases h2 : x < 65536
 ·have g2 : ¬ (65536 ≤ (x : Int)) := by omega
  by_cases h3 : x < 256
  ·have g3 : ¬ (256 ≤ (x : Int)) := by omega
   have hy : x < 256 := h3
   have Hb : Hid True := Lib.hid trivial
   have hyl : Lib.bitLen x ≤ 8 := Lib.bitLen_le8 ⟨x, hy⟩
   have htab := tab_at x hy
   generalize Lib.bitLen x = L at *
   go_enter Try.func102, Try.ntmps102
   go_wp2
   go_ret
   refine ⟨?_, rfl⟩
   first | rfl | (rw [Hb.out]; rfl)
  ·have g3 : 256 ≤ (x : Int) := by omega
   obtain ⟨y, hyx⟩ : ∃ y, x / 256 = y := ⟨_, rfl⟩
   have Hb : Hid (Lib.bitLen x = 8 + Lib.bitLen y) := Lib.hid (by rw [← hyx]; exact Lib.bitLen_shift8 x (by omega) (by omega))
   have hy : y < 256 := by omega
   have hq : (x : Int) / 256 = (y : Int) := by omega
   clear hyx
   have hyl : Lib.bitLen y ≤ 8 := Lib.bitLen_le8 ⟨y, hy⟩
   have htab := tab_at y hy
   generalize Lib.bitLen y = L at *
   go_enter Try.func102, Try.ntmps102
   go_wp2
   go_ret
   refine ⟨?_, rfl⟩
   first | rfl | (rw [Hb.out]; rfl)
 ·have g2 : 65536 ≤ (x : Int) := by omega
  obtain ⟨u, hu⟩ : ∃ u, x / 65536 = u := ⟨_, rfl⟩
  have hqu : (x : Int) / 65536 = (u : Int) := by omega
  have hul : u < 65536 := by omega
  have hb16 := Lib.bitLen_shift16 x (by omega) (by omega)
  rw [hu] at hb16
  by_cases h3 : u < 256
  ·have g3 : ¬ (256 ≤ (u : Int)) := by omega
   have Hb : Hid (Lib.bitLen x = 16 + Lib.bitLen u) := Lib.hid hb16
   have hy : u < 256 := h3
   clear hu hb16
   have hyl : Lib.bitLen u ≤ 8 := Lib.bitLen_le8 ⟨u, hy⟩
   have htab := tab_at u hy
   generalize Lib.bitLen u = L at *
   go_enter Try.func102, Try.ntmps102
   go_wp2
   go_ret
   refine ⟨?_, rfl⟩
   first | rfl | (rw [Hb.out]; rfl)
  ·have g3 : 256 ≤ (u : Int) := by omega
   obtain ⟨y, hyx⟩ : ∃ y, u / 256 = y := ⟨_, rfl⟩
   have hb8 := Lib.bitLen_shift8 u (by omega) (by omega)
   rw [hyx] at hb8
   have Hb : Hid (Lib.bitLen x = 24 + Lib.bitLen y) := Lib.hid (by omega)
   have hy : y < 256 := by omega
   have hq : (u : Int) / 256 = (y : Int) := by omega
   clear hyx hu hb16 hb8
   have hyl : Lib.bitLen y ≤ 8 := Lib.bitLen_le8 ⟨y, hy⟩
   have htab := tab_at y hy
   generalize Lib.bitLen y = L at *
   go_enter Try.func102, Try.ntmps102
   go_wp2
   go_ret
   refine ⟨?_, rfl⟩
   first | rfl | (rw [Hb.out]; rfl)

theorem bitLen32 (x : Nat) (h : x < 4294967296) : Lib.bitLen x ≤ 32 := Lib.bitLen_le x 32 (by omega) h

theorem lz32_any (x : Nat) (w : World) (h1 : x < 4294967296) :
 Calls Try.prog 84 #[.int .u32 (x : Int)] w fun e w' => e = .returned (.int .i64 ((32 - Lib.bitLen x : Nat) : Int)) ∧ w' = w := by
 have hl := bitLen32 x h1
 have H := Lib.hid (len32_any x w h1)
 generalize Lib.bitLen x = L at *
 go_enter Try.func84, Try.ntmps84
 go_wp2_with fail
 refine H.out.mono ?_
 rintro e w' ⟨rfl, rfl⟩
 go_wp2
 go_ret
 refine ⟨?_, rfl⟩
 have e : (32 : Int) - (L : Int) = ((32 - L : Nat) : Int) := by omega
 rw [← e]
 rfl

end Go.Proofs.Ytlmbebbdamgfpaa
set_option linter.unusedVariables false
set_option linter.unusedSimpArgs false
namespace Go.Proofs.Ytlmbebbdamgfpaa
open Go.RowKit

/-- between two words of shiftLeft -/
structure ShlI (A : List Nat) (s N k : Nat) (L : List Nat) : Prop where
 len : L.length = N + 1
 low : Low W2 L
 lt : ∀ h : k < L.length, L[k] < 2 ^ s
 zero : ∀ j (h : j < L.length), k < j → L[j] = 0
 eq : val W2 L = val W2 (A.take k) * 2 ^ s

theorem ShlI.start (A : List Nat) (s N : Nat) : ShlI A s N 0 (List.replicate (N + 1) 0) :=
 ⟨by simp, fun x hx => by rw [(List.mem_replicate.1 hx).2]; decide, fun h => by simp [Nat.pow_pos], fun j h _ => by simp, by rw [val_zeros W2 _ (fun x hx => (List.mem_replicate.1 hx).2)]; simp [val]⟩

theorem shl_parts (y s c : Nat) (hs : s < 32) (hy : y < W2) (hc : c < 2 ^ s) : c ||| (y * 2 ^ s % W2) = c + y * 2 ^ s % W2 ∧ c + y * 2 ^ s % W2 < W2 ∧ y * 2 ^ s / W2 < 2 ^ s := by
 have hW : W2 = 2 ^ s * 2 ^ (32 - s) := by rw [← Nat.pow_add, show s + (32 - s) = 32 by omega]
 have hp : 0 < 2 ^ s := Nat.pow_pos (by omega)
 have hm : y * 2 ^ s % W2 = 2 ^ s * (y % 2 ^ (32 - s)) := by rw [hW, Nat.mul_comm y, Nat.mul_mod_mul_left]
 have hl : y % 2 ^ (32 - s) < 2 ^ (32 - s) := Nat.mod_lt _ (Nat.pow_pos (by omega))
 refine ⟨?_, ?_, ?_⟩
 ·rw [hm, Nat.or_comm, ← Nat.two_pow_add_eq_or_of_lt hc, Nat.add_comm]
 ·rw [hm]
  have h1 : 2 ^ s * (y % 2 ^ (32 - s) + 1) ≤ 2 ^ s * 2 ^ (32 - s) := Nat.mul_le_mul_left _ hl
  rw [← hW, Nat.mul_add, Nat.mul_one] at h1
  omega
 ·refine Nat.div_lt_of_lt_mul ?_
  exact Nat.mul_lt_mul_of_pos_right hy hp

theorem ShlI.next {A : List Nat} {s N k : Nat} {L : List Nat} (h : ShlI A s N k L) (hk : k < L.length) (hk2 : k + 1 < L.length) (ha : k < A.length) (hs : s < 32) (hA : Low W2 A) :
 ShlI A s N (k + 1) ((L.set k (L[k] + A[k] * 2 ^ s % W2)).set (k + 1) (A[k] * 2 ^ s / W2)) := by
 obtain ⟨p1, p2, p3⟩ := shl_parts A[k] s L[k] hs (hA _ (List.getElem_mem ha)) (h.lt hk)
 have hsW : 2 ^ s ≤ W2 := by
  have : 2 ^ s ≤ 2 ^ 32 := Nat.pow_le_pow_right (by omega) (by omega)
  exact this
 refine ⟨by rw [List.length_set, List.length_set]; exact h.len, low_set (low_set h.low _ _ p2) _ _ (by omega), fun hh => by rw [List.getElem_set_self]; exact p3, fun j hj hkj => ?_, ?_⟩
 ·rw [List.getElem_set_ne (by omega), List.getElem_set_ne (by omega)]
  exact h.zero j (by rw [List.length_set, List.length_set] at hj; exact hj) (by omega)
 ·have e1 := val_set W2 L k (L[k] + A[k] * 2 ^ s % W2) hk
  have hk3 : k + 1 < (L.set k (L[k] + A[k] * 2 ^ s % W2)).length := by rw [List.length_set]; exact hk2
  have e2 := val_set W2 (L.set k (L[k] + A[k] * 2 ^ s % W2)) (k + 1) (A[k] * 2 ^ s / W2) hk3
  have hz : (L.set k (L[k] + A[k] * 2 ^ s % W2))[k + 1] = 0 := by
   rw [List.getElem_set_ne (by omega)]
   exact h.zero (k + 1) hk2 (by omega)
  rw [hz] at e2
  have hd := Nat.div_add_mod (A[k] * 2 ^ s) W2
  have h1 := h.eq
  rw [val_take_succ W2 A k ha]
  rw [Nat.pow_succ] at e2
  generalize val W2 ((L.set k (L[k] + A[k] * 2 ^ s % W2)).set (k + 1) (A[k] * 2 ^ s / W2)) = v2 at *
  generalize val W2 (L.set k (L[k] + A[k] * 2 ^ s % W2)) = v1 at *
  generalize A[k] * 2 ^ s % W2 = lo at *
  generalize A[k] * 2 ^ s / W2 = hi at *
  generalize L[k] = c at *
  generalize A[k] = y at *
  generalize val W2 (A.take k) = a at *
  generalize W2 ^ k = X at *
  generalize 2 ^ s = S at *
  generalize val W2 L = v at *
  generalize W2 = B at *
  clear p1 p2 p3 hz h hA hs hsW
  grind

set_option maxRecDepth 100000 in
set_option maxHeartbeats 2000000 in
theorem shiftl_core (va : Value) (A : List Nat) (s : Nat) (w : World) (ha : RowAt .u32 w va A) (hA : Low W2 A) (hs : s < 32) (hlen : A.length ≤ 1048576) :
 Calls Try.prog 85 #[va, .int .i64 (s : Int)] w fun e w' => ∃ L, e = .returned (.slice (some ⟨w.heap.size, 0, none⟩) (A.length + 1) (A.length + 1)) ∧ Blk w' w.heap.size 88 .u32 L ∧ Low W2 L ∧ L.length = A.length + 1 ∧ val W2 L = val W2 A * 2 ^ s ∧ Below w.heap.size w w' := by
 obtain ⟨i0, hi, hz0, hz1, hz2⟩ := info_parts info32
 have Hi := Lib.hid hi
 have Hz0 := Lib.hid hz0
 have Hz1 := Lib.hid hz1
 have Hz2 := Lib.hid hz2
 clear hi hz0 hz1 hz2
 obtain ⟨ya, ycap, hvy, y1, y2, hyc⟩ := ha
 subst hvy
 have Hyc := Lib.hid hyc
 have HlA := Lib.hid hA
 clear hyc hA
 obtain ⟨N, hN⟩ : ∃ N, A.length = N := ⟨_, rfl⟩
 have HN := Lib.hid hN
 rw [hN] at hlen y1 ⊢
 clear hN
 go_enter Try.func85, Try.ntmps85
 go_wp2_with (at_make; refine wpList_make_blk _ rfl _ _ 56 rfl 88 i0 .u32 Try.underlying56 Hi.out Hz0.out Hz1.out _ _ _ _ (N + 1) rfl rfl (by omega) (by omega) (by rw [Hz2.out]; omega) (by omega) ?_)
 intro w1 hblk hB1 hz1
 obtain ⟨g, hg⟩ : ∃ g, w.heap.size = g := ⟨_, rfl⟩
 have Hg := Lib.hid hg
 rw [hg] at hblk hB1 hz1 ⊢
 have Hblk1 := Lib.hid hblk
 have HB1 := Lib.hid hB1
 clear hg hblk hB1
 go_wp2_with fail
 go_loopw [15] (fun i wr => ∃ (k : Nat) (L : List Nat), k ≤ N ∧ i = .int .i64 (k : Int) ∧ Hid (ShlI A s N k L) ∧ Hid (Blk wr g 88 .u32 L) ∧ Hid (Below g w wr)) (fun i _ => N - (intOf i).toNat)
 case atStart => exact ⟨0, _, by omega, rfl, Lib.hid (ShlI.start A s N), Hblk1, HB1⟩
 case round =>
  obtain ⟨k, L, hk, rfl, hI, hbl, hB⟩ := hrel
  have hLl := hI.out.len
  by_cases hlt : k < N
  ·have hy : k < A.length := by rw [HN.out]; exact hlt
   obtain ⟨b, off, rfl, hb, hcc⟩ := Hyc.out (by omega)
   rw [Hg.out] at hb
   have cy := (hB.out.cell (p := ⟨b, off + k, none⟩) hb).trans (hcc k hy)
   have hyl : A[k] < 4294967296 := HlA.out _ (List.getElem_mem hy)
   have cg := hbl.out.cell k (by omega)
   have cg2 := hbl.out.cell (k + 1) (by omega)
   have fg := hbl.out.frozen k
   have fg2 := hbl.out.frozen (k + 1)
   have kl : k < L.length := by omega
   have kl2 : k + 1 < L.length := by omega
   have Hn := Lib.hid (hI.out.next kl kl2 hy hs HlA.out)
   have hcl := hI.out.lt kl
   obtain ⟨p1, p2, p3⟩ := shl_parts A[k] s L[k] hs hyl hcl
   have hor := u32_or_nat L[k] (A[k] * 2 ^ s % W2) (hI.out.low _ (List.getElem_mem kl)) (Nat.mod_lt _ (by decide))
   rw [p1] at hor
   have hsW : 2 ^ s ≤ 2 ^ 31 := Nat.pow_le_pow_right (by omega) (by omega)
   have htl : A[k] * 2 ^ s ≤ 4294967295 * 2 ^ 31 := Nat.mul_le_mul (by omega) hsW
   have hcast : ((A[k] * 2 ^ s : Nat) : Int) = (A[k] : Int) * 2 ^ s := by rw [Int.natCast_mul, Int.natCast_pow]; rfl
   clear hcc
   generalize A[k] = y at *
   generalize L[k] = c at *
   obtain ⟨t, ht⟩ : ∃ t, y * 2 ^ s = t := ⟨_, rfl⟩
   rw [ht] at hcast Hn hor p2 p3 htl
   have hwr : IntKind.u64.wrap ((y : Int) * 2 ^ s) = (t : Int) := by rw [← hcast, IntKind.wrap_u64]; omega
   obtain ⟨lo, hlo⟩ : ∃ lo, t % W2 = lo := ⟨_, rfl⟩
   obtain ⟨hi, hhi⟩ : ∃ hi, t / W2 = hi := ⟨_, rfl⟩
   have hlo2 : t % 4294967296 = lo := hlo
   have hhi2 : t / 4294967296 = hi := hhi
   rw [hlo] at Hn hor p2
   rw [hhi] at Hn p3
   have hloI : (t : Int) % 4294967296 = (lo : Int) := by omega
   have hhiI : (t : Int) / 4294967296 = (hi : Int) := by omega
   have hhil : hi < 4294967296 := by omega
   clear ht hlo hhi hlo2 hhi2 p1 hcast
   go_wp2_with fail
   go_roundw
   case rel => exact ⟨k + 1, _, by omega, by go_num, Hn, Lib.hid ((hbl.out.set k _).set (k + 1) _), Lib.hid ((hB.out.setCell (p := ⟨g, k, none⟩) (Nat.le_refl _) _).setCell (p := ⟨g, k + 1, none⟩) (Nat.le_refl _) _)⟩
   case measure => simp [intOf]; omega
  ·obtain rfl : k = N := by omega
   have Hv : Hid (val W2 L = val W2 A * 2 ^ s) := Lib.hid (by rw [hI.out.eq, List.take_of_length_le (by rw [HN.out]; exact Nat.le_refl _)])
   go_wp2_with fail
   go_ret
   rw [Hg.out]
   exact ⟨L, rfl, hbl.out, hI.out.low, hLl, Hv.out, hB.out⟩

end Go.Proofs.Ytlmbebbdamgfpaa
set_option linter.unusedVariables false
set_option linter.unusedSimpArgs false
namespace Go.Proofs.Ytlmbebbdamgfpaa
open Go.RowKit

/-- between two words of shiftRight -/
structure ShrI (A : List Nat) (s N k : Nat) (L : List Nat) : Prop where
 len : L.length = N
 low : Low W2 L
 lt : 0 < k → ∀ h : k - 1 < L.length, L[k - 1] < 2 ^ (32 - s)
 zero : ∀ j (h : j < L.length), k ≤ j → L[j] = 0
 eq : val W2 L = val W2 (A.take k) / 2 ^ s

theorem ShrI.start (A : List Nat) (s N : Nat) : ShrI A s N 0 (List.replicate N 0) :=
 ⟨by simp, fun x hx => by rw [(List.mem_replicate.1 hx).2]; decide, fun h => by omega, fun j h _ => by simp, by rw [val_zeros W2 _ (fun x hx => (List.mem_replicate.1 hx).2)]; simp [val]⟩

theorem shr_parts (y s : Nat) (hs : s < 32) (hy : y < W2) : y * W2 / 2 ^ s = y * 2 ^ (32 - s) ∧ y * 2 ^ (32 - s) / W2 = y / 2 ^ s ∧ y / 2 ^ s < 2 ^ (32 - s) ∧ y * 2 ^ (32 - s) % W2 = 2 ^ (32 - s) * (y % 2 ^ s) ∧ y % 2 ^ s < 2 ^ s := by
 have hW : W2 = 2 ^ s * 2 ^ (32 - s) := by rw [← Nat.pow_add, show s + (32 - s) = 32 by omega]
 have hp : 0 < 2 ^ s := Nat.pow_pos (by omega)
 have hp2 : 0 < 2 ^ (32 - s) := Nat.pow_pos (by omega)
 refine ⟨?_, ?_, ?_, ?_, Nat.mod_lt _ hp⟩
 ·rw [hW, Nat.mul_left_comm, Nat.mul_div_cancel_left _ hp]
 ·rw [hW, Nat.mul_div_mul_right _ _ hp2]
 ·refine Nat.div_lt_of_lt_mul ?_
  rw [← hW]; exact hy
 ·rw [hW, Nat.mul_comm y, Nat.mul_comm (2 ^ s), Nat.mul_mod_mul_left]

theorem or_mul (c m k : Nat) (hc : c < 2 ^ k) : c ||| 2 ^ k * m = c + 2 ^ k * m := by
 rw [Nat.or_comm, ← Nat.two_pow_add_eq_or_of_lt hc, Nat.add_comm]

theorem ShrI.first {A : List Nat} {s N : Nat} {L : List Nat} (h : ShrI A s N 0 L) (hl : 0 < L.length) (ha : 0 < A.length) (hs : s < 32) (hA : Low W2 A) : ShrI A s N 1 (L.set 0 (A[0] / 2 ^ s)) := by
 obtain ⟨_, _, p3, _, _⟩ := shr_parts A[0] s hs (hA _ (List.getElem_mem ha))
 have hw : A[0] / 2 ^ s < W2 := Nat.lt_of_le_of_lt (Nat.div_le_self _ _) (hA _ (List.getElem_mem ha))
 refine ⟨by rw [List.length_set]; exact h.len, low_set h.low _ _ hw, fun _ hh => by simp only [Nat.sub_self, List.getElem_set_self]; exact p3, fun j hj hkj => ?_, ?_⟩
 ·rw [List.getElem_set_ne (by omega)]
  exact h.zero j (by rw [List.length_set] at hj; exact hj) (by omega)
 ·have e1 := val_set W2 L 0 (A[0] / 2 ^ s) hl
  rw [h.zero 0 hl (by omega)] at e1
  have h1 := h.eq
  have h2 := val_take_succ W2 A 0 ha
  simp only [List.take_zero, val, Nat.zero_div, Nat.zero_add, Nat.pow_zero, Nat.mul_one] at *
  rw [h2]
  omega

theorem ShrI.next {A : List Nat} {s N k : Nat} {L : List Nat} (h : ShrI A s N k L) (h0 : 0 < k) (hk : k < L.length) (hk1 : k - 1 < L.length) (ha : k < A.length) (hs : s < 32) (hA : Low W2 A) :
 ShrI A s N (k + 1) ((L.set k (A[k] / 2 ^ s)).set (k - 1) (L[k - 1] + 2 ^ (32 - s) * (A[k] % 2 ^ s))) := by
 obtain ⟨p1, p2, p3, p4, p5⟩ := shr_parts A[k] s hs (hA _ (List.getElem_mem ha))
 have hW : W2 = 2 ^ s * 2 ^ (32 - s) := by rw [← Nat.pow_add, show s + (32 - s) = 32 by omega]
 have hp : 0 < 2 ^ s := Nat.pow_pos (by omega)
 have hw : A[k] / 2 ^ s < W2 := Nat.lt_of_le_of_lt (Nat.div_le_self _ _) (hA _ (List.getElem_mem ha))
 have hlt := h.lt h0 hk1
 have hsum : L[k - 1] + 2 ^ (32 - s) * (A[k] % 2 ^ s) < W2 := by
  have h1 : 2 ^ (32 - s) * (A[k] % 2 ^ s + 1) ≤ 2 ^ (32 - s) * 2 ^ s := Nat.mul_le_mul_left _ p5
  rw [Nat.mul_comm (2 ^ (32 - s)) (2 ^ s), ← hW, Nat.mul_add, Nat.mul_one] at h1
  omega
 refine ⟨by rw [List.length_set, List.length_set]; exact h.len, low_set (low_set h.low _ _ hw) _ _ hsum, fun _ hh => ?_, fun j hj hkj => ?_, ?_⟩
 ·simp only [Nat.add_sub_cancel]
  rw [List.getElem_set_ne (by omega), List.getElem_set_self]
  exact p3
 ·rw [List.getElem_set_ne (by omega), List.getElem_set_ne (by omega)]
  exact h.zero j (by rw [List.length_set, List.length_set] at hj; exact hj) (by omega)
 ·have e1 := val_set W2 L k (A[k] / 2 ^ s) hk
  rw [h.zero k hk (Nat.le_refl _)] at e1
  have hk3 : k - 1 < (L.set k (A[k] / 2 ^ s)).length := by rw [List.length_set]; exact hk1
  have e2 := val_set W2 (L.set k (A[k] / 2 ^ s)) (k - 1) (L[k - 1] + 2 ^ (32 - s) * (A[k] % 2 ^ s)) hk3
  have hz : (L.set k (A[k] / 2 ^ s))[k - 1] = L[k - 1] := List.getElem_set_ne (by omega) _
  rw [hz] at e2
  have hB : W2 ^ k = 2 ^ s * (2 ^ (32 - s) * W2 ^ (k - 1)) := by rw [pow_pred k h0, ← Nat.mul_assoc, ← hW]
  have hd : (val W2 (A.take k) + A[k] * W2 ^ k) / 2 ^ s = val W2 (A.take k) / 2 ^ s + A[k] * (2 ^ (32 - s) * W2 ^ (k - 1)) := by
   rw [hB, Nat.mul_left_comm, Nat.add_mul_div_left _ _ hp]
  rw [val_take_succ W2 A k ha, hd, ← h.eq]
  have hy := Nat.div_add_mod A[k] (2 ^ s)
  rw [hB] at e1
  generalize val W2 ((L.set k (A[k] / 2 ^ s)).set (k - 1) (L[k - 1] + 2 ^ (32 - s) * (A[k] % 2 ^ s))) = v2 at *
  generalize val W2 (L.set k (A[k] / 2 ^ s)) = v1 at *
  generalize A[k] / 2 ^ s = hi at *
  generalize A[k] % 2 ^ s = r at *
  generalize L[k - 1] = c at *
  generalize A[k] = y at *
  generalize W2 ^ (k - 1) = X at *
  generalize 2 ^ (32 - s) = T at *
  generalize 2 ^ s = S at *
  generalize val W2 L = v at *
  clear p1 p2 p3 p4 p5 h hA hz hd hB
  grind

set_option maxRecDepth 100000 in
set_option maxHeartbeats 2000000 in
theorem shiftr_core (va : Value) (A : List Nat) (s : Nat) (w : World) (ha : RowAt .u32 w va A) (hA : Low W2 A) (hs : s < 32) (hlen : A.length ≤ 1048576) :
 Calls Try.prog 89 #[va, .int .i64 (s : Int)] w fun e w' => ∃ v, e = .returned v ∧ MagAt w' v (val W2 A / 2 ^ s) ∧ Below w.heap.size w w' := by
 obtain ⟨i0, hi, hz0, hz1, hz2⟩ := info_parts info32
 have Hi := Lib.hid hi
 have Hz0 := Lib.hid hz0
 have Hz1 := Lib.hid hz1
 have Hz2 := Lib.hid hz2
 clear hi hz0 hz1 hz2
 obtain ⟨ya, ycap, hvy, y1, y2, hyc⟩ := ha
 subst hvy
 have Hyc := Lib.hid hyc
 have HlA := Lib.hid hA
 clear hyc hA
 obtain ⟨N, hN⟩ : ∃ N, A.length = N := ⟨_, rfl⟩
 have HN := Lib.hid hN
 rw [hN] at hlen y1 ⊢
 clear hN
 go_enter Try.func89, Try.ntmps89
 go_wp2_with (at_make; refine wpList_make_blk _ rfl _ _ 56 rfl 88 i0 .u32 Try.underlying56 Hi.out Hz0.out Hz1.out _ _ _ _ N rfl rfl rfl rfl (by rw [Hz2.out]; omega) (by omega) ?_)
 intro w1 hblk hB1 hz1
 obtain ⟨g, hg⟩ : ∃ g, w.heap.size = g := ⟨_, rfl⟩
 have Hg := Lib.hid hg
 rw [hg] at hblk hB1 hz1 ⊢
 have Hblk1 := Lib.hid hblk
 have HB1 := Lib.hid hB1
 clear hg hblk hB1
 go_wp2_with fail
 go_loopw [14] (fun i wr => ∃ (k : Nat) (L : List Nat), k ≤ N ∧ i = .int .i64 (k : Int) ∧ Hid (ShrI A s N k L) ∧ Hid (Blk wr g 88 .u32 L) ∧ Hid (Below g w wr)) (fun i _ => N - (intOf i).toNat)
 case atStart => exact ⟨0, _, by omega, rfl, Lib.hid (ShrI.start A s N), Hblk1, HB1⟩
 case round =>
  obtain ⟨k, L, hk, rfl, hI, hbl, hB⟩ := hrel
  have hLl := hI.out.len
  by_cases hlt : k < N
  ·have hy : k < A.length := by rw [HN.out]; exact hlt
   obtain ⟨b, off, rfl, hb, hcc⟩ := Hyc.out (by omega)
   rw [Hg.out] at hb
   have cy := (hB.out.cell (p := ⟨b, off + k, none⟩) hb).trans (hcc k hy)
   have hyl : A[k] < 4294967296 := HlA.out _ (List.getElem_mem hy)
   have cg := hbl.out.cell k (by omega)
   have fg := hbl.out.frozen k
   have kl : k < L.length := by omega
   have hz0 := hI.out.zero k kl (Nat.le_refl _)
   rw [hz0] at cg
   obtain ⟨p1, p2, p3, p4, p5⟩ := shr_parts A[k] s hs hyl
   have hpc : ((2 ^ s : Nat) : Int) = (2 : Int) ^ s := by rw [Int.natCast_pow]; rfl
   have hsh : (A[k] : Int) * 4294967296 / 2 ^ s = ((A[k] * 2 ^ (32 - s) : Nat) : Int) := by
    rw [← p1, ← hpc]
    show (A[k] : Int) * 4294967296 / _ = ((A[k] * 4294967296 / 2 ^ s : Nat) : Int)
    rw [Int.natCast_ediv, Int.natCast_mul]
    rfl
   have hT32 : 2 ^ (32 - s) ≤ 4294967296 := by
    have : 2 ^ (32 - s) ≤ 2 ^ 32 := Nat.pow_le_pow_right (by omega) (by omega)
    exact this
   have htl : A[k] * 2 ^ (32 - s) ≤ 4294967295 * 4294967296 := Nat.mul_le_mul (by omega) hT32
   have Hn := Lib.hid (fun (h0 : 0 < k) (k1 : k - 1 < L.length) => hI.out.next h0 kl k1 hy hs HlA.out)
   have hilt : A[k] / 2 ^ s < 4294967296 := Nat.lt_of_lt_of_le p3 hT32
   have hor := u32_or_nat 0 (A[k] / 2 ^ s) (by omega) hilt
   rw [Nat.zero_or] at hor
   have hlol : 2 ^ (32 - s) * (A[k] % 2 ^ s) < 4294967296 := by
    rw [← p4]
    exact Nat.mod_lt _ (by decide)
   have hdv : A[k] * 2 ^ (32 - s) / 4294967296 = A[k] / 2 ^ s := p2
   have hmd : A[k] * 2 ^ (32 - s) % 4294967296 = 2 ^ (32 - s) * (A[k] % 2 ^ s) := p4
   have Hor2 := Lib.hid (fun (h0 : 0 < k) (k1 : k - 1 < L.length) => (u32_or_nat L[k - 1] (2 ^ (32 - s) * (A[k] % 2 ^ s)) (hI.out.low _ (List.getElem_mem k1)) hlol).trans (congrArg Int.ofNat (or_mul L[k - 1] (A[k] % 2 ^ s) (32 - s) (hI.out.lt h0 k1))))
   clear hcc
   by_cases h0 : k = 0
   ·have HF : Hid (ShrI A s N (k + 1) (L.set k (A[k] / 2 ^ s))) := Lib.hid (by subst h0; exact hI.out.first kl hy hs HlA.out)
    have hk0 : ¬ 0 < k := by omega
    have cg' : wr.cell? ⟨g, k, none⟩ = some (.int .u32 0) := cg
    have hor' : ∀ x : Nat, x < 4294967296 → bits BinOp.or IntKind.u32 0 (x : Int) = (x : Int) := fun x hx => by have h9 := u32_or_nat 0 x (by omega) hx; rw [Nat.zero_or] at h9; exact h9
    generalize A[k] = y at *
    obtain ⟨t, ht⟩ : ∃ t, y * 2 ^ (32 - s) = t := ⟨_, rfl⟩
    obtain ⟨hi, hhi⟩ : ∃ hi, y / 2 ^ s = hi := ⟨_, rfl⟩
    rw [ht] at hsh hdv htl
    rw [hhi] at hdv hilt HF
    have hhiI : (t : Int) / 4294967296 = (hi : Int) := by omega
    have hor2 := hor' hi hilt
    clear p1 p2 p3 p4 p5 ht hhi hdv hmd hlol Hn Hor2 hpc hz0 hor cg hor' h0
    go_wp2_with fail
    go_roundw
    case rel => exact ⟨k + 1, _, by omega, by go_num, HF, Lib.hid (hbl.out.set k _), Lib.hid (hB.out.setCell (p := ⟨g, k, none⟩) (Nat.le_refl _) _)⟩
    case measure => simp [intOf]; omega
   ·have hkp : 0 < k := by omega
    have k1 : k - 1 < L.length := by omega
    have HF := Lib.hid (Hn.out hkp k1)
    have hor3 := Hor2.out hkp k1
    have cg' : wr.cell? ⟨g, k, none⟩ = some (.int .u32 0) := cg
    have cp := hbl.out.cell (k - 1) k1
    have fp := hbl.out.frozen (k - 1)
    have i1 : (0 : Int) ≤ (k : Int) - 1 := by omega
    have i2 : (k : Int) - 1 < (N : Int) := by omega
    have i3 : ((k : Int) - 1).toNat = k - 1 := by omega
    have hor' : ∀ x : Nat, x < 4294967296 → bits BinOp.or IntKind.u32 0 (x : Int) = (x : Int) := fun x hx => by have h9 := u32_or_nat 0 x (by omega) hx; rw [Nat.zero_or] at h9; exact h9
    generalize A[k] = y at *
    generalize L[k - 1] = c at *
    obtain ⟨t, ht⟩ : ∃ t, y * 2 ^ (32 - s) = t := ⟨_, rfl⟩
    obtain ⟨hi, hhi⟩ : ∃ hi, y / 2 ^ s = hi := ⟨_, rfl⟩
    obtain ⟨lo, hlo⟩ : ∃ lo, 2 ^ (32 - s) * (y % 2 ^ s) = lo := ⟨_, rfl⟩
    rw [ht] at hsh hdv htl hmd
    rw [hhi] at hdv hilt HF
    rw [hlo] at hmd hlol hor3 HF
    have hor4 : bits BinOp.or IntKind.u32 (c : Int) (lo : Int) = ((c + lo : Nat) : Int) := hor3
    have hhiI : (t : Int) / 4294967296 = (hi : Int) := by omega
    have hloI : (t : Int) % 4294967296 = (lo : Int) := by omega
    have hor2 := hor' hi hilt
    clear p1 p2 p3 p4 p5 ht hhi hlo hdv hmd Hn Hor2 hpc hz0 hor cg hor' h0 hor3
    go_wp2_with fail
    go_roundw
    case rel => exact ⟨k + 1, _, by omega, by go_num, HF, Lib.hid ((hbl.out.set k _).set (k - 1) _), Lib.hid ((hB.out.setCell (p := ⟨g, k, none⟩) (Nat.le_refl _) _).setCell (p := ⟨g, k - 1, none⟩) (Nat.le_refl _) _)⟩
    case measure => simp [intOf]; omega
  ·obtain rfl : k = N := by omega
   have hv : val W2 L = val W2 A / 2 ^ s := by rw [hI.out.eq, List.take_of_length_le (by rw [HN.out]; exact Nat.le_refl _)]
   have Htr := Lib.hid (trim_any (.slice (some ⟨g, 0, none⟩) k k) L wr (by
    have := RowAt.of_blk hbl.out (cap := k) (by omega) (by omega)
    rw [hLl] at this
    exact this) hI.out.low (by omega))
   rw [hv] at Htr
   clear hv
   go_wp2_with (go_at_call 58; refine Htr.out.mono ?_; rintro e w6 ⟨v6, rfl, q1, rfl⟩; have Q1 := Lib.hid q1; clear q1)
   go_ret
   exact ⟨_, rfl, Q1.out, by rw [Hg.out]; exact hB.out⟩

end Go.Proofs.Ytlmbebbdamgfpaa
