/- A region that draws its order and ends with a store: what is held need not hold behind its last operation. -/
import Derived.Test.YtlmbebbdamgfpaaQHWLen
import Derived.Deep.RegionHeld3
set_option linter.unusedVariables false
set_option linter.unusedSimpArgs false
set_option maxHeartbeats 2000000
set_option maxRecDepth 100000
namespace Go.Proofs.Ytlmbebbdamgfpaa
open Go.RowKit
structure qLq (A : List Nat) (s N k : Nat) (L : List Nat) : Prop where
 len : L.length = N + 1
 low : Low W2 L
 lt : ∀ h : k < L.length, L[k] < 2 ^ s
 zero : ∀ j (h : j < L.length), k < j -> L[j] = 0
 eq : val W2 L = val W2 (A.take k) * 2 ^ s
theorem qLq.start (A : List Nat) (s N : Nat) : qLq A s N 0 (List.replicate (N + 1) 0) :=
 ⟨by simp, fun x hx => by rw [(List.mem_replicate.1 hx).2]; decide, fun h => by simp [Nat.pow_pos], fun j h _ => by simp, by rw [qBo W2 _ (fun x hx => (List.mem_replicate.1 hx).2)]; simp [val]⟩
theorem qFU (y s c : Nat) (hs : s < 32) (hy : y < W2) (hc : c < 2 ^ s) : c ||| (y * 2 ^ s % W2) = c + y * 2 ^ s % W2 /\ c + y * 2 ^ s % W2 < W2 /\ y * 2 ^ s / W2 < 2 ^ s := by
 have hW : W2 = 2 ^ s * 2 ^ (32 - s) := by rw [<- Nat.pow_add, show s + (32 - s) = 32 by omega]
 have hp : 0 < 2 ^ s := Nat.pow_pos (by omega); have hm : y * 2 ^ s % W2 = 2 ^ s * (y % 2 ^ (32 - s)) := by rw [hW, Nat.mul_comm y, Nat.mul_mod_mul_left]
 have hl : y % 2 ^ (32 - s) < 2 ^ (32 - s) := Nat.mod_lt _ (Nat.pow_pos (by omega)); refine ⟨?_, ?_, ?_⟩
 ·rw [hm, Nat.or_comm, <- Nat.two_pow_add_eq_or_of_lt hc, Nat.add_comm]
 ·rw [hm]
  have h1 : 2 ^ s * (y % 2 ^ (32 - s) + 1) <= 2 ^ s * 2 ^ (32 - s) := Nat.mul_le_mul_left _ hl; rw [<- hW, Nat.mul_add, Nat.mul_one] at h1; omega
 ·refine Nat.div_lt_of_lt_mul ?_
  exact Nat.mul_lt_mul_of_pos_right hy hp
theorem qLq.next {A : List Nat} {s N k : Nat} {L : List Nat} (h : qLq A s N k L) (hk : k < L.length) (hk2 : k + 1 < L.length) (ha : k < A.length) (hs : s < 32) (hA : Low W2 A) :
 qLq A s N (k + 1) ((L.set k (L[k] + A[k] * 2 ^ s % W2)).set (k + 1) (A[k] * 2 ^ s / W2)) := by
 obtain ⟨p1, p2, p3⟩ := qFU A[k] s L[k] hs (hA _ (List.getElem_mem ha)) (h.lt hk); have hsW : 2 ^ s <= W2 := by
  have : 2 ^ s <= 2 ^ 32 := Nat.pow_le_pow_right (by omega) (by omega); exact this
 refine ⟨by rw [List.length_set, List.length_set]; exact h.len, qAP (qAP h.low _ _ p2) _ _ (by omega), fun hh => by rw [List.getElem_set_self]; exact p3, fun j hj hkj => ?_, ?_⟩
 ·rw [List.getElem_set_ne (by omega), List.getElem_set_ne (by omega)]
  exact h.zero j (by rw [List.length_set, List.length_set] at hj; exact hj) (by omega)
 ·have e1 := qBh W2 L k (L[k] + A[k] * 2 ^ s % W2) hk
  have hk3 : k + 1 < (L.set k (L[k] + A[k] * 2 ^ s % W2)).length := by rw [List.length_set]; exact hk2
  have e2 := qBh W2 (L.set k (L[k] + A[k] * 2 ^ s % W2)) (k + 1) (A[k] * 2 ^ s / W2) hk3; have hz : (L.set k (L[k] + A[k] * 2 ^ s % W2))[k + 1] = 0 := by
   rw [List.getElem_set_ne (by omega)]; exact h.zero (k + 1) hk2 (by omega)
  rw [hz] at e2; have hd := Nat.div_add_mod (A[k] * 2 ^ s) W2; have h1 := h.eq; rw [qAf W2 A k ha]; rw [Nat.pow_succ] at e2; generalize val W2 ((L.set k (L[k] + A[k] * 2 ^ s % W2)).set (k + 1) (A[k] * 2 ^ s / W2)) = v2 at *; generalize val W2 (L.set k (L[k] + A[k] * 2 ^ s % W2)) = v1 at *; generalize A[k] * 2 ^ s % W2 = lo at *; generalize A[k] * 2 ^ s / W2 = hi at *; generalize L[k] = c at *; generalize A[k] = y at *; generalize val W2 (A.take k) = a at *; generalize W2 ^ k = X at *; generalize 2 ^ s = S at *; generalize val W2 L = v at *; generalize W2 = B at *; clear p1 p2 p3 hz h hA hs hsW
  grind
theorem qEc (va : Value) (A : List Nat) (s : Nat) (w : World) (ha : qAd .u32 w va A) (hA : Low W2 A) (hs : s < 32) (hlen : A.length <= 1048576) :
 Calls Try.prog 85 #[va, .int .i64 (s : Int)] w fun e w' => ∃ L, e = .returned (.slice (some ⟨w.heap.size, 0, none⟩) (A.length + 1) (A.length + 1)) /\ Blk w' w.heap.size 88 .u32 L /\ Low W2 L /\ L.length = A.length + 1 /\ val W2 L = val W2 A * 2 ^ s /\ Below w.heap.size w w' := by
 obtain ⟨i0, hi, hz0, hz1, hz2⟩ := info_parts qDS; have Hi := hZ hi; have Hz0 := hZ hz0; have Hz1 := hZ hz1; have Hz2 := hZ hz2; clear hi hz0 hz1 hz2; obtain ⟨ya, ycap, hvy, y1, y2, hyc⟩ := ha; subst hvy; have Hyc := hZ hyc; have HlA := hZ hA; clear hyc hA; obtain ⟨N, hN⟩ := eX A.length; have HN := hZ hN; rw [hN] at hlen y1 ⊢; clear hN
 go_enter Try.func85, Try.ntmps85
 go_wp2_with (at_make; refine qAy _ rfl _ _ 56 rfl 88 i0 .u32 Try.underlying56 Hi.o Hz0.o Hz1.o _ _ _ _ (N + 1) rfl rfl (by omega) (by omega) (by rw [Hz2.o]; omega) (by omega) ?_)
 intro w1 hblk hB1 hz1; obtain ⟨g, hg⟩ := eX w.heap.size; have Hg := hZ hg; rw [hg] at hblk hB1 hz1 ⊢; have Hblk1 := hZ hblk; have HB1 := hZ hB1; clear hg hblk hB1
 go_wp2_with fail
 go_loopw [15] (fun i wr => ∃ (k : Nat) (L : List Nat), k <= N /\ i = .int .i64 (k : Int) /\ Hid (qLq A s N k L) /\ Hid (Blk wr g 88 .u32 L) /\ Hid (Below g w wr)) (fun i _ => N - (intOf i).toNat)
 case atStart => exact ⟨0, _, by omega, rfl, hZ (qLq.start A s N), Hblk1, HB1⟩
 case round =>
  obtain ⟨k, L, hk, rfl, hI, hbl, hB⟩ := hrel; have hLl := hI.o.len; by_cases hlt : k < N
  ·have hy : k < A.length := by rw [HN.o]; exact hlt
   obtain ⟨b, off, rfl, hb, hcc⟩ := Hyc.o (by omega); rw [Hg.o] at hb; have cy := (hB.o.cell (p := ⟨b, off + k, none⟩) hb).trans (hcc k hy); have hyl : A[k] < 4294967296 := HlA.o _ (List.getElem_mem hy); have cg := hbl.o.cell k (by omega); have cg2 := hbl.o.cell (k + 1) (by omega); have fg := hbl.o.frozen k; have fg2 := hbl.o.frozen (k + 1); have kl : k < L.length := by omega
   have kl2 : k + 1 < L.length := by omega
   have Hn := hZ (hI.o.next kl kl2 hy hs HlA.o); have hcl := hI.o.lt kl; obtain ⟨p1, p2, p3⟩ := qFU A[k] s L[k] hs hyl hcl; have hor := u32_or_nat L[k] (A[k] * 2 ^ s % W2) (hI.o.low _ (List.getElem_mem kl)) (Nat.mod_lt _ (by decide)); rw [p1] at hor; have hsW : 2 ^ s <= 2 ^ 31 := Nat.pow_le_pow_right (by omega) (by omega); have htl : A[k] * 2 ^ s <= 4294967295 * 2 ^ 31 := Nat.mul_le_mul (by omega) hsW; have hcast : ((A[k] * 2 ^ s : Nat) : Int) = (A[k] : Int) * 2 ^ s := by rw [Int.natCast_mul, Int.natCast_pow]; rfl
   clear hcc; generalize A[k] = y at *; generalize L[k] = c at *; obtain ⟨t, ht⟩ := eX (y * 2 ^ s); rw [ht] at hcast Hn hor p2 p3 htl; have hwr : IntKind.u64.wrap ((y : Int) * 2 ^ s) = (t : Int) := by rw [<- hcast, IntKind.wrap_u64]; omega
   obtain ⟨lo, hlo⟩ := eX (t % W2); obtain ⟨hi, hhi⟩ := eX (t / W2); have hlo2 : t % 4294967296 = lo := hlo; have hhi2 : t / 4294967296 = hi := hhi; rw [hlo] at Hn hor p2; rw [hhi] at Hn p3; have hloI : (t : Int) % 4294967296 = (lo : Int) := by omega
   have hhiI : (t : Int) / 4294967296 = (hi : Int) := by omega
   have hhil : hi < 4294967296 := by omega
   clear ht hlo hhi hlo2 hhi2 p1 hcast
   go_wp2_with fail
   go_roundw
   case rel => exact ⟨k + 1, _, by omega, by go_num, Hn, hZ ((hbl.o.set k _).set (k + 1) _), hZ ((hB.o.setCell (p := ⟨g, k, none⟩) (Nat.le_refl _) _).setCell (p := ⟨g, k + 1, none⟩) (Nat.le_refl _) _)⟩
   case measure => simp [intOf]; omega
  ·obtain rfl : k = N := by omega
   have Hv : Hid (val W2 L = val W2 A * 2 ^ s) := hZ (by rw [hI.o.eq, List.take_of_length_le (by rw [HN.o]; exact Nat.le_refl _)])
   go_wp2_with fail
   go_ret; rw [Hg.o]; exact ⟨L, rfl, hbl.o, hI.o.low, hLl, Hv.o, hB.o⟩
open Go.RowKit
structure qJo (A : List Nat) (s N k : Nat) (L : List Nat) : Prop where
 len : L.length = N
 low : Low W2 L
 lt : 0 < k -> ∀ h : k - 1 < L.length, L[k - 1] < 2 ^ (32 - s)
 zero : ∀ j (h : j < L.length), k <= j -> L[j] = 0
 eq : val W2 L = val W2 (A.take k) / 2 ^ s
theorem qJo.start (A : List Nat) (s N : Nat) : qJo A s N 0 (List.replicate N 0) :=
 ⟨by simp, fun x hx => by rw [(List.mem_replicate.1 hx).2]; decide, fun h => by omega, fun j h _ => by simp, by rw [qBo W2 _ (fun x hx => (List.mem_replicate.1 hx).2)]; simp [val]⟩
theorem qEb (y s : Nat) (hs : s < 32) (hy : y < W2) : y * W2 / 2 ^ s = y * 2 ^ (32 - s) /\ y * 2 ^ (32 - s) / W2 = y / 2 ^ s /\ y / 2 ^ s < 2 ^ (32 - s) /\ y * 2 ^ (32 - s) % W2 = 2 ^ (32 - s) * (y % 2 ^ s) /\ y % 2 ^ s < 2 ^ s := by
 have hW : W2 = 2 ^ s * 2 ^ (32 - s) := by rw [<- Nat.pow_add, show s + (32 - s) = 32 by omega]
 have hp : 0 < 2 ^ s := Nat.pow_pos (by omega); have hp2 : 0 < 2 ^ (32 - s) := Nat.pow_pos (by omega); refine ⟨?_, ?_, ?_, ?_, Nat.mod_lt _ hp⟩
 ·rw [hW, Nat.mul_left_comm, Nat.mul_div_cancel_left _ hp]
 ·rw [hW, Nat.mul_div_mul_right _ _ hp2]
 ·refine Nat.div_lt_of_lt_mul ?_
  rw [<- hW]; exact hy
 ·rw [hW, Nat.mul_comm y, Nat.mul_comm (2 ^ s), Nat.mul_mod_mul_left]
theorem qLM (c m k : Nat) (hc : c < 2 ^ k) : c ||| 2 ^ k * m = c + 2 ^ k * m := by
 rw [Nat.or_comm, <- Nat.two_pow_add_eq_or_of_lt hc, Nat.add_comm]
theorem qJo.first {A : List Nat} {s N : Nat} {L : List Nat} (h : qJo A s N 0 L) (hl : 0 < L.length) (ha : 0 < A.length) (hs : s < 32) (hA : Low W2 A) : qJo A s N 1 (L.set 0 (A[0] / 2 ^ s)) := by
 obtain ⟨_, _, p3, _, _⟩ := qEb A[0] s hs (hA _ (List.getElem_mem ha)); have hw : A[0] / 2 ^ s < W2 := Nat.lt_of_le_of_lt (Nat.div_le_self _ _) (hA _ (List.getElem_mem ha)); refine ⟨by rw [List.length_set]; exact h.len, qAP h.low _ _ hw, fun _ hh => by simp only [Nat.sub_self, List.getElem_set_self]; exact p3, fun j hj hkj => ?_, ?_⟩
 ·rw [List.getElem_set_ne (by omega)]
  exact h.zero j (by rw [List.length_set] at hj; exact hj) (by omega)
 ·have e1 := qBh W2 L 0 (A[0] / 2 ^ s) hl
  rw [h.zero 0 hl (by omega)] at e1; have h1 := h.eq; have h2 := qAf W2 A 0 ha; simp only [List.take_zero, val, Nat.zero_div, Nat.zero_add, Nat.pow_zero, Nat.mul_one] at *; rw [h2]; omega
theorem qJo.next {A : List Nat} {s N k : Nat} {L : List Nat} (h : qJo A s N k L) (h0 : 0 < k) (hk : k < L.length) (hk1 : k - 1 < L.length) (ha : k < A.length) (hs : s < 32) (hA : Low W2 A) :
 qJo A s N (k + 1) ((L.set k (A[k] / 2 ^ s)).set (k - 1) (L[k - 1] + 2 ^ (32 - s) * (A[k] % 2 ^ s))) := by
 obtain ⟨p1, p2, p3, p4, p5⟩ := qEb A[k] s hs (hA _ (List.getElem_mem ha)); have hW : W2 = 2 ^ s * 2 ^ (32 - s) := by rw [<- Nat.pow_add, show s + (32 - s) = 32 by omega]
 have hp : 0 < 2 ^ s := Nat.pow_pos (by omega); have hw : A[k] / 2 ^ s < W2 := Nat.lt_of_le_of_lt (Nat.div_le_self _ _) (hA _ (List.getElem_mem ha)); have hlt := h.lt h0 hk1; have hsum : L[k - 1] + 2 ^ (32 - s) * (A[k] % 2 ^ s) < W2 := by
  have h1 : 2 ^ (32 - s) * (A[k] % 2 ^ s + 1) <= 2 ^ (32 - s) * 2 ^ s := Nat.mul_le_mul_left _ p5; rw [Nat.mul_comm (2 ^ (32 - s)) (2 ^ s), <- hW, Nat.mul_add, Nat.mul_one] at h1; omega
 refine ⟨by rw [List.length_set, List.length_set]; exact h.len, qAP (qAP h.low _ _ hw) _ _ hsum, fun _ hh => ?_, fun j hj hkj => ?_, ?_⟩
 ·simp only [Nat.add_sub_cancel]
  rw [List.getElem_set_ne (by omega), List.getElem_set_self]; exact p3
 ·rw [List.getElem_set_ne (by omega), List.getElem_set_ne (by omega)]
  exact h.zero j (by rw [List.length_set, List.length_set] at hj; exact hj) (by omega)
 ·have e1 := qBh W2 L k (A[k] / 2 ^ s) hk
  rw [h.zero k hk (Nat.le_refl _)] at e1; have hk3 : k - 1 < (L.set k (A[k] / 2 ^ s)).length := by rw [List.length_set]; exact hk1
  have e2 := qBh W2 (L.set k (A[k] / 2 ^ s)) (k - 1) (L[k - 1] + 2 ^ (32 - s) * (A[k] % 2 ^ s)) hk3; have hz : (L.set k (A[k] / 2 ^ s))[k - 1] = L[k - 1] := List.getElem_set_ne (by omega) _; rw [hz] at e2; have hB : W2 ^ k = 2 ^ s * (2 ^ (32 - s) * W2 ^ (k - 1)) := by rw [qDZ k h0, <- Nat.mul_assoc, <- hW]
  have hd : (val W2 (A.take k) + A[k] * W2 ^ k) / 2 ^ s = val W2 (A.take k) / 2 ^ s + A[k] * (2 ^ (32 - s) * W2 ^ (k - 1)) := by
   rw [hB, Nat.mul_left_comm, Nat.add_mul_div_left _ _ hp]
  rw [qAf W2 A k ha, hd, <- h.eq]; have hy := Nat.div_add_mod A[k] (2 ^ s); rw [hB] at e1; generalize val W2 ((L.set k (A[k] / 2 ^ s)).set (k - 1) (L[k - 1] + 2 ^ (32 - s) * (A[k] % 2 ^ s))) = v2 at *; generalize val W2 (L.set k (A[k] / 2 ^ s)) = v1 at *; generalize A[k] / 2 ^ s = hi at *; generalize A[k] % 2 ^ s = r at *; generalize L[k - 1] = c at *; generalize A[k] = y at *; generalize W2 ^ (k - 1) = X at *; generalize 2 ^ (32 - s) = T at *; generalize 2 ^ s = S at *; generalize val W2 L = v at *; clear p1 p2 p3 p4 p5 h hA hz hd hB
  grind
theorem qGS (va : Value) (A : List Nat) (s : Nat) (w : World) (ha : qAd .u32 w va A) (hA : Low W2 A) (hs : s < 32) (hlen : A.length <= 1048576) :
 Calls Try.prog 89 #[va, .int .i64 (s : Int)] w fun e w' => ∃ v, e = .returned v /\ qAT w' v (val W2 A / 2 ^ s) /\ Below w.heap.size w w' := by
 obtain ⟨i0, hi, hz0, hz1, hz2⟩ := info_parts qDS; have Hi := hZ hi; have Hz0 := hZ hz0; have Hz1 := hZ hz1; have Hz2 := hZ hz2; clear hi hz0 hz1 hz2; obtain ⟨ya, ycap, hvy, y1, y2, hyc⟩ := ha; subst hvy; have Hyc := hZ hyc; have HlA := hZ hA; clear hyc hA; obtain ⟨N, hN⟩ := eX A.length; have HN := hZ hN; rw [hN] at hlen y1 ⊢; clear hN
 go_enter Try.func89, Try.ntmps89
 go_wp2_with (at_make; refine qAy _ rfl _ _ 56 rfl 88 i0 .u32 Try.underlying56 Hi.o Hz0.o Hz1.o _ _ _ _ N rfl rfl rfl rfl (by rw [Hz2.o]; omega) (by omega) ?_)
 intro w1 hblk hB1 hz1; obtain ⟨g, hg⟩ := eX w.heap.size; have Hg := hZ hg; rw [hg] at hblk hB1 hz1 ⊢; have Hblk1 := hZ hblk; have HB1 := hZ hB1; clear hg hblk hB1
 go_wp2_with fail
 go_loopw [14] (fun i wr => ∃ (k : Nat) (L : List Nat), k <= N /\ i = .int .i64 (k : Int) /\ Hid (qJo A s N k L) /\ Hid (Blk wr g 88 .u32 L) /\ Hid (Below g w wr)) (fun i _ => N - (intOf i).toNat)
 case atStart => exact ⟨0, _, by omega, rfl, hZ (qJo.start A s N), Hblk1, HB1⟩
 case round =>
  obtain ⟨k, L, hk, rfl, hI, hbl, hB⟩ := hrel; have hLl := hI.o.len; by_cases hlt : k < N
  ·have hy : k < A.length := by rw [HN.o]; exact hlt
   obtain ⟨b, off, rfl, hb, hcc⟩ := Hyc.o (by omega); rw [Hg.o] at hb; have cy := (hB.o.cell (p := ⟨b, off + k, none⟩) hb).trans (hcc k hy); have hyl : A[k] < 4294967296 := HlA.o _ (List.getElem_mem hy); have cg := hbl.o.cell k (by omega); have fg := hbl.o.frozen k; have kl : k < L.length := by omega
   have hz0 := hI.o.zero k kl (Nat.le_refl _); rw [hz0] at cg; obtain ⟨p1, p2, p3, p4, p5⟩ := qEb A[k] s hs hyl; have hpc : ((2 ^ s : Nat) : Int) = (2 : Int) ^ s := by rw [Int.natCast_pow]; rfl
   have hsh : (A[k] : Int) * 4294967296 / 2 ^ s = ((A[k] * 2 ^ (32 - s) : Nat) : Int) := by
    rw [<- p1, <- hpc]
    show (A[k] : Int) * 4294967296 / _ = ((A[k] * 4294967296 / 2 ^ s : Nat) : Int)
    rw [Int.natCast_ediv, Int.natCast_mul]; rfl
   have hT32 : 2 ^ (32 - s) <= 4294967296 := by
    have : 2 ^ (32 - s) <= 2 ^ 32 := Nat.pow_le_pow_right (by omega) (by omega); exact this
   have htl : A[k] * 2 ^ (32 - s) <= 4294967295 * 4294967296 := Nat.mul_le_mul (by omega) hT32; have Hn := hZ (fun (h0 : 0 < k) (k1 : k - 1 < L.length) => hI.o.next h0 kl k1 hy hs HlA.o); have hilt : A[k] / 2 ^ s < 4294967296 := Nat.lt_of_lt_of_le p3 hT32; have hor := u32_or_nat 0 (A[k] / 2 ^ s) (by omega) hilt; rw [Nat.zero_or] at hor; have hlol : 2 ^ (32 - s) * (A[k] % 2 ^ s) < 4294967296 := by
    rw [<- p4]; exact Nat.mod_lt _ (by decide)
   have hdv : A[k] * 2 ^ (32 - s) / 4294967296 = A[k] / 2 ^ s := p2; have hmd : A[k] * 2 ^ (32 - s) % 4294967296 = 2 ^ (32 - s) * (A[k] % 2 ^ s) := p4; have Hor2 := hZ (fun (h0 : 0 < k) (k1 : k - 1 < L.length) => (u32_or_nat L[k - 1] (2 ^ (32 - s) * (A[k] % 2 ^ s)) (hI.o.low _ (List.getElem_mem k1)) hlol).trans (congrArg Int.ofNat (qLM L[k - 1] (A[k] % 2 ^ s) (32 - s) (hI.o.lt h0 k1)))); clear hcc; by_cases h0 : k = 0
   ·have HF : Hid (qJo A s N (k + 1) (L.set k (A[k] / 2 ^ s))) := hZ (by subst h0; exact hI.o.first kl hy hs HlA.o)
    have hk0 : ¬ 0 < k := by omega
    have cg' : wr.cell? ⟨g, k, none⟩ = some (.int .u32 0) := cg; have hor' : ∀ x : Nat, x < 4294967296 -> bits BinOp.or IntKind.u32 0 (x : Int) = (x : Int) := fun x hx => by have h9 := u32_or_nat 0 x (by omega) hx; rw [Nat.zero_or] at h9; exact h9
    generalize A[k] = y at *; obtain ⟨t, ht⟩ := eX (y * 2 ^ (32 - s)); obtain ⟨hi, hhi⟩ := eX (y / 2 ^ s); rw [ht] at hsh hdv htl; rw [hhi] at hdv hilt HF; have hhiI : (t : Int) / 4294967296 = (hi : Int) := by omega
    have hor2 := hor' hi hilt; clear p1 p2 p3 p4 p5 ht hhi hdv hmd hlol Hn Hor2 hpc hz0 hor cg hor' h0
    go_wp2_with fail
    go_roundw
    case rel => exact ⟨k + 1, _, by omega, by go_num, HF, hZ (hbl.o.set k _), hZ (hB.o.setCell (p := ⟨g, k, none⟩) (Nat.le_refl _) _)⟩
    case measure => simp [intOf]; omega
   ·have hkp : 0 < k := by omega
    have k1 : k - 1 < L.length := by omega
    have HF := hZ (Hn.o hkp k1); have hor3 := Hor2.o hkp k1; have cg' : wr.cell? ⟨g, k, none⟩ = some (.int .u32 0) := cg; have cp := hbl.o.cell (k - 1) k1; have fp := hbl.o.frozen (k - 1); have i1 : (0 : Int) <= (k : Int) - 1 := by omega
    have i2 : (k : Int) - 1 < (N : Int) := by omega
    have i3 : ((k : Int) - 1).toNat = k - 1 := by omega
    have hor' : ∀ x : Nat, x < 4294967296 -> bits BinOp.or IntKind.u32 0 (x : Int) = (x : Int) := fun x hx => by have h9 := u32_or_nat 0 x (by omega) hx; rw [Nat.zero_or] at h9; exact h9
    generalize A[k] = y at *; generalize L[k - 1] = c at *; obtain ⟨t, ht⟩ := eX (y * 2 ^ (32 - s)); obtain ⟨hi, hhi⟩ := eX (y / 2 ^ s); obtain ⟨lo, hlo⟩ := eX (2 ^ (32 - s) * (y % 2 ^ s)); rw [ht] at hsh hdv htl hmd; rw [hhi] at hdv hilt HF; rw [hlo] at hmd hlol hor3 HF; have hor4 : bits BinOp.or IntKind.u32 (c : Int) (lo : Int) = ((c + lo : Nat) : Int) := hor3; have hhiI : (t : Int) / 4294967296 = (hi : Int) := by omega
    have hloI : (t : Int) % 4294967296 = (lo : Int) := by omega
    have hor2 := hor' hi hilt; clear p1 p2 p3 p4 p5 ht hhi hlo hdv hmd Hn Hor2 hpc hz0 hor cg hor' h0 hor3
    go_wp2_with fail
    go_roundw
    case rel => exact ⟨k + 1, _, by omega, by go_num, HF, hZ ((hbl.o.set k _).set (k - 1) _), hZ ((hB.o.setCell (p := ⟨g, k, none⟩) (Nat.le_refl _) _).setCell (p := ⟨g, k - 1, none⟩) (Nat.le_refl _) _)⟩
    case measure => simp [intOf]; omega
  ·obtain rfl : k = N := by omega
   have hv : val W2 L = val W2 A / 2 ^ s := by rw [hI.o.eq, List.take_of_length_le (by rw [HN.o]; exact Nat.le_refl _)]
   have Htr := hZ (qB1 (.slice (some ⟨g, 0, none⟩) k k) L wr (by
    have := qAd.of_blk hbl.o (cap := k) (by omega) (by omega); rw [hLl] at this; exact this) hI.o.low (by omega))
   rw [hv] at Htr; clear hv
   go_wp2_with (go_at_call 58; refine Htr.o.mono ?_; rintro e w6 ⟨v6, rfl, q1, rfl⟩; have Q1 := hZ q1; clear q1)
   go_ret; exact ⟨_, rfl, Q1.o, by rw [Hg.o]; exact hB.o⟩
open Go
section
variable {P : Program} {md : Region.Mode} {ops : Array Oper} {Q : Exit -> Act -> World -> Prop} {S : World -> Prop} {last : Nat}
def qBD (P : Program) (md : Region.Mode) (ops : Array Oper) (Q : Exit -> Act -> World -> Prop) (S : World -> Prop) (last : Nat) : Nat -> Array Bool -> Act -> World -> Prop
 | 0, listed, a, w => Region.ready md ops listed = [] /\ Q .normal a w
 | fuel + 1, listed, a, w =>
  (Region.ready md ops listed = [] -> Q .normal a w) /\
  ∀ i ∈ Region.ready md ops listed, wpOp P ops Q i (fun a' w' => (i ≠ last -> S w') /\ qBD P md ops Q S last fuel (listed.setIfInBounds i true) a' w') a w
theorem qEN : ∀ (fuel : Nat) (listed : Array Bool) (a : Act) (w : World), qBD P md ops Q S last fuel listed a w -> wpAny P md ops Q fuel listed a w
 | 0, _, _, _, h => h
 | fuel + 1, _, _, _, h => ⟨h.1, fun i hi => wpOp_mono (fun a' w' h' => qEN fuel _ a' w' h'.2) (h.2 i hi)⟩
def qD7 (md : Region.Mode) (ops : Array Oper) (last i : Nat) : Bool :=
 i != last && match ops[last]? with
  | some o => o.after.any fun e => Region.binds md e && e.on == i
  | none => true
theorem qEG {i : Nat} {listed : Array Bool} (hw : qD7 md ops last i = true) (hr : i ∈ Region.ready md ops listed) : last ∉ Region.ready md ops listed := by
 intro hl; unfold qD7 at hw; obtain ⟨hlun, ol, hol, hall⟩ := mem_ready.1 hl; rw [hol] at hw; simp only [Bool.and_eq_true, Array.any_eq_true', beq_iff_eq] at hw; obtain ⟨-, e, he, hb, heq⟩ := hw; have h1 := hall e he hb; have h0 := (mem_ready.1 hr).1; rw [heq] at h1; rcases Nat.lt_or_ge i listed.size with h' | h'
 ·simp [h'] at h0 h1
  rw [h0] at h1; cases h1
 ·simp [Array.getElem?_eq_none h'] at h1
theorem qDM {i : Nat} {oi : Oper} {v : Value} (hi : ops[i]? = some oi) (hsel : ∀ (j : Nat) (o : Oper) cs b, ops[j]? = some o -> o.op ≠ .select cs b)
 (hQ : ∀ c a w, Q (.panic c) (a.put oi.dst v) w -> Q (.panic c) a w) (hwt : qD7 md ops last i = true) (fuel : Nat) :
 ∀ (listed : Array Bool) (a : Act) (w : World),
  (∀ j oj, ops[j]? = some oj -> j ≠ i -> listed.getD j true = false -> (∀ e ∈ oj.after, Region.binds md e = true -> e.on ≠ i) -> oi.apart ops oj = true) ->
  i ∈ Region.ready md ops listed -> YieldsIf P ops S oi v a -> S w ->
  qBD P md ops Q S last fuel (listed.setIfInBounds i true) (a.put oi.dst v) w -> qBD P md ops Q S last (fuel + 1) listed a w := by
 induction fuel with
 | zero =>
  intro listed a w _ hr hy hS H; refine ⟨fun h => absurd hr (by rw [h]; simp), fun j hj => ?_⟩; by_cases hji : j = i
  ·subst hji
   exact hy.wpOp hi hS ⟨fun _ => hS, H⟩
  ·exact absurd (ready_mono hj hji) (by rw [H.1]; simp)
 | succ fuel ih =>
  intro listed a w hfree hr hy hS H; refine ⟨fun h => absurd hr (by rw [h]; simp), fun j hj => ?_⟩; by_cases hji : j = i
  ·subst hji
   exact hy.wpOp hi hS ⟨fun _ => hS, H⟩
  ·have hjl : j ≠ last := fun e => qEG hwt hr (e ▸ hj)
   obtain ⟨hjun, oj, hoj, hall⟩ := mem_ready.1 hj; have hnot : ∀ e ∈ oj.after, Region.binds md e = true -> e.on ≠ i := by
    intro e he hb heq; have h1 := hall e he hb; have h0 := (mem_ready.1 hr).1; rw [heq] at h1; rcases Nat.lt_or_ge i listed.size with h' | h'
    ·simp [h'] at h0 h1
     rw [h0] at h1; cases h1
    ·simp [Array.getElem?_eq_none h'] at h1
   have h2 := wpOp_putIf hoj (hfree j oj hoj hji hjun hnot) (fun cs b => hsel i oi cs b hi) (fun cs b => hsel j oj cs b hoj) hQ hy (H.2 j (ready_mono hj hji)); refine wpOp_mono (fun a' w' h3 => ⟨h3.2.1, ih _ a' w' (fun k ok hk hki hun hno => ?_) (ready_mono hr (Ne.symm hji)) h3.1 (h3.2.1 hjl) ?_⟩) h2
   ·refine hfree k ok hk hki ?_ hno
    by_cases hjk : j = k
    ·subst hjk; exact hjun
    ·rw [getD_set_ne true hjk] at hun; exact hun
   ·rw [Array.setIfInBounds_comm _ _ hji]
    exact h3.2.2
theorem qMn (i d : Nat) {oi : Oper} {v : Value} {fuel : Nat} {listed : Array Bool} {tmps : Array Value} {ds : List Deferred} {w : World} (hi : ops[i]? = some oi) (hd : oi.dst = some d)
 (hs : Region.noSelect ops = true) (hf : Region.free md ops listed i = true) (hr : (Region.ready md ops listed).contains i = true) (hwt : qD7 md ops last i = true)
 (hQ : ∀ c a w, Q (.panic c) (a.put oi.dst v) w -> Q (.panic c) a w) (hw : Region.wanted oi (yielded ops tmps) = true) (hy : ∀ w, S w -> (execOp (Act.eval ⟨tmps, ds⟩) oi).run P w = .ok (.value v) w) (hS : S w)
 (h : qBD P md ops Q S last fuel (listed.setIfInBounds i true) ⟨tmps.setIfInBounds d v, ds⟩ w) : qBD P md ops Q S last (fuel + 1) listed ⟨tmps, ds⟩ w :=
 qDM hi (Region.noSelect_spec hs) hQ hwt fuel listed _ w (Region.free_spec hi hf) (by simpa using hr) (Or.inl ⟨hw, hy⟩) hS (by rw [hd]; exact h)
theorem qMq (i d : Nat) {oi : Oper} {fuel : Nat} {listed : Array Bool} {tmps : Array Value} {ds : List Deferred} {w : World} (hi : ops[i]? = some oi) (hd : oi.dst = some d)
 (hs : Region.noSelect ops = true) (hf : Region.free md ops listed i = true) (hr : (Region.ready md ops listed).contains i = true) (hwt : qD7 md ops last i = true)
 (hQ : ∀ c a w, Q (.panic c) (a.put oi.dst undef) w -> Q (.panic c) a w) (hw : Region.wanted oi (yielded ops tmps) = false) (hS : S w)
 (h : qBD P md ops Q S last fuel (listed.setIfInBounds i true) ⟨tmps.setIfInBounds d undef, ds⟩ w) : qBD P md ops Q S last (fuel + 1) listed ⟨tmps, ds⟩ w :=
 qDM hi (Region.noSelect_spec hs) hQ hwt fuel listed _ w (Region.free_spec hi hf) (by simpa using hr) (Or.inr ⟨hw, rfl⟩) hS (by rw [hd]; exact h)
theorem qLf {listed : Array Bool} {a : Act} {w : World} (hr : Region.ready md ops listed = []) (h : Q .normal a w) : ∀ fuel, qBD P md ops Q S last fuel listed a w
 | 0 => ⟨hr, h⟩
 | _ + 1 => ⟨fun _ => h, by rw [hr]; simp⟩
theorem qCp (i : Nat) {o : Oper} {fuel : Nat} {listed : Array Bool} {a : Act} {w : World} (hr : Region.ready md ops listed = [i]) (ho : ops[i]? = some o)
 (h : ∀ K' : Act -> World -> Prop, Shut (∀ a w, S w -> (S w -> qBD P md ops Q S last fuel (listed.setIfInBounds i true) a w) -> K' a w) -> if Region.wanted o (yielded ops a.tmps) = true then Oper.wp P o a w K' Q else K' (a.put o.dst undef) w) :
 qBD P md ops Q S last (fuel + 1) listed a w := by
 refine ⟨fun h0 => absurd (hr.symm.trans h0) (by simp), fun j hj => ?_⟩; rw [hr, List.mem_singleton] at hj; subst hj; exact wpOp_step ho (fun K' hK => h K' (fun a w hS hW => hK a w ⟨fun _ => hS, hW hS⟩))
theorem qI4 {o : Oper} {fuel : Nat} {listed : Array Bool} {a : Act} {w : World} (hr : Region.ready md ops listed = [last]) (ho : ops[last]? = some o) (he : Region.ready md ops (listed.setIfInBounds last true) = [])
 (h : ∀ K' : Act -> World -> Prop, Shut (∀ a w, Q .normal a w -> K' a w) -> if Region.wanted o (yielded ops a.tmps) = true then Oper.wp P o a w K' Q else K' (a.put o.dst undef) w) :
 qBD P md ops Q S last (fuel + 1) listed a w := by
 refine ⟨fun h0 => absurd (hr.symm.trans h0) (by simp), fun j hj => ?_⟩; rw [hr, List.mem_singleton] at hj; subst hj; refine wpOp_step ho (fun K' hK => h K' (fun a w hQ => hK a w ⟨fun h => absurd rfl h, ?_⟩)); cases fuel with
 | zero => exact ⟨he, hQ⟩
 | succ f => exact ⟨fun _ => hQ, by rw [he]; simp⟩
theorem qDO {id : Nat} {a : Act} {w : World} (last : Nat) (S : World -> Prop) (hm : P.follows .mixedOrders = true) (hS : S w.drew)
 (h : S w.drew -> qBD P .any ops Q S last ops.size (Array.replicate ops.size false) a w.drew) : (Code.region id ops true).wp P Q a w :=
 wp_region_any hm (qEN _ _ _ _ (h hS))
end
section
variable {P : Program} {md : Region.Mode} {ops : Array Oper} {Q : Exit -> Act -> World -> Prop} {S : World -> Prop} {last : Nat}
theorem kU (i d : Nat) {oi : Oper} {v : Value} {T : Array Value} {fuel : Nat} {listed : Array Bool} {tmps : Array Value} {ds : List Deferred} {w : World}
    (h : qBD P md ops Q S last fuel (listed.setIfInBounds i true) ⟨T, ds⟩ w)
    (hi : ops[i]? = some oi := by rfl) (hd : oi.dst = some d := by rfl)
    (hy : ∀ w, S w -> (execOp (Act.eval ⟨tmps, ds⟩) oi).run P w = .ok (.value v) w := by (intro w hSw; go_simp; first | done | with_reducible rfl))
    (hT : tmps.setIfInBounds d v = T := by (simp only [List.setIfInBounds_toArray, List.set_cons_zero, List.set_cons_succ]; try rfl))
    (hs : Region.noSelect ops = true := by kernel_rfl) (hf : Region.free md ops listed i = true := by kernel_rfl) (hr : (Region.ready md ops listed).contains i = true := by kernel_rfl) (hwt : qD7 md ops last i = true := by kernel_rfl)
    (hQ : ∀ c a w, Q (.panic c) (a.put oi.dst v) w -> Q (.panic c) a w := by exact fun _ _ _ h => h) (hw : Region.wanted oi (yielded ops tmps) = true := by rfl) (hS : S w := by assumption) : qBD P md ops Q S last (fuel + 1) listed ⟨tmps, ds⟩ w :=
  qMn i d hi hd hs hf hr hwt hQ hw hy hS (hT ▸ h)
theorem jU (i d : Nat) {oi : Oper} {T : Array Value} {fuel : Nat} {listed : Array Bool} {tmps : Array Value} {ds : List Deferred} {w : World}
    (h : qBD P md ops Q S last fuel (listed.setIfInBounds i true) ⟨T, ds⟩ w)
    (hi : ops[i]? = some oi := by rfl) (hd : oi.dst = some d := by rfl)
    (hT : tmps.setIfInBounds d undef = T := by (simp only [List.setIfInBounds_toArray, List.set_cons_zero, List.set_cons_succ]; try rfl))
    (hs : Region.noSelect ops = true := by kernel_rfl) (hf : Region.free md ops listed i = true := by kernel_rfl) (hr : (Region.ready md ops listed).contains i = true := by kernel_rfl) (hwt : qD7 md ops last i = true := by kernel_rfl)
    (hQ : ∀ c a w, Q (.panic c) (a.put oi.dst undef) w -> Q (.panic c) a w := by exact fun _ _ _ h => h) (hw : Region.wanted oi (yielded ops tmps) = false := by rfl) (hS : S w := by assumption) : qBD P md ops Q S last (fuel + 1) listed ⟨tmps, ds⟩ w :=
  qMq i d hi hd hs hf hr hwt hQ hw hS (hT ▸ h)
end
end Go.Proofs.Ytlmbebbdamgfpaa
