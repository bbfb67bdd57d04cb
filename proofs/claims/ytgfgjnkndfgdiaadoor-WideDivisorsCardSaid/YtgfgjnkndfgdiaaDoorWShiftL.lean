/- wide: shiftLeft. -/
import Derived.Test.YtgfgjnkndfgdiaaDoorWLen
set_option linter.unusedVariables false
set_option linter.unusedSimpArgs false
namespace Go.Proofs.YtgfgjnkndfgdiaaDoor
open Go.RowKit

/-- between two words of shiftLeft -/
structure ShlI (A : List Nat) (s N k : Nat) (L : List Nat) : Prop where
  len : L.length = N + 1
  low : Low W2 L
  lt : ∀ h : k < L.length, L[k] < 2 ^ s
  zero : ∀ j (h : j < L.length), k < j → L[j] = 0
  eq : val W2 L = val W2 (A.take k) * 2 ^ s

theorem ShlI.start (A : List Nat) (s N : Nat) : ShlI A s N 0 (List.replicate (N + 1) 0) :=
  ⟨by simp, fun x hx => by rw [(List.mem_replicate.1 hx).2]; decide, fun h => by simp [Nat.pow_pos], fun j h _ => by simp, by rw [val_zeros W2 _ (fun x hx => (List.mem_replicate.1 hx).2)]; simp [val]⟩

theorem shl_parts (y s c : Nat) (hs : s < 32) (hy : y < W2) (hc : c < 2 ^ s) : c ||| (y * 2 ^ s % W2) = c + y * 2 ^ s % W2 ∧ c + y * 2 ^ s % W2 < W2 ∧ y * 2 ^ s / W2 < 2 ^ s := by
  have hW : W2 = 2 ^ s * 2 ^ (32 - s) := by rw [← Nat.pow_add, show s + (32 - s) = 32 by omega]
  have hp : 0 < 2 ^ s := Nat.pow_pos (by omega)
  have hm : y * 2 ^ s % W2 = 2 ^ s * (y % 2 ^ (32 - s)) := by rw [hW, Nat.mul_comm y, Nat.mul_mod_mul_left]
  have hl : y % 2 ^ (32 - s) < 2 ^ (32 - s) := Nat.mod_lt _ (Nat.pow_pos (by omega))
  refine ⟨?_, ?_, ?_⟩
  · rw [hm, Nat.or_comm, ← Nat.two_pow_add_eq_or_of_lt hc, Nat.add_comm]
  · rw [hm]
    have h1 : 2 ^ s * (y % 2 ^ (32 - s) + 1) ≤ 2 ^ s * 2 ^ (32 - s) := Nat.mul_le_mul_left _ hl
    rw [← hW, Nat.mul_add, Nat.mul_one] at h1
    omega
  · refine Nat.div_lt_of_lt_mul ?_
    exact Nat.mul_lt_mul_of_pos_right hy hp

theorem ShlI.next {A : List Nat} {s N k : Nat} {L : List Nat} (h : ShlI A s N k L) (hk : k < L.length) (hk2 : k + 1 < L.length) (ha : k < A.length) (hs : s < 32) (hA : Low W2 A) :
    ShlI A s N (k + 1) ((L.set k (L[k] + A[k] * 2 ^ s % W2)).set (k + 1) (A[k] * 2 ^ s / W2)) := by
  obtain ⟨p1, p2, p3⟩ := shl_parts A[k] s L[k] hs (hA _ (List.getElem_mem ha)) (h.lt hk)
  have hsW : 2 ^ s ≤ W2 := by
    have : 2 ^ s ≤ 2 ^ 32 := Nat.pow_le_pow_right (by omega) (by omega)
    exact this
  refine ⟨by rw [List.length_set, List.length_set]; exact h.len, low_set (low_set h.low _ _ p2) _ _ (by omega), fun hh => by rw [List.getElem_set_self]; exact p3, fun j hj hkj => ?_, ?_⟩
  · rw [List.getElem_set_ne (by omega), List.getElem_set_ne (by omega)]
    exact h.zero j (by rw [List.length_set, List.length_set] at hj; exact hj) (by omega)
  · have e1 := val_set W2 L k (L[k] + A[k] * 2 ^ s % W2) hk
    have hk3 : k + 1 < (L.set k (L[k] + A[k] * 2 ^ s % W2)).length := by rw [List.length_set]; exact hk2
    have e2 := val_set W2 (L.set k (L[k] + A[k] * 2 ^ s % W2)) (k + 1) (A[k] * 2 ^ s / W2) hk3
    have hz : (L.set k (L[k] + A[k] * 2 ^ s % W2))[k + 1] = 0 := by
      rw [List.getElem_set_ne (by omega)]
      exact h.zero (k + 1) hk2 (by omega)
    rw [hz] at e2
    have hd := Nat.div_add_mod (A[k] * 2 ^ s) W2
    have h1 := h.eq
    rw [val_take_succ W2 A k ha]
    rw [Nat.pow_succ] at e2
    generalize val W2 ((L.set k (L[k] + A[k] * 2 ^ s % W2)).set (k + 1) (A[k] * 2 ^ s / W2)) = v2 at *
    generalize val W2 (L.set k (L[k] + A[k] * 2 ^ s % W2)) = v1 at *
    generalize A[k] * 2 ^ s % W2 = lo at *
    generalize A[k] * 2 ^ s / W2 = hi at *
    generalize L[k] = c at *
    generalize A[k] = y at *
    generalize val W2 (A.take k) = a at *
    generalize W2 ^ k = X at *
    generalize 2 ^ s = S at *
    generalize val W2 L = v at *
    generalize W2 = B at *
    clear p1 p2 p3 hz h hA hs hsW
    grind

set_option maxRecDepth 100000 in
set_option maxHeartbeats 2000000 in
theorem shiftl_core (va : Value) (A : List Nat) (s : Nat) (w : World) (ha : RowAt .u32 w va A) (hA : Low W2 A) (hs : s < 32) (hlen : A.length ≤ 1048576) :
    Calls Tryd.prog 78 #[va, .int .i64 (s : Int)] w fun e w' => ∃ L, e = .returned (.slice (some ⟨w.heap.size, 0, none⟩) (A.length + 1) (A.length + 1)) ∧ Blk w' w.heap.size 74 .u32 L ∧ Low W2 L ∧ L.length = A.length + 1 ∧ val W2 L = val W2 A * 2 ^ s ∧ Below w.heap.size w w' := by
  obtain ⟨i0, hi, hz0, hz1, hz2⟩ := info_parts info32
  have Hi := Lib.hid hi
  have Hz0 := Lib.hid hz0
  have Hz1 := Lib.hid hz1
  have Hz2 := Lib.hid hz2
  clear hi hz0 hz1 hz2
  obtain ⟨ya, ycap, hvy, y1, y2, hyc⟩ := ha
  subst hvy
  have Hyc := Lib.hid hyc
  have HlA := Lib.hid hA
  clear hyc hA
  obtain ⟨N, hN⟩ : ∃ N, A.length = N := ⟨_, rfl⟩
  have HN := Lib.hid hN
  rw [hN] at hlen y1 ⊢
  clear hN
  go_enter Tryd.func78, Tryd.ntmps78
  go_wp2_with (at_make; refine wpList_make_blk _ rfl _ _ 31 rfl 74 i0 .u32 Tryd.underlying31 Hi.out Hz0.out Hz1.out _ _ _ _ (N + 1) rfl rfl (by omega) (by omega) (by rw [Hz2.out]; omega) (by omega) ?_)
  intro w1 hblk hB1 hz1
  obtain ⟨g, hg⟩ : ∃ g, w.heap.size = g := ⟨_, rfl⟩
  have Hg := Lib.hid hg
  rw [hg] at hblk hB1 hz1 ⊢
  have Hblk1 := Lib.hid hblk
  have HB1 := Lib.hid hB1
  clear hg hblk hB1
  go_wp2_with fail
  go_loopw [15] (fun i wr => ∃ (k : Nat) (L : List Nat), k ≤ N ∧ i = .int .i64 (k : Int) ∧ Hid (ShlI A s N k L) ∧ Hid (Blk wr g 74 .u32 L) ∧ Hid (Below g w wr)) (fun i _ => N - (intOf i).toNat)
  case atStart => exact ⟨0, _, by omega, rfl, Lib.hid (ShlI.start A s N), Hblk1, HB1⟩
  case round =>
    obtain ⟨k, L, hk, rfl, hI, hbl, hB⟩ := hrel
    have hLl := hI.out.len
    by_cases hlt : k < N
    · have hy : k < A.length := by rw [HN.out]; exact hlt
      obtain ⟨b, off, rfl, hb, hcc⟩ := Hyc.out (by omega)
      rw [Hg.out] at hb
      have cy := (hB.out.cell (p := ⟨b, off + k, none⟩) hb).trans (hcc k hy)
      have hyl : A[k] < 4294967296 := HlA.out _ (List.getElem_mem hy)
      have cg := hbl.out.cell k (by omega)
      have cg2 := hbl.out.cell (k + 1) (by omega)
      have fg := hbl.out.frozen k
      have fg2 := hbl.out.frozen (k + 1)
      have kl : k < L.length := by omega
      have kl2 : k + 1 < L.length := by omega
      have Hn := Lib.hid (hI.out.next kl kl2 hy hs HlA.out)
      have hcl := hI.out.lt kl
      obtain ⟨p1, p2, p3⟩ := shl_parts A[k] s L[k] hs hyl hcl
      have hor := u32_or_nat L[k] (A[k] * 2 ^ s % W2) (hI.out.low _ (List.getElem_mem kl)) (Nat.mod_lt _ (by decide))
      rw [p1] at hor
      have hsW : 2 ^ s ≤ 2 ^ 31 := Nat.pow_le_pow_right (by omega) (by omega)
      have htl : A[k] * 2 ^ s ≤ 4294967295 * 2 ^ 31 := Nat.mul_le_mul (by omega) hsW
      have hcast : ((A[k] * 2 ^ s : Nat) : Int) = (A[k] : Int) * 2 ^ s := by rw [Int.natCast_mul, Int.natCast_pow]; rfl
      clear hcc
      generalize A[k] = y at *
      generalize L[k] = c at *
      obtain ⟨t, ht⟩ : ∃ t, y * 2 ^ s = t := ⟨_, rfl⟩
      rw [ht] at hcast Hn hor p2 p3 htl
      have hwr : IntKind.u64.wrap ((y : Int) * 2 ^ s) = (t : Int) := by rw [← hcast, IntKind.wrap_u64]; omega
      obtain ⟨lo, hlo⟩ : ∃ lo, t % W2 = lo := ⟨_, rfl⟩
      obtain ⟨hi, hhi⟩ : ∃ hi, t / W2 = hi := ⟨_, rfl⟩
      have hlo2 : t % 4294967296 = lo := hlo
      have hhi2 : t / 4294967296 = hi := hhi
      rw [hlo] at Hn hor p2
      rw [hhi] at Hn p3
      have hloI : (t : Int) % 4294967296 = (lo : Int) := by omega
      have hhiI : (t : Int) / 4294967296 = (hi : Int) := by omega
      have hhil : hi < 4294967296 := by omega
      clear ht hlo hhi hlo2 hhi2 p1 hcast
      go_wp2_with fail
      go_roundw
      case rel => exact ⟨k + 1, _, by omega, by go_num, Hn, Lib.hid ((hbl.out.set k _).set (k + 1) _), Lib.hid ((hB.out.setCell (p := ⟨g, k, none⟩) (Nat.le_refl _) _).setCell (p := ⟨g, k + 1, none⟩) (Nat.le_refl _) _)⟩
      case measure => simp [intOf]; omega
    · obtain rfl : k = N := by omega
      have Hv : Hid (val W2 L = val W2 A * 2 ^ s) := Lib.hid (by rw [hI.out.eq, List.take_of_length_le (by rw [HN.out]; exact Nat.le_refl _)])
      go_wp2_with fail
      go_ret
      rw [Hg.out]
      exact ⟨L, rfl, hbl.out, hI.out.low, hLl, Hv.out, hB.out⟩

end Go.Proofs.YtgfgjnkndfgdiaaDoor
