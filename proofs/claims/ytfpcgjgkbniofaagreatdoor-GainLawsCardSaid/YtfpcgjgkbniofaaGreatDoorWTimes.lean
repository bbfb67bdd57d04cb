/- wide: times. -/
import Derived.Test.YtfpcgjgkbniofaaGreatDoorWDivS
namespace Go.Proofs.YtfpcgjgkbniofaaGreatDoor
open Go.RowKit

theorem acc_step (L : List Nat) (k c x : Nat) (h : k < L.length) : val W2 (L.set k ((c + (x + L[k])) % W2)) + (c + (x + L[k])) / W2 * W2 ^ (k + 1) = val W2 L + (c + x) * W2 ^ k := by
  have := pass_step L k c x h
  rw [Nat.add_comm x L[k]]
  exact this

/-- between two rows -/
structure TimesI (A B : List Nat) (S k : Nat) (L : List Nat) : Prop where
  len : L.length = S
  low : Low W2 L
  zero : ∀ j (h : j < L.length), k + B.length ≤ j → L[j] = 0
  eq : val W2 L = val W2 (A.take k) * val W2 B

/-- inside a row -/
structure TimesJ (A B : List Nat) (S k j c : Nat) (x : Nat) (L : List Nat) : Prop where
  len : L.length = S
  low : Low W2 L
  c1 : c < W2
  zero : ∀ i (h : i < L.length), k + B.length ≤ i → L[i] = 0
  eq : val W2 L + c * W2 ^ (k + j) = val W2 (A.take k) * val W2 B + x * val W2 (B.take j) * W2 ^ k

theorem TimesI.start (A B : List Nat) (S : Nat) : TimesI A B S 0 (List.replicate S 0) :=
  ⟨by simp, fun x hx => by rw [(List.mem_replicate.1 hx).2]; decide, fun j h _ => by simp, by rw [val_zeros W2 _ (fun x hx => (List.mem_replicate.1 hx).2)]; simp [val]⟩

theorem TimesI.inner {A B : List Nat} {S k : Nat} {L : List Nat} (h : TimesI A B S k L) (x : Nat) : TimesJ A B S k 0 0 x L :=
  ⟨h.len, h.low, by decide, h.zero, by rw [h.eq]; simp [val]⟩

theorem TimesI.skip {A B : List Nat} {S k : Nat} {L : List Nat} (h : TimesI A B S k L) (hk : k < A.length) (hx : A[k] = 0) : TimesI A B S (k + 1) L :=
  ⟨h.len, h.low, fun j hj hkj => h.zero j hj (by omega), by rw [h.eq, val_take_succ W2 A k hk, hx]; simp⟩

theorem TimesJ.bound {A B : List Nat} {S k j c x : Nat} {L : List Nat} (h : TimesJ A B S k j c x L) (y : Nat) (hx : x < W2) (hy : y < W2) (i : Nat) (hi : i < L.length) : c + (x * y + L[i]) ≤ 18446744073709551615 := by
  have h1 := mul_lt_w2 x y hx hy
  have h2 := h.c1
  have h3 : L[i] < W2 := h.low _ (List.getElem_mem hi)
  unfold W2 at *
  omega

theorem TimesJ.next {A B : List Nat} {S k j c x : Nat} {L : List Nat} (h : TimesJ A B S k j c x L) (hj : j < B.length) (hkj : k + j < L.length) (hB : Low W2 B) (hx : x < W2) :
    TimesJ A B S k (j + 1) ((c + (x * B[j] + L[k + j])) / W2) x (L.set (k + j) ((c + (x * B[j] + L[k + j])) % W2)) := by
  have hb := h.bound B[j] hx (hB _ (List.getElem_mem hj)) (k + j) hkj
  refine ⟨by rw [List.length_set]; exact h.len, low_set h.low _ _ (Nat.mod_lt _ (by decide)), ?_, fun i hi hki => ?_, ?_⟩
  · apply (Nat.div_lt_iff_lt_mul (show 0 < W2 by decide)).2
    unfold W2 at *
    omega
  · rw [List.getElem_set_ne (by omega)]
    exact h.zero i (by rw [List.length_set] at hi; exact hi) (by omega)
  · have e := acc_step L (k + j) c (x * B[j]) hkj
    rw [show k + (j + 1) = k + j + 1 by omega, e, val_take_succ W2 B j hj]
    have h1 := h.eq
    rw [Nat.pow_add] at h1 ⊢
    generalize W2 ^ k = p at *
    generalize W2 ^ j = q at *
    generalize val W2 (B.take j) = v at *
    generalize B[j] = y at *
    grind

theorem TimesJ.done {A B : List Nat} {S k c : Nat} {L : List Nat} (hk : k < A.length) (h : TimesJ A B S k B.length c A[k] L) (hkj : k + B.length < L.length) : TimesI A B S (k + 1) (L.set (k + B.length) c) := by
  refine ⟨by rw [List.length_set]; exact h.len, low_set h.low _ _ h.c1, fun i hi hki => ?_, ?_⟩
  · rw [List.getElem_set_ne (by omega)]
    exact h.zero i (by rw [List.length_set] at hi; exact hi) (by omega)
  · have e := val_set W2 L (k + B.length) c hkj
    rw [h.zero _ hkj (Nat.le_refl _)] at e
    have h1 := h.eq
    rw [List.take_of_length_le (Nat.le_refl _)] at h1
    rw [val_take_succ W2 A k hk]
    generalize W2 ^ (k + B.length) = P at *
    generalize W2 ^ k = p at *
    generalize val W2 B = v at *
    generalize A[k] = y at *
    grind

theorem cast_cxyl (c x y l : Nat) : ((c + (x * y + l) : Nat) : Int) = (c : Int) + ((x : Int) * (y : Int) + (l : Int)) := by rw [Int.natCast_add, Int.natCast_add, Int.natCast_mul]

set_option maxRecDepth 100000 in
set_option maxHeartbeats 4000000 in
theorem times_core (va vb : Value) (A B : List Nat) (w : World) (ha : RowAt .u32 w va A) (hb : RowAt .u32 w vb B) (hA : Low W2 A) (hB : Low W2 B) (hA0 : 0 < A.length) (hB0 : 0 < B.length) (hl1 : A.length ≤ 1048576) (hl2 : B.length ≤ 1048576) :
    Calls Tryz.prog 114 #[va, vb] w fun e w' => ∃ v, e = .returned v ∧ RowAt .u32 w' v (digs W2 (val W2 A * val W2 B)) ∧ Below w.heap.size w w' := by
  obtain ⟨i0, hi, hz0, hz1, hz2⟩ := info_parts info32
  have Hi := Lib.hid hi
  have Hz0 := Lib.hid hz0
  have Hz1 := Lib.hid hz1
  have Hz2 := Lib.hid hz2
  clear hi hz0 hz1 hz2
  obtain ⟨xa, xcap, hvx, x1, x2, hxc⟩ := ha
  obtain ⟨ya, ycap, hvy, y1, y2, hyc⟩ := hb
  obtain ⟨xb, xoff, rfl, hxb, hxcc⟩ := hxc hA0
  obtain ⟨yb, yoff, rfl, hyb, hycc⟩ := hyc hB0
  subst hvx hvy
  have Hxcc := Lib.hid hxcc
  have Hycc := Lib.hid hycc
  have HlA := Lib.hid hA
  have HlB := Lib.hid hB
  clear hyc hxc hA hB hxcc hycc
  obtain ⟨N, hN⟩ : ∃ N, A.length = N := ⟨_, rfl⟩
  obtain ⟨M, hM⟩ : ∃ M, B.length = M := ⟨_, rfl⟩
  have HN := Lib.hid hN
  have HM := Lib.hid hM
  rw [hN] at x1 hl1 hA0
  rw [hM] at y1 hl2 hB0
  rw [hN, hM]
  clear hN hM
  have n0 : (N == 0) = false := by simp; omega
  have n1 : ((N : Int) == 0) = false := by simp; omega
  have m0 : (M == 0) = false := by simp; omega
  have m1 : ((M : Int) == 0) = false := by simp; omega
  go_enter Tryz.func114, Tryz.ntmps114
  go_wp2_with (at_make; refine wpList_make_blk _ rfl _ _ 83 rfl 159 i0 .u32 Tryz.underlying83 Hi.out Hz0.out Hz1.out _ _ _ _ (N + M) rfl rfl (by omega) (by omega) (by rw [Hz2.out]; omega) (by omega) ?_)
  intro w1 hblk hB1 hz1
  clear n0 n1 m0 m1
  obtain ⟨g, hg⟩ : ∃ g, w.heap.size = g := ⟨_, rfl⟩
  have Hg := Lib.hid hg
  rw [hg] at hblk hB1 hz1 hxb hyb ⊢
  have Hblk1 := Lib.hid hblk
  have HB1 := Lib.hid hB1
  clear hg hblk hB1
  go_wp2_with fail
  have HI0 := Lib.hid (TimesI.start A B (N + M))
  go_loopw [29] (fun i wr => ∃ (k : Nat) (L : List Nat), k ≤ N ∧ i = .int .i64 k ∧ Hid (TimesI A B (N + M) k L) ∧ Hid (Blk wr g 159 .u32 L) ∧ Hid (Below g w wr)) (fun i _ => N - (intOf i).toNat)
  case atStart => exact ⟨0, _, by omega, rfl, HI0, Hblk1, HB1⟩
  case round =>
    obtain ⟨k, L, hk, rfl, hI, hbl, hB⟩ := hrel
    have hgw := hbl.out.lt
    by_cases hlt : k < N
    · have hka : k < A.length := by rw [HN.out]; exact hlt
      have cx := (hB.out.cell (p := ⟨xb, xoff + k, none⟩) hxb).trans (Hxcc.out k hka)
      have hxl : A[k] < 4294967296 := HlA.out _ (List.getElem_mem hka)
      by_cases hx0 : A[k] = 0
      · have Hs := Lib.hid (hI.out.skip hka hx0)
        rw [hx0] at cx
        clear hx0 hxl
        go_wp2_with fail
        go_roundw
        case rel => exact ⟨k + 1, L, by omega, by go_num, Hs, hbl, hB⟩
        case measure => simp [intOf]; omega
      · have hxne : (((A[k] : Nat) : Int) == 0) = false := by simp only [beq_eq_false_iff_ne, ne_eq]; omega
        have HJ0 := Lib.hid (hI.out.inner A[k])
        obtain ⟨x, hx⟩ : ∃ x, A[k] = x := ⟨_, rfl⟩
        have Hx := Lib.hid hx
        rw [hx] at cx hxl hxne HJ0
        clear hx hx0
        go_wp2_with fail
        rw [show k + M + 1 - k = M + 1 by omega]
        obtain ⟨wo, rfl⟩ : ∃ wo : World, wo = wr := ⟨_, rfl⟩
        go_loopw [9, 48] (fun cv i wr => ∃ (j c : Nat) (L : List Nat), j ≤ M ∧ c < 4294967296 ∧ cv = .int .u64 (c : Int) ∧ i = .int .i64 j ∧ Hid (TimesJ A B (N + M) k j c x L) ∧ Hid (Blk wr g 159 .u32 L) ∧ Hid (Below g w wr)) (fun _ i _ => M - (intOf i).toNat)
        case atStart => exact ⟨0, 0, L, by omega, by omega, rfl, rfl, HJ0, hbl, hB⟩
        case round =>
          clear hI hbl hB HJ0 cx hgw
          obtain ⟨j, c, L2, hj, hc, rfl, rfl, hJ, hbl, hB⟩ := hrel
          have hgw := hbl.out.lt
          by_cases hjl : j < M
          · have hjb : j < B.length := by rw [HM.out]; exact hjl
            have hkj : k + j < L2.length := by rw [hJ.out.len]; omega
            have cy := (hB.out.cell (p := ⟨yb, yoff + j, none⟩) hyb).trans (Hycc.out j hjb)
            have hyl : B[j] < 4294967296 := HlB.out _ (List.getElem_mem hjb)
            have hbd := hJ.out.bound B[j] hxl hyl (k + j) hkj
            have Hnext := Lib.hid (hJ.out.next hjb hkj HlB.out hxl)
            have hmul := mul_lt_w2 x B[j] hxl hyl
            have cg := hbl.out.cell (k + j) hkj
            have fg := hbl.out.frozen (k + j)
            have hlo : L2[k + j] < 4294967296 := hJ.out.low _ (List.getElem_mem hkj)
            have hcn : (c + (x * B[j] + L2[k + j])) / W2 < W2 := Hnext.out.c1
            generalize B[j] = y at *
            generalize L2[k + j] = s at *
            have m1 : (0 : Int) ≤ (x : Int) * (y : Int) := by rw [← Int.natCast_mul]; omega
            have m2 : (x : Int) * (y : Int) ≤ 18446744065119617025 := by rw [← Int.natCast_mul]; omega
            have hjr : j < M + 1 := by omega
            go_wp2_with fail
            go_roundw
            case rel =>
              have hr : (((c + (x * y + s)) % W2 : Nat) : Int) = ((c : Int) + ((x : Int) * (y : Int) + (s : Int))) % 4294967296 := by rw [cast_mod, cast_cxyl]
              have hq : (((c + (x * y + s)) / W2 : Nat) : Int) = ((c : Int) + ((x : Int) * (y : Int) + (s : Int))) / 4294967296 := by rw [cast_div, cast_cxyl]
              rw [← hr, ← hq]
              exact ⟨j + 1, _, _, by omega, hcn, rfl, by go_num, Hnext, Lib.hid (hbl.out.set (k + j) _), Lib.hid (hB.out.setCell (p := ⟨g, k + j, none⟩) (Nat.le_refl _) _)⟩
            case measure => simp [intOf]; omega
          · obtain rfl : j = M := by omega
            clear hjl
            have hkj : k + j < L2.length := by rw [hJ.out.len]; omega
            have cg := hbl.out.cell (k + j) hkj
            have fg := hbl.out.frozen (k + j)
            have Hdone : Hid (TimesI A B (N + j) (k + 1) (L2.set (k + j) c)) := Lib.hid (by
              have hJ2 := hJ.out
              rw [← Hx.out, ← HM.out] at hJ2
              have := TimesJ.done hka hJ2 (by rw [HM.out]; exact hkj)
              rw [HM.out] at this
              exact this)
            have hjr : j < j + 1 := by omega
            go_wp2_with fail
            go_roundw
            case rel => exact ⟨k + 1, _, by omega, by go_num, Hdone, Lib.hid (hbl.out.set (k + j) _), Lib.hid (hB.out.setCell (p := ⟨g, k + j, none⟩) (Nat.le_refl _) _)⟩
            case measure => simp [intOf]; omega
    · obtain rfl : k = N := by omega
      clear hlt
      have hlen2 := hI.out.len
      have hv : val W2 L = val W2 A * val W2 B := by
        have := hI.out.eq
        rw [List.take_of_length_le (by rw [HN.out]; exact Nat.le_refl _)] at this
        exact this
      have Htr := Lib.hid (trim_any (.slice (some ⟨g, 0, none⟩) (k + M) (k + M)) L wr (by
        have := RowAt.of_blk hbl.out (cap := k + M) (by omega) (by omega)
        rw [hlen2] at this
        exact this) hI.out.low (by omega))
      rw [hv] at Htr
      clear hlen2 hv
      go_wp2_with (go_at_call 116; refine Htr.out.mono ?_; rintro e w6 ⟨v6, rfl, q1, rfl⟩; have Q1 := Lib.hid q1; clear q1)
      go_ret
      exact ⟨_, rfl, Q1.out, by rw [Hg.out]; exact hB.out⟩

theorem times_nil1 (a : Option Addr) (cap : Nat) (_hc : cap ≤ 9223372036854775807) (vb : Value) (w : World) :
    Calls Tryz.prog 114 #[.slice a 0 cap, vb] w fun e w' => e = .returned (.slice none 0 0) ∧ w = w' := by
  go_enter Tryz.func114, Tryz.ntmps114
  go_wp2
  go_ret
  exact ⟨rfl, rfl⟩

theorem times_nil2 (a b : Option Addr) (n cap cap' : Nat) (hn : 0 < n) (_hn2 : n ≤ 1048576) (_hc : cap ≤ 9223372036854775807) (_hc' : cap' ≤ 9223372036854775807) (w : World) :
    Calls Tryz.prog 114 #[.slice a n cap, .slice b 0 cap'] w fun e w' => e = .returned (.slice none 0 0) ∧ w = w' := by
  have n0 : (n == 0) = false := by simp; omega
  have n1 : ((n : Int) == 0) = false := by simp; omega
  go_enter Tryz.func114, Tryz.ntmps114
  go_wp2
  go_ret
  exact ⟨rfl, rfl⟩

theorem times_any (va vb : Value) (m n : Nat) (w : World) (ha : MagAt w va m) (hb : MagAt w vb n) (hl1 : (digs W2 m).length ≤ 1048576) (hl2 : (digs W2 n).length ≤ 1048576) :
    Calls Tryz.prog 114 #[va, vb] w fun e w' => ∃ v, e = .returned v ∧ MagAt w' v (m * n) ∧ Below w.heap.size w w' := by
  by_cases hm : m = 0
  · subst hm
    obtain ⟨a, cap, rfl, _, hc, _⟩ := ha
    refine (times_nil1 a cap hc vb w).mono ?_
    rintro e w' ⟨rfl, rfl⟩
    refine ⟨_, rfl, ?_, Below.refl _ _⟩
    rw [Nat.zero_mul]
    exact RowAt.nil none 0 (by omega)
  · have hm1 : 0 < (digs W2 m).length := List.length_pos_iff.2 (fun h => hm ((digs_nil W2 m w2_two).1 h))
    by_cases hn : n = 0
    · subst hn
      obtain ⟨a, cap, rfl, _, hc, _⟩ := ha
      obtain ⟨b, cap', rfl, _, hc', _⟩ := hb
      refine (times_nil2 a b _ cap cap' hm1 hl1 hc hc' w).mono ?_
      rintro e w' ⟨rfl, rfl⟩
      refine ⟨_, rfl, ?_, Below.refl _ _⟩
      rw [Nat.mul_zero]
      exact RowAt.nil none 0 (by omega)
    · have hn1 : 0 < (digs W2 n).length := List.length_pos_iff.2 (fun h => hn ((digs_nil W2 n w2_two).1 h))
      have key := times_core va vb _ _ w ha hb (digs_low W2 w2_two m) (digs_low W2 w2_two n) hm1 hn1 hl1 hl2
      rw [val_digs W2 w2_two, val_digs W2 w2_two] at key
      exact key

end Go.Proofs.YtfpcgjgkbniofaaGreatDoor
