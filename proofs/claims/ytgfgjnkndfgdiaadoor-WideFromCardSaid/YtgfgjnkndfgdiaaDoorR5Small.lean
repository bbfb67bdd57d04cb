/- the reference's integers: Small. -/
import Derived.Test.YtgfgjnkndfgdiaaDoorR5Fits
namespace Go.Proofs.YtgfgjnkndfgdiaaDoor
open Go.RowKit

theorem val_drop_step (A : List Nat) (k : Nat) (h : 0 < k) (hk : k - 1 < A.length) : val T4 (A.drop (k - 1)) = A[k - 1] + 10000 * val T4 (A.drop k) := by
  rw [List.drop_eq_getElem_cons hk, val, show k - 1 + 1 = k by omega]
theorem val_drop_le (A : List Nat) (k : Nat) : val T4 (A.drop k) ≤ val T4 A := by
  have h : val T4 A = val T4 (A.take k) + T4 ^ (A.take k).length * val T4 (A.drop k) := by
    conv => lhs; rw [← List.take_append_drop k A, val_append]
  have h2 : 1 * val T4 (A.drop k) ≤ T4 ^ (A.take k).length * val T4 (A.drop k) := Nat.mul_le_mul_right _ (Nat.pos_of_ne_zero (by simp))
  omega
theorem sgn_of (z : Int) : sgn (decide (z < 0)) z.natAbs = z := by
  unfold sgn
  by_cases h : z < 0
  · simp [h]; omega
  · simp [h]; omega


set_option maxRecDepth 100000 in
set_option maxHeartbeats 1000000 in
theorem rsmall_any (v : Value) (z : Int) (w : World) (h : RInt w v z) (hl : (digs T4 z.natAbs).length ≤ 1048576) :
    Calls Tryd.prog 26 #[v] w fun e w' => e = .returned (smallV z) ∧ Below w.heap.size w w' := by
  obtain ⟨a, n, c, rfl, hd, hn, hc⟩ := h.form
  have HR := Lib.hid h
  have HD := Lib.hid (RowAt.whole hd)
  have HN := Lib.hid hn.symm
  have HLz := Lib.hid hl
  rw [← hn] at hl
  clear h hd hn
  obtain ⟨s, hs⟩ : ∃ s, decide (z < 0) = s := ⟨_, rfl⟩
  rw [hs] at HR ⊢
  have Hs := Lib.hid hs
  clear hs
  have HB0 := Lib.hid ((Below.refl w.heap.size w).alloc (Nat.le_refl _) (.cells #[.bool s, .slice a n c] 25))
  have HT0 := Lib.hid (Two.new w 25 (.bool s) (.slice a n c))
  obtain ⟨w0, hw0⟩ : ∃ w0, w.alloc (.cells #[.bool s, .slice a n c] 25) = w0 := ⟨_, rfl⟩
  obtain ⟨b, hb⟩ : ∃ b, w.heap.size = b := ⟨_, rfl⟩
  have Hb := Lib.hid hb
  rw [hw0] at HB0 HT0
  rw [hb] at HB0 HT0
  have d0 := HT0.out.cell0
  have d1 := HT0.out.cell1
  have HBd : Hid (Below b w w0.drew) := Lib.hid ⟨HB0.out.os, HB0.out.tape, HB0.out.output, HB0.out.size, HB0.out.block⟩
  have HBz : Hid (b ≤ w0.drew.heap.size) := Lib.hid (Nat.le_trans (Nat.le_of_eq Hb.out.symm) HB0.out.size)
  have HTd : Hid (Two w0.drew b 25 (.bool s) (.slice a n c)) := Lib.hid HT0.out
  obtain ⟨m1, hm1⟩ : ∃ m, cmp3 z 9223372036854775807 = m := ⟨_, rfl⟩
  obtain ⟨m2, hm2⟩ : ∃ m, cmp3 z (-9223372036854775808) = m := ⟨_, rfl⟩
  have p1 := cmp3_pos_iff z 9223372036854775807
  have p2 := cmp3_neg_iff z (-9223372036854775808)
  rw [hm1] at p1
  rw [hm2] at p2
  have Hm1 := Lib.hid hm1
  have Hm2 := Lib.hid hm2
  clear hm1 hm2
  by_cases hbig : 9223372036854775807 < z
  · rw [decide_eq_true hbig] at p1
    have Hsv : Hid (smallV z = .tuple #[.int .i64 0, .bool false]) := Lib.hid (by unfold smallV; rw [if_neg (by omega)])
    clear p2 hbig
    go_enter Tryd.func26, Tryd.ntmps26
    go_wp2_with fail
    clear hw0
    refine startK 99 (fun w' => w'.cell? ⟨b, 0, none⟩ = some (.bool s) ∧ w'.cell? ⟨b, 1, none⟩ = some (.slice a n c)) (by kernel_rfl) (⟨d0, d1⟩) (fun hHeld => ?_)
    refine takeK 0 6 (v := ?_) rfl rfl (by kernel_rfl) (by kernel_rfl) (by kernel_rfl) (by kernel_rfl) (fun _ _ _ h => h) (by rfl) ?_ (by assumption) ?_
    rotate_left
    · (intro w hSw; go_simp; first | done | with_reducible rfl)
    simp only [List.setIfInBounds_toArray, List.set_cons_zero, List.set_cons_succ]
    refine stepK 1 (by kernel_rfl) rfl (fun K hK => ?_)
    go_simp
    clear d0 d1
    refine (of_any 9223372036854775807 w0.drew (by omega) (by omega)).mono ?_
    rintro e w5 ⟨⟨vr, rfl, hr⟩, hB⟩
    have Hr5 := Lib.hid hr
    obtain ⟨a5, n5, c5, rfl, -, -, -⟩ := hr.form
    have hB5 := Lib.hid hB
    clear hr hB
    generalize decide ((9223372036854775807 : Int) < 0) = s5 at *
    have HT5 := Lib.hid (HTd.out.below hB5.out HTd.out.lt)
    have HB5 := Lib.hid (HBd.out.trans (hB5.out.mono HBz.out))
    go_wp2_with fail
    refine hK.out _ _ (⟨HT5.out.cell0, HT5.out.cell1⟩) (fun hHeld => ?_)
    clear hK K
    try simp only [Act.put, List.setIfInBounds_toArray, List.set_cons_zero, List.set_cons_succ]
    refine stepK 2 (by kernel_rfl) rfl (fun K hK => ?_)
    go_simp
    refine (rcompare_any _ _ z 9223372036854775807 w5 (HR.out.below (Nat.le_of_eq Hb.out) HB5.out) Hr5.out HLz.out (Nat.le_trans (t4_len _ (by omega)) (by omega))).mono ?_
    rintro e w6 ⟨rfl, hB6⟩
    rw [Hm1.out]
    have HT6 := Lib.hid (HT5.out.below hB6 HT5.out.lt)
    have HB6 := Lib.hid (HB5.out.trans (hB6.mono (Nat.le_trans (Nat.le_of_eq Hb.out.symm) HB5.out.size)))
    clear hB6
    go_wp2_with fail
    refine hK.out _ _ (⟨HT6.out.cell0, HT6.out.cell1⟩) (fun hHeld => ?_)
    clear hK K
    try simp only [Act.put, List.setIfInBounds_toArray, List.set_cons_zero, List.set_cons_succ]
    refine takeK 3 9 (v := ?_) rfl rfl (by kernel_rfl) (by kernel_rfl) (by kernel_rfl) (by kernel_rfl) (fun _ _ _ h => h) (by rfl) ?_ (by assumption) ?_
    rotate_left
    · (intro w hSw; go_simp; first | done | with_reducible rfl)
    simp only [List.setIfInBounds_toArray, List.set_cons_zero, List.set_cons_succ]
    refine takeK 4 10 (v := ?_) rfl rfl (by kernel_rfl) (by kernel_rfl) (by kernel_rfl) (by kernel_rfl) (fun _ _ _ h => h) (by rfl) ?_ (by assumption) ?_
    rotate_left
    · (intro w hSw; go_simp; first | done | with_reducible rfl)
    simp only [List.setIfInBounds_toArray, List.set_cons_zero, List.set_cons_succ]
    refine skipK 5 11 rfl rfl (by kernel_rfl) (by kernel_rfl) (by kernel_rfl) (by kernel_rfl) (fun _ _ _ h => h) (by rfl) (by assumption) ?_
    simp only [List.setIfInBounds_toArray, List.set_cons_zero, List.set_cons_succ]
    refine skipK 6 12 rfl rfl (by kernel_rfl) (by kernel_rfl) (by kernel_rfl) (by kernel_rfl) (fun _ _ _ h => h) (by rfl) (by assumption) ?_
    simp only [List.setIfInBounds_toArray, List.set_cons_zero, List.set_cons_succ]
    refine skipK 7 13 rfl rfl (by kernel_rfl) (by kernel_rfl) (by kernel_rfl) (by kernel_rfl) (fun _ _ _ h => h) (by rfl) (by assumption) ?_
    simp only [List.setIfInBounds_toArray, List.set_cons_zero, List.set_cons_succ]
    refine skipK 8 14 rfl rfl (by kernel_rfl) (by kernel_rfl) (by kernel_rfl) (by kernel_rfl) (fun _ _ _ h => h) (by rfl) (by assumption) ?_
    simp only [List.setIfInBounds_toArray, List.set_cons_zero, List.set_cons_succ]
    refine takeK 9 15 (v := ?_) rfl rfl (by kernel_rfl) (by kernel_rfl) (by kernel_rfl) (by kernel_rfl) (fun _ _ _ h => h) (by rfl) ?_ (by assumption) ?_
    rotate_left
    · (intro w hSw; go_simp; first | done | with_reducible rfl)
    simp only [List.setIfInBounds_toArray, List.set_cons_zero, List.set_cons_succ]
    refine doneK (by kernel_rfl) ?_ _
    clear hHeld
    go_wp2
    go_ret2
    rw [Hsv.out, Hb.out]
    exact ⟨rfl, HB6.out⟩
  · rw [decide_eq_false hbig] at p1
    by_cases hsm : z < -9223372036854775808
    · rw [decide_eq_true hsm] at p2
      have Hsv : Hid (smallV z = .tuple #[.int .i64 0, .bool false]) := Lib.hid (by unfold smallV; rw [if_neg (by omega)])
      clear hbig hsm
      go_enter Tryd.func26, Tryd.ntmps26
      go_wp2_with fail
      clear hw0
      refine startK 99 (fun w' => w'.cell? ⟨b, 0, none⟩ = some (.bool s) ∧ w'.cell? ⟨b, 1, none⟩ = some (.slice a n c)) (by kernel_rfl) (⟨d0, d1⟩) (fun hHeld => ?_)
      refine takeK 0 6 (v := ?_) rfl rfl (by kernel_rfl) (by kernel_rfl) (by kernel_rfl) (by kernel_rfl) (fun _ _ _ h => h) (by rfl) ?_ (by assumption) ?_
      rotate_left
      · (intro w hSw; go_simp; first | done | with_reducible rfl)
      simp only [List.setIfInBounds_toArray, List.set_cons_zero, List.set_cons_succ]
      refine stepK 1 (by kernel_rfl) rfl (fun K hK => ?_)
      go_simp
      clear d0 d1
      refine (of_any 9223372036854775807 w0.drew (by omega) (by omega)).mono ?_
      rintro e w5 ⟨⟨vr, rfl, hr⟩, hB⟩
      have Hr5 := Lib.hid hr
      obtain ⟨a5, n5, c5, rfl, -, -, -⟩ := hr.form
      have hB5 := Lib.hid hB
      clear hr hB
      generalize decide ((9223372036854775807 : Int) < 0) = s5 at *
      have HT5 := Lib.hid (HTd.out.below hB5.out HTd.out.lt)
      have HB5 := Lib.hid (HBd.out.trans (hB5.out.mono HBz.out))
      go_wp2_with fail
      refine hK.out _ _ (⟨HT5.out.cell0, HT5.out.cell1⟩) (fun hHeld => ?_)
      clear hK K
      try simp only [Act.put, List.setIfInBounds_toArray, List.set_cons_zero, List.set_cons_succ]
      refine stepK 2 (by kernel_rfl) rfl (fun K hK => ?_)
      go_simp
      refine (rcompare_any _ _ z 9223372036854775807 w5 (HR.out.below (Nat.le_of_eq Hb.out) HB5.out) Hr5.out HLz.out (Nat.le_trans (t4_len _ (by omega)) (by omega))).mono ?_
      rintro e w6 ⟨rfl, hB6⟩
      rw [Hm1.out]
      have HT6 := Lib.hid (HT5.out.below hB6 HT5.out.lt)
      have HB6 := Lib.hid (HB5.out.trans (hB6.mono (Nat.le_trans (Nat.le_of_eq Hb.out.symm) HB5.out.size)))
      clear hB6
      go_wp2_with fail
      refine hK.out _ _ (⟨HT6.out.cell0, HT6.out.cell1⟩) (fun hHeld => ?_)
      clear hK K
      try simp only [Act.put, List.setIfInBounds_toArray, List.set_cons_zero, List.set_cons_succ]
      refine takeK 3 9 (v := ?_) rfl rfl (by kernel_rfl) (by kernel_rfl) (by kernel_rfl) (by kernel_rfl) (fun _ _ _ h => h) (by rfl) ?_ (by assumption) ?_
      rotate_left
      · (intro w hSw; go_simp; first | done | with_reducible rfl)
      simp only [List.setIfInBounds_toArray, List.set_cons_zero, List.set_cons_succ]
      refine takeK 4 10 (v := ?_) rfl rfl (by kernel_rfl) (by kernel_rfl) (by kernel_rfl) (by kernel_rfl) (fun _ _ _ h => h) (by rfl) ?_ (by assumption) ?_
      rotate_left
      · (intro w hSw; go_simp; first | done | with_reducible rfl)
      simp only [List.setIfInBounds_toArray, List.set_cons_zero, List.set_cons_succ]
      refine takeK 5 11 (v := ?_) rfl rfl (by kernel_rfl) (by kernel_rfl) (by kernel_rfl) (by kernel_rfl) (fun _ _ _ h => h) (by rfl) ?_ (by assumption) ?_
      rotate_left
      · (intro w hSw; go_simp; first | done | with_reducible rfl)
      simp only [List.setIfInBounds_toArray, List.set_cons_zero, List.set_cons_succ]
      refine stepK 6 (by kernel_rfl) rfl (fun K hK => ?_)
      go_simp
      refine (of_any (-9223372036854775808) w6 (by omega) (by omega)).mono ?_
      rintro e w7 ⟨⟨vr, rfl, hr⟩, hB⟩
      have Hr7 := Lib.hid hr
      obtain ⟨a7, n7, c7, rfl, -, -, -⟩ := hr.form
      have hB7 := Lib.hid hB
      clear hr hB
      generalize decide ((-9223372036854775808 : Int) < 0) = s7 at *
      have HT7 := Lib.hid (HT6.out.below hB7.out HT6.out.lt)
      have HB7 := Lib.hid (HB6.out.trans (hB7.out.mono (Nat.le_trans (Nat.le_of_eq Hb.out.symm) HB6.out.size)))
      go_wp2_with fail
      refine hK.out _ _ (⟨HT7.out.cell0, HT7.out.cell1⟩) (fun hHeld => ?_)
      clear hK K
      try simp only [Act.put, List.setIfInBounds_toArray, List.set_cons_zero, List.set_cons_succ]
      refine stepK 7 (by kernel_rfl) rfl (fun K hK => ?_)
      go_simp
      refine (rcompare_any _ _ z (-9223372036854775808) w7 (HR.out.below (Nat.le_of_eq Hb.out) HB7.out) Hr7.out HLz.out (Nat.le_trans (t4_len _ (by omega)) (by omega))).mono ?_
      rintro e w8 ⟨rfl, hB8⟩
      rw [Hm2.out]
      have HT8 := Lib.hid (HT7.out.below hB8 HT7.out.lt)
      have HB8 := Lib.hid (HB7.out.trans (hB8.mono (Nat.le_trans (Nat.le_of_eq Hb.out.symm) HB7.out.size)))
      clear hB8
      go_wp2_with fail
      refine hK.out _ _ (⟨HT8.out.cell0, HT8.out.cell1⟩) (fun hHeld => ?_)
      clear hK K
      try simp only [Act.put, List.setIfInBounds_toArray, List.set_cons_zero, List.set_cons_succ]
      refine takeK 8 14 (v := ?_) rfl rfl (by kernel_rfl) (by kernel_rfl) (by kernel_rfl) (by kernel_rfl) (fun _ _ _ h => h) (by rfl) ?_ (by assumption) ?_
      rotate_left
      · (intro w hSw; go_simp; first | done | with_reducible rfl)
      simp only [List.setIfInBounds_toArray, List.set_cons_zero, List.set_cons_succ]
      refine takeK 9 15 (v := ?_) rfl rfl (by kernel_rfl) (by kernel_rfl) (by kernel_rfl) (by kernel_rfl) (fun _ _ _ h => h) (by rfl) ?_ (by assumption) ?_
      rotate_left
      · (intro w hSw; go_simp; first | done | with_reducible rfl)
      simp only [List.setIfInBounds_toArray, List.set_cons_zero, List.set_cons_succ]
      refine doneK (by kernel_rfl) ?_ _
      clear hHeld
      go_wp2
      go_ret2
      rw [Hsv.out, Hb.out]
      exact ⟨rfl, HB8.out⟩
    · rw [decide_eq_false hsm] at p2
      have Hsv : Hid (smallV z = .tuple #[.int .i64 z, .bool true]) := Lib.hid (by unfold smallV; rw [if_pos (by omega)])
      have hab : z.natAbs ≤ 9223372036854775808 := by omega
      have hab2 : s = false → z.natAbs ≤ 9223372036854775807 := fun h => by
        have := Hs.out
        rw [h] at this
        have := of_decide_eq_false this
        omega
      have Hsz := Lib.hid (sgn_of z)
      have HVA := Lib.hid (val_digs T4 t4_two z.natAbs)
      have HlA := Lib.hid (digs_low T4 t4_two z.natAbs)
      rw [Hs.out] at Hsz
      obtain ⟨m, hm⟩ : ∃ m, z.natAbs = m := ⟨_, rfl⟩
      rw [hm] at HD HN hab hab2 Hsz HVA HlA
      clear hm
      clear hbig hsm
      go_enter Tryd.func26, Tryd.ntmps26
      go_wp2_with fail
      clear hw0
      refine startK 99 (fun w' => w'.cell? ⟨b, 0, none⟩ = some (.bool s) ∧ w'.cell? ⟨b, 1, none⟩ = some (.slice a n c)) (by kernel_rfl) (⟨d0, d1⟩) (fun hHeld => ?_)
      refine takeK 0 6 (v := ?_) rfl rfl (by kernel_rfl) (by kernel_rfl) (by kernel_rfl) (by kernel_rfl) (fun _ _ _ h => h) (by rfl) ?_ (by assumption) ?_
      rotate_left
      · (intro w hSw; go_simp; first | done | with_reducible rfl)
      simp only [List.setIfInBounds_toArray, List.set_cons_zero, List.set_cons_succ]
      refine stepK 1 (by kernel_rfl) rfl (fun K hK => ?_)
      go_simp
      clear d0 d1
      refine (of_any 9223372036854775807 w0.drew (by omega) (by omega)).mono ?_
      rintro e w5 ⟨⟨vr, rfl, hr⟩, hB⟩
      have Hr5 := Lib.hid hr
      obtain ⟨a5, n5, c5, rfl, -, -, -⟩ := hr.form
      have hB5 := Lib.hid hB
      clear hr hB
      generalize decide ((9223372036854775807 : Int) < 0) = s5 at *
      have HT5 := Lib.hid (HTd.out.below hB5.out HTd.out.lt)
      have HB5 := Lib.hid (HBd.out.trans (hB5.out.mono HBz.out))
      go_wp2_with fail
      refine hK.out _ _ (⟨HT5.out.cell0, HT5.out.cell1⟩) (fun hHeld => ?_)
      clear hK K
      try simp only [Act.put, List.setIfInBounds_toArray, List.set_cons_zero, List.set_cons_succ]
      refine stepK 2 (by kernel_rfl) rfl (fun K hK => ?_)
      go_simp
      refine (rcompare_any _ _ z 9223372036854775807 w5 (HR.out.below (Nat.le_of_eq Hb.out) HB5.out) Hr5.out HLz.out (Nat.le_trans (t4_len _ (by omega)) (by omega))).mono ?_
      rintro e w6 ⟨rfl, hB6⟩
      rw [Hm1.out]
      have HT6 := Lib.hid (HT5.out.below hB6 HT5.out.lt)
      have HB6 := Lib.hid (HB5.out.trans (hB6.mono (Nat.le_trans (Nat.le_of_eq Hb.out.symm) HB5.out.size)))
      clear hB6
      go_wp2_with fail
      refine hK.out _ _ (⟨HT6.out.cell0, HT6.out.cell1⟩) (fun hHeld => ?_)
      clear hK K
      try simp only [Act.put, List.setIfInBounds_toArray, List.set_cons_zero, List.set_cons_succ]
      refine takeK 3 9 (v := ?_) rfl rfl (by kernel_rfl) (by kernel_rfl) (by kernel_rfl) (by kernel_rfl) (fun _ _ _ h => h) (by rfl) ?_ (by assumption) ?_
      rotate_left
      · (intro w hSw; go_simp; first | done | with_reducible rfl)
      simp only [List.setIfInBounds_toArray, List.set_cons_zero, List.set_cons_succ]
      refine takeK 4 10 (v := ?_) rfl rfl (by kernel_rfl) (by kernel_rfl) (by kernel_rfl) (by kernel_rfl) (fun _ _ _ h => h) (by rfl) ?_ (by assumption) ?_
      rotate_left
      · (intro w hSw; go_simp; first | done | with_reducible rfl)
      simp only [List.setIfInBounds_toArray, List.set_cons_zero, List.set_cons_succ]
      refine takeK 5 11 (v := ?_) rfl rfl (by kernel_rfl) (by kernel_rfl) (by kernel_rfl) (by kernel_rfl) (fun _ _ _ h => h) (by rfl) ?_ (by assumption) ?_
      rotate_left
      · (intro w hSw; go_simp; first | done | with_reducible rfl)
      simp only [List.setIfInBounds_toArray, List.set_cons_zero, List.set_cons_succ]
      refine stepK 6 (by kernel_rfl) rfl (fun K hK => ?_)
      go_simp
      refine (of_any (-9223372036854775808) w6 (by omega) (by omega)).mono ?_
      rintro e w7 ⟨⟨vr, rfl, hr⟩, hB⟩
      have Hr7 := Lib.hid hr
      obtain ⟨a7, n7, c7, rfl, -, -, -⟩ := hr.form
      have hB7 := Lib.hid hB
      clear hr hB
      generalize decide ((-9223372036854775808 : Int) < 0) = s7 at *
      have HT7 := Lib.hid (HT6.out.below hB7.out HT6.out.lt)
      have HB7 := Lib.hid (HB6.out.trans (hB7.out.mono (Nat.le_trans (Nat.le_of_eq Hb.out.symm) HB6.out.size)))
      go_wp2_with fail
      refine hK.out _ _ (⟨HT7.out.cell0, HT7.out.cell1⟩) (fun hHeld => ?_)
      clear hK K
      try simp only [Act.put, List.setIfInBounds_toArray, List.set_cons_zero, List.set_cons_succ]
      refine stepK 7 (by kernel_rfl) rfl (fun K hK => ?_)
      go_simp
      refine (rcompare_any _ _ z (-9223372036854775808) w7 (HR.out.below (Nat.le_of_eq Hb.out) HB7.out) Hr7.out HLz.out (Nat.le_trans (t4_len _ (by omega)) (by omega))).mono ?_
      rintro e w8 ⟨rfl, hB8⟩
      rw [Hm2.out]
      have HT8 := Lib.hid (HT7.out.below hB8 HT7.out.lt)
      have HB8 := Lib.hid (HB7.out.trans (hB8.mono (Nat.le_trans (Nat.le_of_eq Hb.out.symm) HB7.out.size)))
      clear hB8
      go_wp2_with fail
      refine hK.out _ _ (⟨HT8.out.cell0, HT8.out.cell1⟩) (fun hHeld => ?_)
      clear hK K
      try simp only [Act.put, List.setIfInBounds_toArray, List.set_cons_zero, List.set_cons_succ]
      refine takeK 8 14 (v := ?_) rfl rfl (by kernel_rfl) (by kernel_rfl) (by kernel_rfl) (by kernel_rfl) (fun _ _ _ h => h) (by rfl) ?_ (by assumption) ?_
      rotate_left
      · (intro w hSw; go_simp; first | done | with_reducible rfl)
      simp only [List.setIfInBounds_toArray, List.set_cons_zero, List.set_cons_succ]
      refine takeK 9 15 (v := ?_) rfl rfl (by kernel_rfl) (by kernel_rfl) (by kernel_rfl) (by kernel_rfl) (fun _ _ _ h => h) (by rfl) ?_ (by assumption) ?_
      rotate_left
      · (intro w hSw; go_simp; first | done | with_reducible rfl)
      simp only [List.setIfInBounds_toArray, List.set_cons_zero, List.set_cons_succ]
      refine doneK (by kernel_rfl) ?_ _
      clear hHeld
      have e0 := HT8.out.cell0
      have e1 := HT8.out.cell1
      have HN2 := Lib.hid HN.out
      go_wp2_with fail
      go_loop [4, 5] (fun nv iv' => ∃ (k : Nat), k ≤ n ∧ iv' = .int .i64 ((k : Int) - 1) ∧ nv = .int .i64 (sgn s (val T4 ((digs T4 m).drop k)))) (fun _ i => (intOf i + 1).toNat)
      case atStart => exact ⟨n, Nat.le_refl _, by go_num, by rw [List.drop_of_length_le (by rw [HN.out]; exact Nat.le_refl _)]; unfold sgn; cases s <;> rfl⟩
      case round =>
        obtain ⟨k, hk, rfl, rfl⟩ := hrel
        by_cases hk0 : k = 0
        · subst hk0
          have Hv : Hid (sgn s (val T4 ((digs T4 m).drop 0)) = z) := Lib.hid (by rw [List.drop_zero, HVA.out]; exact Hsz.out)
          rw [Hv.out]
          go_wp2
          go_ret2
          refine ⟨by rw [Hsv.out]; rfl, ?_⟩
          first | exact HB8.out | (rw [Hb.out]; exact HB8.out)
        · have hlk : k - 1 < (digs T4 m).length := by rw [HN.out]; omega
          obtain ⟨xb, xoff, rfl, hxb, hxc⟩ := HD.out (by omega)
          have cl := (HB8.out.cell (p := ⟨xb, xoff + (k - 1), none⟩) (by show xb < b; rw [← Hb.out]; exact hxb)).trans (hxc (k - 1) hlk)
          have hl2 : (digs T4 m)[k - 1] < 10000 := HlA.out _ (List.getElem_mem hlk)
          have hst := val_drop_step (digs T4 m) k (by omega) hlk
          have hle := val_drop_le (digs T4 m) (k - 1)
          rw [HVA.out] at hle
          have i0 : (0 : Int) ≤ (k : Int) - 1 := by omega
          have i1 : (k : Int) - 1 < (n : Int) := by omega
          have i2 : ((k : Int) - 1).toNat = k - 1 := by omega
          obtain ⟨x, hx⟩ : ∃ x, (digs T4 m)[k - 1] = x := ⟨_, rfl⟩
          rw [hx] at cl hl2 hst
          have Hst := Lib.hid hst
          obtain ⟨V, hV⟩ : ∃ V, val T4 ((digs T4 m).drop k) = V := ⟨_, rfl⟩
          obtain ⟨V', hV'⟩ : ∃ V', val T4 ((digs T4 m).drop (k - 1)) = V' := ⟨_, rfl⟩
          rw [hV, hV'] at Hst hst
          rw [hV'] at hle
          rw [hV]
          have HV' := Lib.hid hV'
          clear hxc hx hV hV' hk0
          cases s with
          | false =>
            have hab3 := hab2 rfl
            rw [show sgn false V = (V : Int) from rfl]
            have hbd : (V : Int) * 10000 + (x : Int) ≤ 9223372036854775807 := by omega
            clear hst
            go_wp2_with fail
            go_round
            case rel => exact ⟨k - 1, by omega, by go_num, by rw [HV'.out, Hst.out]; show Value.int _ _ = Value.int _ ((x + 10000 * V : Nat) : Int); congr 1; omega⟩
            case measure => simp [intOf]; omega
          | true =>
            rw [show sgn true V = -(V : Int) from rfl]
            have hbd : -9223372036854775808 ≤ -(V : Int) * 10000 - (x : Int) := by omega
            clear hst
            go_wp2_with fail
            go_round
            case rel => exact ⟨k - 1, by omega, by go_num, by rw [HV'.out, Hst.out]; show Value.int _ _ = Value.int _ (-((x + 10000 * V : Nat) : Int)); congr 1; omega⟩
            case measure => simp [intOf]; omega

end Go.Proofs.YtgfgjnkndfgdiaaDoor
