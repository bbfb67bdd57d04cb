/- the law's examples: lives. -/
import Derived.Test.YtgfgjnkndfgdiaaDoorWDiv
namespace Go.Proofs.YtgfgjnkndfgdiaaDoor
open Go.RowKit

theorem WInt.form2 {w : World} {v : Value} {z : Int} (h : WInt w v z) : ∃ s a n c, v = .agg #[.bool s, .slice a n c] := by
  obtain ⟨a, n, c, rfl, _⟩ := h.form
  exact ⟨_, _, _, _, rfl⟩
theorem pw2 (a b : Nat) (h : a ≤ b) : W2 ^ a ≤ W2 ^ b := Nat.pow_le_pow_right (by decide) h
theorem lim_mid {n : Nat} (h : n < W2 ^ 3) : n < LIM := by
  have h2 := pw2 3 512 (by omega)
  rw [lim_w2] at h2
  exact Nat.lt_of_lt_of_le h h2
theorem lim_small {n : Nat} (h : n < W2 ^ 2) : n < LIM := by
  have h2 := pw2 2 512 (by omega)
  rw [lim_w2] at h2
  exact Nat.lt_of_lt_of_le h h2

theorem small_big : smallV (4294967296 * 4294967296) = .tuple #[.int .i64 0, .bool false] := by
  unfold smallV; rw [if_neg (by decide)]
theorem parse_neg0 : parseS [45, 48] = .error 2 := by unfold parseS; simp
theorem parse_01 : parseS [48, 49] = .error 2 := by unfold parseS; simp
theorem dec_one (d : Nat) (h0 : d ≠ 0) (h : d < 10) : dec d = [dch d] := by
  unfold dec
  rw [if_neg h0, decP_pos d h0, Nat.div_eq_of_lt h, Nat.mod_eq_of_lt h, decP_zero]; rfl
theorem str_q1 : sv (decZ (qOf (-7) 2)) = .string ⟨#[45, 52]⟩ := by
  have h : qOf (-7) 2 = -4 := by decide
  rw [h]; unfold decZ; rw [if_pos (by decide), show (-4 : Int).natAbs = 4 from rfl, dec_one 4 (by decide) (by decide)]; rfl
theorem str_r1 : sv (decZ (rOf (-7) 2 : Nat)) = .string ⟨#[49]⟩ := by
  have h : rOf (-7) 2 = 1 := by decide
  rw [h]; unfold decZ; rw [if_neg (by decide), show ((1 : Nat) : Int).natAbs = 1 from rfl, dec_one 1 (by decide) (by decide)]; rfl
theorem str_q2 : sv (decZ (qOf 7 (-2))) = .string ⟨#[45, 51]⟩ := by
  have h : qOf 7 (-2) = -3 := by decide
  rw [h]; unfold decZ; rw [if_pos (by decide), show (-3 : Int).natAbs = 3 from rfl, dec_one 3 (by decide) (by decide)]; rfl
theorem str_r2 : sv (decZ (rOf 7 (-2) : Nat)) = .string ⟨#[49]⟩ := by
  have h : rOf 7 (-2) = 1 := by decide
  rw [h]; unfold decZ; rw [if_neg (by decide), show ((1 : Nat) : Int).natAbs = 1 from rfl, dec_one 1 (by decide) (by decide)]; rfl
theorem dec_step (n q d : Nat) (h : n = q * 10 + d) (hq : q ≠ 0) (hd : d < 10) : dec n = dec q ++ [dch d] := by
  rw [h]
  have := dec_split 1 q d hq (by omega)
  rw [Nat.pow_one] at this
  rw [this]
  congr 1
  simp [pad, Nat.mod_eq_of_lt hd]
theorem str_p : sv (decZ (4294967296 * 4294967296)) = .string ⟨#[49, 56, 52, 52, 54, 55, 52, 52, 48, 55, 51, 55, 48, 57, 53, 53, 49, 54, 49, 54]⟩ := by
  have h : (4294967296 * 4294967296 : Int) = ((18446744073709551616 : Nat) : Int) := by decide
  rw [h]; unfold decZ; rw [if_neg (by decide), Int.natAbs_natCast]
  rw [dec_step _ 1844674407370955161 6 rfl (by decide) (by decide), dec_step _ 184467440737095516 1 rfl (by decide) (by decide), dec_step _ 18446744073709551 6 rfl (by decide) (by decide), dec_step _ 1844674407370955 1 rfl (by decide) (by decide), dec_step _ 184467440737095 5 rfl (by decide) (by decide), dec_step _ 18446744073709 5 rfl (by decide) (by decide), dec_step _ 1844674407370 9 rfl (by decide) (by decide), dec_step _ 184467440737 0 rfl (by decide) (by decide), dec_step _ 18446744073 7 rfl (by decide) (by decide), dec_step _ 1844674407 3 rfl (by decide) (by decide), dec_step _ 184467440 7 rfl (by decide) (by decide), dec_step _ 18446744 0 rfl (by decide) (by decide), dec_step _ 1844674 4 rfl (by decide) (by decide), dec_step _ 184467 4 rfl (by decide) (by decide), dec_step _ 18446 7 rfl (by decide) (by decide), dec_step _ 1844 6 rfl (by decide) (by decide), dec_step _ 184 4 rfl (by decide) (by decide), dec_step _ 18 4 rfl (by decide) (by decide), dec_step _ 1 8 rfl (by decide) (by decide), dec_one 1 (by decide) (by decide)]
  rfl
theorem str_q1_lim : (qOf (-7) 2).natAbs < LIM := lim_small (by decide)
theorem str_r1_lim : ((rOf (-7) 2 : Nat) : Int).natAbs < LIM := lim_small (by decide)
theorem str_q2_lim : (qOf 7 (-2)).natAbs < LIM := lim_small (by decide)
theorem str_r2_lim : ((rOf 7 (-2) : Nat) : Int).natAbs < LIM := lim_small (by decide)
theorem str_p_lim : (4294967296 * 4294967296 : Int).natAbs < LIM := lim_mid (by decide)

set_option maxRecDepth 100000 in
set_option maxHeartbeats 4000000 in
theorem lives_any (w0 : World) (hT : Pow10 w0) : Calls Tryd.prog 20 #[] w0 fun e w' => e = .returned (.bool true) ∧ Below w0.heap.size w0 w' := by
  have HT := Lib.hid hT
  have hg := hT.lt
  have HB := Lib.hid (Below.refl w0.heap.size w0)
  clear hT
  go_enter Tryd.func20, Tryd.ntmps20
  go_wp2_with fail
  refine (from_any (-7) w0 (by decide) (by decide)).mono ?_
  rintro e w1 ⟨vx1, rfl, hx1, hB⟩
  have Hx1 := Lib.hid hx1
  obtain ⟨sx1, ax1, nx1, cx1, rfl⟩ := hx1.form2
  have HB := Lib.hid (HB.out.trans (hB.mono HB.out.size))
  clear hB hx1
  go_wp2_with fail
  refine (from_any (2) w1 (by decide) (by decide)).mono ?_
  rintro e w2 ⟨vy1, rfl, hy1, hB⟩
  have Hx1 := Lib.hid (Hx1.out.below hB)
  have Hy1 := Lib.hid hy1
  obtain ⟨sy1, ay1, ny1, cy1, rfl⟩ := hy1.form2
  have HB := Lib.hid (HB.out.trans (hB.mono HB.out.size))
  clear hB hy1
  go_wp2_with fail
  refine (div_any _ _ (-7) (2) w2 Hx1.out Hy1.out (by decide) (lim_small (by decide)) (lim_small (by decide)) (divok_short (by decide) (lim_small (by decide)) (.inr (by decide)) (lim_small (by decide)))).mono ?_
  rintro e w3 ⟨hB, vq1, vr1, rfl, hq1, hr1⟩
  have Hx1 := Lib.hid (Hx1.out.below hB)
  have Hy1 := Lib.hid (Hy1.out.below hB)
  have Hq1 := Lib.hid hq1
  obtain ⟨sq1, aq1, nq1, cq1, rfl⟩ := hq1.form2
  have Hr1 := Lib.hid hr1
  obtain ⟨sr1, ar1, nr1, cr1, rfl⟩ := hr1.form2
  have HB := Lib.hid (HB.out.trans (hB.mono HB.out.size))
  clear hB hq1 hr1
  go_wp2_with fail
  obtain ⟨w4, hw⟩ : ∃ w', ((w3.alloc (.cells #[.bool sq1, .slice aq1 nq1 cq1] 33)).alloc (.cells #[.bool sr1, .slice ar1 nr1 cr1] 33)) = w' := ⟨_, rfl⟩
  rw [hw]
  have hB : Below w3.heap.size w3 w4 := by rw [← hw]; exact ((Below.refl _ _).alloc (Nat.le_refl _) _).alloc (by simp) _
  have Hq1 := Lib.hid (Hq1.out.below hB)
  have Hr1 := Lib.hid (Hr1.out.below hB)
  have Tq1 : Hid (Two w4 w3.heap.size 33 (.bool sq1) (.slice aq1 nq1 cq1)) := Lib.hid (by rw [← hw]; exact (Two.new ..).alloc _)
  have Tr1 : Hid (Two w4 (w3.heap.size + 1) 33 (.bool sr1) (.slice ar1 nr1 cr1)) := Lib.hid (by rw [← hw]; have h9 := Two.new (w3.alloc (.cells #[.bool sq1, .slice aq1 nq1 cq1] 33)) 33 (.bool sr1) (.slice ar1 nr1 cr1); rw [World.size_alloc] at h9; exact h9)
  have HB := Lib.hid (HB.out.trans (hB.mono HB.out.size))
  clear hB hw
  refine (from_any (7) w4 (by decide) (by decide)).mono ?_
  rintro e w5 ⟨vx2, rfl, hx2, hB⟩
  have Hq1 := Lib.hid (Hq1.out.below hB)
  have Hr1 := Lib.hid (Hr1.out.below hB)
  have Tq1 := Lib.hid (Tq1.out.below hB Tq1.out.lt)
  have Tr1 := Lib.hid (Tr1.out.below hB Tr1.out.lt)
  have Hx2 := Lib.hid hx2
  obtain ⟨sx2, ax2, nx2, cx2, rfl⟩ := hx2.form2
  have HB := Lib.hid (HB.out.trans (hB.mono HB.out.size))
  clear hB hx2
  go_wp2_with fail
  refine (from_any (-2) w5 (by decide) (by decide)).mono ?_
  rintro e w6 ⟨vy2, rfl, hy2, hB⟩
  have Hq1 := Lib.hid (Hq1.out.below hB)
  have Hr1 := Lib.hid (Hr1.out.below hB)
  have Hx2 := Lib.hid (Hx2.out.below hB)
  have Tq1 := Lib.hid (Tq1.out.below hB Tq1.out.lt)
  have Tr1 := Lib.hid (Tr1.out.below hB Tr1.out.lt)
  have Hy2 := Lib.hid hy2
  obtain ⟨sy2, ay2, ny2, cy2, rfl⟩ := hy2.form2
  have HB := Lib.hid (HB.out.trans (hB.mono HB.out.size))
  clear hB hy2
  go_wp2_with fail
  refine (div_any _ _ (7) (-2) w6 Hx2.out Hy2.out (by decide) (lim_small (by decide)) (lim_small (by decide)) (divok_short (by decide) (lim_small (by decide)) (.inr (by decide)) (lim_small (by decide)))).mono ?_
  rintro e w7 ⟨hB, vq2, vr2, rfl, hq2, hr2⟩
  have Hq1 := Lib.hid (Hq1.out.below hB)
  have Hr1 := Lib.hid (Hr1.out.below hB)
  have Hx2 := Lib.hid (Hx2.out.below hB)
  have Hy2 := Lib.hid (Hy2.out.below hB)
  have Tq1 := Lib.hid (Tq1.out.below hB Tq1.out.lt)
  have Tr1 := Lib.hid (Tr1.out.below hB Tr1.out.lt)
  have Hq2 := Lib.hid hq2
  obtain ⟨sq2, aq2, nq2, cq2, rfl⟩ := hq2.form2
  have Hr2 := Lib.hid hr2
  obtain ⟨sr2, ar2, nr2, cr2, rfl⟩ := hr2.form2
  have HB := Lib.hid (HB.out.trans (hB.mono HB.out.size))
  clear hB hq2 hr2
  go_wp2_with fail
  obtain ⟨w8, hw⟩ : ∃ w', ((w7.alloc (.cells #[.bool sq2, .slice aq2 nq2 cq2] 33)).alloc (.cells #[.bool sr2, .slice ar2 nr2 cr2] 33)) = w' := ⟨_, rfl⟩
  rw [hw]
  have hB : Below w7.heap.size w7 w8 := by rw [← hw]; exact ((Below.refl _ _).alloc (Nat.le_refl _) _).alloc (by simp) _
  have Hq1 := Lib.hid (Hq1.out.below hB)
  have Hr1 := Lib.hid (Hr1.out.below hB)
  have Hq2 := Lib.hid (Hq2.out.below hB)
  have Hr2 := Lib.hid (Hr2.out.below hB)
  have Tq1 := Lib.hid (Tq1.out.below hB Tq1.out.lt)
  have Tr1 := Lib.hid (Tr1.out.below hB Tr1.out.lt)
  have Tq2 : Hid (Two w8 w7.heap.size 33 (.bool sq2) (.slice aq2 nq2 cq2)) := Lib.hid (by rw [← hw]; exact (Two.new ..).alloc _)
  have Tr2 : Hid (Two w8 (w7.heap.size + 1) 33 (.bool sr2) (.slice ar2 nr2 cr2)) := Lib.hid (by rw [← hw]; have h9 := Two.new (w7.alloc (.cells #[.bool sq2, .slice aq2 nq2 cq2] 33)) 33 (.bool sr2) (.slice ar2 nr2 cr2); rw [World.size_alloc] at h9; exact h9)
  have HB := Lib.hid (HB.out.trans (hB.mono HB.out.size))
  clear hB hw
  refine (from_any (4294967296) w8 (by decide) (by decide)).mono ?_
  rintro e w9 ⟨vx3, rfl, hx3, hB⟩
  have Hq1 := Lib.hid (Hq1.out.below hB)
  have Hr1 := Lib.hid (Hr1.out.below hB)
  have Hq2 := Lib.hid (Hq2.out.below hB)
  have Hr2 := Lib.hid (Hr2.out.below hB)
  have Tq1 := Lib.hid (Tq1.out.below hB Tq1.out.lt)
  have Tr1 := Lib.hid (Tr1.out.below hB Tr1.out.lt)
  have Tq2 := Lib.hid (Tq2.out.below hB Tq2.out.lt)
  have Tr2 := Lib.hid (Tr2.out.below hB Tr2.out.lt)
  have Hx3 := Lib.hid hx3
  obtain ⟨sx3, ax3, nx3, cx3, rfl⟩ := hx3.form2
  have HB := Lib.hid (HB.out.trans (hB.mono HB.out.size))
  clear hB hx3
  go_wp2_with fail
  refine (from_any (4294967296) w9 (by decide) (by decide)).mono ?_
  rintro e w10 ⟨vy3, rfl, hy3, hB⟩
  have Hq1 := Lib.hid (Hq1.out.below hB)
  have Hr1 := Lib.hid (Hr1.out.below hB)
  have Hq2 := Lib.hid (Hq2.out.below hB)
  have Hr2 := Lib.hid (Hr2.out.below hB)
  have Hx3 := Lib.hid (Hx3.out.below hB)
  have Tq1 := Lib.hid (Tq1.out.below hB Tq1.out.lt)
  have Tr1 := Lib.hid (Tr1.out.below hB Tr1.out.lt)
  have Tq2 := Lib.hid (Tq2.out.below hB Tq2.out.lt)
  have Tr2 := Lib.hid (Tr2.out.below hB Tr2.out.lt)
  have Hy3 := Lib.hid hy3
  obtain ⟨sy3, ay3, ny3, cy3, rfl⟩ := hy3.form2
  have HB := Lib.hid (HB.out.trans (hB.mono HB.out.size))
  clear hB hy3
  go_wp2_with fail
  refine (mul_any _ _ 4294967296 4294967296 w10 Hx3.out Hy3.out (lim_small (by decide)) (lim_small (by decide))).mono ?_
  rintro e w11 hL
  obtain ⟨hB, ⟨_, vp, rfl, hp⟩ | ⟨hbig, _⟩⟩ := hL
  rotate_left
  · exact absurd hbig (Nat.not_le_of_lt (lim_mid (by decide)))
  have Hq1 := Lib.hid (Hq1.out.below hB)
  have Hr1 := Lib.hid (Hr1.out.below hB)
  have Hq2 := Lib.hid (Hq2.out.below hB)
  have Hr2 := Lib.hid (Hr2.out.below hB)
  have Hx3 := Lib.hid (Hx3.out.below hB)
  have Hy3 := Lib.hid (Hy3.out.below hB)
  have Tq1 := Lib.hid (Tq1.out.below hB Tq1.out.lt)
  have Tr1 := Lib.hid (Tr1.out.below hB Tr1.out.lt)
  have Tq2 := Lib.hid (Tq2.out.below hB Tq2.out.lt)
  have Tr2 := Lib.hid (Tr2.out.below hB Tr2.out.lt)
  have Hp := Lib.hid hp
  obtain ⟨sp, ap, np, cp, rfl⟩ := hp.form2
  have HB := Lib.hid (HB.out.trans (hB.mono HB.out.size))
  clear hB hp
  go_wp2_with fail
  obtain ⟨w12, hw⟩ : ∃ w', (w11.alloc (.cells #[.bool sp, .slice ap np cp] 33)) = w' := ⟨_, rfl⟩
  rw [hw]
  have hB : Below w11.heap.size w11 w12 := by rw [← hw]; exact (Below.refl _ _).alloc (Nat.le_refl _) _
  have Hq1 := Lib.hid (Hq1.out.below hB)
  have Hr1 := Lib.hid (Hr1.out.below hB)
  have Hq2 := Lib.hid (Hq2.out.below hB)
  have Hr2 := Lib.hid (Hr2.out.below hB)
  have Hp := Lib.hid (Hp.out.below hB)
  have Tq1 := Lib.hid (Tq1.out.below hB Tq1.out.lt)
  have Tr1 := Lib.hid (Tr1.out.below hB Tr1.out.lt)
  have Tq2 := Lib.hid (Tq2.out.below hB Tq2.out.lt)
  have Tr2 := Lib.hid (Tr2.out.below hB Tr2.out.lt)
  have Tp : Hid (Two w12 w11.heap.size 33 (.bool sp) (.slice ap np cp)) := Lib.hid (by rw [← hw]; exact Two.new ..)
  have HB := Lib.hid (HB.out.trans (hB.mono HB.out.size))
  clear hB hw
  refine (small_any _ (4294967296 * 4294967296) w12 Hp.out (lim_mid (by decide))).mono ?_
  rintro e w13 ⟨rfl, hB⟩
  rw [small_big]
  have Hq1 := Lib.hid (Hq1.out.below hB)
  have Hr1 := Lib.hid (Hr1.out.below hB)
  have Hq2 := Lib.hid (Hq2.out.below hB)
  have Hr2 := Lib.hid (Hr2.out.below hB)
  have Hp := Lib.hid (Hp.out.below hB)
  have Tq1 := Lib.hid (Tq1.out.below hB Tq1.out.lt)
  have Tr1 := Lib.hid (Tr1.out.below hB Tr1.out.lt)
  have Tq2 := Lib.hid (Tq2.out.below hB Tq2.out.lt)
  have Tr2 := Lib.hid (Tr2.out.below hB Tr2.out.lt)
  have Tp := Lib.hid (Tp.out.below hB Tp.out.lt)
  have HB := Lib.hid (HB.out.trans (hB.mono HB.out.size))
  clear hB 
  go_wp2_with fail
  refine (parse_any [45, 48] w13 (by decide)).mono ?_
  rintro e w14 ⟨hB, he⟩
  obtain rfl : e = .returned (.tuple #[.agg #[.bool false, .slice none 0 0], .int .i64 2]) := by rw [parse_neg0] at he; exact he
  clear he
  have Hq1 := Lib.hid (Hq1.out.below hB)
  have Hr1 := Lib.hid (Hr1.out.below hB)
  have Hq2 := Lib.hid (Hq2.out.below hB)
  have Hr2 := Lib.hid (Hr2.out.below hB)
  have Hp := Lib.hid (Hp.out.below hB)
  have Tq1 := Lib.hid (Tq1.out.below hB Tq1.out.lt)
  have Tr1 := Lib.hid (Tr1.out.below hB Tr1.out.lt)
  have Tq2 := Lib.hid (Tq2.out.below hB Tq2.out.lt)
  have Tr2 := Lib.hid (Tr2.out.below hB Tr2.out.lt)
  have Tp := Lib.hid (Tp.out.below hB Tp.out.lt)
  have HB := Lib.hid (HB.out.trans (hB.mono HB.out.size))
  clear hB 
  obtain ⟨w15, hw⟩ : ∃ w', w14.alloc (.cells #[.bool false, .slice none 0 0] 33) = w' := ⟨_, rfl⟩
  have hB : Below w14.heap.size w14 w15 := by rw [← hw]; exact (Below.refl _ _).alloc (Nat.le_refl _) _
  have Hq1 := Lib.hid (Hq1.out.below hB)
  have Hr1 := Lib.hid (Hr1.out.below hB)
  have Hq2 := Lib.hid (Hq2.out.below hB)
  have Hr2 := Lib.hid (Hr2.out.below hB)
  have Hp := Lib.hid (Hp.out.below hB)
  have Tq1 := Lib.hid (Tq1.out.below hB Tq1.out.lt)
  have Tr1 := Lib.hid (Tr1.out.below hB Tr1.out.lt)
  have Tq2 := Lib.hid (Tq2.out.below hB Tq2.out.lt)
  have Tr2 := Lib.hid (Tr2.out.below hB Tr2.out.lt)
  have Tp := Lib.hid (Tp.out.below hB Tp.out.lt)
  have HB := Lib.hid (HB.out.trans (hB.mono HB.out.size))
  have Hw := Lib.hid hw
  clear hB hw
  go_wp2_with fail
  rw [Hw.out]
  clear Hw
  refine (parse_any [48, 49] w15 (by decide)).mono ?_
  rintro e w16 ⟨hB, he⟩
  obtain rfl : e = .returned (.tuple #[.agg #[.bool false, .slice none 0 0], .int .i64 2]) := by rw [parse_01] at he; exact he
  clear he
  have Hq1 := Lib.hid (Hq1.out.below hB)
  have Hr1 := Lib.hid (Hr1.out.below hB)
  have Hq2 := Lib.hid (Hq2.out.below hB)
  have Hr2 := Lib.hid (Hr2.out.below hB)
  have Hp := Lib.hid (Hp.out.below hB)
  have Tq1 := Lib.hid (Tq1.out.below hB Tq1.out.lt)
  have Tr1 := Lib.hid (Tr1.out.below hB Tr1.out.lt)
  have Tq2 := Lib.hid (Tq2.out.below hB Tq2.out.lt)
  have Tr2 := Lib.hid (Tr2.out.below hB Tr2.out.lt)
  have Tp := Lib.hid (Tp.out.below hB Tp.out.lt)
  have HB := Lib.hid (HB.out.trans (hB.mono HB.out.size))
  clear hB 
  obtain ⟨w17, hw⟩ : ∃ w', w16.alloc (.cells #[.bool false, .slice none 0 0] 33) = w' := ⟨_, rfl⟩
  have hB : Below w16.heap.size w16 w17 := by rw [← hw]; exact (Below.refl _ _).alloc (Nat.le_refl _) _
  have Hq1 := Lib.hid (Hq1.out.below hB)
  have Hr1 := Lib.hid (Hr1.out.below hB)
  have Hq2 := Lib.hid (Hq2.out.below hB)
  have Hr2 := Lib.hid (Hr2.out.below hB)
  have Hp := Lib.hid (Hp.out.below hB)
  have Tq1 := Lib.hid (Tq1.out.below hB Tq1.out.lt)
  have Tr1 := Lib.hid (Tr1.out.below hB Tr1.out.lt)
  have Tq2 := Lib.hid (Tq2.out.below hB Tq2.out.lt)
  have Tr2 := Lib.hid (Tr2.out.below hB Tr2.out.lt)
  have Tp := Lib.hid (Tp.out.below hB Tp.out.lt)
  have HB := Lib.hid (HB.out.trans (hB.mono HB.out.size))
  have Hw := Lib.hid hw
  clear hB hw
  have d0q1_17 := Tq1.out.cell0
  rw [← Hw.out] at d0q1_17
  have d1q1_17 := Tq1.out.cell1
  rw [← Hw.out] at d1q1_17
  have d0r1_17 := Tr1.out.cell0
  rw [← Hw.out] at d0r1_17
  have d1r1_17 := Tr1.out.cell1
  rw [← Hw.out] at d1r1_17
  have d0q2_17 := Tq2.out.cell0
  rw [← Hw.out] at d0q2_17
  have d1q2_17 := Tq2.out.cell1
  rw [← Hw.out] at d1q2_17
  have d0r2_17 := Tr2.out.cell0
  rw [← Hw.out] at d0r2_17
  have d1r2_17 := Tr2.out.cell1
  rw [← Hw.out] at d1r2_17
  have d0p_17 := Tp.out.cell0
  rw [← Hw.out] at d0p_17
  have d1p_17 := Tp.out.cell1
  rw [← Hw.out] at d1p_17
  go_wp2_with fail
  rw [Hw.out]
  clear Hw
  refine (string_any _ (qOf (-7) 2) w17 Hq1.out str_q1_lim (HT.out.below HB.out hg)).mono ?_
  rintro e w18 ⟨rfl, hB⟩
  rw [str_q1]
  have Hq1 := Lib.hid (Hq1.out.below hB)
  have Hr1 := Lib.hid (Hr1.out.below hB)
  have Hq2 := Lib.hid (Hq2.out.below hB)
  have Hr2 := Lib.hid (Hr2.out.below hB)
  have Hp := Lib.hid (Hp.out.below hB)
  have Tq1 := Lib.hid (Tq1.out.below hB Tq1.out.lt)
  have Tr1 := Lib.hid (Tr1.out.below hB Tr1.out.lt)
  have Tq2 := Lib.hid (Tq2.out.below hB Tq2.out.lt)
  have Tr2 := Lib.hid (Tr2.out.below hB Tr2.out.lt)
  have Tp := Lib.hid (Tp.out.below hB Tp.out.lt)
  have HB := Lib.hid (HB.out.trans (hB.mono HB.out.size))
  clear hB 
  have d0q1_18 := Tq1.out.cell0
  have d1q1_18 := Tq1.out.cell1
  have d0r1_18 := Tr1.out.cell0
  have d1r1_18 := Tr1.out.cell1
  have d0q2_18 := Tq2.out.cell0
  have d1q2_18 := Tq2.out.cell1
  have d0r2_18 := Tr2.out.cell0
  have d1r2_18 := Tr2.out.cell1
  have d0p_18 := Tp.out.cell0
  have d1p_18 := Tp.out.cell1
  go_wp2_with fail
  refine (string_any _ ((rOf (-7) 2 : Nat)) w18 Hr1.out str_r1_lim (HT.out.below HB.out hg)).mono ?_
  rintro e w19 ⟨rfl, hB⟩
  rw [str_r1]
  have Hq1 := Lib.hid (Hq1.out.below hB)
  have Hr1 := Lib.hid (Hr1.out.below hB)
  have Hq2 := Lib.hid (Hq2.out.below hB)
  have Hr2 := Lib.hid (Hr2.out.below hB)
  have Hp := Lib.hid (Hp.out.below hB)
  have Tq1 := Lib.hid (Tq1.out.below hB Tq1.out.lt)
  have Tr1 := Lib.hid (Tr1.out.below hB Tr1.out.lt)
  have Tq2 := Lib.hid (Tq2.out.below hB Tq2.out.lt)
  have Tr2 := Lib.hid (Tr2.out.below hB Tr2.out.lt)
  have Tp := Lib.hid (Tp.out.below hB Tp.out.lt)
  have HB := Lib.hid (HB.out.trans (hB.mono HB.out.size))
  clear hB 
  have d0q1_19 := Tq1.out.cell0
  have d1q1_19 := Tq1.out.cell1
  have d0r1_19 := Tr1.out.cell0
  have d1r1_19 := Tr1.out.cell1
  have d0q2_19 := Tq2.out.cell0
  have d1q2_19 := Tq2.out.cell1
  have d0r2_19 := Tr2.out.cell0
  have d1r2_19 := Tr2.out.cell1
  have d0p_19 := Tp.out.cell0
  have d1p_19 := Tp.out.cell1
  go_wp2_with fail
  refine (string_any _ (qOf 7 (-2)) w19 Hq2.out str_q2_lim (HT.out.below HB.out hg)).mono ?_
  rintro e w20 ⟨rfl, hB⟩
  rw [str_q2]
  have Hq1 := Lib.hid (Hq1.out.below hB)
  have Hr1 := Lib.hid (Hr1.out.below hB)
  have Hq2 := Lib.hid (Hq2.out.below hB)
  have Hr2 := Lib.hid (Hr2.out.below hB)
  have Hp := Lib.hid (Hp.out.below hB)
  have Tq1 := Lib.hid (Tq1.out.below hB Tq1.out.lt)
  have Tr1 := Lib.hid (Tr1.out.below hB Tr1.out.lt)
  have Tq2 := Lib.hid (Tq2.out.below hB Tq2.out.lt)
  have Tr2 := Lib.hid (Tr2.out.below hB Tr2.out.lt)
  have Tp := Lib.hid (Tp.out.below hB Tp.out.lt)
  have HB := Lib.hid (HB.out.trans (hB.mono HB.out.size))
  clear hB 
  have d0q1_20 := Tq1.out.cell0
  have d1q1_20 := Tq1.out.cell1
  have d0r1_20 := Tr1.out.cell0
  have d1r1_20 := Tr1.out.cell1
  have d0q2_20 := Tq2.out.cell0
  have d1q2_20 := Tq2.out.cell1
  have d0r2_20 := Tr2.out.cell0
  have d1r2_20 := Tr2.out.cell1
  have d0p_20 := Tp.out.cell0
  have d1p_20 := Tp.out.cell1
  go_wp2_with fail
  refine (string_any _ ((rOf 7 (-2) : Nat)) w20 Hr2.out str_r2_lim (HT.out.below HB.out hg)).mono ?_
  rintro e w21 ⟨rfl, hB⟩
  rw [str_r2]
  have Hq1 := Lib.hid (Hq1.out.below hB)
  have Hr1 := Lib.hid (Hr1.out.below hB)
  have Hq2 := Lib.hid (Hq2.out.below hB)
  have Hr2 := Lib.hid (Hr2.out.below hB)
  have Hp := Lib.hid (Hp.out.below hB)
  have Tq1 := Lib.hid (Tq1.out.below hB Tq1.out.lt)
  have Tr1 := Lib.hid (Tr1.out.below hB Tr1.out.lt)
  have Tq2 := Lib.hid (Tq2.out.below hB Tq2.out.lt)
  have Tr2 := Lib.hid (Tr2.out.below hB Tr2.out.lt)
  have Tp := Lib.hid (Tp.out.below hB Tp.out.lt)
  have HB := Lib.hid (HB.out.trans (hB.mono HB.out.size))
  clear hB 
  have d0q1_21 := Tq1.out.cell0
  have d1q1_21 := Tq1.out.cell1
  have d0r1_21 := Tr1.out.cell0
  have d1r1_21 := Tr1.out.cell1
  have d0q2_21 := Tq2.out.cell0
  have d1q2_21 := Tq2.out.cell1
  have d0r2_21 := Tr2.out.cell0
  have d1r2_21 := Tr2.out.cell1
  have d0p_21 := Tp.out.cell0
  have d1p_21 := Tp.out.cell1
  go_wp2_with fail
  refine (string_any _ (4294967296 * 4294967296) w21 Hp.out str_p_lim (HT.out.below HB.out hg)).mono ?_
  rintro e w22 ⟨rfl, hB⟩
  rw [str_p]
  have Hq1 := Lib.hid (Hq1.out.below hB)
  have Hr1 := Lib.hid (Hr1.out.below hB)
  have Hq2 := Lib.hid (Hq2.out.below hB)
  have Hr2 := Lib.hid (Hr2.out.below hB)
  have Hp := Lib.hid (Hp.out.below hB)
  have Tq1 := Lib.hid (Tq1.out.below hB Tq1.out.lt)
  have Tr1 := Lib.hid (Tr1.out.below hB Tr1.out.lt)
  have Tq2 := Lib.hid (Tq2.out.below hB Tq2.out.lt)
  have Tr2 := Lib.hid (Tr2.out.below hB Tr2.out.lt)
  have Tp := Lib.hid (Tp.out.below hB Tp.out.lt)
  have HB := Lib.hid (HB.out.trans (hB.mono HB.out.size))
  clear hB 
  have d0q1_22 := Tq1.out.cell0
  have d1q1_22 := Tq1.out.cell1
  have d0r1_22 := Tr1.out.cell0
  have d1r1_22 := Tr1.out.cell1
  have d0q2_22 := Tq2.out.cell0
  have d1q2_22 := Tq2.out.cell1
  have d0r2_22 := Tr2.out.cell0
  have d1r2_22 := Tr2.out.cell1
  have d0p_22 := Tp.out.cell0
  have d1p_22 := Tp.out.cell1
  go_wp2
  go_ret
  exact ⟨rfl, HB.out⟩

end Go.Proofs.YtgfgjnkndfgdiaaDoor
