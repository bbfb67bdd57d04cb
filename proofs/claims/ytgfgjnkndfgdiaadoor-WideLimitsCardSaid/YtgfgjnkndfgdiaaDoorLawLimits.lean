/- the law WideLimits: its walk. -/
import Derived.Test.YtgfgjnkndfgdiaaDoorLimPlain
import Derived.Test.YtgfgjnkndfgdiaaDoorRegTwo
namespace Go.Proofs.YtgfgjnkndfgdiaaDoor
open Go.RowKit

def boundZ (n m : Int) : Int := around n (2 * m + 1) - m
theorem bound_three (n : Int) (w : World) (h1 : -9223372036854775808 ≤ n) (h2 : n ≤ 9223372036854775807) :
    Calls Tryd.prog 35 #[.int .i64 n, .int .i64 3] w fun e w' => e = .returned (.int .i64 (boundZ n 3)) ∧ w = w' := by
  have hr := around_range n 7 (by omega)
  have Ha := Lib.hid (around_any n 7 w h1 h2 (by omega) (by omega))
  have Hb : Hid (boundZ n 3 = around n 7 - 3) := Lib.hid rfl
  generalize around n 7 = q at *
  go_enter Tryd.func35, Tryd.ntmps35
  go_wp2_with fail
  refine Ha.out.mono ?_
  rintro e w1 ⟨rfl, rfl⟩
  go_wp2
  go_ret
  exact ⟨by rw [Hb.out]; rfl, rfl⟩

theorem rint_zero (w : World) : RInt w (.agg #[.bool false, .slice none 0 0]) 0 := ⟨_, rfl, RowAt.nil none 0 (by omega)⟩
theorem zero_lim : (0 : Int).natAbs < LIM := lim_of_le (k := 1) (by decide) (by decide)
theorem bz_lim (b : Int) (h : -3 ≤ b ∧ b ≤ 3) : b.natAbs < LIM := lim_of_le (k := 2) (by decide) (by omega)

set_option maxRecDepth 100000 in
set_option maxHeartbeats 4000000 in
theorem wideLimits_any (n m kk : Int) (w0 : World) (h1 : -9223372036854775808 ≤ n) (h2 : n ≤ 9223372036854775807) (h3 : -9223372036854775808 ≤ m) (h4 : m ≤ 9223372036854775807) (h5 : -9223372036854775808 ≤ kk) (h6 : kk ≤ 9223372036854775807) (hT : Pow10 w0) :
    Calls Tryd.prog 10 #[.int .i64 n, .int .i64 m, .int .i64 kk] w0 fun e w' => e = .returned (.bool true) ∧ Below w0.heap.size w0 w' := by
  have HP := Lib.hid hT
  have hg := hT.lt
  have HB := Lib.hid (Below.refl w0.heap.size w0)
  clear hT
  go_enter Tryd.func10, Tryd.ntmps10
  go_wp2_with fail
  have Hbd := Lib.hid (fun w => bound_three kk w h5 h6)
  have hbz : -3 ≤ boundZ kk 3 ∧ boundZ kk 3 ≤ 3 := by have := around_range kk (2 * 3 + 1) (by omega); unfold boundZ; omega
  generalize boundZ kk 3 = bz at *
  refine (near_any n w0 h1 h2).mono ?_
  rintro e w1 ⟨⟨va, rfl, ha⟩, hB⟩
  have HB := Lib.hid (HB.out.trans (hB.mono HB.out.size))
  have Ha := Lib.hid ha
  obtain ⟨s_a, a_a, n_a, c_a, rfl⟩ := ha.form2
  clear hB ha
  obtain ⟨w2, hw⟩ : ∃ w', (w1.alloc (.cells #[.bool s_a, .slice a_a n_a c_a] 25)) = w' := ⟨_, rfl⟩
  have hB : Below w1.heap.size w1 w2 := by rw [← hw]; exact (Below.refl _ _).alloc (Nat.le_refl _) _
  obtain ⟨b_a, hb_a⟩ : ∃ b, w1.heap.size = b := ⟨_, rfl⟩
  have Ta' : Hid (Two w2 b_a 25 (.bool s_a) (.slice a_a n_a c_a)) := Lib.hid (by rw [← hw, ← hb_a]; have h9 := (Two.new w1 25 (.bool s_a) (.slice a_a n_a c_a)); exact h9)
  have Ha := Lib.hid (Ha.out.below (Nat.le_refl _) hB)
  have HB := Lib.hid (HB.out.trans (hB.mono HB.out.size))
  have Ta := Ta'
  clear hB Ta'
  go_wp2_with fail
  clear hw hb_a
  refine (Hbd.out w2).mono ?_
  rintro e w3 ⟨rfl, rfl⟩
  go_wp2_with fail
  refine (of_any bz w2 (by omega) (by omega)).mono ?_
  rintro e w3 ⟨⟨vb, rfl, hb⟩, hB⟩
  have Ha := Lib.hid (Ha.out.below (Nat.le_refl _) hB)
  have Ta := Lib.hid (Ta.out.below hB Ta.out.lt)
  have HB := Lib.hid (HB.out.trans (hB.mono HB.out.size))
  have Hb := Lib.hid hb
  obtain ⟨s_b, a_b, n_b, c_b, rfl⟩ := hb.form2
  clear hB hb
  obtain ⟨w4, hw⟩ : ∃ w', (w3.alloc (.cells #[.bool s_b, .slice a_b n_b c_b] 25)) = w' := ⟨_, rfl⟩
  have hB : Below w3.heap.size w3 w4 := by rw [← hw]; exact (Below.refl _ _).alloc (Nat.le_refl _) _
  obtain ⟨b_b, hb_b⟩ : ∃ b, w3.heap.size = b := ⟨_, rfl⟩
  have Tb' : Hid (Two w4 b_b 25 (.bool s_b) (.slice a_b n_b c_b)) := Lib.hid (by rw [← hw, ← hb_b]; have h9 := (Two.new w3 25 (.bool s_b) (.slice a_b n_b c_b)); exact h9)
  have Ha := Lib.hid (Ha.out.below (Nat.le_refl _) hB)
  have Hb := Lib.hid (Hb.out.below (Nat.le_refl _) hB)
  have Ta := Lib.hid (Ta.out.below hB Ta.out.lt)
  have HB := Lib.hid (HB.out.trans (hB.mono HB.out.size))
  have Tb := Tb'
  clear hB Tb'
  go_wp2_with fail
  clear hw hb_b
  have hq1 := around_range m 7 (by omega)
  refine (around_any m 7 w4 h3 h4 (by omega) (by omega)).mono ?_
  rintro e w5 ⟨rfl, rfl⟩
  generalize around m 7 = q1 at *
  go_wp2_with fail
  refine (near_any _ w4 (by omega) (by omega)).mono ?_
  rintro e w5 ⟨⟨vc, rfl, hc⟩, hB⟩
  have Ha := Lib.hid (Ha.out.below (Nat.le_refl _) hB)
  have Hb := Lib.hid (Hb.out.below (Nat.le_refl _) hB)
  have Ta := Lib.hid (Ta.out.below hB Ta.out.lt)
  have Tb := Lib.hid (Tb.out.below hB Tb.out.lt)
  have HB := Lib.hid (HB.out.trans (hB.mono HB.out.size))
  have Hc := Lib.hid hc
  obtain ⟨s_c, a_c, n_c, c_c, rfl⟩ := hc.form2
  clear hB hc
  have HCl := Lib.hid (near2_lim q1 hq1)
  obtain ⟨zc, hzc⟩ : ∃ z, nearZ (4 * q1 + 2) = z := ⟨_, rfl⟩
  rw [hzc] at Hc HCl
  clear hzc
  have HAd := Lib.hid (near_dec n)
  have HAl := Lib.hid (near_len4 n)
  have HA8 := Lib.hid (nearZ_lim8 n)
  obtain ⟨za, hza⟩ : ∃ z, nearZ n = z := ⟨_, rfl⟩
  rw [hza] at Ha HAd HAl HA8
  clear hza
  have Hpa := Lib.hid (parse_decZ_any za HAd.out)
  obtain ⟨w6, hw⟩ : ∃ w', (w5.alloc (.cells #[.bool s_c, .slice a_c n_c c_c] 25)) = w' := ⟨_, rfl⟩
  have hB : Below w5.heap.size w5 w6 := by rw [← hw]; exact (Below.refl _ _).alloc (Nat.le_refl _) _
  obtain ⟨b_c, hb_c⟩ : ∃ b, w5.heap.size = b := ⟨_, rfl⟩
  have Tc' : Hid (Two w6 b_c 25 (.bool s_c) (.slice a_c n_c c_c)) := Lib.hid (by rw [← hw, ← hb_c]; have h9 := (Two.new w5 25 (.bool s_c) (.slice a_c n_c c_c)); exact h9)
  have Ha := Lib.hid (Ha.out.below (Nat.le_refl _) hB)
  have Hb := Lib.hid (Hb.out.below (Nat.le_refl _) hB)
  have Hc := Lib.hid (Hc.out.below (Nat.le_refl _) hB)
  have Ta := Lib.hid (Ta.out.below hB Ta.out.lt)
  have Tb := Lib.hid (Tb.out.below hB Tb.out.lt)
  have HB := Lib.hid (HB.out.trans (hB.mono HB.out.size))
  have Tc := Tc'
  clear hB Tc'
  have d0a_6 := Ta.out.cell0
  have d1a_6 := Ta.out.cell1
  go_wp2_with fail
  clear hw hb_c d0a_6 d1a_6
  obtain ⟨U, hU⟩ : ∃ U, decZ za = U := ⟨_, rfl⟩
  have hUl : U.length ≤ 4991 := by rw [← hU]; unfold decZ; split; rw [List.length_cons]; have := HAd.out; omega; have := HAd.out; omega
  rw [hU] at Hpa
  have HU := Lib.hid hU
  clear hU
  refine (rtext_any _ za w6 Ha.out (Nat.le_trans HAl.out (by omega))).mono ?_
  rintro e w7 ⟨rfl, hB⟩
  rw [HU.out]
  have Ha := Lib.hid (Ha.out.below (Nat.le_refl _) hB)
  have Hb := Lib.hid (Hb.out.below (Nat.le_refl _) hB)
  have Hc := Lib.hid (Hc.out.below (Nat.le_refl _) hB)
  have Ta := Lib.hid (Ta.out.below hB Ta.out.lt)
  have Tb := Lib.hid (Tb.out.below hB Tb.out.lt)
  have Tc := Lib.hid (Tc.out.below hB Tc.out.lt)
  have HB := Lib.hid (HB.out.trans (hB.mono HB.out.size))
  clear hB 
  go_wp2_with fail
  by_cases hfit : za.natAbs < LIM
  · skip
    rw [if_pos hfit] at Hpa
    refine (parse_any U w7 (by omega)).mono ?_
    rintro e w8 ⟨hB, he⟩
    rw [Hpa.out] at he
    obtain ⟨vx, rfl, hx, -⟩ := he
    have Ha := Lib.hid (Ha.out.below (Nat.le_refl _) hB)
    have Hb := Lib.hid (Hb.out.below (Nat.le_refl _) hB)
    have Hc := Lib.hid (Hc.out.below (Nat.le_refl _) hB)
    have Ta := Lib.hid (Ta.out.below hB Ta.out.lt)
    have Tb := Lib.hid (Tb.out.below hB Tb.out.lt)
    have Tc := Lib.hid (Tc.out.below hB Tc.out.lt)
    have HB := Lib.hid (HB.out.trans (hB.mono HB.out.size))
    have Hx := Lib.hid hx
    obtain ⟨s_x, a_x, n_x, c_x, rfl⟩ := hx.form2
    clear hB hx
    obtain ⟨w9, hw⟩ : ∃ w', (w8.alloc (.cells #[.bool s_x, .slice a_x n_x c_x] 33)) = w' := ⟨_, rfl⟩
    have hB : Below w8.heap.size w8 w9 := by rw [← hw]; exact (Below.refl _ _).alloc (Nat.le_refl _) _
    obtain ⟨b_x, hb_x⟩ : ∃ b, w8.heap.size = b := ⟨_, rfl⟩
    have Tx' : Hid (Two w9 b_x 33 (.bool s_x) (.slice a_x n_x c_x)) := Lib.hid (by rw [← hw, ← hb_x]; have h9 := (Two.new w8 33 (.bool s_x) (.slice a_x n_x c_x)); exact h9)
    have Ha := Lib.hid (Ha.out.below (Nat.le_refl _) hB)
    have Hb := Lib.hid (Hb.out.below (Nat.le_refl _) hB)
    have Hc := Lib.hid (Hc.out.below (Nat.le_refl _) hB)
    have Hx := Lib.hid (Hx.out.below hB)
    have Ta := Lib.hid (Ta.out.below hB Ta.out.lt)
    have Tb := Lib.hid (Tb.out.below hB Tb.out.lt)
    have Tc := Lib.hid (Tc.out.below hB Tc.out.lt)
    have HB := Lib.hid (HB.out.trans (hB.mono HB.out.size))
    have Tx := Tx'
    clear hB Tx'
    have d0a_9 := Ta.out.cell0
    have d1a_9 := Ta.out.cell1
    go_wp2_with fail
    clear hw hb_x d0a_9 d1a_9
    refine (rtext_any _ za w9 Ha.out (Nat.le_trans HAl.out (by omega))).mono ?_
    rintro e w10 ⟨rfl, hB⟩
    rw [HU.out]
    have Ha := Lib.hid (Ha.out.below (Nat.le_refl _) hB)
    have Hb := Lib.hid (Hb.out.below (Nat.le_refl _) hB)
    have Hc := Lib.hid (Hc.out.below (Nat.le_refl _) hB)
    have Hx := Lib.hid (Hx.out.below hB)
    have Ta := Lib.hid (Ta.out.below hB Ta.out.lt)
    have Tb := Lib.hid (Tb.out.below hB Tb.out.lt)
    have Tc := Lib.hid (Tc.out.below hB Tc.out.lt)
    have Tx := Lib.hid (Tx.out.below hB Tx.out.lt)
    have HB := Lib.hid (HB.out.trans (hB.mono HB.out.size))
    clear hB 
    go_wp2_with fail
    refine (rparse_any U w10 (by omega)).mono ?_
    rintro e w11 ⟨hB, he⟩
    rw [Hpa.out] at he
    obtain ⟨vk, rfl, hk, -⟩ := he
    have Ha := Lib.hid (Ha.out.below (Nat.le_refl _) hB)
    have Hb := Lib.hid (Hb.out.below (Nat.le_refl _) hB)
    have Hc := Lib.hid (Hc.out.below (Nat.le_refl _) hB)
    have Hx := Lib.hid (Hx.out.below hB)
    have Ta := Lib.hid (Ta.out.below hB Ta.out.lt)
    have Tb := Lib.hid (Tb.out.below hB Tb.out.lt)
    have Tc := Lib.hid (Tc.out.below hB Tc.out.lt)
    have Tx := Lib.hid (Tx.out.below hB Tx.out.lt)
    have HB := Lib.hid (HB.out.trans (hB.mono HB.out.size))
    have Hk := Lib.hid hk
    obtain ⟨s_k, a_k, n_k, c_k, rfl⟩ := hk.form2
    clear hB hk
    obtain ⟨w12, hw⟩ : ∃ w', (w11.alloc (.cells #[.bool s_k, .slice a_k n_k c_k] 25)) = w' := ⟨_, rfl⟩
    have hB : Below w11.heap.size w11 w12 := by rw [← hw]; exact (Below.refl _ _).alloc (Nat.le_refl _) _
    obtain ⟨b_k, hb_k⟩ : ∃ b, w11.heap.size = b := ⟨_, rfl⟩
    have Tk' : Hid (Two w12 b_k 25 (.bool s_k) (.slice a_k n_k c_k)) := Lib.hid (by rw [← hw, ← hb_k]; have h9 := (Two.new w11 25 (.bool s_k) (.slice a_k n_k c_k)); exact h9)
    have Ha := Lib.hid (Ha.out.below (Nat.le_refl _) hB)
    have Hb := Lib.hid (Hb.out.below (Nat.le_refl _) hB)
    have Hc := Lib.hid (Hc.out.below (Nat.le_refl _) hB)
    have Hx := Lib.hid (Hx.out.below hB)
    have Hk := Lib.hid (Hk.out.below (Nat.le_refl _) hB)
    have Ta := Lib.hid (Ta.out.below hB Ta.out.lt)
    have Tb := Lib.hid (Tb.out.below hB Tb.out.lt)
    have Tc := Lib.hid (Tc.out.below hB Tc.out.lt)
    have Tx := Lib.hid (Tx.out.below hB Tx.out.lt)
    have HB := Lib.hid (HB.out.trans (hB.mono HB.out.size))
    have Tk := Tk'
    clear hB Tk'
    have d0b_12 := Tb.out.cell0
    have d1b_12 := Tb.out.cell1
    go_wp2_with fail
    clear hw hb_k d0b_12 d1b_12
    clear Hk Tk
    refine (wider_any _ _ w12 Hb.out (bz_lim bz hbz)).mono ?_
    rintro e w13 ⟨⟨vy, rfl, hy⟩, hB⟩
    have Ha := Lib.hid (Ha.out.below (Nat.le_refl _) hB)
    have Hb := Lib.hid (Hb.out.below (Nat.le_refl _) hB)
    have Hc := Lib.hid (Hc.out.below (Nat.le_refl _) hB)
    have Hx := Lib.hid (Hx.out.below hB)
    have Ta := Lib.hid (Ta.out.below hB Ta.out.lt)
    have Tb := Lib.hid (Tb.out.below hB Tb.out.lt)
    have Tc := Lib.hid (Tc.out.below hB Tc.out.lt)
    have Tx := Lib.hid (Tx.out.below hB Tx.out.lt)
    have HB := Lib.hid (HB.out.trans (hB.mono HB.out.size))
    have Hy := Lib.hid hy
    obtain ⟨s_y, a_y, n_y, c_y, rfl⟩ := hy.form2
    clear hB hy
    obtain ⟨w14, hw⟩ : ∃ w', (w13.alloc (.cells #[.bool s_y, .slice a_y n_y c_y] 33)) = w' := ⟨_, rfl⟩
    have hB : Below w13.heap.size w13 w14 := by rw [← hw]; exact (Below.refl _ _).alloc (Nat.le_refl _) _
    obtain ⟨b_y, hb_y⟩ : ∃ b, w13.heap.size = b := ⟨_, rfl⟩
    have Ty' : Hid (Two w14 b_y 33 (.bool s_y) (.slice a_y n_y c_y)) := Lib.hid (by rw [← hw, ← hb_y]; have h9 := (Two.new w13 33 (.bool s_y) (.slice a_y n_y c_y)); exact h9)
    have Ha := Lib.hid (Ha.out.below (Nat.le_refl _) hB)
    have Hb := Lib.hid (Hb.out.below (Nat.le_refl _) hB)
    have Hc := Lib.hid (Hc.out.below (Nat.le_refl _) hB)
    have Hx := Lib.hid (Hx.out.below hB)
    have Hy := Lib.hid (Hy.out.below hB)
    have Ta := Lib.hid (Ta.out.below hB Ta.out.lt)
    have Tb := Lib.hid (Tb.out.below hB Tb.out.lt)
    have Tc := Lib.hid (Tc.out.below hB Tc.out.lt)
    have Tx := Lib.hid (Tx.out.below hB Tx.out.lt)
    have HB := Lib.hid (HB.out.trans (hB.mono HB.out.size))
    have Ty := Ty'
    clear hB Ty'
    have d0c_14 := Tc.out.cell0
    have d1c_14 := Tc.out.cell1
    go_wp2_with fail
    clear hw hb_y d0c_14 d1c_14
    refine (wider_any _ _ w14 Hc.out HCl.out).mono ?_
    rintro e w15 ⟨⟨vz, rfl, hz⟩, hB⟩
    have Ha := Lib.hid (Ha.out.below (Nat.le_refl _) hB)
    have Hb := Lib.hid (Hb.out.below (Nat.le_refl _) hB)
    have Hc := Lib.hid (Hc.out.below (Nat.le_refl _) hB)
    have Hx := Lib.hid (Hx.out.below hB)
    have Hy := Lib.hid (Hy.out.below hB)
    have Ta := Lib.hid (Ta.out.below hB Ta.out.lt)
    have Tb := Lib.hid (Tb.out.below hB Tb.out.lt)
    have Tc := Lib.hid (Tc.out.below hB Tc.out.lt)
    have Tx := Lib.hid (Tx.out.below hB Tx.out.lt)
    have Ty := Lib.hid (Ty.out.below hB Ty.out.lt)
    have HB := Lib.hid (HB.out.trans (hB.mono HB.out.size))
    have Hz := Lib.hid hz
    obtain ⟨s_z, a_z, n_z, c_z, rfl⟩ := hz.form2
    clear hB hz
    obtain ⟨w16, hw⟩ : ∃ w', (w15.alloc (.cells #[.bool s_z, .slice a_z n_z c_z] 33)) = w' := ⟨_, rfl⟩
    have hB : Below w15.heap.size w15 w16 := by rw [← hw]; exact (Below.refl _ _).alloc (Nat.le_refl _) _
    obtain ⟨b_z, hb_z⟩ : ∃ b, w15.heap.size = b := ⟨_, rfl⟩
    have Tz' : Hid (Two w16 b_z 33 (.bool s_z) (.slice a_z n_z c_z)) := Lib.hid (by rw [← hw, ← hb_z]; have h9 := (Two.new w15 33 (.bool s_z) (.slice a_z n_z c_z)); exact h9)
    have Ha := Lib.hid (Ha.out.below (Nat.le_refl _) hB)
    have Hb := Lib.hid (Hb.out.below (Nat.le_refl _) hB)
    have Hc := Lib.hid (Hc.out.below (Nat.le_refl _) hB)
    have Hx := Lib.hid (Hx.out.below hB)
    have Hy := Lib.hid (Hy.out.below hB)
    have Hz := Lib.hid (Hz.out.below hB)
    have Ta := Lib.hid (Ta.out.below hB Ta.out.lt)
    have Tb := Lib.hid (Tb.out.below hB Tb.out.lt)
    have Tc := Lib.hid (Tc.out.below hB Tc.out.lt)
    have Tx := Lib.hid (Tx.out.below hB Tx.out.lt)
    have Ty := Lib.hid (Ty.out.below hB Ty.out.lt)
    have HB := Lib.hid (HB.out.trans (hB.mono HB.out.size))
    have Tz := Tz'
    clear hB Tz'
    have d0x_16 := Tx.out.cell0
    have d1x_16 := Tx.out.cell1
    have d0y_16 := Ty.out.cell0
    have d1y_16 := Ty.out.cell1
    go_wp2_with fail
    clear hw hb_z d0x_16 d1x_16 d0y_16 d1y_16
    refine (add_any _ _ _ _ w16 Hx.out Hy.out hfit (bz_lim bz hbz)).mono ?_
    rintro e w17 hL
    obtain ⟨vs, rfl, hs, hB⟩ := hL.both
    have Ha := Lib.hid (Ha.out.below (Nat.le_refl _) hB)
    have Hb := Lib.hid (Hb.out.below (Nat.le_refl _) hB)
    have Hc := Lib.hid (Hc.out.below (Nat.le_refl _) hB)
    have Hx := Lib.hid (Hx.out.below hB)
    have Hy := Lib.hid (Hy.out.below hB)
    have Hz := Lib.hid (Hz.out.below hB)
    have Ta := Lib.hid (Ta.out.below hB Ta.out.lt)
    have Tb := Lib.hid (Tb.out.below hB Tb.out.lt)
    have Tc := Lib.hid (Tc.out.below hB Tc.out.lt)
    have Tx := Lib.hid (Tx.out.below hB Tx.out.lt)
    have Ty := Lib.hid (Ty.out.below hB Ty.out.lt)
    have Tz := Lib.hid (Tz.out.below hB Tz.out.lt)
    have HB := Lib.hid (HB.out.trans (hB.mono HB.out.size))
    have Hs := Lib.hid hs
    obtain ⟨s_s, a_s, n_s, c_s, rfl⟩ := hs.form2
    clear hB hs
    obtain ⟨w18, hw⟩ : ∃ w', (w17.alloc (.cells #[.bool s_s, .slice a_s n_s c_s] 33)) = w' := ⟨_, rfl⟩
    have hB : Below w17.heap.size w17 w18 := by rw [← hw]; exact (Below.refl _ _).alloc (Nat.le_refl _) _
    obtain ⟨b_s, hb_s⟩ : ∃ b, w17.heap.size = b := ⟨_, rfl⟩
    have Ts' : Hid (Two w18 b_s 33 (.bool s_s) (.slice a_s n_s c_s)) := Lib.hid (by rw [← hw, ← hb_s]; have h9 := (Two.new w17 33 (.bool s_s) (.slice a_s n_s c_s)); exact h9)
    have Ha := Lib.hid (Ha.out.below (Nat.le_refl _) hB)
    have Hb := Lib.hid (Hb.out.below (Nat.le_refl _) hB)
    have Hc := Lib.hid (Hc.out.below (Nat.le_refl _) hB)
    have Hx := Lib.hid (Hx.out.below hB)
    have Hy := Lib.hid (Hy.out.below hB)
    have Hz := Lib.hid (Hz.out.below hB)
    have Hs := Lib.hid (Hs.out.below hB)
    have Ta := Lib.hid (Ta.out.below hB Ta.out.lt)
    have Tb := Lib.hid (Tb.out.below hB Tb.out.lt)
    have Tc := Lib.hid (Tc.out.below hB Tc.out.lt)
    have Tx := Lib.hid (Tx.out.below hB Tx.out.lt)
    have Ty := Lib.hid (Ty.out.below hB Ty.out.lt)
    have Tz := Lib.hid (Tz.out.below hB Tz.out.lt)
    have HB := Lib.hid (HB.out.trans (hB.mono HB.out.size))
    have Ts := Ts'
    clear hB Ts'
    have d0x_18 := Tx.out.cell0
    have d1x_18 := Tx.out.cell1
    have d0y_18 := Ty.out.cell0
    have d1y_18 := Ty.out.cell1
    go_wp2_with fail
    clear hw hb_s d0x_18 d1x_18 d0y_18 d1y_18
    refine (sub_any _ _ _ _ w18 Hx.out Hy.out hfit (bz_lim bz hbz)).mono ?_
    rintro e w19 hL
    obtain ⟨vt, rfl, ht, hB⟩ := hL.both
    have Ha := Lib.hid (Ha.out.below (Nat.le_refl _) hB)
    have Hb := Lib.hid (Hb.out.below (Nat.le_refl _) hB)
    have Hc := Lib.hid (Hc.out.below (Nat.le_refl _) hB)
    have Hx := Lib.hid (Hx.out.below hB)
    have Hy := Lib.hid (Hy.out.below hB)
    have Hz := Lib.hid (Hz.out.below hB)
    have Hs := Lib.hid (Hs.out.below hB)
    have Ta := Lib.hid (Ta.out.below hB Ta.out.lt)
    have Tb := Lib.hid (Tb.out.below hB Tb.out.lt)
    have Tc := Lib.hid (Tc.out.below hB Tc.out.lt)
    have Tx := Lib.hid (Tx.out.below hB Tx.out.lt)
    have Ty := Lib.hid (Ty.out.below hB Ty.out.lt)
    have Tz := Lib.hid (Tz.out.below hB Tz.out.lt)
    have Ts := Lib.hid (Ts.out.below hB Ts.out.lt)
    have HB := Lib.hid (HB.out.trans (hB.mono HB.out.size))
    have Ht := Lib.hid ht
    obtain ⟨s_t, a_t, n_t, c_t, rfl⟩ := ht.form2
    clear hB ht
    obtain ⟨w20, hw⟩ : ∃ w', (w19.alloc (.cells #[.bool s_t, .slice a_t n_t c_t] 33)) = w' := ⟨_, rfl⟩
    have hB : Below w19.heap.size w19 w20 := by rw [← hw]; exact (Below.refl _ _).alloc (Nat.le_refl _) _
    obtain ⟨b_t, hb_t⟩ : ∃ b, w19.heap.size = b := ⟨_, rfl⟩
    have Tt' : Hid (Two w20 b_t 33 (.bool s_t) (.slice a_t n_t c_t)) := Lib.hid (by rw [← hw, ← hb_t]; have h9 := (Two.new w19 33 (.bool s_t) (.slice a_t n_t c_t)); exact h9)
    have Ha := Lib.hid (Ha.out.below (Nat.le_refl _) hB)
    have Hb := Lib.hid (Hb.out.below (Nat.le_refl _) hB)
    have Hc := Lib.hid (Hc.out.below (Nat.le_refl _) hB)
    have Hx := Lib.hid (Hx.out.below hB)
    have Hy := Lib.hid (Hy.out.below hB)
    have Hz := Lib.hid (Hz.out.below hB)
    have Hs := Lib.hid (Hs.out.below hB)
    have Ht := Lib.hid (Ht.out.below hB)
    have Ta := Lib.hid (Ta.out.below hB Ta.out.lt)
    have Tb := Lib.hid (Tb.out.below hB Tb.out.lt)
    have Tc := Lib.hid (Tc.out.below hB Tc.out.lt)
    have Tx := Lib.hid (Tx.out.below hB Tx.out.lt)
    have Ty := Lib.hid (Ty.out.below hB Ty.out.lt)
    have Tz := Lib.hid (Tz.out.below hB Tz.out.lt)
    have Ts := Lib.hid (Ts.out.below hB Ts.out.lt)
    have HB := Lib.hid (HB.out.trans (hB.mono HB.out.size))
    have Tt := Tt'
    clear hB Tt'
    have d0x_20 := Tx.out.cell0
    have d1x_20 := Tx.out.cell1
    have d0y_20 := Ty.out.cell0
    have d1y_20 := Ty.out.cell1
    go_wp2_with fail
    clear hw hb_t d0x_20 d1x_20 d0y_20 d1y_20
    refine (mul_any _ _ _ _ w20 Hx.out Hy.out hfit (bz_lim bz hbz)).mono ?_
    rintro e w21 hL
    obtain ⟨vp, rfl, hp, hB⟩ := hL.both
    have Ha := Lib.hid (Ha.out.below (Nat.le_refl _) hB)
    have Hb := Lib.hid (Hb.out.below (Nat.le_refl _) hB)
    have Hc := Lib.hid (Hc.out.below (Nat.le_refl _) hB)
    have Hx := Lib.hid (Hx.out.below hB)
    have Hy := Lib.hid (Hy.out.below hB)
    have Hz := Lib.hid (Hz.out.below hB)
    have Hs := Lib.hid (Hs.out.below hB)
    have Ht := Lib.hid (Ht.out.below hB)
    have Ta := Lib.hid (Ta.out.below hB Ta.out.lt)
    have Tb := Lib.hid (Tb.out.below hB Tb.out.lt)
    have Tc := Lib.hid (Tc.out.below hB Tc.out.lt)
    have Tx := Lib.hid (Tx.out.below hB Tx.out.lt)
    have Ty := Lib.hid (Ty.out.below hB Ty.out.lt)
    have Tz := Lib.hid (Tz.out.below hB Tz.out.lt)
    have Ts := Lib.hid (Ts.out.below hB Ts.out.lt)
    have Tt := Lib.hid (Tt.out.below hB Tt.out.lt)
    have HB := Lib.hid (HB.out.trans (hB.mono HB.out.size))
    have Hp := Lib.hid hp
    obtain ⟨s_p, a_p, n_p, c_p, rfl⟩ := hp.form2
    clear hB hp
    obtain ⟨w22, hw⟩ : ∃ w', (w21.alloc (.cells #[.bool s_p, .slice a_p n_p c_p] 33)) = w' := ⟨_, rfl⟩
    have hB : Below w21.heap.size w21 w22 := by rw [← hw]; exact (Below.refl _ _).alloc (Nat.le_refl _) _
    obtain ⟨b_p, hb_p⟩ : ∃ b, w21.heap.size = b := ⟨_, rfl⟩
    have Tp' : Hid (Two w22 b_p 33 (.bool s_p) (.slice a_p n_p c_p)) := Lib.hid (by rw [← hw, ← hb_p]; have h9 := (Two.new w21 33 (.bool s_p) (.slice a_p n_p c_p)); exact h9)
    have Ha := Lib.hid (Ha.out.below (Nat.le_refl _) hB)
    have Hb := Lib.hid (Hb.out.below (Nat.le_refl _) hB)
    have Hc := Lib.hid (Hc.out.below (Nat.le_refl _) hB)
    have Hx := Lib.hid (Hx.out.below hB)
    have Hy := Lib.hid (Hy.out.below hB)
    have Hz := Lib.hid (Hz.out.below hB)
    have Hs := Lib.hid (Hs.out.below hB)
    have Ht := Lib.hid (Ht.out.below hB)
    have Hp := Lib.hid (Hp.out.below hB)
    have Ta := Lib.hid (Ta.out.below hB Ta.out.lt)
    have Tb := Lib.hid (Tb.out.below hB Tb.out.lt)
    have Tc := Lib.hid (Tc.out.below hB Tc.out.lt)
    have Tx := Lib.hid (Tx.out.below hB Tx.out.lt)
    have Ty := Lib.hid (Ty.out.below hB Ty.out.lt)
    have Tz := Lib.hid (Tz.out.below hB Tz.out.lt)
    have Ts := Lib.hid (Ts.out.below hB Ts.out.lt)
    have Tt := Lib.hid (Tt.out.below hB Tt.out.lt)
    have HB := Lib.hid (HB.out.trans (hB.mono HB.out.size))
    have Tp := Tp'
    clear hB Tp'
    have d0z_22 := Tz.out.cell0
    have d1z_22 := Tz.out.cell1
    go_wp2_with fail
    clear hw hb_p d0z_22 d1z_22
    refine (mul_any _ _ _ _ w22 Hz.out Hz.out HCl.out HCl.out).mono ?_
    rintro e w23 hL
    obtain ⟨vr, rfl, hr, hB⟩ := hL.both
    have Ha := Lib.hid (Ha.out.below (Nat.le_refl _) hB)
    have Hb := Lib.hid (Hb.out.below (Nat.le_refl _) hB)
    have Hc := Lib.hid (Hc.out.below (Nat.le_refl _) hB)
    have Hx := Lib.hid (Hx.out.below hB)
    have Hy := Lib.hid (Hy.out.below hB)
    have Hz := Lib.hid (Hz.out.below hB)
    have Hs := Lib.hid (Hs.out.below hB)
    have Ht := Lib.hid (Ht.out.below hB)
    have Hp := Lib.hid (Hp.out.below hB)
    have Ta := Lib.hid (Ta.out.below hB Ta.out.lt)
    have Tb := Lib.hid (Tb.out.below hB Tb.out.lt)
    have Tc := Lib.hid (Tc.out.below hB Tc.out.lt)
    have Tx := Lib.hid (Tx.out.below hB Tx.out.lt)
    have Ty := Lib.hid (Ty.out.below hB Ty.out.lt)
    have Tz := Lib.hid (Tz.out.below hB Tz.out.lt)
    have Ts := Lib.hid (Ts.out.below hB Ts.out.lt)
    have Tt := Lib.hid (Tt.out.below hB Tt.out.lt)
    have Tp := Lib.hid (Tp.out.below hB Tp.out.lt)
    have HB := Lib.hid (HB.out.trans (hB.mono HB.out.size))
    have Hr := Lib.hid hr
    obtain ⟨s_r, a_r, n_r, c_r, rfl⟩ := hr.form2
    clear hB hr
    obtain ⟨w24, hw⟩ : ∃ w', (w23.alloc (.cells #[.bool s_r, .slice a_r n_r c_r] 33)) = w' := ⟨_, rfl⟩
    have hB : Below w23.heap.size w23 w24 := by rw [← hw]; exact (Below.refl _ _).alloc (Nat.le_refl _) _
    obtain ⟨b_r, hb_r⟩ : ∃ b, w23.heap.size = b := ⟨_, rfl⟩
    have Tr' : Hid (Two w24 b_r 33 (.bool s_r) (.slice a_r n_r c_r)) := Lib.hid (by rw [← hw, ← hb_r]; have h9 := (Two.new w23 33 (.bool s_r) (.slice a_r n_r c_r)); exact h9)
    have Ha := Lib.hid (Ha.out.below (Nat.le_refl _) hB)
    have Hb := Lib.hid (Hb.out.below (Nat.le_refl _) hB)
    have Hc := Lib.hid (Hc.out.below (Nat.le_refl _) hB)
    have Hx := Lib.hid (Hx.out.below hB)
    have Hy := Lib.hid (Hy.out.below hB)
    have Hz := Lib.hid (Hz.out.below hB)
    have Hs := Lib.hid (Hs.out.below hB)
    have Ht := Lib.hid (Ht.out.below hB)
    have Hp := Lib.hid (Hp.out.below hB)
    have Hr := Lib.hid (Hr.out.below hB)
    have Ta := Lib.hid (Ta.out.below hB Ta.out.lt)
    have Tb := Lib.hid (Tb.out.below hB Tb.out.lt)
    have Tc := Lib.hid (Tc.out.below hB Tc.out.lt)
    have Tx := Lib.hid (Tx.out.below hB Tx.out.lt)
    have Ty := Lib.hid (Ty.out.below hB Ty.out.lt)
    have Tz := Lib.hid (Tz.out.below hB Tz.out.lt)
    have Ts := Lib.hid (Ts.out.below hB Ts.out.lt)
    have Tt := Lib.hid (Tt.out.below hB Tt.out.lt)
    have Tp := Lib.hid (Tp.out.below hB Tp.out.lt)
    have HB := Lib.hid (HB.out.trans (hB.mono HB.out.size))
    have Tr := Tr'
    clear hB Tr'
    have d0s_24 := Ts.out.cell0
    have d1s_24 := Ts.out.cell1
    have d0t_24 := Tt.out.cell0
    have d1t_24 := Tt.out.cell1
    have d0p_24 := Tp.out.cell0
    have d1p_24 := Tp.out.cell1
    have d0r_24 := Tr.out.cell0
    have d1r_24 := Tr.out.cell1
    go_wp2_with fail
    clear hw hb_r d0s_24 d1s_24 d0t_24 d1t_24 d0p_24 d1p_24 d0r_24 d1r_24
    have hR := WRow.four 33 Hs.out Ht.out Hp.out Hr.out
    have hE := IRow.four (w24.alloc (.cells #[.bool s_s, .slice a_s n_s c_s, .bool s_t, .slice a_t n_t c_t, .bool s_p, .slice a_p n_p c_p, .bool s_r, .slice a_r n_r c_r] 33)) 34 (lk (za + bz)) (lk (za - bz)) (lk (za * bz)) (lk (zc * zc))
    have hR := hR.below ((Below.refl _ _).alloc (Nat.le_refl _) (.cells #[.int .i64 (lk (za + bz)), .int .i64 (lk (za - bz)), .int .i64 (lk (za * bz)), .int .i64 (lk (zc * zc))] 34))
    rw [World.size_alloc] at hE
    obtain ⟨w25, hw⟩ : ∃ w', (w24.alloc (.cells #[.bool s_s, .slice a_s n_s c_s, .bool s_t, .slice a_t n_t c_t, .bool s_p, .slice a_p n_p c_p, .bool s_r, .slice a_r n_r c_r] 33)).alloc (.cells #[.int .i64 (lk (za + bz)), .int .i64 (lk (za - bz)), .int .i64 (lk (za * bz)), .int .i64 (lk (zc * zc))] 34) = w' := ⟨_, rfl⟩
    have hB : Below w24.heap.size w24 w25 := by rw [← hw]; exact ((Below.refl _ _).alloc (Nat.le_refl _) _).alloc (by simp) _
    obtain ⟨gG, hgG⟩ : ∃ b, w24.heap.size = b := ⟨_, rfl⟩
    rw [hw, hgG] at hR hE
    rw [hw, hgG]
    obtain ⟨gE, hgE⟩ : ∃ b, gG + 1 = b := ⟨_, rfl⟩
    rw [hgE] at hE
    rw [hgE]
    have Ha := Lib.hid (Ha.out.below (Nat.le_refl _) hB)
    have Hb := Lib.hid (Hb.out.below (Nat.le_refl _) hB)
    have Hc := Lib.hid (Hc.out.below (Nat.le_refl _) hB)
    have Hx := Lib.hid (Hx.out.below hB)
    have Hy := Lib.hid (Hy.out.below hB)
    have Hz := Lib.hid (Hz.out.below hB)
    have Hs := Lib.hid (Hs.out.below hB)
    have Ht := Lib.hid (Ht.out.below hB)
    have Hp := Lib.hid (Hp.out.below hB)
    have Hr := Lib.hid (Hr.out.below hB)
    have Ta := Lib.hid (Ta.out.below hB Ta.out.lt)
    have Tb := Lib.hid (Tb.out.below hB Tb.out.lt)
    have Tc := Lib.hid (Tc.out.below hB Tc.out.lt)
    have Tx := Lib.hid (Tx.out.below hB Tx.out.lt)
    have Ty := Lib.hid (Ty.out.below hB Ty.out.lt)
    have Tz := Lib.hid (Tz.out.below hB Tz.out.lt)
    have Ts := Lib.hid (Ts.out.below hB Ts.out.lt)
    have Tt := Lib.hid (Tt.out.below hB Tt.out.lt)
    have Tp := Lib.hid (Tp.out.below hB Tp.out.lt)
    have Tr := Lib.hid (Tr.out.below hB Tr.out.lt)
    have HB := Lib.hid (HB.out.trans (hB.mono HB.out.size))
    have HG := Lib.hid hR
    have HE := Lib.hid hE
    clear hw hgG hgE hR hE hB
    clear Hs Ht Hp Hr Ts Tt Tp Tr Hx Hy Hz Tx Ty Tz
    have hB : Below w25.heap.size w25 w25.drew := ⟨rfl, rfl, rfl, Nat.le_refl _, fun _ _ => rfl⟩
    have Ha := Lib.hid (Ha.out.below (Nat.le_refl _) hB)
    have Hb := Lib.hid (Hb.out.below (Nat.le_refl _) hB)
    have Hc := Lib.hid (Hc.out.below (Nat.le_refl _) hB)
    have HG := Lib.hid (HG.out.below hB)
    have HE := Lib.hid (HE.out.below hB)
    have Ta := Lib.hid (Ta.out.below hB Ta.out.lt)
    have Tb := Lib.hid (Tb.out.below hB Tb.out.lt)
    have Tc := Lib.hid (Tc.out.below hB Tc.out.lt)
    have HB := Lib.hid (HB.out.trans (hB.mono HB.out.size))
    clear hB
    go_region_held3 (fun w' => w'.cell? ⟨b_a, 0, none⟩ = some (.bool s_a) ∧ w'.cell? ⟨b_a, 1, none⟩ = some (.slice a_a n_a c_a) ∧ w'.cell? ⟨b_b, 0, none⟩ = some (.bool s_b) ∧ w'.cell? ⟨b_b, 1, none⟩ = some (.slice a_b n_b c_b) ∧ w'.cell? ⟨b_c, 0, none⟩ = some (.bool s_c) ∧ w'.cell? ⟨b_c, 1, none⟩ = some (.slice a_c n_c c_c))
      (first | (exact ⟨Ta.out.cell0, Ta.out.cell1, Tb.out.cell0, Tb.out.cell1, Tc.out.cell0, Tc.out.cell1⟩) | go_keep)
      (first
        | (go_at_call 29; (with_reducible refine (radd_any _ _ _ _ w25.drew Ha.out Hb.out (Nat.le_trans HAl.out (by omega)) (Nat.le_trans (t4_len _ (by omega)) (by omega))).mono ?_); rintro e w26 ⟨⟨vd, rfl, hd⟩, hB⟩; have Ha := Lib.hid (Ha.out.below (Nat.le_refl _) hB); have Hb := Lib.hid (Hb.out.below (Nat.le_refl _) hB); have Hc := Lib.hid (Hc.out.below (Nat.le_refl _) hB); have HG := Lib.hid (HG.out.below hB); have HE := Lib.hid (HE.out.below hB); have Ta := Lib.hid (Ta.out.below hB Ta.out.lt); have Tb := Lib.hid (Tb.out.below hB Tb.out.lt); have Tc := Lib.hid (Tc.out.below hB Tc.out.lt); have HB := Lib.hid (HB.out.trans (hB.mono HB.out.size)); have Hd := Lib.hid hd; obtain ⟨s_d, a_d, n_d, c_d, rfl⟩ := hd.form2; clear hB hd)
        | (go_at_call 34; (with_reducible refine (rsub_any _ _ _ _ w26 Ha.out Hb.out (Nat.le_trans HAl.out (by omega)) (Nat.le_trans (t4_len _ (by omega)) (by omega))).mono ?_); rintro e w27 ⟨⟨ve, rfl, he⟩, hB⟩; have Ha := Lib.hid (Ha.out.below (Nat.le_refl _) hB); have Hb := Lib.hid (Hb.out.below (Nat.le_refl _) hB); have Hc := Lib.hid (Hc.out.below (Nat.le_refl _) hB); have HG := Lib.hid (HG.out.below hB); have HE := Lib.hid (HE.out.below hB); have Hd := Lib.hid (Hd.out.below (Nat.le_refl _) hB); have Ta := Lib.hid (Ta.out.below hB Ta.out.lt); have Tb := Lib.hid (Tb.out.below hB Tb.out.lt); have Tc := Lib.hid (Tc.out.below hB Tc.out.lt); have HB := Lib.hid (HB.out.trans (hB.mono HB.out.size)); have He := Lib.hid he; obtain ⟨s_e, a_e, n_e, c_e, rfl⟩ := he.form2; clear hB he)
        | (go_at_call 28; (with_reducible refine (rmul_any _ _ _ _ w27 Ha.out Hb.out (Nat.le_trans HAl.out (by omega)) (Nat.le_trans (t4_len _ (by omega)) (by omega))).mono ?_); rintro e w28 ⟨⟨vf, rfl, hf⟩, hB⟩; have Ha := Lib.hid (Ha.out.below (Nat.le_refl _) hB); have Hb := Lib.hid (Hb.out.below (Nat.le_refl _) hB); have Hc := Lib.hid (Hc.out.below (Nat.le_refl _) hB); have HG := Lib.hid (HG.out.below hB); have HE := Lib.hid (HE.out.below hB); have Hd := Lib.hid (Hd.out.below (Nat.le_refl _) hB); have He := Lib.hid (He.out.below (Nat.le_refl _) hB); have Ta := Lib.hid (Ta.out.below hB Ta.out.lt); have Tb := Lib.hid (Tb.out.below hB Tb.out.lt); have Tc := Lib.hid (Tc.out.below hB Tc.out.lt); have HB := Lib.hid (HB.out.trans (hB.mono HB.out.size)); have Hf := Lib.hid hf; obtain ⟨s_f, a_f, n_f, c_f, rfl⟩ := hf.form2; clear hB hf)
        | (go_at_call 28; (with_reducible refine (rmul_any _ _ _ _ w28 Hc.out Hc.out (Nat.le_trans (lim_len4 _ HCl.out) (by omega)) (Nat.le_trans (lim_len4 _ HCl.out) (by omega))).mono ?_); rintro e w29 ⟨⟨vh, rfl, hh⟩, hB⟩; have Ha := Lib.hid (Ha.out.below (Nat.le_refl _) hB); have Hb := Lib.hid (Hb.out.below (Nat.le_refl _) hB); have Hc := Lib.hid (Hc.out.below (Nat.le_refl _) hB); have HG := Lib.hid (HG.out.below hB); have HE := Lib.hid (HE.out.below hB); have Hd := Lib.hid (Hd.out.below (Nat.le_refl _) hB); have He := Lib.hid (He.out.below (Nat.le_refl _) hB); have Hf := Lib.hid (Hf.out.below (Nat.le_refl _) hB); have Ta := Lib.hid (Ta.out.below hB Ta.out.lt); have Tb := Lib.hid (Tb.out.below hB Tb.out.lt); have Tc := Lib.hid (Tc.out.below hB Tc.out.lt); have HB := Lib.hid (HB.out.trans (hB.mono HB.out.size)); have Hh := Lib.hid hh; obtain ⟨s_h, a_h, n_h, c_h, rfl⟩ := hh.form2; clear hB hh))
    have hR := NRow.four 25 Hd.out He.out Hf.out Hh.out
    obtain ⟨w30, hw⟩ : ∃ w', w29.alloc (.cells #[.bool s_d, .slice a_d n_d c_d, .bool s_e, .slice a_e n_e c_e, .bool s_f, .slice a_f n_f c_f, .bool s_h, .slice a_h n_h c_h] 25) = w' := ⟨_, rfl⟩
    have hB : Below w29.heap.size w29 w30 := by rw [← hw]; exact (Below.refl _ _).alloc (Nat.le_refl _) _
    obtain ⟨g_N, hg_N⟩ : ∃ b, w29.heap.size = b := ⟨_, rfl⟩
    rw [hw, hg_N] at hR
    have Ha := Lib.hid (Ha.out.below (Nat.le_refl _) hB)
    have Hb := Lib.hid (Hb.out.below (Nat.le_refl _) hB)
    have Hc := Lib.hid (Hc.out.below (Nat.le_refl _) hB)
    have HG := Lib.hid (HG.out.below hB)
    have HE := Lib.hid (HE.out.below hB)
    have Hd := Lib.hid (Hd.out.below (Nat.le_refl _) hB)
    have He := Lib.hid (He.out.below (Nat.le_refl _) hB)
    have Hf := Lib.hid (Hf.out.below (Nat.le_refl _) hB)
    have Hh := Lib.hid (Hh.out.below (Nat.le_refl _) hB)
    have Ta := Lib.hid (Ta.out.below hB Ta.out.lt)
    have Tb := Lib.hid (Tb.out.below hB Tb.out.lt)
    have Tc := Lib.hid (Tc.out.below hB Tc.out.lt)
    have HB := Lib.hid (HB.out.trans (hB.mono HB.out.size))
    have HN := Lib.hid hR
    clear hR hB
    go_wp2_with fail
    try rw [hg_N]
    try rw [hw]
    clear hw hg_N
    clear Hd He Hf Hh Ha Hb Hc Ta Tb Tc
    have HZl : Hid (∀ z ∈ [za + bz, za - bz, za * bz, zc * zc], (digs T4 z.natAbs).length ≤ 1048576) := Lib.hid (lim_list za bz zc HA8.out hbz HCl.out)
    have HGm : Hid (WRow w30 gG ([za + bz, za - bz, za * bz, zc * zc].map lz)) := HG
    have HEm : Hid (IRow w30 gE ([za + bz, za - bz, za * bz, zc * zc].map lk)) := HE
    clear HG HE
    generalize lk (za + bz) = k1 at *
    generalize lk (za - bz) = k2 at *
    generalize lk (za * bz) = k3 at *
    generalize lk (zc * zc) = k4 at *
    obtain ⟨Z, hZ⟩ : ∃ Z, [za + bz, za - bz, za * bz, zc * zc] = Z := ⟨_, rfl⟩
    have hZn : Z.length = 4 := by rw [← hZ]; rfl
    rw [hZ] at HZl HGm HEm HN
    have HG := HGm
    have HE := HEm
    clear hZ HGm HEm
    go_loopw [29] (fun i wr => ∃ (j : Nat), j ≤ 4 ∧ i = .int .i64 j ∧ Hid (Below w30.heap.size w30 wr)) (fun i _ => 4 - (intOf i).toNat)
    case atStart => exact ⟨0, by omega, rfl, Lib.hid (Below.refl _ _)⟩
    case round =>
      obtain ⟨j, hj, rfl, hBl⟩ := hrel
      obtain ⟨w31, rfl⟩ : ∃ w' : World, w' = wr := ⟨_, rfl⟩
      have HBl := hBl
      have hB := hBl.out
      clear hBl
      have HG := Lib.hid (HG.out.below hB)
      have HE := Lib.hid (HE.out.below hB)
      have HN := Lib.hid (HN.out.below hB)
      have HB := Lib.hid (HB.out.trans (hB.mono HB.out.size))
      clear hB
      by_cases hlt : j < 4
      · skip
        have hjz : j < Z.length := by omega
        have hjg : j < (Z.map lz).length := by rw [List.length_map]; omega
        have hje : j < (Z.map lk).length := by rw [List.length_map]; omega
        obtain ⟨zj, hzj⟩ : ∃ z, Z[j] = z := ⟨_, rfl⟩
        have HLj : Hid ((digs T4 zj.natAbs).length ≤ 1048576) := Lib.hid (HZl.out zj (by rw [← hzj]; exact List.getElem_mem _))
        obtain ⟨s_v, a_v, n_v, c_v, hr⟩ := HN.out.at_ j hjz
        rw [hzj] at hr
        have Hv := Lib.hid hr
        clear hr
        obtain ⟨s_u, a_u, n_u, c_u, hu⟩ := HG.out.at_ j hjg
        rw [List.getElem_map, hzj] at hu
        have Hu := Lib.hid hu
        clear hu
        have HEj := HE.out.2 j hje
        rw [List.getElem_map, hzj] at HEj
        have HC := Lib.hid (show CAt _ gE j (lk zj) from ⟨HE.out.1, HEj⟩)
        clear HEj hzj
        have hj0 : (0 : Int) ≤ (j : Int) := by omega
        have hj1 : (j : Int) < 4 := by omega
        have d0v_31 := Hv.out.c0
        have d1v_31 := Hv.out.c1
        go_wp2_with fail
        clear d0v_31 d1v_31
        refine (fits_any _ zj w31 Hv.out.r HLj.out).mono ?_
        rintro e w32 ⟨rfl, hB⟩
        have Hv := Lib.hid (Hv.out.below hB)
        have Hu := Lib.hid (Hu.out.below hB)
        have HC := Lib.hid (HC.out.below hB)
        have HB := Lib.hid (HB.out.trans (hB.mono HB.out.size))
        have HBl := Lib.hid (HBl.out.trans (hB.mono HBl.out.size))
        clear hB 
        by_cases hf2 : zj.natAbs < LIM
        · skip
          have e1 : lk zj = 0 := by unfold lk; rw [if_pos hf2]
          have e2 : lz zj = zj := by unfold lz; rw [if_pos hf2]
          rw [decide_eq_true hf2]
          rw [e1] at HC
          rw [e2] at Hu
          have Hf2 := Lib.hid hf2
          clear e1 e2 hf2
          go_wp2_with fail
          have hB : Below w32.heap.size w32 w32.drew := ⟨rfl, rfl, rfl, Nat.le_refl _, fun _ _ => rfl⟩
          have Hv := Lib.hid (Hv.out.below hB)
          have Hu := Lib.hid (Hu.out.below hB)
          have HC := Lib.hid (HC.out.below hB)
          have HB := Lib.hid (HB.out.trans (hB.mono HB.out.size))
          have HBl := Lib.hid (HBl.out.trans (hB.mono HBl.out.size))
          clear hB
          refine startK 99 (fun w' => w'.cell? ⟨gE, j, none⟩ = some (.int .i64 0) ∧ w'.cell? ⟨gG, j * 2, none⟩ = some (.bool s_u) ∧ w'.cell? ⟨gG, j * 2 + 1, none⟩ = some (.slice a_u n_u c_u) ∧ w'.cell? ⟨g_N, j * 2, none⟩ = some (.bool s_v) ∧ w'.cell? ⟨g_N, j * 2 + 1, none⟩ = some (.slice a_v n_v c_v)) (by kernel_rfl) (⟨HC.out.c, Hu.out.c0, Hu.out.c1, Hv.out.c0, Hv.out.c1⟩) (fun hHeld => ?_)
          refine takeK 0 138 (v := ?_) rfl rfl (by kernel_rfl) (by kernel_rfl) (by kernel_rfl) (by kernel_rfl) (fun _ _ _ h => h) (by rfl) ?_ (by assumption) ?_
          rotate_left
          · (intro w hSw; go_simp; first | done | with_reducible rfl)
          simp only [List.setIfInBounds_toArray, List.set_cons_zero, List.set_cons_succ]
          refine takeK 1 139 (v := ?_) rfl rfl (by kernel_rfl) (by kernel_rfl) (by kernel_rfl) (by kernel_rfl) (fun _ _ _ h => h) (by rfl) ?_ (by assumption) ?_
          rotate_left
          · (intro w hSw; go_simp; first | done | with_reducible rfl)
          simp only [List.setIfInBounds_toArray, List.set_cons_zero, List.set_cons_succ]
          refine takeK 2 140 (v := ?_) rfl rfl (by kernel_rfl) (by kernel_rfl) (by kernel_rfl) (by kernel_rfl) (fun _ _ _ h => h) (by rfl) ?_ (by assumption) ?_
          rotate_left
          · (intro w hSw; go_simp; first | done | with_reducible rfl)
          simp only [List.setIfInBounds_toArray, List.set_cons_zero, List.set_cons_succ]
          refine takeK 3 141 (v := ?_) rfl rfl (by kernel_rfl) (by kernel_rfl) (by kernel_rfl) (by kernel_rfl) (fun _ _ _ h => h) (by rfl) ?_ (by assumption) ?_
          rotate_left
          · (intro w hSw; go_simp; first | done | with_reducible rfl)
          simp only [List.setIfInBounds_toArray, List.set_cons_zero, List.set_cons_succ]
          refine takeK 4 142 (v := ?_) rfl rfl (by kernel_rfl) (by kernel_rfl) (by kernel_rfl) (by kernel_rfl) (fun _ _ _ h => h) (by rfl) ?_ (by assumption) ?_
          rotate_left
          · (intro w hSw; go_simp; first | done | with_reducible rfl)
          simp only [List.setIfInBounds_toArray, List.set_cons_zero, List.set_cons_succ]
          refine takeK 5 143 (v := ?_) rfl rfl (by kernel_rfl) (by kernel_rfl) (by kernel_rfl) (by kernel_rfl) (fun _ _ _ h => h) (by rfl) ?_ (by assumption) ?_
          rotate_left
          · (intro w hSw; go_simp; first | done | with_reducible rfl)
          simp only [List.setIfInBounds_toArray, List.set_cons_zero, List.set_cons_succ]
          refine takeK 6 144 (v := ?_) rfl rfl (by kernel_rfl) (by kernel_rfl) (by kernel_rfl) (by kernel_rfl) (fun _ _ _ h => h) (by rfl) ?_ (by assumption) ?_
          rotate_left
          · (intro w hSw; go_simp; first | done | with_reducible rfl)
          simp only [List.setIfInBounds_toArray, List.set_cons_zero, List.set_cons_succ]
          refine takeK 7 145 (v := ?_) rfl rfl (by kernel_rfl) (by kernel_rfl) (by kernel_rfl) (by kernel_rfl) (fun _ _ _ h => h) (by rfl) ?_ (by assumption) ?_
          rotate_left
          · (intro w hSw; go_simp; first | done | with_reducible rfl)
          simp only [List.setIfInBounds_toArray, List.set_cons_zero, List.set_cons_succ]
          refine takeK 8 146 (v := ?_) rfl rfl (by kernel_rfl) (by kernel_rfl) (by kernel_rfl) (by kernel_rfl) (fun _ _ _ h => h) (by rfl) ?_ (by assumption) ?_
          rotate_left
          · (intro w hSw; go_simp; first | done | with_reducible rfl)
          simp only [List.setIfInBounds_toArray, List.set_cons_zero, List.set_cons_succ]
          refine takeK 9 147 (v := ?_) rfl rfl (by kernel_rfl) (by kernel_rfl) (by kernel_rfl) (by kernel_rfl) (fun _ _ _ h => h) (by rfl) ?_ (by assumption) ?_
          rotate_left
          · (intro w hSw; go_simp; first | done | with_reducible rfl)
          simp only [List.setIfInBounds_toArray, List.set_cons_zero, List.set_cons_succ]
          refine takeK 10 148 (v := ?_) rfl rfl (by kernel_rfl) (by kernel_rfl) (by kernel_rfl) (by kernel_rfl) (fun _ _ _ h => h) (by rfl) ?_ (by assumption) ?_
          rotate_left
          · (intro w hSw; go_simp; first | done | with_reducible rfl)
          simp only [List.setIfInBounds_toArray, List.set_cons_zero, List.set_cons_succ]
          refine skipK 11 149 rfl rfl (by kernel_rfl) (by kernel_rfl) (by kernel_rfl) (by kernel_rfl) (fun _ _ _ h => h) (by rfl) (by assumption) ?_
          simp only [List.setIfInBounds_toArray, List.set_cons_zero, List.set_cons_succ]
          refine skipK 12 150 rfl rfl (by kernel_rfl) (by kernel_rfl) (by kernel_rfl) (by kernel_rfl) (fun _ _ _ h => h) (by rfl) (by assumption) ?_
          simp only [List.setIfInBounds_toArray, List.set_cons_zero, List.set_cons_succ]
          refine skipK 13 151 rfl rfl (by kernel_rfl) (by kernel_rfl) (by kernel_rfl) (by kernel_rfl) (fun _ _ _ h => h) (by rfl) (by assumption) ?_
          simp only [List.setIfInBounds_toArray, List.set_cons_zero, List.set_cons_succ]
          refine skipK 14 152 rfl rfl (by kernel_rfl) (by kernel_rfl) (by kernel_rfl) (by kernel_rfl) (fun _ _ _ h => h) (by rfl) (by assumption) ?_
          simp only [List.setIfInBounds_toArray, List.set_cons_zero, List.set_cons_succ]
          refine skipK 15 153 rfl rfl (by kernel_rfl) (by kernel_rfl) (by kernel_rfl) (by kernel_rfl) (fun _ _ _ h => h) (by rfl) (by assumption) ?_
          simp only [List.setIfInBounds_toArray, List.set_cons_zero, List.set_cons_succ]
          refine skipK 16 154 rfl rfl (by kernel_rfl) (by kernel_rfl) (by kernel_rfl) (by kernel_rfl) (fun _ _ _ h => h) (by rfl) (by assumption) ?_
          simp only [List.setIfInBounds_toArray, List.set_cons_zero, List.set_cons_succ]
          refine skipK 17 155 rfl rfl (by kernel_rfl) (by kernel_rfl) (by kernel_rfl) (by kernel_rfl) (fun _ _ _ h => h) (by rfl) (by assumption) ?_
          simp only [List.setIfInBounds_toArray, List.set_cons_zero, List.set_cons_succ]
          refine skipK 18 156 rfl rfl (by kernel_rfl) (by kernel_rfl) (by kernel_rfl) (by kernel_rfl) (fun _ _ _ h => h) (by rfl) (by assumption) ?_
          simp only [List.setIfInBounds_toArray, List.set_cons_zero, List.set_cons_succ]
          refine skipK 19 157 rfl rfl (by kernel_rfl) (by kernel_rfl) (by kernel_rfl) (by kernel_rfl) (fun _ _ _ h => h) (by rfl) (by assumption) ?_
          simp only [List.setIfInBounds_toArray, List.set_cons_zero, List.set_cons_succ]
          refine skipK 20 158 rfl rfl (by kernel_rfl) (by kernel_rfl) (by kernel_rfl) (by kernel_rfl) (fun _ _ _ h => h) (by rfl) (by assumption) ?_
          simp only [List.setIfInBounds_toArray, List.set_cons_zero, List.set_cons_succ]
          refine skipK 21 159 rfl rfl (by kernel_rfl) (by kernel_rfl) (by kernel_rfl) (by kernel_rfl) (fun _ _ _ h => h) (by rfl) (by assumption) ?_
          simp only [List.setIfInBounds_toArray, List.set_cons_zero, List.set_cons_succ]
          refine skipK 22 160 rfl rfl (by kernel_rfl) (by kernel_rfl) (by kernel_rfl) (by kernel_rfl) (fun _ _ _ h => h) (by rfl) (by assumption) ?_
          simp only [List.setIfInBounds_toArray, List.set_cons_zero, List.set_cons_succ]
          refine skipK 23 161 rfl rfl (by kernel_rfl) (by kernel_rfl) (by kernel_rfl) (by kernel_rfl) (fun _ _ _ h => h) (by rfl) (by assumption) ?_
          simp only [List.setIfInBounds_toArray, List.set_cons_zero, List.set_cons_succ]
          refine takeK 24 162 (v := ?_) rfl rfl (by kernel_rfl) (by kernel_rfl) (by kernel_rfl) (by kernel_rfl) (fun _ _ _ h => h) (by rfl) ?_ (by assumption) ?_
          rotate_left
          · (intro w hSw; go_simp; first | done | with_reducible rfl)
          simp only [List.setIfInBounds_toArray, List.set_cons_zero, List.set_cons_succ]
          refine takeK 25 163 (v := ?_) rfl rfl (by kernel_rfl) (by kernel_rfl) (by kernel_rfl) (by kernel_rfl) (fun _ _ _ h => h) (by rfl) ?_ (by assumption) ?_
          rotate_left
          · (intro w hSw; go_simp; first | done | with_reducible rfl)
          simp only [List.setIfInBounds_toArray, List.set_cons_zero, List.set_cons_succ]
          refine takeK 26 164 (v := ?_) rfl rfl (by kernel_rfl) (by kernel_rfl) (by kernel_rfl) (by kernel_rfl) (fun _ _ _ h => h) (by rfl) ?_ (by assumption) ?_
          rotate_left
          · (intro w hSw; go_simp; first | done | with_reducible rfl)
          simp only [List.setIfInBounds_toArray, List.set_cons_zero, List.set_cons_succ]
          refine takeK 27 165 (v := ?_) rfl rfl (by kernel_rfl) (by kernel_rfl) (by kernel_rfl) (by kernel_rfl) (fun _ _ _ h => h) (by rfl) ?_ (by assumption) ?_
          rotate_left
          · (intro w hSw; go_simp; first | done | with_reducible rfl)
          simp only [List.setIfInBounds_toArray, List.set_cons_zero, List.set_cons_succ]
          refine takeK 28 166 (v := ?_) rfl rfl (by kernel_rfl) (by kernel_rfl) (by kernel_rfl) (by kernel_rfl) (fun _ _ _ h => h) (by rfl) ?_ (by assumption) ?_
          rotate_left
          · (intro w hSw; go_simp; first | done | with_reducible rfl)
          simp only [List.setIfInBounds_toArray, List.set_cons_zero, List.set_cons_succ]
          refine takeK 29 167 (v := ?_) rfl rfl (by kernel_rfl) (by kernel_rfl) (by kernel_rfl) (by kernel_rfl) (fun _ _ _ h => h) (by rfl) ?_ (by assumption) ?_
          rotate_left
          · (intro w hSw; go_simp; first | done | with_reducible rfl)
          simp only [List.setIfInBounds_toArray, List.set_cons_zero, List.set_cons_succ]
          refine takeK 30 168 (v := ?_) rfl rfl (by kernel_rfl) (by kernel_rfl) (by kernel_rfl) (by kernel_rfl) (fun _ _ _ h => h) (by rfl) ?_ (by assumption) ?_
          rotate_left
          · (intro w hSw; go_simp; first | done | with_reducible rfl)
          simp only [List.setIfInBounds_toArray, List.set_cons_zero, List.set_cons_succ]
          refine takeK 31 169 (v := ?_) rfl rfl (by kernel_rfl) (by kernel_rfl) (by kernel_rfl) (by kernel_rfl) (fun _ _ _ h => h) (by rfl) ?_ (by assumption) ?_
          rotate_left
          · (intro w hSw; go_simp; first | done | with_reducible rfl)
          simp only [List.setIfInBounds_toArray, List.set_cons_zero, List.set_cons_succ]
          refine takeK 32 170 (v := ?_) rfl rfl (by kernel_rfl) (by kernel_rfl) (by kernel_rfl) (by kernel_rfl) (fun _ _ _ h => h) (by rfl) ?_ (by assumption) ?_
          rotate_left
          · (intro w hSw; go_simp; first | done | with_reducible rfl)
          simp only [List.setIfInBounds_toArray, List.set_cons_zero, List.set_cons_succ]
          refine takeK 33 171 (v := ?_) rfl rfl (by kernel_rfl) (by kernel_rfl) (by kernel_rfl) (by kernel_rfl) (fun _ _ _ h => h) (by rfl) ?_ (by assumption) ?_
          rotate_left
          · (intro w hSw; go_simp; first | done | with_reducible rfl)
          simp only [List.setIfInBounds_toArray, List.set_cons_zero, List.set_cons_succ]
          refine takeK 34 172 (v := ?_) rfl rfl (by kernel_rfl) (by kernel_rfl) (by kernel_rfl) (by kernel_rfl) (fun _ _ _ h => h) (by rfl) ?_ (by assumption) ?_
          rotate_left
          · (intro w hSw; go_simp; first | done | with_reducible rfl)
          simp only [List.setIfInBounds_toArray, List.set_cons_zero, List.set_cons_succ]
          refine takeK 35 173 (v := ?_) rfl rfl (by kernel_rfl) (by kernel_rfl) (by kernel_rfl) (by kernel_rfl) (fun _ _ _ h => h) (by rfl) ?_ (by assumption) ?_
          rotate_left
          · (intro w hSw; go_simp; first | done | with_reducible rfl)
          simp only [List.setIfInBounds_toArray, List.set_cons_zero, List.set_cons_succ]
          refine takeK 36 174 (v := ?_) rfl rfl (by kernel_rfl) (by kernel_rfl) (by kernel_rfl) (by kernel_rfl) (fun _ _ _ h => h) (by rfl) ?_ (by assumption) ?_
          rotate_left
          · (intro w hSw; go_simp; first | done | with_reducible rfl)
          simp only [List.setIfInBounds_toArray, List.set_cons_zero, List.set_cons_succ]
          refine stepK 37 (by kernel_rfl) rfl (fun K hK => ?_)
          go_simp
          refine (equal_any _ _ _ w32.drew Hu.out.r Hv.out.r Hf2.out (HP.out.below HB.out hg)).mono ?_
          rintro e w33 ⟨rfl, hB⟩
          have Hv := Lib.hid (Hv.out.below hB)
          have Hu := Lib.hid (Hu.out.below hB)
          have HC := Lib.hid (HC.out.below hB)
          have HB := Lib.hid (HB.out.trans (hB.mono HB.out.size))
          have HBl := Lib.hid (HBl.out.trans (hB.mono HBl.out.size))
          clear hB
          go_wp2_with fail
          refine hK.out _ _ (⟨HC.out.c, Hu.out.c0, Hu.out.c1, Hv.out.c0, Hv.out.c1⟩) (fun hHeld => ?_)
          clear hK K
          try simp only [Act.put, List.setIfInBounds_toArray, List.set_cons_zero, List.set_cons_succ]
          refine takeK 38 176 (v := ?_) rfl rfl (by kernel_rfl) (by kernel_rfl) (by kernel_rfl) (by kernel_rfl) (fun _ _ _ h => h) (by rfl) ?_ (by assumption) ?_
          rotate_left
          · (intro w hSw; go_simp; first | done | with_reducible rfl)
          simp only [List.setIfInBounds_toArray, List.set_cons_zero, List.set_cons_succ]
          refine takeK 39 177 (v := ?_) rfl rfl (by kernel_rfl) (by kernel_rfl) (by kernel_rfl) (by kernel_rfl) (fun _ _ _ h => h) (by rfl) ?_ (by assumption) ?_
          rotate_left
          · (intro w hSw; go_simp; first | done | with_reducible rfl)
          simp only [List.setIfInBounds_toArray, List.set_cons_zero, List.set_cons_succ]
          refine takeK 40 178 (v := ?_) rfl rfl (by kernel_rfl) (by kernel_rfl) (by kernel_rfl) (by kernel_rfl) (fun _ _ _ h => h) (by rfl) ?_ (by assumption) ?_
          rotate_left
          · (intro w hSw; go_simp; first | done | with_reducible rfl)
          simp only [List.setIfInBounds_toArray, List.set_cons_zero, List.set_cons_succ]
          refine doneK (by kernel_rfl) ?_ _
          clear hHeld
          go_wp2_with fail
          go_roundw
          case rel => exact ⟨j + 1, by omega, by go_num, HBl⟩
          case measure => simp [intOf]; omega
        · skip
          have e1 : lk zj = 4 := by unfold lk; rw [if_neg hf2]
          have e2 : lz zj = 0 := by unfold lz; rw [if_neg hf2]
          rw [decide_eq_false hf2]
          rw [e1] at HC
          rw [e2] at Hu
          clear e1 e2 hf2
          go_wp2_with fail
          have hB : Below w32.heap.size w32 w32.drew := ⟨rfl, rfl, rfl, Nat.le_refl _, fun _ _ => rfl⟩
          have Hv := Lib.hid (Hv.out.below hB)
          have Hu := Lib.hid (Hu.out.below hB)
          have HC := Lib.hid (HC.out.below hB)
          have HB := Lib.hid (HB.out.trans (hB.mono HB.out.size))
          have HBl := Lib.hid (HBl.out.trans (hB.mono HBl.out.size))
          clear hB
          refine startK 99 (fun w' => w'.cell? ⟨gE, j, none⟩ = some (.int .i64 4) ∧ w'.cell? ⟨gG, j * 2, none⟩ = some (.bool s_u) ∧ w'.cell? ⟨gG, j * 2 + 1, none⟩ = some (.slice a_u n_u c_u) ∧ w'.cell? ⟨g_N, j * 2, none⟩ = some (.bool s_v) ∧ w'.cell? ⟨g_N, j * 2 + 1, none⟩ = some (.slice a_v n_v c_v)) (by kernel_rfl) (⟨HC.out.c, Hu.out.c0, Hu.out.c1, Hv.out.c0, Hv.out.c1⟩) (fun hHeld => ?_)
          refine takeK 0 138 (v := ?_) rfl rfl (by kernel_rfl) (by kernel_rfl) (by kernel_rfl) (by kernel_rfl) (fun _ _ _ h => h) (by rfl) ?_ (by assumption) ?_
          rotate_left
          · (intro w hSw; go_simp; first | done | with_reducible rfl)
          simp only [List.setIfInBounds_toArray, List.set_cons_zero, List.set_cons_succ]
          refine takeK 1 139 (v := ?_) rfl rfl (by kernel_rfl) (by kernel_rfl) (by kernel_rfl) (by kernel_rfl) (fun _ _ _ h => h) (by rfl) ?_ (by assumption) ?_
          rotate_left
          · (intro w hSw; go_simp; first | done | with_reducible rfl)
          simp only [List.setIfInBounds_toArray, List.set_cons_zero, List.set_cons_succ]
          refine takeK 2 140 (v := ?_) rfl rfl (by kernel_rfl) (by kernel_rfl) (by kernel_rfl) (by kernel_rfl) (fun _ _ _ h => h) (by rfl) ?_ (by assumption) ?_
          rotate_left
          · (intro w hSw; go_simp; first | done | with_reducible rfl)
          simp only [List.setIfInBounds_toArray, List.set_cons_zero, List.set_cons_succ]
          refine takeK 3 141 (v := ?_) rfl rfl (by kernel_rfl) (by kernel_rfl) (by kernel_rfl) (by kernel_rfl) (fun _ _ _ h => h) (by rfl) ?_ (by assumption) ?_
          rotate_left
          · (intro w hSw; go_simp; first | done | with_reducible rfl)
          simp only [List.setIfInBounds_toArray, List.set_cons_zero, List.set_cons_succ]
          refine takeK 4 142 (v := ?_) rfl rfl (by kernel_rfl) (by kernel_rfl) (by kernel_rfl) (by kernel_rfl) (fun _ _ _ h => h) (by rfl) ?_ (by assumption) ?_
          rotate_left
          · (intro w hSw; go_simp; first | done | with_reducible rfl)
          simp only [List.setIfInBounds_toArray, List.set_cons_zero, List.set_cons_succ]
          refine takeK 5 143 (v := ?_) rfl rfl (by kernel_rfl) (by kernel_rfl) (by kernel_rfl) (by kernel_rfl) (fun _ _ _ h => h) (by rfl) ?_ (by assumption) ?_
          rotate_left
          · (intro w hSw; go_simp; first | done | with_reducible rfl)
          simp only [List.setIfInBounds_toArray, List.set_cons_zero, List.set_cons_succ]
          refine takeK 6 144 (v := ?_) rfl rfl (by kernel_rfl) (by kernel_rfl) (by kernel_rfl) (by kernel_rfl) (fun _ _ _ h => h) (by rfl) ?_ (by assumption) ?_
          rotate_left
          · (intro w hSw; go_simp; first | done | with_reducible rfl)
          simp only [List.setIfInBounds_toArray, List.set_cons_zero, List.set_cons_succ]
          refine takeK 7 145 (v := ?_) rfl rfl (by kernel_rfl) (by kernel_rfl) (by kernel_rfl) (by kernel_rfl) (fun _ _ _ h => h) (by rfl) ?_ (by assumption) ?_
          rotate_left
          · (intro w hSw; go_simp; first | done | with_reducible rfl)
          simp only [List.setIfInBounds_toArray, List.set_cons_zero, List.set_cons_succ]
          refine takeK 8 146 (v := ?_) rfl rfl (by kernel_rfl) (by kernel_rfl) (by kernel_rfl) (by kernel_rfl) (fun _ _ _ h => h) (by rfl) ?_ (by assumption) ?_
          rotate_left
          · (intro w hSw; go_simp; first | done | with_reducible rfl)
          simp only [List.setIfInBounds_toArray, List.set_cons_zero, List.set_cons_succ]
          refine takeK 9 147 (v := ?_) rfl rfl (by kernel_rfl) (by kernel_rfl) (by kernel_rfl) (by kernel_rfl) (fun _ _ _ h => h) (by rfl) ?_ (by assumption) ?_
          rotate_left
          · (intro w hSw; go_simp; first | done | with_reducible rfl)
          simp only [List.setIfInBounds_toArray, List.set_cons_zero, List.set_cons_succ]
          refine takeK 10 148 (v := ?_) rfl rfl (by kernel_rfl) (by kernel_rfl) (by kernel_rfl) (by kernel_rfl) (fun _ _ _ h => h) (by rfl) ?_ (by assumption) ?_
          rotate_left
          · (intro w hSw; go_simp; first | done | with_reducible rfl)
          simp only [List.setIfInBounds_toArray, List.set_cons_zero, List.set_cons_succ]
          refine takeK 11 149 (v := ?_) rfl rfl (by kernel_rfl) (by kernel_rfl) (by kernel_rfl) (by kernel_rfl) (fun _ _ _ h => h) (by rfl) ?_ (by assumption) ?_
          rotate_left
          · (intro w hSw; go_simp; first | done | with_reducible rfl)
          simp only [List.setIfInBounds_toArray, List.set_cons_zero, List.set_cons_succ]
          refine takeK 12 150 (v := ?_) rfl rfl (by kernel_rfl) (by kernel_rfl) (by kernel_rfl) (by kernel_rfl) (fun _ _ _ h => h) (by rfl) ?_ (by assumption) ?_
          rotate_left
          · (intro w hSw; go_simp; first | done | with_reducible rfl)
          simp only [List.setIfInBounds_toArray, List.set_cons_zero, List.set_cons_succ]
          refine takeK 13 151 (v := ?_) rfl rfl (by kernel_rfl) (by kernel_rfl) (by kernel_rfl) (by kernel_rfl) (fun _ _ _ h => h) (by rfl) ?_ (by assumption) ?_
          rotate_left
          · (intro w hSw; go_simp; first | done | with_reducible rfl)
          simp only [List.setIfInBounds_toArray, List.set_cons_zero, List.set_cons_succ]
          refine takeK 14 152 (v := ?_) rfl rfl (by kernel_rfl) (by kernel_rfl) (by kernel_rfl) (by kernel_rfl) (fun _ _ _ h => h) (by rfl) ?_ (by assumption) ?_
          rotate_left
          · (intro w hSw; go_simp; first | done | with_reducible rfl)
          simp only [List.setIfInBounds_toArray, List.set_cons_zero, List.set_cons_succ]
          refine takeK 15 153 (v := ?_) rfl rfl (by kernel_rfl) (by kernel_rfl) (by kernel_rfl) (by kernel_rfl) (fun _ _ _ h => h) (by rfl) ?_ (by assumption) ?_
          rotate_left
          · (intro w hSw; go_simp; first | done | with_reducible rfl)
          simp only [List.setIfInBounds_toArray, List.set_cons_zero, List.set_cons_succ]
          refine takeK 16 154 (v := ?_) rfl rfl (by kernel_rfl) (by kernel_rfl) (by kernel_rfl) (by kernel_rfl) (fun _ _ _ h => h) (by rfl) ?_ (by assumption) ?_
          rotate_left
          · (intro w hSw; go_simp; first | done | with_reducible rfl)
          simp only [List.setIfInBounds_toArray, List.set_cons_zero, List.set_cons_succ]
          refine takeK 17 155 (v := ?_) rfl rfl (by kernel_rfl) (by kernel_rfl) (by kernel_rfl) (by kernel_rfl) (fun _ _ _ h => h) (by rfl) ?_ (by assumption) ?_
          rotate_left
          · (intro w hSw; go_simp; first | done | with_reducible rfl)
          simp only [List.setIfInBounds_toArray, List.set_cons_zero, List.set_cons_succ]
          refine takeK 18 156 (v := ?_) rfl rfl (by kernel_rfl) (by kernel_rfl) (by kernel_rfl) (by kernel_rfl) (fun _ _ _ h => h) (by rfl) ?_ (by assumption) ?_
          rotate_left
          · (intro w hSw; go_simp; first | done | with_reducible rfl)
          simp only [List.setIfInBounds_toArray, List.set_cons_zero, List.set_cons_succ]
          refine takeK 19 157 (v := ?_) rfl rfl (by kernel_rfl) (by kernel_rfl) (by kernel_rfl) (by kernel_rfl) (fun _ _ _ h => h) (by rfl) ?_ (by assumption) ?_
          rotate_left
          · (intro w hSw; go_simp; first | done | with_reducible rfl)
          simp only [List.setIfInBounds_toArray, List.set_cons_zero, List.set_cons_succ]
          refine takeK 20 158 (v := ?_) rfl rfl (by kernel_rfl) (by kernel_rfl) (by kernel_rfl) (by kernel_rfl) (fun _ _ _ h => h) (by rfl) ?_ (by assumption) ?_
          rotate_left
          · (intro w hSw; go_simp; first | done | with_reducible rfl)
          simp only [List.setIfInBounds_toArray, List.set_cons_zero, List.set_cons_succ]
          refine stepK 21 (by kernel_rfl) rfl (fun K hK => ?_)
          go_simp
          refine (sign_any _ 0 w32.drew Hu.out.r zero_lim).mono ?_
          rintro e w33 ⟨rfl, hB⟩
          have Hv := Lib.hid (Hv.out.below hB)
          have Hu := Lib.hid (Hu.out.below hB)
          have HC := Lib.hid (HC.out.below hB)
          have HB := Lib.hid (HB.out.trans (hB.mono HB.out.size))
          have HBl := Lib.hid (HBl.out.trans (hB.mono HBl.out.size))
          clear hB
          rw [show cmp3 0 0 = 0 from rfl]
          go_wp2_with fail
          refine hK.out _ _ (⟨HC.out.c, Hu.out.c0, Hu.out.c1, Hv.out.c0, Hv.out.c1⟩) (fun hHeld => ?_)
          clear hK K
          try simp only [Act.put, List.setIfInBounds_toArray, List.set_cons_zero, List.set_cons_succ]
          refine takeK 22 160 (v := ?_) rfl rfl (by kernel_rfl) (by kernel_rfl) (by kernel_rfl) (by kernel_rfl) (fun _ _ _ h => h) (by rfl) ?_ (by assumption) ?_
          rotate_left
          · (intro w hSw; go_simp; first | done | with_reducible rfl)
          simp only [List.setIfInBounds_toArray, List.set_cons_zero, List.set_cons_succ]
          refine takeK 23 161 (v := ?_) rfl rfl (by kernel_rfl) (by kernel_rfl) (by kernel_rfl) (by kernel_rfl) (fun _ _ _ h => h) (by rfl) ?_ (by assumption) ?_
          rotate_left
          · (intro w hSw; go_simp; first | done | with_reducible rfl)
          simp only [List.setIfInBounds_toArray, List.set_cons_zero, List.set_cons_succ]
          refine takeK 24 162 (v := ?_) rfl rfl (by kernel_rfl) (by kernel_rfl) (by kernel_rfl) (by kernel_rfl) (fun _ _ _ h => h) (by rfl) ?_ (by assumption) ?_
          rotate_left
          · (intro w hSw; go_simp; first | done | with_reducible rfl)
          simp only [List.setIfInBounds_toArray, List.set_cons_zero, List.set_cons_succ]
          refine takeK 25 163 (v := ?_) rfl rfl (by kernel_rfl) (by kernel_rfl) (by kernel_rfl) (by kernel_rfl) (fun _ _ _ h => h) (by rfl) ?_ (by assumption) ?_
          rotate_left
          · (intro w hSw; go_simp; first | done | with_reducible rfl)
          simp only [List.setIfInBounds_toArray, List.set_cons_zero, List.set_cons_succ]
          refine takeK 26 164 (v := ?_) rfl rfl (by kernel_rfl) (by kernel_rfl) (by kernel_rfl) (by kernel_rfl) (fun _ _ _ h => h) (by rfl) ?_ (by assumption) ?_
          rotate_left
          · (intro w hSw; go_simp; first | done | with_reducible rfl)
          simp only [List.setIfInBounds_toArray, List.set_cons_zero, List.set_cons_succ]
          refine takeK 27 165 (v := ?_) rfl rfl (by kernel_rfl) (by kernel_rfl) (by kernel_rfl) (by kernel_rfl) (fun _ _ _ h => h) (by rfl) ?_ (by assumption) ?_
          rotate_left
          · (intro w hSw; go_simp; first | done | with_reducible rfl)
          simp only [List.setIfInBounds_toArray, List.set_cons_zero, List.set_cons_succ]
          refine takeK 28 166 (v := ?_) rfl rfl (by kernel_rfl) (by kernel_rfl) (by kernel_rfl) (by kernel_rfl) (fun _ _ _ h => h) (by rfl) ?_ (by assumption) ?_
          rotate_left
          · (intro w hSw; go_simp; first | done | with_reducible rfl)
          simp only [List.setIfInBounds_toArray, List.set_cons_zero, List.set_cons_succ]
          refine skipK 29 167 rfl rfl (by kernel_rfl) (by kernel_rfl) (by kernel_rfl) (by kernel_rfl) (fun _ _ _ h => h) (by rfl) (by assumption) ?_
          simp only [List.setIfInBounds_toArray, List.set_cons_zero, List.set_cons_succ]
          refine skipK 30 168 rfl rfl (by kernel_rfl) (by kernel_rfl) (by kernel_rfl) (by kernel_rfl) (fun _ _ _ h => h) (by rfl) (by assumption) ?_
          simp only [List.setIfInBounds_toArray, List.set_cons_zero, List.set_cons_succ]
          refine skipK 31 169 rfl rfl (by kernel_rfl) (by kernel_rfl) (by kernel_rfl) (by kernel_rfl) (fun _ _ _ h => h) (by rfl) (by assumption) ?_
          simp only [List.setIfInBounds_toArray, List.set_cons_zero, List.set_cons_succ]
          refine skipK 32 170 rfl rfl (by kernel_rfl) (by kernel_rfl) (by kernel_rfl) (by kernel_rfl) (fun _ _ _ h => h) (by rfl) (by assumption) ?_
          simp only [List.setIfInBounds_toArray, List.set_cons_zero, List.set_cons_succ]
          refine skipK 33 171 rfl rfl (by kernel_rfl) (by kernel_rfl) (by kernel_rfl) (by kernel_rfl) (fun _ _ _ h => h) (by rfl) (by assumption) ?_
          simp only [List.setIfInBounds_toArray, List.set_cons_zero, List.set_cons_succ]
          refine skipK 34 172 rfl rfl (by kernel_rfl) (by kernel_rfl) (by kernel_rfl) (by kernel_rfl) (fun _ _ _ h => h) (by rfl) (by assumption) ?_
          simp only [List.setIfInBounds_toArray, List.set_cons_zero, List.set_cons_succ]
          refine skipK 35 173 rfl rfl (by kernel_rfl) (by kernel_rfl) (by kernel_rfl) (by kernel_rfl) (fun _ _ _ h => h) (by rfl) (by assumption) ?_
          simp only [List.setIfInBounds_toArray, List.set_cons_zero, List.set_cons_succ]
          refine skipK 36 174 rfl rfl (by kernel_rfl) (by kernel_rfl) (by kernel_rfl) (by kernel_rfl) (fun _ _ _ h => h) (by rfl) (by assumption) ?_
          simp only [List.setIfInBounds_toArray, List.set_cons_zero, List.set_cons_succ]
          refine skipK 37 175 rfl rfl (by kernel_rfl) (by kernel_rfl) (by kernel_rfl) (by kernel_rfl) (fun _ _ _ h => h) (by rfl) (by assumption) ?_
          simp only [List.setIfInBounds_toArray, List.set_cons_zero, List.set_cons_succ]
          refine skipK 38 176 rfl rfl (by kernel_rfl) (by kernel_rfl) (by kernel_rfl) (by kernel_rfl) (fun _ _ _ h => h) (by rfl) (by assumption) ?_
          simp only [List.setIfInBounds_toArray, List.set_cons_zero, List.set_cons_succ]
          refine takeK 39 177 (v := ?_) rfl rfl (by kernel_rfl) (by kernel_rfl) (by kernel_rfl) (by kernel_rfl) (fun _ _ _ h => h) (by rfl) ?_ (by assumption) ?_
          rotate_left
          · (intro w hSw; go_simp; first | done | with_reducible rfl)
          simp only [List.setIfInBounds_toArray, List.set_cons_zero, List.set_cons_succ]
          refine takeK 40 178 (v := ?_) rfl rfl (by kernel_rfl) (by kernel_rfl) (by kernel_rfl) (by kernel_rfl) (fun _ _ _ h => h) (by rfl) ?_ (by assumption) ?_
          rotate_left
          · (intro w hSw; go_simp; first | done | with_reducible rfl)
          simp only [List.setIfInBounds_toArray, List.set_cons_zero, List.set_cons_succ]
          refine doneK (by kernel_rfl) ?_ _
          clear hHeld
          go_wp2_with fail
          go_roundw
          case rel => exact ⟨j + 1, by omega, by go_num, HBl⟩
          case measure => simp [intOf]; omega
      · skip
        have hge : 4 ≤ j := by omega
        go_wp2_with fail
        refine (lives_any w31 (HP.out.below HB.out hg)).mono ?_
        rintro e w32 ⟨rfl, hB⟩
        have HG := Lib.hid (HG.out.below hB)
        have HE := Lib.hid (HE.out.below hB)
        have HN := Lib.hid (HN.out.below hB)
        have HB := Lib.hid (HB.out.trans (hB.mono HB.out.size))
        clear hB 
        go_wp2
        go_ret
        exact ⟨rfl, HB.out⟩
  · skip
    rw [if_neg hfit] at Hpa
    refine (parse_any U w7 (by omega)).mono ?_
    rintro e w8 ⟨hB, he⟩
    rw [Hpa.out] at he
    obtain rfl := he
    obtain ⟨vx, hvx⟩ : ∃ v, (Value.agg #[.bool false, .slice none 0 0]) = v := ⟨_, rfl⟩
    have hx : WInt w8 vx 0 := by rw [← hvx]; exact wint_zero _
    rw [hvx]
    clear hvx
    have Ha := Lib.hid (Ha.out.below (Nat.le_refl _) hB)
    have Hb := Lib.hid (Hb.out.below (Nat.le_refl _) hB)
    have Hc := Lib.hid (Hc.out.below (Nat.le_refl _) hB)
    have Ta := Lib.hid (Ta.out.below hB Ta.out.lt)
    have Tb := Lib.hid (Tb.out.below hB Tb.out.lt)
    have Tc := Lib.hid (Tc.out.below hB Tc.out.lt)
    have HB := Lib.hid (HB.out.trans (hB.mono HB.out.size))
    have Hx := Lib.hid hx
    obtain ⟨s_x, a_x, n_x, c_x, rfl⟩ := hx.form2
    clear hB hx
    obtain ⟨w9, hw⟩ : ∃ w', (w8.alloc (.cells #[.bool s_x, .slice a_x n_x c_x] 33)) = w' := ⟨_, rfl⟩
    have hB : Below w8.heap.size w8 w9 := by rw [← hw]; exact (Below.refl _ _).alloc (Nat.le_refl _) _
    obtain ⟨b_x, hb_x⟩ : ∃ b, w8.heap.size = b := ⟨_, rfl⟩
    have Tx' : Hid (Two w9 b_x 33 (.bool s_x) (.slice a_x n_x c_x)) := Lib.hid (by rw [← hw, ← hb_x]; have h9 := (Two.new w8 33 (.bool s_x) (.slice a_x n_x c_x)); exact h9)
    have Ha := Lib.hid (Ha.out.below (Nat.le_refl _) hB)
    have Hb := Lib.hid (Hb.out.below (Nat.le_refl _) hB)
    have Hc := Lib.hid (Hc.out.below (Nat.le_refl _) hB)
    have Hx := Lib.hid (Hx.out.below hB)
    have Ta := Lib.hid (Ta.out.below hB Ta.out.lt)
    have Tb := Lib.hid (Tb.out.below hB Tb.out.lt)
    have Tc := Lib.hid (Tc.out.below hB Tc.out.lt)
    have HB := Lib.hid (HB.out.trans (hB.mono HB.out.size))
    have Tx := Tx'
    clear hB Tx'
    have d0a_9 := Ta.out.cell0
    have d1a_9 := Ta.out.cell1
    go_wp2_with fail
    clear hw hb_x d0a_9 d1a_9
    refine (rtext_any _ za w9 Ha.out (Nat.le_trans HAl.out (by omega))).mono ?_
    rintro e w10 ⟨rfl, hB⟩
    rw [HU.out]
    have Ha := Lib.hid (Ha.out.below (Nat.le_refl _) hB)
    have Hb := Lib.hid (Hb.out.below (Nat.le_refl _) hB)
    have Hc := Lib.hid (Hc.out.below (Nat.le_refl _) hB)
    have Hx := Lib.hid (Hx.out.below hB)
    have Ta := Lib.hid (Ta.out.below hB Ta.out.lt)
    have Tb := Lib.hid (Tb.out.below hB Tb.out.lt)
    have Tc := Lib.hid (Tc.out.below hB Tc.out.lt)
    have Tx := Lib.hid (Tx.out.below hB Tx.out.lt)
    have HB := Lib.hid (HB.out.trans (hB.mono HB.out.size))
    clear hB 
    go_wp2_with fail
    refine (rparse_any U w10 (by omega)).mono ?_
    rintro e w11 ⟨hB, he⟩
    rw [Hpa.out] at he
    obtain rfl := he
    obtain ⟨vk, hvk⟩ : ∃ v, (Value.agg #[.bool false, .slice none 0 0]) = v := ⟨_, rfl⟩
    have hk : RInt w11 vk 0 := by rw [← hvk]; exact rint_zero _
    rw [hvk]
    clear hvk
    have Ha := Lib.hid (Ha.out.below (Nat.le_refl _) hB)
    have Hb := Lib.hid (Hb.out.below (Nat.le_refl _) hB)
    have Hc := Lib.hid (Hc.out.below (Nat.le_refl _) hB)
    have Hx := Lib.hid (Hx.out.below hB)
    have Ta := Lib.hid (Ta.out.below hB Ta.out.lt)
    have Tb := Lib.hid (Tb.out.below hB Tb.out.lt)
    have Tc := Lib.hid (Tc.out.below hB Tc.out.lt)
    have Tx := Lib.hid (Tx.out.below hB Tx.out.lt)
    have HB := Lib.hid (HB.out.trans (hB.mono HB.out.size))
    have Hk := Lib.hid hk
    obtain ⟨s_k, a_k, n_k, c_k, rfl⟩ := hk.form2
    clear hB hk
    obtain ⟨w12, hw⟩ : ∃ w', (w11.alloc (.cells #[.bool s_k, .slice a_k n_k c_k] 25)) = w' := ⟨_, rfl⟩
    have hB : Below w11.heap.size w11 w12 := by rw [← hw]; exact (Below.refl _ _).alloc (Nat.le_refl _) _
    obtain ⟨b_k, hb_k⟩ : ∃ b, w11.heap.size = b := ⟨_, rfl⟩
    have Tk' : Hid (Two w12 b_k 25 (.bool s_k) (.slice a_k n_k c_k)) := Lib.hid (by rw [← hw, ← hb_k]; have h9 := (Two.new w11 25 (.bool s_k) (.slice a_k n_k c_k)); exact h9)
    have Ha := Lib.hid (Ha.out.below (Nat.le_refl _) hB)
    have Hb := Lib.hid (Hb.out.below (Nat.le_refl _) hB)
    have Hc := Lib.hid (Hc.out.below (Nat.le_refl _) hB)
    have Hx := Lib.hid (Hx.out.below hB)
    have Hk := Lib.hid (Hk.out.below (Nat.le_refl _) hB)
    have Ta := Lib.hid (Ta.out.below hB Ta.out.lt)
    have Tb := Lib.hid (Tb.out.below hB Tb.out.lt)
    have Tc := Lib.hid (Tc.out.below hB Tc.out.lt)
    have Tx := Lib.hid (Tx.out.below hB Tx.out.lt)
    have HB := Lib.hid (HB.out.trans (hB.mono HB.out.size))
    have Tk := Tk'
    clear hB Tk'
    have d0b_12 := Tb.out.cell0
    have d1b_12 := Tb.out.cell1
    go_wp2_with fail
    clear hw hb_k d0b_12 d1b_12
    clear Hk Tk
    refine (wider_any _ _ w12 Hb.out (bz_lim bz hbz)).mono ?_
    rintro e w13 ⟨⟨vy, rfl, hy⟩, hB⟩
    have Ha := Lib.hid (Ha.out.below (Nat.le_refl _) hB)
    have Hb := Lib.hid (Hb.out.below (Nat.le_refl _) hB)
    have Hc := Lib.hid (Hc.out.below (Nat.le_refl _) hB)
    have Hx := Lib.hid (Hx.out.below hB)
    have Ta := Lib.hid (Ta.out.below hB Ta.out.lt)
    have Tb := Lib.hid (Tb.out.below hB Tb.out.lt)
    have Tc := Lib.hid (Tc.out.below hB Tc.out.lt)
    have Tx := Lib.hid (Tx.out.below hB Tx.out.lt)
    have HB := Lib.hid (HB.out.trans (hB.mono HB.out.size))
    have Hy := Lib.hid hy
    obtain ⟨s_y, a_y, n_y, c_y, rfl⟩ := hy.form2
    clear hB hy
    obtain ⟨w14, hw⟩ : ∃ w', (w13.alloc (.cells #[.bool s_y, .slice a_y n_y c_y] 33)) = w' := ⟨_, rfl⟩
    have hB : Below w13.heap.size w13 w14 := by rw [← hw]; exact (Below.refl _ _).alloc (Nat.le_refl _) _
    obtain ⟨b_y, hb_y⟩ : ∃ b, w13.heap.size = b := ⟨_, rfl⟩
    have Ty' : Hid (Two w14 b_y 33 (.bool s_y) (.slice a_y n_y c_y)) := Lib.hid (by rw [← hw, ← hb_y]; have h9 := (Two.new w13 33 (.bool s_y) (.slice a_y n_y c_y)); exact h9)
    have Ha := Lib.hid (Ha.out.below (Nat.le_refl _) hB)
    have Hb := Lib.hid (Hb.out.below (Nat.le_refl _) hB)
    have Hc := Lib.hid (Hc.out.below (Nat.le_refl _) hB)
    have Hx := Lib.hid (Hx.out.below hB)
    have Hy := Lib.hid (Hy.out.below hB)
    have Ta := Lib.hid (Ta.out.below hB Ta.out.lt)
    have Tb := Lib.hid (Tb.out.below hB Tb.out.lt)
    have Tc := Lib.hid (Tc.out.below hB Tc.out.lt)
    have Tx := Lib.hid (Tx.out.below hB Tx.out.lt)
    have HB := Lib.hid (HB.out.trans (hB.mono HB.out.size))
    have Ty := Ty'
    clear hB Ty'
    have d0c_14 := Tc.out.cell0
    have d1c_14 := Tc.out.cell1
    go_wp2_with fail
    clear hw hb_y d0c_14 d1c_14
    refine (wider_any _ _ w14 Hc.out HCl.out).mono ?_
    rintro e w15 ⟨⟨vz, rfl, hz⟩, hB⟩
    have Ha := Lib.hid (Ha.out.below (Nat.le_refl _) hB)
    have Hb := Lib.hid (Hb.out.below (Nat.le_refl _) hB)
    have Hc := Lib.hid (Hc.out.below (Nat.le_refl _) hB)
    have Hx := Lib.hid (Hx.out.below hB)
    have Hy := Lib.hid (Hy.out.below hB)
    have Ta := Lib.hid (Ta.out.below hB Ta.out.lt)
    have Tb := Lib.hid (Tb.out.below hB Tb.out.lt)
    have Tc := Lib.hid (Tc.out.below hB Tc.out.lt)
    have Tx := Lib.hid (Tx.out.below hB Tx.out.lt)
    have Ty := Lib.hid (Ty.out.below hB Ty.out.lt)
    have HB := Lib.hid (HB.out.trans (hB.mono HB.out.size))
    have Hz := Lib.hid hz
    obtain ⟨s_z, a_z, n_z, c_z, rfl⟩ := hz.form2
    clear hB hz
    obtain ⟨w16, hw⟩ : ∃ w', (w15.alloc (.cells #[.bool s_z, .slice a_z n_z c_z] 33)) = w' := ⟨_, rfl⟩
    have hB : Below w15.heap.size w15 w16 := by rw [← hw]; exact (Below.refl _ _).alloc (Nat.le_refl _) _
    obtain ⟨b_z, hb_z⟩ : ∃ b, w15.heap.size = b := ⟨_, rfl⟩
    have Tz' : Hid (Two w16 b_z 33 (.bool s_z) (.slice a_z n_z c_z)) := Lib.hid (by rw [← hw, ← hb_z]; have h9 := (Two.new w15 33 (.bool s_z) (.slice a_z n_z c_z)); exact h9)
    have Ha := Lib.hid (Ha.out.below (Nat.le_refl _) hB)
    have Hb := Lib.hid (Hb.out.below (Nat.le_refl _) hB)
    have Hc := Lib.hid (Hc.out.below (Nat.le_refl _) hB)
    have Hx := Lib.hid (Hx.out.below hB)
    have Hy := Lib.hid (Hy.out.below hB)
    have Hz := Lib.hid (Hz.out.below hB)
    have Ta := Lib.hid (Ta.out.below hB Ta.out.lt)
    have Tb := Lib.hid (Tb.out.below hB Tb.out.lt)
    have Tc := Lib.hid (Tc.out.below hB Tc.out.lt)
    have Tx := Lib.hid (Tx.out.below hB Tx.out.lt)
    have Ty := Lib.hid (Ty.out.below hB Ty.out.lt)
    have HB := Lib.hid (HB.out.trans (hB.mono HB.out.size))
    have Tz := Tz'
    clear hB Tz'
    have d0x_16 := Tx.out.cell0
    have d1x_16 := Tx.out.cell1
    go_wp2_with fail
    clear hw hb_z d0x_16 d1x_16
    refine (equal_any _ _ _ w16 Hx.out (rint_zero _) zero_lim (HP.out.below HB.out hg)).mono ?_
    rintro e w17 ⟨rfl, hB⟩
    have Ha := Lib.hid (Ha.out.below (Nat.le_refl _) hB)
    have Hb := Lib.hid (Hb.out.below (Nat.le_refl _) hB)
    have Hc := Lib.hid (Hc.out.below (Nat.le_refl _) hB)
    have Hx := Lib.hid (Hx.out.below hB)
    have Hy := Lib.hid (Hy.out.below hB)
    have Hz := Lib.hid (Hz.out.below hB)
    have Ta := Lib.hid (Ta.out.below hB Ta.out.lt)
    have Tb := Lib.hid (Tb.out.below hB Tb.out.lt)
    have Tc := Lib.hid (Tc.out.below hB Tc.out.lt)
    have Tx := Lib.hid (Tx.out.below hB Tx.out.lt)
    have Ty := Lib.hid (Ty.out.below hB Ty.out.lt)
    have Tz := Lib.hid (Tz.out.below hB Tz.out.lt)
    have HB := Lib.hid (HB.out.trans (hB.mono HB.out.size))
    clear hB 
    go_wp2_with fail
    refine (lives_any w17 (HP.out.below HB.out hg)).mono ?_
    rintro e w18 ⟨rfl, hB⟩
    have Ha := Lib.hid (Ha.out.below (Nat.le_refl _) hB)
    have Hb := Lib.hid (Hb.out.below (Nat.le_refl _) hB)
    have Hc := Lib.hid (Hc.out.below (Nat.le_refl _) hB)
    have Hx := Lib.hid (Hx.out.below hB)
    have Hy := Lib.hid (Hy.out.below hB)
    have Hz := Lib.hid (Hz.out.below hB)
    have Ta := Lib.hid (Ta.out.below hB Ta.out.lt)
    have Tb := Lib.hid (Tb.out.below hB Tb.out.lt)
    have Tc := Lib.hid (Tc.out.below hB Tc.out.lt)
    have Tx := Lib.hid (Tx.out.below hB Tx.out.lt)
    have Ty := Lib.hid (Ty.out.below hB Ty.out.lt)
    have Tz := Lib.hid (Tz.out.below hB Tz.out.lt)
    have HB := Lib.hid (HB.out.trans (hB.mono HB.out.size))
    clear hB 
    go_wp2
    go_ret
    exact ⟨rfl, HB.out⟩

end Go.Proofs.YtgfgjnkndfgdiaaDoor
