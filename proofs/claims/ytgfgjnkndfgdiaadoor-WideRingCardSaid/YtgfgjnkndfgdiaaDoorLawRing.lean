/- the law WideRing: its walk. -/
import Derived.Test.YtgfgjnkndfgdiaaDoorWQuo
set_option linter.unusedVariables false
set_option linter.unusedSimpArgs false
namespace Go.Proofs.YtgfgjnkndfgdiaaDoor
open Go.RowKit

theorem lt_add {x y : Int} {a : Nat} (hx : x.natAbs < 2 ^ a) (hy : y.natAbs < 2 ^ a) : (x + y).natAbs < 2 ^ (a + 1) := by
  rw [Nat.pow_succ]
  omega
theorem lt_mul {x y : Int} {a b : Nat} (hx : x.natAbs < 2 ^ a) (hy : y.natAbs < 2 ^ b) : (x * y).natAbs < 2 ^ (a + b) := by
  rw [Int.natAbs_mul, Nat.pow_add]
  exact Nat.mul_lt_mul'' hx hy

structure RingLims (S B C A : Int) : Prop where
  x : A.natAbs < LIM
  y : B.natAbs < LIM
  z : C.natAbs < LIM
  a : S.natAbs < LIM
  c : (S * C).natAbs < LIM
  d : (A * C).natAbs < LIM
  i : (C * B).natAbs < LIM
  c2 : ∃ K, K ≤ 16000 ∧ 230 ≤ K ∧ (S * C).natAbs < 2 ^ K
  y2 : B.natAbs < 2 ^ 230

theorem ring_lims (A B C : Int) (hA : A.natAbs < 2 ^ 230) (hB : B.natAbs < 2 ^ 230) (hC : C.natAbs < 2 ^ 230) : RingLims (A + B) B C A :=
  ⟨lim_of_le (k := 230) (by decide) hA, lim_of_le (k := 230) (by decide) hB, lim_of_le (k := 230) (by decide) hC, lim_of_le (k := 230 + 1) (by decide) (lt_add hA hB), lim_of_le (k := 230 + 1 + 230) (by decide) (lt_mul (lt_add hA hB) hC), lim_of_le (k := 230 + 230) (by decide) (lt_mul hA hC), lim_of_le (k := 230 + 230) (by decide) (lt_mul hC hB), ⟨230 + 1 + 230, by decide, by decide, lt_mul (lt_add hA hB) hC⟩, hB⟩

structure QuoLims (B q0 : Int) (r0 : Nat) : Prop where
  q : q0.natAbs < LIM
  p : (q0 * B).natAbs < LIM
  r : (r0 : Int).natAbs < LIM

theorem ring_quo (S B C T q : Int) (r : Nat) {A : Int} (hT : S * C = T) (h : RingLims S B C A) (h1 : q * B + (r : Int) = T) (h2 : r < B.natAbs) : QuoLims B q r := by
  obtain ⟨K, k1, k2, hc⟩ := h.c2
  have hy := h.y2
  rw [hT] at hc
  have hr : (r : Int).natAbs < 2 ^ K := by
    have h3 : 2 ^ 230 ≤ 2 ^ K := Nat.pow_le_pow_right (by decide) k2
    generalize 2 ^ K = M at *
    generalize 2 ^ 230 = L at *
    omega
  have hp : (q * B).natAbs < 2 ^ (K + 1) := by
    rw [show q * B = T + -(r : Int) by omega]
    exact lt_add hc (by rw [Int.natAbs_neg]; exact hr)
  have hq : q.natAbs ≤ (q * B).natAbs := by
    rw [Int.natAbs_mul]
    exact Nat.le_mul_of_pos_right _ (by omega)
  exact ⟨lim_of_le (k := K + 1) (by omega) (Nat.lt_of_le_of_lt hq hp), lim_of_le (k := K + 1) (by omega) hp, lim_of_le (k := K) (by omega) hr⟩

set_option maxRecDepth 100000 in
set_option maxHeartbeats 8000000 in
theorem wideRing_any (v : Value) (zs : List Int) (len : Nat) (w0 : World) (h : IntsAt w0 v zs len) (hT : Pow10 w0) :
    Calls Tryd.prog 11 #[v] w0 fun e w' => e = .returned (.bool true) ∧ Below w0.heap.size w0 w' := by
  have HI := Lib.hid h
  have HP := Lib.hid hT
  have hg := hT.lt
  have HB := Lib.hid (Below.refl w0.heap.size w0)
  obtain ⟨va, vl, vc, rfl, hv⟩ : ∃ va vl vc, v = .slice va vl vc ∧ vl ≤ 9223372036854775807 := by
    rcases h with ⟨a, cap, rfl, rfl, hcap⟩ | ⟨b, off, cap, rfl, _, h1, h2, _⟩
    · exact ⟨_, _, _, rfl, by omega⟩
    · exact ⟨_, _, _, rfl, by omega⟩
  clear h hT
  go_enter Tryd.func11, Tryd.ntmps11
  go_wp2_with fail
  refine (number_any _ zs len 0 w0 (HI.out.below (Nat.le_refl _) HB.out) (by omega)).mono ?_
  rintro e w1 ⟨⟨vp, rfl, hp⟩, hB⟩
  have HB := Lib.hid (HB.out.trans (hB.mono HB.out.size))
  have Hp := Lib.hid hp
  obtain ⟨s_p, a_p, n_p, c_p, rfl⟩ := hp.form2
  clear hB hp
  go_wp2_with fail
  refine (wider_any _ _ w1 Hp.out (numZ_lim zs len 0)).mono ?_
  rintro e w2 ⟨⟨vx, rfl, hx⟩, hB⟩
  have Hp := Lib.hid (Hp.out.below (Nat.le_refl _) hB)
  have HB := Lib.hid (HB.out.trans (hB.mono HB.out.size))
  have Hx := Lib.hid hx
  obtain ⟨s_x, a_x, n_x, c_x, rfl⟩ := hx.form2
  clear hB hx
  clear Hp
  obtain ⟨w3, hw⟩ : ∃ w', (w2.alloc (.cells #[.bool s_x, .slice a_x n_x c_x] 33)) = w' := ⟨_, rfl⟩
  have hB : Below w2.heap.size w2 w3 := by rw [← hw]; exact (Below.refl _ _).alloc (Nat.le_refl _) _
  obtain ⟨b_x, hb_x⟩ : ∃ b, w2.heap.size = b := ⟨_, rfl⟩
  have Tx' : Hid (Two w3 b_x 33 (.bool s_x) (.slice a_x n_x c_x)) := Lib.hid (by rw [← hw, ← hb_x]; have h9 := (Two.new w2 33 (.bool s_x) (.slice a_x n_x c_x)); exact h9)
  have Hx := Lib.hid (Hx.out.below hB)
  have HB := Lib.hid (HB.out.trans (hB.mono HB.out.size))
  have Tx := Tx'
  clear hB Tx'
  go_wp2_with fail
  clear hw hb_x
  refine (number_any _ zs len 6 w3 (HI.out.below (Nat.le_refl _) HB.out) (by omega)).mono ?_
  rintro e w4 ⟨⟨vq, rfl, hq⟩, hB⟩
  have Hx := Lib.hid (Hx.out.below hB)
  have Tx := Lib.hid (Tx.out.below hB Tx.out.lt)
  have HB := Lib.hid (HB.out.trans (hB.mono HB.out.size))
  have Hq := Lib.hid hq
  obtain ⟨s_q, a_q, n_q, c_q, rfl⟩ := hq.form2
  clear hB hq
  go_wp2_with fail
  refine (wider_any _ _ w4 Hq.out (numZ_lim zs len 6)).mono ?_
  rintro e w5 ⟨⟨vy, rfl, hy⟩, hB⟩
  have Hx := Lib.hid (Hx.out.below hB)
  have Hq := Lib.hid (Hq.out.below (Nat.le_refl _) hB)
  have Tx := Lib.hid (Tx.out.below hB Tx.out.lt)
  have HB := Lib.hid (HB.out.trans (hB.mono HB.out.size))
  have Hy := Lib.hid hy
  obtain ⟨s_y, a_y, n_y, c_y, rfl⟩ := hy.form2
  clear hB hy
  clear Hq
  obtain ⟨w6, hw⟩ : ∃ w', (w5.alloc (.cells #[.bool s_y, .slice a_y n_y c_y] 33)) = w' := ⟨_, rfl⟩
  have hB : Below w5.heap.size w5 w6 := by rw [← hw]; exact (Below.refl _ _).alloc (Nat.le_refl _) _
  obtain ⟨b_y, hb_y⟩ : ∃ b, w5.heap.size = b := ⟨_, rfl⟩
  have Ty' : Hid (Two w6 b_y 33 (.bool s_y) (.slice a_y n_y c_y)) := Lib.hid (by rw [← hw, ← hb_y]; have h9 := (Two.new w5 33 (.bool s_y) (.slice a_y n_y c_y)); exact h9)
  have Hx := Lib.hid (Hx.out.below hB)
  have Hy := Lib.hid (Hy.out.below hB)
  have Tx := Lib.hid (Tx.out.below hB Tx.out.lt)
  have HB := Lib.hid (HB.out.trans (hB.mono HB.out.size))
  have Ty := Ty'
  clear hB Ty'
  go_wp2_with fail
  clear hw hb_y
  refine (number_any _ zs len 12 w6 (HI.out.below (Nat.le_refl _) HB.out) (by omega)).mono ?_
  rintro e w7 ⟨⟨vr, rfl, hr⟩, hB⟩
  have Hx := Lib.hid (Hx.out.below hB)
  have Hy := Lib.hid (Hy.out.below hB)
  have Tx := Lib.hid (Tx.out.below hB Tx.out.lt)
  have Ty := Lib.hid (Ty.out.below hB Ty.out.lt)
  have HB := Lib.hid (HB.out.trans (hB.mono HB.out.size))
  have Hr := Lib.hid hr
  obtain ⟨s_r, a_r, n_r, c_r, rfl⟩ := hr.form2
  clear hB hr
  go_wp2_with fail
  refine (wider_any _ _ w7 Hr.out (numZ_lim zs len 12)).mono ?_
  rintro e w8 ⟨⟨vz, rfl, hz⟩, hB⟩
  have Hx := Lib.hid (Hx.out.below hB)
  have Hy := Lib.hid (Hy.out.below hB)
  have Hr := Lib.hid (Hr.out.below (Nat.le_refl _) hB)
  have Tx := Lib.hid (Tx.out.below hB Tx.out.lt)
  have Ty := Lib.hid (Ty.out.below hB Ty.out.lt)
  have HB := Lib.hid (HB.out.trans (hB.mono HB.out.size))
  have Hz := Lib.hid hz
  obtain ⟨s_z, a_z, n_z, c_z, rfl⟩ := hz.form2
  clear hB hz
  clear Hr
  obtain ⟨w9, hw⟩ : ∃ w', (w8.alloc (.cells #[.bool s_z, .slice a_z n_z c_z] 33)) = w' := ⟨_, rfl⟩
  have hB : Below w8.heap.size w8 w9 := by rw [← hw]; exact (Below.refl _ _).alloc (Nat.le_refl _) _
  obtain ⟨b_z, hb_z⟩ : ∃ b, w8.heap.size = b := ⟨_, rfl⟩
  have Tz' : Hid (Two w9 b_z 33 (.bool s_z) (.slice a_z n_z c_z)) := Lib.hid (by rw [← hw, ← hb_z]; have h9 := (Two.new w8 33 (.bool s_z) (.slice a_z n_z c_z)); exact h9)
  have Hx := Lib.hid (Hx.out.below hB)
  have Hy := Lib.hid (Hy.out.below hB)
  have Hz := Lib.hid (Hz.out.below hB)
  have Tx := Lib.hid (Tx.out.below hB Tx.out.lt)
  have Ty := Lib.hid (Ty.out.below hB Ty.out.lt)
  have HB := Lib.hid (HB.out.trans (hB.mono HB.out.size))
  have Tz := Tz'
  clear hB Tz'
  have d0x_9 := Tx.out.cell0
  have d1x_9 := Tx.out.cell1
  have d0y_9 := Ty.out.cell0
  have d1y_9 := Ty.out.cell1
  go_wp2_with fail
  clear hw hb_z d0x_9 d1x_9 d0y_9 d1y_9
  obtain ⟨A, hA⟩ : ∃ A, numZ zs len 0 = A := ⟨_, rfl⟩
  obtain ⟨B, hBB⟩ : ∃ B, numZ zs len 6 = B := ⟨_, rfl⟩
  obtain ⟨C, hC⟩ : ∃ C, numZ zs len 12 = C := ⟨_, rfl⟩
  have hr := ring_lims A B C (hA ▸ numZ_lt zs len 0) (hBB ▸ numZ_lt zs len 6) (hC ▸ numZ_lt zs len 12)
  have HR := Lib.hid hr
  rw [hA] at Hx
  rw [hBB] at Hy
  rw [hC] at Hz
  clear hA hBB hC hr
  refine (add_any _ _ _ _ w9 Hx.out Hy.out HR.out.x HR.out.y).mono ?_
  rintro e w10 hL
  obtain ⟨va, rfl, ha, hB⟩ := hL.okW HR.out.a
  have Hx := Lib.hid (Hx.out.below hB)
  have Hy := Lib.hid (Hy.out.below hB)
  have Hz := Lib.hid (Hz.out.below hB)
  have Tx := Lib.hid (Tx.out.below hB Tx.out.lt)
  have Ty := Lib.hid (Ty.out.below hB Ty.out.lt)
  have Tz := Lib.hid (Tz.out.below hB Tz.out.lt)
  have HB := Lib.hid (HB.out.trans (hB.mono HB.out.size))
  have Ha := Lib.hid ha
  obtain ⟨s_a, a_a, n_a, c_a, rfl⟩ := ha.form2
  clear hB ha
  obtain ⟨w11, hw⟩ : ∃ w', (w10.alloc (.cells #[.bool s_a, .slice a_a n_a c_a] 33)) = w' := ⟨_, rfl⟩
  have hB : Below w10.heap.size w10 w11 := by rw [← hw]; exact (Below.refl _ _).alloc (Nat.le_refl _) _
  obtain ⟨b_a, hb_a⟩ : ∃ b, w10.heap.size = b := ⟨_, rfl⟩
  have Ta' : Hid (Two w11 b_a 33 (.bool s_a) (.slice a_a n_a c_a)) := Lib.hid (by rw [← hw, ← hb_a]; have h9 := (Two.new w10 33 (.bool s_a) (.slice a_a n_a c_a)); exact h9)
  have Hx := Lib.hid (Hx.out.below hB)
  have Hy := Lib.hid (Hy.out.below hB)
  have Hz := Lib.hid (Hz.out.below hB)
  have Ha := Lib.hid (Ha.out.below hB)
  have Tx := Lib.hid (Tx.out.below hB Tx.out.lt)
  have Ty := Lib.hid (Ty.out.below hB Ty.out.lt)
  have Tz := Lib.hid (Tz.out.below hB Tz.out.lt)
  have HB := Lib.hid (HB.out.trans (hB.mono HB.out.size))
  have Ta := Ta'
  clear hB Ta'
  have d0x_11 := Tx.out.cell0
  have d1x_11 := Tx.out.cell1
  have d0y_11 := Ty.out.cell0
  have d1y_11 := Ty.out.cell1
  go_wp2_with fail
  clear hw hb_a d0x_11 d1x_11 d0y_11 d1y_11
  refine (add_any _ _ _ _ w11 Hy.out Hx.out HR.out.y HR.out.x).mono ?_
  rintro e w12 hL
  rw [Int.add_comm] at hL
  obtain ⟨vb, rfl, hb, hB⟩ := hL.okW HR.out.a
  have Hx := Lib.hid (Hx.out.below hB)
  have Hy := Lib.hid (Hy.out.below hB)
  have Hz := Lib.hid (Hz.out.below hB)
  have Ha := Lib.hid (Ha.out.below hB)
  have Tx := Lib.hid (Tx.out.below hB Tx.out.lt)
  have Ty := Lib.hid (Ty.out.below hB Ty.out.lt)
  have Tz := Lib.hid (Tz.out.below hB Tz.out.lt)
  have Ta := Lib.hid (Ta.out.below hB Ta.out.lt)
  have HB := Lib.hid (HB.out.trans (hB.mono HB.out.size))
  have Hb := Lib.hid hb
  obtain ⟨s_b, a_b, n_b, c_b, rfl⟩ := hb.form2
  clear hB hb
  obtain ⟨w13, hw⟩ : ∃ w', (w12.alloc (.cells #[.bool s_b, .slice a_b n_b c_b] 33)) = w' := ⟨_, rfl⟩
  have hB : Below w12.heap.size w12 w13 := by rw [← hw]; exact (Below.refl _ _).alloc (Nat.le_refl _) _
  obtain ⟨b_b, hb_b⟩ : ∃ b, w12.heap.size = b := ⟨_, rfl⟩
  have Tb' : Hid (Two w13 b_b 33 (.bool s_b) (.slice a_b n_b c_b)) := Lib.hid (by rw [← hw, ← hb_b]; have h9 := (Two.new w12 33 (.bool s_b) (.slice a_b n_b c_b)); exact h9)
  have Hx := Lib.hid (Hx.out.below hB)
  have Hy := Lib.hid (Hy.out.below hB)
  have Hz := Lib.hid (Hz.out.below hB)
  have Ha := Lib.hid (Ha.out.below hB)
  have Hb := Lib.hid (Hb.out.below hB)
  have Tx := Lib.hid (Tx.out.below hB Tx.out.lt)
  have Ty := Lib.hid (Ty.out.below hB Ty.out.lt)
  have Tz := Lib.hid (Tz.out.below hB Tz.out.lt)
  have Ta := Lib.hid (Ta.out.below hB Ta.out.lt)
  have HB := Lib.hid (HB.out.trans (hB.mono HB.out.size))
  have Tb := Tb'
  clear hB Tb'
  have d0a_13 := Ta.out.cell0
  have d1a_13 := Ta.out.cell1
  have d0z_13 := Tz.out.cell0
  have d1z_13 := Tz.out.cell1
  go_wp2_with fail
  clear hw hb_b d0a_13 d1a_13 d0z_13 d1z_13
  refine (mul_any _ _ _ _ w13 Ha.out Hz.out HR.out.a HR.out.z).mono ?_
  rintro e w14 hL
  obtain ⟨vc, rfl, hc, hB⟩ := hL.okW HR.out.c
  have Hx := Lib.hid (Hx.out.below hB)
  have Hy := Lib.hid (Hy.out.below hB)
  have Hz := Lib.hid (Hz.out.below hB)
  have Ha := Lib.hid (Ha.out.below hB)
  have Hb := Lib.hid (Hb.out.below hB)
  have Tx := Lib.hid (Tx.out.below hB Tx.out.lt)
  have Ty := Lib.hid (Ty.out.below hB Ty.out.lt)
  have Tz := Lib.hid (Tz.out.below hB Tz.out.lt)
  have Ta := Lib.hid (Ta.out.below hB Ta.out.lt)
  have Tb := Lib.hid (Tb.out.below hB Tb.out.lt)
  have HB := Lib.hid (HB.out.trans (hB.mono HB.out.size))
  have Hc := Lib.hid hc
  obtain ⟨s_c, a_c, n_c, c_c, rfl⟩ := hc.form2
  clear hB hc
  obtain ⟨w15, hw⟩ : ∃ w', (w14.alloc (.cells #[.bool s_c, .slice a_c n_c c_c] 33)) = w' := ⟨_, rfl⟩
  have hB : Below w14.heap.size w14 w15 := by rw [← hw]; exact (Below.refl _ _).alloc (Nat.le_refl _) _
  obtain ⟨b_c, hb_c⟩ : ∃ b, w14.heap.size = b := ⟨_, rfl⟩
  have Tc' : Hid (Two w15 b_c 33 (.bool s_c) (.slice a_c n_c c_c)) := Lib.hid (by rw [← hw, ← hb_c]; have h9 := (Two.new w14 33 (.bool s_c) (.slice a_c n_c c_c)); exact h9)
  have Hx := Lib.hid (Hx.out.below hB)
  have Hy := Lib.hid (Hy.out.below hB)
  have Hz := Lib.hid (Hz.out.below hB)
  have Ha := Lib.hid (Ha.out.below hB)
  have Hb := Lib.hid (Hb.out.below hB)
  have Hc := Lib.hid (Hc.out.below hB)
  have Tx := Lib.hid (Tx.out.below hB Tx.out.lt)
  have Ty := Lib.hid (Ty.out.below hB Ty.out.lt)
  have Tz := Lib.hid (Tz.out.below hB Tz.out.lt)
  have Ta := Lib.hid (Ta.out.below hB Ta.out.lt)
  have Tb := Lib.hid (Tb.out.below hB Tb.out.lt)
  have HB := Lib.hid (HB.out.trans (hB.mono HB.out.size))
  have Tc := Tc'
  clear hB Tc'
  have d0x_15 := Tx.out.cell0
  have d1x_15 := Tx.out.cell1
  have d0z_15 := Tz.out.cell0
  have d1z_15 := Tz.out.cell1
  go_wp2_with fail
  clear hw hb_c d0x_15 d1x_15 d0z_15 d1z_15
  refine (mul_any _ _ _ _ w15 Hx.out Hz.out HR.out.x HR.out.z).mono ?_
  rintro e w16 hL
  obtain ⟨vd, rfl, hd, hB⟩ := hL.okW HR.out.d
  have Hx := Lib.hid (Hx.out.below hB)
  have Hy := Lib.hid (Hy.out.below hB)
  have Hz := Lib.hid (Hz.out.below hB)
  have Ha := Lib.hid (Ha.out.below hB)
  have Hb := Lib.hid (Hb.out.below hB)
  have Hc := Lib.hid (Hc.out.below hB)
  have Tx := Lib.hid (Tx.out.below hB Tx.out.lt)
  have Ty := Lib.hid (Ty.out.below hB Ty.out.lt)
  have Tz := Lib.hid (Tz.out.below hB Tz.out.lt)
  have Ta := Lib.hid (Ta.out.below hB Ta.out.lt)
  have Tb := Lib.hid (Tb.out.below hB Tb.out.lt)
  have Tc := Lib.hid (Tc.out.below hB Tc.out.lt)
  have HB := Lib.hid (HB.out.trans (hB.mono HB.out.size))
  have Hd := Lib.hid hd
  obtain ⟨s_d, a_d, n_d, c_d, rfl⟩ := hd.form2
  clear hB hd
  obtain ⟨w17, hw⟩ : ∃ w', (w16.alloc (.cells #[.bool s_d, .slice a_d n_d c_d] 33)) = w' := ⟨_, rfl⟩
  have hB : Below w16.heap.size w16 w17 := by rw [← hw]; exact (Below.refl _ _).alloc (Nat.le_refl _) _
  obtain ⟨b_d, hb_d⟩ : ∃ b, w16.heap.size = b := ⟨_, rfl⟩
  have Td' : Hid (Two w17 b_d 33 (.bool s_d) (.slice a_d n_d c_d)) := Lib.hid (by rw [← hw, ← hb_d]; have h9 := (Two.new w16 33 (.bool s_d) (.slice a_d n_d c_d)); exact h9)
  have Hx := Lib.hid (Hx.out.below hB)
  have Hy := Lib.hid (Hy.out.below hB)
  have Hz := Lib.hid (Hz.out.below hB)
  have Ha := Lib.hid (Ha.out.below hB)
  have Hb := Lib.hid (Hb.out.below hB)
  have Hc := Lib.hid (Hc.out.below hB)
  have Hd := Lib.hid (Hd.out.below hB)
  have Tx := Lib.hid (Tx.out.below hB Tx.out.lt)
  have Ty := Lib.hid (Ty.out.below hB Ty.out.lt)
  have Tz := Lib.hid (Tz.out.below hB Tz.out.lt)
  have Ta := Lib.hid (Ta.out.below hB Ta.out.lt)
  have Tb := Lib.hid (Tb.out.below hB Tb.out.lt)
  have Tc := Lib.hid (Tc.out.below hB Tc.out.lt)
  have HB := Lib.hid (HB.out.trans (hB.mono HB.out.size))
  have Td := Td'
  clear hB Td'
  have d0y_17 := Ty.out.cell0
  have d1y_17 := Ty.out.cell1
  have d0z_17 := Tz.out.cell0
  have d1z_17 := Tz.out.cell1
  go_wp2_with fail
  clear hw hb_d d0y_17 d1y_17 d0z_17 d1z_17
  refine (mul_any _ _ _ _ w17 Hz.out Hy.out HR.out.z HR.out.y).mono ?_
  rintro e w18 hL
  obtain ⟨vi, rfl, hi, hB⟩ := hL.okW HR.out.i
  have Hx := Lib.hid (Hx.out.below hB)
  have Hy := Lib.hid (Hy.out.below hB)
  have Hz := Lib.hid (Hz.out.below hB)
  have Ha := Lib.hid (Ha.out.below hB)
  have Hb := Lib.hid (Hb.out.below hB)
  have Hc := Lib.hid (Hc.out.below hB)
  have Hd := Lib.hid (Hd.out.below hB)
  have Tx := Lib.hid (Tx.out.below hB Tx.out.lt)
  have Ty := Lib.hid (Ty.out.below hB Ty.out.lt)
  have Tz := Lib.hid (Tz.out.below hB Tz.out.lt)
  have Ta := Lib.hid (Ta.out.below hB Ta.out.lt)
  have Tb := Lib.hid (Tb.out.below hB Tb.out.lt)
  have Tc := Lib.hid (Tc.out.below hB Tc.out.lt)
  have Td := Lib.hid (Td.out.below hB Td.out.lt)
  have HB := Lib.hid (HB.out.trans (hB.mono HB.out.size))
  have Hi := Lib.hid hi
  obtain ⟨s_i, a_i, n_i, c_i, rfl⟩ := hi.form2
  clear hB hi
  obtain ⟨w19, hw⟩ : ∃ w', (w18.alloc (.cells #[.bool s_i, .slice a_i n_i c_i] 33)) = w' := ⟨_, rfl⟩
  have hB : Below w18.heap.size w18 w19 := by rw [← hw]; exact (Below.refl _ _).alloc (Nat.le_refl _) _
  obtain ⟨b_i, hb_i⟩ : ∃ b, w18.heap.size = b := ⟨_, rfl⟩
  have Ti' : Hid (Two w19 b_i 33 (.bool s_i) (.slice a_i n_i c_i)) := Lib.hid (by rw [← hw, ← hb_i]; have h9 := (Two.new w18 33 (.bool s_i) (.slice a_i n_i c_i)); exact h9)
  have Hx := Lib.hid (Hx.out.below hB)
  have Hy := Lib.hid (Hy.out.below hB)
  have Hz := Lib.hid (Hz.out.below hB)
  have Ha := Lib.hid (Ha.out.below hB)
  have Hb := Lib.hid (Hb.out.below hB)
  have Hc := Lib.hid (Hc.out.below hB)
  have Hd := Lib.hid (Hd.out.below hB)
  have Hi := Lib.hid (Hi.out.below hB)
  have Tx := Lib.hid (Tx.out.below hB Tx.out.lt)
  have Ty := Lib.hid (Ty.out.below hB Ty.out.lt)
  have Tz := Lib.hid (Tz.out.below hB Tz.out.lt)
  have Ta := Lib.hid (Ta.out.below hB Ta.out.lt)
  have Tb := Lib.hid (Tb.out.below hB Tb.out.lt)
  have Tc := Lib.hid (Tc.out.below hB Tc.out.lt)
  have Td := Lib.hid (Td.out.below hB Td.out.lt)
  have HB := Lib.hid (HB.out.trans (hB.mono HB.out.size))
  have Ti := Ti'
  clear hB Ti'
  have d0d_19 := Td.out.cell0
  have d1d_19 := Td.out.cell1
  have d0i_19 := Ti.out.cell0
  have d1i_19 := Ti.out.cell1
  go_wp2_with fail
  clear hw hb_i d0d_19 d1d_19 d0i_19 d1i_19
  refine (add_any _ _ _ _ w19 Hd.out Hi.out HR.out.d HR.out.i).mono ?_
  rintro e w20 hL
  rw [show A * C + C * B = (A + B) * C by rw [Int.add_mul, Int.mul_comm C B]] at hL
  obtain ⟨vk, rfl, hk, hB⟩ := hL.okW HR.out.c
  have Hx := Lib.hid (Hx.out.below hB)
  have Hy := Lib.hid (Hy.out.below hB)
  have Hz := Lib.hid (Hz.out.below hB)
  have Ha := Lib.hid (Ha.out.below hB)
  have Hb := Lib.hid (Hb.out.below hB)
  have Hc := Lib.hid (Hc.out.below hB)
  have Hd := Lib.hid (Hd.out.below hB)
  have Hi := Lib.hid (Hi.out.below hB)
  have Tx := Lib.hid (Tx.out.below hB Tx.out.lt)
  have Ty := Lib.hid (Ty.out.below hB Ty.out.lt)
  have Tz := Lib.hid (Tz.out.below hB Tz.out.lt)
  have Ta := Lib.hid (Ta.out.below hB Ta.out.lt)
  have Tb := Lib.hid (Tb.out.below hB Tb.out.lt)
  have Tc := Lib.hid (Tc.out.below hB Tc.out.lt)
  have Td := Lib.hid (Td.out.below hB Td.out.lt)
  have Ti := Lib.hid (Ti.out.below hB Ti.out.lt)
  have HB := Lib.hid (HB.out.trans (hB.mono HB.out.size))
  have Hk := Lib.hid hk
  obtain ⟨s_k, a_k, n_k, c_k, rfl⟩ := hk.form2
  clear hB hk
  obtain ⟨w21, hw⟩ : ∃ w', (w20.alloc (.cells #[.bool s_k, .slice a_k n_k c_k] 33)) = w' := ⟨_, rfl⟩
  have hB : Below w20.heap.size w20 w21 := by rw [← hw]; exact (Below.refl _ _).alloc (Nat.le_refl _) _
  obtain ⟨b_k, hb_k⟩ : ∃ b, w20.heap.size = b := ⟨_, rfl⟩
  have Tk' : Hid (Two w21 b_k 33 (.bool s_k) (.slice a_k n_k c_k)) := Lib.hid (by rw [← hw, ← hb_k]; have h9 := (Two.new w20 33 (.bool s_k) (.slice a_k n_k c_k)); exact h9)
  have Hx := Lib.hid (Hx.out.below hB)
  have Hy := Lib.hid (Hy.out.below hB)
  have Hz := Lib.hid (Hz.out.below hB)
  have Ha := Lib.hid (Ha.out.below hB)
  have Hb := Lib.hid (Hb.out.below hB)
  have Hc := Lib.hid (Hc.out.below hB)
  have Hd := Lib.hid (Hd.out.below hB)
  have Hi := Lib.hid (Hi.out.below hB)
  have Hk := Lib.hid (Hk.out.below hB)
  have Tx := Lib.hid (Tx.out.below hB Tx.out.lt)
  have Ty := Lib.hid (Ty.out.below hB Ty.out.lt)
  have Tz := Lib.hid (Tz.out.below hB Tz.out.lt)
  have Ta := Lib.hid (Ta.out.below hB Ta.out.lt)
  have Tb := Lib.hid (Tb.out.below hB Tb.out.lt)
  have Tc := Lib.hid (Tc.out.below hB Tc.out.lt)
  have Td := Lib.hid (Td.out.below hB Td.out.lt)
  have Ti := Lib.hid (Ti.out.below hB Ti.out.lt)
  have HB := Lib.hid (HB.out.trans (hB.mono HB.out.size))
  have Tk := Tk'
  clear hB Tk'
  have d0a_21 := Ta.out.cell0
  have d1a_21 := Ta.out.cell1
  have d0y_21 := Ty.out.cell0
  have d1y_21 := Ty.out.cell1
  go_wp2_with fail
  clear hw hb_k d0a_21 d1a_21 d0y_21 d1y_21
  clear Hd Hi Td Ti Hz Tz
  refine (sub_any _ _ _ _ w21 Ha.out Hy.out HR.out.a HR.out.y).mono ?_
  rintro e w22 hL
  rw [show A + B - B = A by omega] at hL
  obtain ⟨vn, rfl, hn, hB⟩ := hL.okW HR.out.x
  have Hx := Lib.hid (Hx.out.below hB)
  have Hy := Lib.hid (Hy.out.below hB)
  have Ha := Lib.hid (Ha.out.below hB)
  have Hb := Lib.hid (Hb.out.below hB)
  have Hc := Lib.hid (Hc.out.below hB)
  have Hk := Lib.hid (Hk.out.below hB)
  have Tx := Lib.hid (Tx.out.below hB Tx.out.lt)
  have Ty := Lib.hid (Ty.out.below hB Ty.out.lt)
  have Ta := Lib.hid (Ta.out.below hB Ta.out.lt)
  have Tb := Lib.hid (Tb.out.below hB Tb.out.lt)
  have Tc := Lib.hid (Tc.out.below hB Tc.out.lt)
  have Tk := Lib.hid (Tk.out.below hB Tk.out.lt)
  have HB := Lib.hid (HB.out.trans (hB.mono HB.out.size))
  have Hn := Lib.hid hn
  obtain ⟨s_n, a_n, n_n, c_n, rfl⟩ := hn.form2
  clear hB hn
  obtain ⟨w23, hw⟩ : ∃ w', (w22.alloc (.cells #[.bool s_n, .slice a_n n_n c_n] 33)) = w' := ⟨_, rfl⟩
  have hB : Below w22.heap.size w22 w23 := by rw [← hw]; exact (Below.refl _ _).alloc (Nat.le_refl _) _
  obtain ⟨b_n, hb_n⟩ : ∃ b, w22.heap.size = b := ⟨_, rfl⟩
  have Tn' : Hid (Two w23 b_n 33 (.bool s_n) (.slice a_n n_n c_n)) := Lib.hid (by rw [← hw, ← hb_n]; have h9 := (Two.new w22 33 (.bool s_n) (.slice a_n n_n c_n)); exact h9)
  have Hx := Lib.hid (Hx.out.below hB)
  have Hy := Lib.hid (Hy.out.below hB)
  have Ha := Lib.hid (Ha.out.below hB)
  have Hb := Lib.hid (Hb.out.below hB)
  have Hc := Lib.hid (Hc.out.below hB)
  have Hk := Lib.hid (Hk.out.below hB)
  have Hn := Lib.hid (Hn.out.below hB)
  have Tx := Lib.hid (Tx.out.below hB Tx.out.lt)
  have Ty := Lib.hid (Ty.out.below hB Ty.out.lt)
  have Ta := Lib.hid (Ta.out.below hB Ta.out.lt)
  have Tb := Lib.hid (Tb.out.below hB Tb.out.lt)
  have Tc := Lib.hid (Tc.out.below hB Tc.out.lt)
  have Tk := Lib.hid (Tk.out.below hB Tk.out.lt)
  have HB := Lib.hid (HB.out.trans (hB.mono HB.out.size))
  have Tn := Tn'
  clear hB Tn'
  go_wp2_with fail
  clear hw hb_n
  obtain ⟨S, hS⟩ : ∃ S, A + B = S := ⟨_, rfl⟩
  rw [hS] at Ha Hb HR Hc Hk
  clear hS
  obtain ⟨Tt, hT⟩ : ∃ T, S * C = T := ⟨_, rfl⟩
  have HRc := Lib.hid HR.out.c
  rw [hT] at Hc Hk HRc
  have HT := Lib.hid hT
  clear hT
  obtain ⟨bs, hbs⟩ : ∃ bs, sv (decZ S) = .string bs := ⟨_, rfl⟩
  have Hbs := Lib.hid hbs
  clear hbs
  have hB : Below w23.heap.size w23 w23.drew := ⟨rfl, rfl, rfl, Nat.le_refl _, fun _ _ => rfl⟩
  have Hx := Lib.hid (Hx.out.below hB)
  have Hy := Lib.hid (Hy.out.below hB)
  have Ha := Lib.hid (Ha.out.below hB)
  have Hb := Lib.hid (Hb.out.below hB)
  have Hc := Lib.hid (Hc.out.below hB)
  have Hk := Lib.hid (Hk.out.below hB)
  have Hn := Lib.hid (Hn.out.below hB)
  have Tx := Lib.hid (Tx.out.below hB Tx.out.lt)
  have Ty := Lib.hid (Ty.out.below hB Ty.out.lt)
  have Ta := Lib.hid (Ta.out.below hB Ta.out.lt)
  have Tb := Lib.hid (Tb.out.below hB Tb.out.lt)
  have Tc := Lib.hid (Tc.out.below hB Tc.out.lt)
  have Tk := Lib.hid (Tk.out.below hB Tk.out.lt)
  have Tn := Lib.hid (Tn.out.below hB Tn.out.lt)
  have HB := Lib.hid (HB.out.trans (hB.mono HB.out.size))
  clear hB
  go_region_held3 (fun w' => w'.cell? ⟨b_a, 0, none⟩ = some (.bool s_a) ∧ w'.cell? ⟨b_a, 1, none⟩ = some (.slice a_a n_a c_a) ∧ w'.cell? ⟨b_b, 0, none⟩ = some (.bool s_b) ∧ w'.cell? ⟨b_b, 1, none⟩ = some (.slice a_b n_b c_b) ∧ w'.cell? ⟨b_c, 0, none⟩ = some (.bool s_c) ∧ w'.cell? ⟨b_c, 1, none⟩ = some (.slice a_c n_c c_c) ∧ w'.cell? ⟨b_k, 0, none⟩ = some (.bool s_k) ∧ w'.cell? ⟨b_k, 1, none⟩ = some (.slice a_k n_k c_k) ∧ w'.cell? ⟨b_n, 0, none⟩ = some (.bool s_n) ∧ w'.cell? ⟨b_n, 1, none⟩ = some (.slice a_n n_n c_n) ∧ w'.cell? ⟨b_x, 0, none⟩ = some (.bool s_x) ∧ w'.cell? ⟨b_x, 1, none⟩ = some (.slice a_x n_x c_x))
    (first | (exact ⟨Ta.out.cell0, Ta.out.cell1, Tb.out.cell0, Tb.out.cell1, Tc.out.cell0, Tc.out.cell1, Tk.out.cell0, Tk.out.cell1, Tn.out.cell0, Tn.out.cell1, Tx.out.cell0, Tx.out.cell1⟩) | go_keep)
    (first
      | (go_at_call 37; (with_reducible refine (wcompare_any _ _ _ _ w23.drew Ha.out Hb.out HR.out.a HR.out.a).mono ?_); rintro e w24 ⟨rfl, hB⟩; rw [cmp3_eq]; have Hx := Lib.hid (Hx.out.below hB); have Hy := Lib.hid (Hy.out.below hB); have Ha := Lib.hid (Ha.out.below hB); have Hb := Lib.hid (Hb.out.below hB); have Hc := Lib.hid (Hc.out.below hB); have Hk := Lib.hid (Hk.out.below hB); have Hn := Lib.hid (Hn.out.below hB); have Tx := Lib.hid (Tx.out.below hB Tx.out.lt); have Ty := Lib.hid (Ty.out.below hB Ty.out.lt); have Ta := Lib.hid (Ta.out.below hB Ta.out.lt); have Tb := Lib.hid (Tb.out.below hB Tb.out.lt); have Tc := Lib.hid (Tc.out.below hB Tc.out.lt); have Tk := Lib.hid (Tk.out.below hB Tk.out.lt); have Tn := Lib.hid (Tn.out.below hB Tn.out.lt); have HB := Lib.hid (HB.out.trans (hB.mono HB.out.size)); clear hB )
      | (go_at_call 37; (with_reducible refine (wcompare_any _ _ _ _ w24 Hc.out Hk.out HRc.out HRc.out).mono ?_); rintro e w25 ⟨rfl, hB⟩; rw [cmp3_eq]; have Hx := Lib.hid (Hx.out.below hB); have Hy := Lib.hid (Hy.out.below hB); have Ha := Lib.hid (Ha.out.below hB); have Hb := Lib.hid (Hb.out.below hB); have Hc := Lib.hid (Hc.out.below hB); have Hk := Lib.hid (Hk.out.below hB); have Hn := Lib.hid (Hn.out.below hB); have Tx := Lib.hid (Tx.out.below hB Tx.out.lt); have Ty := Lib.hid (Ty.out.below hB Ty.out.lt); have Ta := Lib.hid (Ta.out.below hB Ta.out.lt); have Tb := Lib.hid (Tb.out.below hB Tb.out.lt); have Tc := Lib.hid (Tc.out.below hB Tc.out.lt); have Tk := Lib.hid (Tk.out.below hB Tk.out.lt); have Tn := Lib.hid (Tn.out.below hB Tn.out.lt); have HB := Lib.hid (HB.out.trans (hB.mono HB.out.size)); clear hB )
      | (go_at_call 37; (with_reducible refine (wcompare_any _ _ _ _ w25 Hn.out Hx.out HR.out.x HR.out.x).mono ?_); rintro e w26 ⟨rfl, hB⟩; rw [cmp3_eq]; have Hx := Lib.hid (Hx.out.below hB); have Hy := Lib.hid (Hy.out.below hB); have Ha := Lib.hid (Ha.out.below hB); have Hb := Lib.hid (Hb.out.below hB); have Hc := Lib.hid (Hc.out.below hB); have Hk := Lib.hid (Hk.out.below hB); have Hn := Lib.hid (Hn.out.below hB); have Tx := Lib.hid (Tx.out.below hB Tx.out.lt); have Ty := Lib.hid (Ty.out.below hB Ty.out.lt); have Ta := Lib.hid (Ta.out.below hB Ta.out.lt); have Tb := Lib.hid (Tb.out.below hB Tb.out.lt); have Tc := Lib.hid (Tc.out.below hB Tc.out.lt); have Tk := Lib.hid (Tk.out.below hB Tk.out.lt); have Tn := Lib.hid (Tn.out.below hB Tn.out.lt); have HB := Lib.hid (HB.out.trans (hB.mono HB.out.size)); clear hB )
      | (go_at_call 19; (with_reducible refine (string_any _ _ w26 Ha.out HR.out.a (HP.out.below HB.out hg)).mono ?_); rintro e w27 ⟨rfl, hB⟩; rw [Hbs.out]; have Hx := Lib.hid (Hx.out.below hB); have Hy := Lib.hid (Hy.out.below hB); have Ha := Lib.hid (Ha.out.below hB); have Hb := Lib.hid (Hb.out.below hB); have Hc := Lib.hid (Hc.out.below hB); have Hk := Lib.hid (Hk.out.below hB); have Hn := Lib.hid (Hn.out.below hB); have Tx := Lib.hid (Tx.out.below hB Tx.out.lt); have Ty := Lib.hid (Ty.out.below hB Ty.out.lt); have Ta := Lib.hid (Ta.out.below hB Ta.out.lt); have Tb := Lib.hid (Tb.out.below hB Tb.out.lt); have Tc := Lib.hid (Tc.out.below hB Tc.out.lt); have Tk := Lib.hid (Tk.out.below hB Tk.out.lt); have Tn := Lib.hid (Tn.out.below hB Tn.out.lt); have HB := Lib.hid (HB.out.trans (hB.mono HB.out.size)); clear hB )
      | (go_at_call 19; (with_reducible refine (string_any _ _ w27 Hb.out HR.out.a (HP.out.below HB.out hg)).mono ?_); rintro e w28 ⟨rfl, hB⟩; rw [Hbs.out]; have Hx := Lib.hid (Hx.out.below hB); have Hy := Lib.hid (Hy.out.below hB); have Ha := Lib.hid (Ha.out.below hB); have Hb := Lib.hid (Hb.out.below hB); have Hc := Lib.hid (Hc.out.below hB); have Hk := Lib.hid (Hk.out.below hB); have Hn := Lib.hid (Hn.out.below hB); have Tx := Lib.hid (Tx.out.below hB Tx.out.lt); have Ty := Lib.hid (Ty.out.below hB Ty.out.lt); have Ta := Lib.hid (Ta.out.below hB Ta.out.lt); have Tb := Lib.hid (Tb.out.below hB Tb.out.lt); have Tc := Lib.hid (Tc.out.below hB Tc.out.lt); have Tk := Lib.hid (Tk.out.below hB Tk.out.lt); have Tn := Lib.hid (Tn.out.below hB Tn.out.lt); have HB := Lib.hid (HB.out.trans (hB.mono HB.out.size)); clear hB ))
  clear Ha Hb Hk Hn Ta Tb Tk Tn Hx Tx
  have d0c_28 := Tc.out.cell0
  have d1c_28 := Tc.out.cell1
  have d0y_28 := Ty.out.cell0
  have d1y_28 := Ty.out.cell1
  go_wp2_with fail
  clear d0c_28 d1c_28 d0y_28 d1y_28
  by_cases hy0 : B = 0
  · skip
    rw [hy0] at Hy HR
    refine (div_zero _ _ Tt w28 Hc.out Hy.out).mono ?_
    rintro e w29 ⟨vq, vr, rfl, hq, hr, hB⟩
    have Hy := Lib.hid (Hy.out.below hB)
    have Hc := Lib.hid (Hc.out.below hB)
    have Ty := Lib.hid (Ty.out.below hB Ty.out.lt)
    have Tc := Lib.hid (Tc.out.below hB Tc.out.lt)
    have HB := Lib.hid (HB.out.trans (hB.mono HB.out.size))
    have Hq := Lib.hid hq
    obtain ⟨s_q, a_q, n_q, c_q, rfl⟩ := hq.form2
    have Hr := Lib.hid hr
    obtain ⟨s_r, a_r, n_r, c_r, rfl⟩ := hr.form2
    clear hB hq hr
    obtain ⟨w30, hw⟩ : ∃ w', ((w29.alloc (.cells #[.bool s_q, .slice a_q n_q c_q] 33)).alloc (.cells #[.bool s_r, .slice a_r n_r c_r] 33)) = w' := ⟨_, rfl⟩
    have hB : Below w29.heap.size w29 w30 := by rw [← hw]; exact ((Below.refl _ _).alloc (Nat.le_refl _) _).alloc (by simp) _
    obtain ⟨b_q, hb_q⟩ : ∃ b, w29.heap.size = b := ⟨_, rfl⟩
    have Tq' : Hid (Two w30 b_q 33 (.bool s_q) (.slice a_q n_q c_q)) := Lib.hid (by rw [← hw, ← hb_q]; have h9 := ((Two.new w29 33 (.bool s_q) (.slice a_q n_q c_q)).alloc (.cells #[.bool s_r, .slice a_r n_r c_r] 33)); exact h9)
    obtain ⟨b_r, hb_r⟩ : ∃ b, w29.heap.size + 1 = b := ⟨_, rfl⟩
    have Tr' : Hid (Two w30 b_r 33 (.bool s_r) (.slice a_r n_r c_r)) := Lib.hid (by rw [← hw, ← hb_r]; have h9 := (Two.new (w29.alloc (.cells #[.bool s_q, .slice a_q n_q c_q] 33)) 33 (.bool s_r) (.slice a_r n_r c_r)); rw [World.size_alloc] at h9; exact h9)
    have Hy := Lib.hid (Hy.out.below hB)
    have Hc := Lib.hid (Hc.out.below hB)
    have Hq := Lib.hid (Hq.out.below hB)
    have Hr := Lib.hid (Hr.out.below hB)
    have Ty := Lib.hid (Ty.out.below hB Ty.out.lt)
    have Tc := Lib.hid (Tc.out.below hB Tc.out.lt)
    have HB := Lib.hid (HB.out.trans (hB.mono HB.out.size))
    have Tq := Tq'
    have Tr := Tr'
    clear hB Tq' Tr'
    have d0y_30 := Ty.out.cell0
    have d1y_30 := Ty.out.cell1
    go_wp2_with fail
    try rw [show b_q + 1 = b_r by rw [← hb_q]; exact hb_r]
    clear hw hb_q hb_r d0y_30 d1y_30
    refine (sign_any _ _ w30 Hy.out HR.out.y).mono ?_
    rintro e w31 ⟨rfl, hB⟩
    rw [cmp3_eq]
    have Hy := Lib.hid (Hy.out.below hB)
    have Hc := Lib.hid (Hc.out.below hB)
    have Hq := Lib.hid (Hq.out.below hB)
    have Hr := Lib.hid (Hr.out.below hB)
    have Ty := Lib.hid (Ty.out.below hB Ty.out.lt)
    have Tc := Lib.hid (Tc.out.below hB Tc.out.lt)
    have Tq := Lib.hid (Tq.out.below hB Tq.out.lt)
    have Tr := Lib.hid (Tr.out.below hB Tr.out.lt)
    have HB := Lib.hid (HB.out.trans (hB.mono HB.out.size))
    clear hB 
    go_wp2_with fail
    refine (lives_any w31 (HP.out.below HB.out hg)).mono ?_
    rintro e w32 ⟨rfl, hB⟩
    have Hy := Lib.hid (Hy.out.below hB)
    have Hc := Lib.hid (Hc.out.below hB)
    have Hq := Lib.hid (Hq.out.below hB)
    have Hr := Lib.hid (Hr.out.below hB)
    have Ty := Lib.hid (Ty.out.below hB Ty.out.lt)
    have Tc := Lib.hid (Tc.out.below hB Tc.out.lt)
    have Tq := Lib.hid (Tq.out.below hB Tq.out.lt)
    have Tr := Lib.hid (Tr.out.below hB Tr.out.lt)
    have HB := Lib.hid (HB.out.trans (hB.mono HB.out.size))
    clear hB 
    go_wp2
    go_ret
    exact ⟨rfl, HB.out⟩
  · skip
    have hdl := div_law Tt B hy0
    have Hdl := Lib.hid hdl
    clear hdl
    refine (wdiv_any _ _ Tt B w28 Hc.out Hy.out hy0 HRc.out HR.out.y).mono ?_
    rintro e w29 ⟨hB, vq, vr, rfl, hq, hr⟩
    have Hy := Lib.hid (Hy.out.below hB)
    have Hc := Lib.hid (Hc.out.below hB)
    have Ty := Lib.hid (Ty.out.below hB Ty.out.lt)
    have Tc := Lib.hid (Tc.out.below hB Tc.out.lt)
    have HB := Lib.hid (HB.out.trans (hB.mono HB.out.size))
    have Hq := Lib.hid hq
    obtain ⟨s_q, a_q, n_q, c_q, rfl⟩ := hq.form2
    have Hr := Lib.hid hr
    obtain ⟨s_r, a_r, n_r, c_r, rfl⟩ := hr.form2
    clear hB hq hr
    obtain ⟨q, hq⟩ : ∃ q, qOf Tt B = q := ⟨_, rfl⟩
    obtain ⟨r, hr⟩ : ∃ r, rOf Tt B = r := ⟨_, rfl⟩
    rw [hq, hr] at Hdl
    rw [hq] at Hq
    rw [hr] at Hr
    clear hq hr
    obtain ⟨w30, hw⟩ : ∃ w', ((w29.alloc (.cells #[.bool s_q, .slice a_q n_q c_q] 33)).alloc (.cells #[.bool s_r, .slice a_r n_r c_r] 33)) = w' := ⟨_, rfl⟩
    have hB : Below w29.heap.size w29 w30 := by rw [← hw]; exact ((Below.refl _ _).alloc (Nat.le_refl _) _).alloc (by simp) _
    obtain ⟨b_q, hb_q⟩ : ∃ b, w29.heap.size = b := ⟨_, rfl⟩
    have Tq' : Hid (Two w30 b_q 33 (.bool s_q) (.slice a_q n_q c_q)) := Lib.hid (by rw [← hw, ← hb_q]; have h9 := ((Two.new w29 33 (.bool s_q) (.slice a_q n_q c_q)).alloc (.cells #[.bool s_r, .slice a_r n_r c_r] 33)); exact h9)
    obtain ⟨b_r, hb_r⟩ : ∃ b, w29.heap.size + 1 = b := ⟨_, rfl⟩
    have Tr' : Hid (Two w30 b_r 33 (.bool s_r) (.slice a_r n_r c_r)) := Lib.hid (by rw [← hw, ← hb_r]; have h9 := (Two.new (w29.alloc (.cells #[.bool s_q, .slice a_q n_q c_q] 33)) 33 (.bool s_r) (.slice a_r n_r c_r)); rw [World.size_alloc] at h9; exact h9)
    have Hy := Lib.hid (Hy.out.below hB)
    have Hc := Lib.hid (Hc.out.below hB)
    have Hq := Lib.hid (Hq.out.below hB)
    have Hr := Lib.hid (Hr.out.below hB)
    have Ty := Lib.hid (Ty.out.below hB Ty.out.lt)
    have Tc := Lib.hid (Tc.out.below hB Tc.out.lt)
    have HB := Lib.hid (HB.out.trans (hB.mono HB.out.size))
    have Tq := Tq'
    have Tr := Tr'
    clear hB Tq' Tr'
    have d0q_30 := Tq.out.cell0
    have d1q_30 := Tq.out.cell1
    have d0y_30 := Ty.out.cell0
    have d1y_30 := Ty.out.cell1
    go_wp2_with fail
    try rw [show b_q + 1 = b_r by rw [← hb_q]; exact hb_r]
    clear hw hb_q hb_r d0q_30 d1q_30 d0y_30 d1y_30
    have HRq := Lib.hid (ring_quo S B C Tt q r HT.out HR.out Hdl.out.1 Hdl.out.2)
    refine (mul_any _ _ _ _ w30 Hq.out Hy.out HRq.out.q HR.out.y).mono ?_
    rintro e w31 hL
    obtain ⟨vp, rfl, hp, hB⟩ := hL.okW HRq.out.p
    have Hy := Lib.hid (Hy.out.below hB)
    have Hc := Lib.hid (Hc.out.below hB)
    have Hq := Lib.hid (Hq.out.below hB)
    have Hr := Lib.hid (Hr.out.below hB)
    have Ty := Lib.hid (Ty.out.below hB Ty.out.lt)
    have Tc := Lib.hid (Tc.out.below hB Tc.out.lt)
    have Tq := Lib.hid (Tq.out.below hB Tq.out.lt)
    have Tr := Lib.hid (Tr.out.below hB Tr.out.lt)
    have HB := Lib.hid (HB.out.trans (hB.mono HB.out.size))
    have Hp := Lib.hid hp
    obtain ⟨s_p, a_p, n_p, c_p, rfl⟩ := hp.form2
    clear hB hp
    obtain ⟨w32, hw⟩ : ∃ w', (w31.alloc (.cells #[.bool s_p, .slice a_p n_p c_p] 33)) = w' := ⟨_, rfl⟩
    have hB : Below w31.heap.size w31 w32 := by rw [← hw]; exact (Below.refl _ _).alloc (Nat.le_refl _) _
    obtain ⟨b_p, hb_p⟩ : ∃ b, w31.heap.size = b := ⟨_, rfl⟩
    have Tp' : Hid (Two w32 b_p 33 (.bool s_p) (.slice a_p n_p c_p)) := Lib.hid (by rw [← hw, ← hb_p]; have h9 := (Two.new w31 33 (.bool s_p) (.slice a_p n_p c_p)); exact h9)
    have Hy := Lib.hid (Hy.out.below hB)
    have Hc := Lib.hid (Hc.out.below hB)
    have Hq := Lib.hid (Hq.out.below hB)
    have Hr := Lib.hid (Hr.out.below hB)
    have Hp := Lib.hid (Hp.out.below hB)
    have Ty := Lib.hid (Ty.out.below hB Ty.out.lt)
    have Tc := Lib.hid (Tc.out.below hB Tc.out.lt)
    have Tq := Lib.hid (Tq.out.below hB Tq.out.lt)
    have Tr := Lib.hid (Tr.out.below hB Tr.out.lt)
    have HB := Lib.hid (HB.out.trans (hB.mono HB.out.size))
    have Tp := Tp'
    clear hB Tp'
    have d0p_32 := Tp.out.cell0
    have d1p_32 := Tp.out.cell1
    have d0r_32 := Tr.out.cell0
    have d1r_32 := Tr.out.cell1
    go_wp2_with fail
    clear hw hb_p d0p_32 d1p_32 d0r_32 d1r_32
    refine (add_any _ _ _ _ w32 Hp.out Hr.out HRq.out.p HRq.out.r).mono ?_
    rintro e w33 hL
    rw [Hdl.out.1] at hL
    obtain ⟨vu, rfl, hu, hB⟩ := hL.okW HRc.out
    have Hy := Lib.hid (Hy.out.below hB)
    have Hc := Lib.hid (Hc.out.below hB)
    have Hq := Lib.hid (Hq.out.below hB)
    have Hr := Lib.hid (Hr.out.below hB)
    have Hp := Lib.hid (Hp.out.below hB)
    have Ty := Lib.hid (Ty.out.below hB Ty.out.lt)
    have Tc := Lib.hid (Tc.out.below hB Tc.out.lt)
    have Tq := Lib.hid (Tq.out.below hB Tq.out.lt)
    have Tr := Lib.hid (Tr.out.below hB Tr.out.lt)
    have Tp := Lib.hid (Tp.out.below hB Tp.out.lt)
    have HB := Lib.hid (HB.out.trans (hB.mono HB.out.size))
    have Hu := Lib.hid hu
    obtain ⟨s_u, a_u, n_u, c_u, rfl⟩ := hu.form2
    clear hB hu
    have Ty1 := Ty
    have Tc1 := Tc
    have Tr1 := Tr
    have HB1 := HB
    have Hm := Hy
    obtain ⟨w34, hw⟩ : ∃ w', ((w33.alloc (.cells #[.bool s_u, .slice a_u n_u c_u] 33)).alloc (.cells #[.bool s_y, .slice a_y n_y c_y] 33)) = w' := ⟨_, rfl⟩
    have hB : Below w33.heap.size w33 w34 := by rw [← hw]; exact ((Below.refl _ _).alloc (Nat.le_refl _) _).alloc (by simp) _
    obtain ⟨b_u, hb_u⟩ : ∃ b, w33.heap.size = b := ⟨_, rfl⟩
    have Tu' : Hid (Two w34 b_u 33 (.bool s_u) (.slice a_u n_u c_u)) := Lib.hid (by rw [← hw, ← hb_u]; have h9 := ((Two.new w33 33 (.bool s_u) (.slice a_u n_u c_u)).alloc (.cells #[.bool s_y, .slice a_y n_y c_y] 33)); exact h9)
    obtain ⟨b_m, hb_m⟩ : ∃ b, w33.heap.size + 1 = b := ⟨_, rfl⟩
    have Tm' : Hid (Two w34 b_m 33 (.bool s_y) (.slice a_y n_y c_y)) := Lib.hid (by rw [← hw, ← hb_m]; have h9 := (Two.new (w33.alloc (.cells #[.bool s_u, .slice a_u n_u c_u] 33)) 33 (.bool s_y) (.slice a_y n_y c_y)); rw [World.size_alloc] at h9; exact h9)
    have Hy := Lib.hid (Hy.out.below hB)
    have Hc := Lib.hid (Hc.out.below hB)
    have Hq := Lib.hid (Hq.out.below hB)
    have Hr := Lib.hid (Hr.out.below hB)
    have Hp := Lib.hid (Hp.out.below hB)
    have Hu := Lib.hid (Hu.out.below hB)
    have Hm := Lib.hid (Hm.out.below hB)
    have Ty := Lib.hid (Ty.out.below hB Ty.out.lt)
    have Tc := Lib.hid (Tc.out.below hB Tc.out.lt)
    have Tq := Lib.hid (Tq.out.below hB Tq.out.lt)
    have Tr := Lib.hid (Tr.out.below hB Tr.out.lt)
    have Tp := Lib.hid (Tp.out.below hB Tp.out.lt)
    have HB := Lib.hid (HB.out.trans (hB.mono HB.out.size))
    have Tu := Tu'
    have Tm := Tm'
    clear hB Tu' Tm'
    have d0y_34 := Ty.out.cell0
    have d1y_34 := Ty.out.cell1
    have e0 := (Ty1.out.alloc (.cells #[.bool s_u, .slice a_u n_u c_u] 33)).cell0
    have e1 := (Ty1.out.alloc (.cells #[.bool s_u, .slice a_u n_u c_u] 33)).cell1
    have e2 := Ty1.out.cell0
    have e3 := Ty1.out.cell1
    go_wp2_with fail
    clear e0 e1 e2 e3 Ty1
    have Hne : Hid (b_u ≠ b_m ∧ b_c ≠ b_m ∧ b_r ≠ b_m) := Lib.hid (by have h2 := Tc1.out.lt; have h3 := Tr1.out.lt; omega)
    have Hbm : Hid (w0.heap.size ≤ b_m) := Lib.hid (by have := HB1.out.size; omega)
    try rw [show b_u + 1 = b_m by rw [← hb_u]; exact hb_m]
    clear hw hb_u hb_m d0y_34 d1y_34
    clear Hq Tq
    clear Hp Tp
    by_cases hneg : B < 0
    · skip
      refine (sign_any _ _ w34 Hy.out HR.out.y).mono ?_
      rintro e w35 ⟨rfl, hB⟩
      rw [cmp3_lt hneg]
      have Hy := Lib.hid (Hy.out.below hB)
      have Hc := Lib.hid (Hc.out.below hB)
      have Hr := Lib.hid (Hr.out.below hB)
      have Hu := Lib.hid (Hu.out.below hB)
      have Hm := Lib.hid (Hm.out.below hB)
      have Ty := Lib.hid (Ty.out.below hB Ty.out.lt)
      have Tc := Lib.hid (Tc.out.below hB Tc.out.lt)
      have Tr := Lib.hid (Tr.out.below hB Tr.out.lt)
      have Tu := Lib.hid (Tu.out.below hB Tu.out.lt)
      have Tm := Lib.hid (Tm.out.below hB Tm.out.lt)
      have HB := Lib.hid (HB.out.trans (hB.mono HB.out.size))
      clear hB 
      have d0y_35 := Ty.out.cell0
      have d1y_35 := Ty.out.cell1
      go_wp2_with fail
      clear d0y_35 d1y_35
      refine (neg_any _ _ w35 Hy.out HR.out.y).mono ?_
      rintro e w36 ⟨vv, rfl, hv1, hB⟩
      have Hy := Lib.hid (Hy.out.below hB)
      have Hc := Lib.hid (Hc.out.below hB)
      have Hr := Lib.hid (Hr.out.below hB)
      have Hu := Lib.hid (Hu.out.below hB)
      have Hm := Lib.hid (Hm.out.below hB)
      have Ty := Lib.hid (Ty.out.below hB Ty.out.lt)
      have Tc := Lib.hid (Tc.out.below hB Tc.out.lt)
      have Tr := Lib.hid (Tr.out.below hB Tr.out.lt)
      have Tu := Lib.hid (Tu.out.below hB Tu.out.lt)
      have Tm := Lib.hid (Tm.out.below hB Tm.out.lt)
      have HB := Lib.hid (HB.out.trans (hB.mono HB.out.size))
      have Hv := Lib.hid hv1
      obtain ⟨s_v, a_v, n_v, c_v, rfl⟩ := hv1.form2
      clear hB hv1
      have Tm1 := Tm
      have f0 := Tm.out.cell0
      have g0 := Tm.out.frozen 0
      have f1 := Tm.out.cell1
      have g1 := Tm.out.frozen 1
      obtain ⟨w37, hw⟩ : ∃ w', (w36.setCell ⟨b_m, 0, none⟩ (.bool s_v)).setCell ⟨b_m, 1, none⟩ (.slice a_v n_v c_v) = w' := ⟨_, rfl⟩
      have hne : b_u ≠ b_m ∧ b_c ≠ b_m ∧ b_r ≠ b_m := Hne.out
      have Tu : Hid (Two w37 b_u 33 (.bool s_u) (.slice a_u n_u c_u)) := Lib.hid (by rw [← hw]; exact Tu.out.far2 (by omega) _ _)
      have Hu : Hid (WInt w37 (.agg #[.bool s_u, .slice a_u n_u c_u]) _) := Lib.hid (by rw [← hw]; exact Hu.out.set_two Tm1.out _ _)
      have Tc : Hid (Two w37 b_c 33 (.bool s_c) (.slice a_c n_c c_c)) := Lib.hid (by rw [← hw]; exact Tc.out.far2 (by omega) _ _)
      have Hc : Hid (WInt w37 (.agg #[.bool s_c, .slice a_c n_c c_c]) _) := Lib.hid (by rw [← hw]; exact Hc.out.set_two Tm1.out _ _)
      have Tr : Hid (Two w37 b_r 33 (.bool s_r) (.slice a_r n_r c_r)) := Lib.hid (by rw [← hw]; exact Tr.out.far2 (by omega) _ _)
      have Hr : Hid (WInt w37 (.agg #[.bool s_r, .slice a_r n_r c_r]) _) := Lib.hid (by rw [← hw]; exact Hr.out.set_two Tm1.out _ _)
      have Tm : Hid (Two w37 b_m 33 (.bool s_v) (.slice a_v n_v c_v)) := Lib.hid (by rw [← hw]; exact Tm1.out.put2 _ _)
      have Hm : Hid (WInt w37 (.agg #[.bool s_v, .slice a_v n_v c_v]) (-B)) := Lib.hid (by rw [← hw]; exact Hv.out.set_two Tm1.out _ _)
      have HB : Hid (Below w0.heap.size w0 w37) := Lib.hid (by rw [← hw]; exact (HB.out.setCell (p := ⟨b_m, 0, none⟩) Hbm.out _).setCell (p := ⟨b_m, 1, none⟩) Hbm.out _)
      clear hne
      have d0u_37 := Tu.out.cell0
      have d1u_37 := Tu.out.cell1
      have d0c_37 := Tc.out.cell0
      have d1c_37 := Tc.out.cell1
      go_wp2_with fail
      clear d0u_37 d1u_37 d0c_37 d1c_37
      clear hw f0 f1 g0 g1
      have hm0 : (0 : Int) ≤ cmp3 (r : Int) 0 := by unfold cmp3; rw [if_neg (by omega)]; split <;> omega
      obtain ⟨m0, hm⟩ : ∃ m, cmp3 (r : Int) 0 = m := ⟨_, rfl⟩
      rw [hm] at hm0
      have Hm0 := Lib.hid hm
      clear hm
      have Hlt : Hid (cmp3 (r : Int) (-B) = -1) := Lib.hid (cmp3_lt (by have := Hdl.out.2; omega))
      refine (wcompare_any _ _ _ _ w37 Hu.out Hc.out HRc.out HRc.out).mono ?_
      rintro e w38 ⟨rfl, hB⟩
      rw [cmp3_eq]
      have Hu := Lib.hid (Hu.out.below hB)
      have Hc := Lib.hid (Hc.out.below hB)
      have Hr := Lib.hid (Hr.out.below hB)
      have Hm := Lib.hid (Hm.out.below hB)
      have Tu := Lib.hid (Tu.out.below hB Tu.out.lt)
      have Tc := Lib.hid (Tc.out.below hB Tc.out.lt)
      have Tr := Lib.hid (Tr.out.below hB Tr.out.lt)
      have Tm := Lib.hid (Tm.out.below hB Tm.out.lt)
      have HB := Lib.hid (HB.out.trans (hB.mono HB.out.size))
      clear hB 
      have d0r_38 := Tr.out.cell0
      have d1r_38 := Tr.out.cell1
      go_wp2_with fail
      clear d0r_38 d1r_38
      refine (sign_any _ _ w38 Hr.out HRq.out.r).mono ?_
      rintro e w39 ⟨rfl, hB⟩
      rw [Hm0.out]
      have Hu := Lib.hid (Hu.out.below hB)
      have Hc := Lib.hid (Hc.out.below hB)
      have Hr := Lib.hid (Hr.out.below hB)
      have Hm := Lib.hid (Hm.out.below hB)
      have Tu := Lib.hid (Tu.out.below hB Tu.out.lt)
      have Tc := Lib.hid (Tc.out.below hB Tc.out.lt)
      have Tr := Lib.hid (Tr.out.below hB Tr.out.lt)
      have Tm := Lib.hid (Tm.out.below hB Tm.out.lt)
      have HB := Lib.hid (HB.out.trans (hB.mono HB.out.size))
      clear hB 
      have d0r_39 := Tr.out.cell0
      have d1r_39 := Tr.out.cell1
      have d0m_39 := Tm.out.cell0
      have d1m_39 := Tm.out.cell1
      go_wp2_with fail
      clear d0r_39 d1r_39 d0m_39 d1m_39
      refine (wcompare_any _ _ _ _ w39 Hr.out Hm.out HRq.out.r (by rw [Int.natAbs_neg]; exact HR.out.y)).mono ?_
      rintro e w40 ⟨rfl, hB⟩
      rw [Hlt.out]
      have Hu := Lib.hid (Hu.out.below hB)
      have Hc := Lib.hid (Hc.out.below hB)
      have Hr := Lib.hid (Hr.out.below hB)
      have Hm := Lib.hid (Hm.out.below hB)
      have Tu := Lib.hid (Tu.out.below hB Tu.out.lt)
      have Tc := Lib.hid (Tc.out.below hB Tc.out.lt)
      have Tr := Lib.hid (Tr.out.below hB Tr.out.lt)
      have Tm := Lib.hid (Tm.out.below hB Tm.out.lt)
      have HB := Lib.hid (HB.out.trans (hB.mono HB.out.size))
      clear hB 
      go_wp2_with fail
      refine (lives_any w40 (HP.out.below HB.out hg)).mono ?_
      rintro e w41 ⟨rfl, hB⟩
      have Hu := Lib.hid (Hu.out.below hB)
      have Hc := Lib.hid (Hc.out.below hB)
      have Hr := Lib.hid (Hr.out.below hB)
      have Hm := Lib.hid (Hm.out.below hB)
      have Tu := Lib.hid (Tu.out.below hB Tu.out.lt)
      have Tc := Lib.hid (Tc.out.below hB Tc.out.lt)
      have Tr := Lib.hid (Tr.out.below hB Tr.out.lt)
      have Tm := Lib.hid (Tm.out.below hB Tm.out.lt)
      have HB := Lib.hid (HB.out.trans (hB.mono HB.out.size))
      clear hB 
      go_wp2
      go_ret
      exact ⟨rfl, HB.out⟩
    · skip
      have hs0 : ¬ cmp3 B 0 < 0 := by unfold cmp3; rw [if_neg hneg]; split <;> omega
      obtain ⟨sg, hsg⟩ : ∃ m, cmp3 B 0 = m := ⟨_, rfl⟩
      rw [hsg] at hs0
      have Hsg := Lib.hid hsg
      clear hsg
      refine (sign_any _ _ w34 Hy.out HR.out.y).mono ?_
      rintro e w35 ⟨rfl, hB⟩
      rw [Hsg.out]
      have Hy := Lib.hid (Hy.out.below hB)
      have Hc := Lib.hid (Hc.out.below hB)
      have Hr := Lib.hid (Hr.out.below hB)
      have Hu := Lib.hid (Hu.out.below hB)
      have Hm := Lib.hid (Hm.out.below hB)
      have Ty := Lib.hid (Ty.out.below hB Ty.out.lt)
      have Tc := Lib.hid (Tc.out.below hB Tc.out.lt)
      have Tr := Lib.hid (Tr.out.below hB Tr.out.lt)
      have Tu := Lib.hid (Tu.out.below hB Tu.out.lt)
      have Tm := Lib.hid (Tm.out.below hB Tm.out.lt)
      have HB := Lib.hid (HB.out.trans (hB.mono HB.out.size))
      clear hB 
      have d0u_35 := Tu.out.cell0
      have d1u_35 := Tu.out.cell1
      have d0c_35 := Tc.out.cell0
      have d1c_35 := Tc.out.cell1
      go_wp2_with fail
      clear d0u_35 d1u_35 d0c_35 d1c_35
      have hm0 : (0 : Int) ≤ cmp3 (r : Int) 0 := by unfold cmp3; rw [if_neg (by omega)]; split <;> omega
      obtain ⟨m0, hm⟩ : ∃ m, cmp3 (r : Int) 0 = m := ⟨_, rfl⟩
      rw [hm] at hm0
      have Hm0 := Lib.hid hm
      clear hm
      have Hlt : Hid (cmp3 (r : Int) (B) = -1) := Lib.hid (cmp3_lt (by have := Hdl.out.2; omega))
      refine (wcompare_any _ _ _ _ w35 Hu.out Hc.out HRc.out HRc.out).mono ?_
      rintro e w36 ⟨rfl, hB⟩
      rw [cmp3_eq]
      have Hy := Lib.hid (Hy.out.below hB)
      have Hc := Lib.hid (Hc.out.below hB)
      have Hr := Lib.hid (Hr.out.below hB)
      have Hu := Lib.hid (Hu.out.below hB)
      have Hm := Lib.hid (Hm.out.below hB)
      have Ty := Lib.hid (Ty.out.below hB Ty.out.lt)
      have Tc := Lib.hid (Tc.out.below hB Tc.out.lt)
      have Tr := Lib.hid (Tr.out.below hB Tr.out.lt)
      have Tu := Lib.hid (Tu.out.below hB Tu.out.lt)
      have Tm := Lib.hid (Tm.out.below hB Tm.out.lt)
      have HB := Lib.hid (HB.out.trans (hB.mono HB.out.size))
      clear hB 
      have d0r_36 := Tr.out.cell0
      have d1r_36 := Tr.out.cell1
      go_wp2_with fail
      clear d0r_36 d1r_36
      refine (sign_any _ _ w36 Hr.out HRq.out.r).mono ?_
      rintro e w37 ⟨rfl, hB⟩
      rw [Hm0.out]
      have Hy := Lib.hid (Hy.out.below hB)
      have Hc := Lib.hid (Hc.out.below hB)
      have Hr := Lib.hid (Hr.out.below hB)
      have Hu := Lib.hid (Hu.out.below hB)
      have Hm := Lib.hid (Hm.out.below hB)
      have Ty := Lib.hid (Ty.out.below hB Ty.out.lt)
      have Tc := Lib.hid (Tc.out.below hB Tc.out.lt)
      have Tr := Lib.hid (Tr.out.below hB Tr.out.lt)
      have Tu := Lib.hid (Tu.out.below hB Tu.out.lt)
      have Tm := Lib.hid (Tm.out.below hB Tm.out.lt)
      have HB := Lib.hid (HB.out.trans (hB.mono HB.out.size))
      clear hB 
      have d0r_37 := Tr.out.cell0
      have d1r_37 := Tr.out.cell1
      have d0m_37 := Tm.out.cell0
      have d1m_37 := Tm.out.cell1
      go_wp2_with fail
      clear d0r_37 d1r_37 d0m_37 d1m_37
      refine (wcompare_any _ _ _ _ w37 Hr.out Hm.out HRq.out.r HR.out.y).mono ?_
      rintro e w38 ⟨rfl, hB⟩
      rw [Hlt.out]
      have Hy := Lib.hid (Hy.out.below hB)
      have Hc := Lib.hid (Hc.out.below hB)
      have Hr := Lib.hid (Hr.out.below hB)
      have Hu := Lib.hid (Hu.out.below hB)
      have Hm := Lib.hid (Hm.out.below hB)
      have Ty := Lib.hid (Ty.out.below hB Ty.out.lt)
      have Tc := Lib.hid (Tc.out.below hB Tc.out.lt)
      have Tr := Lib.hid (Tr.out.below hB Tr.out.lt)
      have Tu := Lib.hid (Tu.out.below hB Tu.out.lt)
      have Tm := Lib.hid (Tm.out.below hB Tm.out.lt)
      have HB := Lib.hid (HB.out.trans (hB.mono HB.out.size))
      clear hB 
      go_wp2_with fail
      refine (lives_any w38 (HP.out.below HB.out hg)).mono ?_
      rintro e w39 ⟨rfl, hB⟩
      have Hy := Lib.hid (Hy.out.below hB)
      have Hc := Lib.hid (Hc.out.below hB)
      have Hr := Lib.hid (Hr.out.below hB)
      have Hu := Lib.hid (Hu.out.below hB)
      have Hm := Lib.hid (Hm.out.below hB)
      have Ty := Lib.hid (Ty.out.below hB Ty.out.lt)
      have Tc := Lib.hid (Tc.out.below hB Tc.out.lt)
      have Tr := Lib.hid (Tr.out.below hB Tr.out.lt)
      have Tu := Lib.hid (Tu.out.below hB Tu.out.lt)
      have Tm := Lib.hid (Tm.out.below hB Tm.out.lt)
      have HB := Lib.hid (HB.out.trans (hB.mono HB.out.size))
      clear hB 
      go_wp2
      go_ret
      exact ⟨rfl, HB.out⟩

end Go.Proofs.YtgfgjnkndfgdiaaDoor
