/- the reference's integers: Near; Bound. -/
import Derived.Test.YtgfgjnkndfgdiaaDoorWLaw
namespace Go.Proofs.YtgfgjnkndfgdiaaDoor
open Go.RowKit

def nearE : Nat → Nat
  | 0 => 16384
  | 1 => 16383
  | 2 => 8192
  | _ => 63
/-- what Near answers -/
def nearZ (n : Int) : Int :=
  if around (n.tdiv 28) 2 = 1 then -(((2 ^ nearE ((around n 28).toNat % 4) : Nat) : Int) + ((around n 28) / 4 - 3)) else ((2 ^ nearE ((around n 28).toNat % 4) : Nat) : Int) + ((around n 28) / 4 - 3)

theorem nearE_le (r : Nat) : nearE r ≤ 16384 := by
  unfold nearE; split <;> omega
theorem nearE0 : ((16384 : Int)) = (nearE 0 : Int) := rfl
theorem nearE1 : ((16383 : Int)) = (nearE 1 : Int) := rfl
theorem nearE2 : ((8192 : Int)) = (nearE 2 : Int) := rfl
theorem nearE3 : ((63 : Int)) = (nearE 3 : Int) := rfl
theorem nearEn : nearE 0 = 16384 ∧ nearE 1 = 16383 ∧ nearE 2 = 8192 ∧ nearE 3 = 63 := ⟨rfl, rfl, rfl, rfl⟩
attribute [irreducible] nearE
theorem power_z (K : Nat) (z : Int) (w : World) (hz : z = (K : Int)) (hK : K ≤ 524288) : Calls Tryd.prog 46 #[.int .i64 z] w (RPost ((2 ^ K : Nat) : Int) w) := by
  subst hz
  exact power_any K w hK
theorem tdiv_bd (n : Int) (d : Nat) (h1 : -9223372036854775808 ≤ n) (h2 : n ≤ 9223372036854775807) : -9223372036854775808 ≤ n.tdiv d ∧ n.tdiv d ≤ 9223372036854775807 := by
  have h : (n.tdiv d).natAbs ≤ n.natAbs := by rw [Int.natAbs_tdiv]; exact Nat.div_le_self _ _
  have h3 : n.natAbs ≤ 9223372036854775808 := by omega
  by_cases h0 : 0 ≤ n
  · have : (n.tdiv d).natAbs ≤ 9223372036854775807 := by omega
    omega
  · have hn : n.tdiv d ≤ 0 := by
      have h4 : 0 ≤ (-n).tdiv d := Int.tdiv_nonneg (by omega) (Int.natCast_nonneg d)
      rw [Int.neg_tdiv] at h4
      omega
    omega
theorem near_len (E : Nat) (F : Int) (hE : E ≤ 16384) (hF : -3 ≤ F ∧ F ≤ 3) : (digs T4 (((2 ^ E : Nat) : Int) + F).natAbs).length ≤ 16387 := by
  refine Nat.le_trans (len_pow _ (E + 3) ?_) (by omega)
  have := Nat.one_le_two_pow (n := E)
  rw [Nat.pow_add]
  generalize 2 ^ E = p at *
  omega


set_option maxRecDepth 100000 in
set_option maxHeartbeats 2000000 in
theorem near_any (n : Int) (w : World) (h1 : -9223372036854775808 ≤ n) (h2 : n ≤ 9223372036854775807) :
    Calls Tryd.prog 24 #[.int .i64 n] w (RPost (nearZ n) w) := by
  have hr := around_range n 28 (by omega)
  have hd : -9223372036854775808 ≤ n.tdiv 28 ∧ n.tdiv 28 ≤ 9223372036854775807 := tdiv_bd n 28 h1 h2
  have Ha := Lib.hid (fun w => around_any n 28 w h1 h2 (by omega) (by omega))
  have Hb := Lib.hid (fun w => around_any (n.tdiv 28) 2 w hd.1 hd.2 (by omega) (by omega))
  obtain ⟨k, hk0⟩ : ∃ k : Nat, around n 28 = (k : Int) := ⟨_, (Int.toNat_of_nonneg hr.1).symm⟩
  rw [hk0] at hr Ha
  obtain ⟨F, hF⟩ : ∃ F : Int, (k : Int) / 4 - 3 = F := ⟨_, rfl⟩
  have hF2 : -3 ≤ F ∧ F ≤ 3 := by omega
  have hkr : k % 4 = 0 ∨ k % 4 = 1 ∨ k % 4 = 2 ∨ k % 4 = 3 := by omega
  rcases hkr with hkr | hkr | hkr | hkr
  · skip
    have hkI : (k : Int) % 4 = 0 := by omega
    by_cases hs : around (n.tdiv 28) 2 = 1
    · have hsb : (around (n.tdiv 28) 2 == 1) = true := by simpa using hs
      have Hz : Hid (nearZ n = -(((2 ^ nearE 0 : Nat) : Int) + F)) := Lib.hid (by unfold nearZ; rw [if_pos hs, hk0, Int.toNat_natCast, hkr, hF])
      generalize around (n.tdiv 28) 2 = sg at *
      go_enter Tryd.func24, Tryd.ntmps24
      go_wp2_with fail
      refine (Ha.out _).mono ?_
      rintro e w1 ⟨rfl, rfl⟩
      go_wp2_with fail
      generalize hwa : (w.alloc (.cells #[.bool false, .slice none 0 0] 25)).alloc (.cells #[.int .i64 16384, .int .i64 16383, .int .i64 8192, .int .i64 63] 3) = wa at *
      have Hwa := Lib.hid hwa
      clear hwa
      refine (power_z (nearE 0) 16384 wa (by first | exact nearE0 | exact nearE1 | exact nearE2 | exact nearE3) (Nat.le_trans (nearE_le _) (by omega))).mono ?_
      rintro e w3 ⟨⟨vr, rfl, hr⟩, hB⟩
      have Hr3 := Lib.hid hr
      obtain ⟨a3, l3, c3, rfl, -, -, -⟩ := hr.form
      have HB3 := Lib.hid hB
      clear hr hB
      rw [pow_nneg] at Hr3 ⊢
      go_wp2_with fail
      refine (of_any F w3 (by omega) (by omega)).mono ?_
      rintro e w4 ⟨⟨vr, rfl, hr⟩, hB⟩
      have Hr4 := Lib.hid hr
      obtain ⟨a4, l4, c4, rfl, -, -, -⟩ := hr.form
      have HB4 := Lib.hid hB
      clear hr hB
      generalize decide (F < 0) = sF at *
      go_wp2_with fail
      refine (radd_any _ _ _ _ w4 (Hr3.out.below (Nat.le_refl _) HB4.out) Hr4.out (Nat.le_trans (pow_len _) (Nat.le_trans (Nat.succ_le_succ (nearE_le _)) (by omega))) (Nat.le_trans (t4_len _ (by omega)) (by omega))).mono ?_
      rintro e w5 ⟨⟨vr, rfl, hr⟩, hB⟩
      have Hr5 := Lib.hid hr
      obtain ⟨a5, l5, c5, rfl, -, -, -⟩ := hr.form
      have HB5 := Lib.hid hB
      clear hr hB
      have HL6 := Lib.hid (near_len (nearE 0) F (nearE_le _) hF2)
      generalize ((2 ^ nearE 0 : Nat) : Int) + F = z6 at *
      generalize hsz : decide (z6 < 0) = sz at *
      have HB0 := Lib.hid (((Below.refl w.heap.size w).alloc (Nat.le_refl _) (.cells #[.bool false, .slice none 0 0] 25)).alloc (by simp) (.cells #[.int .i64 16384, .int .i64 16383, .int .i64 8192, .int .i64 63] 3))
      have HT0 := Lib.hid ((Two.new w 25 (.bool false) (.slice none 0 0)).alloc (.cells #[.int .i64 16384, .int .i64 16383, .int .i64 8192, .int .i64 63] 3))
      rw [Hwa.out] at HB0 HT0
      have HB3a := Lib.hid (HB0.out.trans (HB3.out.mono HB0.out.size))
      have HB4a := Lib.hid (HB3a.out.trans (HB4.out.mono HB3a.out.size))
      have HB5a := Lib.hid (HB4a.out.trans (HB5.out.mono HB4a.out.size))
      have HT3 := Lib.hid (HT0.out.below HB3.out HT0.out.lt)
      have HT4 := Lib.hid (HT3.out.below HB4.out HT3.out.lt)
      have HT5 := Lib.hid (HT4.out.below HB5.out HT4.out.lt)
      obtain ⟨b5, hb5⟩ : ∃ b, w5.heap.size = b := ⟨_, rfl⟩
      obtain ⟨w6, hw6⟩ : ∃ w6, w5.alloc (.cells #[.bool sz, .slice a5 l5 c5] 25) = w6 := ⟨_, rfl⟩
      have hB6 : Below w5.heap.size w5 w6 := by rw [← hw6]; exact (Below.refl _ _).alloc (Nat.le_refl _) _
      have HT6 := Lib.hid (HT5.out.below hB6 HT5.out.lt)
      have HU6 : Hid (Two w6 b5 25 (.bool sz) (.slice a5 l5 c5)) := Lib.hid (by rw [← hw6, ← hb5]; exact Two.new ..)
      have Hr6 := Lib.hid (Hr5.out.below (Nat.le_refl _) hB6)
      have HB6 := Lib.hid (HB5a.out.trans (hB6.mono HB5a.out.size))
      have d0 := HU6.out.cell0
      have d1 := HU6.out.cell1
      have hww : w.heap.size < w6.heap.size := HT6.out.lt
      clear hB6
      go_wp2_with fail
      refine (Hb.out w6).mono ?_
      rintro e w7 ⟨rfl, rfl⟩
      clear hw6
      go_wp2_with fail
      refine (rneg_any _ _ _ Hr6.out (Nat.le_trans HL6.out (by omega))).mono ?_
      rintro e w7 ⟨⟨vr, rfl, hr⟩, hB⟩
      have Hr7 := Lib.hid hr
      obtain ⟨a7, l7, c7, rfl, -, -, -⟩ := hr.form
      have HB7 := Lib.hid hB
      clear hr hB
      rw [← Hz.out] at Hr7 ⊢
      generalize decide (nearZ n < 0) = sn at *
      have HT7 := Lib.hid (HT6.out.below HB7.out HT6.out.lt)
      have t0 := HT7.out.cell0
      have t1 := HT7.out.cell1
      have t2 := HT7.out.frozen 0
      have t3 := HT7.out.frozen 1
      go_wp2
      refine bodyPost_ret (v := .agg #[.bool sn, .slice a7 l7 c7]) (by simp [results, Tryd.results24, go_sem, t0, t1]) rfl ⟨⟨_, rfl, Hr7.out.set_two HT7.out _ _⟩, ?_⟩
      exact ((HB6.out.trans (HB7.out.mono HB6.out.size)).setCell (p := ⟨w.heap.size, 0, none⟩) (Nat.le_refl _) _).setCell (p := ⟨w.heap.size, 1, none⟩) (Nat.le_refl _) _
    · have hsb : (around (n.tdiv 28) 2 == 1) = false := by simpa using hs
      have Hz : Hid (nearZ n = ((2 ^ nearE 0 : Nat) : Int) + F) := Lib.hid (by unfold nearZ; rw [if_neg hs, hk0, Int.toNat_natCast, hkr, hF])
      generalize around (n.tdiv 28) 2 = sg at *
      go_enter Tryd.func24, Tryd.ntmps24
      go_wp2_with fail
      refine (Ha.out _).mono ?_
      rintro e w1 ⟨rfl, rfl⟩
      go_wp2_with fail
      generalize hwa : (w.alloc (.cells #[.bool false, .slice none 0 0] 25)).alloc (.cells #[.int .i64 16384, .int .i64 16383, .int .i64 8192, .int .i64 63] 3) = wa at *
      have Hwa := Lib.hid hwa
      clear hwa
      refine (power_z (nearE 0) 16384 wa (by first | exact nearE0 | exact nearE1 | exact nearE2 | exact nearE3) (Nat.le_trans (nearE_le _) (by omega))).mono ?_
      rintro e w3 ⟨⟨vr, rfl, hr⟩, hB⟩
      have Hr3 := Lib.hid hr
      obtain ⟨a3, l3, c3, rfl, -, -, -⟩ := hr.form
      have HB3 := Lib.hid hB
      clear hr hB
      rw [pow_nneg] at Hr3 ⊢
      go_wp2_with fail
      refine (of_any F w3 (by omega) (by omega)).mono ?_
      rintro e w4 ⟨⟨vr, rfl, hr⟩, hB⟩
      have Hr4 := Lib.hid hr
      obtain ⟨a4, l4, c4, rfl, -, -, -⟩ := hr.form
      have HB4 := Lib.hid hB
      clear hr hB
      generalize decide (F < 0) = sF at *
      go_wp2_with fail
      refine (radd_any _ _ _ _ w4 (Hr3.out.below (Nat.le_refl _) HB4.out) Hr4.out (Nat.le_trans (pow_len _) (Nat.le_trans (Nat.succ_le_succ (nearE_le _)) (by omega))) (Nat.le_trans (t4_len _ (by omega)) (by omega))).mono ?_
      rintro e w5 ⟨⟨vr, rfl, hr⟩, hB⟩
      have Hr5 := Lib.hid hr
      obtain ⟨a5, l5, c5, rfl, -, -, -⟩ := hr.form
      have HB5 := Lib.hid hB
      clear hr hB
      have HL6 := Lib.hid (near_len (nearE 0) F (nearE_le _) hF2)
      generalize ((2 ^ nearE 0 : Nat) : Int) + F = z6 at *
      generalize hsz : decide (z6 < 0) = sz at *
      have HB0 := Lib.hid (((Below.refl w.heap.size w).alloc (Nat.le_refl _) (.cells #[.bool false, .slice none 0 0] 25)).alloc (by simp) (.cells #[.int .i64 16384, .int .i64 16383, .int .i64 8192, .int .i64 63] 3))
      have HT0 := Lib.hid ((Two.new w 25 (.bool false) (.slice none 0 0)).alloc (.cells #[.int .i64 16384, .int .i64 16383, .int .i64 8192, .int .i64 63] 3))
      rw [Hwa.out] at HB0 HT0
      have HB3a := Lib.hid (HB0.out.trans (HB3.out.mono HB0.out.size))
      have HB4a := Lib.hid (HB3a.out.trans (HB4.out.mono HB3a.out.size))
      have HB5a := Lib.hid (HB4a.out.trans (HB5.out.mono HB4a.out.size))
      have HT3 := Lib.hid (HT0.out.below HB3.out HT0.out.lt)
      have HT4 := Lib.hid (HT3.out.below HB4.out HT3.out.lt)
      have HT5 := Lib.hid (HT4.out.below HB5.out HT4.out.lt)
      obtain ⟨b5, hb5⟩ : ∃ b, w5.heap.size = b := ⟨_, rfl⟩
      obtain ⟨w6, hw6⟩ : ∃ w6, w5.alloc (.cells #[.bool sz, .slice a5 l5 c5] 25) = w6 := ⟨_, rfl⟩
      have hB6 : Below w5.heap.size w5 w6 := by rw [← hw6]; exact (Below.refl _ _).alloc (Nat.le_refl _) _
      have HT6 := Lib.hid (HT5.out.below hB6 HT5.out.lt)
      have HU6 : Hid (Two w6 b5 25 (.bool sz) (.slice a5 l5 c5)) := Lib.hid (by rw [← hw6, ← hb5]; exact Two.new ..)
      have Hr6 := Lib.hid (Hr5.out.below (Nat.le_refl _) hB6)
      have HB6 := Lib.hid (HB5a.out.trans (hB6.mono HB5a.out.size))
      have d0 := HU6.out.cell0
      have d1 := HU6.out.cell1
      have hww : w.heap.size < w6.heap.size := HT6.out.lt
      clear hB6
      go_wp2_with fail
      refine (Hb.out w6).mono ?_
      rintro e w7 ⟨rfl, rfl⟩
      clear hw6
      have t0 := HT6.out.cell0
      have t1 := HT6.out.cell1
      have t2 := HT6.out.frozen 0
      have t3 := HT6.out.frozen 1
      go_wp2
      refine bodyPost_ret (v := .agg #[.bool sz, .slice a5 l5 c5]) (by simp [results, Tryd.results24, go_sem, t0, t1]) rfl ⟨⟨_, rfl, ?_⟩, ?_⟩
      · rw [Hz.out]; exact Hr6.out.set_two HT6.out _ _
      · exact (HB6.out.setCell (p := ⟨w.heap.size, 0, none⟩) (Nat.le_refl _) _).setCell (p := ⟨w.heap.size, 1, none⟩) (Nat.le_refl _) _
  · skip
    have hkI : (k : Int) % 4 = 1 := by omega
    by_cases hs : around (n.tdiv 28) 2 = 1
    · have hsb : (around (n.tdiv 28) 2 == 1) = true := by simpa using hs
      have Hz : Hid (nearZ n = -(((2 ^ nearE 1 : Nat) : Int) + F)) := Lib.hid (by unfold nearZ; rw [if_pos hs, hk0, Int.toNat_natCast, hkr, hF])
      generalize around (n.tdiv 28) 2 = sg at *
      go_enter Tryd.func24, Tryd.ntmps24
      go_wp2_with fail
      refine (Ha.out _).mono ?_
      rintro e w1 ⟨rfl, rfl⟩
      go_wp2_with fail
      generalize hwa : (w.alloc (.cells #[.bool false, .slice none 0 0] 25)).alloc (.cells #[.int .i64 16384, .int .i64 16383, .int .i64 8192, .int .i64 63] 3) = wa at *
      have Hwa := Lib.hid hwa
      clear hwa
      refine (power_z (nearE 1) 16383 wa (by first | exact nearE0 | exact nearE1 | exact nearE2 | exact nearE3) (Nat.le_trans (nearE_le _) (by omega))).mono ?_
      rintro e w3 ⟨⟨vr, rfl, hr⟩, hB⟩
      have Hr3 := Lib.hid hr
      obtain ⟨a3, l3, c3, rfl, -, -, -⟩ := hr.form
      have HB3 := Lib.hid hB
      clear hr hB
      rw [pow_nneg] at Hr3 ⊢
      go_wp2_with fail
      refine (of_any F w3 (by omega) (by omega)).mono ?_
      rintro e w4 ⟨⟨vr, rfl, hr⟩, hB⟩
      have Hr4 := Lib.hid hr
      obtain ⟨a4, l4, c4, rfl, -, -, -⟩ := hr.form
      have HB4 := Lib.hid hB
      clear hr hB
      generalize decide (F < 0) = sF at *
      go_wp2_with fail
      refine (radd_any _ _ _ _ w4 (Hr3.out.below (Nat.le_refl _) HB4.out) Hr4.out (Nat.le_trans (pow_len _) (Nat.le_trans (Nat.succ_le_succ (nearE_le _)) (by omega))) (Nat.le_trans (t4_len _ (by omega)) (by omega))).mono ?_
      rintro e w5 ⟨⟨vr, rfl, hr⟩, hB⟩
      have Hr5 := Lib.hid hr
      obtain ⟨a5, l5, c5, rfl, -, -, -⟩ := hr.form
      have HB5 := Lib.hid hB
      clear hr hB
      have HL6 := Lib.hid (near_len (nearE 1) F (nearE_le _) hF2)
      generalize ((2 ^ nearE 1 : Nat) : Int) + F = z6 at *
      generalize hsz : decide (z6 < 0) = sz at *
      have HB0 := Lib.hid (((Below.refl w.heap.size w).alloc (Nat.le_refl _) (.cells #[.bool false, .slice none 0 0] 25)).alloc (by simp) (.cells #[.int .i64 16384, .int .i64 16383, .int .i64 8192, .int .i64 63] 3))
      have HT0 := Lib.hid ((Two.new w 25 (.bool false) (.slice none 0 0)).alloc (.cells #[.int .i64 16384, .int .i64 16383, .int .i64 8192, .int .i64 63] 3))
      rw [Hwa.out] at HB0 HT0
      have HB3a := Lib.hid (HB0.out.trans (HB3.out.mono HB0.out.size))
      have HB4a := Lib.hid (HB3a.out.trans (HB4.out.mono HB3a.out.size))
      have HB5a := Lib.hid (HB4a.out.trans (HB5.out.mono HB4a.out.size))
      have HT3 := Lib.hid (HT0.out.below HB3.out HT0.out.lt)
      have HT4 := Lib.hid (HT3.out.below HB4.out HT3.out.lt)
      have HT5 := Lib.hid (HT4.out.below HB5.out HT4.out.lt)
      obtain ⟨b5, hb5⟩ : ∃ b, w5.heap.size = b := ⟨_, rfl⟩
      obtain ⟨w6, hw6⟩ : ∃ w6, w5.alloc (.cells #[.bool sz, .slice a5 l5 c5] 25) = w6 := ⟨_, rfl⟩
      have hB6 : Below w5.heap.size w5 w6 := by rw [← hw6]; exact (Below.refl _ _).alloc (Nat.le_refl _) _
      have HT6 := Lib.hid (HT5.out.below hB6 HT5.out.lt)
      have HU6 : Hid (Two w6 b5 25 (.bool sz) (.slice a5 l5 c5)) := Lib.hid (by rw [← hw6, ← hb5]; exact Two.new ..)
      have Hr6 := Lib.hid (Hr5.out.below (Nat.le_refl _) hB6)
      have HB6 := Lib.hid (HB5a.out.trans (hB6.mono HB5a.out.size))
      have d0 := HU6.out.cell0
      have d1 := HU6.out.cell1
      have hww : w.heap.size < w6.heap.size := HT6.out.lt
      clear hB6
      go_wp2_with fail
      refine (Hb.out w6).mono ?_
      rintro e w7 ⟨rfl, rfl⟩
      clear hw6
      go_wp2_with fail
      refine (rneg_any _ _ _ Hr6.out (Nat.le_trans HL6.out (by omega))).mono ?_
      rintro e w7 ⟨⟨vr, rfl, hr⟩, hB⟩
      have Hr7 := Lib.hid hr
      obtain ⟨a7, l7, c7, rfl, -, -, -⟩ := hr.form
      have HB7 := Lib.hid hB
      clear hr hB
      rw [← Hz.out] at Hr7 ⊢
      generalize decide (nearZ n < 0) = sn at *
      have HT7 := Lib.hid (HT6.out.below HB7.out HT6.out.lt)
      have t0 := HT7.out.cell0
      have t1 := HT7.out.cell1
      have t2 := HT7.out.frozen 0
      have t3 := HT7.out.frozen 1
      go_wp2
      refine bodyPost_ret (v := .agg #[.bool sn, .slice a7 l7 c7]) (by simp [results, Tryd.results24, go_sem, t0, t1]) rfl ⟨⟨_, rfl, Hr7.out.set_two HT7.out _ _⟩, ?_⟩
      exact ((HB6.out.trans (HB7.out.mono HB6.out.size)).setCell (p := ⟨w.heap.size, 0, none⟩) (Nat.le_refl _) _).setCell (p := ⟨w.heap.size, 1, none⟩) (Nat.le_refl _) _
    · have hsb : (around (n.tdiv 28) 2 == 1) = false := by simpa using hs
      have Hz : Hid (nearZ n = ((2 ^ nearE 1 : Nat) : Int) + F) := Lib.hid (by unfold nearZ; rw [if_neg hs, hk0, Int.toNat_natCast, hkr, hF])
      generalize around (n.tdiv 28) 2 = sg at *
      go_enter Tryd.func24, Tryd.ntmps24
      go_wp2_with fail
      refine (Ha.out _).mono ?_
      rintro e w1 ⟨rfl, rfl⟩
      go_wp2_with fail
      generalize hwa : (w.alloc (.cells #[.bool false, .slice none 0 0] 25)).alloc (.cells #[.int .i64 16384, .int .i64 16383, .int .i64 8192, .int .i64 63] 3) = wa at *
      have Hwa := Lib.hid hwa
      clear hwa
      refine (power_z (nearE 1) 16383 wa (by first | exact nearE0 | exact nearE1 | exact nearE2 | exact nearE3) (Nat.le_trans (nearE_le _) (by omega))).mono ?_
      rintro e w3 ⟨⟨vr, rfl, hr⟩, hB⟩
      have Hr3 := Lib.hid hr
      obtain ⟨a3, l3, c3, rfl, -, -, -⟩ := hr.form
      have HB3 := Lib.hid hB
      clear hr hB
      rw [pow_nneg] at Hr3 ⊢
      go_wp2_with fail
      refine (of_any F w3 (by omega) (by omega)).mono ?_
      rintro e w4 ⟨⟨vr, rfl, hr⟩, hB⟩
      have Hr4 := Lib.hid hr
      obtain ⟨a4, l4, c4, rfl, -, -, -⟩ := hr.form
      have HB4 := Lib.hid hB
      clear hr hB
      generalize decide (F < 0) = sF at *
      go_wp2_with fail
      refine (radd_any _ _ _ _ w4 (Hr3.out.below (Nat.le_refl _) HB4.out) Hr4.out (Nat.le_trans (pow_len _) (Nat.le_trans (Nat.succ_le_succ (nearE_le _)) (by omega))) (Nat.le_trans (t4_len _ (by omega)) (by omega))).mono ?_
      rintro e w5 ⟨⟨vr, rfl, hr⟩, hB⟩
      have Hr5 := Lib.hid hr
      obtain ⟨a5, l5, c5, rfl, -, -, -⟩ := hr.form
      have HB5 := Lib.hid hB
      clear hr hB
      have HL6 := Lib.hid (near_len (nearE 1) F (nearE_le _) hF2)
      generalize ((2 ^ nearE 1 : Nat) : Int) + F = z6 at *
      generalize hsz : decide (z6 < 0) = sz at *
      have HB0 := Lib.hid (((Below.refl w.heap.size w).alloc (Nat.le_refl _) (.cells #[.bool false, .slice none 0 0] 25)).alloc (by simp) (.cells #[.int .i64 16384, .int .i64 16383, .int .i64 8192, .int .i64 63] 3))
      have HT0 := Lib.hid ((Two.new w 25 (.bool false) (.slice none 0 0)).alloc (.cells #[.int .i64 16384, .int .i64 16383, .int .i64 8192, .int .i64 63] 3))
      rw [Hwa.out] at HB0 HT0
      have HB3a := Lib.hid (HB0.out.trans (HB3.out.mono HB0.out.size))
      have HB4a := Lib.hid (HB3a.out.trans (HB4.out.mono HB3a.out.size))
      have HB5a := Lib.hid (HB4a.out.trans (HB5.out.mono HB4a.out.size))
      have HT3 := Lib.hid (HT0.out.below HB3.out HT0.out.lt)
      have HT4 := Lib.hid (HT3.out.below HB4.out HT3.out.lt)
      have HT5 := Lib.hid (HT4.out.below HB5.out HT4.out.lt)
      obtain ⟨b5, hb5⟩ : ∃ b, w5.heap.size = b := ⟨_, rfl⟩
      obtain ⟨w6, hw6⟩ : ∃ w6, w5.alloc (.cells #[.bool sz, .slice a5 l5 c5] 25) = w6 := ⟨_, rfl⟩
      have hB6 : Below w5.heap.size w5 w6 := by rw [← hw6]; exact (Below.refl _ _).alloc (Nat.le_refl _) _
      have HT6 := Lib.hid (HT5.out.below hB6 HT5.out.lt)
      have HU6 : Hid (Two w6 b5 25 (.bool sz) (.slice a5 l5 c5)) := Lib.hid (by rw [← hw6, ← hb5]; exact Two.new ..)
      have Hr6 := Lib.hid (Hr5.out.below (Nat.le_refl _) hB6)
      have HB6 := Lib.hid (HB5a.out.trans (hB6.mono HB5a.out.size))
      have d0 := HU6.out.cell0
      have d1 := HU6.out.cell1
      have hww : w.heap.size < w6.heap.size := HT6.out.lt
      clear hB6
      go_wp2_with fail
      refine (Hb.out w6).mono ?_
      rintro e w7 ⟨rfl, rfl⟩
      clear hw6
      have t0 := HT6.out.cell0
      have t1 := HT6.out.cell1
      have t2 := HT6.out.frozen 0
      have t3 := HT6.out.frozen 1
      go_wp2
      refine bodyPost_ret (v := .agg #[.bool sz, .slice a5 l5 c5]) (by simp [results, Tryd.results24, go_sem, t0, t1]) rfl ⟨⟨_, rfl, ?_⟩, ?_⟩
      · rw [Hz.out]; exact Hr6.out.set_two HT6.out _ _
      · exact (HB6.out.setCell (p := ⟨w.heap.size, 0, none⟩) (Nat.le_refl _) _).setCell (p := ⟨w.heap.size, 1, none⟩) (Nat.le_refl _) _
  · skip
    have hkI : (k : Int) % 4 = 2 := by omega
    by_cases hs : around (n.tdiv 28) 2 = 1
    · have hsb : (around (n.tdiv 28) 2 == 1) = true := by simpa using hs
      have Hz : Hid (nearZ n = -(((2 ^ nearE 2 : Nat) : Int) + F)) := Lib.hid (by unfold nearZ; rw [if_pos hs, hk0, Int.toNat_natCast, hkr, hF])
      generalize around (n.tdiv 28) 2 = sg at *
      go_enter Tryd.func24, Tryd.ntmps24
      go_wp2_with fail
      refine (Ha.out _).mono ?_
      rintro e w1 ⟨rfl, rfl⟩
      go_wp2_with fail
      generalize hwa : (w.alloc (.cells #[.bool false, .slice none 0 0] 25)).alloc (.cells #[.int .i64 16384, .int .i64 16383, .int .i64 8192, .int .i64 63] 3) = wa at *
      have Hwa := Lib.hid hwa
      clear hwa
      refine (power_z (nearE 2) 8192 wa (by first | exact nearE0 | exact nearE1 | exact nearE2 | exact nearE3) (Nat.le_trans (nearE_le _) (by omega))).mono ?_
      rintro e w3 ⟨⟨vr, rfl, hr⟩, hB⟩
      have Hr3 := Lib.hid hr
      obtain ⟨a3, l3, c3, rfl, -, -, -⟩ := hr.form
      have HB3 := Lib.hid hB
      clear hr hB
      rw [pow_nneg] at Hr3 ⊢
      go_wp2_with fail
      refine (of_any F w3 (by omega) (by omega)).mono ?_
      rintro e w4 ⟨⟨vr, rfl, hr⟩, hB⟩
      have Hr4 := Lib.hid hr
      obtain ⟨a4, l4, c4, rfl, -, -, -⟩ := hr.form
      have HB4 := Lib.hid hB
      clear hr hB
      generalize decide (F < 0) = sF at *
      go_wp2_with fail
      refine (radd_any _ _ _ _ w4 (Hr3.out.below (Nat.le_refl _) HB4.out) Hr4.out (Nat.le_trans (pow_len _) (Nat.le_trans (Nat.succ_le_succ (nearE_le _)) (by omega))) (Nat.le_trans (t4_len _ (by omega)) (by omega))).mono ?_
      rintro e w5 ⟨⟨vr, rfl, hr⟩, hB⟩
      have Hr5 := Lib.hid hr
      obtain ⟨a5, l5, c5, rfl, -, -, -⟩ := hr.form
      have HB5 := Lib.hid hB
      clear hr hB
      have HL6 := Lib.hid (near_len (nearE 2) F (nearE_le _) hF2)
      generalize ((2 ^ nearE 2 : Nat) : Int) + F = z6 at *
      generalize hsz : decide (z6 < 0) = sz at *
      have HB0 := Lib.hid (((Below.refl w.heap.size w).alloc (Nat.le_refl _) (.cells #[.bool false, .slice none 0 0] 25)).alloc (by simp) (.cells #[.int .i64 16384, .int .i64 16383, .int .i64 8192, .int .i64 63] 3))
      have HT0 := Lib.hid ((Two.new w 25 (.bool false) (.slice none 0 0)).alloc (.cells #[.int .i64 16384, .int .i64 16383, .int .i64 8192, .int .i64 63] 3))
      rw [Hwa.out] at HB0 HT0
      have HB3a := Lib.hid (HB0.out.trans (HB3.out.mono HB0.out.size))
      have HB4a := Lib.hid (HB3a.out.trans (HB4.out.mono HB3a.out.size))
      have HB5a := Lib.hid (HB4a.out.trans (HB5.out.mono HB4a.out.size))
      have HT3 := Lib.hid (HT0.out.below HB3.out HT0.out.lt)
      have HT4 := Lib.hid (HT3.out.below HB4.out HT3.out.lt)
      have HT5 := Lib.hid (HT4.out.below HB5.out HT4.out.lt)
      obtain ⟨b5, hb5⟩ : ∃ b, w5.heap.size = b := ⟨_, rfl⟩
      obtain ⟨w6, hw6⟩ : ∃ w6, w5.alloc (.cells #[.bool sz, .slice a5 l5 c5] 25) = w6 := ⟨_, rfl⟩
      have hB6 : Below w5.heap.size w5 w6 := by rw [← hw6]; exact (Below.refl _ _).alloc (Nat.le_refl _) _
      have HT6 := Lib.hid (HT5.out.below hB6 HT5.out.lt)
      have HU6 : Hid (Two w6 b5 25 (.bool sz) (.slice a5 l5 c5)) := Lib.hid (by rw [← hw6, ← hb5]; exact Two.new ..)
      have Hr6 := Lib.hid (Hr5.out.below (Nat.le_refl _) hB6)
      have HB6 := Lib.hid (HB5a.out.trans (hB6.mono HB5a.out.size))
      have d0 := HU6.out.cell0
      have d1 := HU6.out.cell1
      have hww : w.heap.size < w6.heap.size := HT6.out.lt
      clear hB6
      go_wp2_with fail
      refine (Hb.out w6).mono ?_
      rintro e w7 ⟨rfl, rfl⟩
      clear hw6
      go_wp2_with fail
      refine (rneg_any _ _ _ Hr6.out (Nat.le_trans HL6.out (by omega))).mono ?_
      rintro e w7 ⟨⟨vr, rfl, hr⟩, hB⟩
      have Hr7 := Lib.hid hr
      obtain ⟨a7, l7, c7, rfl, -, -, -⟩ := hr.form
      have HB7 := Lib.hid hB
      clear hr hB
      rw [← Hz.out] at Hr7 ⊢
      generalize decide (nearZ n < 0) = sn at *
      have HT7 := Lib.hid (HT6.out.below HB7.out HT6.out.lt)
      have t0 := HT7.out.cell0
      have t1 := HT7.out.cell1
      have t2 := HT7.out.frozen 0
      have t3 := HT7.out.frozen 1
      go_wp2
      refine bodyPost_ret (v := .agg #[.bool sn, .slice a7 l7 c7]) (by simp [results, Tryd.results24, go_sem, t0, t1]) rfl ⟨⟨_, rfl, Hr7.out.set_two HT7.out _ _⟩, ?_⟩
      exact ((HB6.out.trans (HB7.out.mono HB6.out.size)).setCell (p := ⟨w.heap.size, 0, none⟩) (Nat.le_refl _) _).setCell (p := ⟨w.heap.size, 1, none⟩) (Nat.le_refl _) _
    · have hsb : (around (n.tdiv 28) 2 == 1) = false := by simpa using hs
      have Hz : Hid (nearZ n = ((2 ^ nearE 2 : Nat) : Int) + F) := Lib.hid (by unfold nearZ; rw [if_neg hs, hk0, Int.toNat_natCast, hkr, hF])
      generalize around (n.tdiv 28) 2 = sg at *
      go_enter Tryd.func24, Tryd.ntmps24
      go_wp2_with fail
      refine (Ha.out _).mono ?_
      rintro e w1 ⟨rfl, rfl⟩
      go_wp2_with fail
      generalize hwa : (w.alloc (.cells #[.bool false, .slice none 0 0] 25)).alloc (.cells #[.int .i64 16384, .int .i64 16383, .int .i64 8192, .int .i64 63] 3) = wa at *
      have Hwa := Lib.hid hwa
      clear hwa
      refine (power_z (nearE 2) 8192 wa (by first | exact nearE0 | exact nearE1 | exact nearE2 | exact nearE3) (Nat.le_trans (nearE_le _) (by omega))).mono ?_
      rintro e w3 ⟨⟨vr, rfl, hr⟩, hB⟩
      have Hr3 := Lib.hid hr
      obtain ⟨a3, l3, c3, rfl, -, -, -⟩ := hr.form
      have HB3 := Lib.hid hB
      clear hr hB
      rw [pow_nneg] at Hr3 ⊢
      go_wp2_with fail
      refine (of_any F w3 (by omega) (by omega)).mono ?_
      rintro e w4 ⟨⟨vr, rfl, hr⟩, hB⟩
      have Hr4 := Lib.hid hr
      obtain ⟨a4, l4, c4, rfl, -, -, -⟩ := hr.form
      have HB4 := Lib.hid hB
      clear hr hB
      generalize decide (F < 0) = sF at *
      go_wp2_with fail
      refine (radd_any _ _ _ _ w4 (Hr3.out.below (Nat.le_refl _) HB4.out) Hr4.out (Nat.le_trans (pow_len _) (Nat.le_trans (Nat.succ_le_succ (nearE_le _)) (by omega))) (Nat.le_trans (t4_len _ (by omega)) (by omega))).mono ?_
      rintro e w5 ⟨⟨vr, rfl, hr⟩, hB⟩
      have Hr5 := Lib.hid hr
      obtain ⟨a5, l5, c5, rfl, -, -, -⟩ := hr.form
      have HB5 := Lib.hid hB
      clear hr hB
      have HL6 := Lib.hid (near_len (nearE 2) F (nearE_le _) hF2)
      generalize ((2 ^ nearE 2 : Nat) : Int) + F = z6 at *
      generalize hsz : decide (z6 < 0) = sz at *
      have HB0 := Lib.hid (((Below.refl w.heap.size w).alloc (Nat.le_refl _) (.cells #[.bool false, .slice none 0 0] 25)).alloc (by simp) (.cells #[.int .i64 16384, .int .i64 16383, .int .i64 8192, .int .i64 63] 3))
      have HT0 := Lib.hid ((Two.new w 25 (.bool false) (.slice none 0 0)).alloc (.cells #[.int .i64 16384, .int .i64 16383, .int .i64 8192, .int .i64 63] 3))
      rw [Hwa.out] at HB0 HT0
      have HB3a := Lib.hid (HB0.out.trans (HB3.out.mono HB0.out.size))
      have HB4a := Lib.hid (HB3a.out.trans (HB4.out.mono HB3a.out.size))
      have HB5a := Lib.hid (HB4a.out.trans (HB5.out.mono HB4a.out.size))
      have HT3 := Lib.hid (HT0.out.below HB3.out HT0.out.lt)
      have HT4 := Lib.hid (HT3.out.below HB4.out HT3.out.lt)
      have HT5 := Lib.hid (HT4.out.below HB5.out HT4.out.lt)
      obtain ⟨b5, hb5⟩ : ∃ b, w5.heap.size = b := ⟨_, rfl⟩
      obtain ⟨w6, hw6⟩ : ∃ w6, w5.alloc (.cells #[.bool sz, .slice a5 l5 c5] 25) = w6 := ⟨_, rfl⟩
      have hB6 : Below w5.heap.size w5 w6 := by rw [← hw6]; exact (Below.refl _ _).alloc (Nat.le_refl _) _
      have HT6 := Lib.hid (HT5.out.below hB6 HT5.out.lt)
      have HU6 : Hid (Two w6 b5 25 (.bool sz) (.slice a5 l5 c5)) := Lib.hid (by rw [← hw6, ← hb5]; exact Two.new ..)
      have Hr6 := Lib.hid (Hr5.out.below (Nat.le_refl _) hB6)
      have HB6 := Lib.hid (HB5a.out.trans (hB6.mono HB5a.out.size))
      have d0 := HU6.out.cell0
      have d1 := HU6.out.cell1
      have hww : w.heap.size < w6.heap.size := HT6.out.lt
      clear hB6
      go_wp2_with fail
      refine (Hb.out w6).mono ?_
      rintro e w7 ⟨rfl, rfl⟩
      clear hw6
      have t0 := HT6.out.cell0
      have t1 := HT6.out.cell1
      have t2 := HT6.out.frozen 0
      have t3 := HT6.out.frozen 1
      go_wp2
      refine bodyPost_ret (v := .agg #[.bool sz, .slice a5 l5 c5]) (by simp [results, Tryd.results24, go_sem, t0, t1]) rfl ⟨⟨_, rfl, ?_⟩, ?_⟩
      · rw [Hz.out]; exact Hr6.out.set_two HT6.out _ _
      · exact (HB6.out.setCell (p := ⟨w.heap.size, 0, none⟩) (Nat.le_refl _) _).setCell (p := ⟨w.heap.size, 1, none⟩) (Nat.le_refl _) _
  · skip
    have hkI : (k : Int) % 4 = 3 := by omega
    by_cases hs : around (n.tdiv 28) 2 = 1
    · have hsb : (around (n.tdiv 28) 2 == 1) = true := by simpa using hs
      have Hz : Hid (nearZ n = -(((2 ^ nearE 3 : Nat) : Int) + F)) := Lib.hid (by unfold nearZ; rw [if_pos hs, hk0, Int.toNat_natCast, hkr, hF])
      generalize around (n.tdiv 28) 2 = sg at *
      go_enter Tryd.func24, Tryd.ntmps24
      go_wp2_with fail
      refine (Ha.out _).mono ?_
      rintro e w1 ⟨rfl, rfl⟩
      go_wp2_with fail
      generalize hwa : (w.alloc (.cells #[.bool false, .slice none 0 0] 25)).alloc (.cells #[.int .i64 16384, .int .i64 16383, .int .i64 8192, .int .i64 63] 3) = wa at *
      have Hwa := Lib.hid hwa
      clear hwa
      refine (power_z (nearE 3) 63 wa (by first | exact nearE0 | exact nearE1 | exact nearE2 | exact nearE3) (Nat.le_trans (nearE_le _) (by omega))).mono ?_
      rintro e w3 ⟨⟨vr, rfl, hr⟩, hB⟩
      have Hr3 := Lib.hid hr
      obtain ⟨a3, l3, c3, rfl, -, -, -⟩ := hr.form
      have HB3 := Lib.hid hB
      clear hr hB
      rw [pow_nneg] at Hr3 ⊢
      go_wp2_with fail
      refine (of_any F w3 (by omega) (by omega)).mono ?_
      rintro e w4 ⟨⟨vr, rfl, hr⟩, hB⟩
      have Hr4 := Lib.hid hr
      obtain ⟨a4, l4, c4, rfl, -, -, -⟩ := hr.form
      have HB4 := Lib.hid hB
      clear hr hB
      generalize decide (F < 0) = sF at *
      go_wp2_with fail
      refine (radd_any _ _ _ _ w4 (Hr3.out.below (Nat.le_refl _) HB4.out) Hr4.out (Nat.le_trans (pow_len _) (Nat.le_trans (Nat.succ_le_succ (nearE_le _)) (by omega))) (Nat.le_trans (t4_len _ (by omega)) (by omega))).mono ?_
      rintro e w5 ⟨⟨vr, rfl, hr⟩, hB⟩
      have Hr5 := Lib.hid hr
      obtain ⟨a5, l5, c5, rfl, -, -, -⟩ := hr.form
      have HB5 := Lib.hid hB
      clear hr hB
      have HL6 := Lib.hid (near_len (nearE 3) F (nearE_le _) hF2)
      generalize ((2 ^ nearE 3 : Nat) : Int) + F = z6 at *
      generalize hsz : decide (z6 < 0) = sz at *
      have HB0 := Lib.hid (((Below.refl w.heap.size w).alloc (Nat.le_refl _) (.cells #[.bool false, .slice none 0 0] 25)).alloc (by simp) (.cells #[.int .i64 16384, .int .i64 16383, .int .i64 8192, .int .i64 63] 3))
      have HT0 := Lib.hid ((Two.new w 25 (.bool false) (.slice none 0 0)).alloc (.cells #[.int .i64 16384, .int .i64 16383, .int .i64 8192, .int .i64 63] 3))
      rw [Hwa.out] at HB0 HT0
      have HB3a := Lib.hid (HB0.out.trans (HB3.out.mono HB0.out.size))
      have HB4a := Lib.hid (HB3a.out.trans (HB4.out.mono HB3a.out.size))
      have HB5a := Lib.hid (HB4a.out.trans (HB5.out.mono HB4a.out.size))
      have HT3 := Lib.hid (HT0.out.below HB3.out HT0.out.lt)
      have HT4 := Lib.hid (HT3.out.below HB4.out HT3.out.lt)
      have HT5 := Lib.hid (HT4.out.below HB5.out HT4.out.lt)
      obtain ⟨b5, hb5⟩ : ∃ b, w5.heap.size = b := ⟨_, rfl⟩
      obtain ⟨w6, hw6⟩ : ∃ w6, w5.alloc (.cells #[.bool sz, .slice a5 l5 c5] 25) = w6 := ⟨_, rfl⟩
      have hB6 : Below w5.heap.size w5 w6 := by rw [← hw6]; exact (Below.refl _ _).alloc (Nat.le_refl _) _
      have HT6 := Lib.hid (HT5.out.below hB6 HT5.out.lt)
      have HU6 : Hid (Two w6 b5 25 (.bool sz) (.slice a5 l5 c5)) := Lib.hid (by rw [← hw6, ← hb5]; exact Two.new ..)
      have Hr6 := Lib.hid (Hr5.out.below (Nat.le_refl _) hB6)
      have HB6 := Lib.hid (HB5a.out.trans (hB6.mono HB5a.out.size))
      have d0 := HU6.out.cell0
      have d1 := HU6.out.cell1
      have hww : w.heap.size < w6.heap.size := HT6.out.lt
      clear hB6
      go_wp2_with fail
      refine (Hb.out w6).mono ?_
      rintro e w7 ⟨rfl, rfl⟩
      clear hw6
      go_wp2_with fail
      refine (rneg_any _ _ _ Hr6.out (Nat.le_trans HL6.out (by omega))).mono ?_
      rintro e w7 ⟨⟨vr, rfl, hr⟩, hB⟩
      have Hr7 := Lib.hid hr
      obtain ⟨a7, l7, c7, rfl, -, -, -⟩ := hr.form
      have HB7 := Lib.hid hB
      clear hr hB
      rw [← Hz.out] at Hr7 ⊢
      generalize decide (nearZ n < 0) = sn at *
      have HT7 := Lib.hid (HT6.out.below HB7.out HT6.out.lt)
      have t0 := HT7.out.cell0
      have t1 := HT7.out.cell1
      have t2 := HT7.out.frozen 0
      have t3 := HT7.out.frozen 1
      go_wp2
      refine bodyPost_ret (v := .agg #[.bool sn, .slice a7 l7 c7]) (by simp [results, Tryd.results24, go_sem, t0, t1]) rfl ⟨⟨_, rfl, Hr7.out.set_two HT7.out _ _⟩, ?_⟩
      exact ((HB6.out.trans (HB7.out.mono HB6.out.size)).setCell (p := ⟨w.heap.size, 0, none⟩) (Nat.le_refl _) _).setCell (p := ⟨w.heap.size, 1, none⟩) (Nat.le_refl _) _
    · have hsb : (around (n.tdiv 28) 2 == 1) = false := by simpa using hs
      have Hz : Hid (nearZ n = ((2 ^ nearE 3 : Nat) : Int) + F) := Lib.hid (by unfold nearZ; rw [if_neg hs, hk0, Int.toNat_natCast, hkr, hF])
      generalize around (n.tdiv 28) 2 = sg at *
      go_enter Tryd.func24, Tryd.ntmps24
      go_wp2_with fail
      refine (Ha.out _).mono ?_
      rintro e w1 ⟨rfl, rfl⟩
      go_wp2_with fail
      generalize hwa : (w.alloc (.cells #[.bool false, .slice none 0 0] 25)).alloc (.cells #[.int .i64 16384, .int .i64 16383, .int .i64 8192, .int .i64 63] 3) = wa at *
      have Hwa := Lib.hid hwa
      clear hwa
      refine (power_z (nearE 3) 63 wa (by first | exact nearE0 | exact nearE1 | exact nearE2 | exact nearE3) (Nat.le_trans (nearE_le _) (by omega))).mono ?_
      rintro e w3 ⟨⟨vr, rfl, hr⟩, hB⟩
      have Hr3 := Lib.hid hr
      obtain ⟨a3, l3, c3, rfl, -, -, -⟩ := hr.form
      have HB3 := Lib.hid hB
      clear hr hB
      rw [pow_nneg] at Hr3 ⊢
      go_wp2_with fail
      refine (of_any F w3 (by omega) (by omega)).mono ?_
      rintro e w4 ⟨⟨vr, rfl, hr⟩, hB⟩
      have Hr4 := Lib.hid hr
      obtain ⟨a4, l4, c4, rfl, -, -, -⟩ := hr.form
      have HB4 := Lib.hid hB
      clear hr hB
      generalize decide (F < 0) = sF at *
      go_wp2_with fail
      refine (radd_any _ _ _ _ w4 (Hr3.out.below (Nat.le_refl _) HB4.out) Hr4.out (Nat.le_trans (pow_len _) (Nat.le_trans (Nat.succ_le_succ (nearE_le _)) (by omega))) (Nat.le_trans (t4_len _ (by omega)) (by omega))).mono ?_
      rintro e w5 ⟨⟨vr, rfl, hr⟩, hB⟩
      have Hr5 := Lib.hid hr
      obtain ⟨a5, l5, c5, rfl, -, -, -⟩ := hr.form
      have HB5 := Lib.hid hB
      clear hr hB
      have HL6 := Lib.hid (near_len (nearE 3) F (nearE_le _) hF2)
      generalize ((2 ^ nearE 3 : Nat) : Int) + F = z6 at *
      generalize hsz : decide (z6 < 0) = sz at *
      have HB0 := Lib.hid (((Below.refl w.heap.size w).alloc (Nat.le_refl _) (.cells #[.bool false, .slice none 0 0] 25)).alloc (by simp) (.cells #[.int .i64 16384, .int .i64 16383, .int .i64 8192, .int .i64 63] 3))
      have HT0 := Lib.hid ((Two.new w 25 (.bool false) (.slice none 0 0)).alloc (.cells #[.int .i64 16384, .int .i64 16383, .int .i64 8192, .int .i64 63] 3))
      rw [Hwa.out] at HB0 HT0
      have HB3a := Lib.hid (HB0.out.trans (HB3.out.mono HB0.out.size))
      have HB4a := Lib.hid (HB3a.out.trans (HB4.out.mono HB3a.out.size))
      have HB5a := Lib.hid (HB4a.out.trans (HB5.out.mono HB4a.out.size))
      have HT3 := Lib.hid (HT0.out.below HB3.out HT0.out.lt)
      have HT4 := Lib.hid (HT3.out.below HB4.out HT3.out.lt)
      have HT5 := Lib.hid (HT4.out.below HB5.out HT4.out.lt)
      obtain ⟨b5, hb5⟩ : ∃ b, w5.heap.size = b := ⟨_, rfl⟩
      obtain ⟨w6, hw6⟩ : ∃ w6, w5.alloc (.cells #[.bool sz, .slice a5 l5 c5] 25) = w6 := ⟨_, rfl⟩
      have hB6 : Below w5.heap.size w5 w6 := by rw [← hw6]; exact (Below.refl _ _).alloc (Nat.le_refl _) _
      have HT6 := Lib.hid (HT5.out.below hB6 HT5.out.lt)
      have HU6 : Hid (Two w6 b5 25 (.bool sz) (.slice a5 l5 c5)) := Lib.hid (by rw [← hw6, ← hb5]; exact Two.new ..)
      have Hr6 := Lib.hid (Hr5.out.below (Nat.le_refl _) hB6)
      have HB6 := Lib.hid (HB5a.out.trans (hB6.mono HB5a.out.size))
      have d0 := HU6.out.cell0
      have d1 := HU6.out.cell1
      have hww : w.heap.size < w6.heap.size := HT6.out.lt
      clear hB6
      go_wp2_with fail
      refine (Hb.out w6).mono ?_
      rintro e w7 ⟨rfl, rfl⟩
      clear hw6
      have t0 := HT6.out.cell0
      have t1 := HT6.out.cell1
      have t2 := HT6.out.frozen 0
      have t3 := HT6.out.frozen 1
      go_wp2
      refine bodyPost_ret (v := .agg #[.bool sz, .slice a5 l5 c5]) (by simp [results, Tryd.results24, go_sem, t0, t1]) rfl ⟨⟨_, rfl, ?_⟩, ?_⟩
      · rw [Hz.out]; exact Hr6.out.set_two HT6.out _ _
      · exact (HB6.out.setCell (p := ⟨w.heap.size, 0, none⟩) (Nat.le_refl _) _).setCell (p := ⟨w.heap.size, 1, none⟩) (Nat.le_refl _) _

end Go.Proofs.YtgfgjnkndfgdiaaDoor
