/- the reference's integers: Number. -/
import Derived.Test.YtgfgjnkndfgdiaaDoorR5Text
import Derived.Test.YtgfgjnkndfgdiaaDoorRegLast
import Derived.IntWalk
namespace Go.Proofs.YtgfgjnkndfgdiaaDoor
open Go.RowKit

/-- one summand of Number -/
def numT (n : Nat) : Int := ((2 ^ (32 * (n % 7) + n / 7 % 5 * 8) : Nat) : Int) * ((n / 35 % 9 : Nat) - 4 : Int) + ((n / 315 % 5 : Nat) - 2 : Int)
/-- the first summands -/
def numS (zs : List Int) (len at_ : Nat) : Nat → Int
  | 0 => 0
  | k + 1 => numS zs len at_ k + numT (pickN zs len (at_ + 1 + k) 1000000).toNat
/-- what Number answers -/
def numZ (zs : List Int) (len at_ : Nat) : Int := numS zs len at_ (1 + (pickN zs len at_ 5).toNat)

def B230 : Nat := 2 ^ 230
theorem numT_le (n : Nat) : (numT n).natAbs ≤ 4 * 2 ^ 224 + 2 := by
  unfold numT
  have h1 : 32 * (n % 7) + n / 7 % 5 * 8 ≤ 224 := by omega
  have h2 : 2 ^ (32 * (n % 7) + n / 7 % 5 * 8) ≤ 2 ^ 224 := Nat.pow_le_pow_right (by decide) h1
  generalize 2 ^ (32 * (n % 7) + n / 7 % 5 * 8) = p at *
  have h3 : ((p : Int) * ((n / 35 % 9 : Nat) - 4 : Int)).natAbs ≤ p * 4 := by
    rw [Int.natAbs_mul, Int.natAbs_natCast]
    exact Nat.mul_le_mul_left _ (by omega)
  generalize (p : Int) * ((n / 35 % 9 : Nat) - 4 : Int) = q at *
  omega
theorem numS_le (zs : List Int) (len at_ k : Nat) : (numS zs len at_ k).natAbs ≤ k * (4 * 2 ^ 224 + 2) := by
  induction k with
  | zero => simp [numS]
  | succ k ih =>
    have := numT_le (pickN zs len (at_ + 1 + k) 1000000).toNat
    rw [numS, Nat.add_mul, Nat.one_mul]
    omega
theorem small_len (z : Int) (h : z.natAbs ≤ 2 ^ 4096) : (digs T4 z.natAbs).length ≤ 1024 := by
  apply digs_len_le T4 t4_two
  exact Nat.lt_of_le_of_lt h (by decide +kernel)

set_option maxRecDepth 100000 in
set_option maxHeartbeats 1000000 in
theorem number_any (v : Value) (zs : List Int) (len at_ : Nat) (w : World) (h : IntsAt w v zs len) (hat : at_ ≤ 1000000) :
    Calls Tryd.prog 13 #[v, .int .i64 (at_ : Int)] w (RPost (numZ zs len at_) w) := by
  have Hp := Lib.hid (fun w' (hb : Below w.heap.size w w') i m hi h0 h1 => pick_any v zs len i m w' (h.below (Nat.le_refl _) hb) hi h0 h1)
  obtain ⟨va, vl, vc, rfl, hv⟩ : ∃ va vl vc, v = .slice va vl vc ∧ vl ≤ 9223372036854775807 := by
    rcases h with ⟨a, cap, rfl, rfl, hcap⟩ | ⟨b, off, cap, rfl, _, h1, h2, _⟩
    · exact ⟨_, _, _, rfl, by omega⟩
    · exact ⟨_, _, _, rfl, by omega⟩
  clear h
  obtain ⟨n, hn⟩ : ∃ n, w.heap.size = n := ⟨_, rfl⟩
  have Hn := Lib.hid hn
  have HB0 := Lib.hid (((Below.refl w.heap.size w).alloc (Nat.le_refl _) (.cells #[.bool false, .slice none 0 0] 25)).alloc (by simp) (.cells #[.bool false, .slice none 0 0] 25))
  have HT0 := Lib.hid ((Two.new w 25 (.bool false) (.slice none 0 0)).alloc (.cells #[.bool false, .slice none 0 0] 25))
  have HX0 := Lib.hid (RBox.new (w := w.alloc (.cells #[.bool false, .slice none 0 0] 25)) (z := 0) (a := none) (l := 0) (c := 0) ⟨_, rfl, RowAt.nil none 0 (by omega)⟩)
  have e0 : decide ((0 : Int) < 0) = false := rfl
  rw [e0, World.size_alloc, hn] at HX0
  obtain ⟨w0, hw0⟩ : ∃ w0, (w.alloc (.cells #[.bool false, .slice none 0 0] 25)).alloc (.cells #[.bool false, .slice none 0 0] 25) = w0 := ⟨_, rfl⟩
  rw [hw0] at HX0 HB0 HT0
  rw [hn] at HB0 HT0 Hp
  have Hw0 := Lib.hid hw0
  clear hw0 e0 hn
  go_enter Tryd.func13, Tryd.ntmps13
  go_wp2_with fail
  rw [Hn.out, Hw0.out]
  have hn := Hn.out
  clear Hw0
  obtain ⟨C, hC⟩ : ∃ C, 1 + (pickN zs len at_ 5).toNat = C := ⟨_, rfl⟩
  have hr5 := pickN_range zs len at_ 5 (by omega)
  have HC := Lib.hid hC
  have hpC : pickN zs len at_ 5 = (C : Int) - 1 := by omega
  have hC5 : C ≤ 5 := by omega
  have hC1 : 1 ≤ C := by omega
  clear hC hr5
  go_loopw [6] (fun iv6 wr => ∃ (k : Nat), iv6 = .int .i64 (k : Int) ∧ k ≤ C ∧ Hid (RBox wr (n + 1) (numS zs len at_ k)) ∧ Hid (Below n w wr) ∧ Hid (Two wr n 25 (.bool false) (.slice none 0 0))) (fun iv6 _ => C + 1 - cntV iv6)
  case atStart => exact ⟨0, rfl, by omega, HX0, HB0, HT0⟩
  case round =>
    obtain ⟨k, rfl, hk, hX, hB, hT⟩ := hrel
    clear HX0 HB0 HT0
    have Hpk := Lib.hid (Hp.out wr hB.out at_ 5 (by omega) (by omega) (by omega))
    have HSL := Lib.hid (small_len (numS zs len at_ k) (Nat.le_trans (numS_le zs len at_ k) (Nat.le_trans (Nat.mul_le_mul_right _ (show k ≤ 5 by omega)) (by decide +kernel))))
    rw [hpC] at Hpk
    by_cases hkC : k < C
    · have hi : ((k : Int) < 1 + ((C : Int) - 1)) := by omega
      have Hpn := Lib.hid (Hp.out wr hB.out (at_ + 1 + k) 1000000 (by omega) (by omega) (by omega))
      have hpr := pickN_range zs len (at_ + 1 + k) 1000000 (by omega)
      have Hnum : Hid (numS zs len at_ (k + 1) = numS zs len at_ k + numT (pickN zs len (at_ + 1 + k) 1000000).toNat) := Lib.hid rfl
      obtain ⟨p, hp⟩ : ∃ p : Nat, pickN zs len (at_ + 1 + k) 1000000 = (p : Int) := ⟨_, (Int.toNat_of_nonneg hpr.1).symm⟩
      rw [hp] at Hpn Hnum hpr
      rw [Int.toNat_natCast] at Hnum
      have hcast : (((at_ + 1 + k : Nat) : Int)) = (at_ : Int) + 1 + (k : Int) := by omega
      rw [hcast] at Hpn
      have hp6 : p < 1000000 := by omega
      obtain ⟨E, hE⟩ : ∃ E, 32 * (p % 7) + p / 7 % 5 * 8 = E := ⟨_, rfl⟩
      obtain ⟨F, hF⟩ : ∃ F : Int, ((p / 35 % 9 : Nat) - 4 : Int) = F := ⟨_, rfl⟩
      obtain ⟨G, hG⟩ : ∃ G : Int, ((p / 315 % 5 : Nat) - 2 : Int) = G := ⟨_, rfl⟩
      have hEI : 32 * ((p : Int) % 7) + (p : Int) / 7 % 5 * 8 = (E : Int) := by omega
      have hFI : (p : Int) / 35 % 9 - 4 = F := by omega
      have hGI : (p : Int) / 315 % 5 - 2 = G := by omega
      have hE2 : E ≤ 224 := by omega
      have hF2 : -4 ≤ F ∧ F ≤ 4 := by omega
      have hG2 : -2 ≤ G ∧ G ≤ 2 := by omega
      unfold numT at Hnum
      rw [hE, hF, hG] at Hnum
      clear hpr hp hcast hE hF hG
      go_wp2_with fail
      refine Hpk.out.mono ?_
      rintro e w1 ⟨rfl, rfl⟩
      go_wp2_with fail
      refine Hpn.out.mono ?_
      rintro e w2 ⟨rfl, rfl⟩
      go_wp2_with fail
      refine (power_any E w2 (by omega)).mono ?_
      rintro e w3 ⟨⟨vr, rfl, hr⟩, hB⟩
      have Hr3 := Lib.hid hr
      obtain ⟨a3, l3, c3, rfl, -, -, -⟩ := hr.form
      have HB3 := Lib.hid hB
      clear hr hB
      rw [pow_nneg] at Hr3 ⊢
      go_wp2_with fail
      refine (of_any F w3 (by omega) (by omega)).mono ?_
      rintro e w4 ⟨⟨vr, rfl, hr⟩, hB⟩
      have Hr4 := Lib.hid hr
      obtain ⟨a4, l4, c4, rfl, -, -, -⟩ := hr.form
      have HB4 := Lib.hid hB
      clear hr hB
      generalize decide (F < 0) = sF at *
      go_wp2_with fail
      refine (rmul_any _ _ _ _ w4 (Hr3.out.below (Nat.le_refl _) HB4.out) Hr4.out (Nat.le_trans (pow_len E) (by omega)) (Nat.le_trans (t4_len _ (by omega)) (by omega))).mono ?_
      rintro e w5 ⟨⟨vr, rfl, hr⟩, hB⟩
      have Hr5 := Lib.hid hr
      obtain ⟨a5, l5, c5, rfl, -, -, -⟩ := hr.form
      have HB5 := Lib.hid hB
      clear hr hB
      obtain ⟨M, hM⟩ : ∃ M : Int, ((2 ^ E : Nat) : Int) * F = M := ⟨_, rfl⟩
      have HML := Lib.hid (show (digs T4 M.natAbs).length ≤ 1024 from small_len M (by rw [← hM, Int.natAbs_mul, Int.natAbs_natCast]; exact Nat.le_trans (Nat.mul_le_mul (Nat.pow_le_pow_right (by decide) hE2) (show F.natAbs ≤ 4 by omega)) (by decide +kernel)))
      have HMb := Lib.hid (show M.natAbs ≤ 4 * 2 ^ 224 by rw [← hM, Int.natAbs_mul, Int.natAbs_natCast, Nat.mul_comm]; exact Nat.mul_le_mul (show F.natAbs ≤ 4 by omega) (Nat.pow_le_pow_right (by decide) hE2))
      rw [hM] at Hr5 Hnum ⊢
      clear hM
      have HX5 := Lib.hid (((hX.out.below HB3.out).below HB4.out).below HB5.out)
      have HB5a := Lib.hid ((hB.out.trans (HB3.out.mono (Nat.le_trans (Nat.le_of_eq Hn.out.symm) hB.out.size))))
      have HB5b := Lib.hid ((HB5a.out.trans (HB4.out.mono (Nat.le_trans (Nat.le_of_eq Hn.out.symm) HB5a.out.size))))
      have HB5c := Lib.hid ((HB5b.out.trans (HB5.out.mono (Nat.le_trans (Nat.le_of_eq Hn.out.symm) HB5b.out.size))))
      have HT5 := Lib.hid (((hT.out.below HB3.out hT.out.lt).below HB4.out (Nat.lt_of_lt_of_le hT.out.lt HB3.out.size)).below HB5.out (Nat.lt_of_lt_of_le hT.out.lt (Nat.le_trans HB3.out.size HB4.out.size)))
      have HP6 := Lib.hid (RBox.new Hr5.out)
      have HX6 := Lib.hid (HX5.out.alloc (.cells #[.bool (decide (M < 0)), .slice a5 l5 c5] 25))
      have HT6 := Lib.hid (HT5.out.alloc (.cells #[.bool (decide (M < 0)), .slice a5 l5 c5] 25))
      have HB6 := Lib.hid (HB5c.out.alloc (Nat.le_trans (Nat.le_of_eq Hn.out.symm) HB5c.out.size) (.cells #[.bool (decide (M < 0)), .slice a5 l5 c5] 25))
      obtain ⟨bp, hbp⟩ : ∃ bp, w5.heap.size = bp := ⟨_, rfl⟩
      obtain ⟨w6, hw6⟩ : ∃ w6, w5.alloc (.cells #[.bool (decide (M < 0)), .slice a5 l5 c5] 25) = w6 := ⟨_, rfl⟩
      have hs6 : w6.heap.size = bp + 1 := by rw [← hw6, World.size_alloc, hbp]
      have hpn : n + 1 < bp := by rw [← hbp]; exact HX5.out.lt
      rw [hw6, hbp] at HP6
      rw [hw6] at HX6 HT6 HB6
      obtain ⟨xa, xl, xc, hX1, hX2⟩ := HX6.out
      have HX2 := Lib.hid hX2
      have Hsn := Lib.hid (show RInt w5 (.agg #[.bool (decide (M < 0)), .slice a5 l5 c5]) M from Hr5.out)
      have HP7 : Hid (Two w6 bp 25 (.bool (decide (M < 0))) (.slice a5 l5 c5)) := Lib.hid (by have := Two.new w5 25 (.bool (decide (M < 0))) (.slice a5 l5 c5); rw [hw6, hbp] at this; exact this)
      have HP8 : Hid (RInt w6 (.agg #[.bool (decide (M < 0)), .slice a5 l5 c5]) M) := Lib.hid (Hr5.out.below (Nat.le_refl _) (by rw [← hw6]; exact (Below.refl _ w5).alloc (Nat.le_refl _) _))
      clear hX2 HP6 Hsn Hr3 Hr4 Hr5 HB3 HB4 HB5 HB5a HB5b HB5c HT5 HX5
      generalize hsx : decide (numS zs len at_ k < 0) = sx at *
      generalize hsm : decide (M < 0) = sm at *
      have e0 := hX1.cell0
      have e1 := hX1.cell1
      have e2 := HP7.out.cell0
      have e3 := HP7.out.cell1
      have HX1 := Lib.hid hX1
      clear hX1
      go_wp2_with fail
      clear hw6 hbp
      obtain ⟨r, hr⟩ : ∃ r, p / 315 = r := ⟨_, rfl⟩
      obtain ⟨t, ht⟩ : ∃ t, r % 5 = t := ⟨_, rfl⟩
      have W1 : IntKind.i64.wrap ((p : Int) / 315) = (r : Int) := by rw [IntWalk.i64_in _ (by omega)]; omega
      have W2 : (r : Int).tmod 5 = (t : Int) := by rw [Int.tmod_eq_emod_of_nonneg (by omega)]; omega
      have W3 : IntKind.i64.wrap ((t : Int) - 2) = G := by rw [IntWalk.i64_in _ (by omega)]; omega
      clear hr ht hGI
      refine startK 9 (fun w' => w'.cell? ⟨n + 1, 0, none⟩ = some (.bool sx) ∧ w'.cell? ⟨n + 1, 1, none⟩ = some (.slice xa xl xc) ∧ w'.cell? ⟨bp, 0, none⟩ = some (.bool sm) ∧ w'.cell? ⟨bp, 1, none⟩ = some (.slice a5 l5 c5)) (by kernel_rfl) (⟨e0, e1, e2, e3⟩) (fun hHeld => ?_)
      refine takeK 0 39 (v := ?_) rfl rfl (by kernel_rfl) (by kernel_rfl) (by kernel_rfl) (by kernel_rfl) (fun _ _ _ h => h) (by rfl) ?_ (by assumption) ?_
      rotate_left
      · (intro w hSw; go_simp; first | done | with_reducible rfl)
      simp only [List.setIfInBounds_toArray, List.set_cons_zero, List.set_cons_succ]
      refine takeK 1 40 (v := ?_) rfl rfl (by kernel_rfl) (by kernel_rfl) (by kernel_rfl) (by kernel_rfl) (fun _ _ _ h => h) (by rfl) ?_ (by assumption) ?_
      rotate_left
      · (intro w hSw; go_simp; first | done | with_reducible rfl)
      simp only [List.setIfInBounds_toArray, List.set_cons_zero, List.set_cons_succ]
      refine takeK 2 41 (v := ?_) rfl rfl (by kernel_rfl) (by kernel_rfl) (by kernel_rfl) (by kernel_rfl) (fun _ _ _ h => h) (by rfl) ?_ (by assumption) ?_
      rotate_left
      · (intro w hSw; go_simp; first | done | with_reducible rfl)
      simp only [List.setIfInBounds_toArray, List.set_cons_zero, List.set_cons_succ]
      refine takeK 3 42 (v := ?_) rfl rfl (by kernel_rfl) (by kernel_rfl) (by kernel_rfl) (by kernel_rfl) (fun _ _ _ h => h) (by rfl) ?_ (by assumption) ?_
      rotate_left
      · (intro w hSw; go_simp; first | done | with_reducible rfl)
      simp only [List.setIfInBounds_toArray, List.set_cons_zero, List.set_cons_succ]
      refine takeK 4 43 (v := ?_) rfl rfl (by kernel_rfl) (by kernel_rfl) (by kernel_rfl) (by kernel_rfl) (fun _ _ _ h => h) (by rfl) ?_ (by assumption) ?_
      rotate_left
      · (intro w hSw; go_simp; first | done | with_reducible rfl)
      simp only [List.setIfInBounds_toArray, List.set_cons_zero, List.set_cons_succ]
      refine takeK 5 44 (v := ?_) rfl rfl (by kernel_rfl) (by kernel_rfl) (by kernel_rfl) (by kernel_rfl) (fun _ _ _ h => h) (by rfl) ?_ (by assumption) ?_
      rotate_left
      · (intro w hSw; go_simp; first | done | with_reducible rfl)
      simp only [List.setIfInBounds_toArray, List.set_cons_zero, List.set_cons_succ]
      refine stepK 6 (by kernel_rfl) rfl (fun K hK => ?_)
      go_simp
      clear W1 W2 W3 e0 e1 e2 e3
      have hl6 : n + 1 < w6.drew.heap.size ∧ bp < w6.drew.heap.size := by show n + 1 < w6.heap.size ∧ bp < w6.heap.size; omega
      refine (of_any G w6.drew (by omega) (by omega)).mono ?_
      rintro e w7 ⟨⟨vr, rfl, hr⟩, hB⟩
      have Hr7 := Lib.hid hr
      obtain ⟨a7, l7, c7, rfl, -, -, -⟩ := hr.form
      have HB7 := Lib.hid hB
      clear hr hB
      have HX7 : Hid (Two w7 (n + 1) 25 (.bool sx) (.slice xa xl xc)) := Lib.hid (Two.below (w := w6.drew) HX1.out HB7.out hl6.1)
      have HP9 : Hid (Two w7 bp 25 (.bool sm) (.slice a5 l5 c5)) := Lib.hid (Two.below (w := w6.drew) HP7.out HB7.out hl6.2)
      generalize hsg : decide (G < 0) = sg at *
      have Hsg := Lib.hid hsg
      clear hsg
      go_wp2_with fail
      refine hK.out _ _ (⟨HX7.out.cell0, HX7.out.cell1, HP9.out.cell0, HP9.out.cell1⟩) (fun hHeld => ?_)
      clear hK K
      try simp only [Act.put, List.setIfInBounds_toArray, List.set_cons_zero, List.set_cons_succ]
      refine stepK 7 (by kernel_rfl) rfl (fun K hK => ?_)
      go_simp
      refine (radd_any _ _ _ _ w7 (RInt.below (w := w6.drew) HP8.out (Nat.le_refl _) HB7.out) Hr7.out (Nat.le_trans HML.out (by omega)) (Nat.le_trans (t4_len _ (by omega)) (by omega))).mono ?_
      rintro e w8 ⟨⟨vr, rfl, hr⟩, hB⟩
      have Hr8 := Lib.hid hr
      obtain ⟨a8, l8, c8, rfl, -, -, -⟩ := hr.form
      have HB8 := Lib.hid hB
      clear hr hB
      have HX8 := Lib.hid (HX7.out.below HB8.out HX7.out.lt)
      have HP10 := Lib.hid (HP9.out.below HB8.out HP9.out.lt)
      generalize hsh : decide (M + G < 0) = sh at *
      have Hsh := Lib.hid hsh
      clear hsh
      go_wp2_with fail
      refine hK.out _ _ (⟨HX8.out.cell0, HX8.out.cell1, HP10.out.cell0, HP10.out.cell1⟩) (fun hHeld => ?_)
      clear hK K
      try simp only [Act.put, List.setIfInBounds_toArray, List.set_cons_zero, List.set_cons_succ]
      refine stepK 8 (by kernel_rfl) rfl (fun K hK => ?_)
      go_simp
      have HMG := Lib.hid (show (digs T4 (M + G).natAbs).length ≤ 1024 from small_len _ (by have := HMb.out; omega))
      refine (radd_any _ _ _ _ w8 (RInt.below (RInt.below (w := w6.drew) HX2.out (Nat.le_refl _) HB7.out) (Nat.le_refl _) HB8.out) Hr8.out (Nat.le_trans HSL.out (by omega)) (Nat.le_trans HMG.out (by omega))).mono ?_
      rintro e w9 ⟨⟨vr, rfl, hr⟩, hB⟩
      have Hr9 := Lib.hid hr
      obtain ⟨a9, l9, c9, rfl, -, -, -⟩ := hr.form
      have HB9 := Lib.hid hB
      clear hr hB
      rw [← Hnum.out] at Hr9 ⊢
      have HX9 := Lib.hid (HX8.out.below HB9.out HX8.out.lt)
      have HP11 := Lib.hid (HP10.out.below HB9.out HP10.out.lt)
      have g0 := HX9.out.cell0
      have g1 := HX9.out.cell1
      have g2 := HX9.out.frozen 0
      have g3 := HX9.out.frozen 1
      have hs9 : n ≤ w6.drew.heap.size := by omega
      have HB9n := Lib.hid (((show Below n w w6.drew from ⟨HB6.out.os, HB6.out.tape, HB6.out.output, HB6.out.size, HB6.out.block⟩).trans (HB7.out.mono hs9)).trans ((HB8.out.trans (HB9.out.mono HB8.out.size)).mono (Nat.le_trans hs9 HB7.out.size)))
      have HT9 := Lib.hid (((Two.below (w := w6.drew) HT6.out HB7.out (by omega)).below HB8.out (Nat.lt_of_lt_of_le (by omega) HB7.out.size)).below HB9.out (Nat.lt_of_lt_of_le (show n < w6.drew.heap.size by omega) (Nat.le_trans HB7.out.size HB8.out.size)))
      generalize hsn : decide (numS zs len at_ (k + 1) < 0) = sn at *
      have Hsn := Lib.hid hsn
      clear hsn
      go_wp2_with fail
      refine hK.out _ _ (⟨HX9.out.cell0, HX9.out.cell1, HP11.out.cell0, HP11.out.cell1⟩) (fun hHeld => ?_)
      clear hK K
      try simp only [Act.put, List.setIfInBounds_toArray, List.set_cons_zero, List.set_cons_succ]
      refine lastK (by kernel_rfl) rfl (by kernel_rfl) (fun K hK => ?_)
      go_simp
      refine hK.out _ _ ?_
      clear hK K
      try simp only [Act.put, List.setIfInBounds_toArray, List.set_cons_zero, List.set_cons_succ]
      clear g0 g1 g2 g3 hHeld
      go_wp2_with fail
      go_roundw
      case rel =>
        refine ⟨k + 1, by go_num, by omega, Lib.hid ⟨a9, l9, c9, ?_, ?_⟩, Lib.hid ((HB9n.out.setCell (p := ⟨n + 1, 0, none⟩) (by show n ≤ n + 1; omega) _).setCell (p := ⟨n + 1, 1, none⟩) (by show n ≤ n + 1; omega) _), Lib.hid (HT9.out.far2 (by omega) _ _)⟩
        · rw [Hsn.out]; exact HX9.out.put2 _ _
        · rw [Hsn.out]; exact Hr9.out.set_two HX9.out _ _
      case measure => simp [cntV]; omega
    · obtain rfl : k = C := by omega
      have hi : ¬ ((k : Int) < 1 + ((k : Int) - 1)) := by omega
      obtain ⟨xa, xl, xc, hX1, hX2⟩ := hX.out
      have HX2 := Lib.hid hX2
      have x0 := hX1.cell0
      have x1 := hX1.cell1
      have t0 := hT.out.cell0
      have t1 := hT.out.cell1
      have t2 := hT.out.frozen 0
      have t3 := hT.out.frozen 1
      have Hz : Hid (numZ zs len at_ = numS zs len at_ k) := Lib.hid (by unfold numZ; rw [HC.out])
      generalize hsn : decide (numS zs len at_ k < 0) = sn at *
      clear hX1 hX2 hkC
      go_wp2_with fail
      refine Hpk.out.mono ?_
      rintro e w1 ⟨rfl, rfl⟩
      go_wp2
      refine bodyPost_ret (v := .agg #[.bool sn, .slice xa xl xc]) (by simp [results, Tryd.results13, go_sem, t0, t1]) rfl ⟨⟨_, rfl, ?_⟩, ?_⟩
      · rw [Hz.out]
        exact HX2.out.set_two hT.out _ _
      · rw [Hn.out]
        exact (hB.out.setCell (p := ⟨n, 0, none⟩) (Nat.le_refl _) _).setCell (p := ⟨n, 1, none⟩) (Nat.le_refl _) _

end Go.Proofs.YtgfgjnkndfgdiaaDoor
