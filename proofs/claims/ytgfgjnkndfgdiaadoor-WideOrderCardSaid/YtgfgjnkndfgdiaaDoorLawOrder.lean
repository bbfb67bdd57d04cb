/- the law WideOrder: its walk. -/
import Derived.Test.YtgfgjnkndfgdiaaDoorNRow
import Derived.Test.YtgfgjnkndfgdiaaDoorR5Fits
namespace Go.Proofs.YtgfgjnkndfgdiaaDoor
open Go.RowKit

theorem two_lt' {x y : Int} {a : Nat} (hx : x.natAbs < 2 ^ a) (hy : y.natAbs < 2 ^ a) : (x + y).natAbs < 2 ^ (a + 1) := by
  rw [Nat.pow_succ]
  omega
def boundZ (n m : Int) : Int := around n (2 * m + 1) - m
theorem bound_one (n : Int) (w : World) (h1 : -9223372036854775808 ≤ n) (h2 : n ≤ 9223372036854775807) :
    Calls Tryd.prog 35 #[.int .i64 n, .int .i64 1] w fun e w' => e = .returned (.int .i64 (boundZ n 1)) ∧ w = w' := by
  have hr := around_range n 3 (by omega)
  have Ha := Lib.hid (around_any n 3 w h1 h2 (by omega) (by omega))
  have Hb : Hid (boundZ n 1 = around n 3 - 1) := Lib.hid rfl
  generalize around n 3 = q at *
  go_enter Tryd.func35, Tryd.ntmps35
  go_wp2_with fail
  refine Ha.out.mono ?_
  rintro e w1 ⟨rfl, rfl⟩
  go_wp2
  go_ret
  exact ⟨by rw [Hb.out]; rfl, rfl⟩

theorem rint_zero (w : World) : RInt w (.agg #[.bool false, .slice none 0 0]) 0 := ⟨_, rfl, RowAt.nil none 0 (by omega)⟩
theorem add_small_lim (zs : List Int) (len : Nat) (b : Int) (hb : -1 ≤ b ∧ b ≤ 1) : (numZ zs len 0 + b).natAbs < LIM := by
  refine lim_of_le (k := 230 + 1) (by decide) (two_lt' (numZ_lt zs len 0) ?_)
  exact Nat.lt_of_le_of_lt (show b.natAbs ≤ 1 by omega) (by decide)

set_option maxRecDepth 100000 in
set_option maxHeartbeats 4000000 in
theorem wideOrder_any (v : Value) (zs : List Int) (len : Nat) (n : Int) (w0 : World) (h : IntsAt w0 v zs len) (h1 : -9223372036854775808 ≤ n) (h2 : n ≤ 9223372036854775807) (hT : Pow10 w0) :
    Calls Tryd.prog 8 #[v, .int .i64 n] w0 fun e w' => e = .returned (.bool true) ∧ Below w0.heap.size w0 w' := by
  have HI := Lib.hid h
  have HP := Lib.hid hT
  have hg := hT.lt
  have HB := Lib.hid (Below.refl w0.heap.size w0)
  obtain ⟨va, vl, vc, rfl, hv⟩ : ∃ va vl vc, v = .slice va vl vc ∧ vl ≤ 9223372036854775807 := by
    rcases h with ⟨a, cap, rfl, rfl, hcap⟩ | ⟨b, off, cap, rfl, _, h1, h2, _⟩
    · exact ⟨_, _, _, rfl, by omega⟩
    · exact ⟨_, _, _, rfl, by omega⟩
  clear h hT
  go_enter Tryd.func8, Tryd.ntmps8
  go_wp2_with fail
  refine (number_any _ zs len 0 w0 (HI.out.below (Nat.le_refl _) HB.out) (by omega)).mono ?_
  rintro e w1 ⟨⟨va, rfl, ha⟩, hB⟩
  have HB := Lib.hid (HB.out.trans (hB.mono HB.out.size))
  have Ha := Lib.hid ha
  obtain ⟨s_a, a_a, n_a, c_a, rfl⟩ := ha.form2
  clear hB ha
  obtain ⟨w2, hw⟩ : ∃ w', (w1.alloc (.cells #[.bool s_a, .slice a_a n_a c_a] 25)) = w' := ⟨_, rfl⟩
  have hB : Below w1.heap.size w1 w2 := by rw [← hw]; exact (Below.refl _ _).alloc (Nat.le_refl _) _
  obtain ⟨b_a, hb_a⟩ : ∃ b, w1.heap.size = b := ⟨_, rfl⟩
  have Ta' : Hid (Two w2 b_a 25 (.bool s_a) (.slice a_a n_a c_a)) := Lib.hid (by rw [← hw, ← hb_a]; have h9 := (Two.new w1 25 (.bool s_a) (.slice a_a n_a c_a)); exact h9)
  have Ha := Lib.hid (Ha.out.below (Nat.le_refl _) hB)
  have HB := Lib.hid (HB.out.trans (hB.mono HB.out.size))
  have Ta := Ta'
  clear hB Ta'
  have d0a_2 := Ta.out.cell0
  have d1a_2 := Ta.out.cell1
  go_wp2_with fail
  clear hw hb_a d0a_2 d1a_2
  have hbz : -1 ≤ boundZ n 1 ∧ boundZ n 1 ≤ 1 := by have := around_range n (2 * 1 + 1) (by omega); unfold boundZ; omega
  have Hbn := Lib.hid (fun w => bound_one n w h1 h2)
  generalize boundZ n 1 = bz at *
  have hB : Below w2.heap.size w2 w2.drew := ⟨rfl, rfl, rfl, Nat.le_refl _, fun _ _ => rfl⟩
  have Ha := Lib.hid (Ha.out.below (Nat.le_refl _) hB)
  have Ta := Lib.hid (Ta.out.below hB Ta.out.lt)
  have HB := Lib.hid (HB.out.trans (hB.mono HB.out.size))
  clear hB
  go_region_held3 (fun w' => w'.cell? ⟨b_a, 0, none⟩ = some (.bool s_a) ∧ w'.cell? ⟨b_a, 1, none⟩ = some (.slice a_a n_a c_a))
    (first | (exact ⟨Ta.out.cell0, Ta.out.cell1⟩) | go_keep)
    (first
      | (go_at_call 13; (refine (number_any _ zs len 6 w2.drew (HI.out.below (Nat.le_refl _) HB.out) (by omega)).mono ?_); rintro e w3 ⟨⟨vb, rfl, hb⟩, hB⟩; have Ha := Lib.hid (Ha.out.below (Nat.le_refl _) hB); have Ta := Lib.hid (Ta.out.below hB Ta.out.lt); have HB := Lib.hid (HB.out.trans (hB.mono HB.out.size)); have Hb := Lib.hid hb; obtain ⟨s_b, a_b, n_b, c_b, rfl⟩ := hb.form2; clear hB hb)
      | (go_at_call 35; (with_reducible refine (Hbn.out w3).mono ?_); rintro e w_same ⟨rfl, rfl⟩)
      | (go_at_call 23; (with_reducible refine (of_any bz w3 (by omega) (by omega)).mono ?_); rintro e w4 ⟨⟨vo, rfl, ho⟩, hB⟩; have Ha := Lib.hid (Ha.out.below (Nat.le_refl _) hB); have Hb := Lib.hid (Hb.out.below (Nat.le_refl _) hB); have Ta := Lib.hid (Ta.out.below hB Ta.out.lt); have HB := Lib.hid (HB.out.trans (hB.mono HB.out.size)); have Ho := Lib.hid ho; obtain ⟨s_o, a_o, n_o, c_o, rfl⟩ := ho.form2; clear hB ho)
      | (go_at_call 29; (with_reducible refine (radd_any _ _ _ _ w4 Ha.out Ho.out (Nat.le_trans (lim_len4 _ (numZ_lim zs len 0)) (by omega)) (Nat.le_trans (t4_len _ (by omega)) (by omega))).mono ?_); rintro e w5 ⟨⟨vd, rfl, hd⟩, hB⟩; have Ha := Lib.hid (Ha.out.below (Nat.le_refl _) hB); have Hb := Lib.hid (Hb.out.below (Nat.le_refl _) hB); have Ho := Lib.hid (Ho.out.below (Nat.le_refl _) hB); have Ta := Lib.hid (Ta.out.below hB Ta.out.lt); have HB := Lib.hid (HB.out.trans (hB.mono HB.out.size)); have Hd := Lib.hid hd; obtain ⟨s_d, a_d, n_d, c_d, rfl⟩ := hd.form2; clear hB hd)
      | (go_at_call 36; (with_reducible refine (rneg_any _ _ w5 Ha.out (Nat.le_trans (lim_len4 _ (numZ_lim zs len 0)) (by omega))).mono ?_); rintro e w6 ⟨⟨ve, rfl, he⟩, hB⟩; have Ha := Lib.hid (Ha.out.below (Nat.le_refl _) hB); have Hb := Lib.hid (Hb.out.below (Nat.le_refl _) hB); have Ho := Lib.hid (Ho.out.below (Nat.le_refl _) hB); have Hd := Lib.hid (Hd.out.below (Nat.le_refl _) hB); have Ta := Lib.hid (Ta.out.below hB Ta.out.lt); have HB := Lib.hid (HB.out.trans (hB.mono HB.out.size)); have He := Lib.hid he; obtain ⟨s_e, a_e, n_e, c_e, rfl⟩ := he.form2; clear hB he))
  clear Ho
  have hR := NRow.three 25 Hb.out Hd.out He.out
  obtain ⟨w7, hw⟩ : ∃ w', w6.alloc (.cells #[.bool s_b, .slice a_b n_b c_b, .bool s_d, .slice a_d n_d c_d, .bool s_e, .slice a_e n_e c_e] 25) = w' := ⟨_, rfl⟩
  have hB : Below w6.heap.size w6 w7 := by rw [← hw]; exact (Below.refl _ _).alloc (Nat.le_refl _) _
  obtain ⟨g_N, hg_N⟩ : ∃ b, w6.heap.size = b := ⟨_, rfl⟩
  rw [hw, hg_N] at hR
  have Ha := Lib.hid (Ha.out.below (Nat.le_refl _) hB)
  have Hb := Lib.hid (Hb.out.below (Nat.le_refl _) hB)
  have Hd := Lib.hid (Hd.out.below (Nat.le_refl _) hB)
  have He := Lib.hid (He.out.below (Nat.le_refl _) hB)
  have Ta := Lib.hid (Ta.out.below hB Ta.out.lt)
  have HB := Lib.hid (HB.out.trans (hB.mono HB.out.size))
  have HN := Lib.hid hR
  clear hR hB
  have d0a_7 := Ta.out.cell0
  have d1a_7 := Ta.out.cell1
  go_wp2_with fail
  try rw [hg_N]
  clear hw hg_N d0a_7 d1a_7
  refine (wider_any _ _ w7 Ha.out (numZ_lim zs len 0)).mono ?_
  rintro e w8 ⟨⟨vx, rfl, hx⟩, hB⟩
  have Ha := Lib.hid (Ha.out.below (Nat.le_refl _) hB)
  have Hb := Lib.hid (Hb.out.below (Nat.le_refl _) hB)
  have Hd := Lib.hid (Hd.out.below (Nat.le_refl _) hB)
  have He := Lib.hid (He.out.below (Nat.le_refl _) hB)
  have HN := Lib.hid (HN.out.below hB)
  have Ta := Lib.hid (Ta.out.below hB Ta.out.lt)
  have HB := Lib.hid (HB.out.trans (hB.mono HB.out.size))
  have Hx := Lib.hid hx
  obtain ⟨s_x, a_x, n_x, c_x, rfl⟩ := hx.form2
  clear hB hx
  obtain ⟨w9, hw⟩ : ∃ w', (w8.alloc (.cells #[.bool s_x, .slice a_x n_x c_x] 33)) = w' := ⟨_, rfl⟩
  have hB : Below w8.heap.size w8 w9 := by rw [← hw]; exact (Below.refl _ _).alloc (Nat.le_refl _) _
  obtain ⟨b_x, hb_x⟩ : ∃ b, w8.heap.size = b := ⟨_, rfl⟩
  have Tx' : Hid (Two w9 b_x 33 (.bool s_x) (.slice a_x n_x c_x)) := Lib.hid (by rw [← hw, ← hb_x]; have h9 := (Two.new w8 33 (.bool s_x) (.slice a_x n_x c_x)); exact h9)
  have Ha := Lib.hid (Ha.out.below (Nat.le_refl _) hB)
  have Hb := Lib.hid (Hb.out.below (Nat.le_refl _) hB)
  have Hd := Lib.hid (Hd.out.below (Nat.le_refl _) hB)
  have He := Lib.hid (He.out.below (Nat.le_refl _) hB)
  have HN := Lib.hid (HN.out.below hB)
  have Hx := Lib.hid (Hx.out.below hB)
  have Ta := Lib.hid (Ta.out.below hB Ta.out.lt)
  have HB := Lib.hid (HB.out.trans (hB.mono HB.out.size))
  have Tx := Tx'
  clear hB Tx'
  go_wp2_with fail
  clear hw hb_x
  clear Hb Hd He
  have HLz : Hid (∀ i (h : i < [numZ zs len 6, numZ zs len 0 + bz, -numZ zs len 0].length), ([numZ zs len 6, numZ zs len 0 + bz, -numZ zs len 0][i]).natAbs < LIM) := Lib.hid (fun i hi => by match i, hi with | 0, _ => exact numZ_lim zs len 6 | 1, _ => exact add_small_lim zs len bz hbz | 2, _ => (show (-numZ zs len 0).natAbs < LIM; rw [Int.natAbs_neg]; exact numZ_lim zs len 0))
  obtain ⟨Z, hZ⟩ : ∃ Z, [numZ zs len 6, numZ zs len 0 + bz, -numZ zs len 0] = Z := ⟨_, rfl⟩
  have hZl : Z.length = 3 := by rw [← hZ]; rfl
  rw [hZ] at HN HLz
  clear hZ
  go_loopw [9] (fun i wr => ∃ (j : Nat), j ≤ 3 ∧ i = .int .i64 j ∧ Hid (Below w9.heap.size w9 wr)) (fun i _ => 3 - (intOf i).toNat)
  case atStart => exact ⟨0, by omega, rfl, Lib.hid (Below.refl _ _)⟩
  case round =>
    obtain ⟨j, hj, rfl, hBl⟩ := hrel
    obtain ⟨w10, rfl⟩ : ∃ w' : World, w' = wr := ⟨_, rfl⟩
    have HBl := hBl
    have hB := hBl.out
    clear hBl
    have Ha := Lib.hid (Ha.out.below (Nat.le_refl _) hB)
    have HN := Lib.hid (HN.out.below hB)
    have Hx := Lib.hid (Hx.out.below hB)
    have Ta := Lib.hid (Ta.out.below hB Ta.out.lt)
    have Tx := Lib.hid (Tx.out.below hB Tx.out.lt)
    have HB := Lib.hid (HB.out.trans (hB.mono HB.out.size))
    clear hB
    by_cases hlt : j < 3
    · skip
      obtain ⟨s_r, a_r, n_r, c_r, hr⟩ := HN.out.at_ j (by omega)
      have hzl := HLz.out j (by omega)
      obtain ⟨zj, hzj⟩ : ∃ zj, Z[j] = zj := ⟨_, rfl⟩
      rw [hzj] at hr hzl
      have Hzl := Lib.hid hzl
      clear hzl hzj
      have Hr := Lib.hid hr
      clear hr
      have d0r_10 := Hr.out.c0
      have d1r_10 := Hr.out.c1
      go_wp2_with fail
      clear d0r_10 d1r_10
      refine (wider_any _ _ w10 Hr.out.r Hzl.out).mono ?_
      rintro e w11 ⟨⟨vy, rfl, hy⟩, hB⟩
      have Ha := Lib.hid (Ha.out.below (Nat.le_refl _) hB)
      have HN := Lib.hid (HN.out.below hB)
      have Hx := Lib.hid (Hx.out.below hB)
      have Hr := Lib.hid (Hr.out.below hB)
      have Ta := Lib.hid (Ta.out.below hB Ta.out.lt)
      have Tx := Lib.hid (Tx.out.below hB Tx.out.lt)
      have HB := Lib.hid (HB.out.trans (hB.mono HB.out.size))
      have HBl := Lib.hid (HBl.out.trans (hB.mono HBl.out.size))
      have Hy := Lib.hid hy
      obtain ⟨s_y, a_y, n_y, c_y, rfl⟩ := hy.form2
      clear hB hy
      obtain ⟨w12, hw⟩ : ∃ w', (w11.alloc (.cells #[.bool s_y, .slice a_y n_y c_y] 33)) = w' := ⟨_, rfl⟩
      have hB : Below w11.heap.size w11 w12 := by rw [← hw]; exact (Below.refl _ _).alloc (Nat.le_refl _) _
      obtain ⟨b_y, hb_y⟩ : ∃ b, w11.heap.size = b := ⟨_, rfl⟩
      have Ty' : Hid (Two w12 b_y 33 (.bool s_y) (.slice a_y n_y c_y)) := Lib.hid (by rw [← hw, ← hb_y]; have h9 := (Two.new w11 33 (.bool s_y) (.slice a_y n_y c_y)); exact h9)
      have Ha := Lib.hid (Ha.out.below (Nat.le_refl _) hB)
      have HN := Lib.hid (HN.out.below hB)
      have Hx := Lib.hid (Hx.out.below hB)
      have Hr := Lib.hid (Hr.out.below hB)
      have Hy := Lib.hid (Hy.out.below hB)
      have Ta := Lib.hid (Ta.out.below hB Ta.out.lt)
      have Tx := Lib.hid (Tx.out.below hB Tx.out.lt)
      have HB := Lib.hid (HB.out.trans (hB.mono HB.out.size))
      have HBl := Lib.hid (HBl.out.trans (hB.mono HBl.out.size))
      have Ty := Ty'
      clear hB Ty'
      go_wp2_with fail
      clear hw hb_y
      have hj0 : (0 : Int) ≤ (j : Int) := by omega
      have hj1 : (j : Int) < 3 := by omega
      obtain ⟨m1, hm1⟩ : ∃ m, cmp3 (numZ zs len 0) zj = m := ⟨_, rfl⟩
      obtain ⟨m2, hm2⟩ : ∃ m, cmp3 zj (numZ zs len 0) = m := ⟨_, rfl⟩
      have Hm1 := Lib.hid hm1
      have Hm2 := Lib.hid hm2
      clear hm1 hm2
      have hB : Below w12.heap.size w12 w12.drew := ⟨rfl, rfl, rfl, Nat.le_refl _, fun _ _ => rfl⟩
      have Ha := Lib.hid (Ha.out.below (Nat.le_refl _) hB)
      have HN := Lib.hid (HN.out.below hB)
      have Hx := Lib.hid (Hx.out.below hB)
      have Hr := Lib.hid (Hr.out.below hB)
      have Hy := Lib.hid (Hy.out.below hB)
      have Ta := Lib.hid (Ta.out.below hB Ta.out.lt)
      have Tx := Lib.hid (Tx.out.below hB Tx.out.lt)
      have Ty := Lib.hid (Ty.out.below hB Ty.out.lt)
      have HB := Lib.hid (HB.out.trans (hB.mono HB.out.size))
      have HBl := Lib.hid (HBl.out.trans (hB.mono HBl.out.size))
      clear hB
      go_region_held3 (fun w' => w'.cell? ⟨b_x, 0, none⟩ = some (.bool s_x) ∧ w'.cell? ⟨b_x, 1, none⟩ = some (.slice a_x n_x c_x) ∧ w'.cell? ⟨b_y, 0, none⟩ = some (.bool s_y) ∧ w'.cell? ⟨b_y, 1, none⟩ = some (.slice a_y n_y c_y) ∧ w'.cell? ⟨b_a, 0, none⟩ = some (.bool s_a) ∧ w'.cell? ⟨b_a, 1, none⟩ = some (.slice a_a n_a c_a) ∧ w'.cell? ⟨g_N, j * 2, none⟩ = some (.bool s_r) ∧ w'.cell? ⟨g_N, j * 2 + 1, none⟩ = some (.slice a_r n_r c_r))
        (first | (exact ⟨Tx.out.cell0, Tx.out.cell1, Ty.out.cell0, Ty.out.cell1, Ta.out.cell0, Ta.out.cell1, Hr.out.c0, Hr.out.c1⟩) | go_keep)
        (first
          | (go_at_call 37; (with_reducible refine (wcompare_any _ _ _ _ w12.drew Hx.out Hy.out (numZ_lim zs len 0) Hzl.out).mono ?_); rintro e w13 ⟨rfl, hB⟩; rw [Hm1.out]; have Ha := Lib.hid (Ha.out.below (Nat.le_refl _) hB); have HN := Lib.hid (HN.out.below hB); have Hx := Lib.hid (Hx.out.below hB); have Hr := Lib.hid (Hr.out.below hB); have Hy := Lib.hid (Hy.out.below hB); have Ta := Lib.hid (Ta.out.below hB Ta.out.lt); have Tx := Lib.hid (Tx.out.below hB Tx.out.lt); have Ty := Lib.hid (Ty.out.below hB Ty.out.lt); have HB := Lib.hid (HB.out.trans (hB.mono HB.out.size)); have HBl := Lib.hid (HBl.out.trans (hB.mono HBl.out.size)); clear hB )
          | (go_at_call 38; (with_reducible refine (rcompare_any _ _ _ _ w13 Ha.out Hr.out.r (Nat.le_trans (lim_len4 _ (numZ_lim zs len 0)) (by omega)) (Nat.le_trans (lim_len4 _ Hzl.out) (by omega))).mono ?_); rintro e w14 ⟨rfl, hB⟩; rw [Hm1.out]; have Ha := Lib.hid (Ha.out.below (Nat.le_refl _) hB); have HN := Lib.hid (HN.out.below hB); have Hx := Lib.hid (Hx.out.below hB); have Hr := Lib.hid (Hr.out.below hB); have Hy := Lib.hid (Hy.out.below hB); have Ta := Lib.hid (Ta.out.below hB Ta.out.lt); have Tx := Lib.hid (Tx.out.below hB Tx.out.lt); have Ty := Lib.hid (Ty.out.below hB Ty.out.lt); have HB := Lib.hid (HB.out.trans (hB.mono HB.out.size)); have HBl := Lib.hid (HBl.out.trans (hB.mono HBl.out.size)); clear hB )
          | (go_at_call 37; (with_reducible refine (wcompare_any _ _ _ _ w14 Hy.out Hx.out Hzl.out (numZ_lim zs len 0)).mono ?_); rintro e w15 ⟨rfl, hB⟩; rw [Hm2.out]; have Ha := Lib.hid (Ha.out.below (Nat.le_refl _) hB); have HN := Lib.hid (HN.out.below hB); have Hx := Lib.hid (Hx.out.below hB); have Hr := Lib.hid (Hr.out.below hB); have Hy := Lib.hid (Hy.out.below hB); have Ta := Lib.hid (Ta.out.below hB Ta.out.lt); have Tx := Lib.hid (Tx.out.below hB Tx.out.lt); have Ty := Lib.hid (Ty.out.below hB Ty.out.lt); have HB := Lib.hid (HB.out.trans (hB.mono HB.out.size)); have HBl := Lib.hid (HBl.out.trans (hB.mono HBl.out.size)); clear hB )
          | (go_at_call 38; (with_reducible refine (rcompare_any _ _ _ _ w15 Hr.out.r Ha.out (Nat.le_trans (lim_len4 _ Hzl.out) (by omega)) (Nat.le_trans (lim_len4 _ (numZ_lim zs len 0)) (by omega))).mono ?_); rintro e w16 ⟨rfl, hB⟩; rw [Hm2.out]; have Ha := Lib.hid (Ha.out.below (Nat.le_refl _) hB); have HN := Lib.hid (HN.out.below hB); have Hx := Lib.hid (Hx.out.below hB); have Hr := Lib.hid (Hr.out.below hB); have Hy := Lib.hid (Hy.out.below hB); have Ta := Lib.hid (Ta.out.below hB Ta.out.lt); have Tx := Lib.hid (Tx.out.below hB Tx.out.lt); have Ty := Lib.hid (Ty.out.below hB Ty.out.lt); have HB := Lib.hid (HB.out.trans (hB.mono HB.out.size)); have HBl := Lib.hid (HBl.out.trans (hB.mono HBl.out.size)); clear hB ))
      go_wp2_with fail
      go_roundw
      case rel => exact ⟨j + 1, by omega, by go_num, HBl⟩
      case measure => simp [intOf]; omega
    · skip
      have hge : 3 ≤ j := by omega
      go_wp2_with fail
      obtain ⟨m0, hm0⟩ : ∃ m, cmp3 (numZ zs len 0) 0 = m := ⟨_, rfl⟩
      have Hm0 := Lib.hid hm0
      clear hm0
      have hB : Below w10.heap.size w10 w10.drew := ⟨rfl, rfl, rfl, Nat.le_refl _, fun _ _ => rfl⟩
      have Ha := Lib.hid (Ha.out.below (Nat.le_refl _) hB)
      have HN := Lib.hid (HN.out.below hB)
      have Hx := Lib.hid (Hx.out.below hB)
      have Ta := Lib.hid (Ta.out.below hB Ta.out.lt)
      have Tx := Lib.hid (Tx.out.below hB Tx.out.lt)
      have HB := Lib.hid (HB.out.trans (hB.mono HB.out.size))
      clear hB
      go_region_held3 (fun w' => w'.cell? ⟨b_x, 0, none⟩ = some (.bool s_x) ∧ w'.cell? ⟨b_x, 1, none⟩ = some (.slice a_x n_x c_x) ∧ w'.cell? ⟨b_a, 0, none⟩ = some (.bool s_a) ∧ w'.cell? ⟨b_a, 1, none⟩ = some (.slice a_a n_a c_a))
        (first | (exact ⟨Tx.out.cell0, Tx.out.cell1, Ta.out.cell0, Ta.out.cell1⟩) | go_keep)
        (first
          | (go_at_call 39; (with_reducible refine (sign_any _ _ w10.drew Hx.out (numZ_lim zs len 0)).mono ?_); rintro e w11 ⟨rfl, hB⟩; rw [Hm0.out]; have Ha := Lib.hid (Ha.out.below (Nat.le_refl _) hB); have HN := Lib.hid (HN.out.below hB); have Hx := Lib.hid (Hx.out.below hB); have Ta := Lib.hid (Ta.out.below hB Ta.out.lt); have Tx := Lib.hid (Tx.out.below hB Tx.out.lt); have HB := Lib.hid (HB.out.trans (hB.mono HB.out.size)); clear hB )
          | (go_at_call 38; (with_reducible refine (rcompare_any _ _ _ 0 w11 Ha.out (rint_zero _) (Nat.le_trans (lim_len4 _ (numZ_lim zs len 0)) (by omega)) (by decide)).mono ?_); rintro e w12 ⟨rfl, hB⟩; rw [Hm0.out]; have Ha := Lib.hid (Ha.out.below (Nat.le_refl _) hB); have HN := Lib.hid (HN.out.below hB); have Hx := Lib.hid (Hx.out.below hB); have Ta := Lib.hid (Ta.out.below hB Ta.out.lt); have Tx := Lib.hid (Tx.out.below hB Tx.out.lt); have HB := Lib.hid (HB.out.trans (hB.mono HB.out.size)); clear hB )
          | (go_at_call 40; (with_reducible refine (neg_any _ _ w12 Hx.out (numZ_lim zs len 0)).mono ?_); rintro e w13 ⟨vn, rfl, hn, hB⟩; have Ha := Lib.hid (Ha.out.below (Nat.le_refl _) hB); have HN := Lib.hid (HN.out.below hB); have Hx := Lib.hid (Hx.out.below hB); have Ta := Lib.hid (Ta.out.below hB Ta.out.lt); have Tx := Lib.hid (Tx.out.below hB Tx.out.lt); have HB := Lib.hid (HB.out.trans (hB.mono HB.out.size)); have Hn := Lib.hid hn; obtain ⟨s_n, a_n, n_n, c_n, rfl⟩ := hn.form2; clear hB hn)
          | (go_at_call 36; (with_reducible refine (rneg_any _ _ w13 Ha.out (Nat.le_trans (lim_len4 _ (numZ_lim zs len 0)) (by omega))).mono ?_); rintro e w14 ⟨⟨vq, rfl, hq⟩, hB⟩; have Ha := Lib.hid (Ha.out.below (Nat.le_refl _) hB); have HN := Lib.hid (HN.out.below hB); have Hx := Lib.hid (Hx.out.below hB); have Hn := Lib.hid (Hn.out.below hB); have Ta := Lib.hid (Ta.out.below hB Ta.out.lt); have Tx := Lib.hid (Tx.out.below hB Tx.out.lt); have HB := Lib.hid (HB.out.trans (hB.mono HB.out.size)); have Hq := Lib.hid hq; obtain ⟨s_q, a_q, n_q, c_q, rfl⟩ := hq.form2; clear hB hq)
          | (go_at_call 18; (with_reducible refine (equal_any _ _ _ w14 Hn.out Hq.out (by rw [Int.natAbs_neg]; exact numZ_lim zs len 0) (HP.out.below HB.out hg)).mono ?_); rintro e w15 ⟨rfl, hB⟩; have Ha := Lib.hid (Ha.out.below (Nat.le_refl _) hB); have HN := Lib.hid (HN.out.below hB); have Hx := Lib.hid (Hx.out.below hB); have Hn := Lib.hid (Hn.out.below hB); have Hq := Lib.hid (Hq.out.below (Nat.le_refl _) hB); have Ta := Lib.hid (Ta.out.below hB Ta.out.lt); have Tx := Lib.hid (Tx.out.below hB Tx.out.lt); have HB := Lib.hid (HB.out.trans (hB.mono HB.out.size)); clear hB )
          | (go_at_call 20; (with_reducible refine (lives_any w15 (HP.out.below HB.out hg)).mono ?_); rintro e w16 ⟨rfl, hB⟩; have Ha := Lib.hid (Ha.out.below (Nat.le_refl _) hB); have HN := Lib.hid (HN.out.below hB); have Hx := Lib.hid (Hx.out.below hB); have Hn := Lib.hid (Hn.out.below hB); have Hq := Lib.hid (Hq.out.below (Nat.le_refl _) hB); have Ta := Lib.hid (Ta.out.below hB Ta.out.lt); have Tx := Lib.hid (Tx.out.below hB Tx.out.lt); have HB := Lib.hid (HB.out.trans (hB.mono HB.out.size)); clear hB ))
      go_wp2
      go_ret
      exact ⟨rfl, HB.out⟩

end Go.Proofs.YtgfgjnkndfgdiaaDoor
