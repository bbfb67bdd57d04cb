/- the law WideFrom: its walk. -/
import Derived.Test.YtgfgjnkndfgdiaaDoorR5Small
import Derived.Test.YtgfgjnkndfgdiaaDoorNRow
import Derived.Test.YtgfgjnkndfgdiaaDoorR5Near
namespace Go.Proofs.YtgfgjnkndfgdiaaDoor
open Go.RowKit

theorem int_lim (z : Int) (h1 : -9223372036854775808 ≤ z) (h2 : z ≤ 9223372036854775807) : z.natAbs < LIM := lim_of_le (k := 64) (by decide) (by omega)
theorem small_in (z : Int) (h1 : -9223372036854775808 ≤ z) (h2 : z ≤ 9223372036854775807) : smallV z = .tuple #[.int .i64 z, .bool true] := by
  unfold smallV; rw [if_pos ⟨h1, h2⟩]

theorem near_lt (E : Nat) (F : Int) (hF : -3 ≤ F ∧ F ≤ 3) : (((2 ^ E : Nat) : Int) + F).natAbs < 2 ^ (E + 3) := by
  have := Nat.one_le_two_pow (n := E)
  rw [Nat.pow_add]
  generalize 2 ^ E = p at *
  omega
theorem nearZ_lt (n : Int) (r : Nat) (hr : (around n 28).toNat % 4 = r) : (nearZ n).natAbs < 2 ^ (nearE r + 3) := by
  have h := around_range n 28 (by omega)
  unfold nearZ
  rw [hr]
  split
  · rw [Int.natAbs_neg]; exact near_lt _ _ (by omega)
  · exact near_lt _ _ (by omega)
theorem near3_lim (q1 q2 : Int) (h1 : 0 ≤ q1 ∧ q1 < 7) (h2 : 0 ≤ q2 ∧ q2 < 2) : (nearZ (4 * q1 + 3 + 28 * q2)).natAbs < LIM := by
  have h : (around (4 * q1 + 3 + 28 * q2) 28).toNat % 4 = 3 := by
    unfold around
    rw [if_neg (by omega)]
    omega
  have := nearZ_lt _ 3 h
  rw [nearEn.2.2.2] at this
  exact lim_of_le (k := 63 + 3) (by decide) this

set_option maxRecDepth 100000 in
set_option maxHeartbeats 4000000 in
theorem wideFrom_any (z : Int) (v : Value) (zs : List Int) (len : Nat) (k : Int) (w0 : World) (h1 : -9223372036854775808 ≤ z) (h2 : z ≤ 9223372036854775807) (h : IntsAt w0 v zs len) (h3 : -9223372036854775808 ≤ k) (h4 : k ≤ 9223372036854775807) (hT : Pow10 w0) :
    Calls Tryd.prog 4 #[.int .i64 z, v, .int .i64 k] w0 fun e w' => e = .returned (.bool true) ∧ Below w0.heap.size w0 w' := by
  have HI := Lib.hid h
  have HP := Lib.hid hT
  have hg := hT.lt
  have HB := Lib.hid (Below.refl w0.heap.size w0)
  obtain ⟨va, vl, vc, rfl, hv⟩ : ∃ va vl vc, v = .slice va vl vc ∧ vl ≤ 9223372036854775807 := by
    rcases h with ⟨a, cap, rfl, rfl, hcap⟩ | ⟨b, off, cap, rfl, _, h1, h2, _⟩
    · exact ⟨_, _, _, rfl, by omega⟩
    · exact ⟨_, _, _, rfl, by omega⟩
  clear h hT
  go_enter Tryd.func4, Tryd.ntmps4
  go_wp2_with fail
  refine (from_any z w0 h1 h2).mono ?_
  rintro e w1 ⟨vx, rfl, hx, hB⟩
  have HB := Lib.hid (HB.out.trans (hB.mono HB.out.size))
  have Hx := Lib.hid hx
  obtain ⟨s_x, a_x, n_x, c_x, rfl⟩ := hx.form2
  clear hB hx
  obtain ⟨w2, hw⟩ : ∃ w', (w1.alloc (.cells #[.bool s_x, .slice a_x n_x c_x] 33)) = w' := ⟨_, rfl⟩
  have hB : Below w1.heap.size w1 w2 := by rw [← hw]; exact (Below.refl _ _).alloc (Nat.le_refl _) _
  obtain ⟨b_x, hb_x⟩ : ∃ b, w1.heap.size = b := ⟨_, rfl⟩
  have Tx' : Hid (Two w2 b_x 33 (.bool s_x) (.slice a_x n_x c_x)) := Lib.hid (by rw [← hw, ← hb_x]; have h9 := (Two.new w1 33 (.bool s_x) (.slice a_x n_x c_x)); exact h9)
  have Hx := Lib.hid (Hx.out.below hB)
  have HB := Lib.hid (HB.out.trans (hB.mono HB.out.size))
  have Tx := Tx'
  clear hB Tx'
  have d0x_2 := Tx.out.cell0
  have d1x_2 := Tx.out.cell1
  go_wp2_with fail
  clear hw hb_x d0x_2 d1x_2
  refine (small_any _ z w2 Hx.out (int_lim z h1 h2)).mono ?_
  rintro e w3 ⟨rfl, hB⟩
  rw [small_in z h1 h2]
  have Hx := Lib.hid (Hx.out.below hB)
  have Tx := Lib.hid (Tx.out.below hB Tx.out.lt)
  have HB := Lib.hid (HB.out.trans (hB.mono HB.out.size))
  clear hB 
  have d0x_3 := Tx.out.cell0
  have d1x_3 := Tx.out.cell1
  go_wp2_with fail
  have hB : Below w3.heap.size w3 w3.drew := ⟨rfl, rfl, rfl, Nat.le_refl _, fun _ _ => rfl⟩
  have Hx := Lib.hid (Hx.out.below hB)
  have Tx := Lib.hid (Tx.out.below hB Tx.out.lt)
  have HB := Lib.hid (HB.out.trans (hB.mono HB.out.size))
  clear hB
  go_region_held3 (fun w' => w'.cell? ⟨b_x, 0, none⟩ = some (.bool s_x) ∧ w'.cell? ⟨b_x, 1, none⟩ = some (.slice a_x n_x c_x))
    (first | (exact ⟨Tx.out.cell0, Tx.out.cell1⟩) | go_keep)
    (first
      | (go_at_call 23; (with_reducible refine (of_any z w3.drew h1 h2).mono ?_); rintro e w4 ⟨⟨vo, rfl, ho⟩, hB⟩; have Hx := Lib.hid (Hx.out.below hB); have Tx := Lib.hid (Tx.out.below hB Tx.out.lt); have HB := Lib.hid (HB.out.trans (hB.mono HB.out.size)); have Ho := Lib.hid ho; obtain ⟨s_o, a_o, n_o, c_o, rfl⟩ := ho.form2; clear hB ho)
      | (go_at_call 18; (with_reducible refine (equal_any _ _ _ w4 Hx.out Ho.out (int_lim z h1 h2) (HP.out.below HB.out hg)).mono ?_); rintro e w5 ⟨rfl, hB⟩; have Hx := Lib.hid (Hx.out.below hB); have Ho := Lib.hid (Ho.out.below (Nat.le_refl _) hB); have Tx := Lib.hid (Tx.out.below hB Tx.out.lt); have HB := Lib.hid (HB.out.trans (hB.mono HB.out.size)); clear hB ))
  go_wp2_with fail
  refine (number_any _ zs len 0 w5 (HI.out.below (Nat.le_refl _) HB.out) (by omega)).mono ?_
  rintro e w6 ⟨⟨va, rfl, ha⟩, hB⟩
  have Hx := Lib.hid (Hx.out.below hB)
  have Ho := Lib.hid (Ho.out.below (Nat.le_refl _) hB)
  have Tx := Lib.hid (Tx.out.below hB Tx.out.lt)
  have HB := Lib.hid (HB.out.trans (hB.mono HB.out.size))
  have Ha := Lib.hid ha
  obtain ⟨s_a, a_a, n_a, c_a, rfl⟩ := ha.form2
  clear hB ha
  go_wp2_with fail
  refine (around_any k 7 w6 h3 h4 (by omega) (by omega)).mono ?_
  rintro e w7 ⟨rfl, rfl⟩
  have hq1 := around_range k 7 (by omega)
  generalize around k 7 = q1 at *
  go_wp2_with fail
  refine (around_any (k.tdiv 7) 2 w6 (tdiv_bd k 7 h3 h4).1 (tdiv_bd k 7 h3 h4).2 (by omega) (by omega)).mono ?_
  rintro e w7 ⟨rfl, rfl⟩
  have hq2 := around_range (k.tdiv 7) 2 (by omega)
  generalize around (k.tdiv 7) 2 = q2 at *
  go_wp2_with fail
  refine (near_any _ w6 (by omega) (by omega)).mono ?_
  rintro e w7 ⟨⟨vb, rfl, hb⟩, hB⟩
  have Hx := Lib.hid (Hx.out.below hB)
  have Ho := Lib.hid (Ho.out.below (Nat.le_refl _) hB)
  have Ha := Lib.hid (Ha.out.below (Nat.le_refl _) hB)
  have Tx := Lib.hid (Tx.out.below hB Tx.out.lt)
  have HB := Lib.hid (HB.out.trans (hB.mono HB.out.size))
  have Hb := Lib.hid hb
  obtain ⟨s_b, a_b, n_b, c_b, rfl⟩ := hb.form2
  clear hB hb
  obtain ⟨z2, hz2⟩ : ∃ z2, nearZ (4 * q1 + 3 + 28 * q2) = z2 := ⟨_, rfl⟩
  have HN2 := Lib.hid (near3_lim q1 q2 hq1 hq2)
  rw [hz2] at Hb HN2
  clear hz2
  have HNR := Lib.hid (NRow.two 25 Ha.out Hb.out)
  have HBW := Lib.hid (HB.out.alloc HB.out.size (.cells #[.bool s_a, .slice a_a n_a c_a, .bool s_b, .slice a_b n_b c_b] 25))
  go_wp2_with fail
  obtain ⟨g, hgg⟩ : ∃ g, w7.heap.size = g := ⟨_, rfl⟩
  obtain ⟨W, hW⟩ : ∃ W, w7.alloc (.cells #[.bool s_a, .slice a_a n_a c_a, .bool s_b, .slice a_b n_b c_b] 25) = W := ⟨_, rfl⟩
  rw [hgg, hW] at HNR
  rw [hW] at HBW
  rw [hgg, hW]
  clear hgg hW Hx Tx Ho Ha Hb HB
  have HLz : Hid (∀ i (h : i < [numZ zs len 0, z2].length), ([numZ zs len 0, z2][i]).natAbs < LIM) := Lib.hid (fun i hi => by match i, hi with | 0, _ => exact numZ_lim zs len 0 | 1, _ => exact HN2.out)
  obtain ⟨Z, hZ⟩ : ∃ Z, [numZ zs len 0, z2] = Z := ⟨_, rfl⟩
  have hZl : Z.length = 2 := by rw [← hZ]; rfl
  rw [hZ] at HNR HLz
  clear hZ
  go_loopw [11] (fun i wr => ∃ (j : Nat), j ≤ 2 ∧ i = .int .i64 j ∧ Hid (Below W.heap.size W wr)) (fun i _ => 2 - (intOf i).toNat)
  case atStart => exact ⟨0, by omega, rfl, Lib.hid (Below.refl _ _)⟩
  case round =>
    obtain ⟨j, hj, rfl, hBl⟩ := hrel
    obtain ⟨w9, rfl⟩ : ∃ w' : World, w' = wr := ⟨_, rfl⟩
    have HB := Lib.hid (HBW.out.trans (hBl.out.mono HBW.out.size))
    have HBl := hBl
    clear hBl
    by_cases hlt : j < 2
    · skip
      have hjz : j < Z.length := by omega
      obtain ⟨s_r, a_r, n_r, c_r, hr⟩ := (HNR.out.below HBl.out).at_ j hjz
      have hzl := HLz.out j hjz
      obtain ⟨zj, hzj⟩ : ∃ zj, Z[j] = zj := ⟨_, rfl⟩
      rw [hzj] at hr hzl
      have Hr := Lib.hid hr
      have Hzl := Lib.hid hzl
      clear hr hzj hzl
      obtain ⟨m, t, hsv⟩ := smallV_form zj
      have Hsv := Lib.hid hsv
      clear hsv
      have d0r_9 := Hr.out.c0
      have d1r_9 := Hr.out.c1
      go_wp2_with fail
      clear d0r_9 d1r_9
      refine (wider_any _ _ w9 Hr.out.r Hzl.out).mono ?_
      rintro e w10 ⟨⟨vy, rfl, hy⟩, hB⟩
      have Hr := Lib.hid (Hr.out.below hB)
      have HB := Lib.hid (HB.out.trans (hB.mono HB.out.size))
      have HBl := Lib.hid (HBl.out.trans (hB.mono HBl.out.size))
      have Hy := Lib.hid hy
      obtain ⟨s_y, a_y, n_y, c_y, rfl⟩ := hy.form2
      clear hB hy
      obtain ⟨w11, hw⟩ : ∃ w', (w10.alloc (.cells #[.bool s_y, .slice a_y n_y c_y] 33)) = w' := ⟨_, rfl⟩
      have hB : Below w10.heap.size w10 w11 := by rw [← hw]; exact (Below.refl _ _).alloc (Nat.le_refl _) _
      obtain ⟨b_y, hb_y⟩ : ∃ b, w10.heap.size = b := ⟨_, rfl⟩
      have Ty' : Hid (Two w11 b_y 33 (.bool s_y) (.slice a_y n_y c_y)) := Lib.hid (by rw [← hw, ← hb_y]; have h9 := (Two.new w10 33 (.bool s_y) (.slice a_y n_y c_y)); exact h9)
      have Hr := Lib.hid (Hr.out.below hB)
      have Hy := Lib.hid (Hy.out.below hB)
      have HB := Lib.hid (HB.out.trans (hB.mono HB.out.size))
      have HBl := Lib.hid (HBl.out.trans (hB.mono HBl.out.size))
      have Ty := Ty'
      clear hB Ty'
      have d0y_11 := Ty.out.cell0
      have d1y_11 := Ty.out.cell1
      go_wp2_with fail
      clear hw hb_y d0y_11 d1y_11
      refine (small_any _ zj w11 Hy.out Hzl.out).mono ?_
      rintro e w12 ⟨rfl, hB⟩
      rw [Hsv.out]
      have Hr := Lib.hid (Hr.out.below hB)
      have Hy := Lib.hid (Hy.out.below hB)
      have Ty := Lib.hid (Ty.out.below hB Ty.out.lt)
      have HB := Lib.hid (HB.out.trans (hB.mono HB.out.size))
      have HBl := Lib.hid (HBl.out.trans (hB.mono HBl.out.size))
      clear hB 
      have d0r_12 := Hr.out.c0
      have d1r_12 := Hr.out.c1
      go_wp2_with fail
      clear d0r_12 d1r_12
      refine (rsmall_any _ zj w12 Hr.out.r (Nat.le_trans (lim_len4 _ Hzl.out) (by omega))).mono ?_
      rintro e w13 ⟨rfl, hB⟩
      rw [Hsv.out]
      have Hr := Lib.hid (Hr.out.below hB)
      have Hy := Lib.hid (Hy.out.below hB)
      have Ty := Lib.hid (Ty.out.below hB Ty.out.lt)
      have HB := Lib.hid (HB.out.trans (hB.mono HB.out.size))
      have HBl := Lib.hid (HBl.out.trans (hB.mono HBl.out.size))
      clear hB 
      go_wp2_with fail
      go_roundw
      case rel => exact ⟨j + 1, by omega, by go_num, HBl⟩
      case measure => simp [intOf]; omega
    · skip
      have hge : 2 ≤ j := by omega
      go_wp2_with fail
      refine (lives_any w9 (HP.out.below HB.out hg)).mono ?_
      rintro e w10 ⟨rfl, hB⟩
      have HB := Lib.hid (HB.out.trans (hB.mono HB.out.size))
      clear hB 
      go_wp2
      go_ret
      exact ⟨rfl, HB.out⟩

end Go.Proofs.YtgfgjnkndfgdiaaDoor
