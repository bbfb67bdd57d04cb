/- the law WideProducts: its walk. -/
import Derived.Test.YtgfgjnkndfgdiaaDoorWLaw
namespace Go.Proofs.YtgfgjnkndfgdiaaDoor
open Go.RowKit

set_option maxRecDepth 100000 in
set_option maxHeartbeats 4000000 in
theorem wideProducts_any (v : Value) (zs : List Int) (len : Nat) (w0 : World) (h : IntsAt w0 v zs len) (hT : Pow10 w0) :
    Calls Tryd.prog 5 #[v] w0 fun e w' => e = .returned (.bool true) ∧ Below w0.heap.size w0 w' := by
  have HI := Lib.hid h
  have HP := Lib.hid hT
  have hg := hT.lt
  have HB := Lib.hid (Below.refl w0.heap.size w0)
  obtain ⟨va, vl, vc, rfl, hv⟩ : ∃ va vl vc, v = .slice va vl vc ∧ vl ≤ 9223372036854775807 := by
    rcases h with ⟨a, cap, rfl, rfl, hcap⟩ | ⟨b, off, cap, rfl, _, h1, h2, _⟩
    · exact ⟨_, _, _, rfl, by omega⟩
    · exact ⟨_, _, _, rfl, by omega⟩
  clear h hT
  go_enter Tryd.func5, Tryd.ntmps5
  go_wp2_with fail
  refine (number_any _ zs len 0 w0 (HI.out.below (Nat.le_refl _) HB.out) (by omega)).mono ?_
  rintro e w1 ⟨⟨va, rfl, ha⟩, hB⟩
  have HB := Lib.hid (HB.out.trans (hB.mono HB.out.size))
  have Ha := Lib.hid ha
  obtain ⟨s_a, a_a, n_a, c_a, rfl⟩ := ha.form2
  clear hB ha
  obtain ⟨w2, hw⟩ : ∃ w', (w1.alloc (.cells #[.bool s_a, .slice a_a n_a c_a] 25)) = w' := ⟨_, rfl⟩
  have hB : Below w1.heap.size w1 w2 := by rw [← hw]; exact (Below.refl _ _).alloc (Nat.le_refl _) _
  obtain ⟨b_a, hb_a⟩ : ∃ b, w1.heap.size = b := ⟨_, rfl⟩
  have Ta' : Hid (Two w2 b_a 25 (.bool s_a) (.slice a_a n_a c_a)) := Lib.hid (by rw [← hw, ← hb_a]; have h9 := (Two.new w1 25 (.bool s_a) (.slice a_a n_a c_a)); exact h9)
  have Ha := Lib.hid (Ha.out.below (Nat.le_refl _) hB)
  have HB := Lib.hid (HB.out.trans (hB.mono HB.out.size))
  have Ta := Ta'
  clear hB Ta'
  go_wp2_with fail
  clear hw hb_a
  refine (number_any _ zs len 6 w2 (HI.out.below (Nat.le_refl _) HB.out) (by omega)).mono ?_
  rintro e w3 ⟨⟨vb, rfl, hb⟩, hB⟩
  have Ha := Lib.hid (Ha.out.below (Nat.le_refl _) hB)
  have Ta := Lib.hid (Ta.out.below hB Ta.out.lt)
  have HB := Lib.hid (HB.out.trans (hB.mono HB.out.size))
  have Hb := Lib.hid hb
  obtain ⟨s_b, a_b, n_b, c_b, rfl⟩ := hb.form2
  clear hB hb
  obtain ⟨w4, hw⟩ : ∃ w', (w3.alloc (.cells #[.bool s_b, .slice a_b n_b c_b] 25)) = w' := ⟨_, rfl⟩
  have hB : Below w3.heap.size w3 w4 := by rw [← hw]; exact (Below.refl _ _).alloc (Nat.le_refl _) _
  obtain ⟨b_b, hb_b⟩ : ∃ b, w3.heap.size = b := ⟨_, rfl⟩
  have Tb' : Hid (Two w4 b_b 25 (.bool s_b) (.slice a_b n_b c_b)) := Lib.hid (by rw [← hw, ← hb_b]; have h9 := (Two.new w3 25 (.bool s_b) (.slice a_b n_b c_b)); exact h9)
  have Ha := Lib.hid (Ha.out.below (Nat.le_refl _) hB)
  have Hb := Lib.hid (Hb.out.below (Nat.le_refl _) hB)
  have Ta := Lib.hid (Ta.out.below hB Ta.out.lt)
  have HB := Lib.hid (HB.out.trans (hB.mono HB.out.size))
  have Tb := Tb'
  clear hB Tb'
  have d0a_4 := Ta.out.cell0
  have d1a_4 := Ta.out.cell1
  have d0b_4 := Tb.out.cell0
  have d1b_4 := Tb.out.cell1
  go_wp2_with fail
  clear hw hb_b d0a_4 d1a_4 d0b_4 d1b_4
  refine (wider_any _ _ w4 Ha.out (numZ_lim zs len 0)).mono ?_
  rintro e w5 ⟨⟨vx, rfl, hx⟩, hB⟩
  have Ha := Lib.hid (Ha.out.below (Nat.le_refl _) hB)
  have Hb := Lib.hid (Hb.out.below (Nat.le_refl _) hB)
  have Ta := Lib.hid (Ta.out.below hB Ta.out.lt)
  have Tb := Lib.hid (Tb.out.below hB Tb.out.lt)
  have HB := Lib.hid (HB.out.trans (hB.mono HB.out.size))
  have Hx := Lib.hid hx
  obtain ⟨s_x, a_x, n_x, c_x, rfl⟩ := hx.form2
  clear hB hx
  obtain ⟨w6, hw⟩ : ∃ w', (w5.alloc (.cells #[.bool s_x, .slice a_x n_x c_x] 33)) = w' := ⟨_, rfl⟩
  have hB : Below w5.heap.size w5 w6 := by rw [← hw]; exact (Below.refl _ _).alloc (Nat.le_refl _) _
  obtain ⟨b_x, hb_x⟩ : ∃ b, w5.heap.size = b := ⟨_, rfl⟩
  have Tx' : Hid (Two w6 b_x 33 (.bool s_x) (.slice a_x n_x c_x)) := Lib.hid (by rw [← hw, ← hb_x]; have h9 := (Two.new w5 33 (.bool s_x) (.slice a_x n_x c_x)); exact h9)
  have Ha := Lib.hid (Ha.out.below (Nat.le_refl _) hB)
  have Hb := Lib.hid (Hb.out.below (Nat.le_refl _) hB)
  have Hx := Lib.hid (Hx.out.below hB)
  have Ta := Lib.hid (Ta.out.below hB Ta.out.lt)
  have Tb := Lib.hid (Tb.out.below hB Tb.out.lt)
  have HB := Lib.hid (HB.out.trans (hB.mono HB.out.size))
  have Tx := Tx'
  clear hB Tx'
  have d0a_6 := Ta.out.cell0
  have d1a_6 := Ta.out.cell1
  have d0b_6 := Tb.out.cell0
  have d1b_6 := Tb.out.cell1
  go_wp2_with fail
  clear hw hb_x d0a_6 d1a_6 d0b_6 d1b_6
  refine (wider_any _ _ w6 Hb.out (numZ_lim zs len 6)).mono ?_
  rintro e w7 ⟨⟨vy, rfl, hy⟩, hB⟩
  have Ha := Lib.hid (Ha.out.below (Nat.le_refl _) hB)
  have Hb := Lib.hid (Hb.out.below (Nat.le_refl _) hB)
  have Hx := Lib.hid (Hx.out.below hB)
  have Ta := Lib.hid (Ta.out.below hB Ta.out.lt)
  have Tb := Lib.hid (Tb.out.below hB Tb.out.lt)
  have Tx := Lib.hid (Tx.out.below hB Tx.out.lt)
  have HB := Lib.hid (HB.out.trans (hB.mono HB.out.size))
  have Hy := Lib.hid hy
  obtain ⟨s_y, a_y, n_y, c_y, rfl⟩ := hy.form2
  clear hB hy
  obtain ⟨w8, hw⟩ : ∃ w', (w7.alloc (.cells #[.bool s_y, .slice a_y n_y c_y] 33)) = w' := ⟨_, rfl⟩
  have hB : Below w7.heap.size w7 w8 := by rw [← hw]; exact (Below.refl _ _).alloc (Nat.le_refl _) _
  obtain ⟨b_y, hb_y⟩ : ∃ b, w7.heap.size = b := ⟨_, rfl⟩
  have Ty' : Hid (Two w8 b_y 33 (.bool s_y) (.slice a_y n_y c_y)) := Lib.hid (by rw [← hw, ← hb_y]; have h9 := (Two.new w7 33 (.bool s_y) (.slice a_y n_y c_y)); exact h9)
  have Ha := Lib.hid (Ha.out.below (Nat.le_refl _) hB)
  have Hb := Lib.hid (Hb.out.below (Nat.le_refl _) hB)
  have Hx := Lib.hid (Hx.out.below hB)
  have Hy := Lib.hid (Hy.out.below hB)
  have Ta := Lib.hid (Ta.out.below hB Ta.out.lt)
  have Tb := Lib.hid (Tb.out.below hB Tb.out.lt)
  have Tx := Lib.hid (Tx.out.below hB Tx.out.lt)
  have HB := Lib.hid (HB.out.trans (hB.mono HB.out.size))
  have Ty := Ty'
  clear hB Ty'
  have d0x_8 := Tx.out.cell0
  have d1x_8 := Tx.out.cell1
  have d0y_8 := Ty.out.cell0
  have d1y_8 := Ty.out.cell1
  go_wp2_with fail
  clear hw hb_y d0x_8 d1x_8 d0y_8 d1y_8
  refine (mul_any _ _ _ _ w8 Hx.out Hy.out (numZ_lim zs len 0) (numZ_lim zs len 6)).mono ?_
  rintro e w9 hL
  obtain ⟨vp, rfl, hp, hB⟩ := hL.okW (prod_lim zs len)
  have Ha := Lib.hid (Ha.out.below (Nat.le_refl _) hB)
  have Hb := Lib.hid (Hb.out.below (Nat.le_refl _) hB)
  have Hx := Lib.hid (Hx.out.below hB)
  have Hy := Lib.hid (Hy.out.below hB)
  have Ta := Lib.hid (Ta.out.below hB Ta.out.lt)
  have Tb := Lib.hid (Tb.out.below hB Tb.out.lt)
  have Tx := Lib.hid (Tx.out.below hB Tx.out.lt)
  have Ty := Lib.hid (Ty.out.below hB Ty.out.lt)
  have HB := Lib.hid (HB.out.trans (hB.mono HB.out.size))
  have Hp := Lib.hid hp
  obtain ⟨s_p, a_p, n_p, c_p, rfl⟩ := hp.form2
  clear hB hp
  obtain ⟨w10, hw⟩ : ∃ w', (w9.alloc (.cells #[.bool s_p, .slice a_p n_p c_p] 33)) = w' := ⟨_, rfl⟩
  have hB : Below w9.heap.size w9 w10 := by rw [← hw]; exact (Below.refl _ _).alloc (Nat.le_refl _) _
  obtain ⟨b_p, hb_p⟩ : ∃ b, w9.heap.size = b := ⟨_, rfl⟩
  have Tp' : Hid (Two w10 b_p 33 (.bool s_p) (.slice a_p n_p c_p)) := Lib.hid (by rw [← hw, ← hb_p]; have h9 := (Two.new w9 33 (.bool s_p) (.slice a_p n_p c_p)); exact h9)
  have Ha := Lib.hid (Ha.out.below (Nat.le_refl _) hB)
  have Hb := Lib.hid (Hb.out.below (Nat.le_refl _) hB)
  have Hx := Lib.hid (Hx.out.below hB)
  have Hy := Lib.hid (Hy.out.below hB)
  have Hp := Lib.hid (Hp.out.below hB)
  have Ta := Lib.hid (Ta.out.below hB Ta.out.lt)
  have Tb := Lib.hid (Tb.out.below hB Tb.out.lt)
  have Tx := Lib.hid (Tx.out.below hB Tx.out.lt)
  have Ty := Lib.hid (Ty.out.below hB Ty.out.lt)
  have HB := Lib.hid (HB.out.trans (hB.mono HB.out.size))
  have Tp := Tp'
  clear hB Tp'
  have d0p_10 := Tp.out.cell0
  have d1p_10 := Tp.out.cell1
  have d0a_10 := Ta.out.cell0
  have d1a_10 := Ta.out.cell1
  have d0b_10 := Tb.out.cell0
  have d1b_10 := Tb.out.cell1
  go_wp2_with fail
  clear hw hb_p d0p_10 d1p_10 d0a_10 d1a_10 d0b_10 d1b_10
  have hB : Below w10.heap.size w10 w10.drew := ⟨rfl, rfl, rfl, Nat.le_refl _, fun _ _ => rfl⟩
  have Ha := Lib.hid (Ha.out.below (Nat.le_refl _) hB)
  have Hb := Lib.hid (Hb.out.below (Nat.le_refl _) hB)
  have Hx := Lib.hid (Hx.out.below hB)
  have Hy := Lib.hid (Hy.out.below hB)
  have Hp := Lib.hid (Hp.out.below hB)
  have Ta := Lib.hid (Ta.out.below hB Ta.out.lt)
  have Tb := Lib.hid (Tb.out.below hB Tb.out.lt)
  have Tx := Lib.hid (Tx.out.below hB Tx.out.lt)
  have Ty := Lib.hid (Ty.out.below hB Ty.out.lt)
  have Tp := Lib.hid (Tp.out.below hB Tp.out.lt)
  have HB := Lib.hid (HB.out.trans (hB.mono HB.out.size))
  clear hB
  go_region_held3 (fun w' => w'.cell? ⟨b_p, 0, none⟩ = some (.bool s_p) ∧ w'.cell? ⟨b_p, 1, none⟩ = some (.slice a_p n_p c_p) ∧ w'.cell? ⟨b_a, 0, none⟩ = some (.bool s_a) ∧ w'.cell? ⟨b_a, 1, none⟩ = some (.slice a_a n_a c_a) ∧ w'.cell? ⟨b_b, 0, none⟩ = some (.bool s_b) ∧ w'.cell? ⟨b_b, 1, none⟩ = some (.slice a_b n_b c_b))
    (first | (exact ⟨Tp.out.cell0, Tp.out.cell1, Ta.out.cell0, Ta.out.cell1, Tb.out.cell0, Tb.out.cell1⟩) | go_keep)
    (first
      | (go_at_call 28; (with_reducible refine (rmul_any _ _ _ _ w10.drew Ha.out Hb.out (Nat.le_trans (lim_len4 _ (numZ_lim zs len 0)) (by omega)) (Nat.le_trans (lim_len4 _ (numZ_lim zs len 6)) (by omega))).mono ?_); rintro e w11 ⟨⟨vm, rfl, hm⟩, hB⟩; have Ha := Lib.hid (Ha.out.below (Nat.le_refl _) hB); have Hb := Lib.hid (Hb.out.below (Nat.le_refl _) hB); have Hx := Lib.hid (Hx.out.below hB); have Hy := Lib.hid (Hy.out.below hB); have Hp := Lib.hid (Hp.out.below hB); have Ta := Lib.hid (Ta.out.below hB Ta.out.lt); have Tb := Lib.hid (Tb.out.below hB Tb.out.lt); have Tx := Lib.hid (Tx.out.below hB Tx.out.lt); have Ty := Lib.hid (Ty.out.below hB Ty.out.lt); have Tp := Lib.hid (Tp.out.below hB Tp.out.lt); have HB := Lib.hid (HB.out.trans (hB.mono HB.out.size)); have Hm := Lib.hid hm; obtain ⟨s_m, a_m, n_m, c_m, rfl⟩ := hm.form2; clear hB hm)
      | (go_at_call 18; (with_reducible refine (equal_any _ _ _ w11 Hp.out Hm.out (prod_lim zs len) (HP.out.below HB.out hg)).mono ?_); rintro e w12 ⟨rfl, hB⟩; have Ha := Lib.hid (Ha.out.below (Nat.le_refl _) hB); have Hb := Lib.hid (Hb.out.below (Nat.le_refl _) hB); have Hx := Lib.hid (Hx.out.below hB); have Hy := Lib.hid (Hy.out.below hB); have Hp := Lib.hid (Hp.out.below hB); have Hm := Lib.hid (Hm.out.below (Nat.le_refl _) hB); have Ta := Lib.hid (Ta.out.below hB Ta.out.lt); have Tb := Lib.hid (Tb.out.below hB Tb.out.lt); have Tx := Lib.hid (Tx.out.below hB Tx.out.lt); have Ty := Lib.hid (Ty.out.below hB Ty.out.lt); have Tp := Lib.hid (Tp.out.below hB Tp.out.lt); have HB := Lib.hid (HB.out.trans (hB.mono HB.out.size)); clear hB )
      | (go_at_call 20; (with_reducible refine (lives_any w12 (HP.out.below HB.out hg)).mono ?_); rintro e w13 ⟨rfl, hB⟩; have Ha := Lib.hid (Ha.out.below (Nat.le_refl _) hB); have Hb := Lib.hid (Hb.out.below (Nat.le_refl _) hB); have Hx := Lib.hid (Hx.out.below hB); have Hy := Lib.hid (Hy.out.below hB); have Hp := Lib.hid (Hp.out.below hB); have Hm := Lib.hid (Hm.out.below (Nat.le_refl _) hB); have Ta := Lib.hid (Ta.out.below hB Ta.out.lt); have Tb := Lib.hid (Tb.out.below hB Tb.out.lt); have Tx := Lib.hid (Tx.out.below hB Tx.out.lt); have Ty := Lib.hid (Ty.out.below hB Ty.out.lt); have Tp := Lib.hid (Tp.out.below hB Tp.out.lt); have HB := Lib.hid (HB.out.trans (hB.mono HB.out.size)); clear hB ))
  go_wp2
  go_ret
  exact ⟨rfl, HB.out⟩

end Go.Proofs.YtgfgjnkndfgdiaaDoor
