/- the law WideSums: its walk. -/
import Derived.Test.YtgfgjnkndfgdiaaDoorWLaw
namespace Go.Proofs.YtgfgjnkndfgdiaaDoor
open Go.RowKit

theorem two_lt {x y : Int} {a : Nat} (hx : x.natAbs < 2 ^ a) (hy : y.natAbs < 2 ^ a) : (x + y).natAbs < 2 ^ (a + 1) ∧ (x - y).natAbs < 2 ^ (a + 1) := by
  rw [Nat.pow_succ]
  omega
theorem sum_lim (zs : List Int) (len : Nat) : (numZ zs len 0 + numZ zs len 6).natAbs < LIM := lim_of_le (k := 230 + 1) (by decide) (two_lt (numZ_lt _ _ _) (numZ_lt _ _ _)).1
theorem dif_lim (zs : List Int) (len : Nat) : (numZ zs len 0 - numZ zs len 6).natAbs < LIM := lim_of_le (k := 230 + 1) (by decide) (two_lt (numZ_lt _ _ _) (numZ_lt _ _ _)).2

set_option maxRecDepth 100000 in
set_option maxHeartbeats 4000000 in
theorem wideSums_any (v : Value) (zs : List Int) (len : Nat) (w0 : World) (h : IntsAt w0 v zs len) (hT : Pow10 w0) :
    Calls Tryd.prog 7 #[v] w0 fun e w' => e = .returned (.bool true) ∧ Below w0.heap.size w0 w' := by
  have HI := Lib.hid h
  have HP := Lib.hid hT
  have hg := hT.lt
  have HB := Lib.hid (Below.refl w0.heap.size w0)
  obtain ⟨va, vl, vc, rfl, hv⟩ : ∃ va vl vc, v = .slice va vl vc ∧ vl ≤ 9223372036854775807 := by
    rcases h with ⟨a, cap, rfl, rfl, hcap⟩ | ⟨b, off, cap, rfl, _, h1, h2, _⟩
    · exact ⟨_, _, _, rfl, by omega⟩
    · exact ⟨_, _, _, rfl, by omega⟩
  clear h hT
  go_enter Tryd.func7, Tryd.ntmps7
  go_wp2_with fail
  refine (number_any _ zs len 0 w0 (HI.out.below (Nat.le_refl _) HB.out) (by omega)).mono ?_
  rintro e w1 ⟨⟨va, rfl, ha⟩, hB⟩
  have HB := Lib.hid (HB.out.trans (hB.mono HB.out.size))
  have Ha := Lib.hid ha
  obtain ⟨s_a, a_a, n_a, c_a, rfl⟩ := ha.form2
  clear hB ha
  obtain ⟨w2, hw⟩ : ∃ w', (w1.alloc (.cells #[.bool s_a, .slice a_a n_a c_a] 25)) = w' := ⟨_, rfl⟩
  have hB : Below w1.heap.size w1 w2 := by rw [← hw]; exact (Below.refl _ _).alloc (Nat.le_refl _) _
  obtain ⟨b_a, hb_a⟩ : ∃ b, w1.heap.size = b := ⟨_, rfl⟩
  have Ta' : Hid (Two w2 b_a 25 (.bool s_a) (.slice a_a n_a c_a)) := Lib.hid (by rw [← hw, ← hb_a]; have h9 := (Two.new w1 25 (.bool s_a) (.slice a_a n_a c_a)); exact h9)
  have Ha := Lib.hid (Ha.out.below (Nat.le_refl _) hB)
  have HB := Lib.hid (HB.out.trans (hB.mono HB.out.size))
  have Ta := Ta'
  clear hB Ta'
  go_wp2_with fail
  clear hw hb_a
  refine (number_any _ zs len 6 w2 (HI.out.below (Nat.le_refl _) HB.out) (by omega)).mono ?_
  rintro e w3 ⟨⟨vb, rfl, hb⟩, hB⟩
  have Ha := Lib.hid (Ha.out.below (Nat.le_refl _) hB)
  have Ta := Lib.hid (Ta.out.below hB Ta.out.lt)
  have HB := Lib.hid (HB.out.trans (hB.mono HB.out.size))
  have Hb := Lib.hid hb
  obtain ⟨s_b, a_b, n_b, c_b, rfl⟩ := hb.form2
  clear hB hb
  obtain ⟨w4, hw⟩ : ∃ w', (w3.alloc (.cells #[.bool s_b, .slice a_b n_b c_b] 25)) = w' := ⟨_, rfl⟩
  have hB : Below w3.heap.size w3 w4 := by rw [← hw]; exact (Below.refl _ _).alloc (Nat.le_refl _) _
  obtain ⟨b_b, hb_b⟩ : ∃ b, w3.heap.size = b := ⟨_, rfl⟩
  have Tb' : Hid (Two w4 b_b 25 (.bool s_b) (.slice a_b n_b c_b)) := Lib.hid (by rw [← hw, ← hb_b]; have h9 := (Two.new w3 25 (.bool s_b) (.slice a_b n_b c_b)); exact h9)
  have Ha := Lib.hid (Ha.out.below (Nat.le_refl _) hB)
  have Hb := Lib.hid (Hb.out.below (Nat.le_refl _) hB)
  have Ta := Lib.hid (Ta.out.below hB Ta.out.lt)
  have HB := Lib.hid (HB.out.trans (hB.mono HB.out.size))
  have Tb := Tb'
  clear hB Tb'
  have d0a_4 := Ta.out.cell0
  have d1a_4 := Ta.out.cell1
  have d0b_4 := Tb.out.cell0
  have d1b_4 := Tb.out.cell1
  go_wp2_with fail
  clear hw hb_b d0a_4 d1a_4 d0b_4 d1b_4
  refine (wider_any _ _ w4 Ha.out (numZ_lim zs len 0)).mono ?_
  rintro e w5 ⟨⟨vx, rfl, hx⟩, hB⟩
  have Ha := Lib.hid (Ha.out.below (Nat.le_refl _) hB)
  have Hb := Lib.hid (Hb.out.below (Nat.le_refl _) hB)
  have Ta := Lib.hid (Ta.out.below hB Ta.out.lt)
  have Tb := Lib.hid (Tb.out.below hB Tb.out.lt)
  have HB := Lib.hid (HB.out.trans (hB.mono HB.out.size))
  have Hx := Lib.hid hx
  obtain ⟨s_x, a_x, n_x, c_x, rfl⟩ := hx.form2
  clear hB hx
  obtain ⟨w6, hw⟩ : ∃ w', (w5.alloc (.cells #[.bool s_x, .slice a_x n_x c_x] 33)) = w' := ⟨_, rfl⟩
  have hB : Below w5.heap.size w5 w6 := by rw [← hw]; exact (Below.refl _ _).alloc (Nat.le_refl _) _
  obtain ⟨b_x, hb_x⟩ : ∃ b, w5.heap.size = b := ⟨_, rfl⟩
  have Tx' : Hid (Two w6 b_x 33 (.bool s_x) (.slice a_x n_x c_x)) := Lib.hid (by rw [← hw, ← hb_x]; have h9 := (Two.new w5 33 (.bool s_x) (.slice a_x n_x c_x)); exact h9)
  have Ha := Lib.hid (Ha.out.below (Nat.le_refl _) hB)
  have Hb := Lib.hid (Hb.out.below (Nat.le_refl _) hB)
  have Hx := Lib.hid (Hx.out.below hB)
  have Ta := Lib.hid (Ta.out.below hB Ta.out.lt)
  have Tb := Lib.hid (Tb.out.below hB Tb.out.lt)
  have HB := Lib.hid (HB.out.trans (hB.mono HB.out.size))
  have Tx := Tx'
  clear hB Tx'
  have d0a_6 := Ta.out.cell0
  have d1a_6 := Ta.out.cell1
  have d0b_6 := Tb.out.cell0
  have d1b_6 := Tb.out.cell1
  go_wp2_with fail
  clear hw hb_x d0a_6 d1a_6 d0b_6 d1b_6
  refine (wider_any _ _ w6 Hb.out (numZ_lim zs len 6)).mono ?_
  rintro e w7 ⟨⟨vy, rfl, hy⟩, hB⟩
  have Ha := Lib.hid (Ha.out.below (Nat.le_refl _) hB)
  have Hb := Lib.hid (Hb.out.below (Nat.le_refl _) hB)
  have Hx := Lib.hid (Hx.out.below hB)
  have Ta := Lib.hid (Ta.out.below hB Ta.out.lt)
  have Tb := Lib.hid (Tb.out.below hB Tb.out.lt)
  have Tx := Lib.hid (Tx.out.below hB Tx.out.lt)
  have HB := Lib.hid (HB.out.trans (hB.mono HB.out.size))
  have Hy := Lib.hid hy
  obtain ⟨s_y, a_y, n_y, c_y, rfl⟩ := hy.form2
  clear hB hy
  obtain ⟨w8, hw⟩ : ∃ w', (w7.alloc (.cells #[.bool s_y, .slice a_y n_y c_y] 33)) = w' := ⟨_, rfl⟩
  have hB : Below w7.heap.size w7 w8 := by rw [← hw]; exact (Below.refl _ _).alloc (Nat.le_refl _) _
  obtain ⟨b_y, hb_y⟩ : ∃ b, w7.heap.size = b := ⟨_, rfl⟩
  have Ty' : Hid (Two w8 b_y 33 (.bool s_y) (.slice a_y n_y c_y)) := Lib.hid (by rw [← hw, ← hb_y]; have h9 := (Two.new w7 33 (.bool s_y) (.slice a_y n_y c_y)); exact h9)
  have Ha := Lib.hid (Ha.out.below (Nat.le_refl _) hB)
  have Hb := Lib.hid (Hb.out.below (Nat.le_refl _) hB)
  have Hx := Lib.hid (Hx.out.below hB)
  have Hy := Lib.hid (Hy.out.below hB)
  have Ta := Lib.hid (Ta.out.below hB Ta.out.lt)
  have Tb := Lib.hid (Tb.out.below hB Tb.out.lt)
  have Tx := Lib.hid (Tx.out.below hB Tx.out.lt)
  have HB := Lib.hid (HB.out.trans (hB.mono HB.out.size))
  have Ty := Ty'
  clear hB Ty'
  have d0x_8 := Tx.out.cell0
  have d1x_8 := Tx.out.cell1
  have d0y_8 := Ty.out.cell0
  have d1y_8 := Ty.out.cell1
  go_wp2_with fail
  clear hw hb_y d0x_8 d1x_8 d0y_8 d1y_8
  refine (add_any _ _ _ _ w8 Hx.out Hy.out (numZ_lim zs len 0) (numZ_lim zs len 6)).mono ?_
  rintro e w9 hL
  obtain ⟨vs, rfl, hs, hB⟩ := hL.okW (sum_lim zs len)
  have Ha := Lib.hid (Ha.out.below (Nat.le_refl _) hB)
  have Hb := Lib.hid (Hb.out.below (Nat.le_refl _) hB)
  have Hx := Lib.hid (Hx.out.below hB)
  have Hy := Lib.hid (Hy.out.below hB)
  have Ta := Lib.hid (Ta.out.below hB Ta.out.lt)
  have Tb := Lib.hid (Tb.out.below hB Tb.out.lt)
  have Tx := Lib.hid (Tx.out.below hB Tx.out.lt)
  have Ty := Lib.hid (Ty.out.below hB Ty.out.lt)
  have HB := Lib.hid (HB.out.trans (hB.mono HB.out.size))
  have Hs := Lib.hid hs
  obtain ⟨s_s, a_s, n_s, c_s, rfl⟩ := hs.form2
  clear hB hs
  obtain ⟨w10, hw⟩ : ∃ w', (w9.alloc (.cells #[.bool s_s, .slice a_s n_s c_s] 33)) = w' := ⟨_, rfl⟩
  have hB : Below w9.heap.size w9 w10 := by rw [← hw]; exact (Below.refl _ _).alloc (Nat.le_refl _) _
  obtain ⟨b_s, hb_s⟩ : ∃ b, w9.heap.size = b := ⟨_, rfl⟩
  have Ts' : Hid (Two w10 b_s 33 (.bool s_s) (.slice a_s n_s c_s)) := Lib.hid (by rw [← hw, ← hb_s]; have h9 := (Two.new w9 33 (.bool s_s) (.slice a_s n_s c_s)); exact h9)
  have Ha := Lib.hid (Ha.out.below (Nat.le_refl _) hB)
  have Hb := Lib.hid (Hb.out.below (Nat.le_refl _) hB)
  have Hx := Lib.hid (Hx.out.below hB)
  have Hy := Lib.hid (Hy.out.below hB)
  have Hs := Lib.hid (Hs.out.below hB)
  have Ta := Lib.hid (Ta.out.below hB Ta.out.lt)
  have Tb := Lib.hid (Tb.out.below hB Tb.out.lt)
  have Tx := Lib.hid (Tx.out.below hB Tx.out.lt)
  have Ty := Lib.hid (Ty.out.below hB Ty.out.lt)
  have HB := Lib.hid (HB.out.trans (hB.mono HB.out.size))
  have Ts := Ts'
  clear hB Ts'
  have d0x_10 := Tx.out.cell0
  have d1x_10 := Tx.out.cell1
  have d0y_10 := Ty.out.cell0
  have d1y_10 := Ty.out.cell1
  go_wp2_with fail
  clear hw hb_s d0x_10 d1x_10 d0y_10 d1y_10
  refine (sub_any _ _ _ _ w10 Hx.out Hy.out (numZ_lim zs len 0) (numZ_lim zs len 6)).mono ?_
  rintro e w11 hL
  obtain ⟨vt, rfl, ht, hB⟩ := hL.okW (dif_lim zs len)
  have Ha := Lib.hid (Ha.out.below (Nat.le_refl _) hB)
  have Hb := Lib.hid (Hb.out.below (Nat.le_refl _) hB)
  have Hx := Lib.hid (Hx.out.below hB)
  have Hy := Lib.hid (Hy.out.below hB)
  have Hs := Lib.hid (Hs.out.below hB)
  have Ta := Lib.hid (Ta.out.below hB Ta.out.lt)
  have Tb := Lib.hid (Tb.out.below hB Tb.out.lt)
  have Tx := Lib.hid (Tx.out.below hB Tx.out.lt)
  have Ty := Lib.hid (Ty.out.below hB Ty.out.lt)
  have Ts := Lib.hid (Ts.out.below hB Ts.out.lt)
  have HB := Lib.hid (HB.out.trans (hB.mono HB.out.size))
  have Ht := Lib.hid ht
  obtain ⟨s_t, a_t, n_t, c_t, rfl⟩ := ht.form2
  clear hB ht
  obtain ⟨w12, hw⟩ : ∃ w', (w11.alloc (.cells #[.bool s_t, .slice a_t n_t c_t] 33)) = w' := ⟨_, rfl⟩
  have hB : Below w11.heap.size w11 w12 := by rw [← hw]; exact (Below.refl _ _).alloc (Nat.le_refl _) _
  obtain ⟨b_t, hb_t⟩ : ∃ b, w11.heap.size = b := ⟨_, rfl⟩
  have Tt' : Hid (Two w12 b_t 33 (.bool s_t) (.slice a_t n_t c_t)) := Lib.hid (by rw [← hw, ← hb_t]; have h9 := (Two.new w11 33 (.bool s_t) (.slice a_t n_t c_t)); exact h9)
  have Ha := Lib.hid (Ha.out.below (Nat.le_refl _) hB)
  have Hb := Lib.hid (Hb.out.below (Nat.le_refl _) hB)
  have Hx := Lib.hid (Hx.out.below hB)
  have Hy := Lib.hid (Hy.out.below hB)
  have Hs := Lib.hid (Hs.out.below hB)
  have Ht := Lib.hid (Ht.out.below hB)
  have Ta := Lib.hid (Ta.out.below hB Ta.out.lt)
  have Tb := Lib.hid (Tb.out.below hB Tb.out.lt)
  have Tx := Lib.hid (Tx.out.below hB Tx.out.lt)
  have Ty := Lib.hid (Ty.out.below hB Ty.out.lt)
  have Ts := Lib.hid (Ts.out.below hB Ts.out.lt)
  have HB := Lib.hid (HB.out.trans (hB.mono HB.out.size))
  have Tt := Tt'
  clear hB Tt'
  go_wp2_with fail
  clear hw hb_t
  have hB : Below w12.heap.size w12 w12.drew := ⟨rfl, rfl, rfl, Nat.le_refl _, fun _ _ => rfl⟩
  have Ha := Lib.hid (Ha.out.below (Nat.le_refl _) hB)
  have Hb := Lib.hid (Hb.out.below (Nat.le_refl _) hB)
  have Hx := Lib.hid (Hx.out.below hB)
  have Hy := Lib.hid (Hy.out.below hB)
  have Hs := Lib.hid (Hs.out.below hB)
  have Ht := Lib.hid (Ht.out.below hB)
  have Ta := Lib.hid (Ta.out.below hB Ta.out.lt)
  have Tb := Lib.hid (Tb.out.below hB Tb.out.lt)
  have Tx := Lib.hid (Tx.out.below hB Tx.out.lt)
  have Ty := Lib.hid (Ty.out.below hB Ty.out.lt)
  have Ts := Lib.hid (Ts.out.below hB Ts.out.lt)
  have Tt := Lib.hid (Tt.out.below hB Tt.out.lt)
  have HB := Lib.hid (HB.out.trans (hB.mono HB.out.size))
  clear hB
  go_region_held3 (fun w' => w'.cell? ⟨b_s, 0, none⟩ = some (.bool s_s) ∧ w'.cell? ⟨b_s, 1, none⟩ = some (.slice a_s n_s c_s) ∧ w'.cell? ⟨b_t, 0, none⟩ = some (.bool s_t) ∧ w'.cell? ⟨b_t, 1, none⟩ = some (.slice a_t n_t c_t) ∧ w'.cell? ⟨b_x, 0, none⟩ = some (.bool s_x) ∧ w'.cell? ⟨b_x, 1, none⟩ = some (.slice a_x n_x c_x) ∧ w'.cell? ⟨b_y, 0, none⟩ = some (.bool s_y) ∧ w'.cell? ⟨b_y, 1, none⟩ = some (.slice a_y n_y c_y) ∧ w'.cell? ⟨b_a, 0, none⟩ = some (.bool s_a) ∧ w'.cell? ⟨b_a, 1, none⟩ = some (.slice a_a n_a c_a) ∧ w'.cell? ⟨b_b, 0, none⟩ = some (.bool s_b) ∧ w'.cell? ⟨b_b, 1, none⟩ = some (.slice a_b n_b c_b))
    (first | (exact ⟨Ts.out.cell0, Ts.out.cell1, Tt.out.cell0, Tt.out.cell1, Tx.out.cell0, Tx.out.cell1, Ty.out.cell0, Ty.out.cell1, Ta.out.cell0, Ta.out.cell1, Tb.out.cell0, Tb.out.cell1⟩) | go_keep)
    (first
      | (go_at_call 29; (with_reducible refine (radd_any _ _ _ _ w12.drew Ha.out Hb.out (Nat.le_trans (lim_len4 _ (numZ_lim zs len 0)) (by omega)) (Nat.le_trans (lim_len4 _ (numZ_lim zs len 6)) (by omega))).mono ?_); rintro e w13 ⟨⟨vm, rfl, hm⟩, hB⟩; have Ha := Lib.hid (Ha.out.below (Nat.le_refl _) hB); have Hb := Lib.hid (Hb.out.below (Nat.le_refl _) hB); have Hx := Lib.hid (Hx.out.below hB); have Hy := Lib.hid (Hy.out.below hB); have Hs := Lib.hid (Hs.out.below hB); have Ht := Lib.hid (Ht.out.below hB); have Ta := Lib.hid (Ta.out.below hB Ta.out.lt); have Tb := Lib.hid (Tb.out.below hB Tb.out.lt); have Tx := Lib.hid (Tx.out.below hB Tx.out.lt); have Ty := Lib.hid (Ty.out.below hB Ty.out.lt); have Ts := Lib.hid (Ts.out.below hB Ts.out.lt); have Tt := Lib.hid (Tt.out.below hB Tt.out.lt); have HB := Lib.hid (HB.out.trans (hB.mono HB.out.size)); have Hm := Lib.hid hm; obtain ⟨s_m, a_m, n_m, c_m, rfl⟩ := hm.form2; clear hB hm)
      | (go_at_call 18; (with_reducible refine (equal_any _ _ _ w13 Hs.out Hm.out (sum_lim zs len) (HP.out.below HB.out hg)).mono ?_); rintro e w14 ⟨rfl, hB⟩; have Ha := Lib.hid (Ha.out.below (Nat.le_refl _) hB); have Hb := Lib.hid (Hb.out.below (Nat.le_refl _) hB); have Hx := Lib.hid (Hx.out.below hB); have Hy := Lib.hid (Hy.out.below hB); have Hs := Lib.hid (Hs.out.below hB); have Ht := Lib.hid (Ht.out.below hB); have Hm := Lib.hid (Hm.out.below (Nat.le_refl _) hB); have Ta := Lib.hid (Ta.out.below hB Ta.out.lt); have Tb := Lib.hid (Tb.out.below hB Tb.out.lt); have Tx := Lib.hid (Tx.out.below hB Tx.out.lt); have Ty := Lib.hid (Ty.out.below hB Ty.out.lt); have Ts := Lib.hid (Ts.out.below hB Ts.out.lt); have Tt := Lib.hid (Tt.out.below hB Tt.out.lt); have HB := Lib.hid (HB.out.trans (hB.mono HB.out.size)); clear hB )
      | (go_at_call 34; (with_reducible refine (rsub_any _ _ _ _ w14 Ha.out Hb.out (Nat.le_trans (lim_len4 _ (numZ_lim zs len 0)) (by omega)) (Nat.le_trans (lim_len4 _ (numZ_lim zs len 6)) (by omega))).mono ?_); rintro e w15 ⟨⟨vk, rfl, hk⟩, hB⟩; have Ha := Lib.hid (Ha.out.below (Nat.le_refl _) hB); have Hb := Lib.hid (Hb.out.below (Nat.le_refl _) hB); have Hx := Lib.hid (Hx.out.below hB); have Hy := Lib.hid (Hy.out.below hB); have Hs := Lib.hid (Hs.out.below hB); have Ht := Lib.hid (Ht.out.below hB); have Hm := Lib.hid (Hm.out.below (Nat.le_refl _) hB); have Ta := Lib.hid (Ta.out.below hB Ta.out.lt); have Tb := Lib.hid (Tb.out.below hB Tb.out.lt); have Tx := Lib.hid (Tx.out.below hB Tx.out.lt); have Ty := Lib.hid (Ty.out.below hB Ty.out.lt); have Ts := Lib.hid (Ts.out.below hB Ts.out.lt); have Tt := Lib.hid (Tt.out.below hB Tt.out.lt); have HB := Lib.hid (HB.out.trans (hB.mono HB.out.size)); have Hk := Lib.hid hk; obtain ⟨s_k, a_k, n_k, c_k, rfl⟩ := hk.form2; clear hB hk)
      | (go_at_call 18; (with_reducible refine (equal_any _ _ _ w15 Ht.out Hk.out (dif_lim zs len) (HP.out.below HB.out hg)).mono ?_); rintro e w16 ⟨rfl, hB⟩; have Ha := Lib.hid (Ha.out.below (Nat.le_refl _) hB); have Hb := Lib.hid (Hb.out.below (Nat.le_refl _) hB); have Hx := Lib.hid (Hx.out.below hB); have Hy := Lib.hid (Hy.out.below hB); have Hs := Lib.hid (Hs.out.below hB); have Ht := Lib.hid (Ht.out.below hB); have Hm := Lib.hid (Hm.out.below (Nat.le_refl _) hB); have Hk := Lib.hid (Hk.out.below (Nat.le_refl _) hB); have Ta := Lib.hid (Ta.out.below hB Ta.out.lt); have Tb := Lib.hid (Tb.out.below hB Tb.out.lt); have Tx := Lib.hid (Tx.out.below hB Tx.out.lt); have Ty := Lib.hid (Ty.out.below hB Ty.out.lt); have Ts := Lib.hid (Ts.out.below hB Ts.out.lt); have Tt := Lib.hid (Tt.out.below hB Tt.out.lt); have HB := Lib.hid (HB.out.trans (hB.mono HB.out.size)); clear hB )
      | (go_at_call 18; (with_reducible refine (equal_any _ _ _ w16 Hx.out Ha.out (numZ_lim zs len 0) (HP.out.below HB.out hg)).mono ?_); rintro e w17 ⟨rfl, hB⟩; have Ha := Lib.hid (Ha.out.below (Nat.le_refl _) hB); have Hb := Lib.hid (Hb.out.below (Nat.le_refl _) hB); have Hx := Lib.hid (Hx.out.below hB); have Hy := Lib.hid (Hy.out.below hB); have Hs := Lib.hid (Hs.out.below hB); have Ht := Lib.hid (Ht.out.below hB); have Hm := Lib.hid (Hm.out.below (Nat.le_refl _) hB); have Hk := Lib.hid (Hk.out.below (Nat.le_refl _) hB); have Ta := Lib.hid (Ta.out.below hB Ta.out.lt); have Tb := Lib.hid (Tb.out.below hB Tb.out.lt); have Tx := Lib.hid (Tx.out.below hB Tx.out.lt); have Ty := Lib.hid (Ty.out.below hB Ty.out.lt); have Ts := Lib.hid (Ts.out.below hB Ts.out.lt); have Tt := Lib.hid (Tt.out.below hB Tt.out.lt); have HB := Lib.hid (HB.out.trans (hB.mono HB.out.size)); clear hB )
      | (go_at_call 18; (with_reducible refine (equal_any _ _ _ w17 Hy.out Hb.out (numZ_lim zs len 6) (HP.out.below HB.out hg)).mono ?_); rintro e w18 ⟨rfl, hB⟩; have Ha := Lib.hid (Ha.out.below (Nat.le_refl _) hB); have Hb := Lib.hid (Hb.out.below (Nat.le_refl _) hB); have Hx := Lib.hid (Hx.out.below hB); have Hy := Lib.hid (Hy.out.below hB); have Hs := Lib.hid (Hs.out.below hB); have Ht := Lib.hid (Ht.out.below hB); have Hm := Lib.hid (Hm.out.below (Nat.le_refl _) hB); have Hk := Lib.hid (Hk.out.below (Nat.le_refl _) hB); have Ta := Lib.hid (Ta.out.below hB Ta.out.lt); have Tb := Lib.hid (Tb.out.below hB Tb.out.lt); have Tx := Lib.hid (Tx.out.below hB Tx.out.lt); have Ty := Lib.hid (Ty.out.below hB Ty.out.lt); have Ts := Lib.hid (Ts.out.below hB Ts.out.lt); have Tt := Lib.hid (Tt.out.below hB Tt.out.lt); have HB := Lib.hid (HB.out.trans (hB.mono HB.out.size)); clear hB )
      | (go_at_call 20; (with_reducible refine (lives_any w18 (HP.out.below HB.out hg)).mono ?_); rintro e w19 ⟨rfl, hB⟩; have Ha := Lib.hid (Ha.out.below (Nat.le_refl _) hB); have Hb := Lib.hid (Hb.out.below (Nat.le_refl _) hB); have Hx := Lib.hid (Hx.out.below hB); have Hy := Lib.hid (Hy.out.below hB); have Hs := Lib.hid (Hs.out.below hB); have Ht := Lib.hid (Ht.out.below hB); have Hm := Lib.hid (Hm.out.below (Nat.le_refl _) hB); have Hk := Lib.hid (Hk.out.below (Nat.le_refl _) hB); have Ta := Lib.hid (Ta.out.below hB Ta.out.lt); have Tb := Lib.hid (Tb.out.below hB Tb.out.lt); have Tx := Lib.hid (Tx.out.below hB Tx.out.lt); have Ty := Lib.hid (Ty.out.below hB Ty.out.lt); have Ts := Lib.hid (Ts.out.below hB Ts.out.lt); have Tt := Lib.hid (Tt.out.below hB Tt.out.lt); have HB := Lib.hid (HB.out.trans (hB.mono HB.out.size)); clear hB ))
  go_wp2
  go_ret
  exact ⟨rfl, HB.out⟩

end Go.Proofs.YtgfgjnkndfgdiaaDoor
