/- lattice.bezout. -/
import Derived.Test.YtlmbebbdamgfpaaQULSz
import Derived.Test.YtlmbebbdamgfpaaQURegLate
import Derived.Test.YtlmbebbdamgfpaaQULBezP
set_option linter.unusedVariables false
set_option linter.unusedSimpArgs false
set_option linter.unusedVariables false
set_option linter.unusedSimpArgs false
namespace Go.Proofs.Ytlmbebbdamgfpaa
open Go.RowKit

theorem boxes5 (w : World) (t : TypeId) (x1 x2 y1 y2 z1 z2 : Value) (n : Nat) (hn : w.heap.size = n) : ∃ W, ((((w.alloc (.cells #[x1, x2] t)).alloc (.cells #[y1, y2] t)).alloc (.cells #[z1, z2] t)).alloc (.cells #[z1, z2] t)).alloc (.cells #[z1, z2] t) = W ∧
 Two W n t x1 x2 ∧ Two W (n + 1) t y1 y2 ∧ Two W (n + 1 + 1) t z1 z2 ∧ Two W (n + 1 + 1 + 1) t z1 z2 ∧ Two W (n + 1 + 1 + 1 + 1) t z1 z2 ∧ Below w.heap.size w W ∧ W.heap.size = n + 1 + 1 + 1 + 1 + 1 := by
 subst hn
 obtain ⟨W, hW, t1, t2, t3, hB, hs⟩ := boxes3 w t x1 x2 y1 y2 z1 z2 _ rfl
 rw [hW]
 refine ⟨_, rfl, (t1.alloc _).alloc _, (t2.alloc _).alloc _, (t3.alloc _).alloc _, ?_, ?_, (hB.alloc (by omega) _).alloc (by simp; omega) _, by simp [hs]⟩
 ·have := (Two.new W t z1 z2).alloc (.cells #[z1, z2] t)
  rwa [hs] at this
 ·have := Two.new (W.alloc (.cells #[z1, z2] t)) t z1 z2
  rwa [World.size_alloc, hs] at this
/-- two new variables, the draw behind them -/
theorem two_new {W : World} {s a n c s' a' n' c'} {x y : Int} (N : Nat) (hN : W.heap.size = N) (h1 : WInt W (.agg #[.bool s, .slice a n c]) x) (h2 : WInt W (.agg #[.bool s', .slice a' n' c']) y) :
 Bx ((W.alloc (.cells #[.bool s, .slice a n c] 58)).alloc (.cells #[.bool s', .slice a' n' c'] 58)).drew N x ∧ Bx ((W.alloc (.cells #[.bool s, .slice a n c] 58)).alloc (.cells #[.bool s', .slice a' n' c'] 58)).drew (N + 1) y ∧
 Below W.heap.size W ((W.alloc (.cells #[.bool s, .slice a n c] 58)).alloc (.cells #[.bool s', .slice a' n' c'] 58)).drew := by
 subst hN
 have h3 := Bx.new (h2.blw ((Below.refl _ W).alloc (Nat.le_refl _) (.cells #[.bool s, .slice a n c] 58)))
 rw [World.size_alloc] at h3
 exact ⟨((Bx.new h1).blw ((Below.refl _ _).alloc (Nat.le_refl _) _)).blw (Below.refl _ _).drew, h3.blw (Below.refl _ _).drew, (((Below.refl _ _).alloc (Nat.le_refl _) _).alloc (by simp) _).drew⟩

set_option maxHeartbeats 4000000 in
theorem bezout_any (vx vy : Value) (x y : Int) (w : World) (hx : WInt w vx x) (hy : WInt w vy y) (h0x : 0 < x) (h0y : 0 < y) (hlx : Sz 7000 x) (hly : Sz 7000 y) :
 Calls Try.prog 99 #[vx, vy] w fun e w' => ∃ g u v vg vu vv, e = .returned (.tuple #[vg, vu, vv]) ∧ WInt w' vg g ∧ WInt w' vu u ∧ WInt w' vv v ∧ BezOut x y g u v ∧ Below w.heap.size w w' := by
 obtain ⟨sx, ax, nx, cx, rfl⟩ := hx.form4
 obtain ⟨sy, ay, ny, cy, rfl⟩ := hy.form4
 obtain ⟨n, hn⟩ : ∃ n, w.heap.size = n := ⟨_, rfl⟩
 have Hn := hZ hn
 obtain ⟨w0, hW, t1, t2, t3, t4, t5, hBW, hsW⟩ := boxes5 w 58 (.bool sx) (.slice ax nx cx) (.bool sy) (.slice ay ny cy) (.bool false) (.slice none 0 0) n hn
 have Fx : Hid (Bx w0 n x) := hZ ⟨sx, ax, nx, cx, t1, hx.below hBW⟩
 have Fy : Hid (Bx w0 (n + 1) y) := hZ ⟨sy, ay, ny, cy, t2, hy.below hBW⟩
 have T4 := hZ t3
 have T5 := hZ t4
 have T6 := hZ t5
 have HB := hZ hBW
 have Hsz := hZ hsW
 have Hx := hZ (hx.below hBW)
 have Hy := hZ (hy.below hBW)
 have HT1 := hZ (two_new _ hsW Hx.o Hy.o)
 have HT2 := hZ (two_new _ hsW Hy.o Hx.o)
 have d0 := t1.cell0
 have d1 := t1.cell1
 have d2 := t2.cell0
 have d3 := t2.cell1
 clear hx hy t1 t2 t3 t4 t5 hBW Hx Hy
 go_enter Try.func99, Try.ntmps99
 go_wp2_with fail
 clear hW
 refine wp_join (fun t ds a w' => ∃ ba bb, a = ⟨(((t.setIfInBounds 7 (.pointer (some ⟨ba, 0, none⟩))).setIfInBounds 8 (.pointer (some ⟨bb, 0, none⟩))).setIfInBounds 14 (.agg #[.bool sx, .slice ax nx cx])).setIfInBounds 15 (.agg #[.bool sy, .slice ay ny cy]), ds⟩ ∧ Hid (Bx w' ba x) ∧ Hid (Bx w' bb y) ∧ Hid (Below w0.heap.size w0 w') ∧ Hid (ba ≠ bb ∧ w0.heap.size ≤ ba ∧ w0.heap.size ≤ bb)) ?_ ?_
 ·go_region
  all_goals
   refine joinQ_normal ?_
   first
    | exact ⟨_, _, rfl, hZ HT1.o.1, hZ HT1.o.2.1, hZ HT1.o.2.2, hZ (by have := Hsz.o; omega)⟩
    | exact ⟨_, _, rfl, hZ HT2.o.2.1, hZ HT2.o.1, hZ HT2.o.2.2, hZ (by have := Hsz.o; omega)⟩
 ·skip
  clear d0 d1 d2 d3 HT1 HT2
  rintro a w1 ⟨ba, bb, rfl, Fa, Fb, HB1, Hne⟩
  simp only [sX1, sX2, sX3]
  have hB := HB1.o
  clear HB1
  replace Fx := hZ (Fx.o.blw hB)
  replace Fy := hZ (Fy.o.blw hB)
  replace T4 := hZ (T4.o.blw hB)
  replace T5 := hZ (T5.o.blw hB)
  replace T6 := hZ (T6.o.blw hB)
  replace HB := bT HB hB
  clear hB
  have Hge : Hid (w.heap.size ≤ ba ∧ w.heap.size ≤ bb) := hZ (by have := Hne.o; have := Hsz.o; omega)
  go_wp2_with fail
  refine (from_b (w := w1) 1 (by omega) (by omega)).mono ?_
  rintro e w2 ⟨s_p, a_p, n_p, c_p, rfl, h_p, hB⟩
  have Vp := hZ h_p
  replace Fx := hZ (Fx.o.blw hB)
  replace Fy := hZ (Fy.o.blw hB)
  replace T4 := hZ (T4.o.blw hB)
  replace T5 := hZ (T5.o.blw hB)
  replace T6 := hZ (T6.o.blw hB)
  replace Fa := hZ (Fa.o.blw hB)
  replace Fb := hZ (Fb.o.blw hB)
  replace HB := bT HB hB
  clear hB
  clear h_p
  go_wp2_with fail
  refine (from_b (w := w2) 0 (by omega) (by omega)).mono ?_
  rintro e w3 ⟨s_q, a_q, n_q, c_q, rfl, h_q, hB⟩
  have Vq := hZ h_q
  replace Fx := hZ (Fx.o.blw hB)
  replace Fy := hZ (Fy.o.blw hB)
  replace T4 := hZ (T4.o.blw hB)
  replace T5 := hZ (T5.o.blw hB)
  replace T6 := hZ (T6.o.blw hB)
  replace Fa := hZ (Fa.o.blw hB)
  replace Fb := hZ (Fb.o.blw hB)
  replace Vp := hZ (Vp.o.blw hB)
  replace HB := bT HB hB
  clear hB
  clear h_q
  have Hlt : Hid (ba < w3.heap.size ∧ bb < w3.heap.size ∧ w.heap.size ≤ w3.heap.size) := hZ ⟨Fa.o.lt, Fb.o.lt, HB.o.size⟩
  obtain ⟨w4, hw⟩ : ∃ w', ((w3.alloc (.cells #[.bool s_p, .slice a_p n_p c_p] 58)).alloc (.cells #[.bool s_q, .slice a_q n_q c_q] 58)) = w' := ⟨_, rfl⟩
  have hB : Below w3.heap.size w3 w4 := by rw [← hw]; exact ((Below.refl _ _).alloc (Nat.le_refl _) _).alloc (by simp) _
  obtain ⟨bn, hb_bn⟩ : ∃ b, w3.heap.size = b := ⟨_, rfl⟩
  have h9 := Bx.blw (Bx.new (w := w3) Vp.o) ((Below.refl _ _).alloc (Nat.le_refl _) (.cells #[.bool s_q, .slice a_q n_q c_q] 58))
  rw [hw, hb_bn] at h9
  have Fn' := hZ h9
  have hge_bn : w3.heap.size ≤ bn := by omega
  clear h9
  obtain ⟨bm, hb_bm⟩ : ∃ b, w3.heap.size + 1 = b := ⟨_, rfl⟩
  have h9 := Bx.new (w := (w3.alloc (.cells #[.bool s_p, .slice a_p n_p c_p] 58))) (Vq.o.blw ((Below.refl _ _).alloc (Nat.le_refl _) _)); rw [World.size_alloc] at h9
  rw [hw, hb_bm] at h9
  have Fm' := hZ h9
  have hge_bm : w3.heap.size ≤ bm := by omega
  clear h9
  replace Fx := hZ (Fx.o.blw hB)
  replace Fy := hZ (Fy.o.blw hB)
  replace T4 := hZ (T4.o.blw hB)
  replace T5 := hZ (T5.o.blw hB)
  replace T6 := hZ (T6.o.blw hB)
  replace Fa := hZ (Fa.o.blw hB)
  replace Fb := hZ (Fb.o.blw hB)
  replace Vp := hZ (Vp.o.blw hB)
  replace Vq := hZ (Vq.o.blw hB)
  replace HB := bT HB hB
  have Fn := Fn'
  clear Fn'
  have Fm := Fm'
  clear Fm'
  clear hB
  have Hd : Hid (ba ≠ bb ∧ ba ≠ bn ∧ ba ≠ bm ∧ bb ≠ bn ∧ bb ≠ bm ∧ bn ≠ bm ∧ n + 1 + 1 + 1 + 1 < ba ∧ n + 1 + 1 + 1 + 1 < bb ∧ n + 1 + 1 + 1 + 1 < bn ∧ n + 1 + 1 + 1 + 1 < bm) := hZ (by have := Hlt.o; have := Hsz.o; have := Hne.o; omega)
  clear hge_bn hge_bm Hlt
  go_wp2_with fail
  try rw [show bn + 1 = bm by rw [← hb_bn]; exact hb_bm]
  clear hw hb_bn hb_bm
  clear Vp Vq
  go_loopg [13] y.toNat (fun g v wr => ∃ (a now next : Int), Hid (Bez x y a (g : Int) now next) ∧ Hid (Bx wr ba a) ∧ Hid (Bx wr bb (g : Int)) ∧ Hid (Bx wr bn now) ∧ Hid (Bx wr bm next) ∧ Hid (Bx wr n x) ∧ Hid (Bx wr (n + 1) y) ∧ Hid (Two wr (n + 1 + 1) 58 (.bool false) (.slice none 0 0)) ∧ Hid (Two wr (n + 1 + 1 + 1) 58 (.bool false) (.slice none 0 0)) ∧ Hid (Two wr (n + 1 + 1 + 1 + 1) 58 (.bool false) (.slice none 0 0)) ∧ Hid (Below w.heap.size w wr))
  case atStart => exact ⟨x, 1, 0, hZ (by rw [Int.toNat_of_nonneg (by omega)]; exact Bez.start h0x h0y), Fa, hZ (by rw [Int.toNat_of_nonneg (by omega)]; exact Fb.o), Fn, Fm, Fx, Fy, T4, T5, T6, HB⟩
  case round =>
   clear Fa Fb Fn Fm Fx Fy T4 T5 T6 HB
   obtain ⟨a, now, next, HZ, Fa, Fb, Fn, Fm, Fx, Fy, T4, T5, T6, HB⟩ := hrel
   obtain ⟨w4, rfl⟩ : ∃ w' : World, w' = wr := ⟨_, rfl⟩
   obtain ⟨s_b, a_b, n_b, c_b, t_b, h_b⟩ := Fb.o
   have d0b := t_b.cell0
   have d1b := t_b.cell1
   have Vb := hZ h_b
   clear t_b h_b
   have Sx := hZ hlx
   have Sy := hZ hly
   have Sb : Hid (Sz 7000 (gk : Int)) := hZ (hly.of_le (by have := HZ.o.by_; have := HZ.o.b0; omega))
   have Sa : Hid (Sz 7001 a) := hZ ((hlx.add hly).of_le (by have := HZ.o.ax; have := HZ.o.a0; omega))
   have Sm : Hid (Sz 7000 next) := hZ (hly.of_le (HZ.o.nextB h0y))
   have Sn : Hid (Sz 7000 now) := hZ (hly.of_le (HZ.o.nowB h0y))
   go_wp2_with fail
   by_cases hb0 : gk = 0
   ·skip
    refine (sign_b (w := w4) Vb.o Sb.o (by omega)).mono ?_
    rintro e w5 ⟨he, hB⟩
    rw [show cmp3 ((gk : Nat) : Int) 0 = 0 by rw [hb0]; exact cmp3_eq 0] at he
    subst he
    replace Fx := hZ (Fx.o.blw hB)
    replace Fy := hZ (Fy.o.blw hB)
    replace T4 := hZ (T4.o.blw hB)
    replace T5 := hZ (T5.o.blw hB)
    replace T6 := hZ (T6.o.blw hB)
    replace Fa := hZ (Fa.o.blw hB)
    replace Fb := hZ (Fb.o.blw hB)
    replace Fn := hZ (Fn.o.blw hB)
    replace Fm := hZ (Fm.o.blw hB)
    replace Vb := hZ (Vb.o.blw hB)
    replace HB := bT HB hB
    clear hB
    clear d0b d1b
    clear Vb
    go_wp2_with fail
    have HD : Hid (BezOut x y a now ((a - now * x) / y)) := hZ ((show Bez x y a 0 now next from by have := HZ.o; rwa [hb0] at this).done h0x h0y)
    obtain ⟨w6, hwd⟩ : ∃ w', w5.drew = w' := ⟨_, rfl⟩
    have hB := dB hwd
    replace Fx := hZ (Fx.o.blw hB)
    replace Fy := hZ (Fy.o.blw hB)
    replace T4 := hZ (T4.o.blw hB)
    replace T5 := hZ (T5.o.blw hB)
    replace T6 := hZ (T6.o.blw hB)
    replace Fa := hZ (Fa.o.blw hB)
    replace Fb := hZ (Fb.o.blw hB)
    replace Fn := hZ (Fn.o.blw hB)
    replace Fm := hZ (Fm.o.blw hB)
    replace HB := bT HB hB
    clear hB
    have HBr : Hid (Only (fun b => b = n + 1 + 1) w6 w6) := hZ (Only.refl _ _)
    refine startL [10, 11] (fun w' => Only (fun b => b = n + 1 + 1) w6 w') (by kernel_rfl) (by rw [hwd]; exact Only.refl _ _) (fun hHeld => ?_)
    rw [hwd] at hHeld ⊢
    clear hwd
    obtain ⟨s_a, a_a, n_a, c_a, t_a, h_a⟩ := Fa.o
    have d0a := t_a.cell0
    have d1a := t_a.cell1
    have Va := hZ h_a
    clear t_a h_a
    obtain ⟨s_n, a_n, n_n, c_n, t_n, h_n⟩ := Fn.o
    have d0n := t_n.cell0
    have d1n := t_n.cell1
    have Vn := hZ h_n
    clear t_n h_n
    obtain ⟨s_x, a_x, n_x, c_x, t_x, h_x⟩ := Fx.o
    have d0x := t_x.cell0
    have d1x := t_x.cell1
    have Vx := hZ h_x
    clear t_x h_x
    obtain ⟨s_y, a_y, n_y, c_y, t_y, h_y⟩ := Fy.o
    have d0y := t_y.cell0
    have d1y := t_y.cell1
    have Vy := hZ h_y
    clear t_y h_y
    refine tP 0 36 (v := ?_) rfl rfl ?_ ?_
    rotate_left
    ·(intro w hSw; have x0 := (hSw.cell (p := ⟨ba, 0, none⟩) (show ¬ (ba = n + 1 + 1) by have := Hd.o; omega) Fa.o.lt).trans d0a; have x1 := (hSw.cell (p := ⟨ba, 1, none⟩) (show ¬ (ba = n + 1 + 1) by have := Hd.o; omega) Fa.o.lt).trans d1a; go_simp; first | done | with_reducible rfl)
    simp only [sX1, sX2, sX3]
    refine tP 1 37 (v := ?_) rfl rfl ?_ ?_
    rotate_left
    ·(intro w hSw; have x0 := (hSw.cell (p := ⟨bn, 0, none⟩) (show ¬ (bn = n + 1 + 1) by have := Hd.o; omega) Fn.o.lt).trans d0n; have x1 := (hSw.cell (p := ⟨bn, 1, none⟩) (show ¬ (bn = n + 1 + 1) by have := Hd.o; omega) Fn.o.lt).trans d1n; go_simp; first | done | with_reducible rfl)
    simp only [sX1, sX2, sX3]
    refine tP 2 38 (v := ?_) rfl rfl ?_ ?_
    rotate_left
    ·(intro w hSw; have x0 := (hSw.cell (p := ⟨ba, 0, none⟩) (show ¬ (ba = n + 1 + 1) by have := Hd.o; omega) Fa.o.lt).trans d0a; have x1 := (hSw.cell (p := ⟨ba, 1, none⟩) (show ¬ (ba = n + 1 + 1) by have := Hd.o; omega) Fa.o.lt).trans d1a; go_simp; first | done | with_reducible rfl)
    simp only [sX1, sX2, sX3]
    refine tP 3 39 (v := ?_) rfl rfl ?_ ?_
    rotate_left
    ·(intro w hSw; have x0 := (hSw.cell (p := ⟨bn, 0, none⟩) (show ¬ (bn = n + 1 + 1) by have := Hd.o; omega) Fn.o.lt).trans d0n; have x1 := (hSw.cell (p := ⟨bn, 1, none⟩) (show ¬ (bn = n + 1 + 1) by have := Hd.o; omega) Fn.o.lt).trans d1n; go_simp; first | done | with_reducible rfl)
    simp only [sX1, sX2, sX3]
    refine tP 4 40 (v := ?_) rfl rfl ?_ ?_
    rotate_left
    ·(intro w hSw; have x0 := (hSw.cell (p := ⟨n, 0, none⟩) (show ¬ (n = n + 1 + 1) by have := Hd.o; omega) Fx.o.lt).trans d0x; have x1 := (hSw.cell (p := ⟨n, 1, none⟩) (show ¬ (n = n + 1 + 1) by have := Hd.o; omega) Fx.o.lt).trans d1x; go_simp; first | done | with_reducible rfl)
    simp only [sX1, sX2, sX3]
    refine tP 7 43 (v := ?_) rfl rfl ?_ ?_
    rotate_left
    ·(intro w hSw; have x0 := (hSw.cell (p := ⟨n + 1, 0, none⟩) (show ¬ (n + 1 = n + 1 + 1) by have := Hd.o; omega) Fy.o.lt).trans d0y; have x1 := (hSw.cell (p := ⟨n + 1, 1, none⟩) (show ¬ (n + 1 = n + 1 + 1) by have := Hd.o; omega) Fy.o.lt).trans d1y; go_simp; first | done | with_reducible rfl)
    simp only [sX1, sX2, sX3]
    clear d0a d1a d0n d1n d0x d1x d0y d1y
    refine stepL 5 (by kernel_rfl) rfl (fun K hK => ?_)
    go_simp
    refine (times_b (w := w6) Vn.o Vx.o Sn.o Sx.o (by omega)).mono ?_
    rintro e w7 ⟨s_t, a_t, n_t, c_t, rfl, h_t, hB⟩
    have Vt := hZ h_t
    replace HBr := oT HBr hB
    replace Fx := hZ (Fx.o.blw hB)
    replace Fy := hZ (Fy.o.blw hB)
    replace T4 := hZ (T4.o.blw hB)
    replace T5 := hZ (T5.o.blw hB)
    replace T6 := hZ (T6.o.blw hB)
    replace Fa := hZ (Fa.o.blw hB)
    replace Fb := hZ (Fb.o.blw hB)
    replace Fn := hZ (Fn.o.blw hB)
    replace Fm := hZ (Fm.o.blw hB)
    replace Va := hZ (Va.o.blw hB)
    replace Vn := hZ (Vn.o.blw hB)
    replace Vx := hZ (Vx.o.blw hB)
    replace Vy := hZ (Vy.o.blw hB)
    replace HB := bT HB hB
    clear hB
    clear h_t
    refine hK.out _ _ HBr.o (fun hHeld => ?_)
    clear hK K
    try simp only [Act.put, sX1, sX2, sX3]
    refine stepL 6 (by kernel_rfl) rfl (fun K hK => ?_)
    go_simp
    refine (minus_b (w := w7) (k := 14000) Va.o Vt.o (Sa.o.mono (by omega)) (Sn.o.mul Sx.o) (by omega)).mono ?_
    rintro e w8 ⟨s_u, a_u, n_u, c_u, rfl, h_u, hB⟩
    have Vu := hZ h_u
    replace HBr := oT HBr hB
    replace Fx := hZ (Fx.o.blw hB)
    replace Fy := hZ (Fy.o.blw hB)
    replace T4 := hZ (T4.o.blw hB)
    replace T5 := hZ (T5.o.blw hB)
    replace T6 := hZ (T6.o.blw hB)
    replace Fa := hZ (Fa.o.blw hB)
    replace Fb := hZ (Fb.o.blw hB)
    replace Fn := hZ (Fn.o.blw hB)
    replace Fm := hZ (Fm.o.blw hB)
    replace Va := hZ (Va.o.blw hB)
    replace Vn := hZ (Vn.o.blw hB)
    replace Vx := hZ (Vx.o.blw hB)
    replace Vy := hZ (Vy.o.blw hB)
    replace Vt := hZ (Vt.o.blw hB)
    replace HB := bT HB hB
    clear hB
    clear h_u
    refine hK.out _ _ HBr.o (fun hHeld => ?_)
    clear hK K
    try simp only [Act.put, sX1, sX2, sX3]
    refine stepL 8 (by kernel_rfl) rfl (fun K hK => ?_)
    go_simp
    refine (over_b (w := w8) (k := 14001) (l := 7000) Vu.o Vy.o ((Sa.o.mono (by omega)).sub (Sn.o.mul Sx.o)) Sy.o (by omega) (by omega) (by omega)).mono ?_
    rintro e w9 ⟨s_v, a_v, n_v, c_v, rfl, h_v, hB⟩
    have Vv := hZ h_v
    replace HBr := oT HBr hB
    replace Fx := hZ (Fx.o.blw hB)
    replace Fy := hZ (Fy.o.blw hB)
    replace T4 := hZ (T4.o.blw hB)
    replace T5 := hZ (T5.o.blw hB)
    replace T6 := hZ (T6.o.blw hB)
    replace Fa := hZ (Fa.o.blw hB)
    replace Fb := hZ (Fb.o.blw hB)
    replace Fn := hZ (Fn.o.blw hB)
    replace Fm := hZ (Fm.o.blw hB)
    replace Va := hZ (Va.o.blw hB)
    replace Vn := hZ (Vn.o.blw hB)
    replace Vx := hZ (Vx.o.blw hB)
    replace Vy := hZ (Vy.o.blw hB)
    replace Vt := hZ (Vt.o.blw hB)
    replace Vu := hZ (Vu.o.blw hB)
    replace HB := bT HB hB
    clear hB
    clear h_v
    refine hK.out _ _ HBr.o (fun hHeld => ?_)
    clear hK K
    try simp only [Act.put, sX1, sX2, sX3]
    have e0 := T4.o.cell0
    have e1 := T4.o.cell1
    have e2 := T4.o.frozen 0
    have e3 := T4.o.frozen 1
    have hn9 : NoInt w9 (n + 1 + 1) := T4.o.noInt (fun _ h => by cases h) (fun _ h => by cases h)
    obtain ⟨w10, hw⟩ : ∃ w', (w9.setCell ⟨n + 1 + 1, 0, none⟩ (.bool s_a)).setCell ⟨n + 1 + 1, 1, none⟩ (.slice a_a n_a c_a) = w' := ⟨_, rfl⟩
    have hw2 : st2 w9 (n + 1 + 1) (0) (1) s_a a_a n_a c_a = w10 := hw
    replace Fx := hZ (Fx.o.offe hw2 hn9 (by have := Hd.o; omega))
    replace Fy := hZ (Fy.o.offe hw2 hn9 (by have := Hd.o; omega))
    replace T4 := hZ (Two.put1 (s := s_a) (a := a_a) (n := n_a) (c := c_a) T4.o)
    rw [hw2] at T4
    replace T5 := hZ (T5.o.offe hw2 (by have := Hd.o; omega))
    replace T6 := hZ (T6.o.offe hw2 (by have := Hd.o; omega))
    replace Fa := hZ (Fa.o.offe hw2 hn9 (by have := Hd.o; omega))
    replace Fb := hZ (Fb.o.offe hw2 hn9 (by have := Hd.o; omega))
    replace Fn := hZ (Fn.o.offe hw2 hn9 (by have := Hd.o; omega))
    replace Fm := hZ (Fm.o.offe hw2 hn9 (by have := Hd.o; omega))
    replace Va := hZ (Va.o.offe hw2 hn9)
    replace Vn := hZ (Vn.o.offe hw2 hn9)
    replace Vx := hZ (Vx.o.offe hw2 hn9)
    replace Vy := hZ (Vy.o.offe hw2 hn9)
    replace Vt := hZ (Vt.o.offe hw2 hn9)
    replace Vu := hZ (Vu.o.offe hw2 hn9)
    replace Vv := hZ (Vv.o.offe hw2 hn9)
    replace HB := hZ (bO hw2 HB.o (by have := Hn.o; omega))
    clear hw2 hn9
    replace HBr := hZ (HBr.o.off (g := n + 1 + 1) (o1 := 0) (o2 := 1) (s := s_a) (a := a_a) (n := n_a) (c := c_a) (show n + 1 + 1 = n + 1 + 1 by simp))
    rw [show st2 w9 (n + 1 + 1) 0 1 s_a a_a n_a c_a = w10 from hw] at HBr
    refine stepL 9 (by kernel_rfl) rfl (fun K hK => ?_)
    go_simp
    try rw [hw]
    refine hK.out _ _ HBr.o (fun hHeld => ?_)
    clear hK K
    try simp only [Act.put, sX1, sX2, sX3]
    clear hw e0 e1 e2 e3
    have e0 := T5.o.cell0
    have e1 := T5.o.cell1
    have e2 := T5.o.frozen 0
    have e3 := T5.o.frozen 1
    have hn9 : NoInt w10 (n + 1 + 1 + 1) := T5.o.noInt (fun _ h => by cases h) (fun _ h => by cases h)
    obtain ⟨w11, hw⟩ : ∃ w', (w10.setCell ⟨n + 1 + 1 + 1, 0, none⟩ (.bool s_n)).setCell ⟨n + 1 + 1 + 1, 1, none⟩ (.slice a_n n_n c_n) = w' := ⟨_, rfl⟩
    have hw2 : st2 w10 (n + 1 + 1 + 1) (0) (1) s_n a_n n_n c_n = w11 := hw
    replace Fx := hZ (Fx.o.offe hw2 hn9 (by have := Hd.o; omega))
    replace Fy := hZ (Fy.o.offe hw2 hn9 (by have := Hd.o; omega))
    replace T4 := hZ (T4.o.offe hw2 (by have := Hd.o; omega))
    replace T5 := hZ (Two.put1 (s := s_n) (a := a_n) (n := n_n) (c := c_n) T5.o)
    rw [hw2] at T5
    replace T6 := hZ (T6.o.offe hw2 (by have := Hd.o; omega))
    replace Fa := hZ (Fa.o.offe hw2 hn9 (by have := Hd.o; omega))
    replace Fb := hZ (Fb.o.offe hw2 hn9 (by have := Hd.o; omega))
    replace Fn := hZ (Fn.o.offe hw2 hn9 (by have := Hd.o; omega))
    replace Fm := hZ (Fm.o.offe hw2 hn9 (by have := Hd.o; omega))
    replace Va := hZ (Va.o.offe hw2 hn9)
    replace Vn := hZ (Vn.o.offe hw2 hn9)
    replace Vx := hZ (Vx.o.offe hw2 hn9)
    replace Vy := hZ (Vy.o.offe hw2 hn9)
    replace Vt := hZ (Vt.o.offe hw2 hn9)
    replace Vu := hZ (Vu.o.offe hw2 hn9)
    replace Vv := hZ (Vv.o.offe hw2 hn9)
    replace HB := hZ (bO hw2 HB.o (by have := Hn.o; omega))
    clear hw2 hn9
    refine lateL 10 (by kernel_rfl) (by decide) rfl (fun K hK => ?_)
    go_simp
    try rw [hw]
    refine hK.out _ _ ?_
    clear hK K
    try simp only [Act.put, sX1, sX2, sX3]
    clear hw e0 e1 e2 e3
    have e0 := T6.o.cell0
    have e1 := T6.o.cell1
    have e2 := T6.o.frozen 0
    have e3 := T6.o.frozen 1
    have hn9 : NoInt w11 (n + 1 + 1 + 1 + 1) := T6.o.noInt (fun _ h => by cases h) (fun _ h => by cases h)
    obtain ⟨w12, hw⟩ : ∃ w', (w11.setCell ⟨n + 1 + 1 + 1 + 1, 0, none⟩ (.bool s_v)).setCell ⟨n + 1 + 1 + 1 + 1, 1, none⟩ (.slice a_v n_v c_v) = w' := ⟨_, rfl⟩
    have hw2 : st2 w11 (n + 1 + 1 + 1 + 1) (0) (1) s_v a_v n_v c_v = w12 := hw
    replace Fx := hZ (Fx.o.offe hw2 hn9 (by have := Hd.o; omega))
    replace Fy := hZ (Fy.o.offe hw2 hn9 (by have := Hd.o; omega))
    replace T4 := hZ (T4.o.offe hw2 (by have := Hd.o; omega))
    replace T5 := hZ (T5.o.offe hw2 (by have := Hd.o; omega))
    replace T6 := hZ (Two.put1 (s := s_v) (a := a_v) (n := n_v) (c := c_v) T6.o)
    rw [hw2] at T6
    replace Fa := hZ (Fa.o.offe hw2 hn9 (by have := Hd.o; omega))
    replace Fb := hZ (Fb.o.offe hw2 hn9 (by have := Hd.o; omega))
    replace Fn := hZ (Fn.o.offe hw2 hn9 (by have := Hd.o; omega))
    replace Fm := hZ (Fm.o.offe hw2 hn9 (by have := Hd.o; omega))
    replace Va := hZ (Va.o.offe hw2 hn9)
    replace Vn := hZ (Vn.o.offe hw2 hn9)
    replace Vx := hZ (Vx.o.offe hw2 hn9)
    replace Vy := hZ (Vy.o.offe hw2 hn9)
    replace Vt := hZ (Vt.o.offe hw2 hn9)
    replace Vu := hZ (Vu.o.offe hw2 hn9)
    replace Vv := hZ (Vv.o.offe hw2 hn9)
    replace HB := hZ (bO hw2 HB.o (by have := Hn.o; omega))
    clear hw2 hn9
    refine lateL 11 (by kernel_rfl) (by decide) rfl (fun K hK => ?_)
    go_simp
    try rw [hw]
    refine hK.out _ _ ?_
    clear hK K
    try simp only [Act.put, sX1, sX2, sX3]
    clear hw e0 e1 e2 e3
    refine doneL (by kernel_rfl) ?_ _
    clear hHeld
    have g0 := T4.o.cell0
    have g1 := T4.o.cell1
    have g2 := T5.o.cell0
    have g3 := T5.o.cell1
    have g4 := T6.o.cell0
    have g5 := T6.o.cell1
    go_wp2_with fail
    exact bodyPost_ret (v := .tuple #[.agg #[.bool s_a, .slice a_a n_a c_a], .agg #[.bool s_n, .slice a_n n_n c_n], .agg #[.bool s_v, .slice a_v n_v c_v]]) (by simp [results, Try.results99, go_sem, g0, g1, g2, g3, g4, g5]) rfl ⟨_, _, _, _, _, _, rfl, Va.o, Vn.o, Vv.o, HD.o, HB.o⟩
   ·skip
    refine (sign_b (w := w4) Vb.o Sb.o (by omega)).mono ?_
    rintro e w5 ⟨he, hB⟩
    rw [show cmp3 ((gk : Nat) : Int) 0 = 1 from cmp3_gt (by omega)] at he
    subst he
    replace Fx := hZ (Fx.o.blw hB)
    replace Fy := hZ (Fy.o.blw hB)
    replace T4 := hZ (T4.o.blw hB)
    replace T5 := hZ (T5.o.blw hB)
    replace T6 := hZ (T6.o.blw hB)
    replace Fa := hZ (Fa.o.blw hB)
    replace Fb := hZ (Fb.o.blw hB)
    replace Fn := hZ (Fn.o.blw hB)
    replace Fm := hZ (Fm.o.blw hB)
    replace Vb := hZ (Vb.o.blw hB)
    replace HB := bT HB hB
    clear hB
    clear d0b d1b
    clear Vb
    obtain ⟨s_a, a_a, n_a, c_a, t_a, h_a⟩ := Fa.o
    have d0a := t_a.cell0
    have d1a := t_a.cell1
    have Va := hZ h_a
    clear t_a h_a
    obtain ⟨s_b, a_b, n_b, c_b, t_b, h_b⟩ := Fb.o
    have d0b := t_b.cell0
    have d1b := t_b.cell1
    have Vb := hZ h_b
    clear t_b h_b
    go_wp2_with fail
    clear d0a d1a d0b d1b
    have hb9 : (gk : Int) ≠ 0 := by omega
    refine (div_b (w := w5) Va.o Vb.o Sa.o Sb.o hb9 (by omega) (by omega)).mono ?_
    rintro e w6 ⟨s_q, a_q, n_q, c_q, s_r, a_r, n_r, c_r, rfl, h_q, h_r, hB⟩
    have Vq := hZ h_q
    have Vr := hZ h_r
    replace Fx := hZ (Fx.o.blw hB)
    replace Fy := hZ (Fy.o.blw hB)
    replace T4 := hZ (T4.o.blw hB)
    replace T5 := hZ (T5.o.blw hB)
    replace T6 := hZ (T6.o.blw hB)
    replace Fa := hZ (Fa.o.blw hB)
    replace Fb := hZ (Fb.o.blw hB)
    replace Fn := hZ (Fn.o.blw hB)
    replace Fm := hZ (Fm.o.blw hB)
    replace Va := hZ (Va.o.blw hB)
    replace Vb := hZ (Vb.o.blw hB)
    replace HB := bT HB hB
    clear hB
    clear h_q h_r
    clear Va Vb
    have Hlt : Hid (ba < w6.heap.size ∧ bb < w6.heap.size ∧ bn < w6.heap.size ∧ bm < w6.heap.size) := hZ ⟨Fa.o.lt, Fb.o.lt, Fn.o.lt, Fm.o.lt⟩
    obtain ⟨w7, hw⟩ : ∃ w', ((w6.alloc (.cells #[.bool s_q, .slice a_q n_q c_q] 58)).alloc (.cells #[.bool s_r, .slice a_r n_r c_r] 58)) = w' := ⟨_, rfl⟩
    have hB : Below w6.heap.size w6 w7 := by rw [← hw]; exact ((Below.refl _ _).alloc (Nat.le_refl _) _).alloc (by simp) _
    obtain ⟨bq, hb_bq⟩ : ∃ b, w6.heap.size = b := ⟨_, rfl⟩
    have h9 := Bx.blw (Bx.new (w := w6) Vq.o) ((Below.refl _ _).alloc (Nat.le_refl _) (.cells #[.bool s_r, .slice a_r n_r c_r] 58))
    rw [hw, hb_bq] at h9
    have Fq' := hZ h9
    have hge_bq : w6.heap.size ≤ bq := by omega
    clear h9
    obtain ⟨br, hb_br⟩ : ∃ b, w6.heap.size + 1 = b := ⟨_, rfl⟩
    have h9 := Bx.new (w := (w6.alloc (.cells #[.bool s_q, .slice a_q n_q c_q] 58))) (Vr.o.blw ((Below.refl _ _).alloc (Nat.le_refl _) _)); rw [World.size_alloc] at h9
    rw [hw, hb_br] at h9
    have Fr' := hZ h9
    have hge_br : w6.heap.size ≤ br := by omega
    clear h9
    replace Fx := hZ (Fx.o.blw hB)
    replace Fy := hZ (Fy.o.blw hB)
    replace T4 := hZ (T4.o.blw hB)
    replace T5 := hZ (T5.o.blw hB)
    replace T6 := hZ (T6.o.blw hB)
    replace Fa := hZ (Fa.o.blw hB)
    replace Fb := hZ (Fb.o.blw hB)
    replace Fn := hZ (Fn.o.blw hB)
    replace Fm := hZ (Fm.o.blw hB)
    replace Vq := hZ (Vq.o.blw hB)
    replace Vr := hZ (Vr.o.blw hB)
    replace HB := bT HB hB
    have Fq := Fq'
    clear Fq'
    have Fr := Fr'
    clear Fr'
    clear hB
    have Hd2 : Hid (ba < bq ∧ bb < bq ∧ bn < bq ∧ bm < bq ∧ ba < br ∧ bb < br ∧ bn < br ∧ bm < br) := hZ (by have := Hlt.o; omega)
    clear hge_bq hge_br Hlt
    go_wp2_with fail
    try rw [show bq + 1 = br by rw [← hb_bq]; exact hb_br]
    clear hw hb_bq hb_br
    clear Vq Vr
    obtain ⟨w8, hwd⟩ : ∃ w', w7.drew = w' := ⟨_, rfl⟩
    have hB := dB hwd
    replace Fx := hZ (Fx.o.blw hB)
    replace Fy := hZ (Fy.o.blw hB)
    replace T4 := hZ (T4.o.blw hB)
    replace T5 := hZ (T5.o.blw hB)
    replace T6 := hZ (T6.o.blw hB)
    replace Fa := hZ (Fa.o.blw hB)
    replace Fb := hZ (Fb.o.blw hB)
    replace Fn := hZ (Fn.o.blw hB)
    replace Fm := hZ (Fm.o.blw hB)
    replace Fq := hZ (Fq.o.blw hB)
    replace Fr := hZ (Fr.o.blw hB)
    replace HB := bT HB hB
    clear hB
    have HBr : Hid (Only (fun b => b = ba) w8 w8) := hZ (Only.refl _ _)
    refine startL [3] (fun w' => Only (fun b => b = ba) w8 w') (by kernel_rfl) (by rw [hwd]; exact Only.refl _ _) (fun hHeld => ?_)
    rw [hwd] at hHeld ⊢
    clear hwd
    obtain ⟨s_b, a_b, n_b, c_b, t_b, h_b⟩ := Fb.o
    have d0b := t_b.cell0
    have d1b := t_b.cell1
    have Vb := hZ h_b
    clear t_b h_b
    obtain ⟨s_r, a_r, n_r, c_r, t_r, h_r⟩ := Fr.o
    have d0r := t_r.cell0
    have d1r := t_r.cell1
    have Vr := hZ h_r
    clear t_r h_r
    refine tP 0 28 (v := ?_) rfl rfl ?_ ?_
    rotate_left
    ·(intro w hSw; have x0 := (hSw.cell (p := ⟨bb, 0, none⟩) (show ¬ (bb = ba) by have := Hd.o; have := Hd2.o; omega) Fb.o.lt).trans d0b; have x1 := (hSw.cell (p := ⟨bb, 1, none⟩) (show ¬ (bb = ba) by have := Hd.o; have := Hd2.o; omega) Fb.o.lt).trans d1b; go_simp; first | done | with_reducible rfl)
    simp only [sX1, sX2, sX3]
    refine tP 1 29 (v := ?_) rfl rfl ?_ ?_
    rotate_left
    ·(intro w hSw; have x0 := (hSw.cell (p := ⟨br, 0, none⟩) (show ¬ (br = ba) by have := Hd.o; have := Hd2.o; omega) Fr.o.lt).trans d0r; have x1 := (hSw.cell (p := ⟨br, 1, none⟩) (show ¬ (br = ba) by have := Hd.o; have := Hd2.o; omega) Fr.o.lt).trans d1r; go_simp; first | done | with_reducible rfl)
    simp only [sX1, sX2, sX3]
    clear d0b d1b d0r d1r
    obtain ⟨s_9, a_9, n_9, c_9, t_9, -⟩ := Fa.o
    have e0 := t_9.cell0
    have e1 := t_9.cell1
    have e2 := t_9.frozen 0
    have e3 := t_9.frozen 1
    clear t_9
    have hn9 : NoInt w8 (ba) := Fa.o.noInt
    obtain ⟨w9, hw⟩ : ∃ w', (w8.setCell ⟨ba, 0, none⟩ (.bool s_b)).setCell ⟨ba, 1, none⟩ (.slice a_b n_b c_b) = w' := ⟨_, rfl⟩
    have hw2 : st2 w8 (ba) (0) (1) s_b a_b n_b c_b = w9 := hw
    replace Fx := hZ (Fx.o.offe hw2 hn9 (by have := Hd.o; have := Hd2.o; omega))
    replace Fy := hZ (Fy.o.offe hw2 hn9 (by have := Hd.o; have := Hd2.o; omega))
    replace T4 := hZ (T4.o.offe hw2 (by have := Hd.o; have := Hd2.o; omega))
    replace T5 := hZ (T5.o.offe hw2 (by have := Hd.o; have := Hd2.o; omega))
    replace T6 := hZ (T6.o.offe hw2 (by have := Hd.o; have := Hd2.o; omega))
    replace Fa := hZ (Bx.put Fa.o Vb.o)
    rw [hw2] at Fa
    replace Fb := hZ (Fb.o.offe hw2 hn9 (by have := Hd.o; have := Hd2.o; omega))
    replace Fn := hZ (Fn.o.offe hw2 hn9 (by have := Hd.o; have := Hd2.o; omega))
    replace Fm := hZ (Fm.o.offe hw2 hn9 (by have := Hd.o; have := Hd2.o; omega))
    replace Fq := hZ (Fq.o.offe hw2 hn9 (by have := Hd.o; have := Hd2.o; omega))
    replace Fr := hZ (Fr.o.offe hw2 hn9 (by have := Hd.o; have := Hd2.o; omega))
    replace Vb := hZ (Vb.o.offe hw2 hn9)
    replace Vr := hZ (Vr.o.offe hw2 hn9)
    replace HB := hZ (bO hw2 HB.o (by have := Hd.o; have := Hn.o; omega))
    clear hw2 hn9
    replace HBr := hZ (HBr.o.off (g := ba) (o1 := 0) (o2 := 1) (s := s_b) (a := a_b) (n := n_b) (c := c_b) (show ba = ba by simp))
    rw [show st2 w8 (ba) 0 1 s_b a_b n_b c_b = w9 from hw] at HBr
    refine stepL 2 (by kernel_rfl) rfl (fun K hK => ?_)
    go_simp
    try rw [hw]
    refine hK.out _ _ HBr.o (fun hHeld => ?_)
    clear hK K
    try simp only [Act.put, sX1, sX2, sX3]
    clear hw e0 e1 e2 e3
    obtain ⟨s_9, a_9, n_9, c_9, t_9, -⟩ := Fb.o
    have e0 := t_9.cell0
    have e1 := t_9.cell1
    have e2 := t_9.frozen 0
    have e3 := t_9.frozen 1
    clear t_9
    have hn9 : NoInt w9 (bb) := Fb.o.noInt
    obtain ⟨w10, hw⟩ : ∃ w', (w9.setCell ⟨bb, 0, none⟩ (.bool s_r)).setCell ⟨bb, 1, none⟩ (.slice a_r n_r c_r) = w' := ⟨_, rfl⟩
    have hw2 : st2 w9 (bb) (0) (1) s_r a_r n_r c_r = w10 := hw
    replace Fx := hZ (Fx.o.offe hw2 hn9 (by have := Hd.o; have := Hd2.o; omega))
    replace Fy := hZ (Fy.o.offe hw2 hn9 (by have := Hd.o; have := Hd2.o; omega))
    replace T4 := hZ (T4.o.offe hw2 (by have := Hd.o; have := Hd2.o; omega))
    replace T5 := hZ (T5.o.offe hw2 (by have := Hd.o; have := Hd2.o; omega))
    replace T6 := hZ (T6.o.offe hw2 (by have := Hd.o; have := Hd2.o; omega))
    replace Fa := hZ (Fa.o.offe hw2 hn9 (by have := Hd.o; have := Hd2.o; omega))
    replace Fb := hZ (Bx.put Fb.o Vr.o)
    rw [hw2] at Fb
    replace Fn := hZ (Fn.o.offe hw2 hn9 (by have := Hd.o; have := Hd2.o; omega))
    replace Fm := hZ (Fm.o.offe hw2 hn9 (by have := Hd.o; have := Hd2.o; omega))
    replace Fq := hZ (Fq.o.offe hw2 hn9 (by have := Hd.o; have := Hd2.o; omega))
    replace Fr := hZ (Fr.o.offe hw2 hn9 (by have := Hd.o; have := Hd2.o; omega))
    replace Vb := hZ (Vb.o.offe hw2 hn9)
    replace Vr := hZ (Vr.o.offe hw2 hn9)
    replace HB := hZ (bO hw2 HB.o (by have := Hd.o; have := Hn.o; omega))
    clear hw2 hn9
    refine lateL 3 (by kernel_rfl) (by decide) rfl (fun K hK => ?_)
    go_simp
    try rw [hw]
    refine hK.out _ _ ?_
    clear hK K
    try simp only [Act.put, sX1, sX2, sX3]
    clear hw e0 e1 e2 e3
    refine doneL (by kernel_rfl) ?_ _
    clear hHeld
    clear Vb Vr
    go_wp2_with fail
    obtain ⟨w11, hwd⟩ : ∃ w', w10.drew = w' := ⟨_, rfl⟩
    have hB := dB hwd
    replace Fx := hZ (Fx.o.blw hB)
    replace Fy := hZ (Fy.o.blw hB)
    replace T4 := hZ (T4.o.blw hB)
    replace T5 := hZ (T5.o.blw hB)
    replace T6 := hZ (T6.o.blw hB)
    replace Fa := hZ (Fa.o.blw hB)
    replace Fb := hZ (Fb.o.blw hB)
    replace Fn := hZ (Fn.o.blw hB)
    replace Fm := hZ (Fm.o.blw hB)
    replace Fq := hZ (Fq.o.blw hB)
    replace Fr := hZ (Fr.o.blw hB)
    replace HB := bT HB hB
    clear hB
    have HBr : Hid (Only (fun b => False) w11 w11) := hZ (Only.refl _ _)
    refine startL [6, 7] (fun w' => Only (fun b => False) w11 w') (by kernel_rfl) (by rw [hwd]; exact Only.refl _ _) (fun hHeld => ?_)
    rw [hwd] at hHeld ⊢
    clear hwd
    obtain ⟨s_m, a_m, n_m, c_m, t_m, h_m⟩ := Fm.o
    have d0m := t_m.cell0
    have d1m := t_m.cell1
    have Vm := hZ h_m
    clear t_m h_m
    obtain ⟨s_o, a_o, n_o, c_o, t_o, h_o⟩ := Fn.o
    have d0o := t_o.cell0
    have d1o := t_o.cell1
    have Vo := hZ h_o
    clear t_o h_o
    obtain ⟨s_q, a_q, n_q, c_q, t_q, h_q⟩ := Fq.o
    have d0q := t_q.cell0
    have d1q := t_q.cell1
    have Vq := hZ h_q
    clear t_q h_q
    refine tP 0 30 (v := ?_) rfl rfl ?_ ?_
    rotate_left
    ·(intro w hSw; have x0 := (hSw.cell (p := ⟨bm, 0, none⟩) (fun h => h) Fm.o.lt).trans d0m; have x1 := (hSw.cell (p := ⟨bm, 1, none⟩) (fun h => h) Fm.o.lt).trans d1m; go_simp; first | done | with_reducible rfl)
    simp only [sX1, sX2, sX3]
    refine tP 1 31 (v := ?_) rfl rfl ?_ ?_
    rotate_left
    ·(intro w hSw; have x0 := (hSw.cell (p := ⟨bn, 0, none⟩) (fun h => h) Fn.o.lt).trans d0o; have x1 := (hSw.cell (p := ⟨bn, 1, none⟩) (fun h => h) Fn.o.lt).trans d1o; go_simp; first | done | with_reducible rfl)
    simp only [sX1, sX2, sX3]
    refine tP 2 32 (v := ?_) rfl rfl ?_ ?_
    rotate_left
    ·(intro w hSw; have x0 := (hSw.cell (p := ⟨bq, 0, none⟩) (fun h => h) Fq.o.lt).trans d0q; have x1 := (hSw.cell (p := ⟨bq, 1, none⟩) (fun h => h) Fq.o.lt).trans d1q; go_simp; first | done | with_reducible rfl)
    simp only [sX1, sX2, sX3]
    refine tP 3 33 (v := ?_) rfl rfl ?_ ?_
    rotate_left
    ·(intro w hSw; have x0 := (hSw.cell (p := ⟨bm, 0, none⟩) (fun h => h) Fm.o.lt).trans d0m; have x1 := (hSw.cell (p := ⟨bm, 1, none⟩) (fun h => h) Fm.o.lt).trans d1m; go_simp; first | done | with_reducible rfl)
    simp only [sX1, sX2, sX3]
    clear d0m d1m d0o d1o d0q d1q
    have Sq : Hid (Sz 7002 (a / (gk : Int))) := hZ (Sa.o.div hb9)
    refine stepL 4 (by kernel_rfl) rfl (fun K hK => ?_)
    go_simp
    refine (times_b (w := w11) Vq.o Vm.o Sq.o Sm.o (by omega)).mono ?_
    rintro e w12 ⟨s_t, a_t, n_t, c_t, rfl, h_t, hB⟩
    have Vt := hZ h_t
    replace HBr := oT HBr hB
    replace Fx := hZ (Fx.o.blw hB)
    replace Fy := hZ (Fy.o.blw hB)
    replace T4 := hZ (T4.o.blw hB)
    replace T5 := hZ (T5.o.blw hB)
    replace T6 := hZ (T6.o.blw hB)
    replace Fa := hZ (Fa.o.blw hB)
    replace Fb := hZ (Fb.o.blw hB)
    replace Fn := hZ (Fn.o.blw hB)
    replace Fm := hZ (Fm.o.blw hB)
    replace Fq := hZ (Fq.o.blw hB)
    replace Fr := hZ (Fr.o.blw hB)
    replace Vm := hZ (Vm.o.blw hB)
    replace Vo := hZ (Vo.o.blw hB)
    replace Vq := hZ (Vq.o.blw hB)
    replace HB := bT HB hB
    clear hB
    clear h_t
    refine hK.out _ _ HBr.o (fun hHeld => ?_)
    clear hK K
    try simp only [Act.put, sX1, sX2, sX3]
    refine stepL 5 (by kernel_rfl) rfl (fun K hK => ?_)
    go_simp
    refine (minus_b (w := w12) (k := 14002) Vo.o Vt.o (Sn.o.mono (by omega)) (Sq.o.mul Sm.o) (by omega)).mono ?_
    rintro e w13 ⟨s_u, a_u, n_u, c_u, rfl, h_u, hB⟩
    have Vu := hZ h_u
    replace HBr := oT HBr hB
    replace Fx := hZ (Fx.o.blw hB)
    replace Fy := hZ (Fy.o.blw hB)
    replace T4 := hZ (T4.o.blw hB)
    replace T5 := hZ (T5.o.blw hB)
    replace T6 := hZ (T6.o.blw hB)
    replace Fa := hZ (Fa.o.blw hB)
    replace Fb := hZ (Fb.o.blw hB)
    replace Fn := hZ (Fn.o.blw hB)
    replace Fm := hZ (Fm.o.blw hB)
    replace Fq := hZ (Fq.o.blw hB)
    replace Fr := hZ (Fr.o.blw hB)
    replace Vm := hZ (Vm.o.blw hB)
    replace Vo := hZ (Vo.o.blw hB)
    replace Vq := hZ (Vq.o.blw hB)
    replace Vt := hZ (Vt.o.blw hB)
    replace HB := bT HB hB
    clear hB
    clear h_u
    refine hK.out _ _ HBr.o (fun hHeld => ?_)
    clear hK K
    try simp only [Act.put, sX1, sX2, sX3]
    obtain ⟨s_9, a_9, n_9, c_9, t_9, -⟩ := Fn.o
    have e0 := t_9.cell0
    have e1 := t_9.cell1
    have e2 := t_9.frozen 0
    have e3 := t_9.frozen 1
    clear t_9
    have hn9 : NoInt w13 (bn) := Fn.o.noInt
    obtain ⟨w14, hw⟩ : ∃ w', (w13.setCell ⟨bn, 0, none⟩ (.bool s_m)).setCell ⟨bn, 1, none⟩ (.slice a_m n_m c_m) = w' := ⟨_, rfl⟩
    have hw2 : st2 w13 (bn) (0) (1) s_m a_m n_m c_m = w14 := hw
    replace Fx := hZ (Fx.o.offe hw2 hn9 (by have := Hd.o; have := Hd2.o; omega))
    replace Fy := hZ (Fy.o.offe hw2 hn9 (by have := Hd.o; have := Hd2.o; omega))
    replace T4 := hZ (T4.o.offe hw2 (by have := Hd.o; have := Hd2.o; omega))
    replace T5 := hZ (T5.o.offe hw2 (by have := Hd.o; have := Hd2.o; omega))
    replace T6 := hZ (T6.o.offe hw2 (by have := Hd.o; have := Hd2.o; omega))
    replace Fa := hZ (Fa.o.offe hw2 hn9 (by have := Hd.o; have := Hd2.o; omega))
    replace Fb := hZ (Fb.o.offe hw2 hn9 (by have := Hd.o; have := Hd2.o; omega))
    replace Fn := hZ (Bx.put Fn.o Vm.o)
    rw [hw2] at Fn
    replace Fm := hZ (Fm.o.offe hw2 hn9 (by have := Hd.o; have := Hd2.o; omega))
    replace Fq := hZ (Fq.o.offe hw2 hn9 (by have := Hd.o; have := Hd2.o; omega))
    replace Fr := hZ (Fr.o.offe hw2 hn9 (by have := Hd.o; have := Hd2.o; omega))
    replace Vm := hZ (Vm.o.offe hw2 hn9)
    replace Vo := hZ (Vo.o.offe hw2 hn9)
    replace Vq := hZ (Vq.o.offe hw2 hn9)
    replace Vt := hZ (Vt.o.offe hw2 hn9)
    replace Vu := hZ (Vu.o.offe hw2 hn9)
    replace HB := hZ (bO hw2 HB.o (by have := Hd.o; have := Hn.o; omega))
    clear hw2 hn9
    refine lateL 6 (by kernel_rfl) (by decide) rfl (fun K hK => ?_)
    go_simp
    try rw [hw]
    refine hK.out _ _ ?_
    clear hK K
    try simp only [Act.put, sX1, sX2, sX3]
    clear hw e0 e1 e2 e3
    obtain ⟨s_9, a_9, n_9, c_9, t_9, -⟩ := Fm.o
    have e0 := t_9.cell0
    have e1 := t_9.cell1
    have e2 := t_9.frozen 0
    have e3 := t_9.frozen 1
    clear t_9
    have hn9 : NoInt w14 (bm) := Fm.o.noInt
    obtain ⟨w15, hw⟩ : ∃ w', (w14.setCell ⟨bm, 0, none⟩ (.bool s_u)).setCell ⟨bm, 1, none⟩ (.slice a_u n_u c_u) = w' := ⟨_, rfl⟩
    have hw2 : st2 w14 (bm) (0) (1) s_u a_u n_u c_u = w15 := hw
    replace Fx := hZ (Fx.o.offe hw2 hn9 (by have := Hd.o; have := Hd2.o; omega))
    replace Fy := hZ (Fy.o.offe hw2 hn9 (by have := Hd.o; have := Hd2.o; omega))
    replace T4 := hZ (T4.o.offe hw2 (by have := Hd.o; have := Hd2.o; omega))
    replace T5 := hZ (T5.o.offe hw2 (by have := Hd.o; have := Hd2.o; omega))
    replace T6 := hZ (T6.o.offe hw2 (by have := Hd.o; have := Hd2.o; omega))
    replace Fa := hZ (Fa.o.offe hw2 hn9 (by have := Hd.o; have := Hd2.o; omega))
    replace Fb := hZ (Fb.o.offe hw2 hn9 (by have := Hd.o; have := Hd2.o; omega))
    replace Fn := hZ (Fn.o.offe hw2 hn9 (by have := Hd.o; have := Hd2.o; omega))
    replace Fm := hZ (Bx.put Fm.o Vu.o)
    rw [hw2] at Fm
    replace Fq := hZ (Fq.o.offe hw2 hn9 (by have := Hd.o; have := Hd2.o; omega))
    replace Fr := hZ (Fr.o.offe hw2 hn9 (by have := Hd.o; have := Hd2.o; omega))
    replace Vm := hZ (Vm.o.offe hw2 hn9)
    replace Vo := hZ (Vo.o.offe hw2 hn9)
    replace Vq := hZ (Vq.o.offe hw2 hn9)
    replace Vt := hZ (Vt.o.offe hw2 hn9)
    replace Vu := hZ (Vu.o.offe hw2 hn9)
    replace HB := hZ (bO hw2 HB.o (by have := Hd.o; have := Hn.o; omega))
    clear hw2 hn9
    refine lateL 7 (by kernel_rfl) (by decide) rfl (fun K hK => ?_)
    go_simp
    try rw [hw]
    refine hK.out _ _ ?_
    clear hK K
    try simp only [Act.put, sX1, sX2, sX3]
    clear hw e0 e1 e2 e3
    refine doneL (by kernel_rfl) ?_ _
    clear hHeld
    go_wp2_with fail
    go_roundg (((a % (gk : Int)).toNat))
    case measure => have h1 := Int.emod_lt_of_pos a (show (0 : Int) < (gk : Int) by omega); have h2 := Int.emod_nonneg a hb9; omega
    case rel => exact ⟨(gk : Int), next, now - a / (gk : Int) * next, hZ (by rw [Int.toNat_of_nonneg (Int.emod_nonneg _ hb9)]; exact HZ.o.step hb9), Fa, hZ (by rw [Int.toNat_of_nonneg (Int.emod_nonneg _ hb9)]; exact Fb.o), Fn, Fm, Fx, Fy, T4, T5, T6, HB⟩
end Go.Proofs.Ytlmbebbdamgfpaa
