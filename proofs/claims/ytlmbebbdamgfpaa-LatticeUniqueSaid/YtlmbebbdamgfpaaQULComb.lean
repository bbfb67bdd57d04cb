/- lattice.insert's combine. -/
import Derived.Test.YtlmbebbdamgfpaaQULRow
import Derived.Test.YtlmbebbdamgfpaaQULBez
set_option linter.unusedVariables false
set_option linter.unusedSimpArgs false
set_option linter.unusedVariables false
set_option linter.unusedSimpArgs false
namespace Go.Proofs.Ytlmbebbdamgfpaa
open Go.RowKit

theorem boxes4w (w : World) {sa sb sc sd : Bool} {pa pb pc pd : Option Addr} {na nb nc nd ca cb cc cd : Nat} {a b c d : Int} (ha : WInt w (.agg #[.bool sa, .slice pa na ca]) a) (hb : WInt w (.agg #[.bool sb, .slice pb nb cb]) b) (hc : WInt w (.agg #[.bool sc, .slice pc nc cc]) c) (hd : WInt w (.agg #[.bool sd, .slice pd nd cd]) d) (n : Nat) (hn : w.heap.size = n) :
 ∃ W, ((((w.alloc (.cells #[.bool sa, .slice pa na ca] 58)).alloc (.cells #[.bool sb, .slice pb nb cb] 58)).alloc (.cells #[.bool sc, .slice pc nc cc] 58)).alloc (.cells #[.bool sd, .slice pd nd cd] 58)) = W ∧
  Bx W n a ∧ Bx W (n + 1) b ∧ Bx W (n + 1 + 1) c ∧ Bx W (n + 1 + 1 + 1) d ∧ Below w.heap.size w W ∧ W.heap.size = n + 1 + 1 + 1 + 1 := by
 subst hn
 have B1 : ∀ (w : World) o, Below w.heap.size w (w.alloc o) := fun w o => (Below.refl _ _).alloc (Nat.le_refl _) o
 refine ⟨_, rfl, (((Bx.new ha).blw (B1 _ _)).blw (B1 _ _)).blw (B1 _ _), ?_, ?_, ?_, ((((Below.refl _ _).alloc (Nat.le_refl _) _).alloc (by simp) _).alloc (by simp; omega) _).alloc (by simp; omega) _, by simp⟩
 ·have := ((Bx.new (hb.blw (B1 w (.cells #[.bool sa, .slice pa na ca] 58)))).blw (B1 _ (.cells #[.bool sc, .slice pc nc cc] 58))).blw (B1 _ (.cells #[.bool sd, .slice pd nd cd] 58))
  rwa [World.size_alloc] at this
 ·have := (Bx.new ((hc.blw (B1 w (.cells #[.bool sa, .slice pa na ca] 58))).blw (B1 _ (.cells #[.bool sb, .slice pb nb cb] 58)))).blw (B1 _ (.cells #[.bool sd, .slice pd nd cd] 58))
  rwa [World.size_alloc, World.size_alloc] at this
 ·have := Bx.new (((hd.blw (B1 w (.cells #[.bool sa, .slice pa na ca] 58))).blw (B1 _ (.cells #[.bool sb, .slice pb nb cb] 58))).blw (B1 _ (.cells #[.bool sc, .slice pc nc cc] 58)))
  rwa [World.size_alloc, World.size_alloc, World.size_alloc] at this

set_option maxRecDepth 100000 in
set_option maxHeartbeats 8000000 in
theorem combine_any (w0 : World) (g ga br ba bm n c1 c2 k : Nat) (rs as_ : List Int) (va vb vc vd : Value) (a b c d m : Int) (hr : WRow w0 g rs) (hga : WRow w0 ga as_) (hkr : k < rs.length) (hka : k < as_.length) (x y : Int) (hx : rs[k] = x) (hy : as_[k] = y) (hn : n ≤ 1000) (hk : k < n) (hc1 : n ≤ c1) (hc1' : c1 ≤ 9223372036854775807) (hc2 : n ≤ c2) (hc2' : c2 ≤ 9223372036854775807)
 (or_ : One w0 br 55 (.slice (some ⟨g, 0, none⟩) n c1)) (oa : One w0 ba 55 (.slice (some ⟨ga, 0, none⟩) n c2)) (fm : Bx w0 bm m) (hm : m ≠ 0) (hne : g ≠ ga ∧ br ≠ g ∧ br ≠ ga ∧ ba ≠ g ∧ ba ≠ ga ∧ bm ≠ g ∧ bm ≠ ga)
 (ha : WInt w0 va a) (hb : WInt w0 vb b) (hc : WInt w0 vc c) (hd : WInt w0 vd d) (sa : Sz 4100 a) (sb : Sz 4100 b) (sc : Sz 4100 c) (sd : Sz 4100 d) (sm : Sz 4100 m) (sx : Sz 4100 x) (sy : Sz 4100 y) :
 Calls Try.prog 98 #[.int .i64 k, va, vb, vc, vd, .pointer (some ⟨br, 0, none⟩), .pointer (some ⟨ba, 0, none⟩), .pointer (some ⟨bm, 0, none⟩)] w0 fun e w' => (∃ v, e = .returned v) ∧ WRow w' g (rs.set k ((a * x + b * y) % m)) ∧ WRow w' ga (as_.set k ((c * x + d * y) % m)) ∧ Only (fun b => b = g ∨ b = ga) w0 w' := by
 obtain ⟨s1, a1, n1, d1, rfl⟩ := ha.form4
 obtain ⟨s2, a2, n2, d2, rfl⟩ := hb.form4
 obtain ⟨s3, a3, n3, d3, rfl⟩ := hc.form4
 obtain ⟨s4, a4, n4, d4, rfl⟩ := hd.form4
 obtain ⟨n0, hn0⟩ : ∃ n, w0.heap.size = n := ⟨_, rfl⟩
 have Hn0 := hZ hn0
 obtain ⟨w1, hW, fa, fb, fc, fd, hB, hs⟩ := boxes4w w0 ha hb hc hd n0 hn0
 have hlt := And.intro hr.lt (And.intro hga.lt (And.intro or_.lt (And.intro oa.lt fm.lt)))
 rw [hn0] at hlt
 have Hlt := hZ hlt
 have Rr := hZ (hr.blw hB)
 have Ra := hZ (hga.blw hB)
 have Oq := hZ (or_.blw hB)
 have Oa := hZ (oa.blw hB)
 have Fm := hZ (fm.blw hB)
 have F1 := hZ fa
 have F2 := hZ fb
 have F3 := hZ fc
 have F4 := hZ fd
 have HO := hZ (Only.of_below (S := fun b => b = g ∨ b = ga) hB)
 have Hne := hZ hne
 have Hkr : Hid (k < rs.length) := hZ hkr
 have Hka : Hid (k < as_.length) := hZ hka
 have Sa := hZ sa
 have Sb := hZ sb
 have Sc := hZ sc
 have Sd := hZ sd
 have Sm := hZ sm
 have Sx := hZ sx
 have Sy := hZ sy
 have i1 : (0 : Int) ≤ (k : Int) := by omega
 have i2 : (k : Int) < (n : Int) := by omega
 have Hsz : Hid (w1.heap.size = n0 + 1 + 1 + 1 + 1) := hZ hs
 clear hr hga or_ oa fm ha hb hc hd sa sb sc sd sm sx sy fa fb fc fd hB hne hlt hs
 have Hx : Hid (rs[k]'Hkr.o = x) := hZ hx
 have Hy : Hid (as_[k]'Hka.o = y) := hZ hy
 clear hx hy
 go_enter Try.func98, Try.ntmps98
 go_wp2_with fail
 clear hW
 refine wp_join (fun t ds a w' => ∃ v15 v16 v17 v18 v19 v20 v21 v22 bx by_, a = ⟨(((((((((t.setIfInBounds 13 (.pointer (some ⟨bx, 0, none⟩))).setIfInBounds 14 (.pointer (some ⟨by_, 0, none⟩))).setIfInBounds 15 v15).setIfInBounds 16 v16).setIfInBounds 17 v17).setIfInBounds 18 v18).setIfInBounds 19 v19).setIfInBounds 20 v20).setIfInBounds 21 v21).setIfInBounds 22 v22, ds⟩ ∧ Hid (Bx w' bx x) ∧ Hid (Bx w' by_ y) ∧ Hid (Below w1.heap.size w1 w') ∧ Hid (bx ≠ by_ ∧ w1.heap.size ≤ bx ∧ w1.heap.size ≤ by_)) ?_ ?_
 ·skip
  have HJ := hZ (Below.refl w1.heap.size w1)
  obtain ⟨w2, hwd⟩ : ∃ w', w1.drew = w' := ⟨_, rfl⟩
  have hB := dB hwd
  replace Rr := hZ (Rr.o.blw hB)
  replace Ra := hZ (Ra.o.blw hB)
  replace Oq := hZ (Oq.o.blw hB)
  replace Oa := hZ (Oa.o.blw hB)
  replace Fm := hZ (Fm.o.blw hB)
  replace F1 := hZ (F1.o.blw hB)
  replace F2 := hZ (F2.o.blw hB)
  replace F3 := hZ (F3.o.blw hB)
  replace F4 := hZ (F4.o.blw hB)
  replace HJ := bT HJ hB
  clear hB
  have HBr : Hid (Only (fun b => w2.heap.size ≤ b) w2 w2) := hZ (Only.refl _ _)
  refine startL [11] (fun w' => Only (fun b => w2.heap.size ≤ b) w2 w') (by kernel_rfl) (by rw [hwd]; exact Only.refl _ _) (fun hHeld => ?_)
  rw [hwd] at hHeld ⊢
  clear hwd
  have HJs : Hid (w1.heap.size ≤ w2.heap.size) := hZ HJ.o.size
  have Hall : Hid (g < w2.heap.size ∧ ga < w2.heap.size ∧ br < w2.heap.size ∧ ba < w2.heap.size ∧ bm < w2.heap.size ∧ n0 + 1 + 1 + 1 < w2.heap.size) := hZ ⟨Rr.o.lt, Ra.o.lt, Oq.o.lt, Oa.o.lt, Fm.o.lt, F4.o.lt⟩
  obtain ⟨s_x, a_x, n_x, c_x, d0x, d1x, h_x⟩ := Rr.o.get k Hkr.o
  rw [Hx.o] at h_x
  have Vx := hZ h_x
  clear h_x
  obtain ⟨s_y, a_y, n_y, c_y, d0y, d1y, h_y⟩ := Ra.o.get k Hka.o
  rw [Hy.o] at h_y
  have Vy := hZ h_y
  clear h_y
  have dor := Oq.o.cell
  have doa := Oa.o.cell
  refine tP 0 15 (v := ?_) rfl rfl ?_ ?_
  rotate_left
  ·(intro w hSw; have x0 := (hSw.cell (p := ⟨br, 0, none⟩) (Nat.not_le_of_lt Oq.o.lt) Oq.o.lt).trans dor; go_simp; first | done | with_reducible rfl)
  simp only [sX1, sX2, sX3]
  refine pP 1 16 (v := ?_) rfl rfl ?_ ?_
  rotate_left
  ·(intro w; go_simp; first | done | with_reducible rfl)
  simp only [sX1, sX2, sX3]
  refine pP 2 17 (v := ?_) rfl rfl ?_ ?_
  rotate_left
  ·(intro w; go_simp; first | done | with_reducible rfl)
  simp only [sX1, sX2, sX3]
  refine tP 3 18 (v := ?_) rfl rfl ?_ ?_
  rotate_left
  ·(intro w hSw; have x0 := (hSw.cell (p := ⟨g, k * 2, none⟩) (Nat.not_le_of_lt Rr.o.lt) Rr.o.lt).trans d0x; have x1 := (hSw.cell (p := ⟨g, k * 2 + 1, none⟩) (Nat.not_le_of_lt Rr.o.lt) Rr.o.lt).trans d1x; go_simp; first | done | with_reducible rfl)
  simp only [sX1, sX2, sX3]
  refine tP 4 19 (v := ?_) rfl rfl ?_ ?_
  rotate_left
  ·(intro w hSw; have x0 := (hSw.cell (p := ⟨ba, 0, none⟩) (Nat.not_le_of_lt Oa.o.lt) Oa.o.lt).trans doa; go_simp; first | done | with_reducible rfl)
  simp only [sX1, sX2, sX3]
  refine pP 5 20 (v := ?_) rfl rfl ?_ ?_
  rotate_left
  ·(intro w; go_simp; first | done | with_reducible rfl)
  simp only [sX1, sX2, sX3]
  refine pP 6 21 (v := ?_) rfl rfl ?_ ?_
  rotate_left
  ·(intro w; go_simp; first | done | with_reducible rfl)
  simp only [sX1, sX2, sX3]
  refine tP 7 22 (v := ?_) rfl rfl ?_ ?_
  rotate_left
  ·(intro w hSw; have x0 := (hSw.cell (p := ⟨ga, k * 2, none⟩) (Nat.not_le_of_lt Ra.o.lt) Ra.o.lt).trans d0y; have x1 := (hSw.cell (p := ⟨ga, k * 2 + 1, none⟩) (Nat.not_le_of_lt Ra.o.lt) Ra.o.lt).trans d1y; go_simp; first | done | with_reducible rfl)
  simp only [sX1, sX2, sX3]
  clear dor doa d0x d1x d0y d1y
  refine forkL [8, 9] (by kernel_rfl) (by simp) ⟨forkOneL 8 rfl (fun K hK => ?_), forkOneL 9 rfl (fun K hK => ?_), trivial⟩
  ·skip
   go_simp
   obtain ⟨w3, hw⟩ : ∃ w', w2.alloc (.cells #[.bool false, .slice none 0 0] 58) = w' := ⟨_, rfl⟩
   have hB := aB hw
   obtain ⟨bx, hb⟩ : ∃ b, w2.heap.size = b := ⟨_, rfl⟩
   have Fx' : Hid (Bx w3 bx 0) := hZ (by rw [← hw, ← hb]; exact Bx.new (wint_zero _))
   have hge_bx : w2.heap.size ≤ bx := by rw [← hb]; exact HBr.o.size
   replace HBr := oT HBr hB
   replace Rr := hZ (Rr.o.blw hB)
   replace Ra := hZ (Ra.o.blw hB)
   replace Oq := hZ (Oq.o.blw hB)
   replace Oa := hZ (Oa.o.blw hB)
   replace Fm := hZ (Fm.o.blw hB)
   replace F1 := hZ (F1.o.blw hB)
   replace F2 := hZ (F2.o.blw hB)
   replace F3 := hZ (F3.o.blw hB)
   replace F4 := hZ (F4.o.blw hB)
   replace Vx := hZ (Vx.o.blw hB)
   replace Vy := hZ (Vy.o.blw hB)
   replace HJ := bT HJ hB
   clear hB
   have Fx := Fx'
   clear Fx'
   rw [hw]
   try rw [hb]
   clear hw hb
   refine hK.out _ _ HBr.o (fun hHeld => ?_)
   clear hK K
   try simp only [Act.put, sX1, sX2, sX3]
   refine stepL 9 (by kernel_rfl) rfl (fun K hK => ?_)
   go_simp
   obtain ⟨w4, hw⟩ : ∃ w', w3.alloc (.cells #[.bool false, .slice none 0 0] 58) = w' := ⟨_, rfl⟩
   have hB := aB hw
   obtain ⟨by_, hb⟩ : ∃ b, w3.heap.size = b := ⟨_, rfl⟩
   have Fy' : Hid (Bx w4 by_ 0) := hZ (by rw [← hw, ← hb]; exact Bx.new (wint_zero _))
   have hge_by_ : w2.heap.size ≤ by_ := by rw [← hb]; exact HBr.o.size
   have hne_bx_by_ : bx < by_ := by rw [← hb]; exact Fx.o.lt
   replace HBr := oT HBr hB
   replace Rr := hZ (Rr.o.blw hB)
   replace Ra := hZ (Ra.o.blw hB)
   replace Oq := hZ (Oq.o.blw hB)
   replace Oa := hZ (Oa.o.blw hB)
   replace Fm := hZ (Fm.o.blw hB)
   replace F1 := hZ (F1.o.blw hB)
   replace F2 := hZ (F2.o.blw hB)
   replace F3 := hZ (F3.o.blw hB)
   replace F4 := hZ (F4.o.blw hB)
   replace Vx := hZ (Vx.o.blw hB)
   replace Vy := hZ (Vy.o.blw hB)
   replace Fx := hZ (Fx.o.blw hB)
   replace HJ := bT HJ hB
   clear hB
   have Fy := Fy'
   clear Fy'
   rw [hw]
   try rw [hb]
   clear hw hb
   refine hK.out _ _ HBr.o (fun hHeld => ?_)
   clear hK K
   try simp only [Act.put, sX1, sX2, sX3]
   obtain ⟨s_9, a_9, n_9, c_9, t_9, -⟩ := Fx.o
   have e0 := t_9.cell0
   have e1 := t_9.cell1
   have e2 := t_9.frozen 0
   have e3 := t_9.frozen 1
   clear t_9
   have hn9 : NoInt w4 (bx) := Fx.o.noInt
   obtain ⟨w5, hw⟩ : ∃ w', (w4.setCell ⟨bx, 0, none⟩ (.bool s_x)).setCell ⟨bx, 1, none⟩ (.slice a_x n_x c_x) = w' := ⟨_, rfl⟩
   have hw2 : st2 w4 (bx) (0) (1) s_x a_x n_x c_x = w5 := hw
   replace Fx := hZ (Bx.put Fx.o Vx.o)
   rw [hw2] at Fx
   replace Rr := hZ (Rr.o.offe hw2 hn9 (by have := Hall.o; omega))
   replace Ra := hZ (Ra.o.offe hw2 hn9 (by have := Hall.o; omega))
   replace Oq := hZ (Oq.o.offe hw2 (by have := Hall.o; omega))
   replace Oa := hZ (Oa.o.offe hw2 (by have := Hall.o; omega))
   replace Fm := hZ (Fm.o.offe hw2 hn9 (by have := Hall.o; omega))
   replace F1 := hZ (F1.o.offe hw2 hn9 (by have := Hall.o; omega))
   replace F2 := hZ (F2.o.offe hw2 hn9 (by have := Hall.o; omega))
   replace F3 := hZ (F3.o.offe hw2 hn9 (by have := Hall.o; omega))
   replace F4 := hZ (F4.o.offe hw2 hn9 (by have := Hall.o; omega))
   replace Vx := hZ (Vx.o.offe hw2 hn9)
   replace Vy := hZ (Vy.o.offe hw2 hn9)
   replace Fy := hZ (Fy.o.offe hw2 hn9 (by have := Hall.o; omega))
   replace HJ := hZ (bO hw2 HJ.o (by have := HJs.o; omega))
   clear hw2 hn9
   replace HBr := hZ (HBr.o.offs hw hge_bx)
   refine stepL 10 (by kernel_rfl) rfl (fun K hK => ?_)
   go_simp
   try rw [hw]
   refine hK.out _ _ HBr.o (fun hHeld => ?_)
   clear hK K
   try simp only [Act.put, sX1, sX2, sX3]
   clear hw e0 e1 e2 e3
   obtain ⟨s_9, a_9, n_9, c_9, t_9, -⟩ := Fy.o
   have e0 := t_9.cell0
   have e1 := t_9.cell1
   have e2 := t_9.frozen 0
   have e3 := t_9.frozen 1
   clear t_9
   have hn9 : NoInt w5 (by_) := Fy.o.noInt
   obtain ⟨w6, hw⟩ : ∃ w', (w5.setCell ⟨by_, 0, none⟩ (.bool s_y)).setCell ⟨by_, 1, none⟩ (.slice a_y n_y c_y) = w' := ⟨_, rfl⟩
   have hw2 : st2 w5 (by_) (0) (1) s_y a_y n_y c_y = w6 := hw
   replace Fy := hZ (Bx.put Fy.o Vy.o)
   rw [hw2] at Fy
   replace Rr := hZ (Rr.o.offe hw2 hn9 (by have := Hall.o; omega))
   replace Ra := hZ (Ra.o.offe hw2 hn9 (by have := Hall.o; omega))
   replace Oq := hZ (Oq.o.offe hw2 (by have := Hall.o; omega))
   replace Oa := hZ (Oa.o.offe hw2 (by have := Hall.o; omega))
   replace Fm := hZ (Fm.o.offe hw2 hn9 (by have := Hall.o; omega))
   replace F1 := hZ (F1.o.offe hw2 hn9 (by have := Hall.o; omega))
   replace F2 := hZ (F2.o.offe hw2 hn9 (by have := Hall.o; omega))
   replace F3 := hZ (F3.o.offe hw2 hn9 (by have := Hall.o; omega))
   replace F4 := hZ (F4.o.offe hw2 hn9 (by have := Hall.o; omega))
   replace Vx := hZ (Vx.o.offe hw2 hn9)
   replace Vy := hZ (Vy.o.offe hw2 hn9)
   replace Fx := hZ (Fx.o.offe hw2 hn9 (by have := Hall.o; omega))
   replace HJ := hZ (bO hw2 HJ.o (by have := HJs.o; omega))
   clear hw2 hn9
   refine lateL 11 (by kernel_rfl) (by decide) rfl (fun K hK => ?_)
   go_simp
   try rw [hw]
   refine hK.out _ _ ?_
   clear hK K
   try simp only [Act.put, sX1, sX2, sX3]
   clear hw e0 e1 e2 e3
   refine doneL (by kernel_rfl) ?_ _
   clear hHeld
   refine joinQ_normal ⟨_, _, _, _, _, _, _, _, _, _, by first | rfl | (simp only [sX1, sX2, sX3]; rfl), Fx, Fy, HJ, hZ (by have := HJs.o; omega)⟩
  ·skip
   go_simp
   obtain ⟨w3, hw⟩ : ∃ w', w2.alloc (.cells #[.bool false, .slice none 0 0] 58) = w' := ⟨_, rfl⟩
   have hB := aB hw
   obtain ⟨by_, hb⟩ : ∃ b, w2.heap.size = b := ⟨_, rfl⟩
   have Fy' : Hid (Bx w3 by_ 0) := hZ (by rw [← hw, ← hb]; exact Bx.new (wint_zero _))
   have hge_by_ : w2.heap.size ≤ by_ := by rw [← hb]; exact HBr.o.size
   replace HBr := oT HBr hB
   replace Rr := hZ (Rr.o.blw hB)
   replace Ra := hZ (Ra.o.blw hB)
   replace Oq := hZ (Oq.o.blw hB)
   replace Oa := hZ (Oa.o.blw hB)
   replace Fm := hZ (Fm.o.blw hB)
   replace F1 := hZ (F1.o.blw hB)
   replace F2 := hZ (F2.o.blw hB)
   replace F3 := hZ (F3.o.blw hB)
   replace F4 := hZ (F4.o.blw hB)
   replace Vx := hZ (Vx.o.blw hB)
   replace Vy := hZ (Vy.o.blw hB)
   replace HJ := bT HJ hB
   clear hB
   have Fy := Fy'
   clear Fy'
   rw [hw]
   try rw [hb]
   clear hw hb
   refine hK.out _ _ HBr.o (fun hHeld => ?_)
   clear hK K
   try simp only [Act.put, sX1, sX2, sX3]
   refine stepL 8 (by kernel_rfl) rfl (fun K hK => ?_)
   go_simp
   obtain ⟨w4, hw⟩ : ∃ w', w3.alloc (.cells #[.bool false, .slice none 0 0] 58) = w' := ⟨_, rfl⟩
   have hB := aB hw
   obtain ⟨bx, hb⟩ : ∃ b, w3.heap.size = b := ⟨_, rfl⟩
   have Fx' : Hid (Bx w4 bx 0) := hZ (by rw [← hw, ← hb]; exact Bx.new (wint_zero _))
   have hge_bx : w2.heap.size ≤ bx := by rw [← hb]; exact HBr.o.size
   have hne_by__bx : by_ < bx := by rw [← hb]; exact Fy.o.lt
   replace HBr := oT HBr hB
   replace Rr := hZ (Rr.o.blw hB)
   replace Ra := hZ (Ra.o.blw hB)
   replace Oq := hZ (Oq.o.blw hB)
   replace Oa := hZ (Oa.o.blw hB)
   replace Fm := hZ (Fm.o.blw hB)
   replace F1 := hZ (F1.o.blw hB)
   replace F2 := hZ (F2.o.blw hB)
   replace F3 := hZ (F3.o.blw hB)
   replace F4 := hZ (F4.o.blw hB)
   replace Vx := hZ (Vx.o.blw hB)
   replace Vy := hZ (Vy.o.blw hB)
   replace Fy := hZ (Fy.o.blw hB)
   replace HJ := bT HJ hB
   clear hB
   have Fx := Fx'
   clear Fx'
   rw [hw]
   try rw [hb]
   clear hw hb
   refine hK.out _ _ HBr.o (fun hHeld => ?_)
   clear hK K
   try simp only [Act.put, sX1, sX2, sX3]
   obtain ⟨s_9, a_9, n_9, c_9, t_9, -⟩ := Fx.o
   have e0 := t_9.cell0
   have e1 := t_9.cell1
   have e2 := t_9.frozen 0
   have e3 := t_9.frozen 1
   clear t_9
   have hn9 : NoInt w4 (bx) := Fx.o.noInt
   obtain ⟨w5, hw⟩ : ∃ w', (w4.setCell ⟨bx, 0, none⟩ (.bool s_x)).setCell ⟨bx, 1, none⟩ (.slice a_x n_x c_x) = w' := ⟨_, rfl⟩
   have hw2 : st2 w4 (bx) (0) (1) s_x a_x n_x c_x = w5 := hw
   replace Fx := hZ (Bx.put Fx.o Vx.o)
   rw [hw2] at Fx
   replace Rr := hZ (Rr.o.offe hw2 hn9 (by have := Hall.o; omega))
   replace Ra := hZ (Ra.o.offe hw2 hn9 (by have := Hall.o; omega))
   replace Oq := hZ (Oq.o.offe hw2 (by have := Hall.o; omega))
   replace Oa := hZ (Oa.o.offe hw2 (by have := Hall.o; omega))
   replace Fm := hZ (Fm.o.offe hw2 hn9 (by have := Hall.o; omega))
   replace F1 := hZ (F1.o.offe hw2 hn9 (by have := Hall.o; omega))
   replace F2 := hZ (F2.o.offe hw2 hn9 (by have := Hall.o; omega))
   replace F3 := hZ (F3.o.offe hw2 hn9 (by have := Hall.o; omega))
   replace F4 := hZ (F4.o.offe hw2 hn9 (by have := Hall.o; omega))
   replace Vx := hZ (Vx.o.offe hw2 hn9)
   replace Vy := hZ (Vy.o.offe hw2 hn9)
   replace Fy := hZ (Fy.o.offe hw2 hn9 (by have := Hall.o; omega))
   replace HJ := hZ (bO hw2 HJ.o (by have := HJs.o; omega))
   clear hw2 hn9
   replace HBr := hZ (HBr.o.offs hw hge_bx)
   refine stepL 10 (by kernel_rfl) rfl (fun K hK => ?_)
   go_simp
   try rw [hw]
   refine hK.out _ _ HBr.o (fun hHeld => ?_)
   clear hK K
   try simp only [Act.put, sX1, sX2, sX3]
   clear hw e0 e1 e2 e3
   obtain ⟨s_9, a_9, n_9, c_9, t_9, -⟩ := Fy.o
   have e0 := t_9.cell0
   have e1 := t_9.cell1
   have e2 := t_9.frozen 0
   have e3 := t_9.frozen 1
   clear t_9
   have hn9 : NoInt w5 (by_) := Fy.o.noInt
   obtain ⟨w6, hw⟩ : ∃ w', (w5.setCell ⟨by_, 0, none⟩ (.bool s_y)).setCell ⟨by_, 1, none⟩ (.slice a_y n_y c_y) = w' := ⟨_, rfl⟩
   have hw2 : st2 w5 (by_) (0) (1) s_y a_y n_y c_y = w6 := hw
   replace Fy := hZ (Bx.put Fy.o Vy.o)
   rw [hw2] at Fy
   replace Rr := hZ (Rr.o.offe hw2 hn9 (by have := Hall.o; omega))
   replace Ra := hZ (Ra.o.offe hw2 hn9 (by have := Hall.o; omega))
   replace Oq := hZ (Oq.o.offe hw2 (by have := Hall.o; omega))
   replace Oa := hZ (Oa.o.offe hw2 (by have := Hall.o; omega))
   replace Fm := hZ (Fm.o.offe hw2 hn9 (by have := Hall.o; omega))
   replace F1 := hZ (F1.o.offe hw2 hn9 (by have := Hall.o; omega))
   replace F2 := hZ (F2.o.offe hw2 hn9 (by have := Hall.o; omega))
   replace F3 := hZ (F3.o.offe hw2 hn9 (by have := Hall.o; omega))
   replace F4 := hZ (F4.o.offe hw2 hn9 (by have := Hall.o; omega))
   replace Vx := hZ (Vx.o.offe hw2 hn9)
   replace Vy := hZ (Vy.o.offe hw2 hn9)
   replace Fx := hZ (Fx.o.offe hw2 hn9 (by have := Hall.o; omega))
   replace HJ := hZ (bO hw2 HJ.o (by have := HJs.o; omega))
   clear hw2 hn9
   refine lateL 11 (by kernel_rfl) (by decide) rfl (fun K hK => ?_)
   go_simp
   try rw [hw]
   refine hK.out _ _ ?_
   clear hK K
   try simp only [Act.put, sX1, sX2, sX3]
   clear hw e0 e1 e2 e3
   refine doneL (by kernel_rfl) ?_ _
   clear hHeld
   refine joinQ_normal ⟨_, _, _, _, _, _, _, _, _, _, by first | rfl | (simp only [sX1, sX2, sX3]; rfl), Fx, Fy, HJ, hZ (by have := HJs.o; omega)⟩
 ·skip
  rintro a w2 ⟨v15, v16, v17, v18, v19, v20, v21, v22, bx, by_, rfl, Fx, Fy, HJ, Hxy⟩
  simp only [sX1, sX2, sX3]
  have hB := HJ.o
  clear HJ
  replace Rr := hZ (Rr.o.blw hB)
  replace Ra := hZ (Ra.o.blw hB)
  replace Oq := hZ (Oq.o.blw hB)
  replace Oa := hZ (Oa.o.blw hB)
  replace Fm := hZ (Fm.o.blw hB)
  replace F1 := hZ (F1.o.blw hB)
  replace F2 := hZ (F2.o.blw hB)
  replace F3 := hZ (F3.o.blw hB)
  replace F4 := hZ (F4.o.blw hB)
  replace HO := hZ (HO.o.blw hB)
  clear hB
  have Hd : Hid (n0 ≤ bx ∧ n0 ≤ by_ ∧ bx ≠ by_) := hZ (by have := Hxy.o; have := Hsz.o; omega)
  clear Hxy
  go_wp2_with fail
  obtain ⟨w3, hwd⟩ : ∃ w', w2.drew = w' := ⟨_, rfl⟩
  have hB := dB hwd
  replace Rr := hZ (Rr.o.blw hB)
  replace Ra := hZ (Ra.o.blw hB)
  replace Oq := hZ (Oq.o.blw hB)
  replace Oa := hZ (Oa.o.blw hB)
  replace Fm := hZ (Fm.o.blw hB)
  replace F1 := hZ (F1.o.blw hB)
  replace F2 := hZ (F2.o.blw hB)
  replace F3 := hZ (F3.o.blw hB)
  replace F4 := hZ (F4.o.blw hB)
  replace Fx := hZ (Fx.o.blw hB)
  replace Fy := hZ (Fy.o.blw hB)
  replace HO := hZ (HO.o.blw hB)
  clear hB
  have HBr : Hid (Only (fun b => False) w3 w3) := hZ (Only.refl _ _)
  refine startL [12] (fun w' => Only (fun b => False) w3 w') (by kernel_rfl) (by rw [hwd]; exact Only.refl _ _) (fun hHeld => ?_)
  rw [hwd] at hHeld ⊢
  clear hwd
  have dor := Oq.o.cell
  obtain ⟨s_p, a_p, n_p, c_p, t_p, h_p⟩ := F1.o
  have d0p := t_p.cell0
  have d1p := t_p.cell1
  have Vp := hZ h_p
  clear t_p h_p
  obtain ⟨s_u, a_u, n_u, c_u, t_u, h_u⟩ := Fx.o
  have d0u := t_u.cell0
  have d1u := t_u.cell1
  have Vu := hZ h_u
  clear t_u h_u
  obtain ⟨s_q, a_q, n_q, c_q, t_q, h_q⟩ := F2.o
  have d0q := t_q.cell0
  have d1q := t_q.cell1
  have Vq := hZ h_q
  clear t_q h_q
  obtain ⟨s_v, a_v, n_v, c_v, t_v, h_v⟩ := Fy.o
  have d0v := t_v.cell0
  have d1v := t_v.cell1
  have Vv := hZ h_v
  clear t_v h_v
  obtain ⟨s_m, a_m, n_m, c_m, t_m, h_m⟩ := Fm.o
  have d0m := t_m.cell0
  have d1m := t_m.cell1
  have Vm := hZ h_m
  clear t_m h_m
  refine tP 0 23 (v := ?_) rfl rfl ?_ ?_
  rotate_left
  ·(intro w hSw; have x0 := (hSw.cell (p := ⟨br, 0, none⟩) (fun h => h) Oq.o.lt).trans dor; go_simp; first | done | with_reducible rfl)
  simp only [sX1, sX2, sX3]
  refine pP 1 24 (v := ?_) rfl rfl ?_ ?_
  rotate_left
  ·(intro w; go_simp; first | done | with_reducible rfl)
  simp only [sX1, sX2, sX3]
  refine tP 2 25 (v := ?_) rfl rfl ?_ ?_
  rotate_left
  ·(intro w hSw; have x0 := (hSw.cell (p := ⟨n0, 0, none⟩) (fun h => h) F1.o.lt).trans d0p; have x1 := (hSw.cell (p := ⟨n0, 1, none⟩) (fun h => h) F1.o.lt).trans d1p; go_simp; first | done | with_reducible rfl)
  simp only [sX1, sX2, sX3]
  refine tP 3 26 (v := ?_) rfl rfl ?_ ?_
  rotate_left
  ·(intro w hSw; have x0 := (hSw.cell (p := ⟨bx, 0, none⟩) (fun h => h) Fx.o.lt).trans d0u; have x1 := (hSw.cell (p := ⟨bx, 1, none⟩) (fun h => h) Fx.o.lt).trans d1u; go_simp; first | done | with_reducible rfl)
  simp only [sX1, sX2, sX3]
  refine tP 5 28 (v := ?_) rfl rfl ?_ ?_
  rotate_left
  ·(intro w hSw; have x0 := (hSw.cell (p := ⟨n0 + 1, 0, none⟩) (fun h => h) F2.o.lt).trans d0q; have x1 := (hSw.cell (p := ⟨n0 + 1, 1, none⟩) (fun h => h) F2.o.lt).trans d1q; go_simp; first | done | with_reducible rfl)
  simp only [sX1, sX2, sX3]
  refine tP 6 29 (v := ?_) rfl rfl ?_ ?_
  rotate_left
  ·(intro w hSw; have x0 := (hSw.cell (p := ⟨by_, 0, none⟩) (fun h => h) Fy.o.lt).trans d0v; have x1 := (hSw.cell (p := ⟨by_, 1, none⟩) (fun h => h) Fy.o.lt).trans d1v; go_simp; first | done | with_reducible rfl)
  simp only [sX1, sX2, sX3]
  refine tP 9 32 (v := ?_) rfl rfl ?_ ?_
  rotate_left
  ·(intro w hSw; have x0 := (hSw.cell (p := ⟨bm, 0, none⟩) (fun h => h) Fm.o.lt).trans d0m; have x1 := (hSw.cell (p := ⟨bm, 1, none⟩) (fun h => h) Fm.o.lt).trans d1m; go_simp; first | done | with_reducible rfl)
  simp only [sX1, sX2, sX3]
  clear d0p d1p d0u d1u d0q d1q d0v d1v d0m d1m
  clear dor
  refine stepL 4 (by kernel_rfl) rfl (fun K hK => ?_)
  go_simp
  refine (times_b (w := w3) Vp.o Vu.o Sa.o Sx.o (by omega)).mono ?_
  rintro e w4 ⟨s_r, a_r, n_r, c_r, rfl, h_r, hB⟩
  have Vr := hZ h_r
  replace HBr := oT HBr hB
  replace Rr := hZ (Rr.o.blw hB)
  replace Ra := hZ (Ra.o.blw hB)
  replace Oq := hZ (Oq.o.blw hB)
  replace Oa := hZ (Oa.o.blw hB)
  replace Fm := hZ (Fm.o.blw hB)
  replace F1 := hZ (F1.o.blw hB)
  replace F2 := hZ (F2.o.blw hB)
  replace F3 := hZ (F3.o.blw hB)
  replace F4 := hZ (F4.o.blw hB)
  replace Fx := hZ (Fx.o.blw hB)
  replace Fy := hZ (Fy.o.blw hB)
  replace Vp := hZ (Vp.o.blw hB)
  replace Vu := hZ (Vu.o.blw hB)
  replace Vq := hZ (Vq.o.blw hB)
  replace Vv := hZ (Vv.o.blw hB)
  replace Vm := hZ (Vm.o.blw hB)
  replace HO := hZ (HO.o.blw hB)
  clear hB
  clear h_r
  refine hK.out _ _ HBr.o (fun hHeld => ?_)
  clear hK K
  try simp only [Act.put, sX1, sX2, sX3]
  refine stepL 7 (by kernel_rfl) rfl (fun K hK => ?_)
  go_simp
  refine (times_b (w := w4) Vq.o Vv.o Sb.o Sy.o (by omega)).mono ?_
  rintro e w5 ⟨s_s, a_s, n_s, c_s, rfl, h_s, hB⟩
  have Vs := hZ h_s
  replace HBr := oT HBr hB
  replace Rr := hZ (Rr.o.blw hB)
  replace Ra := hZ (Ra.o.blw hB)
  replace Oq := hZ (Oq.o.blw hB)
  replace Oa := hZ (Oa.o.blw hB)
  replace Fm := hZ (Fm.o.blw hB)
  replace F1 := hZ (F1.o.blw hB)
  replace F2 := hZ (F2.o.blw hB)
  replace F3 := hZ (F3.o.blw hB)
  replace F4 := hZ (F4.o.blw hB)
  replace Fx := hZ (Fx.o.blw hB)
  replace Fy := hZ (Fy.o.blw hB)
  replace Vp := hZ (Vp.o.blw hB)
  replace Vu := hZ (Vu.o.blw hB)
  replace Vq := hZ (Vq.o.blw hB)
  replace Vv := hZ (Vv.o.blw hB)
  replace Vm := hZ (Vm.o.blw hB)
  replace Vr := hZ (Vr.o.blw hB)
  replace HO := hZ (HO.o.blw hB)
  clear hB
  clear h_s
  refine hK.out _ _ HBr.o (fun hHeld => ?_)
  clear hK K
  try simp only [Act.put, sX1, sX2, sX3]
  refine stepL 8 (by kernel_rfl) rfl (fun K hK => ?_)
  go_simp
  refine (plus_b (w := w5) (k := 8200) Vr.o Vs.o (Sa.o.mul Sx.o) (Sb.o.mul Sy.o) (by omega)).mono ?_
  rintro e w6 ⟨s_t, a_t, n_t, c_t, rfl, h_t, hB⟩
  have Vt := hZ h_t
  replace HBr := oT HBr hB
  replace Rr := hZ (Rr.o.blw hB)
  replace Ra := hZ (Ra.o.blw hB)
  replace Oq := hZ (Oq.o.blw hB)
  replace Oa := hZ (Oa.o.blw hB)
  replace Fm := hZ (Fm.o.blw hB)
  replace F1 := hZ (F1.o.blw hB)
  replace F2 := hZ (F2.o.blw hB)
  replace F3 := hZ (F3.o.blw hB)
  replace F4 := hZ (F4.o.blw hB)
  replace Fx := hZ (Fx.o.blw hB)
  replace Fy := hZ (Fy.o.blw hB)
  replace Vp := hZ (Vp.o.blw hB)
  replace Vu := hZ (Vu.o.blw hB)
  replace Vq := hZ (Vq.o.blw hB)
  replace Vv := hZ (Vv.o.blw hB)
  replace Vm := hZ (Vm.o.blw hB)
  replace Vr := hZ (Vr.o.blw hB)
  replace Vs := hZ (Vs.o.blw hB)
  replace HO := hZ (HO.o.blw hB)
  clear hB
  clear h_t
  refine hK.out _ _ HBr.o (fun hHeld => ?_)
  clear hK K
  try simp only [Act.put, sX1, sX2, sX3]
  refine stepL 10 (by kernel_rfl) rfl (fun K hK => ?_)
  go_simp
  refine (modulo_b (w := w6) (k := 8201) (l := 4100) Vt.o Vm.o ((Sa.o.mul Sx.o).add (Sb.o.mul Sy.o)) Sm.o hm (by omega) (by omega)).mono ?_
  rintro e w7 ⟨s_z, a_z, n_z, c_z, rfl, h_z, hB⟩
  have Vz := hZ h_z
  replace HBr := oT HBr hB
  replace Rr := hZ (Rr.o.blw hB)
  replace Ra := hZ (Ra.o.blw hB)
  replace Oq := hZ (Oq.o.blw hB)
  replace Oa := hZ (Oa.o.blw hB)
  replace Fm := hZ (Fm.o.blw hB)
  replace F1 := hZ (F1.o.blw hB)
  replace F2 := hZ (F2.o.blw hB)
  replace F3 := hZ (F3.o.blw hB)
  replace F4 := hZ (F4.o.blw hB)
  replace Fx := hZ (Fx.o.blw hB)
  replace Fy := hZ (Fy.o.blw hB)
  replace Vp := hZ (Vp.o.blw hB)
  replace Vu := hZ (Vu.o.blw hB)
  replace Vq := hZ (Vq.o.blw hB)
  replace Vv := hZ (Vv.o.blw hB)
  replace Vm := hZ (Vm.o.blw hB)
  replace Vr := hZ (Vr.o.blw hB)
  replace Vs := hZ (Vs.o.blw hB)
  replace Vt := hZ (Vt.o.blw hB)
  replace HO := hZ (HO.o.blw hB)
  clear hB
  clear h_z
  refine hK.out _ _ HBr.o (fun hHeld => ?_)
  clear hK K
  try simp only [Act.put, sX1, sX2, sX3]
  refine pP 11 34 (v := ?_) rfl rfl ?_ ?_
  rotate_left
  ·(intro w; go_simp; first | done | with_reducible rfl)
  simp only [sX1, sX2, sX3]
  obtain ⟨s_9, a_9, n_9, c_9, e0, e1, -⟩ := Rr.o.get (k) Hkr.o
  have e2 := Rr.o.frozen (k * 2)
  have e3 := Rr.o.frozen (k * 2 + 1)
  have hn9 : NoInt w7 (g) := Rr.o.noInt
  obtain ⟨w8, hw⟩ : ∃ w', (w7.setCell ⟨g, k * 2, none⟩ (.bool s_z)).setCell ⟨g, k * 2 + 1, none⟩ (.slice a_z n_z c_z) = w' := ⟨_, rfl⟩
  have hw2 : st2 w7 (g) (k * 2) (k * 2 + 1) s_z a_z n_z c_z = w8 := hw
  replace Rr := hZ (WRow.put' Rr.o (k) Hkr.o Vz.o)
  rw [hw2] at Rr
  replace Ra := hZ (Ra.o.offe hw2 hn9 (by have := Hne.o; have := Hlt.o; have := Hd.o; omega))
  replace Oq := hZ (Oq.o.offe hw2 (by have := Hne.o; have := Hlt.o; have := Hd.o; omega))
  replace Oa := hZ (Oa.o.offe hw2 (by have := Hne.o; have := Hlt.o; have := Hd.o; omega))
  replace Fm := hZ (Fm.o.offe hw2 hn9 (by have := Hne.o; have := Hlt.o; have := Hd.o; omega))
  replace F1 := hZ (F1.o.offe hw2 hn9 (by have := Hne.o; have := Hlt.o; have := Hd.o; omega))
  replace F2 := hZ (F2.o.offe hw2 hn9 (by have := Hne.o; have := Hlt.o; have := Hd.o; omega))
  replace F3 := hZ (F3.o.offe hw2 hn9 (by have := Hne.o; have := Hlt.o; have := Hd.o; omega))
  replace F4 := hZ (F4.o.offe hw2 hn9 (by have := Hne.o; have := Hlt.o; have := Hd.o; omega))
  replace Fx := hZ (Fx.o.offe hw2 hn9 (by have := Hne.o; have := Hlt.o; have := Hd.o; omega))
  replace Fy := hZ (Fy.o.offe hw2 hn9 (by have := Hne.o; have := Hlt.o; have := Hd.o; omega))
  replace Vp := hZ (Vp.o.offe hw2 hn9)
  replace Vu := hZ (Vu.o.offe hw2 hn9)
  replace Vq := hZ (Vq.o.offe hw2 hn9)
  replace Vv := hZ (Vv.o.offe hw2 hn9)
  replace Vm := hZ (Vm.o.offe hw2 hn9)
  replace Vr := hZ (Vr.o.offe hw2 hn9)
  replace Vs := hZ (Vs.o.offe hw2 hn9)
  replace Vt := hZ (Vt.o.offe hw2 hn9)
  replace Vz := hZ (Vz.o.offe hw2 hn9)
  replace HO := hZ (HO.o.offe hw2 (Or.inl (Or.inl rfl)))
  clear hw2 hn9
  refine lateL 12 (by kernel_rfl) (by decide) rfl (fun K hK => ?_)
  go_simp
  try rw [hw]
  refine hK.out _ _ ?_
  clear hK K
  try simp only [Act.put, sX1, sX2, sX3]
  clear hw e0 e1 e2 e3
  refine doneL (by kernel_rfl) ?_ _
  clear hHeld
  clear Vp Vu Vq Vv Vm Vr Vs Vt Vz
  go_wp2_with fail
  obtain ⟨w9, hwd⟩ : ∃ w', w8.drew = w' := ⟨_, rfl⟩
  have hB := dB hwd
  replace Rr := hZ (Rr.o.blw hB)
  replace Ra := hZ (Ra.o.blw hB)
  replace Oq := hZ (Oq.o.blw hB)
  replace Oa := hZ (Oa.o.blw hB)
  replace Fm := hZ (Fm.o.blw hB)
  replace F1 := hZ (F1.o.blw hB)
  replace F2 := hZ (F2.o.blw hB)
  replace F3 := hZ (F3.o.blw hB)
  replace F4 := hZ (F4.o.blw hB)
  replace Fx := hZ (Fx.o.blw hB)
  replace Fy := hZ (Fy.o.blw hB)
  replace HO := hZ (HO.o.blw hB)
  clear hB
  have HBr : Hid (Only (fun b => False) w9 w9) := hZ (Only.refl _ _)
  refine startL [12] (fun w' => Only (fun b => False) w9 w') (by kernel_rfl) (by rw [hwd]; exact Only.refl _ _) (fun hHeld => ?_)
  rw [hwd] at hHeld ⊢
  clear hwd
  have dor := Oa.o.cell
  obtain ⟨s_p, a_p, n_p, c_p, t_p, h_p⟩ := F3.o
  have d0p := t_p.cell0
  have d1p := t_p.cell1
  have Vp := hZ h_p
  clear t_p h_p
  obtain ⟨s_u, a_u, n_u, c_u, t_u, h_u⟩ := Fx.o
  have d0u := t_u.cell0
  have d1u := t_u.cell1
  have Vu := hZ h_u
  clear t_u h_u
  obtain ⟨s_q, a_q, n_q, c_q, t_q, h_q⟩ := F4.o
  have d0q := t_q.cell0
  have d1q := t_q.cell1
  have Vq := hZ h_q
  clear t_q h_q
  obtain ⟨s_v, a_v, n_v, c_v, t_v, h_v⟩ := Fy.o
  have d0v := t_v.cell0
  have d1v := t_v.cell1
  have Vv := hZ h_v
  clear t_v h_v
  obtain ⟨s_m, a_m, n_m, c_m, t_m, h_m⟩ := Fm.o
  have d0m := t_m.cell0
  have d1m := t_m.cell1
  have Vm := hZ h_m
  clear t_m h_m
  refine tP 0 35 (v := ?_) rfl rfl ?_ ?_
  rotate_left
  ·(intro w hSw; have x0 := (hSw.cell (p := ⟨ba, 0, none⟩) (fun h => h) Oa.o.lt).trans dor; go_simp; first | done | with_reducible rfl)
  simp only [sX1, sX2, sX3]
  refine pP 1 36 (v := ?_) rfl rfl ?_ ?_
  rotate_left
  ·(intro w; go_simp; first | done | with_reducible rfl)
  simp only [sX1, sX2, sX3]
  refine tP 2 37 (v := ?_) rfl rfl ?_ ?_
  rotate_left
  ·(intro w hSw; have x0 := (hSw.cell (p := ⟨n0 + 1 + 1, 0, none⟩) (fun h => h) F3.o.lt).trans d0p; have x1 := (hSw.cell (p := ⟨n0 + 1 + 1, 1, none⟩) (fun h => h) F3.o.lt).trans d1p; go_simp; first | done | with_reducible rfl)
  simp only [sX1, sX2, sX3]
  refine tP 3 38 (v := ?_) rfl rfl ?_ ?_
  rotate_left
  ·(intro w hSw; have x0 := (hSw.cell (p := ⟨bx, 0, none⟩) (fun h => h) Fx.o.lt).trans d0u; have x1 := (hSw.cell (p := ⟨bx, 1, none⟩) (fun h => h) Fx.o.lt).trans d1u; go_simp; first | done | with_reducible rfl)
  simp only [sX1, sX2, sX3]
  refine tP 5 40 (v := ?_) rfl rfl ?_ ?_
  rotate_left
  ·(intro w hSw; have x0 := (hSw.cell (p := ⟨n0 + 1 + 1 + 1, 0, none⟩) (fun h => h) F4.o.lt).trans d0q; have x1 := (hSw.cell (p := ⟨n0 + 1 + 1 + 1, 1, none⟩) (fun h => h) F4.o.lt).trans d1q; go_simp; first | done | with_reducible rfl)
  simp only [sX1, sX2, sX3]
  refine tP 6 41 (v := ?_) rfl rfl ?_ ?_
  rotate_left
  ·(intro w hSw; have x0 := (hSw.cell (p := ⟨by_, 0, none⟩) (fun h => h) Fy.o.lt).trans d0v; have x1 := (hSw.cell (p := ⟨by_, 1, none⟩) (fun h => h) Fy.o.lt).trans d1v; go_simp; first | done | with_reducible rfl)
  simp only [sX1, sX2, sX3]
  refine tP 9 44 (v := ?_) rfl rfl ?_ ?_
  rotate_left
  ·(intro w hSw; have x0 := (hSw.cell (p := ⟨bm, 0, none⟩) (fun h => h) Fm.o.lt).trans d0m; have x1 := (hSw.cell (p := ⟨bm, 1, none⟩) (fun h => h) Fm.o.lt).trans d1m; go_simp; first | done | with_reducible rfl)
  simp only [sX1, sX2, sX3]
  clear d0p d1p d0u d1u d0q d1q d0v d1v d0m d1m
  clear dor
  refine stepL 4 (by kernel_rfl) rfl (fun K hK => ?_)
  go_simp
  refine (times_b (w := w9) Vp.o Vu.o Sc.o Sx.o (by omega)).mono ?_
  rintro e w10 ⟨s_r, a_r, n_r, c_r, rfl, h_r, hB⟩
  have Vr := hZ h_r
  replace HBr := oT HBr hB
  replace Rr := hZ (Rr.o.blw hB)
  replace Ra := hZ (Ra.o.blw hB)
  replace Oq := hZ (Oq.o.blw hB)
  replace Oa := hZ (Oa.o.blw hB)
  replace Fm := hZ (Fm.o.blw hB)
  replace F1 := hZ (F1.o.blw hB)
  replace F2 := hZ (F2.o.blw hB)
  replace F3 := hZ (F3.o.blw hB)
  replace F4 := hZ (F4.o.blw hB)
  replace Fx := hZ (Fx.o.blw hB)
  replace Fy := hZ (Fy.o.blw hB)
  replace Vp := hZ (Vp.o.blw hB)
  replace Vu := hZ (Vu.o.blw hB)
  replace Vq := hZ (Vq.o.blw hB)
  replace Vv := hZ (Vv.o.blw hB)
  replace Vm := hZ (Vm.o.blw hB)
  replace HO := hZ (HO.o.blw hB)
  clear hB
  clear h_r
  refine hK.out _ _ HBr.o (fun hHeld => ?_)
  clear hK K
  try simp only [Act.put, sX1, sX2, sX3]
  refine stepL 7 (by kernel_rfl) rfl (fun K hK => ?_)
  go_simp
  refine (times_b (w := w10) Vq.o Vv.o Sd.o Sy.o (by omega)).mono ?_
  rintro e w11 ⟨s_s, a_s, n_s, c_s, rfl, h_s, hB⟩
  have Vs := hZ h_s
  replace HBr := oT HBr hB
  replace Rr := hZ (Rr.o.blw hB)
  replace Ra := hZ (Ra.o.blw hB)
  replace Oq := hZ (Oq.o.blw hB)
  replace Oa := hZ (Oa.o.blw hB)
  replace Fm := hZ (Fm.o.blw hB)
  replace F1 := hZ (F1.o.blw hB)
  replace F2 := hZ (F2.o.blw hB)
  replace F3 := hZ (F3.o.blw hB)
  replace F4 := hZ (F4.o.blw hB)
  replace Fx := hZ (Fx.o.blw hB)
  replace Fy := hZ (Fy.o.blw hB)
  replace Vp := hZ (Vp.o.blw hB)
  replace Vu := hZ (Vu.o.blw hB)
  replace Vq := hZ (Vq.o.blw hB)
  replace Vv := hZ (Vv.o.blw hB)
  replace Vm := hZ (Vm.o.blw hB)
  replace Vr := hZ (Vr.o.blw hB)
  replace HO := hZ (HO.o.blw hB)
  clear hB
  clear h_s
  refine hK.out _ _ HBr.o (fun hHeld => ?_)
  clear hK K
  try simp only [Act.put, sX1, sX2, sX3]
  refine stepL 8 (by kernel_rfl) rfl (fun K hK => ?_)
  go_simp
  refine (plus_b (w := w11) (k := 8200) Vr.o Vs.o (Sc.o.mul Sx.o) (Sd.o.mul Sy.o) (by omega)).mono ?_
  rintro e w12 ⟨s_t, a_t, n_t, c_t, rfl, h_t, hB⟩
  have Vt := hZ h_t
  replace HBr := oT HBr hB
  replace Rr := hZ (Rr.o.blw hB)
  replace Ra := hZ (Ra.o.blw hB)
  replace Oq := hZ (Oq.o.blw hB)
  replace Oa := hZ (Oa.o.blw hB)
  replace Fm := hZ (Fm.o.blw hB)
  replace F1 := hZ (F1.o.blw hB)
  replace F2 := hZ (F2.o.blw hB)
  replace F3 := hZ (F3.o.blw hB)
  replace F4 := hZ (F4.o.blw hB)
  replace Fx := hZ (Fx.o.blw hB)
  replace Fy := hZ (Fy.o.blw hB)
  replace Vp := hZ (Vp.o.blw hB)
  replace Vu := hZ (Vu.o.blw hB)
  replace Vq := hZ (Vq.o.blw hB)
  replace Vv := hZ (Vv.o.blw hB)
  replace Vm := hZ (Vm.o.blw hB)
  replace Vr := hZ (Vr.o.blw hB)
  replace Vs := hZ (Vs.o.blw hB)
  replace HO := hZ (HO.o.blw hB)
  clear hB
  clear h_t
  refine hK.out _ _ HBr.o (fun hHeld => ?_)
  clear hK K
  try simp only [Act.put, sX1, sX2, sX3]
  refine stepL 10 (by kernel_rfl) rfl (fun K hK => ?_)
  go_simp
  refine (modulo_b (w := w12) (k := 8201) (l := 4100) Vt.o Vm.o ((Sc.o.mul Sx.o).add (Sd.o.mul Sy.o)) Sm.o hm (by omega) (by omega)).mono ?_
  rintro e w13 ⟨s_z, a_z, n_z, c_z, rfl, h_z, hB⟩
  have Vz := hZ h_z
  replace HBr := oT HBr hB
  replace Rr := hZ (Rr.o.blw hB)
  replace Ra := hZ (Ra.o.blw hB)
  replace Oq := hZ (Oq.o.blw hB)
  replace Oa := hZ (Oa.o.blw hB)
  replace Fm := hZ (Fm.o.blw hB)
  replace F1 := hZ (F1.o.blw hB)
  replace F2 := hZ (F2.o.blw hB)
  replace F3 := hZ (F3.o.blw hB)
  replace F4 := hZ (F4.o.blw hB)
  replace Fx := hZ (Fx.o.blw hB)
  replace Fy := hZ (Fy.o.blw hB)
  replace Vp := hZ (Vp.o.blw hB)
  replace Vu := hZ (Vu.o.blw hB)
  replace Vq := hZ (Vq.o.blw hB)
  replace Vv := hZ (Vv.o.blw hB)
  replace Vm := hZ (Vm.o.blw hB)
  replace Vr := hZ (Vr.o.blw hB)
  replace Vs := hZ (Vs.o.blw hB)
  replace Vt := hZ (Vt.o.blw hB)
  replace HO := hZ (HO.o.blw hB)
  clear hB
  clear h_z
  refine hK.out _ _ HBr.o (fun hHeld => ?_)
  clear hK K
  try simp only [Act.put, sX1, sX2, sX3]
  refine pP 11 46 (v := ?_) rfl rfl ?_ ?_
  rotate_left
  ·(intro w; go_simp; first | done | with_reducible rfl)
  simp only [sX1, sX2, sX3]
  obtain ⟨s_9, a_9, n_9, c_9, e0, e1, -⟩ := Ra.o.get (k) Hka.o
  have e2 := Ra.o.frozen (k * 2)
  have e3 := Ra.o.frozen (k * 2 + 1)
  have hn9 : NoInt w13 (ga) := Ra.o.noInt
  obtain ⟨w14, hw⟩ : ∃ w', (w13.setCell ⟨ga, k * 2, none⟩ (.bool s_z)).setCell ⟨ga, k * 2 + 1, none⟩ (.slice a_z n_z c_z) = w' := ⟨_, rfl⟩
  have hw2 : st2 w13 (ga) (k * 2) (k * 2 + 1) s_z a_z n_z c_z = w14 := hw
  replace Ra := hZ (WRow.put' Ra.o (k) Hka.o Vz.o)
  rw [hw2] at Ra
  replace Rr := hZ (Rr.o.offe hw2 hn9 (by have := Hne.o; have := Hlt.o; have := Hd.o; omega))
  replace Oq := hZ (Oq.o.offe hw2 (by have := Hne.o; have := Hlt.o; have := Hd.o; omega))
  replace Oa := hZ (Oa.o.offe hw2 (by have := Hne.o; have := Hlt.o; have := Hd.o; omega))
  replace Fm := hZ (Fm.o.offe hw2 hn9 (by have := Hne.o; have := Hlt.o; have := Hd.o; omega))
  replace F1 := hZ (F1.o.offe hw2 hn9 (by have := Hne.o; have := Hlt.o; have := Hd.o; omega))
  replace F2 := hZ (F2.o.offe hw2 hn9 (by have := Hne.o; have := Hlt.o; have := Hd.o; omega))
  replace F3 := hZ (F3.o.offe hw2 hn9 (by have := Hne.o; have := Hlt.o; have := Hd.o; omega))
  replace F4 := hZ (F4.o.offe hw2 hn9 (by have := Hne.o; have := Hlt.o; have := Hd.o; omega))
  replace Fx := hZ (Fx.o.offe hw2 hn9 (by have := Hne.o; have := Hlt.o; have := Hd.o; omega))
  replace Fy := hZ (Fy.o.offe hw2 hn9 (by have := Hne.o; have := Hlt.o; have := Hd.o; omega))
  replace Vp := hZ (Vp.o.offe hw2 hn9)
  replace Vu := hZ (Vu.o.offe hw2 hn9)
  replace Vq := hZ (Vq.o.offe hw2 hn9)
  replace Vv := hZ (Vv.o.offe hw2 hn9)
  replace Vm := hZ (Vm.o.offe hw2 hn9)
  replace Vr := hZ (Vr.o.offe hw2 hn9)
  replace Vs := hZ (Vs.o.offe hw2 hn9)
  replace Vt := hZ (Vt.o.offe hw2 hn9)
  replace Vz := hZ (Vz.o.offe hw2 hn9)
  replace HO := hZ (HO.o.offe hw2 (Or.inl (Or.inr rfl)))
  clear hw2 hn9
  refine lateL 12 (by kernel_rfl) (by decide) rfl (fun K hK => ?_)
  go_simp
  try rw [hw]
  refine hK.out _ _ ?_
  clear hK K
  try simp only [Act.put, sX1, sX2, sX3]
  clear hw e0 e1 e2 e3
  refine doneL (by kernel_rfl) ?_ _
  clear hHeld
  clear Vp Vu Vq Vv Vm Vr Vs Vt Vz
  go_wp2_with fail
  go_end0
  exact ⟨⟨_, rfl⟩, Rr.o, Ra.o, HO.o⟩
end Go.Proofs.Ytlmbebbdamgfpaa
