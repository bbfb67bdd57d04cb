/- Sizes of integers by exponents; wide.Int variables in memory. -/
import Derived.Test.YtlmbebbdamgfpaaQULMat
import Derived.Test.YtlmbebbdamgfpaaQUWDiv
import Derived.Test.YtlmbebbdamgfpaaQUWQuo
import Derived.Test.YtlmbebbdamgfpaaQURegFork
set_option linter.unusedVariables false
set_option linter.unusedSimpArgs false
set_option linter.unusedVariables false
set_option linter.unusedSimpArgs false
namespace Go.Proofs.Ytlmbebbdamgfpaa
open Go.RowKit

/-- a call that answers a wide integer -/
def WRet (z : Int) (w : World) (e : Ending) (w' : World) : Prop :=
 ∃ a n c, e = .returned (.agg #[.bool (decide (z < 0)), .slice a n c]) ∧ WInt w' (.agg #[.bool (decide (z < 0)), .slice a n c]) z ∧ Below w.heap.size w w'

theorem Two.setB {w : World} {b : Nat} {t : TypeId} {x y : Value} (h : Two w b t x y) (u v : Value) : Two ((w.setCell ⟨b, 0, none⟩ u).setCell ⟨b, 1, none⟩ v) b t u v := by
 unfold Two at h ⊢
 simp [World.setCell, Array.getElem?_modify, h]
theorem LOps_ret {P : Program} {f : Func} {z : Int} {w w2 w3 : World} {n : Nat} {sp : Bool} {pa : Option Addr} {pn pc : Nat} {a : Act} (h2 : Below n w w2) (h3 : Below w2.heap.size w2 w3) (hs : n + 1 + 1 + 1 ≤ w2.heap.size)
 (ht : Two w3 (n + 1 + 1) 58 (.bool false) (.slice none 0 0)) (hm : MagAt w2 (.slice pa pn pc) z.natAbs) (hz : decide (z < 0) = sp) (hn : w.heap.size = n)
 (hr : ∀ W : World, W.cell? ⟨n + 1 + 1, 0, none⟩ = some (.bool sp) → W.cell? ⟨n + 1 + 1, 1, none⟩ = some (.slice pa pn pc) → (results f a.tmps).run P W = .ok (Value.agg #[.bool sp, .slice pa pn pc]) W) (hd : a.defers = []) :
 bodyPost P f (WRet z w) .ret a ((w3.setCell ⟨n + 1 + 1, 0, none⟩ (.bool sp)).setCell ⟨n + 1 + 1, 1, none⟩ (.slice pa pn pc)) := by
 have hz2 := (ht.setB (.bool sp) (.slice pa pn pc))
 refine bodyPost_ret (v := .agg #[.bool sp, .slice pa pn pc]) (hr _ hz2.cell0 hz2.cell1) hd ⟨pa, pn, pc, by rw [hz], ?_, ?_⟩
 ·rw [hz]
  have h5 : RowAt .u32 w3 _ _ := RowAt.below hm (Nat.le_refl _) h3
  exact ⟨_, by rw [hz], RowAt.store_two h5 ht (fun _ _ h => by cases h) (fun _ _ h => by cases h) _ _⟩
 ·rw [hn]
  exact ((h2.trans (h3.mono (by omega))).setCell (p := ⟨n + 1 + 1, 0, none⟩) (by show n ≤ n + 1 + 1; omega) _).setCell (p := ⟨n + 1 + 1, 1, none⟩) (by show n ≤ n + 1 + 1; omega) _
set_option maxHeartbeats 4000000 in
theorem ltimes_any (vx vy : Value) (x y : Int) (w : World) (hx : WInt w vx x) (hy : WInt w vy y) (hlx : x.natAbs < LIM) (hly : y.natAbs < LIM) (hl : (x * y).natAbs < LIM) :
 Calls Try.prog 46 #[vx, vy] w (WRet (x * y) w) := by
 obtain ⟨ax, nx, cx, rfl, hmx⟩ := hx.form
 obtain ⟨ay, ny, cy, rfl, hmy⟩ := hy.form
 obtain ⟨n, hn⟩ : ∃ n, w.heap.size = n := ⟨_, rfl⟩
 have Hn := Lib.hid hn
 obtain ⟨W, hW, t1, t2, t3, hBW, hsW⟩ := boxes3 w 58 (.bool (decide (x < 0))) (.slice ax nx cx) (.bool (decide (y < 0))) (.slice ay ny cy) (.bool false) (.slice none 0 0) n hn
 have Hm := Lib.hid (mul_any _ _ x y W (hx.below' (Nat.le_of_eq hn) hBW) (hy.below' (Nat.le_of_eq hn) hBW) hlx hly)
 clear hx hy hmx hmy hlx hly
 generalize decide (x < 0) = sx at *
 generalize decide (y < 0) = sy at *
 have HBW := Lib.hid hBW
 have T3 := Lib.hid t3
 have d0 := t1.cell0
 have d1 := t1.cell1
 have d2 := t2.cell0
 have d3 := t2.cell1
 clear t1 t2 t3 hBW
 go_enter Try.func46, Try.ntmps46
 go_wp2_with fail
 clear hW
 refine Hm.out.mono ?_
 rintro e w2 hP
 obtain ⟨pa, pn, pc, rfl, hPm, hB2⟩ := hP.ok hl
 have HB2 := Lib.hid (HBW.out.trans (hB2.mono (by omega)))
 have T32 := T3.out.below hB2 (by omega)
 have HT3 := Lib.hid T32
 have HP := Lib.hid hPm
 have HS2 := Lib.hid (show n + 1 + 1 + 1 ≤ w2.heap.size by have := hB2.size; omega)
 generalize hsp : decide (x * y < 0) = sp at *
 obtain ⟨w3, hw3⟩ : ∃ W3, w2.alloc (.cells #[.bool sp, .slice pa pn pc] 58) = W3 := ⟨_, rfl⟩
 have HB3 : Hid (Below w2.heap.size w2 w3) := Lib.hid (by rw [← hw3]; exact (Below.refl _ _).alloc (Nat.le_refl _) _)
 have T5 : Two w3 w2.heap.size 58 (.bool sp) (.slice pa pn pc) := by rw [← hw3]; exact Two.new _ _ _ _
 have p0 := T5.cell0
 have p1 := T5.cell1
 have T33 := T32.below HB3.out (by have := HS2.out; omega)
 have g0 := T33.cell0
 have g1 := T33.cell1
 have f0 := T33.frozen 0
 have f1 := T33.frozen 1
 have HT33 := Lib.hid T33
 clear hP hPm hB2 T32 T5 T33 d0 d1 d2 d3 T3
 go_wp2_with fail
 exact LOps_ret HB2.out HB3.out HS2.out HT33.out HP.out hsp Hn.out (by intro W2 h0 h1; simp [results, Try.results46, go_sem, h0, h1]) rfl

set_option maxHeartbeats 4000000 in
theorem lplus_any (vx vy : Value) (x y : Int) (w : World) (hx : WInt w vx x) (hy : WInt w vy y) (hlx : x.natAbs < LIM) (hly : y.natAbs < LIM) (hl : (x + y).natAbs < LIM) :
 Calls Try.prog 79 #[vx, vy] w (WRet (x + y) w) := by
 obtain ⟨ax, nx, cx, rfl, hmx⟩ := hx.form
 obtain ⟨ay, ny, cy, rfl, hmy⟩ := hy.form
 obtain ⟨n, hn⟩ : ∃ n, w.heap.size = n := ⟨_, rfl⟩
 have Hn := Lib.hid hn
 obtain ⟨W, hW, t1, t2, t3, hBW, hsW⟩ := boxes3 w 58 (.bool (decide (x < 0))) (.slice ax nx cx) (.bool (decide (y < 0))) (.slice ay ny cy) (.bool false) (.slice none 0 0) n hn
 have Hm := Lib.hid (add_any _ _ x y W (hx.below' (Nat.le_of_eq hn) hBW) (hy.below' (Nat.le_of_eq hn) hBW) hlx hly)
 clear hx hy hmx hmy hlx hly
 generalize decide (x < 0) = sx at *
 generalize decide (y < 0) = sy at *
 have HBW := Lib.hid hBW
 have T3 := Lib.hid t3
 have d0 := t1.cell0
 have d1 := t1.cell1
 have d2 := t2.cell0
 have d3 := t2.cell1
 clear t1 t2 t3 hBW
 go_enter Try.func79, Try.ntmps79
 go_wp2_with fail
 clear hW
 refine Hm.out.mono ?_
 rintro e w2 hP
 obtain ⟨pa, pn, pc, rfl, hPm, hB2⟩ := hP.ok hl
 have HB2 := Lib.hid (HBW.out.trans (hB2.mono (by omega)))
 have T32 := T3.out.below hB2 (by omega)
 have HT3 := Lib.hid T32
 have HP := Lib.hid hPm
 have HS2 := Lib.hid (show n + 1 + 1 + 1 ≤ w2.heap.size by have := hB2.size; omega)
 generalize hsp : decide (x + y < 0) = sp at *
 obtain ⟨w3, hw3⟩ : ∃ W3, w2.alloc (.cells #[.bool sp, .slice pa pn pc] 58) = W3 := ⟨_, rfl⟩
 have HB3 : Hid (Below w2.heap.size w2 w3) := Lib.hid (by rw [← hw3]; exact (Below.refl _ _).alloc (Nat.le_refl _) _)
 have T5 : Two w3 w2.heap.size 58 (.bool sp) (.slice pa pn pc) := by rw [← hw3]; exact Two.new _ _ _ _
 have p0 := T5.cell0
 have p1 := T5.cell1
 have T33 := T32.below HB3.out (by have := HS2.out; omega)
 have g0 := T33.cell0
 have g1 := T33.cell1
 have f0 := T33.frozen 0
 have f1 := T33.frozen 1
 have HT33 := Lib.hid T33
 clear hP hPm hB2 T32 T5 T33 d0 d1 d2 d3 T3
 go_wp2_with fail
 exact LOps_ret HB2.out HB3.out HS2.out HT33.out HP.out hsp Hn.out (by intro W2 h0 h1; simp [results, Try.results79, go_sem, h0, h1]) rfl

set_option maxHeartbeats 4000000 in
theorem lminus_any (vx vy : Value) (x y : Int) (w : World) (hx : WInt w vx x) (hy : WInt w vy y) (hlx : x.natAbs < LIM) (hly : y.natAbs < LIM) (hl : (x - y).natAbs < LIM) :
 Calls Try.prog 45 #[vx, vy] w (WRet (x - y) w) := by
 obtain ⟨ax, nx, cx, rfl, hmx⟩ := hx.form
 obtain ⟨ay, ny, cy, rfl, hmy⟩ := hy.form
 obtain ⟨n, hn⟩ : ∃ n, w.heap.size = n := ⟨_, rfl⟩
 have Hn := Lib.hid hn
 obtain ⟨W, hW, t1, t2, t3, hBW, hsW⟩ := boxes3 w 58 (.bool (decide (x < 0))) (.slice ax nx cx) (.bool (decide (y < 0))) (.slice ay ny cy) (.bool false) (.slice none 0 0) n hn
 have Hm := Lib.hid (sub_any _ _ x y W (hx.below' (Nat.le_of_eq hn) hBW) (hy.below' (Nat.le_of_eq hn) hBW) hlx hly)
 clear hx hy hmx hmy hlx hly
 generalize decide (x < 0) = sx at *
 generalize decide (y < 0) = sy at *
 have HBW := Lib.hid hBW
 have T3 := Lib.hid t3
 have d0 := t1.cell0
 have d1 := t1.cell1
 have d2 := t2.cell0
 have d3 := t2.cell1
 clear t1 t2 t3 hBW
 go_enter Try.func45, Try.ntmps45
 go_wp2_with fail
 clear hW
 refine Hm.out.mono ?_
 rintro e w2 hP
 obtain ⟨pa, pn, pc, rfl, hPm, hB2⟩ := hP.ok hl
 have HB2 := Lib.hid (HBW.out.trans (hB2.mono (by omega)))
 have T32 := T3.out.below hB2 (by omega)
 have HT3 := Lib.hid T32
 have HP := Lib.hid hPm
 have HS2 := Lib.hid (show n + 1 + 1 + 1 ≤ w2.heap.size by have := hB2.size; omega)
 generalize hsp : decide (x - y < 0) = sp at *
 obtain ⟨w3, hw3⟩ : ∃ W3, w2.alloc (.cells #[.bool sp, .slice pa pn pc] 58) = W3 := ⟨_, rfl⟩
 have HB3 : Hid (Below w2.heap.size w2 w3) := Lib.hid (by rw [← hw3]; exact (Below.refl _ _).alloc (Nat.le_refl _) _)
 have T5 : Two w3 w2.heap.size 58 (.bool sp) (.slice pa pn pc) := by rw [← hw3]; exact Two.new _ _ _ _
 have p0 := T5.cell0
 have p1 := T5.cell1
 have T33 := T32.below HB3.out (by have := HS2.out; omega)
 have g0 := T33.cell0
 have g1 := T33.cell1
 have f0 := T33.frozen 0
 have f1 := T33.frozen 1
 have HT33 := Lib.hid T33
 clear hP hPm hB2 T32 T5 T33 d0 d1 d2 d3 T3
 go_wp2_with fail
 exact LOps_ret HB2.out HB3.out HS2.out HT33.out HP.out hsp Hn.out (by intro W2 h0 h1; simp [results, Try.results45, go_sem, h0, h1]) rfl
end Go.Proofs.Ytlmbebbdamgfpaa
set_option linter.unusedVariables false
set_option linter.unusedSimpArgs false
namespace Go.Proofs.Ytlmbebbdamgfpaa
open Go.RowKit

set_option maxHeartbeats 4000000 in
theorem lover_any (vx vy : Value) (x y : Int) (w : World) (hx : WInt w vx x) (hy : WInt w vy y) (hlx : x.natAbs < LIM) (hly : y.natAbs < LIM) (hy0 : y ≠ 0) :
 Calls Try.prog 75 #[vx, vy] w (WRet (qOf x y) w) := by
 obtain ⟨ax, nx, cx, rfl, hmx⟩ := hx.form
 obtain ⟨ay, ny, cy, rfl, hmy⟩ := hy.form
 obtain ⟨n, hn⟩ : ∃ n, w.heap.size = n := ⟨_, rfl⟩
 have Hn := Lib.hid hn
 obtain ⟨W, hW, t1, t2, t3, hBW, hsW⟩ := boxes3 w 58 (.bool (decide (x < 0))) (.slice ax nx cx) (.bool (decide (y < 0))) (.slice ay ny cy) (.bool false) (.slice none 0 0) n hn
 have Hm := Lib.hid (div_any _ _ x y W (hx.below' (Nat.le_of_eq hn) hBW) (hy.below' (Nat.le_of_eq hn) hBW) hy0 hlx hly (divok_all (by omega) hlx hly))
 clear hx hy hmx hmy hlx hly
 generalize decide (x < 0) = sx at *
 generalize decide (y < 0) = sy at *
 have HBW := Lib.hid hBW
 have T3 := Lib.hid t3
 have d0 := t1.cell0
 have d1 := t1.cell1
 have d2 := t2.cell0
 have d3 := t2.cell1
 clear t1 t2 t3 hBW
 go_enter Try.func75, Try.ntmps75
 go_wp2_with fail
 clear hW
 refine Hm.out.mono ?_
 rintro e w2 ⟨hB2, vq, vr, rfl, hq, hr⟩
 obtain ⟨pa, pn, pc, rfl, hPm⟩ := hq.form
 obtain ⟨ra, rn, rc, rfl, -⟩ := hr.form
 have HB2 := Lib.hid (HBW.out.trans (hB2.mono (by omega)))
 have T32 := T3.out.below hB2 (by omega)
 have HP := Lib.hid hPm
 have HS2 := Lib.hid (show n + 1 + 1 + 1 ≤ w2.heap.size by have := hB2.size; omega)
 generalize hsp : decide (qOf x y < 0) = sp at *
 generalize decide ((rOf x y : Int) < 0) = sr at *
 obtain ⟨w3, hw3⟩ : ∃ W3, (w2.alloc (.cells #[.bool sp, .slice pa pn pc] 58)).alloc (.cells #[.bool sr, .slice ra rn rc] 58) = W3 := ⟨_, rfl⟩
 have HB3 : Hid (Below w2.heap.size w2 w3) := Lib.hid (by rw [← hw3]; exact ((Below.refl _ _).alloc (Nat.le_refl _) _).alloc (by simp) _)
 have T5 : Two w3 w2.heap.size 58 (.bool sp) (.slice pa pn pc) := by rw [← hw3]; exact (Two.new _ _ _ _).alloc _
 have p0 := T5.cell0
 have p1 := T5.cell1
 have T33 := T32.below HB3.out (by have := HS2.out; omega)
 have g0 := T33.cell0
 have g1 := T33.cell1
 have f0 := T33.frozen 0
 have f1 := T33.frozen 1
 have HT33 := Lib.hid T33
 clear hq hr hPm hB2 T32 T5 T33 d0 d1 d2 d3 T3
 go_wp2_with fail
 exact LOps_ret HB2.out HB3.out HS2.out HT33.out HP.out hsp Hn.out (by intro W2 h0 h1; simp [results, Try.results75, go_sem, h0, h1]) rfl

set_option maxHeartbeats 4000000 in
theorem lmodulo_any (vx vy : Value) (x y : Int) (w : World) (hx : WInt w vx x) (hy : WInt w vy y) (hlx : x.natAbs < LIM) (hly : y.natAbs < LIM) (hy0 : y ≠ 0) :
 Calls Try.prog 77 #[vx, vy] w (WRet (rOf x y : Int) w) := by
 obtain ⟨ax, nx, cx, rfl, hmx⟩ := hx.form
 obtain ⟨ay, ny, cy, rfl, hmy⟩ := hy.form
 obtain ⟨n, hn⟩ : ∃ n, w.heap.size = n := ⟨_, rfl⟩
 have Hn := Lib.hid hn
 obtain ⟨W, hW, t1, t2, t3, hBW, hsW⟩ := boxes3 w 58 (.bool (decide (x < 0))) (.slice ax nx cx) (.bool (decide (y < 0))) (.slice ay ny cy) (.bool false) (.slice none 0 0) n hn
 have Hm := Lib.hid (div_any _ _ x y W (hx.below' (Nat.le_of_eq hn) hBW) (hy.below' (Nat.le_of_eq hn) hBW) hy0 hlx hly (divok_all (by omega) hlx hly))
 clear hx hy hmx hmy hlx hly
 generalize decide (x < 0) = sx at *
 generalize decide (y < 0) = sy at *
 have HBW := Lib.hid hBW
 have T3 := Lib.hid t3
 have d0 := t1.cell0
 have d1 := t1.cell1
 have d2 := t2.cell0
 have d3 := t2.cell1
 clear t1 t2 t3 hBW
 go_enter Try.func77, Try.ntmps77
 go_wp2_with fail
 clear hW
 refine Hm.out.mono ?_
 rintro e w2 ⟨hB2, vq, vr, rfl, hq, hr⟩
 obtain ⟨ra, rn, rc, rfl, -⟩ := hq.form
 obtain ⟨pa, pn, pc, rfl, hPm⟩ := hr.form
 have HB2 := Lib.hid (HBW.out.trans (hB2.mono (by omega)))
 have T32 := T3.out.below hB2 (by omega)
 have HP := Lib.hid hPm
 have HS2 := Lib.hid (show n + 1 + 1 + 1 ≤ w2.heap.size by have := hB2.size; omega)
 generalize hsp : decide ((rOf x y : Int) < 0) = sp at *
 generalize decide (qOf x y < 0) = sr at *
 obtain ⟨w3, hw3⟩ : ∃ W3, (w2.alloc (.cells #[.bool sr, .slice ra rn rc] 58)).alloc (.cells #[.bool sp, .slice pa pn pc] 58) = W3 := ⟨_, rfl⟩
 have HB3 : Hid (Below w2.heap.size w2 w3) := Lib.hid (by rw [← hw3]; exact ((Below.refl _ _).alloc (Nat.le_refl _) _).alloc (by simp) _)
 have T5 : Two w3 (w2.heap.size + 1) 58 (.bool sp) (.slice pa pn pc) := by
  rw [← hw3]
  have h9 := Two.new (w2.alloc (.cells #[.bool sr, .slice ra rn rc] 58)) 58 (.bool sp) (.slice pa pn pc)
  simpa using h9
 have p0 := T5.cell0
 have p1 := T5.cell1
 have T33 := T32.below HB3.out (by have := HS2.out; omega)
 have g0 := T33.cell0
 have g1 := T33.cell1
 have f0 := T33.frozen 0
 have f1 := T33.frozen 1
 have HT33 := Lib.hid T33
 clear hq hr hPm hB2 T32 T5 T33 d0 d1 d2 d3 T3
 go_wp2_with fail
 exact LOps_ret HB2.out HB3.out HS2.out HT33.out HP.out hsp Hn.out (by intro W2 h0 h1; simp [results, Try.results77, go_sem, h0, h1]) rfl
end Go.Proofs.Ytlmbebbdamgfpaa
set_option linter.unusedVariables false
set_option linter.unusedSimpArgs false
namespace Go.Proofs.Ytlmbebbdamgfpaa
open Go.RowKit

/-- below 2 ^ k in absolute value -/
def Sz (k : Nat) (z : Int) : Prop := z.natAbs < 2 ^ k
theorem Sz.lim_ {k : Nat} {z : Int} (e : Nat) (he : LIM = 2 ^ e) (h : Sz k z) (hk : k ≤ e) : z.natAbs < LIM := by
 rw [he]
 exact Nat.lt_of_lt_of_le h (Nat.pow_le_pow_right (by omega) hk)
theorem Sz.lim {k : Nat} {z : Int} (h : Sz k z) (hk : k ≤ 16384) : z.natAbs < LIM := h.lim_ 16384 lim_eq hk
theorem Sz.mono {k l : Nat} {z : Int} (h : Sz k z) (hk : k ≤ l) : Sz l z := Nat.lt_of_lt_of_le h (Nat.pow_le_pow_right (by omega) hk)
theorem Sz.mul {k l : Nat} {x y : Int} (h : Sz k x) (h2 : Sz l y) : Sz (k + l) (x * y) := by
 unfold Sz at *
 rw [Int.natAbs_mul, Nat.pow_add]
 exact Nat.mul_lt_mul'' h h2
theorem Sz.add {k : Nat} {x y : Int} (h : Sz k x) (h2 : Sz k y) : Sz (k + 1) (x + y) := by
 unfold Sz at *
 rw [Nat.pow_succ]
 omega
theorem Sz.sub {k : Nat} {x y : Int} (h : Sz k x) (h2 : Sz k y) : Sz (k + 1) (x - y) := by
 unfold Sz at *
 rw [Nat.pow_succ]
 omega
theorem Sz.neg {k : Nat} {x : Int} (h : Sz k x) : Sz k (-x) := by
 unfold Sz at *
 omega
theorem Sz.of_le {k : Nat} {x y : Int} (h : Sz k x) (h2 : y.natAbs ≤ x.natAbs) : Sz k y := Nat.lt_of_le_of_lt h2 h
theorem Sz.zero (k : Nat) : Sz k 0 := by unfold Sz; exact Nat.pow_pos (by omega)
theorem Sz.one {k : Nat} (h : 0 < k) : Sz k 1 := by
 have : 2 ^ 1 ≤ 2 ^ k := Nat.pow_le_pow_right (by omega) h
 unfold Sz; omega
theorem Sz.div {k : Nat} {x y : Int} (h : Sz k x) (hy : y ≠ 0) : Sz (k + 1) (x / y) := by
 unfold Sz at *
 rw [Nat.pow_succ]
 have h1 := Int.natAbs_ediv x y
 have h2 : x.natAbs / y.natAbs ≤ x.natAbs := Nat.div_le_self _ _
 have h3 : 0 < 2 ^ k := Nat.pow_pos (by omega)
 split at h1 <;> omega
theorem Sz.mod {k : Nat} {x y : Int} (h : Sz k y) (hy : y ≠ 0) : Sz k (x % y) := by
 unfold Sz at *
 have h1 := Int.emod_nonneg x hy
 have h2 := Int.emod_lt x hy
 omega
attribute [irreducible] Sz

theorem qOf_eq (x y : Int) (hy : y ≠ 0) : qOf x y = x / y ∧ (rOf x y : Int) = x % y := by
 obtain ⟨h1, h2⟩ := div_law x y hy
 have h3 := Int.emod_add_mul_ediv x y
 rcases Int.lt_or_gt_of_ne hy with h | h
 ·have := Int.ediv_emod_unique' (a := x) (b := y) (r := (rOf x y : Int)) (q := qOf x y) h
  obtain ⟨a, b⟩ := this.2 ⟨by rw [Int.mul_comm]; omega, by omega, by omega⟩
  exact ⟨a.symm, b.symm⟩
 ·have := Int.ediv_emod_unique (a := x) (b := y) (r := (rOf x y : Int)) (q := qOf x y) h
  obtain ⟨a, b⟩ := this.2 ⟨by rw [Int.mul_comm]; omega, by omega, by omega⟩
  exact ⟨a.symm, b.symm⟩

/-- block b is a variable that holds z -/
def Bx (w : World) (b : Nat) (z : Int) : Prop := ∃ s a n c, Two w b 58 (.bool s) (.slice a n c) ∧ WInt w (.agg #[.bool s, .slice a n c]) z
section
variable {w w' : World} {b g : Nat} {z : Int}
theorem Bx.lt (h : Bx w b z) : b < w.heap.size := by obtain ⟨_, _, _, _, h, _⟩ := h; exact h.lt
theorem Bx.blw (h : Bx w b z) (hb : Below w.heap.size w w') : Bx w' b z := by
 obtain ⟨s, a, n, c, h1, h2⟩ := h
 exact ⟨s, a, n, c, h1.below hb h1.lt, h2.below hb⟩
theorem Two.noInt {t : TypeId} {x y : Value} (h : Two w b t x y) (hx : ∀ i, x ≠ .int .u32 i) (hy : ∀ i, y ≠ .int .u32 i) : NoInt w b := by
 intro o i he
 rw [cell_of_row w b o _ t (0, 0) h] at he
 match o, he with
 | 0, he => simp at he; exact hx _ he
 | 1, he => simp at he; exact hy _ he
 | o + 2, he => simp at he
theorem Bx.noInt (h : Bx w b z) : NoInt w b := by
 obtain ⟨s, a, n, c, h1, h2⟩ := h
 exact h1.noInt (fun _ h => by cases h) (fun _ h => by cases h)
theorem One.noInt {t : TypeId} {x : Value} (h : One w b t x) (hx : ∀ i, x ≠ .int .u32 i) : NoInt w b := by
 intro o i he
 rw [cell_of_row w b o _ t (0, 0) h] at he
 match o, he with
 | 0, he => simp at he; exact hx _ he
 | o + 1, he => simp at he
theorem cell_set_none {w : World} {a : Addr} {u : Value} (h : w.cell? a = none) : (w.setCell a u).cell? a = none := by
 unfold World.cell? at h ⊢
 simp only [World.setCell, Array.getElem?_modify, if_true]
 cases hh : w.heap[a.block]? with
 | none => simp
 | some x =>
  rw [hh] at h
  cases x with
  | cells c e f =>
   simp only [Option.map_some]
   split
   ·rfl
   ·next hs =>
    simp [hs] at h ⊢
    exact h
  | _ => simp
theorem NoInt.set (h : NoInt w g) (g' o : Nat) {u : Value} (hu : ∀ i, u ≠ .int .u32 i) : NoInt (w.setCell ⟨g', o, none⟩ u) g := by
 intro p x he
 by_cases e : (⟨g, p, none⟩ : Addr) = ⟨g', o, none⟩
 ·have h2 := h p x
  rw [e] at he h2
  rcases hc : w.cell? ⟨g', o, none⟩ with _ | y
  ·rw [cell_set_none hc] at he
   cases he
  ·rw [World.cell?_setCell_same _ _ _ hc] at he
   injection he with he
   exact hu _ he
 ·rw [World.cell?_setCell_other _ _ _ _ (fun h => e h.symm)] at he
  exact h p x he
theorem NoInt.below (h : NoInt w g) (hb : Below w.heap.size w w') (hg : g < w.heap.size) : NoInt w' g := by
 intro o x he
 rw [hb.cell (p := ⟨g, o, none⟩) hg] at he
 exact h o x he

/-- two cells of a block turn: an integer is stored -/
def st2 (w : World) (g o1 o2 : Nat) (s : Bool) (a : Option Addr) (n c : Nat) : World := (w.setCell ⟨g, o1, none⟩ (.bool s)).setCell ⟨g, o2, none⟩ (.slice a n c)
variable {o1 o2 : Nat} {s : Bool} {a : Option Addr} {n c : Nat}
theorem NoInt.off (h : NoInt w b) : NoInt (st2 w g o1 o2 s a n c) b := (h.set g o1 (fun _ h => by cases h)).set g o2 (fun _ h => by cases h)
theorem WInt.off {v : Value} (h : WInt w v z) (hg : NoInt w g) : WInt (st2 w g o1 o2 s a n c) v z := (h.far hg _ _).far (hg.set g o1 (fun _ h => by cases h)) _ _
theorem Two.off {t : TypeId} {x y : Value} (h : Two w b t x y) (hne : b ≠ g) : Two (st2 w g o1 o2 s a n c) b t x y :=
 (Below.heap_setCell _ ⟨g, o2, none⟩ _ b hne).trans ((Below.heap_setCell w ⟨g, o1, none⟩ _ b hne).trans h)
theorem One.off {t : TypeId} {x : Value} (h : One w b t x) (hne : b ≠ g) : One (st2 w g o1 o2 s a n c) b t x :=
 (Below.heap_setCell _ ⟨g, o2, none⟩ _ b hne).trans ((Below.heap_setCell w ⟨g, o1, none⟩ _ b hne).trans h)
theorem BlkC.off {t : TypeId} {cs : List Value} (h : BlkC w b t cs) (hne : b ≠ g) : BlkC (st2 w g o1 o2 s a n c) b t cs :=
 (Below.heap_setCell _ ⟨g, o2, none⟩ _ b hne).trans ((Below.heap_setCell w ⟨g, o1, none⟩ _ b hne).trans h)
theorem Bx.off (h : Bx w b z) (hg : NoInt w g) (hne : b ≠ g) : Bx (st2 w g o1 o2 s a n c) b z := by
 obtain ⟨s, a, n, c, h1, h2⟩ := h
 exact ⟨s, a, n, c, h1.off hne, h2.off hg⟩
theorem WRow.off {zs : List Int} (h : WRow w b zs) (hg : NoInt w g) (hne : b ≠ g) : WRow (st2 w g o1 o2 s a n c) b zs :=
 (h.far hne hg _ _).far hne (hg.set g o1 (fun _ h => by cases h)) _ _
theorem below_off {B : Nat} {w0 : World} (h : Below B w0 w) (hg : B ≤ g) : Below B w0 (st2 w g o1 o2 s a n c) := (h.setCell (p := ⟨g, o1, none⟩) hg _).setCell (p := ⟨g, o2, none⟩) hg _
theorem Only.off {S : Nat → Prop} {w0 : World} (h : Only S w0 w) (hg : S g) : Only S w0 (st2 w g o1 o2 s a n c) := (h.set (p := ⟨g, o1, none⟩) hg _).set (p := ⟨g, o2, none⟩) hg _
theorem st2_size : (st2 w g o1 o2 s a n c).heap.size = w.heap.size := by simp [st2, World.setCell]
/-- the variable itself -/
theorem Bx.put {y : Int} (h : Bx w b y) (hv : WInt w (.agg #[.bool s, .slice a n c]) z) : Bx (st2 w b 0 1 s a n c) b z := by
 have hn := h.noInt
 obtain ⟨s', a', n', c', h1, h2⟩ := h
 exact ⟨s, a, n, c, h1.setB _ _, hv.off hn⟩
theorem Two.put1 {t : TypeId} {x y : Value} (h : Two w b t x y) : Two (st2 w b 0 1 s a n c) b t (.bool s) (.slice a n c) := h.setB _ _
/-- an element of a row -/
theorem WRow.put' {zs : List Int} (h : WRow w g zs) (j : Nat) (hj : j < zs.length) (hv : WInt w (.agg #[.bool s, .slice a n c]) z) : WRow (st2 w g (j * 2) (j * 2 + 1) s a n c) g (zs.set j z) := by
 obtain ⟨vw, e, hm⟩ := hv
 injection e with e
 have e1 := congrArg (fun x => x[0]?) e
 have e2 := congrArg (fun x => x[1]?) e
 simp at e1 e2
 subst e1 e2
 exact h.put j hj ⟨_, rfl, hm⟩
/-- an element is read -/
theorem WRow.get {zs : List Int} (h : WRow w g zs) (j : Nat) (hj : j < zs.length) : ∃ s a n c, w.cell? ⟨g, j * 2, none⟩ = some (.bool s) ∧ w.cell? ⟨g, j * 2 + 1, none⟩ = some (.slice a n c) ∧ WInt w (.agg #[.bool s, .slice a n c]) zs[j] := by
 obtain ⟨a, n, c, h1, h2, h3⟩ := h.at_ j hj
 exact ⟨_, a, n, c, h1, h2, h3⟩
theorem WInt.form4 {v : Value} (h : WInt w v z) : ∃ s a n c, v = .agg #[.bool s, .slice a n c] := by
 obtain ⟨a, n, c, rfl, _⟩ := h.form
 exact ⟨_, _, _, _, rfl⟩
theorem Bx.new {s : Bool} {a : Option Addr} {n c : Nat} (hv : WInt w (.agg #[.bool s, .slice a n c]) z) : Bx (w.alloc (.cells #[.bool s, .slice a n c] 58)) w.heap.size z :=
 ⟨s, a, n, c, Two.new _ _ _ _, hv.below ((Below.refl _ _).alloc (Nat.le_refl _) _)⟩
theorem Two.blw {t : TypeId} {x y : Value} (h : Two w b t x y) (hb : Below w.heap.size w w') : Two w' b t x y := h.below hb h.lt
theorem WInt.blw {v : Value} (h : WInt w v z) (hb : Below w.heap.size w w') : WInt w' v z := h.below hb
theorem WRow.blw {zs : List Int} (h : WRow w g zs) (hb : Below w.heap.size w w') : WRow w' g zs := h.below hb
theorem One.blw {t : TypeId} {x : Value} (h : One w b t x) (hb : Below w.heap.size w w') : One w' b t x := h.below hb h.lt
theorem BlkC.blw {t : TypeId} {cs : List Value} (h : BlkC w b t cs) (hb : Below w.heap.size w w') : BlkC w' b t cs := h.below hb h.lt
end

/-- a call that answers an integer -/
def W1 (z : Int) (w : World) (e : Ending) (w' : World) : Prop :=
 ∃ s a n c, e = .returned (.agg #[.bool s, .slice a n c]) ∧ WInt w' (.agg #[.bool s, .slice a n c]) z ∧ Below w.heap.size w w'
theorem WRet.w1 {z : Int} {w : World} {e : Ending} {w' : World} (h : WRet z w e w') : W1 z w e w' := by
 obtain ⟨a, n, c, h1, h2, h3⟩ := h
 exact ⟨_, a, n, c, h1, h2, h3⟩
section
variable {vx vy : Value} {x y : Int} {w : World} {k l : Nat}
theorem times_b (hx : WInt w vx x) (hy : WInt w vy y) (sx : Sz k x) (sy : Sz l y) (hk : k + l ≤ 16384) : Calls Try.prog 46 #[vx, vy] w (W1 (x * y) w) :=
 (ltimes_any vx vy x y w hx hy (sx.lim (by omega)) (sy.lim (by omega)) ((sx.mul sy).lim hk)).mono (fun _ _ h => h.w1)
theorem plus_b (hx : WInt w vx x) (hy : WInt w vy y) (sx : Sz k x) (sy : Sz k y) (hk : k ≤ 16000) : Calls Try.prog 79 #[vx, vy] w (W1 (x + y) w) :=
 (lplus_any vx vy x y w hx hy (sx.lim (by omega)) (sy.lim (by omega)) ((sx.add sy).lim (by omega))).mono (fun _ _ h => h.w1)
theorem minus_b (hx : WInt w vx x) (hy : WInt w vy y) (sx : Sz k x) (sy : Sz k y) (hk : k ≤ 16000) : Calls Try.prog 45 #[vx, vy] w (W1 (x - y) w) :=
 (lminus_any vx vy x y w hx hy (sx.lim (by omega)) (sy.lim (by omega)) ((sx.sub sy).lim (by omega))).mono (fun _ _ h => h.w1)
theorem over_b (hx : WInt w vx x) (hy : WInt w vy y) (sx : Sz k x) (sy : Sz l y) (hy0 : y ≠ 0) (hk : k ≤ 16384) (hl : l ≤ 16384) : Calls Try.prog 75 #[vx, vy] w (W1 (x / y) w) :=
 (lover_any vx vy x y w hx hy (sx.lim hk) (sy.lim hl) hy0).mono (fun _ _ h => by rw [(qOf_eq x y hy0).1] at h; exact h.w1)
theorem modulo_b (hx : WInt w vx x) (hy : WInt w vy y) (sx : Sz k x) (sy : Sz l y) (hy0 : y ≠ 0) (hk : k ≤ 16384) (hl : l ≤ 16384) : Calls Try.prog 77 #[vx, vy] w (W1 (x % y) w) :=
 (lmodulo_any vx vy x y w hx hy (sx.lim hk) (sy.lim hl) hy0).mono (fun _ _ h => by rw [(qOf_eq x y hy0).2] at h; exact h.w1)
theorem neg_b (hx : WInt w vx x) (sx : Sz k x) (hk : k ≤ 16384) : Calls Try.prog 76 #[vx] w (W1 (-x) w) :=
 (neg_any vx x w hx (sx.lim hk)).mono (fun _ _ ⟨v, e, h, hB⟩ => by obtain ⟨s, a, n, c, rfl⟩ := h.form4; exact ⟨s, a, n, c, e, h, hB⟩)
theorem from_b (z : Int) (h1 : -9223372036854775808 ≤ z) (h2 : z ≤ 9223372036854775807) : Calls Try.prog 39 #[.int .i64 z] w (W1 z w) :=
 (from_any z w h1 h2).mono (fun _ _ ⟨v, e, h, hB⟩ => by obtain ⟨s, a, n, c, rfl⟩ := h.form4; exact ⟨s, a, n, c, e, h, hB⟩)
theorem sign_b (hx : WInt w vx x) (sx : Sz k x) (hk : k ≤ 16384) : Calls Try.prog 44 #[vx] w fun e w' => e = .returned (.int .i64 (cmp3 x 0)) ∧ Below w.heap.size w w' := sign_any vx x w hx (sx.lim hk)
theorem div_b (hx : WInt w vx x) (hy : WInt w vy y) (sx : Sz k x) (sy : Sz l y) (hy0 : y ≠ 0) (hk : k ≤ 16384) (hl : l ≤ 16384) :
 Calls Try.prog 43 #[vx, vy] w fun e w' => ∃ s a n c s' a' n' c', e = .returned (.tuple #[.agg #[.bool s, .slice a n c], .agg #[.bool s', .slice a' n' c'], .int .i64 0]) ∧ WInt w' (.agg #[.bool s, .slice a n c]) (x / y) ∧ WInt w' (.agg #[.bool s', .slice a' n' c']) (x % y) ∧ Below w.heap.size w w' :=
 (wdiv_any vx vy x y w hx hy hy0 (sx.lim hk) (sy.lim hl)).mono (fun e w' ⟨hB, vq, vr, he, hq, hr⟩ => by
  obtain ⟨s, a, n, c, rfl⟩ := hq.form4
  obtain ⟨s', a', n', c', rfl⟩ := hr.form4
  rw [(qOf_eq x y hy0).1] at hq
  rw [(qOf_eq x y hy0).2] at hr
  exact ⟨s, a, n, c, s', a', n', c', he, hq, hr, hB⟩)
end
theorem cmp3_ne (x : Int) : (cmp3 x 0 != 0) = decide (x ≠ 0) := by
 unfold cmp3
 by_cases h1 : x < 0
 ·rw [if_pos h1]; simp; omega
 ·rw [if_neg h1]
  by_cases h2 : 0 < x
  ·rw [if_pos h2]; simp; omega
  ·rw [if_neg h2]; simp; omega
section
variable {w w' w0 : World} {g o1 o2 b : Nat} {s : Bool} {a : Option Addr} {n c : Nat} {z : Int}
theorem WInt.offe {v : Value} (h : WInt w v z) (e : st2 w g o1 o2 s a n c = w') (hg : NoInt w g) : WInt w' v z := e ▸ h.off hg
theorem Bx.offe (h : Bx w b z) (e : st2 w g o1 o2 s a n c = w') (hg : NoInt w g) (hne : b ≠ g) : Bx w' b z := e ▸ h.off hg hne
theorem WRow.offe {zs : List Int} (h : WRow w b zs) (e : st2 w g o1 o2 s a n c = w') (hg : NoInt w g) (hne : b ≠ g) : WRow w' b zs := e ▸ h.off hg hne
theorem Two.offe {t : TypeId} {x y : Value} (h : Two w b t x y) (e : st2 w g o1 o2 s a n c = w') (hne : b ≠ g) : Two w' b t x y := e ▸ h.off hne
theorem One.offe {t : TypeId} {x : Value} (h : One w b t x) (e : st2 w g o1 o2 s a n c = w') (hne : b ≠ g) : One w' b t x := e ▸ h.off hne
theorem BlkC.offe {t : TypeId} {cs : List Value} (h : BlkC w b t cs) (e : st2 w g o1 o2 s a n c = w') (hne : b ≠ g) : BlkC w' b t cs := e ▸ h.off hne
end
theorem Only.offs {S : Nat → Prop} {w0 w w' : World} {g o1 o2 : Nat} {s : Bool} {a : Option Addr} {n c : Nat} (h : Only S w0 w) (e : (w.setCell ⟨g, o1, none⟩ (.bool s)).setCell ⟨g, o2, none⟩ (.slice a n c) = w') (hg : S g) : Only S w0 w' := by subst e; exact h.off hg
theorem bO {B : Nat} {w0 w w' : World} {g o1 o2 : Nat} {s : Bool} {a : Option Addr} {n c : Nat} (e : st2 w g o1 o2 s a n c = w') (h : Below B w0 w) (hg : B ≤ g) : Below B w0 w' := by subst e; exact below_off h hg
end Go.Proofs.Ytlmbebbdamgfpaa
