/- wide: Compare, Sign, Neg, Small. -/
import Derived.Test.YtfpcgjgkbniofaaGreatDoorWFrom
namespace Go.Proofs.YtfpcgjgkbniofaaGreatDoor
open Go.RowKit

theorem cmp3_neg (x y : Int) (hx : x < 0) (hy : y < 0) : cmp3 (y.natAbs : Int) (x.natAbs : Int) = cmp3 x y := by
  unfold cmp3
  rw [show ((y.natAbs : Nat) : Int) = -y by omega, show ((x.natAbs : Nat) : Int) = -x by omega]
  by_cases h1 : x < y
  · rw [if_pos h1, if_pos (by omega)]
  · rw [if_neg h1, if_neg (by omega)]
    by_cases h2 : y < x
    · rw [if_pos h2, if_pos (by omega)]
    · rw [if_neg h2, if_neg (by omega)]
theorem cmp3_pos (x y : Int) (hx : ¬ x < 0) (hy : ¬ y < 0) : cmp3 (x.natAbs : Int) (y.natAbs : Int) = cmp3 x y := by
  rw [show ((y.natAbs : Nat) : Int) = y by omega, show ((x.natAbs : Nat) : Int) = x by omega]

theorem below_drewN2 {B : Nat} {w w' : World} (h : Below B w w') (d : Nat) : Below B w (w'.drewN d) := ⟨h.os, h.tape, h.output, h.size, h.block⟩

set_option maxRecDepth 100000 in
set_option maxHeartbeats 2000000 in
theorem wcompare_any (vx vy : Value) (x y : Int) (w : World) (hx : WInt w vx x) (hy : WInt w vy y) (hlx : x.natAbs < LIM) (hly : y.natAbs < LIM) :
    Calls Tryz.prog 102 #[vx, vy] w fun e w' => e = .returned (.int .i64 (cmp3 x y)) ∧ Below w.heap.size w w' := by
  obtain ⟨ax, nx, cx, rfl, hmx⟩ := hx.form
  obtain ⟨ay, ny, cy, rfl, hmy⟩ := hy.form
  have hlx' := (lim_len _).2 hlx
  have hly' := (lim_len _).2 hly
  have HX := Lib.hid hmx
  have HY := Lib.hid hmy
  clear hx hy hmx hmy hlx hly
  have HB := Lib.hid (fun b1 b2 => ((Below.refl w.heap.size w).alloc (Nat.le_refl _) (.cells #[.bool b1, .slice ax nx cx] 85)).alloc (by simp) (.cells #[.bool b2, .slice ay ny cy] 85))
  by_cases h1 : x < 0 <;> by_cases h2 : y < 0
  · have Hc := Lib.hid (fun w' (hb : Below w.heap.size w w') => compare_any (.slice ay ny cy) (.slice ax nx cx) y.natAbs x.natAbs w' (HY.out.below (Nat.le_refl _) hb) (HX.out.below (Nat.le_refl _) hb) (by omega) (by omega))
    rw [cmp3_neg x y h1 h2] at Hc
    rw [decide_eq_true h1, decide_eq_true h2]
    clear h1 h2 HX HY
    go_enter Tryz.func102, Tryz.ntmps102
    go_wp2_with fail
    refine (Hc.out _ (HB.out true true)).mono ?_
    rintro e w1 ⟨rfl, d, rfl⟩
    go_wp2
    go_ret
    exact ⟨rfl, below_drewN2 (HB.out true true) d⟩
  · have Hc := Lib.hid (cmp3_lt (show x < y by omega))
    rw [decide_eq_true h1, decide_eq_false h2]
    clear h1 h2 HX HY
    go_enter Tryz.func102, Tryz.ntmps102
    go_wp2
    go_ret
    exact ⟨by rw [Hc.out]; rfl, HB.out true false⟩
  · have Hc := Lib.hid (cmp3_gt (show y < x by omega))
    rw [decide_eq_false h1, decide_eq_true h2]
    clear h1 h2 HX HY
    go_enter Tryz.func102, Tryz.ntmps102
    go_wp2
    go_ret
    exact ⟨by rw [Hc.out]; rfl, HB.out false true⟩
  · have Hc := Lib.hid (fun w' (hb : Below w.heap.size w w') => compare_any (.slice ax nx cx) (.slice ay ny cy) x.natAbs y.natAbs w' (HX.out.below (Nat.le_refl _) hb) (HY.out.below (Nat.le_refl _) hb) (by omega) (by omega))
    rw [cmp3_pos x y h1 h2] at Hc
    rw [decide_eq_false h1, decide_eq_false h2]
    clear h1 h2 HX HY
    go_enter Tryz.func102, Tryz.ntmps102
    go_wp2_with fail
    refine (Hc.out _ (HB.out false false)).mono ?_
    rintro e w1 ⟨rfl, d, rfl⟩
    go_wp2
    go_ret
    exact ⟨rfl, below_drewN2 (HB.out false false) d⟩

theorem wint_zero (w : World) : WInt w (.agg #[.bool false, .slice none 0 0]) 0 := ⟨_, rfl, RowAt.nil none 0 (by omega)⟩

theorem pow_pos_any (a b : Nat) (h : 0 < a) : 0 < a ^ b := Nat.pow_pos h
theorem lim_pos : 0 < LIM := lim_w2 ▸ pow_pos_any W2 512 (by decide)

set_option maxRecDepth 100000 in
set_option maxHeartbeats 2000000 in
theorem sign_any (vx : Value) (x : Int) (w : World) (hx : WInt w vx x) (hlx : x.natAbs < LIM) :
    Calls Tryz.prog 49 #[vx] w fun e w' => e = .returned (.int .i64 (cmp3 x 0)) ∧ Below w.heap.size w w' := by
  have HX := Lib.hid hx
  obtain ⟨ax, nx, cx, rfl, _⟩ := hx.form
  have HB := Lib.hid ((Below.refl w.heap.size w).alloc (Nat.le_refl _) (.cells #[.bool (decide (x < 0)), .slice ax nx cx] 85))
  have Hc := Lib.hid (wcompare_any _ _ x 0 _ (HX.out.below' (Nat.le_refl _) HB.out) (wint_zero _) hlx lim_pos)
  clear hlx hx
  generalize decide (x < 0) = sx at *
  go_enter Tryz.func49, Tryz.ntmps49
  go_wp2_with fail
  refine Hc.out.mono ?_
  rintro e w1 ⟨rfl, hB1⟩
  have HB1 := Lib.hid (HB.out.trans (hB1.mono (by simp)))
  clear hB1
  go_wp2
  go_ret
  exact ⟨rfl, HB1.out⟩

theorem clone_mag (v : Value) (m : Nat) (w : World) (h : MagAt w v m) (hlen : (digs W2 m).length ≤ 1048576) :
    Calls Tryz.prog 127 #[v] w fun e w' => ∃ a l c, e = .returned (.slice a l c) ∧ MagAt w' (.slice a l c) m ∧ Below w.heap.size w w' := by
  refine (wclone_any v _ w h (by omega)).mono ?_
  rintro e w' ⟨rfl, hb, hB⟩
  exact ⟨_, _, _, rfl, RowAt.of_blk hb (Nat.le_refl _) (by omega), hB⟩

/-- one boxed operand lies as it lay -/
def Held2 (n : Nat) (x1 x2 : Value) (w : World) : Prop := w.cell? ⟨n, 0, none⟩ = some x1 ∧ w.cell? ⟨n, 1, none⟩ = some x2
theorem Held2.below {n : Nat} {x1 x2 : Value} {w w' : World} (h : Held2 n x1 x2 w) (hb : Below w.heap.size w w') (hs : n + 1 + 1 ≤ w.heap.size) : Held2 n x1 x2 w' ∧ n + 1 + 1 ≤ w'.heap.size :=
  ⟨⟨(hb.cell (p := ⟨n, 0, none⟩) (by show n < _; omega)).trans h.1, (hb.cell (p := ⟨n, 1, none⟩) (by show n < _; omega)).trans h.2⟩, by have := hb.size; omega⟩
theorem Held2.set2 {n : Nat} {x1 x2 : Value} {w : World} (h : Held2 n x1 x2 w) (u1 u2 : Value) : Held2 n x1 x2 ((w.setCell ⟨n + 1, 0, none⟩ u1).setCell ⟨n + 1, 1, none⟩ u2) := by
  have e : ∀ b o, b ≠ n + 1 → ((w.setCell ⟨n + 1, 0, none⟩ u1).setCell ⟨n + 1, 1, none⟩ u2).cell? ⟨b, o, none⟩ = w.cell? ⟨b, o, none⟩ := fun b o hb => by
    rw [World.cell?_setCell_other _ _ _ _ (by intro e; injection e; omega), World.cell?_setCell_other _ _ _ _ (by intro e; injection e; omega)]
  exact ⟨(e _ _ (by omega)).trans h.1, (e _ _ (by omega)).trans h.2⟩

theorem boxes2 (w : World) (t : TypeId) (x1 x2 z1 z2 : Value) (n : Nat) (hn : w.heap.size = n) : ∃ W, (w.alloc (.cells #[x1, x2] t)).alloc (.cells #[z1, z2] t) = W ∧
    Two W n t x1 x2 ∧ Two W (n + 1) t z1 z2 ∧ Below n w W ∧ W.heap.size = n + 1 + 1 := by
  subst hn
  refine ⟨_, rfl, (Two.new w t x1 x2).alloc _, ?_, ((Below.refl w.heap.size w).alloc (Nat.le_refl _) _).alloc (by simp) _, by simp⟩
  have := Two.new (w.alloc (.cells #[x1, x2] t)) t z1 z2
  rw [World.size_alloc] at this
  exact this

end Go.Proofs.YtfpcgjgkbniofaaGreatDoor
