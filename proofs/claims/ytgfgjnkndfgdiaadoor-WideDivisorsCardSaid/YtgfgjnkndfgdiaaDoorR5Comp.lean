/- the reference's integers: Compare. -/
import Derived.Test.YtgfgjnkndfgdiaaDoorR5Neg
namespace Go.Proofs.YtgfgjnkndfgdiaaDoor
open Go.RowKit

set_option maxRecDepth 100000 in
set_option maxHeartbeats 2000000 in
theorem rcompare_any (vx vy : Value) (x y : Int) (w : World) (hx : RInt w vx x) (hy : RInt w vy y) (hlx' : (digs T4 x.natAbs).length ≤ 1048576) (hly' : (digs T4 y.natAbs).length ≤ 1048576) :
    Calls Tryd.prog 38 #[vx, vy] w fun e w' => e = .returned (.int .i64 (cmp3 x y)) ∧ Below w.heap.size w w' := by
  obtain ⟨ax, nx, cx, rfl, hmx, -, hcx⟩ := hx.form
  obtain ⟨ay, ny, cy, rfl, hmy, -, hcy⟩ := hy.form
  have HX := Lib.hid hmx
  have HY := Lib.hid hmy
  clear hx hy hmx hmy
  have HB := Lib.hid (fun b1 b2 => ((Below.refl w.heap.size w).alloc (Nat.le_refl _) (.cells #[.bool b1, .slice ax nx cx] 25)).alloc (by simp) (.cells #[.bool b2, .slice ay ny cy] 25))
  by_cases h1 : x < 0 <;> by_cases h2 : y < 0
  · have Hc := Lib.hid (fun w' (hb : Below w.heap.size w w') => compared_any (.slice ay ny cy) (.slice ax nx cx) y.natAbs x.natAbs w' (RowAt.below HY.out (Nat.le_refl _) hb) (RowAt.below HX.out (Nat.le_refl _) hb) (by omega) (by omega))
    rw [cmp3_neg x y h1 h2] at Hc
    rw [decide_eq_true h1, decide_eq_true h2]
    clear h1 h2 HX HY
    go_enter Tryd.func38, Tryd.ntmps38
    go_wp2_with fail
    refine (Hc.out _ (HB.out true true)).mono ?_
    rintro e w1 ⟨rfl, d, rfl⟩
    go_wp2
    go_ret
    exact ⟨rfl, below_drewN2 (HB.out true true) d⟩
  · have Hc := Lib.hid (cmp3_lt (show x < y by omega))
    rw [decide_eq_true h1, decide_eq_false h2]
    clear h1 h2 HX HY
    go_enter Tryd.func38, Tryd.ntmps38
    go_wp2
    go_ret
    exact ⟨by rw [Hc.out]; rfl, HB.out true false⟩
  · have Hc := Lib.hid (cmp3_gt (show y < x by omega))
    rw [decide_eq_false h1, decide_eq_true h2]
    clear h1 h2 HX HY
    go_enter Tryd.func38, Tryd.ntmps38
    go_wp2
    go_ret
    exact ⟨by rw [Hc.out]; rfl, HB.out false true⟩
  · have Hc := Lib.hid (fun w' (hb : Below w.heap.size w w') => compared_any (.slice ax nx cx) (.slice ay ny cy) x.natAbs y.natAbs w' (RowAt.below HX.out (Nat.le_refl _) hb) (RowAt.below HY.out (Nat.le_refl _) hb) (by omega) (by omega))
    rw [cmp3_pos x y h1 h2] at Hc
    rw [decide_eq_false h1, decide_eq_false h2]
    clear h1 h2 HX HY
    go_enter Tryd.func38, Tryd.ntmps38
    go_wp2_with fail
    refine (Hc.out _ (HB.out false false)).mono ?_
    rintro e w1 ⟨rfl, d, rfl⟩
    go_wp2
    go_ret
    exact ⟨rfl, below_drewN2 (HB.out false false) d⟩

end Go.Proofs.YtgfgjnkndfgdiaaDoor
