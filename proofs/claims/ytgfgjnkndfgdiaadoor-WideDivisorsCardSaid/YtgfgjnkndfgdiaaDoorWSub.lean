/- wide: Sub, Neg, From, Compare, Sign, Small. -/
import Derived.Test.YtgfgjnkndfgdiaaDoorWMul
namespace Go.Proofs.YtgfgjnkndfgdiaaDoor
open Go.RowKit

theorem LimPost.ok {z : Int} {w w' : World} {e : Ending} (h : LimPost z w e w') (hz : z.natAbs < LIM) : ∃ a l cap, e = .returned (.tuple #[.agg #[.bool (decide (z < 0)), .slice a l cap], .int .i64 0]) ∧ MagAt w' (.slice a l cap) z.natAbs ∧ Below w.heap.size w w' := by
  obtain ⟨hB, ⟨_, v, rfl, hW⟩ | ⟨hl, rfl⟩⟩ := h
  · obtain ⟨a, l, cap, rfl, hm⟩ := hW.form
    exact ⟨a, l, cap, rfl, hm, hB⟩
  · omega
theorem LimPost.big {z : Int} {w w' : World} {e : Ending} (h : LimPost z w e w') (hz : LIM ≤ z.natAbs) : e = .returned (.tuple #[.agg #[.bool false, .slice none 0 0], .int .i64 4]) ∧ Below w.heap.size w w' := by
  obtain ⟨hB, ⟨hl, v, rfl, hW⟩ | ⟨hl, rfl⟩⟩ := h
  · omega
  · exact ⟨rfl, hB⟩

theorem sgn_opp (y : Int) : sgn (!decide (y < 0)) y.natAbs = -y := by
  unfold sgn
  by_cases h : y < 0
  · simp [h]; omega
  · simp [h]; omega

set_option maxRecDepth 100000 in
set_option maxHeartbeats 4000000 in
theorem sub_any (vx vy : Value) (x y : Int) (w : World) (hx : WInt w vx x) (hy : WInt w vy y) (hlx : x.natAbs < LIM) (hly : y.natAbs < LIM) :
    Calls Tryd.prog 33 #[vx, vy] w (LimPost (x - y) w) := by
  have HX0 := Lib.hid hx
  obtain ⟨ax, nx, cx, rfl, hmx⟩ := hx.form
  obtain ⟨ay, ny, cy, rfl, hmy⟩ := hy.form
  have HY := Lib.hid hmy
  have hly2 : (-y).natAbs < LIM := by rw [Int.natAbs_neg]; exact hly
  clear hx hy hmx hmy
  obtain ⟨n, hn⟩ : ∃ n, w.heap.size = n := ⟨_, rfl⟩
  have Hn := Lib.hid hn
  obtain ⟨W, hW, t1, t2, t3, hBW, hsW⟩ := boxes3 w 33 (.bool (decide (x < 0))) (.slice ax nx cx) (.bool (decide (y < 0))) (.slice ay ny cy) (.bool false) (.slice none 0 0) n hn
  have Hs1 := Lib.hid (fun w' (hb : Below n w w') => signed_any (!decide (y < 0)) (.slice ay ny cy) y.natAbs w' (HY.out.below (Nat.le_of_eq hn) hb))
  rw [sgn_opp] at Hs1
  have Ha := Lib.hid (fun w' (hb : Below n w w') => add_any (.agg #[.bool (decide (x < 0)), .slice ax nx cx]) (.agg #[.bool (decide (-y < 0)), .slice ay ny cy]) x (-y) w' (HX0.out.below' (Nat.le_of_eq hn) hb) ⟨_, rfl, by rw [Int.natAbs_neg]; exact HY.out.below (Nat.le_of_eq hn) hb⟩ hlx hly2)
  have hxy : x + -y = x - y := by omega
  rw [hxy] at Ha
  clear HX0 HY hlx hly hly2 hxy
  generalize decide (x < 0) = sx at *
  generalize decide (y < 0) = sy at *
  generalize decide (-y < 0) = sz at *
  have HBW := Lib.hid hBW
  have T3 : Hid (Two W.drew (n + 1 + 1) 33 (.bool false) (.slice none 0 0)) := Lib.hid t3
  have HS0 : Hid (Held4 n (.bool sx) (.slice ax nx cx) (.bool sy) (.slice ay ny cy) W.drew) := Lib.hid ⟨t1.cell0, t1.cell1, t2.cell0, t2.cell1⟩
  have hs0 : n + 1 + 1 + 1 ≤ W.drew.heap.size := by show _ ≤ W.heap.size; omega
  have d0 := t1.cell0
  have d1 := t1.cell1
  have d2 := t2.cell0
  have d3 := t2.cell1
  clear t1 t2 t3 hBW
  go_enter Tryd.func33, Tryd.ntmps33
  go_wp2_with fail
  clear hW
  by_cases hp : (x - y).natAbs < LIM
  · go_region_held3 (fun w' => w'.cell? ⟨n, 0, none⟩ = some (.bool sx) ∧ w'.cell? ⟨n, 1, none⟩ = some (.slice ax nx cx) ∧ w'.cell? ⟨n + 1, 0, none⟩ = some (.bool sy) ∧ w'.cell? ⟨n + 1, 1, none⟩ = some (.slice ay ny cy))
      (first | (exact HS.out) | (exact Held4.set2 HS.out _ _) | go_keep)
      (first
        | (go_at_call 58; refine (Hs1.out _ HBW.out.drew).mono ?_; rintro e w5 ⟨rfl, hB5⟩; have HB5 := Lib.hid hB5; have HS5 := Lib.hid (HS0.out.below hB5 hs0); have s5 := HS5.out.2; have HS := Lib.hid HS5.out.1; have HBW5 := Lib.hid (HBW.out.drew.trans (hB5.mono (by omega))); clear hB5)
        | (go_at_call 32; refine (Ha.out w5 HBW5.out).mono ?_; rintro e w6 hL; obtain ⟨a6, l6, c6, rfl, hm6, hB6⟩ := hL.ok hp; have Hm6 := Lib.hid hm6; clear hm6; have HB6 := Lib.hid hB6; have HS6 := Lib.hid (HS.out.below hB6 s5); clear HS; have s6 := HS6.out.2; have HS := Lib.hid HS6.out.1; have T6 := (T3.out.below HB5.out (by omega)).below hB6 (by omega); have g0 := T6.cell0; have g1 := T6.cell1; have g2 := T6.frozen 0; have g3 := T6.frozen 1; have T6 := Lib.hid T6; clear hB6))
    go_wp2
    refine bodyPost_ret (v := .tuple #[.agg #[.bool (decide (x - y < 0)), .slice a6 l6 c6], .int .i64 0]) (by simp [results, Tryd.results33, go_sem, g0, g1]) rfl ⟨?_, .inl ⟨hp, _, rfl, WInt.mk rfl ?_⟩⟩
    · rw [Hn.out]
      exact ((HBW5.out.trans (HB6.out.mono (by omega))).setCell (p := ⟨n + 1 + 1, 0, none⟩) (by show n ≤ n + 1 + 1; omega) _).setCell (p := ⟨n + 1 + 1, 1, none⟩) (by show n ≤ n + 1 + 1; omega) _
    · exact RowAt.store_two Hm6.out T6.out (fun _ _ h => by cases h) (fun _ _ h => by cases h) _ _
  · go_region_held3 (fun w' => w'.cell? ⟨n, 0, none⟩ = some (.bool sx) ∧ w'.cell? ⟨n, 1, none⟩ = some (.slice ax nx cx) ∧ w'.cell? ⟨n + 1, 0, none⟩ = some (.bool sy) ∧ w'.cell? ⟨n + 1, 1, none⟩ = some (.slice ay ny cy))
      (first | (exact HS.out) | (exact Held4.set2 HS.out _ _) | go_keep)
      (first
        | (go_at_call 58; refine (Hs1.out _ HBW.out.drew).mono ?_; rintro e w5 ⟨rfl, hB5⟩; have HB5 := Lib.hid hB5; have HS5 := Lib.hid (HS0.out.below hB5 hs0); have s5 := HS5.out.2; have HS := Lib.hid HS5.out.1; have HBW5 := Lib.hid (HBW.out.drew.trans (hB5.mono (by omega))); clear hB5)
        | (go_at_call 32; refine (Ha.out w5 HBW5.out).mono ?_; rintro e w6 hL; obtain ⟨rfl, hB6⟩ := hL.big (Nat.le_of_not_lt hp); have HB6 := Lib.hid hB6; have HS6 := Lib.hid (HS.out.below hB6 s5); clear HS; have s6 := HS6.out.2; have HS := Lib.hid HS6.out.1; have T6 := (T3.out.below HB5.out (by omega)).below hB6 (by omega); have g0 := T6.cell0; have g1 := T6.cell1; have g2 := T6.frozen 0; have g3 := T6.frozen 1; have T6 := Lib.hid T6; clear hB6))
    go_wp2
    refine bodyPost_ret (v := .tuple #[.agg #[.bool false, .slice none 0 0], .int .i64 4]) (by simp [results, Tryd.results33, go_sem, g0, g1]) rfl ⟨?_, .inr ⟨Nat.le_of_not_lt hp, rfl⟩⟩
    rw [Hn.out]
    exact ((HBW5.out.trans (HB6.out.mono (by omega))).setCell (p := ⟨n + 1 + 1, 0, none⟩) (by show n ≤ n + 1 + 1; omega) _).setCell (p := ⟨n + 1 + 1, 1, none⟩) (by show n ≤ n + 1 + 1; omega) _

end Go.Proofs.YtgfgjnkndfgdiaaDoor
