/- wide: Small. -/
import Derived.Test.YtlmbebbdamgfpaaQUWMul
set_option linter.unusedVariables false
set_option linter.unusedSimpArgs false
namespace Go.Proofs.Ytlmbebbdamgfpaa
open Go.RowKit

theorem LimPost.ok {z : Int} {w w' : World} {e : Ending} (h : LimPost z w e w') (hz : z.natAbs < LIM) : ∃ a l cap, e = .returned (.tuple #[.agg #[.bool (decide (z < 0)), .slice a l cap], .int .i64 0]) ∧ MagAt w' (.slice a l cap) z.natAbs ∧ Below w.heap.size w w' := by
 obtain ⟨hB, ⟨_, v, rfl, hW⟩ | ⟨hl, rfl⟩⟩ := h
 ·obtain ⟨a, l, cap, rfl, hm⟩ := hW.form
  exact ⟨a, l, cap, rfl, hm, hB⟩
 ·omega
theorem LimPost.big {z : Int} {w w' : World} {e : Ending} (h : LimPost z w e w') (hz : LIM ≤ z.natAbs) : e = .returned (.tuple #[.agg #[.bool false, .slice none 0 0], .int .i64 4]) ∧ Below w.heap.size w w' := by
 obtain ⟨hB, ⟨hl, v, rfl, hW⟩ | ⟨hl, rfl⟩⟩ := h
 ·omega
 ·exact ⟨rfl, hB⟩

theorem sgn_opp (y : Int) : sgn (!decide (y < 0)) y.natAbs = -y := by
 unfold sgn
 by_cases h : y < 0
 ·simp [h]; omega
 ·simp [h]; omega

set_option maxRecDepth 100000 in
set_option maxHeartbeats 4000000 in
theorem sub_any (vx vy : Value) (x y : Int) (w : World) (hx : WInt w vx x) (hy : WInt w vy y) (hlx : x.natAbs < LIM) (hly : y.natAbs < LIM) :
 Calls Try.prog 66 #[vx, vy] w (LimPost (x - y) w) := by
 have HX0 := Lib.hid hx
 obtain ⟨ax, nx, cx, rfl, hmx⟩ := hx.form
 obtain ⟨ay, ny, cy, rfl, hmy⟩ := hy.form
 have HY := Lib.hid hmy
 have hly2 : (-y).natAbs < LIM := by rw [Int.natAbs_neg]; exact hly
 clear hx hy hmx hmy
 obtain ⟨n, hn⟩ : ∃ n, w.heap.size = n := ⟨_, rfl⟩
 have Hn := Lib.hid hn
 obtain ⟨W, hW, t1, t2, t3, hBW, hsW⟩ := boxes3 w 58 (.bool (decide (x < 0))) (.slice ax nx cx) (.bool (decide (y < 0))) (.slice ay ny cy) (.bool false) (.slice none 0 0) n hn
 have Hs1 := Lib.hid (fun w' (hb : Below n w w') => signed_any (!decide (y < 0)) (.slice ay ny cy) y.natAbs w' (HY.out.below (Nat.le_of_eq hn) hb))
 rw [sgn_opp] at Hs1
 have Ha := Lib.hid (fun w' (hb : Below n w w') => add_any (.agg #[.bool (decide (x < 0)), .slice ax nx cx]) (.agg #[.bool (decide (-y < 0)), .slice ay ny cy]) x (-y) w' (HX0.out.below' (Nat.le_of_eq hn) hb) ⟨_, rfl, by rw [Int.natAbs_neg]; exact HY.out.below (Nat.le_of_eq hn) hb⟩ hlx hly2)
 have hxy : x + -y = x - y := by omega
 rw [hxy] at Ha
 clear HX0 HY hlx hly hly2 hxy
 generalize decide (x < 0) = sx at *
 generalize decide (y < 0) = sy at *
 generalize decide (-y < 0) = sz at *
 have HBW := Lib.hid hBW
 have T3 : Hid (Two W.drew (n + 1 + 1) 58 (.bool false) (.slice none 0 0)) := Lib.hid t3
 have HS0 : Hid (Held4 n (.bool sx) (.slice ax nx cx) (.bool sy) (.slice ay ny cy) W.drew) := Lib.hid ⟨t1.cell0, t1.cell1, t2.cell0, t2.cell1⟩
 have hs0 : n + 1 + 1 + 1 ≤ W.drew.heap.size := by show _ ≤ W.heap.size; omega
 have d0 := t1.cell0
 have d1 := t1.cell1
 have d2 := t2.cell0
 have d3 := t2.cell1
 clear t1 t2 t3 hBW
 go_enter Try.func66, Try.ntmps66
 go_wp2_with fail
 clear hW
 by_cases hp : (x - y).natAbs < LIM
 ·go_region_held3 (fun w' => w'.cell? ⟨n, 0, none⟩ = some (.bool sx) ∧ w'.cell? ⟨n, 1, none⟩ = some (.slice ax nx cx) ∧ w'.cell? ⟨n + 1, 0, none⟩ = some (.bool sy) ∧ w'.cell? ⟨n + 1, 1, none⟩ = some (.slice ay ny cy))
   (first | (exact HS.out) | (exact Held4.set2 HS.out _ _) | go_keep)
   (first
    | (go_at_call 57; refine (Hs1.out _ HBW.out.drew).mono ?_; rintro e w5 ⟨rfl, hB5⟩; have HB5 := Lib.hid hB5; have HS5 := Lib.hid (HS0.out.below hB5 hs0); have s5 := HS5.out.2; have HS := Lib.hid HS5.out.1; have HBW5 := Lib.hid (HBW.out.drew.trans (hB5.mono (by omega))); clear hB5)
    | (go_at_call 92; refine (Ha.out w5 HBW5.out).mono ?_; rintro e w6 hL; obtain ⟨a6, l6, c6, rfl, hm6, hB6⟩ := hL.ok hp; have Hm6 := Lib.hid hm6; clear hm6; have HB6 := Lib.hid hB6; have HS6 := Lib.hid (HS.out.below hB6 s5); clear HS; have s6 := HS6.out.2; have HS := Lib.hid HS6.out.1; have T6 := (T3.out.below HB5.out (by omega)).below hB6 (by omega); have g0 := T6.cell0; have g1 := T6.cell1; have g2 := T6.frozen 0; have g3 := T6.frozen 1; have T6 := Lib.hid T6; clear hB6))
  go_wp2
  refine bodyPost_ret (v := .tuple #[.agg #[.bool (decide (x - y < 0)), .slice a6 l6 c6], .int .i64 0]) (by simp [results, Try.results66, go_sem, g0, g1]) rfl ⟨?_, .inl ⟨hp, _, rfl, WInt.mk rfl ?_⟩⟩
  ·rw [Hn.out]
   exact ((HBW5.out.trans (HB6.out.mono (by omega))).setCell (p := ⟨n + 1 + 1, 0, none⟩) (by show n ≤ n + 1 + 1; omega) _).setCell (p := ⟨n + 1 + 1, 1, none⟩) (by show n ≤ n + 1 + 1; omega) _
  ·exact RowAt.store_two Hm6.out T6.out (fun _ _ h => by cases h) (fun _ _ h => by cases h) _ _
 ·go_region_held3 (fun w' => w'.cell? ⟨n, 0, none⟩ = some (.bool sx) ∧ w'.cell? ⟨n, 1, none⟩ = some (.slice ax nx cx) ∧ w'.cell? ⟨n + 1, 0, none⟩ = some (.bool sy) ∧ w'.cell? ⟨n + 1, 1, none⟩ = some (.slice ay ny cy))
   (first | (exact HS.out) | (exact Held4.set2 HS.out _ _) | go_keep)
   (first
    | (go_at_call 57; refine (Hs1.out _ HBW.out.drew).mono ?_; rintro e w5 ⟨rfl, hB5⟩; have HB5 := Lib.hid hB5; have HS5 := Lib.hid (HS0.out.below hB5 hs0); have s5 := HS5.out.2; have HS := Lib.hid HS5.out.1; have HBW5 := Lib.hid (HBW.out.drew.trans (hB5.mono (by omega))); clear hB5)
    | (go_at_call 92; refine (Ha.out w5 HBW5.out).mono ?_; rintro e w6 hL; obtain ⟨rfl, hB6⟩ := hL.big (Nat.le_of_not_lt hp); have HB6 := Lib.hid hB6; have HS6 := Lib.hid (HS.out.below hB6 s5); clear HS; have s6 := HS6.out.2; have HS := Lib.hid HS6.out.1; have T6 := (T3.out.below HB5.out (by omega)).below hB6 (by omega); have g0 := T6.cell0; have g1 := T6.cell1; have g2 := T6.frozen 0; have g3 := T6.frozen 1; have T6 := Lib.hid T6; clear hB6))
  go_wp2
  refine bodyPost_ret (v := .tuple #[.agg #[.bool false, .slice none 0 0], .int .i64 4]) (by simp [results, Try.results66, go_sem, g0, g1]) rfl ⟨?_, .inr ⟨Nat.le_of_not_lt hp, rfl⟩⟩
  rw [Hn.out]
  exact ((HBW5.out.trans (HB6.out.mono (by omega))).setCell (p := ⟨n + 1 + 1, 0, none⟩) (by show n ≤ n + 1 + 1; omega) _).setCell (p := ⟨n + 1 + 1, 1, none⟩) (by show n ≤ n + 1 + 1; omega) _

theorem two_words (m : Nat) (h : m < 18446744073709551616) : val W2 [m % W2, m / W2] = m ∧ Low W2 [m % W2, m / W2] := by
 constructor
 ·show m % 4294967296 + 4294967296 * (m / 4294967296 + 4294967296 * 0) = m
  omega
 ·intro x hx
  simp only [List.mem_cons, List.not_mem_nil, or_false] at hx
  rcases hx with rfl | rfl
  ·exact Nat.mod_lt _ (by decide)
  ·exact (Nat.div_lt_iff_lt_mul (by decide)).2 (by unfold W2; omega)

theorem trim_two (w0 : World) (m : Nat) (hm : m < 18446744073709551616) (g : Nat) (hg : g = w0.heap.size) :
 Calls Try.prog 58 #[.slice (some ⟨g, 0, none⟩) 2 2] (w0.alloc (.cells #[.int .u32 ((m : Int) % 4294967296), .int .u32 ((m : Int) / 4294967296)] 88)) fun e w' =>
  ∃ v', e = .returned v' ∧ MagAt (w0.alloc (.cells #[.int .u32 ((m : Int) % 4294967296), .int .u32 ((m : Int) / 4294967296)] 88)) v' m ∧ (w0.alloc (.cells #[.int .u32 ((m : Int) % 4294967296), .int .u32 ((m : Int) / 4294967296)] 88)) = w' := by
 subst hg
 have hb : Blk (w0.alloc (.cells #[.int .u32 ((m : Int) % 4294967296), .int .u32 ((m : Int) / 4294967296)] 88)) w0.heap.size 88 .u32 [m % W2, m / W2] := by
  unfold Blk
  rw [heap_alloc_new]
  simp only [List.map_cons, List.map_nil, iv, cast_mod, cast_div]
 have h2 := two_words m hm
 have := trim_any _ _ _ (RowAt.of_blk hb (cap := 2) (by simp) (by omega)) h2.2 (by simp)
 rw [h2.1] at this
 exact this

set_option maxRecDepth 100000 in
set_option maxHeartbeats 2000000 in
theorem from_any (z : Int) (w : World) (h1 : -9223372036854775808 ≤ z) (h2 : z ≤ 9223372036854775807) :
 Calls Try.prog 39 #[.int .i64 z] w fun e w' => ∃ v, e = .returned v ∧ WInt w' v z ∧ Below w.heap.size w w' := by
 by_cases hz : z < 0
 ·obtain ⟨m, hm⟩ : ∃ m : Nat, z = -(m : Int) := ⟨z.natAbs, by omega⟩
  subst hm
  have b1 : IntKind.u64.wrap (-(m : Int)) = 18446744073709551616 - (m : Int) := by rw [IntKind.wrap_u64]; omega
  have b2 : IntKind.u64.wrap (-(18446744073709551616 - (m : Int))) = (m : Int) := by rw [IntKind.wrap_u64]; omega
  go_enter Try.func39, Try.ntmps39
  go_wp2_with fail
  clear b1 b2
  refine (trim_two (w.alloc (.cells #[.bool false, .slice none 0 0] 58)) m (by omega) _ (by simp)).mono ?_
  rintro e w1 ⟨v1, rfl, hm1, hw1⟩
  have T1 : Two w1 w.heap.size 58 (.bool false) (.slice none 0 0) := by rw [← hw1]; exact (Two.new w 58 (.bool false) (.slice none 0 0)).alloc _
  have hB1 : Below w.heap.size w w1 := by rw [← hw1]; exact ((Below.refl _ w).alloc (Nat.le_refl _) _).alloc (by simp) _
  rw [hw1] at hm1
  clear hw1
  obtain ⟨a1, c1, rfl, hr1⟩ := hm1
  have Hm1 : Hid (MagAt w1 (.slice a1 (digs W2 m).length c1) m) := Lib.hid ⟨a1, c1, rfl, hr1⟩
  have HT1 := Lib.hid T1
  have HB1 := Lib.hid hB1
  clear hr1 T1 hB1
  go_wp2_with fail
  refine (signed_any true _ m w1 Hm1.out).mono ?_
  rintro e w2 ⟨rfl, hB2⟩
  have hT2 := HT1.out.below hB2 HT1.out.lt
  have g0 := hT2.cell0
  have g1 := hT2.cell1
  have g2 := hT2.frozen 0
  have g3 := hT2.frozen 1
  have HT2 := Lib.hid hT2
  have Hm2 := Lib.hid (RowAt.below Hm1.out (Nat.le_refl _) hB2)
  have z1 := HB1.out.size
  have HB2 := Lib.hid (HB1.out.trans (hB2.mono z1))
  clear hT2 hB2
  go_wp2
  refine bodyPost_ret (v := .agg #[.bool (decide (sgn true m < 0)), .slice a1 (digs W2 m).length c1]) (by simp [results, Try.results39, go_sem, g0, g1]) rfl ⟨_, rfl, WInt.mk ?_ ?_, ?_⟩
  ·rfl
  ·rw [show (-(m : Int) : Int).natAbs = m by omega]
   exact RowAt.store_two Hm2.out HT2.out (fun _ _ h => by cases h) (fun _ _ h => by cases h) _ _
  ·exact (HB2.out.setCell (p := ⟨w.heap.size, 0, none⟩) (Nat.le_refl _) _).setCell (p := ⟨w.heap.size, 1, none⟩) (Nat.le_refl _) _
 ·obtain ⟨m, hm⟩ : ∃ m : Nat, z = (m : Int) := ⟨z.natAbs, by omega⟩
  subst hm
  go_enter Try.func39, Try.ntmps39
  go_wp2_with fail
  refine (trim_two (w.alloc (.cells #[.bool false, .slice none 0 0] 58)) m (by omega) _ (by simp)).mono ?_
  rintro e w1 ⟨v1, rfl, hm1, hw1⟩
  have T1 : Two w1 w.heap.size 58 (.bool false) (.slice none 0 0) := by rw [← hw1]; exact (Two.new w 58 (.bool false) (.slice none 0 0)).alloc _
  have hB1 : Below w.heap.size w w1 := by rw [← hw1]; exact ((Below.refl _ w).alloc (Nat.le_refl _) _).alloc (by simp) _
  rw [hw1] at hm1
  clear hw1
  obtain ⟨a1, c1, rfl, hr1⟩ := hm1
  have Hm1 : Hid (MagAt w1 (.slice a1 (digs W2 m).length c1) m) := Lib.hid ⟨a1, c1, rfl, hr1⟩
  have HT1 := Lib.hid T1
  have HB1 := Lib.hid hB1
  clear hr1 T1 hB1
  go_wp2_with fail
  refine (signed_any false _ m w1 Hm1.out).mono ?_
  rintro e w2 ⟨rfl, hB2⟩
  have hT2 := HT1.out.below hB2 HT1.out.lt
  have g0 := hT2.cell0
  have g1 := hT2.cell1
  have g2 := hT2.frozen 0
  have g3 := hT2.frozen 1
  have HT2 := Lib.hid hT2
  have Hm2 := Lib.hid (RowAt.below Hm1.out (Nat.le_refl _) hB2)
  have z1 := HB1.out.size
  have HB2 := Lib.hid (HB1.out.trans (hB2.mono z1))
  clear hT2 hB2
  go_wp2
  refine bodyPost_ret (v := .agg #[.bool (decide (sgn false m < 0)), .slice a1 (digs W2 m).length c1]) (by simp [results, Try.results39, go_sem, g0, g1]) rfl ⟨_, rfl, WInt.mk ?_ ?_, ?_⟩
  ·rfl
  ·rw [show ((m : Int) : Int).natAbs = m by omega]
   exact RowAt.store_two Hm2.out HT2.out (fun _ _ h => by cases h) (fun _ _ h => by cases h) _ _
  ·exact (HB2.out.setCell (p := ⟨w.heap.size, 0, none⟩) (Nat.le_refl _) _).setCell (p := ⟨w.heap.size, 1, none⟩) (Nat.le_refl _) _

end Go.Proofs.Ytlmbebbdamgfpaa
namespace Go.Proofs.Ytlmbebbdamgfpaa
open Go.RowKit

theorem cmp3_neg (x y : Int) (hx : x < 0) (hy : y < 0) : cmp3 (y.natAbs : Int) (x.natAbs : Int) = cmp3 x y := by
 unfold cmp3
 rw [show ((y.natAbs : Nat) : Int) = -y by omega, show ((x.natAbs : Nat) : Int) = -x by omega]
 by_cases h1 : x < y
 ·rw [if_pos h1, if_pos (by omega)]
 ·rw [if_neg h1, if_neg (by omega)]
  by_cases h2 : y < x
  ·rw [if_pos h2, if_pos (by omega)]
  ·rw [if_neg h2, if_neg (by omega)]
theorem cmp3_pos (x y : Int) (hx : ¬ x < 0) (hy : ¬ y < 0) : cmp3 (x.natAbs : Int) (y.natAbs : Int) = cmp3 x y := by
 rw [show ((y.natAbs : Nat) : Int) = y by omega, show ((x.natAbs : Nat) : Int) = x by omega]

theorem below_drewN2 {B : Nat} {w w' : World} (h : Below B w w') (d : Nat) : Below B w (w'.drewN d) := ⟨h.os, h.tape, h.output, h.size, h.block⟩

set_option maxRecDepth 100000 in
set_option maxHeartbeats 2000000 in
theorem wcompare_any (vx vy : Value) (x y : Int) (w : World) (hx : WInt w vx x) (hy : WInt w vy y) (hlx : x.natAbs < LIM) (hly : y.natAbs < LIM) :
 Calls Try.prog 65 #[vx, vy] w fun e w' => e = .returned (.int .i64 (cmp3 x y)) ∧ Below w.heap.size w w' := by
 obtain ⟨ax, nx, cx, rfl, hmx⟩ := hx.form
 obtain ⟨ay, ny, cy, rfl, hmy⟩ := hy.form
 have hlx' := (lim_len _).2 hlx
 have hly' := (lim_len _).2 hly
 have HX := Lib.hid hmx
 have HY := Lib.hid hmy
 clear hx hy hmx hmy hlx hly
 have HB := Lib.hid (fun b1 b2 => ((Below.refl w.heap.size w).alloc (Nat.le_refl _) (.cells #[.bool b1, .slice ax nx cx] 58)).alloc (by simp) (.cells #[.bool b2, .slice ay ny cy] 58))
 by_cases h1 : x < 0 <;> by_cases h2 : y < 0
 ·have Hc := Lib.hid (fun w' (hb : Below w.heap.size w w') => compare_any (.slice ay ny cy) (.slice ax nx cx) y.natAbs x.natAbs w' (HY.out.below (Nat.le_refl _) hb) (HX.out.below (Nat.le_refl _) hb) (by omega) (by omega))
  rw [cmp3_neg x y h1 h2] at Hc
  rw [decide_eq_true h1, decide_eq_true h2]
  clear h1 h2 HX HY
  go_enter Try.func65, Try.ntmps65
  go_wp2_with fail
  refine (Hc.out _ (HB.out true true)).mono ?_
  rintro e w1 ⟨rfl, d, rfl⟩
  go_wp2
  go_ret
  exact ⟨rfl, below_drewN2 (HB.out true true) d⟩
 ·have Hc := Lib.hid (cmp3_lt (show x < y by omega))
  rw [decide_eq_true h1, decide_eq_false h2]
  clear h1 h2 HX HY
  go_enter Try.func65, Try.ntmps65
  go_wp2
  go_ret
  exact ⟨by rw [Hc.out]; rfl, HB.out true false⟩
 ·have Hc := Lib.hid (cmp3_gt (show y < x by omega))
  rw [decide_eq_false h1, decide_eq_true h2]
  clear h1 h2 HX HY
  go_enter Try.func65, Try.ntmps65
  go_wp2
  go_ret
  exact ⟨by rw [Hc.out]; rfl, HB.out false true⟩
 ·have Hc := Lib.hid (fun w' (hb : Below w.heap.size w w') => compare_any (.slice ax nx cx) (.slice ay ny cy) x.natAbs y.natAbs w' (HX.out.below (Nat.le_refl _) hb) (HY.out.below (Nat.le_refl _) hb) (by omega) (by omega))
  rw [cmp3_pos x y h1 h2] at Hc
  rw [decide_eq_false h1, decide_eq_false h2]
  clear h1 h2 HX HY
  go_enter Try.func65, Try.ntmps65
  go_wp2_with fail
  refine (Hc.out _ (HB.out false false)).mono ?_
  rintro e w1 ⟨rfl, d, rfl⟩
  go_wp2
  go_ret
  exact ⟨rfl, below_drewN2 (HB.out false false) d⟩

theorem wint_zero (w : World) : WInt w (.agg #[.bool false, .slice none 0 0]) 0 := ⟨_, rfl, RowAt.nil none 0 (by omega)⟩

theorem pow_pos_any (a b : Nat) (h : 0 < a) : 0 < a ^ b := Nat.pow_pos h
theorem lim_pos : 0 < LIM := lim_w2 ▸ pow_pos_any W2 512 (by decide)

set_option maxRecDepth 100000 in
set_option maxHeartbeats 2000000 in
theorem sign_any (vx : Value) (x : Int) (w : World) (hx : WInt w vx x) (hlx : x.natAbs < LIM) :
 Calls Try.prog 44 #[vx] w fun e w' => e = .returned (.int .i64 (cmp3 x 0)) ∧ Below w.heap.size w w' := by
 have HX := Lib.hid hx
 obtain ⟨ax, nx, cx, rfl, _⟩ := hx.form
 have HB := Lib.hid ((Below.refl w.heap.size w).alloc (Nat.le_refl _) (.cells #[.bool (decide (x < 0)), .slice ax nx cx] 58))
 have Hc := Lib.hid (wcompare_any _ _ x 0 _ (HX.out.below' (Nat.le_refl _) HB.out) (wint_zero _) hlx lim_pos)
 clear hlx hx
 generalize decide (x < 0) = sx at *
 go_enter Try.func44, Try.ntmps44
 go_wp2_with fail
 refine Hc.out.mono ?_
 rintro e w1 ⟨rfl, hB1⟩
 have HB1 := Lib.hid (HB.out.trans (hB1.mono (by simp)))
 clear hB1
 go_wp2
 go_ret
 exact ⟨rfl, HB1.out⟩

theorem clone_mag (v : Value) (m : Nat) (w : World) (h : MagAt w v m) (hlen : (digs W2 m).length ≤ 1048576) :
 Calls Try.prog 82 #[v] w fun e w' => ∃ a l c, e = .returned (.slice a l c) ∧ MagAt w' (.slice a l c) m ∧ Below w.heap.size w w' := by
 refine (wclone_any v _ w h (by omega)).mono ?_
 rintro e w' ⟨rfl, hb, hB⟩
 exact ⟨_, _, _, rfl, RowAt.of_blk hb (Nat.le_refl _) (by omega), hB⟩

/-- one boxed operand lies as it lay -/
def Held2 (n : Nat) (x1 x2 : Value) (w : World) : Prop := w.cell? ⟨n, 0, none⟩ = some x1 ∧ w.cell? ⟨n, 1, none⟩ = some x2
theorem Held2.below {n : Nat} {x1 x2 : Value} {w w' : World} (h : Held2 n x1 x2 w) (hb : Below w.heap.size w w') (hs : n + 1 + 1 ≤ w.heap.size) : Held2 n x1 x2 w' ∧ n + 1 + 1 ≤ w'.heap.size :=
 ⟨⟨(hb.cell (p := ⟨n, 0, none⟩) (by show n < _; omega)).trans h.1, (hb.cell (p := ⟨n, 1, none⟩) (by show n < _; omega)).trans h.2⟩, by have := hb.size; omega⟩
theorem Held2.set2 {n : Nat} {x1 x2 : Value} {w : World} (h : Held2 n x1 x2 w) (u1 u2 : Value) : Held2 n x1 x2 ((w.setCell ⟨n + 1, 0, none⟩ u1).setCell ⟨n + 1, 1, none⟩ u2) := by
 have e : ∀ b o, b ≠ n + 1 → ((w.setCell ⟨n + 1, 0, none⟩ u1).setCell ⟨n + 1, 1, none⟩ u2).cell? ⟨b, o, none⟩ = w.cell? ⟨b, o, none⟩ := fun b o hb => by
  rw [World.cell?_setCell_other _ _ _ _ (by intro e; injection e; omega), World.cell?_setCell_other _ _ _ _ (by intro e; injection e; omega)]
 exact ⟨(e _ _ (by omega)).trans h.1, (e _ _ (by omega)).trans h.2⟩

theorem boxes2 (w : World) (t : TypeId) (x1 x2 z1 z2 : Value) (n : Nat) (hn : w.heap.size = n) : ∃ W, (w.alloc (.cells #[x1, x2] t)).alloc (.cells #[z1, z2] t) = W ∧
 Two W n t x1 x2 ∧ Two W (n + 1) t z1 z2 ∧ Below n w W ∧ W.heap.size = n + 1 + 1 := by
 subst hn
 refine ⟨_, rfl, (Two.new w t x1 x2).alloc _, ?_, ((Below.refl w.heap.size w).alloc (Nat.le_refl _) _).alloc (by simp) _, by simp⟩
 have := Two.new (w.alloc (.cells #[x1, x2] t)) t z1 z2
 rw [World.size_alloc] at this
 exact this

set_option maxRecDepth 100000 in
set_option maxHeartbeats 4000000 in
theorem neg_any (vx : Value) (x : Int) (w : World) (hx : WInt w vx x) (hlx : x.natAbs < LIM) :
 Calls Try.prog 76 #[vx] w fun e w' => ∃ v, e = .returned v ∧ WInt w' v (-x) ∧ Below w.heap.size w w' := by
 obtain ⟨ax, nx, cx, rfl, hmx⟩ := hx.form
 have hlx' := (lim_len _).2 hlx
 have HX := Lib.hid hmx
 clear hx hmx hlx
 obtain ⟨n, hn⟩ : ∃ n, w.heap.size = n := ⟨_, rfl⟩
 have Hn := Lib.hid hn
 obtain ⟨W, hW, t1, t2, hBW, hsW⟩ := boxes2 w 58 (.bool (decide (x < 0))) (.slice ax nx cx) (.bool false) (.slice none 0 0) n hn
 have Hcl := Lib.hid (fun w' (hb : Below n w w') => clone_mag (.slice ax nx cx) x.natAbs w' (HX.out.below (Nat.le_of_eq hn) hb) (by omega))
 have Hsg := Lib.hid (fun vw w' (hm : MagAt w' vw x.natAbs) => signed_any (!decide (x < 0)) vw x.natAbs w' hm)
 rw [sgn_opp] at Hsg
 clear HX
 generalize decide (x < 0) = sx at *
 have HBW := Lib.hid hBW
 have T2 : Hid (Two W.drew (n + 1) 58 (.bool false) (.slice none 0 0)) := Lib.hid t2
 have HS0 : Hid (Held2 n (.bool sx) (.slice ax nx cx) W.drew) := Lib.hid ⟨t1.cell0, t1.cell1⟩
 have hs0 : n + 1 + 1 ≤ W.drew.heap.size := by show _ ≤ W.heap.size; omega
 have d0 := t1.cell0
 have d1 := t1.cell1
 clear t1 t2 hBW
 go_enter Try.func76, Try.ntmps76
 go_wp2_with fail
 clear hW
 go_region_held3 (fun w' => w'.cell? ⟨n, 0, none⟩ = some (.bool sx) ∧ w'.cell? ⟨n, 1, none⟩ = some (.slice ax nx cx))
  (first | (exact HS.out) | (exact Held2.set2 HS.out _ _) | go_keep)
  (first
   | (go_at_call 82; refine (Hcl.out _ HBW.out.drew).mono ?_; rintro e w5 ⟨a5, l5, c5, rfl, hm5, hB5⟩; have Hm5 := Lib.hid hm5; have HB5 := Lib.hid hB5; have HS5 := Lib.hid (HS0.out.below hB5 hs0); have s5 := HS5.out.2; have HS := Lib.hid HS5.out.1; have HBW5 := Lib.hid (HBW.out.drew.trans (hB5.mono (by omega))); clear hB5 hm5)
   | (go_at_call 57; refine (Hsg.out _ w5 Hm5.out).mono ?_; rintro e w6 ⟨rfl, hB6⟩; have Hm6 := Lib.hid (RowAt.below Hm5.out (Nat.le_refl _) hB6); have HB6 := Lib.hid hB6; have HS6 := Lib.hid (HS.out.below hB6 s5); clear HS; have s6 := HS6.out.2; have HS := Lib.hid HS6.out.1; have T6 := (T2.out.below HB5.out (by omega)).below hB6 (by omega); have g0 := T6.cell0; have g1 := T6.cell1; have g2 := T6.frozen 0; have g3 := T6.frozen 1; have T6 := Lib.hid T6; clear hB6))
 go_wp2
 refine bodyPost_ret (v := .agg #[.bool (decide (-x < 0)), .slice a5 l5 c5]) (by simp [results, Try.results76, go_sem, g0, g1]) rfl ⟨_, rfl, WInt.mk rfl ?_, ?_⟩
 ·rw [Int.natAbs_neg]
  exact RowAt.store_two Hm6.out T6.out (fun _ _ h => by cases h) (fun _ _ h => by cases h) _ _
 ·rw [Hn.out]
  exact ((HBW5.out.trans (HB6.out.mono (by omega))).setCell (p := ⟨n + 1, 0, none⟩) (by show n ≤ n + 1; omega) _).setCell (p := ⟨n + 1, 1, none⟩) (by show n ≤ n + 1; omega) _

end Go.Proofs.Ytlmbebbdamgfpaa
namespace Go.Proofs.Ytlmbebbdamgfpaa
open Go.RowKit

def smallV (z : Int) : Value := if -9223372036854775808 ≤ z ∧ z ≤ 9223372036854775807 then .tuple #[.int .i64 z, .bool true] else .tuple #[.int .i64 0, .bool false]

theorem or_zero_u64 (y : Nat) (hy : y < 4294967296) : bits BinOp.or IntKind.u64 0 (y : Int) = (y : Int) := by
 have h := u64_or_nat 0 y (by omega) (by omega)
 rw [Nat.zero_or] at h
 exact h
theorem or_high_u64 (x y : Nat) (hx : x < 4294967296) (hy : y < 4294967296) : bits BinOp.or IntKind.u64 (x : Int) ((y : Int) * 4294967296) = ((x + y * 4294967296 : Nat) : Int) := by
 have h := u64_or_nat x (y * 4294967296) (by omega) (by omega)
 have e : (((y * 4294967296 : Nat)) : Int) = (y : Int) * 4294967296 := by omega
 rw [e] at h
 rw [h]
 have h2 : x ||| y * 2 ^ 32 = y * 2 ^ 32 + x := by rw [Nat.or_comm, Nat.mul_comm, ← Nat.two_pow_add_eq_or_of_lt hx]
 have h3 : x ||| y * 4294967296 = x + y * 4294967296 := by rw [Nat.add_comm]; exact h2
 rw [h3]

set_option maxRecDepth 100000 in
set_option maxHeartbeats 4000000 in
theorem small_any (vx : Value) (z : Int) (w : World) (hx : WInt w vx z) (hlx : z.natAbs < LIM) :
 Calls Try.prog 52 #[vx] w fun e w' => e = .returned (smallV z) ∧ Below w.heap.size w w' := by
 obtain ⟨ax, nx, cx, rfl, hmx⟩ := hx.form
 have hlen := (lim_len _).2 hlx
 obtain ⟨a', c', hv, q1, q2, hc⟩ := hmx
 injection hv with e1 e2 e3
 subst e1 e2 e3
 have Hc := Lib.hid hc
 have Hlow := Lib.hid (digs_low W2 w2_two z.natAbs)
 have Hval := Lib.hid (val_digs W2 w2_two z.natAbs)
 clear hx hc hlx
 have HB := Lib.hid (fun b1 n1 => (Below.refl w.heap.size w).alloc (Nat.le_refl _) (.cells #[.bool b1, .slice ax n1 cx] 58))
 obtain ⟨A, hA⟩ : ∃ A, digs W2 z.natAbs = A := ⟨_, rfl⟩
 have HA := Lib.hid hA
 rw [hA] at Hc Hlow Hval hlen q1 ⊢
 clear hA
 obtain ⟨N, hN⟩ : ∃ N, A.length = N := ⟨_, rfl⟩
 have HN := Lib.hid hN
 rw [hN] at hlen q1 ⊢
 clear hN
 by_cases h2 : 2 < N
 ·have Hbig : Hid (smallV z = .tuple #[.int .i64 0, .bool false]) := Lib.hid (by
   have h3 : W2 ^ 2 ≤ z.natAbs := by
    rcases Nat.lt_or_ge z.natAbs (W2 ^ 2) with h | h
    ·have := digs_len_le W2 w2_two 2 z.natAbs h
     rw [HA.out, HN.out] at this
     omega
    ·exact h
   have h4 : W2 ^ 2 = 18446744073709551616 := rfl
   unfold smallV
   rw [if_neg (by omega)])
  go_enter Try.func52, Try.ntmps52
  go_wp2
  go_ret2
  exact ⟨by rw [Hbig.out]; rfl, HB.out _ _⟩
 ·go_enter Try.func52, Try.ntmps52
  go_wp2_with fail
  go_loopw [4, 14] (fun sv i wr => ∃ (k s : Nat), k ≤ N ∧ i = .int .i64 k ∧ sv = .int .u64 (s : Int) ∧ Hid (s = val W2 (A.take k)) ∧ Hid (w.alloc (.cells #[.bool (decide (z < 0)), .slice ax N cx] 58) = wr)) (fun _ i _ => N - (intOf i).toNat)
  case atStart => exact ⟨0, 0, by omega, rfl, rfl, Lib.hid (by simp [val]), Lib.hid rfl⟩
  case round =>
   obtain ⟨k, s, hk, rfl, rfl, hs, hw⟩ := hrel
   by_cases hlt : k < N
   ·have hka : k < A.length := by rw [HN.out]; exact hlt
    obtain ⟨b, off, rfl, hb, hcc⟩ := Hc.out (by omega)
    have hyl : A[k] < 4294967296 := Hlow.out _ (List.getElem_mem hka)
    have cy : wr.cell? ⟨b, off + k, none⟩ = some (.int .u32 (A[k] : Int)) := by
     rw [← hw.out, World.cell?_alloc_lt _ _ _ hb]; exact hcc k hka
    have Hst := Lib.hid (val_take_succ W2 A k hka)
    clear hcc
    generalize A[k] = y at *
    have hk2 : k = 0 ∨ k = 1 := by omega
    rcases hk2 with rfl | rfl
    ·obtain rfl : s = 0 := by rw [hs.out]; simp [val]
     have hor := or_zero_u64 y hyl
     rw [Nat.add_zero] at cy
     go_wp2_with fail
     refine ⟨⟨1, y, by omega, rfl, rfl, Lib.hid ?_, hw⟩, ?_⟩
     ·have := Hst.out
      rw [Nat.zero_add] at this
      rw [this]; simp [val]
     ·simp [intOf]; omega
    ·have hs1 : s < 4294967296 := by
      have h3 := val_lt W2 (by decide) (A.take 1) (low_take Hlow.out 1)
      rw [List.length_take, Nat.min_eq_left (by omega)] at h3
      rw [hs.out]
      exact h3
     have hor := or_high_u64 s y hs1 hyl
     go_wp2_with fail
     refine ⟨⟨2, s + y * 4294967296, by omega, rfl, by go_num, Lib.hid ?_, hw⟩, ?_⟩
     ·have := Hst.out
      rw [show 1 + 1 = 2 from rfl] at this
      rw [this, ← hs.out]
      rfl
     ·simp [intOf]; omega
   ·obtain rfl : k = N := by omega
    clear hlt
    obtain rfl : s = z.natAbs := by
     rw [hs.out, List.take_of_length_le (by rw [HN.out]; exact Nat.le_refl _)]; exact Hval.out
    have hs2 : z.natAbs < 18446744073709551616 := by
     have h3 := val_lt W2 (by decide) A Hlow.out
     rw [Hval.out, HN.out] at h3
     have h4 : W2 ^ k ≤ W2 ^ 2 := Nat.pow_le_pow_right (by decide) (by omega)
     have h5 : W2 ^ 2 = 18446744073709551616 := rfl
     omega
    have HBw : Hid (Below w.heap.size w wr) := Lib.hid (by rw [← hw.out]; exact HB.out _ _)
    have cneg : wr.cell? ⟨w.heap.size, 0, none⟩ = some (.bool (decide (z < 0))) := by
     rw [← hw.out]; exact (Two.new w 58 _ _).cell0
    clear hw Hc HB hs
    by_cases hz : z < 0
    ·rw [decide_eq_true hz] at cneg
     have hza : (z.natAbs : Int) = -z := by omega
     obtain ⟨m, hm⟩ : ∃ m, z.natAbs = m := ⟨_, rfl⟩
     rw [hm] at hs2 hza ⊢
     have hmp : 0 < m := by omega
     by_cases hbig : 9223372036854775808 < m
     ·have Hb : Hid (smallV z = .tuple #[.int .i64 0, .bool false]) := Lib.hid (by unfold smallV; rw [if_neg (by omega)])
      clear hm hza
      go_wp2
      go_ret2
      exact ⟨by rw [Hb.out]; rfl, HBw.out⟩
     ·have Hb : Hid (smallV z = .tuple #[.int .i64 (-(m : Int)), .bool true]) := Lib.hid (by unfold smallV; rw [if_pos (by omega), hza, Int.neg_neg])
      have b1 : IntKind.u64.wrap (-(m : Int)) = 18446744073709551616 - (m : Int) := by rw [IntKind.wrap_u64]; omega
      have b2 : IntKind.i64.wrap (18446744073709551616 - (m : Int)) = -(m : Int) := by rw [IntKind.wrap_i64]; omega
      clear hm hza
      go_wp2
      go_ret2
      exact ⟨by rw [Hb.out]; rfl, HBw.out⟩
    ·rw [decide_eq_false hz] at cneg
     have hza : (z.natAbs : Int) = z := by omega
     obtain ⟨m, hm⟩ : ∃ m, z.natAbs = m := ⟨_, rfl⟩
     rw [hm] at hs2 hza ⊢
     by_cases hbig : 9223372036854775807 < m
     ·have Hb : Hid (smallV z = .tuple #[.int .i64 0, .bool false]) := Lib.hid (by unfold smallV; rw [if_neg (by omega)])
      clear hm hza
      go_wp2
      go_ret2
      exact ⟨by rw [Hb.out]; rfl, HBw.out⟩
     ·have Hb : Hid (smallV z = .tuple #[.int .i64 (m : Int), .bool true]) := Lib.hid (by unfold smallV; rw [if_pos (by omega), hza])
      clear hm hza
      go_wp2
      go_ret2
      exact ⟨by rw [Hb.out]; rfl, HBw.out⟩

def cntV : Value → Nat
 | .int _ i => (i + 1).toNat
 | _ => 0

end Go.Proofs.Ytlmbebbdamgfpaa
