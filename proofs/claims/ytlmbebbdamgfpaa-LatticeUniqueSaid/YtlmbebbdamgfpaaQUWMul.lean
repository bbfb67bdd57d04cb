/- wide: Mul, Neg, Add, Sub. -/
import Derived.Test.YtlmbebbdamgfpaaQUWInt
set_option linter.unusedVariables false
set_option linter.unusedSimpArgs false
namespace Go.Proofs.Ytlmbebbdamgfpaa
open Go.RowKit

theorem sgn_mul (x y : Int) : sgn (decide (x < 0) != decide (y < 0)) (x.natAbs * y.natAbs) = x * y := by
 unfold sgn
 rcases Int.lt_or_le x 0 with hx | hx <;> rcases Int.lt_or_le y 0 with hy | hy
 all_goals
  obtain ⟨a, ha⟩ := Int.eq_ofNat_of_zero_le (show (0 : Int) ≤ x.natAbs by omega)
  simp [hx, hy, Int.not_lt.2]
 ·rw [show ((x.natAbs : Nat) : Int) = -x by omega, show ((y.natAbs : Nat) : Int) = -y by omega]; grind
 ·rw [show ((x.natAbs : Nat) : Int) = -x by omega, show ((y.natAbs : Nat) : Int) = y by omega]; grind
 ·rw [show ((x.natAbs : Nat) : Int) = x by omega, show ((y.natAbs : Nat) : Int) = -y by omega]; grind
 ·rw [show ((x.natAbs : Nat) : Int) = x by omega, show ((y.natAbs : Nat) : Int) = y by omega]

theorem digs_len_mul (m n a b : Nat) (ha : (digs W2 m).length ≤ a) (hb : (digs W2 n).length ≤ b) : (digs W2 (m * n)).length ≤ a + b := by
 apply digs_len_le W2 w2_two
 rw [Nat.pow_add]
 have h1 := val_lt W2 (by decide) _ (digs_low W2 w2_two m)
 have h2 := val_lt W2 (by decide) _ (digs_low W2 w2_two n)
 rw [val_digs W2 w2_two] at h1 h2
 exact Nat.mul_lt_mul'' (Nat.lt_of_lt_of_le h1 (Nat.pow_le_pow_right (by decide) ha)) (Nat.lt_of_lt_of_le h2 (Nat.pow_le_pow_right (by decide) hb))

set_option maxRecDepth 100000 in
set_option maxHeartbeats 2000000 in
theorem mul_any (vx vy : Value) (x y : Int) (w : World) (hx : WInt w vx x) (hy : WInt w vy y) (hlx : x.natAbs < LIM) (hly : y.natAbs < LIM) :
 Calls Try.prog 67 #[vx, vy] w (LimPost (x * y) w) := by
 obtain ⟨ax, nx, cx, rfl, hmx⟩ := hx.form
 obtain ⟨ay, ny, cy, rfl, hmy⟩ := hy.form
 have hlx' := (lim_len _).2 hlx
 have hly' := (lim_len _).2 hly
 have HX := Lib.hid hmx
 have HY := Lib.hid hmy
 have Hsm := Lib.hid (sgn_mul x y)
 have hprod := digs_len_mul x.natAbs y.natAbs 512 512 hlx' hly'
 clear hx hy hmx hmy hlx hly
 obtain ⟨n, hn⟩ : ∃ n, w.heap.size = n := ⟨_, rfl⟩
 have Hn := Lib.hid hn
 have Ht := Lib.hid (fun w' (hb : Below n w w') => times_any (.slice ax nx cx) (.slice ay ny cy) x.natAbs y.natAbs w' (HX.out.below (Nat.le_of_eq hn) hb) (HY.out.below (Nat.le_of_eq hn) hb) (by omega) (by omega))
 have Hneg := Lib.hid (show decide (x * y < 0) = decide (sgn (decide (x < 0) != decide (y < 0)) (x.natAbs * y.natAbs) < 0) by rw [sgn_mul])
 have Habs : Hid ((x * y).natAbs = x.natAbs * y.natAbs) := Lib.hid (Int.natAbs_mul x y)
 clear Hsm HX HY hlx' hly'
 obtain ⟨W, hW, t1, t2, t3, hBW, hsW⟩ := boxes3 w 58 (.bool (decide (x < 0))) (.slice ax nx cx) (.bool (decide (y < 0))) (.slice ay ny cy) (.bool false) (.slice none 0 0) n hn
 generalize decide (x < 0) = sx at *
 generalize decide (y < 0) = sy at *
 generalize x.natAbs * y.natAbs = p at *
 have HBW := Lib.hid hBW
 have T3 : Hid (Two W.drew (n + 1 + 1) 58 (.bool false) (.slice none 0 0)) := Lib.hid t3
 have HS0 : Hid (Held4 n (.bool sx) (.slice ax nx cx) (.bool sy) (.slice ay ny cy) W.drew) := Lib.hid ⟨t1.cell0, t1.cell1, t2.cell0, t2.cell1⟩
 have hs0 : n + 1 + 1 + 1 ≤ W.drew.heap.size := by show _ ≤ W.heap.size; omega
 have d0 := t1.cell0
 have d1 := t1.cell1
 have d2 := t2.cell0
 have d3 := t2.cell1
 clear t1 t2 t3 hBW
 go_enter Try.func67, Try.ntmps67
 go_wp2_with fail
 clear hW
 by_cases hp : p < LIM
 ·go_region_held3 (fun w' => w'.cell? ⟨n, 0, none⟩ = some (.bool sx) ∧ w'.cell? ⟨n, 1, none⟩ = some (.slice ax nx cx) ∧ w'.cell? ⟨n + 1, 0, none⟩ = some (.bool sy) ∧ w'.cell? ⟨n + 1, 1, none⟩ = some (.slice ay ny cy))
   (first | (exact HS.out) | (exact Held4.set2 HS.out _ _) | go_keep)
   (first
    | (go_at_call 94; refine (Ht.out _ HBW.out.drew).mono ?_; rintro e w5 ⟨v5, rfl, hm5, hB5⟩; have Hm5 := Lib.hid hm5; have HB5 := Lib.hid hB5; have HS5 := Lib.hid (HS0.out.below hB5 hs0); have s5 := HS5.out.2; have HS := Lib.hid HS5.out.1; clear hm5 hB5)
    | (go_at_call 93; refine (limited_ok _ _ p w5 Hm5.out hp).mono ?_; rintro e w6 ⟨a6, l6, c6, rfl, hm6, hB6⟩; have Hm6 := Lib.hid hm6; clear hm6; have HB6 := Lib.hid hB6; have HS6 := Lib.hid (HS.out.below hB6 s5); clear HS; have s6 := HS6.out.2; have HS := Lib.hid HS6.out.1; have T6 := (T3.out.below HB5.out (by omega)).below hB6 (by omega); have g0 := T6.cell0; have g1 := T6.cell1; have g2 := T6.frozen 0; have g3 := T6.frozen 1; have T6 := Lib.hid T6; clear hB6))
  go_wp2
  refine bodyPost_ret (v := .tuple #[.agg #[.bool (decide (sgn (!sx == sy) p < 0)), .slice a6 l6 c6], .int .i64 0]) (by simp [results, Try.results67, go_sem, g0, g1]) rfl ⟨?_, .inl ⟨by rw [Habs.out]; exact hp, _, rfl, WInt.mk ?_ ?_⟩⟩
  ·rw [Hn.out]
   exact (((HBW.out.drew.trans (HB5.out.mono (by omega))).trans (HB6.out.mono (by omega))).setCell (p := ⟨n + 1 + 1, 0, none⟩) (by show n ≤ n + 1 + 1; omega) _).setCell (p := ⟨n + 1 + 1, 1, none⟩) (by show n ≤ n + 1 + 1; omega) _
  ·rw [Hneg.out]; cases sx <;> cases sy <;> rfl
  ·rw [Habs.out]
   exact RowAt.store_two Hm6.out T6.out (fun _ _ h => by cases h) (fun _ _ h => by cases h) _ _
 ·go_region_held3 (fun w' => w'.cell? ⟨n, 0, none⟩ = some (.bool sx) ∧ w'.cell? ⟨n, 1, none⟩ = some (.slice ax nx cx) ∧ w'.cell? ⟨n + 1, 0, none⟩ = some (.bool sy) ∧ w'.cell? ⟨n + 1, 1, none⟩ = some (.slice ay ny cy))
   (first | (exact HS.out) | (exact Held4.set2 HS.out _ _) | go_keep)
   (first
    | (go_at_call 94; refine (Ht.out _ HBW.out.drew).mono ?_; rintro e w5 ⟨v5, rfl, hm5, hB5⟩; have Hm5 := Lib.hid hm5; have HB5 := Lib.hid hB5; have HS5 := Lib.hid (HS0.out.below hB5 hs0); have s5 := HS5.out.2; have HS := Lib.hid HS5.out.1; clear hm5 hB5)
    | (go_at_call 93; refine (limited_big _ _ p w5 Hm5.out (Nat.le_of_not_lt hp) (by omega)).mono ?_; rintro e w6 ⟨rfl, hB6⟩; have HB6 := Lib.hid hB6; have HS6 := Lib.hid (HS.out.below hB6 s5); clear HS; have s6 := HS6.out.2; have HS := Lib.hid HS6.out.1; have T6 := (T3.out.below HB5.out (by omega)).below hB6 (by omega); have g0 := T6.cell0; have g1 := T6.cell1; have g2 := T6.frozen 0; have g3 := T6.frozen 1; have T6 := Lib.hid T6; clear hB6))
  go_wp2
  refine bodyPost_ret (v := .tuple #[.agg #[.bool false, .slice none 0 0], .int .i64 4]) (by simp [results, Try.results67, go_sem, g0, g1]) rfl ⟨?_, .inr ⟨by rw [Habs.out]; exact Nat.le_of_not_lt hp, rfl⟩⟩
  ·rw [Hn.out]
   exact (((HBW.out.drew.trans (HB5.out.mono (by omega))).trans (HB6.out.mono (by omega))).setCell (p := ⟨n + 1 + 1, 0, none⟩) (by show n ≤ n + 1 + 1; omega) _).setCell (p := ⟨n + 1 + 1, 1, none⟩) (by show n ≤ n + 1 + 1; omega) _

theorem digs_len_add (m n a : Nat) (ha : (digs W2 m).length ≤ a) (hb : (digs W2 n).length ≤ a) : (digs W2 (m + n)).length ≤ a + 1 := by
 apply digs_len_le W2 w2_two
 have h1 := val_lt W2 (by decide) _ (digs_low W2 w2_two m)
 have h2 := val_lt W2 (by decide) _ (digs_low W2 w2_two n)
 rw [val_digs W2 w2_two] at h1 h2
 have h3 := Nat.lt_of_lt_of_le h1 (Nat.pow_le_pow_right (by decide) ha)
 have h4 := Nat.lt_of_lt_of_le h2 (Nat.pow_le_pow_right (by decide) hb)
 rw [Nat.pow_succ]
 have : W2 ^ a * 2 ≤ W2 ^ a * W2 := Nat.mul_le_mul_left _ (by decide)
 omega

theorem sgn_add_same (x y : Int) (h : decide (x < 0) = decide (y < 0)) : sgn (decide (x < 0)) (x.natAbs + y.natAbs) = x + y := by
 unfold sgn
 by_cases hx : x < 0
 ·have hy : y < 0 := by simpa [hx] using h.symm
  simp [hx]; omega
 ·have hy : ¬ y < 0 := by simpa [hx] using h.symm
  simp [hx]; omega

theorem sgn_add_ge (x y : Int) (h : decide (x < 0) ≠ decide (y < 0)) (hle : y.natAbs ≤ x.natAbs) : sgn (decide (x < 0)) (x.natAbs - y.natAbs) = x + y := by
 unfold sgn
 by_cases hx : x < 0
 ·have hy : ¬ y < 0 := fun hy => h (by simp [hx, hy])
  simp [hx]; omega
 ·have hy : y < 0 := Classical.byContradiction fun hy => h (by simp [hx, hy])
  simp [hx]; omega

theorem cmp3_ge (m n : Nat) : decide (0 ≤ cmp3 (m : Int) (n : Int)) = decide (n ≤ m) := by
 unfold cmp3
 by_cases h1 : (m : Int) < n
 ·rw [if_pos h1]; simp; omega
 ·rw [if_neg h1]
  by_cases h2 : (n : Int) < m
  ·rw [if_pos h2]; simp; omega
  ·rw [if_neg h2]; simp; omega

set_option maxRecDepth 100000 in
set_option maxHeartbeats 4000000 in
theorem add_any (vx vy : Value) (x y : Int) (w : World) (hx : WInt w vx x) (hy : WInt w vy y) (hlx : x.natAbs < LIM) (hly : y.natAbs < LIM) :
 Calls Try.prog 92 #[vx, vy] w (LimPost (x + y) w) := by
 obtain ⟨ax, nx, cx, rfl, hmx⟩ := hx.form
 obtain ⟨ay, ny, cy, rfl, hmy⟩ := hy.form
 have hlx' := (lim_len _).2 hlx
 have hly' := (lim_len _).2 hly
 have HX := Lib.hid hmx
 have HY := Lib.hid hmy
 clear hx hy hmx hmy hlx hly
 obtain ⟨n, hn⟩ : ∃ n, w.heap.size = n := ⟨_, rfl⟩
 have Hn := Lib.hid hn
 obtain ⟨W, hW, t1, t2, t3, hBW, hsW⟩ := boxes3 w 58 (.bool (decide (x < 0))) (.slice ax nx cx) (.bool (decide (y < 0))) (.slice ay ny cy) (.bool false) (.slice none 0 0) n hn
 by_cases hs : decide (x < 0) = decide (y < 0)
 ·have hprod := digs_len_add x.natAbs y.natAbs 512 hlx' hly'
  have Ht := Lib.hid (fun w' (hb : Below n w w') => plus_any (.slice ax nx cx) (.slice ay ny cy) x.natAbs y.natAbs w' (HX.out.below (Nat.le_of_eq hn) hb) (HY.out.below (Nat.le_of_eq hn) hb) (by omega) (by omega))
  have Hneg := Lib.hid (show decide (x + y < 0) = decide (sgn (decide (x < 0)) (x.natAbs + y.natAbs) < 0) by rw [sgn_add_same x y hs])
  have Habs : Hid ((x + y).natAbs = x.natAbs + y.natAbs) := Lib.hid (by rw [← sgn_add_same x y hs, sgn_natAbs])
  have hss : (decide (x < 0) == decide (y < 0)) = true := by rw [hs]; simp
  clear HX HY hlx' hly' hs
  generalize decide (x < 0) = sx at *
  generalize decide (y < 0) = sy at *
  generalize x.natAbs + y.natAbs = p at *
  have HBW := Lib.hid hBW
  have T3 : Hid (Two W.drew (n + 1 + 1) 58 (.bool false) (.slice none 0 0)) := Lib.hid t3
  have HS0 : Hid (Held4 n (.bool sx) (.slice ax nx cx) (.bool sy) (.slice ay ny cy) W.drew) := Lib.hid ⟨t1.cell0, t1.cell1, t2.cell0, t2.cell1⟩
  have hs0 : n + 1 + 1 + 1 ≤ W.drew.heap.size := by show _ ≤ W.heap.size; omega
  have d0 := t1.cell0
  have d1 := t1.cell1
  have d2 := t2.cell0
  have d3 := t2.cell1
  clear t1 t2 t3 hBW
  go_enter Try.func92, Try.ntmps92
  go_wp2_with fail
  clear hW
  by_cases hp : p < LIM
  ·go_region_held3 (fun w' => w'.cell? ⟨n, 0, none⟩ = some (.bool sx) ∧ w'.cell? ⟨n, 1, none⟩ = some (.slice ax nx cx) ∧ w'.cell? ⟨n + 1, 0, none⟩ = some (.bool sy) ∧ w'.cell? ⟨n + 1, 1, none⟩ = some (.slice ay ny cy))
    (first | (exact HS.out) | (exact Held4.set2 HS.out _ _) | go_keep)
    (first
     | (go_at_call 63; refine (Ht.out _ HBW.out.drew).mono ?_; rintro e w5 ⟨v5, rfl, hm5, hB5⟩; have Hm5 := Lib.hid hm5; have HB5 := Lib.hid hB5; have HS5 := Lib.hid (HS0.out.below hB5 hs0); have s5 := HS5.out.2; have HS := Lib.hid HS5.out.1; clear hm5 hB5)
     | (go_at_call 93; refine (limited_ok _ _ p w5 Hm5.out hp).mono ?_; rintro e w6 ⟨a6, l6, c6, rfl, hm6, hB6⟩; have Hm6 := Lib.hid hm6; clear hm6; have HB6 := Lib.hid hB6; have HS6 := Lib.hid (HS.out.below hB6 s5); clear HS; have s6 := HS6.out.2; have HS := Lib.hid HS6.out.1; have T6 := (T3.out.below HB5.out (by omega)).below hB6 (by omega); have g0 := T6.cell0; have g1 := T6.cell1; have g2 := T6.frozen 0; have g3 := T6.frozen 1; have T6 := Lib.hid T6; clear hB6))
   go_wp2
   refine bodyPost_ret (v := .tuple #[.agg #[.bool (decide (sgn (sx) p < 0)), .slice a6 l6 c6], .int .i64 0]) (by simp [results, Try.results92, go_sem, g0, g1]) rfl ⟨?_, .inl ⟨by rw [Habs.out]; exact hp, _, rfl, WInt.mk ?_ ?_⟩⟩
   ·rw [Hn.out]
    exact (((HBW.out.drew.trans (HB5.out.mono (by omega))).trans (HB6.out.mono (by omega))).setCell (p := ⟨n + 1 + 1, 0, none⟩) (by show n ≤ n + 1 + 1; omega) _).setCell (p := ⟨n + 1 + 1, 1, none⟩) (by show n ≤ n + 1 + 1; omega) _
   ·exact Hneg.out
   ·rw [Habs.out]
    exact RowAt.store_two Hm6.out T6.out (fun _ _ h => by cases h) (fun _ _ h => by cases h) _ _
  ·go_region_held3 (fun w' => w'.cell? ⟨n, 0, none⟩ = some (.bool sx) ∧ w'.cell? ⟨n, 1, none⟩ = some (.slice ax nx cx) ∧ w'.cell? ⟨n + 1, 0, none⟩ = some (.bool sy) ∧ w'.cell? ⟨n + 1, 1, none⟩ = some (.slice ay ny cy))
    (first | (exact HS.out) | (exact Held4.set2 HS.out _ _) | go_keep)
    (first
     | (go_at_call 63; refine (Ht.out _ HBW.out.drew).mono ?_; rintro e w5 ⟨v5, rfl, hm5, hB5⟩; have Hm5 := Lib.hid hm5; have HB5 := Lib.hid hB5; have HS5 := Lib.hid (HS0.out.below hB5 hs0); have s5 := HS5.out.2; have HS := Lib.hid HS5.out.1; clear hm5 hB5)
     | (go_at_call 93; refine (limited_big _ _ p w5 Hm5.out (Nat.le_of_not_lt hp) (by omega)).mono ?_; rintro e w6 ⟨rfl, hB6⟩; have HB6 := Lib.hid hB6; have HS6 := Lib.hid (HS.out.below hB6 s5); clear HS; have s6 := HS6.out.2; have HS := Lib.hid HS6.out.1; have T6 := (T3.out.below HB5.out (by omega)).below hB6 (by omega); have g0 := T6.cell0; have g1 := T6.cell1; have g2 := T6.frozen 0; have g3 := T6.frozen 1; have T6 := Lib.hid T6; clear hB6))
   go_wp2
   refine bodyPost_ret (v := .tuple #[.agg #[.bool false, .slice none 0 0], .int .i64 4]) (by simp [results, Try.results92, go_sem, g0, g1]) rfl ⟨?_, .inr ⟨by rw [Habs.out]; exact Nat.le_of_not_lt hp, rfl⟩⟩
   ·rw [Hn.out]
    exact (((HBW.out.drew.trans (HB5.out.mono (by omega))).trans (HB6.out.mono (by omega))).setCell (p := ⟨n + 1 + 1, 0, none⟩) (by show n ≤ n + 1 + 1; omega) _).setCell (p := ⟨n + 1 + 1, 1, none⟩) (by show n ≤ n + 1 + 1; omega) _
 ·have hss : (decide (x < 0) == decide (y < 0)) = false := by simpa using hs
  have Hcm := Lib.hid (fun w' (hb : Below n w w') => compare_any (.slice ax nx cx) (.slice ay ny cy) x.natAbs y.natAbs w' (HX.out.below (Nat.le_of_eq hn) hb) (HY.out.below (Nat.le_of_eq hn) hb) (by omega) (by omega))
  have hcg := cmp3_ge x.natAbs y.natAbs
  by_cases hle : y.natAbs ≤ x.natAbs
  ·have Ht := Lib.hid (fun w' (hb : Below n w w') => minus_any (.slice ax nx cx) (.slice ay ny cy) x.natAbs y.natAbs w' (HX.out.below (Nat.le_of_eq hn) hb) (HY.out.below (Nat.le_of_eq hn) hb) hle (by omega))
   have hprod : (digs W2 (x.natAbs - y.natAbs)).length ≤ 512 := Nat.le_trans (digs_len_mono W2 w2_two _ _ (Nat.sub_le _ _)) hlx'
   have Hneg := Lib.hid (show decide (x + y < 0) = decide (sgn (decide (x < 0)) (x.natAbs - y.natAbs) < 0) by rw [sgn_add_ge x y hs hle])
   have Habs : Hid ((x + y).natAbs = x.natAbs - y.natAbs) := Lib.hid (by rw [← sgn_add_ge x y hs hle, sgn_natAbs])
   rw [decide_eq_true hle] at hcg
   clear HX HY hlx' hly' hs hle
   generalize decide (x < 0) = sx at *
   generalize decide (y < 0) = sy at *
   generalize x.natAbs - y.natAbs = p at *
   generalize cmp3 (x.natAbs : Int) (y.natAbs : Int) = cm at *
   go_enter Try.func92, Try.ntmps92
   have d0 := t1.cell0
   have d1 := t1.cell1
   have d2 := t2.cell0
   have d3 := t2.cell1
   go_wp2_with fail
   refine (Hcm.out W hBW).mono ?_
   rintro e w2 ⟨rfl, d, hw2⟩
   clear hW
   have t1' : Two w2 n 58 (.bool sx) (.slice ax nx cx) := by rw [hw2]; exact t1
   have t2' : Two w2 (n + 1) 58 (.bool sy) (.slice ay ny cy) := by rw [hw2]; exact t2
   have t3' : Two w2 (n + 1 + 1) 58 (.bool false) (.slice none 0 0) := by rw [hw2]; exact t3
   have hBW2 : Below n w w2 := by rw [hw2]; exact ⟨hBW.os, hBW.tape, hBW.output, hBW.size, hBW.block⟩
   have hsW2 : w2.heap.size = n + 1 + 1 + 1 := by rw [hw2]; exact hsW
   clear t1 t2 t3 hBW hsW hw2 d0 d1 d2 d3
   have d0 := t1'.cell0
   have d1 := t1'.cell1
   have d2 := t2'.cell0
   have d3 := t2'.cell1
   have HBW := Lib.hid hBW2
   have T3 : Hid (Two w2.drew (n + 1 + 1) 58 (.bool false) (.slice none 0 0)) := Lib.hid t3'
   have HS0 : Hid (Held4 n (.bool sx) (.slice ax nx cx) (.bool sy) (.slice ay ny cy) w2.drew) := Lib.hid ⟨t1'.cell0, t1'.cell1, t2'.cell0, t2'.cell1⟩
   have hs0 : n + 1 + 1 + 1 ≤ w2.drew.heap.size := by show _ ≤ w2.heap.size; omega
   clear t1' t2' t3' hBW2
   go_wp2_with fail
   by_cases hp : p < LIM
   ·go_region_held3 (fun w' => w'.cell? ⟨n, 0, none⟩ = some (.bool sx) ∧ w'.cell? ⟨n, 1, none⟩ = some (.slice ax nx cx) ∧ w'.cell? ⟨n + 1, 0, none⟩ = some (.bool sy) ∧ w'.cell? ⟨n + 1, 1, none⟩ = some (.slice ay ny cy))
     (first | (exact HS.out) | (exact Held4.set2 HS.out _ _) | go_keep)
     (first
      | (go_at_call 64; refine (Ht.out _ HBW.out.drew).mono ?_; rintro e w5 ⟨v5, rfl, hm5, hB5⟩; have Hm5 := Lib.hid hm5; have HB5 := Lib.hid hB5; have HS5 := Lib.hid (HS0.out.below hB5 hs0); have s5 := HS5.out.2; have HS := Lib.hid HS5.out.1; clear hm5 hB5)
      | (go_at_call 93; refine (limited_ok _ _ p w5 Hm5.out hp).mono ?_; rintro e w6 ⟨a6, l6, c6, rfl, hm6, hB6⟩; have Hm6 := Lib.hid hm6; clear hm6; have HB6 := Lib.hid hB6; have HS6 := Lib.hid (HS.out.below hB6 s5); clear HS; have s6 := HS6.out.2; have HS := Lib.hid HS6.out.1; have T6 := (T3.out.below HB5.out (by omega)).below hB6 (by omega); have g0 := T6.cell0; have g1 := T6.cell1; have g2 := T6.frozen 0; have g3 := T6.frozen 1; have T6 := Lib.hid T6; clear hB6))
    go_wp2
    refine bodyPost_ret (v := .tuple #[.agg #[.bool (decide (sgn (sx) p < 0)), .slice a6 l6 c6], .int .i64 0]) (by simp [results, Try.results92, go_sem, g0, g1]) rfl ⟨?_, .inl ⟨by rw [Habs.out]; exact hp, _, rfl, WInt.mk ?_ ?_⟩⟩
    ·rw [Hn.out]
     exact (((HBW.out.drew.trans (HB5.out.mono (by omega))).trans (HB6.out.mono (by omega))).setCell (p := ⟨n + 1 + 1, 0, none⟩) (by show n ≤ n + 1 + 1; omega) _).setCell (p := ⟨n + 1 + 1, 1, none⟩) (by show n ≤ n + 1 + 1; omega) _
    ·exact Hneg.out
    ·rw [Habs.out]
     exact RowAt.store_two Hm6.out T6.out (fun _ _ h => by cases h) (fun _ _ h => by cases h) _ _
   ·go_region_held3 (fun w' => w'.cell? ⟨n, 0, none⟩ = some (.bool sx) ∧ w'.cell? ⟨n, 1, none⟩ = some (.slice ax nx cx) ∧ w'.cell? ⟨n + 1, 0, none⟩ = some (.bool sy) ∧ w'.cell? ⟨n + 1, 1, none⟩ = some (.slice ay ny cy))
     (first | (exact HS.out) | (exact Held4.set2 HS.out _ _) | go_keep)
     (first
      | (go_at_call 64; refine (Ht.out _ HBW.out.drew).mono ?_; rintro e w5 ⟨v5, rfl, hm5, hB5⟩; have Hm5 := Lib.hid hm5; have HB5 := Lib.hid hB5; have HS5 := Lib.hid (HS0.out.below hB5 hs0); have s5 := HS5.out.2; have HS := Lib.hid HS5.out.1; clear hm5 hB5)
      | (go_at_call 93; refine (limited_big _ _ p w5 Hm5.out (Nat.le_of_not_lt hp) (by omega)).mono ?_; rintro e w6 ⟨rfl, hB6⟩; have HB6 := Lib.hid hB6; have HS6 := Lib.hid (HS.out.below hB6 s5); clear HS; have s6 := HS6.out.2; have HS := Lib.hid HS6.out.1; have T6 := (T3.out.below HB5.out (by omega)).below hB6 (by omega); have g0 := T6.cell0; have g1 := T6.cell1; have g2 := T6.frozen 0; have g3 := T6.frozen 1; have T6 := Lib.hid T6; clear hB6))
    go_wp2
    refine bodyPost_ret (v := .tuple #[.agg #[.bool false, .slice none 0 0], .int .i64 4]) (by simp [results, Try.results92, go_sem, g0, g1]) rfl ⟨?_, .inr ⟨by rw [Habs.out]; exact Nat.le_of_not_lt hp, rfl⟩⟩
    ·rw [Hn.out]
     exact (((HBW.out.drew.trans (HB5.out.mono (by omega))).trans (HB6.out.mono (by omega))).setCell (p := ⟨n + 1 + 1, 0, none⟩) (by show n ≤ n + 1 + 1; omega) _).setCell (p := ⟨n + 1 + 1, 1, none⟩) (by show n ≤ n + 1 + 1; omega) _
  ·have Ht := Lib.hid (fun w' (hb : Below n w w') => minus_any (.slice ay ny cy) (.slice ax nx cx) y.natAbs x.natAbs w' (HY.out.below (Nat.le_of_eq hn) hb) (HX.out.below (Nat.le_of_eq hn) hb) (by omega) (by omega))
   have hprod : (digs W2 (y.natAbs - x.natAbs)).length ≤ 512 := Nat.le_trans (digs_len_mono W2 w2_two _ _ (Nat.sub_le _ _)) hly'
   have Hneg := Lib.hid (show decide (x + y < 0) = decide (sgn (decide (y < 0)) (y.natAbs - x.natAbs) < 0) by rw [sgn_add_ge y x (Ne.symm hs) (by omega), Int.add_comm])
   have Habs : Hid ((x + y).natAbs = y.natAbs - x.natAbs) := Lib.hid (by rw [Int.add_comm, ← sgn_add_ge y x (Ne.symm hs) (by omega), sgn_natAbs])
   rw [decide_eq_false hle] at hcg
   clear HX HY hlx' hly' hs hle
   generalize decide (x < 0) = sx at *
   generalize decide (y < 0) = sy at *
   generalize y.natAbs - x.natAbs = p at *
   generalize cmp3 (x.natAbs : Int) (y.natAbs : Int) = cm at *
   go_enter Try.func92, Try.ntmps92
   have d0 := t1.cell0
   have d1 := t1.cell1
   have d2 := t2.cell0
   have d3 := t2.cell1
   go_wp2_with fail
   refine (Hcm.out W hBW).mono ?_
   rintro e w2 ⟨rfl, d, hw2⟩
   clear hW
   have t1' : Two w2 n 58 (.bool sx) (.slice ax nx cx) := by rw [hw2]; exact t1
   have t2' : Two w2 (n + 1) 58 (.bool sy) (.slice ay ny cy) := by rw [hw2]; exact t2
   have t3' : Two w2 (n + 1 + 1) 58 (.bool false) (.slice none 0 0) := by rw [hw2]; exact t3
   have hBW2 : Below n w w2 := by rw [hw2]; exact ⟨hBW.os, hBW.tape, hBW.output, hBW.size, hBW.block⟩
   have hsW2 : w2.heap.size = n + 1 + 1 + 1 := by rw [hw2]; exact hsW
   clear t1 t2 t3 hBW hsW hw2 d0 d1 d2 d3
   have d0 := t1'.cell0
   have d1 := t1'.cell1
   have d2 := t2'.cell0
   have d3 := t2'.cell1
   have HBW := Lib.hid hBW2
   have T3 : Hid (Two w2.drew (n + 1 + 1) 58 (.bool false) (.slice none 0 0)) := Lib.hid t3'
   have HS0 : Hid (Held4 n (.bool sx) (.slice ax nx cx) (.bool sy) (.slice ay ny cy) w2.drew) := Lib.hid ⟨t1'.cell0, t1'.cell1, t2'.cell0, t2'.cell1⟩
   have hs0 : n + 1 + 1 + 1 ≤ w2.drew.heap.size := by show _ ≤ w2.heap.size; omega
   clear t1' t2' t3' hBW2
   go_wp2_with fail
   by_cases hp : p < LIM
   ·go_region_held3 (fun w' => w'.cell? ⟨n, 0, none⟩ = some (.bool sx) ∧ w'.cell? ⟨n, 1, none⟩ = some (.slice ax nx cx) ∧ w'.cell? ⟨n + 1, 0, none⟩ = some (.bool sy) ∧ w'.cell? ⟨n + 1, 1, none⟩ = some (.slice ay ny cy))
     (first | (exact HS.out) | (exact Held4.set2 HS.out _ _) | go_keep)
     (first
      | (go_at_call 64; refine (Ht.out _ HBW.out.drew).mono ?_; rintro e w5 ⟨v5, rfl, hm5, hB5⟩; have Hm5 := Lib.hid hm5; have HB5 := Lib.hid hB5; have HS5 := Lib.hid (HS0.out.below hB5 hs0); have s5 := HS5.out.2; have HS := Lib.hid HS5.out.1; clear hm5 hB5)
      | (go_at_call 93; refine (limited_ok _ _ p w5 Hm5.out hp).mono ?_; rintro e w6 ⟨a6, l6, c6, rfl, hm6, hB6⟩; have Hm6 := Lib.hid hm6; clear hm6; have HB6 := Lib.hid hB6; have HS6 := Lib.hid (HS.out.below hB6 s5); clear HS; have s6 := HS6.out.2; have HS := Lib.hid HS6.out.1; have T6 := (T3.out.below HB5.out (by omega)).below hB6 (by omega); have g0 := T6.cell0; have g1 := T6.cell1; have g2 := T6.frozen 0; have g3 := T6.frozen 1; have T6 := Lib.hid T6; clear hB6))
    go_wp2
    refine bodyPost_ret (v := .tuple #[.agg #[.bool (decide (sgn (sy) p < 0)), .slice a6 l6 c6], .int .i64 0]) (by simp [results, Try.results92, go_sem, g0, g1]) rfl ⟨?_, .inl ⟨by rw [Habs.out]; exact hp, _, rfl, WInt.mk ?_ ?_⟩⟩
    ·rw [Hn.out]
     exact (((HBW.out.drew.trans (HB5.out.mono (by omega))).trans (HB6.out.mono (by omega))).setCell (p := ⟨n + 1 + 1, 0, none⟩) (by show n ≤ n + 1 + 1; omega) _).setCell (p := ⟨n + 1 + 1, 1, none⟩) (by show n ≤ n + 1 + 1; omega) _
    ·exact Hneg.out
    ·rw [Habs.out]
     exact RowAt.store_two Hm6.out T6.out (fun _ _ h => by cases h) (fun _ _ h => by cases h) _ _
   ·go_region_held3 (fun w' => w'.cell? ⟨n, 0, none⟩ = some (.bool sx) ∧ w'.cell? ⟨n, 1, none⟩ = some (.slice ax nx cx) ∧ w'.cell? ⟨n + 1, 0, none⟩ = some (.bool sy) ∧ w'.cell? ⟨n + 1, 1, none⟩ = some (.slice ay ny cy))
     (first | (exact HS.out) | (exact Held4.set2 HS.out _ _) | go_keep)
     (first
      | (go_at_call 64; refine (Ht.out _ HBW.out.drew).mono ?_; rintro e w5 ⟨v5, rfl, hm5, hB5⟩; have Hm5 := Lib.hid hm5; have HB5 := Lib.hid hB5; have HS5 := Lib.hid (HS0.out.below hB5 hs0); have s5 := HS5.out.2; have HS := Lib.hid HS5.out.1; clear hm5 hB5)
      | (go_at_call 93; refine (limited_big _ _ p w5 Hm5.out (Nat.le_of_not_lt hp) (by omega)).mono ?_; rintro e w6 ⟨rfl, hB6⟩; have HB6 := Lib.hid hB6; have HS6 := Lib.hid (HS.out.below hB6 s5); clear HS; have s6 := HS6.out.2; have HS := Lib.hid HS6.out.1; have T6 := (T3.out.below HB5.out (by omega)).below hB6 (by omega); have g0 := T6.cell0; have g1 := T6.cell1; have g2 := T6.frozen 0; have g3 := T6.frozen 1; have T6 := Lib.hid T6; clear hB6))
    go_wp2
    refine bodyPost_ret (v := .tuple #[.agg #[.bool false, .slice none 0 0], .int .i64 4]) (by simp [results, Try.results92, go_sem, g0, g1]) rfl ⟨?_, .inr ⟨by rw [Habs.out]; exact Nat.le_of_not_lt hp, rfl⟩⟩
    ·rw [Hn.out]
     exact (((HBW.out.drew.trans (HB5.out.mono (by omega))).trans (HB6.out.mono (by omega))).setCell (p := ⟨n + 1 + 1, 0, none⟩) (by show n ≤ n + 1 + 1; omega) _).setCell (p := ⟨n + 1 + 1, 1, none⟩) (by show n ≤ n + 1 + 1; omega) _

end Go.Proofs.Ytlmbebbdamgfpaa
