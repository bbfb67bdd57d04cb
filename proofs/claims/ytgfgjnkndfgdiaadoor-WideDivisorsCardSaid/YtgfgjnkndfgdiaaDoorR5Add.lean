/- the reference's integers: Add, Sub. -/
import Derived.Test.YtgfgjnkndfgdiaaDoorR5Minus
namespace Go.Proofs.YtgfgjnkndfgdiaaDoor
open Go.RowKit

/-- digits that are not normal yet -/
def DigPost (p : Nat) (w : World) (e : Ending) (w' : World) : Prop := (∃ v L, e = .returned v ∧ RowAt .i64 w' v L ∧ Low T4 L ∧ val T4 L = p ∧ L.length ≤ 2097153) ∧ Below w.heap.size w w'
/-- an integer of the reference is answered -/
def RPost (z : Int) (w : World) (e : Ending) (w' : World) : Prop := (∃ vr, e = .returned vr ∧ RInt w' vr z) ∧ Below w.heap.size w w'

theorem rplus_post (va vb : Value) (m n : Nat) (w : World) (ha : DigAt w va m) (hb : DigAt w vb n) (hl1 : (digs T4 m).length ≤ 1048576) (hl2 : (digs T4 n).length ≤ 1048576) :
    Calls Tryd.prog 61 #[va, vb] w (DigPost (m + n) w) := rplus_any va vb m n w ha hb hl1 hl2
theorem rminus_post (va vb : Value) (m n : Nat) (w : World) (ha : DigAt w va m) (hb : DigAt w vb n) (hnm : n ≤ m) (hl1 : (digs T4 m).length ≤ 1048576) :
    Calls Tryd.prog 63 #[va, vb] w (DigPost (m - n) w) :=
  (rminus_any va vb m n w ha hb hnm (by omega)).mono (by rintro e w' ⟨⟨v, L, rfl, h1, h2, h3, h4⟩, hB⟩; exact ⟨⟨v, L, rfl, h1, h2, h3, by omega⟩, hB⟩)


set_option maxRecDepth 100000 in
set_option maxHeartbeats 4000000 in
theorem radd_any (vx vy : Value) (x y : Int) (w : World) (hx : RInt w vx x) (hy : RInt w vy y) (hlx' : (digs T4 x.natAbs).length ≤ 1048576) (hly' : (digs T4 y.natAbs).length ≤ 1048576) :
    Calls Tryd.prog 29 #[vx, vy] w (RPost (x + y) w) := by
  obtain ⟨ax, nx, cx, rfl, hmx, -, -⟩ := hx.form
  obtain ⟨ay, ny, cy, rfl, hmy, -, -⟩ := hy.form
  have HX := Lib.hid hmx
  have HY := Lib.hid hmy
  clear hx hy hmx hmy
  obtain ⟨n, hn⟩ : ∃ n, w.heap.size = n := ⟨_, rfl⟩
  have Hn := Lib.hid hn
  obtain ⟨W, hW, t1, t2, t3, hBW, hsW⟩ := boxes3 w 25 (.bool (decide (x < 0))) (.slice ax nx cx) (.bool (decide (y < 0))) (.slice ay ny cy) (.bool false) (.slice none 0 0) n hn
  by_cases hs : decide (x < 0) = decide (y < 0)
  · have Ht := Lib.hid (fun w' (hb : Below n w w') => rplus_post (.slice ax nx cx) (.slice ay ny cy) x.natAbs y.natAbs w' (RowAt.below HX.out (Nat.le_of_eq hn) hb) (RowAt.below HY.out (Nat.le_of_eq hn) hb) (by omega) (by omega))
    have Hz := Lib.hid (sgn_add_same x y hs)
    have hss : (decide (x < 0) == decide (y < 0)) = true := by rw [hs]; simp
    clear HX HY hlx' hly' hs
    generalize decide (x < 0) = sx at *
    generalize decide (y < 0) = sy at *
    generalize x.natAbs + y.natAbs = p at *
    have HBW := Lib.hid hBW
    have T3 : Hid (Two W.drew (n + 1 + 1) 25 (.bool false) (.slice none 0 0)) := Lib.hid t3
    have HS0 : Hid (Held4 n (.bool sx) (.slice ax nx cx) (.bool sy) (.slice ay ny cy) W.drew) := Lib.hid ⟨t1.cell0, t1.cell1, t2.cell0, t2.cell1⟩
    have hs0 : n + 1 + 1 + 1 ≤ W.drew.heap.size := by show _ ≤ W.heap.size; omega
    have d0 := t1.cell0
    have d1 := t1.cell1
    have d2 := t2.cell0
    have d3 := t2.cell1
    clear t1 t2 t3 hBW
    go_enter Tryd.func29, Tryd.ntmps29
    go_wp2_with fail
    clear hW
    go_region_held3 (fun w' => w'.cell? ⟨n, 0, none⟩ = some (.bool sx) ∧ w'.cell? ⟨n, 1, none⟩ = some (.slice ax nx cx) ∧ w'.cell? ⟨n + 1, 0, none⟩ = some (.bool sy) ∧ w'.cell? ⟨n + 1, 1, none⟩ = some (.slice ay ny cy))
      (first | (exact HS.out) | (exact Held4.set2 HS.out _ _) | go_keep)
      (first
        | (go_at_call 61; refine (Ht.out _ HBW.out.drew).mono ?_; rintro e w5 ⟨⟨v5, L5, rfl, hm5, hlow5, hval5, hlen5⟩, hB5⟩; have Hm5 := Lib.hid hm5; have HL5 := Lib.hid hlow5; have HV5 := Lib.hid hval5; have HB5 := Lib.hid hB5; have HS5 := Lib.hid (HS0.out.below hB5 hs0); have s5 := HS5.out.2; have HS := Lib.hid HS5.out.1; clear hm5 hB5 hlow5 hval5)
        | (go_at_call 50; refine (normal_any _ v5 L5 w5 Hm5.out HL5.out (by omega)).mono ?_; rintro e w6 ⟨⟨v6, rfl, hr6⟩, hB6⟩; rw [HV5.out] at hr6; have Hr6 := Lib.hid hr6; obtain ⟨a6, l6, c6, rfl, -, -, -⟩ := hr6.form; have HB6 := Lib.hid hB6; have HS6 := Lib.hid (HS.out.below hB6 s5); clear HS; have s6 := HS6.out.2; have HS := Lib.hid HS6.out.1; have T6 := (T3.out.below HB5.out (by omega)).below hB6 (by omega); have g0 := T6.cell0; have g1 := T6.cell1; have g2 := T6.frozen 0; have g3 := T6.frozen 1; have T6 := Lib.hid T6; clear hB6 hr6))
    go_wp2
    refine bodyPost_ret (v := .agg #[.bool (decide (sgn (sx) p < 0)), .slice a6 l6 c6]) (by simp [results, Tryd.results29, go_sem, g0, g1]) rfl ⟨⟨_, rfl, by rw [← Hz.out]; exact Hr6.out.set_two T6.out _ _⟩, ?_⟩
    rw [Hn.out]
    exact (((HBW.out.drew.trans (HB5.out.mono (by omega))).trans (HB6.out.mono (by omega))).setCell (p := ⟨n + 1 + 1, 0, none⟩) (by show n ≤ n + 1 + 1; omega) _).setCell (p := ⟨n + 1 + 1, 1, none⟩) (by show n ≤ n + 1 + 1; omega) _
  · have hss : (decide (x < 0) == decide (y < 0)) = false := by simpa using hs
    have Hcm := Lib.hid (fun w' (hb : Below n w w') => compared_any (.slice ax nx cx) (.slice ay ny cy) x.natAbs y.natAbs w' (RowAt.below HX.out (Nat.le_of_eq hn) hb) (RowAt.below HY.out (Nat.le_of_eq hn) hb) (by omega) (by omega))
    have hcg := cmp3_ge x.natAbs y.natAbs
    by_cases hle : y.natAbs ≤ x.natAbs
    · have Ht := Lib.hid (fun w' (hb : Below n w w') => rminus_post (.slice ax nx cx) (.slice ay ny cy) x.natAbs y.natAbs w' (RowAt.below HX.out (Nat.le_of_eq hn) hb) (RowAt.below HY.out (Nat.le_of_eq hn) hb) hle (by omega))
      have Hz := Lib.hid (sgn_add_ge x y hs hle)
      have hcg2 : ¬ cmp3 (x.natAbs : Int) (y.natAbs : Int) < 0 := by rw [decide_eq_true hle] at hcg; simpa using hcg
      clear HX HY hlx' hly' hs hle hcg
      generalize decide (x < 0) = sx at *
      generalize decide (y < 0) = sy at *
      generalize x.natAbs - y.natAbs = p at *
      generalize cmp3 (x.natAbs : Int) (y.natAbs : Int) = cm at *
      go_enter Tryd.func29, Tryd.ntmps29
      have d0 := t1.cell0
      have d1 := t1.cell1
      have d2 := t2.cell0
      have d3 := t2.cell1
      go_wp2_with fail
      refine (Hcm.out W hBW).mono ?_
      rintro e w2 ⟨rfl, d, hw2⟩
      clear hW
      have t1' : Two w2 n 25 (.bool sx) (.slice ax nx cx) := by rw [hw2]; exact t1
      have t2' : Two w2 (n + 1) 25 (.bool sy) (.slice ay ny cy) := by rw [hw2]; exact t2
      have t3' : Two w2 (n + 1 + 1) 25 (.bool false) (.slice none 0 0) := by rw [hw2]; exact t3
      have hBW2 : Below n w w2 := by rw [hw2]; exact ⟨hBW.os, hBW.tape, hBW.output, hBW.size, hBW.block⟩
      have hsW2 : w2.heap.size = n + 1 + 1 + 1 := by rw [hw2]; exact hsW
      clear t1 t2 t3 hBW hsW hw2 d0 d1 d2 d3
      have HBW := Lib.hid hBW2
      have T3 : Hid (Two w2.drew (n + 1 + 1) 25 (.bool false) (.slice none 0 0)) := Lib.hid t3'
      have HS0 : Hid (Held4 n (.bool sx) (.slice ax nx cx) (.bool sy) (.slice ay ny cy) w2.drew) := Lib.hid ⟨t1'.cell0, t1'.cell1, t2'.cell0, t2'.cell1⟩
      have hs0 : n + 1 + 1 + 1 ≤ w2.drew.heap.size := by show _ ≤ w2.heap.size; omega
      have d0 := t1'.cell0
      have d1 := t1'.cell1
      have d2 := t2'.cell0
      have d3 := t2'.cell1
      clear t1' t2' t3' hBW2
      go_wp2_with fail
      go_region_held3 (fun w' => w'.cell? ⟨n, 0, none⟩ = some (.bool sx) ∧ w'.cell? ⟨n, 1, none⟩ = some (.slice ax nx cx) ∧ w'.cell? ⟨n + 1, 0, none⟩ = some (.bool sy) ∧ w'.cell? ⟨n + 1, 1, none⟩ = some (.slice ay ny cy))
        (first | (exact HS.out) | (exact Held4.set2 HS.out _ _) | go_keep)
        (first
          | (go_at_call 63; refine (Ht.out _ HBW.out.drew).mono ?_; rintro e w5 ⟨⟨v5, L5, rfl, hm5, hlow5, hval5, hlen5⟩, hB5⟩; have Hm5 := Lib.hid hm5; have HL5 := Lib.hid hlow5; have HV5 := Lib.hid hval5; have HB5 := Lib.hid hB5; have HS5 := Lib.hid (HS0.out.below hB5 hs0); have s5 := HS5.out.2; have HS := Lib.hid HS5.out.1; clear hm5 hB5 hlow5 hval5)
          | (go_at_call 50; refine (normal_any _ v5 L5 w5 Hm5.out HL5.out (by omega)).mono ?_; rintro e w6 ⟨⟨v6, rfl, hr6⟩, hB6⟩; rw [HV5.out] at hr6; have Hr6 := Lib.hid hr6; obtain ⟨a6, l6, c6, rfl, -, -, -⟩ := hr6.form; have HB6 := Lib.hid hB6; have HS6 := Lib.hid (HS.out.below hB6 s5); clear HS; have s6 := HS6.out.2; have HS := Lib.hid HS6.out.1; have T6 := (T3.out.below HB5.out (by omega)).below hB6 (by omega); have g0 := T6.cell0; have g1 := T6.cell1; have g2 := T6.frozen 0; have g3 := T6.frozen 1; have T6 := Lib.hid T6; clear hB6 hr6))
      go_wp2
      refine bodyPost_ret (v := .agg #[.bool (decide (sgn (sx) p < 0)), .slice a6 l6 c6]) (by simp [results, Tryd.results29, go_sem, g0, g1]) rfl ⟨⟨_, rfl, by rw [← Hz.out]; exact Hr6.out.set_two T6.out _ _⟩, ?_⟩
      rw [Hn.out]
      exact (((HBW.out.drew.trans (HB5.out.mono (by omega))).trans (HB6.out.mono (by omega))).setCell (p := ⟨n + 1 + 1, 0, none⟩) (by show n ≤ n + 1 + 1; omega) _).setCell (p := ⟨n + 1 + 1, 1, none⟩) (by show n ≤ n + 1 + 1; omega) _
    · have Ht := Lib.hid (fun w' (hb : Below n w w') => rminus_post (.slice ay ny cy) (.slice ax nx cx) y.natAbs x.natAbs w' (RowAt.below HY.out (Nat.le_of_eq hn) hb) (RowAt.below HX.out (Nat.le_of_eq hn) hb) (by omega) (by omega))
      have Hz := Lib.hid ((sgn_add_ge y x (Ne.symm hs) (by omega)).trans (Int.add_comm y x))
      have hcg2 : cmp3 (x.natAbs : Int) (y.natAbs : Int) < 0 := by rw [decide_eq_false hle] at hcg; simpa using hcg
      clear HX HY hlx' hly' hs hle hcg
      generalize decide (x < 0) = sx at *
      generalize decide (y < 0) = sy at *
      generalize y.natAbs - x.natAbs = p at *
      generalize cmp3 (x.natAbs : Int) (y.natAbs : Int) = cm at *
      go_enter Tryd.func29, Tryd.ntmps29
      have d0 := t1.cell0
      have d1 := t1.cell1
      have d2 := t2.cell0
      have d3 := t2.cell1
      go_wp2_with fail
      refine (Hcm.out W hBW).mono ?_
      rintro e w2 ⟨rfl, d, hw2⟩
      clear hW
      have t1' : Two w2 n 25 (.bool sx) (.slice ax nx cx) := by rw [hw2]; exact t1
      have t2' : Two w2 (n + 1) 25 (.bool sy) (.slice ay ny cy) := by rw [hw2]; exact t2
      have t3' : Two w2 (n + 1 + 1) 25 (.bool false) (.slice none 0 0) := by rw [hw2]; exact t3
      have hBW2 : Below n w w2 := by rw [hw2]; exact ⟨hBW.os, hBW.tape, hBW.output, hBW.size, hBW.block⟩
      have hsW2 : w2.heap.size = n + 1 + 1 + 1 := by rw [hw2]; exact hsW
      clear t1 t2 t3 hBW hsW hw2 d0 d1 d2 d3
      have HBW := Lib.hid hBW2
      have T3 : Hid (Two w2.drew (n + 1 + 1) 25 (.bool false) (.slice none 0 0)) := Lib.hid t3'
      have HS0 : Hid (Held4 n (.bool sx) (.slice ax nx cx) (.bool sy) (.slice ay ny cy) w2.drew) := Lib.hid ⟨t1'.cell0, t1'.cell1, t2'.cell0, t2'.cell1⟩
      have hs0 : n + 1 + 1 + 1 ≤ w2.drew.heap.size := by show _ ≤ w2.heap.size; omega
      have d0 := t1'.cell0
      have d1 := t1'.cell1
      have d2 := t2'.cell0
      have d3 := t2'.cell1
      clear t1' t2' t3' hBW2
      go_wp2_with fail
      go_region_held3 (fun w' => w'.cell? ⟨n, 0, none⟩ = some (.bool sx) ∧ w'.cell? ⟨n, 1, none⟩ = some (.slice ax nx cx) ∧ w'.cell? ⟨n + 1, 0, none⟩ = some (.bool sy) ∧ w'.cell? ⟨n + 1, 1, none⟩ = some (.slice ay ny cy))
        (first | (exact HS.out) | (exact Held4.set2 HS.out _ _) | go_keep)
        (first
          | (go_at_call 63; refine (Ht.out _ HBW.out.drew).mono ?_; rintro e w5 ⟨⟨v5, L5, rfl, hm5, hlow5, hval5, hlen5⟩, hB5⟩; have Hm5 := Lib.hid hm5; have HL5 := Lib.hid hlow5; have HV5 := Lib.hid hval5; have HB5 := Lib.hid hB5; have HS5 := Lib.hid (HS0.out.below hB5 hs0); have s5 := HS5.out.2; have HS := Lib.hid HS5.out.1; clear hm5 hB5 hlow5 hval5)
          | (go_at_call 50; refine (normal_any _ v5 L5 w5 Hm5.out HL5.out (by omega)).mono ?_; rintro e w6 ⟨⟨v6, rfl, hr6⟩, hB6⟩; rw [HV5.out] at hr6; have Hr6 := Lib.hid hr6; obtain ⟨a6, l6, c6, rfl, -, -, -⟩ := hr6.form; have HB6 := Lib.hid hB6; have HS6 := Lib.hid (HS.out.below hB6 s5); clear HS; have s6 := HS6.out.2; have HS := Lib.hid HS6.out.1; have T6 := (T3.out.below HB5.out (by omega)).below hB6 (by omega); have g0 := T6.cell0; have g1 := T6.cell1; have g2 := T6.frozen 0; have g3 := T6.frozen 1; have T6 := Lib.hid T6; clear hB6 hr6))
      go_wp2
      refine bodyPost_ret (v := .agg #[.bool (decide (sgn (sy) p < 0)), .slice a6 l6 c6]) (by simp [results, Tryd.results29, go_sem, g0, g1]) rfl ⟨⟨_, rfl, by rw [← Hz.out]; exact Hr6.out.set_two T6.out _ _⟩, ?_⟩
      rw [Hn.out]
      exact (((HBW.out.drew.trans (HB5.out.mono (by omega))).trans (HB6.out.mono (by omega))).setCell (p := ⟨n + 1 + 1, 0, none⟩) (by show n ≤ n + 1 + 1; omega) _).setCell (p := ⟨n + 1 + 1, 1, none⟩) (by show n ≤ n + 1 + 1; omega) _

end Go.Proofs.YtgfgjnkndfgdiaaDoor
