/- the reference's integers: Gcd. -/
import Derived.Test.YtgfgjnkndfgdiaaDoorR5Div
import Derived.Test.YtgfgjnkndfgdiaaDoorR5Power
import Derived.Test.YtgfgjnkndfgdiaaDoorWDiv
set_option linter.unusedVariables false
set_option linter.unusedSimpArgs false
namespace Go.Proofs.YtgfgjnkndfgdiaaDoor
open Go.RowKit

def RDivRet (x y : Int) (w : World) (e : Ending) (w' : World) : Prop :=
  Below w.heap.size w w' ∧ ∃ vq vr, e = .returned (.tuple #[vq, vr]) ∧ RInt w' vq (qOf x y) ∧ RInt w' vr (rOf x y)

theorem RInt.dig {w : World} {b : Bool} {a : Option Addr} {l c : Nat} {z : Int} (h : RInt w (.agg #[.bool b, .slice a l c]) z) : DigAt w (.slice a l c) z.natAbs := by
  obtain ⟨vd, hv, hm⟩ := h
  injection hv with hv
  have hv2 : vd = .slice a l c := by
    have := congrArg (fun a => a[1]?) hv
    simpa using this.symm
  rw [hv2] at hm
  exact hm

set_option maxRecDepth 100000 in
set_option maxHeartbeats 4000000 in
theorem rdiv_any (vx vy : Value) (x y : Int) (w : World) (hx : RInt w vx x) (hy : RInt w vy y) (hy0 : y ≠ 0) (hlx : (digs T4 x.natAbs).length ≤ 500000) (hly : (digs T4 y.natAbs).length ≤ 500000) :
    Calls Tryd.prog 31 #[vx, vy] w (RDivRet x y w) := by
  obtain ⟨ax, nx, cx, rfl, hmx, hnx, hcx⟩ := hx.form
  obtain ⟨ay, ny, cy, rfl, hmy, hny, hcy⟩ := hy.form
  obtain ⟨n, hn⟩ : ∃ n, w.heap.size = n := ⟨_, rfl⟩
  have Hn := Lib.hid hn
  obtain ⟨W, hW, t1, t2, t3, t4, hBW, hsW⟩ := boxes4 w 25 (.bool (decide (x < 0))) (.slice ax nx cx) (.bool (decide (y < 0))) (.slice ay ny cy) (.bool false) (.slice none 0 0) (.bool false) (.slice none 0 0) n hn
  have Hd := Lib.hid (rdivided_any (.slice ax nx cx) (.slice ay ny cy) x.natAbs y.natAbs W (RowAt.below hmx (Nat.le_of_eq hn) hBW) (RowAt.below hmy (Nat.le_of_eq hn) hBW) (by omega) hlx hly)
  have HY := Lib.hid hmy
  have HBW := Lib.hid hBW
  have T1 := Lib.hid t1
  have T2 := Lib.hid t2
  have T3 := Lib.hid t3
  have T4' := Lib.hid t4
  have d1 := t1.cell1
  have d3 := t2.cell1
  obtain ⟨sx, hsx⟩ : ∃ sx, decide (x < 0) = sx := ⟨_, rfl⟩
  obtain ⟨sy, hsy⟩ : ∃ sy, decide (y < 0) = sy := ⟨_, rfl⟩
  rw [hsx] at hW T1 ⊢
  rw [hsy] at hW T2 ⊢
  have Hsx := Lib.hid hsx
  have Hsy := Lib.hid hsy
  clear hmx hmy t1 t2 t3 t4 hBW hnx hny hsx hsy hx hy
  go_enter Tryd.func31, Tryd.ntmps31
  go_wp2_with fail
  clear hW d1 d3
  refine Hd.out.mono ?_
  rintro e w1 ⟨⟨vq, vr, L1, rfl, hrq, loq, hlq, hvq, hr1⟩, hB1⟩
  obtain ⟨aq, cq, hvq1, -⟩ := id hrq
  subst hvq1
  obtain ⟨ar, cr, hvr1, hcr1, hcr2, -⟩ := id hr1
  subst hvr1
  have HB1 := Lib.hid (HBW.out.trans (hB1.mono (by omega)))
  have z1 := hB1.size
  rw [hsW] at z1
  have T11 := Lib.hid (T1.out.below hB1 (by omega))
  have T12 := Lib.hid (T2.out.below hB1 (by omega))
  have T13 := Lib.hid (T3.out.below hB1 (by omega))
  have T14 := Lib.hid (T4'.out.below hB1 (by omega))
  have e0 := T11.out.cell0
  have e2 := T12.out.cell0
  have HNq := Lib.hid (normal_any (sx != sy) _ L1 w1 hrq loq (by omega))
  rw [hvq] at HNq
  have HR1 := Lib.hid hr1
  clear hrq loq hvq hr1 hB1 Hd T1 T2 T3 T4' hcr1
  rw [hlq]
  rw [hlq] at HNq
  clear hlq
  obtain ⟨q, hq⟩ : ∃ q, x.natAbs / y.natAbs = q := ⟨_, rfl⟩
  obtain ⟨r, hr⟩ : ∃ r, x.natAbs % y.natAbs = r := ⟨_, rfl⟩
  have Hq := Lib.hid hq
  have Hr := Lib.hid hr
  rw [hq] at HNq
  rw [hr] at HR1 ⊢
  have Hry : Hid (r < y.natAbs) := Lib.hid (by rw [← hr]; exact Nat.mod_lt _ (by omega))
  have Hql : Hid ((digs T4 q).length ≤ 500000) := Lib.hid (Nat.le_trans (digs_len_mono T4 t4_two _ _ (by rw [← hq]; exact Nat.div_le_self _ _)) hlx)
  have Hrl : Hid ((digs T4 r).length ≤ 500000) := Lib.hid (Nat.le_trans (digs_len_mono T4 t4_two _ _ (Nat.le_of_lt Hry.out)) hly)
  obtain ⟨lq, hlq⟩ : ∃ lq, (digs T4 x.natAbs).length = lq := ⟨_, rfl⟩
  rw [hlq] at HNq ⊢
  clear hq hr hlq
  have HNr0 : Hid (∀ w' : World, Below w1.heap.size w1 w' → Calls Tryd.prog 50 #[.bool false, .slice ar (digs T4 r).length cr] w' fun e w'' => (∃ vr, e = .returned vr ∧ RInt w'' vr (r : Int)) ∧ Below w'.heap.size w' w'') := Lib.hid (fun w' hb => by
    have := normal_any false _ (digs T4 r) w' (RowAt.below HR1.out (Nat.le_refl _) hb) (digs_low T4 t4_two r) (by have := Hrl.out; omega)
    rw [val_digs T4 t4_two] at this
    exact this)
  obtain ⟨lr, hlr⟩ : ∃ lr, (digs T4 r).length = lr := ⟨_, rfl⟩
  rw [hlr] at HNr0 ⊢
  clear hlr
  obtain ⟨s, hs⟩ : ∃ s, (sx != sy) = s := ⟨_, rfl⟩
  have hs2 : (!(sx == sy)) = s := hs
  have Hs := Lib.hid hs
  rw [hs] at HNq
  clear hs
  go_wp2_with fail
  refine (HNq.out).mono ?_
  rintro e w2 ⟨⟨vr, rfl, hr⟩, hB⟩
  have Hr2 := Lib.hid hr
  obtain ⟨a2, l2, c2, rfl, -, -, -⟩ := hr.form
  have HB2 := Lib.hid hB
  clear hr hB
  generalize hsq : decide (sgn s q < 0) = sq at *
  have Hsq := Lib.hid hsq
  clear hsq
  obtain ⟨bx, hbx⟩ : ∃ bx, w2.heap.size = bx := ⟨_, rfl⟩
  obtain ⟨w3, hw3⟩ : ∃ w3, w2.alloc (.cells #[.bool sq, .slice a2 l2 c2] 25) = w3 := ⟨_, rfl⟩
  have hs3 : w3.heap.size = bx + 1 := by rw [← hw3, World.size_alloc, hbx]
  have HB23 : Hid (Below w2.heap.size w2 w3) := Lib.hid (by rw [← hw3]; exact (Below.refl _ w2).alloc (Nat.le_refl _) _)
  have hX3 := Two.new w2 25 (.bool sq) (.slice a2 l2 c2)
  rw [hw3, hbx] at hX3
  have HX3 := Lib.hid hX3
  have HR3 := Lib.hid (Hr2.out.below (Nat.le_refl _) HB23.out)
  have HB13 := Lib.hid (HB2.out.trans (HB23.out.mono HB2.out.size))
  have hz2 : w1.heap.size ≤ bx := by rw [← hbx]; exact HB2.out.size
  have HNr := Lib.hid (HNr0.out w3 HB13.out)
  clear HNr0 hX3 HB23 Hr2 HB2 HNq e0 e2
  go_wp2_with fail
  clear hw3
  refine HNr.out.mono ?_
  rintro e w4 ⟨⟨vr, rfl, hr⟩, hB⟩
  have Hr4 := Lib.hid hr
  obtain ⟨a4, l4, c4, rfl, -, hl4, hc4⟩ := hr.form
  have HB4 := Lib.hid hB
  clear hr hB
  have hr0 : decide ((r : Int) < 0) = false := decide_eq_false (by omega)
  rw [hr0] at Hr4 ⊢
  obtain ⟨by_, hby⟩ : ∃ b, w4.heap.size = b := ⟨_, rfl⟩
  obtain ⟨w5, hw5⟩ : ∃ w5, w4.alloc (.cells #[.bool false, .slice a4 l4 c4] 25) = w5 := ⟨_, rfl⟩
  have hs5 : w5.heap.size = by_ + 1 := by rw [← hw5, World.size_alloc, hby]
  have HB45 : Hid (Below w4.heap.size w4 w5) := Lib.hid (by rw [← hw5]; exact (Below.refl _ w4).alloc (Nat.le_refl _) _)
  have hY5 := Two.new w4 25 (.bool false) (.slice a4 l4 c4)
  rw [hw5, hby] at hY5
  have HY5 := Lib.hid hY5
  have HRY5 := Lib.hid (Hr4.out.below (Nat.le_refl _) HB45.out)
  have HB35 := Lib.hid (HB4.out.trans (HB45.out.mono HB4.out.size))
  have HX5 := Lib.hid (HX3.out.below HB35.out HX3.out.lt)
  have HRX5 := Lib.hid (HR3.out.below (Nat.le_refl _) HB35.out)
  have HB15 := Lib.hid (HB13.out.trans (HB35.out.mono HB13.out.size))
  have T51 := Lib.hid (T11.out.below HB15.out (by omega))
  have T52 := Lib.hid (T12.out.below HB15.out (by omega))
  have T53 := Lib.hid (T13.out.below HB15.out (by omega))
  have T54 := Lib.hid (T14.out.below HB15.out (by omega))
  have HBn5 := Lib.hid (HB1.out.trans (HB15.out.mono (by omega)))
  have hz4 : bx < by_ := by rw [← hby]; have := HB4.out.size; omega
  have g1 := hY5.cell1
  have g2 := T51.out.cell0
  have g3 := T52.out.cell0
  have g4 := T52.out.cell1
  have Hr0 : Hid (l4 = 0 ↔ r = 0) := Lib.hid (by
    rw [hl4, Int.natAbs_natCast, List.length_eq_zero_iff, digs_nil T4 _ t4_two])
  clear hr0 Hr4 HB4 HB45 hY5 HB35 HX3 HR3 HB13 HB15 T11 T12 T13 T14 HNr hl4
  by_cases hcase : sx = true ∧ 0 < l4
  · obtain ⟨rfl, hl0⟩ := hcase
    have Hqr : Hid (qOf x y = sgn s (q + 1) ∧ rOf x y = y.natAbs - r) := Lib.hid (by
      have h9 := qOf_neg (x := x) (y := y) ⟨by simpa using Hsx.out, fun h => by rw [Hr.out] at h; have := Hr0.out.2 h; omega⟩
      rw [Hsx.out, Hsy.out, Hs.out, Hq.out, Hr.out] at h9
      exact h9)
    have hs4 : (!sy) = s := by rw [← hs2]; cases sy <;> rfl
    obtain ⟨w6, hw6⟩ : ∃ w6, w5.alloc (.cells #[.int .i64 1] 3) = w6 := ⟨_, rfl⟩
    have HB56 : Hid (Below w5.heap.size w5 w6) := Lib.hid (by rw [← hw6]; exact (Below.refl _ w5).alloc (Nat.le_refl _) _)
    have hs6 : w6.heap.size = by_ + 1 + 1 := by rw [← hw6, World.size_alloc, hs5]
    have hblk6 : Blk w6 (by_ + 1) 3 .i64 [1] := by rw [← hw6, ← hs5]; exact heap_alloc_new w5 _
    have HN6 := Lib.hid (normal_any s (.slice (some ⟨by_ + 1, 0, none⟩) 1 1) [1] w6 (RowAt.of_blk hblk6 (by simp) (by simp)) (fun z hz => by rw [List.mem_singleton.1 hz]; decide) (by simp))
    rw [show val T4 [1] = 1 by simp [val]] at HN6
    clear hblk6 hs2
    go_wp2_with fail
    clear hw6 hw5
    refine (HN6.out).mono ?_
    rintro e w7 ⟨⟨vr, rfl, hr⟩, hB⟩
    have Hr7 := Lib.hid hr
    obtain ⟨a7, l7, c7, rfl, -, -, -⟩ := hr.form
    have HB7 := Lib.hid hB
    clear hr hB
    generalize hs1q : decide (sgn s 1 < 0) = s1 at *
    have HB57 := Lib.hid (HB56.out.trans (HB7.out.mono HB56.out.size))
    obtain ⟨bo, hbo⟩ : ∃ b, w7.heap.size = b := ⟨_, rfl⟩
    obtain ⟨w8, hw8⟩ : ∃ w8, w7.alloc (.cells #[.bool s1, .slice a7 l7 c7] 25) = w8 := ⟨_, rfl⟩
    have hs8 : w8.heap.size = bo + 1 := by rw [← hw8, World.size_alloc, hbo]
    have HB78 : Hid (Below w7.heap.size w7 w8) := Lib.hid (by rw [← hw8]; exact (Below.refl _ w7).alloc (Nat.le_refl _) _)
    have hO8 := Two.new w7 25 (.bool s1) (.slice a7 l7 c7)
    rw [hw8, hbo] at hO8
    have HO8 := Lib.hid hO8
    have HRO8 := Lib.hid (Hr7.out.below (Nat.le_refl _) HB78.out)
    have HB58 := Lib.hid (HB57.out.trans (HB78.out.mono HB57.out.size))
    have HX8 := Lib.hid (HX5.out.below HB58.out HX5.out.lt)
    have HRX8 := Lib.hid (HRX5.out.below (Nat.le_refl _) HB58.out)
    have HY8 := Lib.hid (HY5.out.below HB58.out HY5.out.lt)
    have HRY8 := Lib.hid (HRY5.out.below (Nat.le_refl _) HB58.out)
    have T82 := Lib.hid (T52.out.below HB58.out T52.out.lt)
    have T83 := Lib.hid (T53.out.below HB58.out T53.out.lt)
    have T84 := Lib.hid (T54.out.below HB58.out T54.out.lt)
    have HBn8 := Lib.hid (HBn5.out.trans (HB58.out.mono (by omega)))
    have hz7 : by_ + 1 < bo := by rw [← hbo]; have := HB7.out.size; omega
    have k1 := HX8.out.cell0
    have k2 := HX8.out.cell1
    have k3 := HO8.out.cell0
    have k4 := HO8.out.cell1
    have Hadd := Lib.hid (fun (w' : World) (hb : Below w8.heap.size w8 w') => radd_any _ _ (sgn s q) (sgn s 1) w' (HRX8.out.below (Nat.le_refl _) hb) (HRO8.out.below (Nat.le_refl _) hb) (by rw [sgn_natAbs]; exact Nat.le_trans Hql.out (by omega)) (by rw [sgn_natAbs]; exact Nat.le_trans (t4_len _ (by omega)) (by omega)))
    have hadd : sgn s q + sgn s 1 = sgn s (q + 1) := by unfold sgn; cases s <;> simp <;> omega
    rw [hadd] at Hadd
    clear hadd hO8 HB56 HB57 HB78 HN6 Hr7 HB7 g1 g2 g3 g4 HX5 HRX5 HY5 HRY5 T51 T52 T53 T54 HBn5 HB58 hs1q
    go_wp2_with fail
    clear hw8
    refine (Hadd.out w8 (Below.refl _ _)).mono ?_
    rintro e w9 ⟨⟨vr, rfl, hr⟩, hB⟩
    have Hr9 := Lib.hid hr
    obtain ⟨a9, l9, c9, rfl, -, -, -⟩ := hr.form
    have HB9 := Lib.hid hB
    clear hr hB
    generalize hs9 : decide (sgn s (q + 1) < 0) = s9 at *
    have Hs9 := Lib.hid hs9
    clear hs9
    have HX9 := Lib.hid (HX8.out.below HB9.out HX8.out.lt)
    have HY9 := Lib.hid (HY8.out.below HB9.out HY8.out.lt)
    have HRY9 := Lib.hid (HRY8.out.below (Nat.le_refl _) HB9.out)
    have T92 := Lib.hid (T82.out.below HB9.out T82.out.lt)
    have T93 := Lib.hid (T83.out.below HB9.out T83.out.lt)
    have T94 := Lib.hid (T84.out.below HB9.out T84.out.lt)
    have HBn9 := Lib.hid (HBn8.out.trans (HB9.out.mono (by omega)))
    have f1 := HX9.out.cell0
    have f2 := HX9.out.cell1
    have f3 := HX9.out.frozen 0
    have f4 := HX9.out.frozen 1
    obtain ⟨w10, hw10⟩ : ∃ w10, (w9.setCell ⟨bx, 0, none⟩ (.bool s9)).setCell ⟨bx, 1, none⟩ (.slice a9 l9 c9) = w10 := ⟨_, rfl⟩
    have hz9 : bo < w9.heap.size := Nat.lt_of_lt_of_le (by omega) HB9.out.size
    have hs10 : w9.heap.size = w10.heap.size := by rw [← hw10]; simp [World.setCell]
    have HX10 : Hid (Two w10 bx 25 (.bool s9) (.slice a9 l9 c9)) := Lib.hid (by rw [← hw10]; exact HX9.out.put2 _ _)
    have HRX10 : Hid (RInt w10 (.agg #[.bool s9, .slice a9 l9 c9]) (sgn s (q + 1))) := Lib.hid (by rw [← hw10]; exact Hr9.out.set_two HX9.out _ _)
    have HY10 : Hid (Two w10 by_ 25 (.bool false) (.slice a4 l4 c4)) := Lib.hid (by rw [← hw10]; exact HY9.out.far2 (by omega) _ _)
    have HRY10 : Hid (RInt w10 (.agg #[.bool false, .slice a4 l4 c4]) (r : Int)) := Lib.hid (by rw [← hw10]; exact HRY9.out.set_two HX9.out _ _)
    have T102 : Hid (Two w10 (n + 1) 25 (.bool sy) (.slice ay ny cy)) := Lib.hid (by rw [← hw10]; exact T92.out.far2 (by omega) _ _)
    have T103 : Hid (Two w10 (n + 1 + 1) 25 (.bool false) (.slice none 0 0)) := Lib.hid (by rw [← hw10]; exact T93.out.far2 (by omega) _ _)
    have T104 : Hid (Two w10 (n + 1 + 1 + 1) 25 (.bool false) (.slice none 0 0)) := Lib.hid (by rw [← hw10]; exact T94.out.far2 (by omega) _ _)
    have HBn10 : Hid (Below n w w10) := Lib.hid (by rw [← hw10]; exact (HBn9.out.setCell (p := ⟨bx, 0, none⟩) (by show n ≤ bx; omega) _).setCell (p := ⟨bx, 1, none⟩) (by show n ≤ bx; omega) _)
    have m1 := T102.out.cell1
    have m2 := HY10.out.cell1
    have Hmin := Lib.hid (rminus_any (.slice ay ny cy) (.slice a4 l4 c4) y.natAbs r w10 (RowAt.below HY.out (Nat.le_of_eq Hn.out) HBn10.out) (by have := HRY10.out.dig; rw [Int.natAbs_natCast] at this; exact this) (Nat.le_of_lt Hry.out) (by omega))
    clear Hadd k1 k2 k3 k4 HX8 HRX8 HY8 HRY8 T82 T83 T84 HBn8 HB9 Hr9 HO8 HRO8
    go_wp2_with fail
    clear hw10 f1 f2 f3 f4 m1 m2
    refine Hmin.out.mono ?_
    rintro e w11 ⟨⟨v11, L11, rfl, hr11, lo11, hv11, hl11⟩, hB11⟩
    have HN11 := Lib.hid (normal_any false v11 L11 w11 hr11 lo11 (by omega))
    rw [hv11] at HN11
    obtain ⟨a11, c11, hv11', -⟩ := id hr11
    subst hv11'
    have HB11 := Lib.hid hB11
    clear hr11 lo11 hv11 hl11 hB11 Hmin
    obtain ⟨l11, hl11⟩ : ∃ l11, L11.length = l11 := ⟨_, rfl⟩
    rw [hl11] at HN11 ⊢
    clear hl11
    obtain ⟨R, hR⟩ : ∃ R, y.natAbs - r = R := ⟨_, rfl⟩
    rw [hR] at HN11 Hqr
    clear hR
    go_wp2_with fail
    refine (HN11.out).mono ?_
    rintro e w12 ⟨⟨vr, rfl, hr⟩, hB⟩
    have Hr12 := Lib.hid hr
    obtain ⟨a12, l12, c12, rfl, -, -, -⟩ := hr.form
    have HB12 := Lib.hid hB
    clear hr hB
    have hR0 : decide (sgn false R < 0) = false := decide_eq_false (by show ¬ ((R : Int) < 0); omega)
    rw [hR0] at Hr12 ⊢
    have HB1012 := Lib.hid (HB11.out.trans (HB12.out.mono HB11.out.size))
    have HX12 := Lib.hid (HX10.out.below HB1012.out HX10.out.lt)
    have HRX12 := Lib.hid (HRX10.out.below (Nat.le_refl _) HB1012.out)
    have HY12 := Lib.hid (HY10.out.below HB1012.out HY10.out.lt)
    have T123 := Lib.hid (T103.out.below HB1012.out T103.out.lt)
    have T124 := Lib.hid (T104.out.below HB1012.out T104.out.lt)
    have HBn12 := Lib.hid (HBn10.out.trans (HB1012.out.mono (by omega)))
    have f1 := HY12.out.cell0
    have f2 := HY12.out.cell1
    have f3 := HY12.out.frozen 0
    have f4 := HY12.out.frozen 1
    obtain ⟨w13, hw13⟩ : ∃ w13, (w12.setCell ⟨by_, 0, none⟩ (.bool false)).setCell ⟨by_, 1, none⟩ (.slice a12 l12 c12) = w13 := ⟨_, rfl⟩
    have HX13 : Hid (Two w13 bx 25 (.bool s9) (.slice a9 l9 c9)) := Lib.hid (by rw [← hw13]; exact HX12.out.far2 (by omega) _ _)
    have HRX13 : Hid (RInt w13 (.agg #[.bool s9, .slice a9 l9 c9]) (sgn s (q + 1))) := Lib.hid (by rw [← hw13]; exact HRX12.out.set_two HY12.out _ _)
    have HY13 : Hid (Two w13 by_ 25 (.bool false) (.slice a12 l12 c12)) := Lib.hid (by rw [← hw13]; exact HY12.out.put2 _ _)
    have HRY13 : Hid (RInt w13 (.agg #[.bool false, .slice a12 l12 c12]) (R : Int)) := Lib.hid (by rw [← hw13]; exact Hr12.out.set_two HY12.out _ _)
    have T133 : Hid (Two w13 (n + 1 + 1) 25 (.bool false) (.slice none 0 0)) := Lib.hid (by rw [← hw13]; exact T123.out.far2 (by omega) _ _)
    have T134 : Hid (Two w13 (n + 1 + 1 + 1) 25 (.bool false) (.slice none 0 0)) := Lib.hid (by rw [← hw13]; exact T124.out.far2 (by omega) _ _)
    have HBn13 : Hid (Below n w w13) := Lib.hid (by rw [← hw13]; exact (HBn12.out.setCell (p := ⟨by_, 0, none⟩) (by show n ≤ by_; omega) _).setCell (p := ⟨by_, 1, none⟩) (by show n ≤ by_; omega) _)
    clear hR0 HX12 HRX12 HY12 T123 T124 HBn12 HX10 HRX10 HY10 HRY10 T102 T103 T104 HBn10 HB11 HB12 HB1012 HN11 Hr12 HX9 HY9 HRY9 T92 T93 T94 HBn9
    have p1 := HX13.out.cell0
    have p2 := HX13.out.cell1
    have p3 := HY13.out.cell0
    have p4 := HY13.out.cell1
    have p5 := T133.out.cell0
    have p6 := T133.out.cell1
    have p7 := T134.out.cell0
    have p8 := T134.out.cell1
    have p9 := T133.out.frozen 0
    have p10 := T133.out.frozen 1
    have p11 := T134.out.frozen 0
    have p12 := T134.out.frozen 1
    go_wp2_with fail
    (clear hw13 f1 f2 f3 f4)
    refine startK 3 (fun w' => w'.cell? ⟨bx, 0, none⟩ = some (.bool s9) ∧ w'.cell? ⟨bx, 1, none⟩ = some (.slice a9 l9 c9) ∧ w'.cell? ⟨by_, 0, none⟩ = some (.bool false) ∧ w'.cell? ⟨by_, 1, none⟩ = some (.slice a12 l12 c12)) (by kernel_rfl) (⟨p1, p2, p3, p4⟩) (fun hHeld => ?_)
    refine takeK 0 52 (v := ?_) rfl rfl (by kernel_rfl) (by kernel_rfl) (by kernel_rfl) (by kernel_rfl) (fun _ _ _ h => h) (by rfl) ?_ (by assumption) ?_
    rotate_left
    · (intro w hSw; go_simp; first | done | with_reducible rfl)
    simp only [List.setIfInBounds_toArray, List.set_cons_zero, List.set_cons_succ]
    refine takeK 1 53 (v := ?_) rfl rfl (by kernel_rfl) (by kernel_rfl) (by kernel_rfl) (by kernel_rfl) (fun _ _ _ h => h) (by rfl) ?_ (by assumption) ?_
    rotate_left
    · (intro w hSw; go_simp; first | done | with_reducible rfl)
    simp only [List.setIfInBounds_toArray, List.set_cons_zero, List.set_cons_succ]
    clear p1 p2 p3 p4
    refine stepK 2 (by kernel_rfl) rfl (fun K hK => ?_)
    go_simp
    obtain ⟨wz, hwz⟩ : ∃ wz, ((w13.setCell ⟨n + 1 + 1, 0, none⟩ (.bool s9)).setCell ⟨n + 1 + 1, 1, none⟩ (.slice a9 l9 c9)).drew = wz := ⟨_, rfl⟩
    have U4 : Hid (Two wz (n + 1 + 1 + 1) 25 (.bool false) (.slice none 0 0)) := Lib.hid (by rw [← hwz]; exact T134.out.far2 (g := n + 1 + 1) (by omega) (.bool s9) (.slice a9 l9 c9))
    have U5 : Hid (Two wz (n + 1 + 1) 25 (.bool s9) (.slice a9 l9 c9)) := Lib.hid (by rw [← hwz]; exact T133.out.put2 (.bool s9) (.slice a9 l9 c9))
    have UX : Hid (Two wz bx 25 (.bool s9) (.slice a9 l9 c9)) := Lib.hid (by rw [← hwz]; exact HX13.out.far2 (g := n + 1 + 1) (by omega) (.bool s9) (.slice a9 l9 c9))
    have UY : Hid (Two wz by_ 25 (.bool false) (.slice a12 l12 c12)) := Lib.hid (by rw [← hwz]; exact HY13.out.far2 (g := n + 1 + 1) (by omega) (.bool s9) (.slice a9 l9 c9))
    have V1 : Hid (RInt wz (.agg #[.bool s9, .slice a9 l9 c9]) (qOf x y)) := Lib.hid (by rw [← hwz, Hqr.out.1]; exact HRX13.out.set_two T133.out (.bool s9) (.slice a9 l9 c9))
    have V2 : Hid (RInt wz (.agg #[.bool false, .slice a12 l12 c12]) (rOf x y)) := Lib.hid (by rw [← hwz, Hqr.out.2]; exact HRY13.out.set_two T133.out (.bool s9) (.slice a9 l9 c9))
    have VB : Hid (Below n w wz) := Lib.hid (by rw [← hwz]; exact ((HBn13.out.setCell (p := ⟨n + 1 + 1, 0, none⟩) (by show n ≤ n + 1 + 1; omega) (.bool s9)).setCell (p := ⟨n + 1 + 1, 1, none⟩) (by show n ≤ n + 1 + 1; omega) (.slice a9 l9 c9)).drew)
    have q7 := U4.out.cell0
    have q8 := U4.out.cell1
    have q11 := U4.out.frozen 0
    have q12 := U4.out.frozen 1
    try rw [hwz]
    go_wp2_with fail
    refine hK.out _ _ (⟨UX.out.cell0, UX.out.cell1, UY.out.cell0, UY.out.cell1⟩) (fun hHeld => ?_)
    clear hK K
    try simp only [Act.put, List.setIfInBounds_toArray, List.set_cons_zero, List.set_cons_succ]
    clear hwz p5 p6 p7 p8 p9 p10 p11 p12
    refine lastK (by kernel_rfl) rfl (by kernel_rfl) (fun K hK => ?_)
    go_simp
    refine hK.out _ _ ?_
    clear hK K
    try simp only [Act.put, List.setIfInBounds_toArray, List.set_cons_zero, List.set_cons_succ]
    clear hHeld
    have r5 := (U5.out.far2 (g := n + 1 + 1 + 1) (by omega) (.bool false) (.slice a12 l12 c12)).cell0
    have r6 := (U5.out.far2 (g := n + 1 + 1 + 1) (by omega) (.bool false) (.slice a12 l12 c12)).cell1
    have r7 := (U4.out.put2 (.bool false) (.slice a12 l12 c12)).cell0
    have r8 := (U4.out.put2 (.bool false) (.slice a12 l12 c12)).cell1
    go_wp2
    refine bodyPost_ret (v := .tuple #[.agg #[.bool s9, .slice a9 l9 c9], .agg #[.bool false, .slice a12 l12 c12]]) (by simp [results, Tryd.results31, go_sem, r5, r6, r7, r8]) rfl ⟨?_, _, _, rfl, ?_, ?_⟩
    · rw [Hn.out]
      exact (VB.out.setCell (p := ⟨n + 1 + 1 + 1, 0, none⟩) (by show n ≤ n + 1 + 1 + 1; omega) _).setCell (p := ⟨n + 1 + 1 + 1, 1, none⟩) (by show n ≤ n + 1 + 1 + 1; omega) _
    · exact V1.out.set_two U4.out _ _
    · exact V2.out.set_two U4.out _ _
  · have Hqr : Hid (qOf x y = sgn s q ∧ rOf x y = r) := Lib.hid (by
      have h9 := qOf_pos (x := x) (y := y) (fun h => hcase ⟨by have := Hsx.out; rw [decide_eq_true h.1] at this; exact this.symm, by
        rcases Nat.eq_zero_or_pos l4 with h0 | h0
        · exact absurd (by rw [Hr.out]; exact Hr0.out.1 h0) h.2
        · exact h0⟩)
      rw [Hsx.out, Hsy.out, Hs.out, Hq.out, Hr.out] at h9
      exact h9)
    cases sx with
    | false =>
      have p1 := HX5.out.cell0
      have p2 := HX5.out.cell1
      have p3 := HY5.out.cell0
      have p4 := HY5.out.cell1
      have p5 := T53.out.cell0
      have p6 := T53.out.cell1
      have p7 := T54.out.cell0
      have p8 := T54.out.cell1
      have p9 := T53.out.frozen 0
      have p10 := T53.out.frozen 1
      have p11 := T54.out.frozen 0
      have p12 := T54.out.frozen 1
      go_wp2_with fail
      (clear hw5 g1 g2 g3 g4)
      refine startK 3 (fun w' => w'.cell? ⟨bx, 0, none⟩ = some (.bool sq) ∧ w'.cell? ⟨bx, 1, none⟩ = some (.slice a2 l2 c2) ∧ w'.cell? ⟨by_, 0, none⟩ = some (.bool false) ∧ w'.cell? ⟨by_, 1, none⟩ = some (.slice a4 l4 c4)) (by kernel_rfl) (⟨p1, p2, p3, p4⟩) (fun hHeld => ?_)
      refine takeK 0 52 (v := ?_) rfl rfl (by kernel_rfl) (by kernel_rfl) (by kernel_rfl) (by kernel_rfl) (fun _ _ _ h => h) (by rfl) ?_ (by assumption) ?_
      rotate_left
      · (intro w hSw; go_simp; first | done | with_reducible rfl)
      simp only [List.setIfInBounds_toArray, List.set_cons_zero, List.set_cons_succ]
      refine takeK 1 53 (v := ?_) rfl rfl (by kernel_rfl) (by kernel_rfl) (by kernel_rfl) (by kernel_rfl) (fun _ _ _ h => h) (by rfl) ?_ (by assumption) ?_
      rotate_left
      · (intro w hSw; go_simp; first | done | with_reducible rfl)
      simp only [List.setIfInBounds_toArray, List.set_cons_zero, List.set_cons_succ]
      clear p1 p2 p3 p4
      refine stepK 2 (by kernel_rfl) rfl (fun K hK => ?_)
      go_simp
      obtain ⟨wz, hwz⟩ : ∃ wz, ((w5.setCell ⟨n + 1 + 1, 0, none⟩ (.bool sq)).setCell ⟨n + 1 + 1, 1, none⟩ (.slice a2 l2 c2)).drew = wz := ⟨_, rfl⟩
      have U4 : Hid (Two wz (n + 1 + 1 + 1) 25 (.bool false) (.slice none 0 0)) := Lib.hid (by rw [← hwz]; exact T54.out.far2 (g := n + 1 + 1) (by omega) (.bool sq) (.slice a2 l2 c2))
      have U5 : Hid (Two wz (n + 1 + 1) 25 (.bool sq) (.slice a2 l2 c2)) := Lib.hid (by rw [← hwz]; exact T53.out.put2 (.bool sq) (.slice a2 l2 c2))
      have UX : Hid (Two wz bx 25 (.bool sq) (.slice a2 l2 c2)) := Lib.hid (by rw [← hwz]; exact HX5.out.far2 (g := n + 1 + 1) (by omega) (.bool sq) (.slice a2 l2 c2))
      have UY : Hid (Two wz by_ 25 (.bool false) (.slice a4 l4 c4)) := Lib.hid (by rw [← hwz]; exact HY5.out.far2 (g := n + 1 + 1) (by omega) (.bool sq) (.slice a2 l2 c2))
      have V1 : Hid (RInt wz (.agg #[.bool sq, .slice a2 l2 c2]) (qOf x y)) := Lib.hid (by rw [← hwz, Hqr.out.1]; exact HRX5.out.set_two T53.out (.bool sq) (.slice a2 l2 c2))
      have V2 : Hid (RInt wz (.agg #[.bool false, .slice a4 l4 c4]) (rOf x y)) := Lib.hid (by rw [← hwz, Hqr.out.2]; exact HRY5.out.set_two T53.out (.bool sq) (.slice a2 l2 c2))
      have VB : Hid (Below n w wz) := Lib.hid (by rw [← hwz]; exact ((HBn5.out.setCell (p := ⟨n + 1 + 1, 0, none⟩) (by show n ≤ n + 1 + 1; omega) (.bool sq)).setCell (p := ⟨n + 1 + 1, 1, none⟩) (by show n ≤ n + 1 + 1; omega) (.slice a2 l2 c2)).drew)
      have q7 := U4.out.cell0
      have q8 := U4.out.cell1
      have q11 := U4.out.frozen 0
      have q12 := U4.out.frozen 1
      try rw [hwz]
      go_wp2_with fail
      refine hK.out _ _ (⟨UX.out.cell0, UX.out.cell1, UY.out.cell0, UY.out.cell1⟩) (fun hHeld => ?_)
      clear hK K
      try simp only [Act.put, List.setIfInBounds_toArray, List.set_cons_zero, List.set_cons_succ]
      clear hwz p5 p6 p7 p8 p9 p10 p11 p12
      refine lastK (by kernel_rfl) rfl (by kernel_rfl) (fun K hK => ?_)
      go_simp
      refine hK.out _ _ ?_
      clear hK K
      try simp only [Act.put, List.setIfInBounds_toArray, List.set_cons_zero, List.set_cons_succ]
      clear hHeld
      have r5 := (U5.out.far2 (g := n + 1 + 1 + 1) (by omega) (.bool false) (.slice a4 l4 c4)).cell0
      have r6 := (U5.out.far2 (g := n + 1 + 1 + 1) (by omega) (.bool false) (.slice a4 l4 c4)).cell1
      have r7 := (U4.out.put2 (.bool false) (.slice a4 l4 c4)).cell0
      have r8 := (U4.out.put2 (.bool false) (.slice a4 l4 c4)).cell1
      go_wp2
      refine bodyPost_ret (v := .tuple #[.agg #[.bool sq, .slice a2 l2 c2], .agg #[.bool false, .slice a4 l4 c4]]) (by simp [results, Tryd.results31, go_sem, r5, r6, r7, r8]) rfl ⟨?_, _, _, rfl, ?_, ?_⟩
      · rw [Hn.out]
        exact (VB.out.setCell (p := ⟨n + 1 + 1 + 1, 0, none⟩) (by show n ≤ n + 1 + 1 + 1; omega) _).setCell (p := ⟨n + 1 + 1 + 1, 1, none⟩) (by show n ≤ n + 1 + 1 + 1; omega) _
      · exact V1.out.set_two U4.out _ _
      · exact V2.out.set_two U4.out _ _
    | true =>
      have hl0 : l4 = 0 := by
        rcases Nat.eq_zero_or_pos l4 with h | h
        · exact h
        · exact absurd ⟨rfl, h⟩ hcase
      subst hl0
      have p1 := HX5.out.cell0
      have p2 := HX5.out.cell1
      have p3 := HY5.out.cell0
      have p4 := HY5.out.cell1
      have p5 := T53.out.cell0
      have p6 := T53.out.cell1
      have p7 := T54.out.cell0
      have p8 := T54.out.cell1
      have p9 := T53.out.frozen 0
      have p10 := T53.out.frozen 1
      have p11 := T54.out.frozen 0
      have p12 := T54.out.frozen 1
      go_wp2_with fail
      (clear hw5 g1 g2 g3 g4)
      refine startK 3 (fun w' => w'.cell? ⟨bx, 0, none⟩ = some (.bool sq) ∧ w'.cell? ⟨bx, 1, none⟩ = some (.slice a2 l2 c2) ∧ w'.cell? ⟨by_, 0, none⟩ = some (.bool false) ∧ w'.cell? ⟨by_, 1, none⟩ = some (.slice a4 0 c4)) (by kernel_rfl) (⟨p1, p2, p3, p4⟩) (fun hHeld => ?_)
      refine takeK 0 52 (v := ?_) rfl rfl (by kernel_rfl) (by kernel_rfl) (by kernel_rfl) (by kernel_rfl) (fun _ _ _ h => h) (by rfl) ?_ (by assumption) ?_
      rotate_left
      · (intro w hSw; go_simp; first | done | with_reducible rfl)
      simp only [List.setIfInBounds_toArray, List.set_cons_zero, List.set_cons_succ]
      refine takeK 1 53 (v := ?_) rfl rfl (by kernel_rfl) (by kernel_rfl) (by kernel_rfl) (by kernel_rfl) (fun _ _ _ h => h) (by rfl) ?_ (by assumption) ?_
      rotate_left
      · (intro w hSw; go_simp; first | done | with_reducible rfl)
      simp only [List.setIfInBounds_toArray, List.set_cons_zero, List.set_cons_succ]
      clear p1 p2 p3 p4
      refine stepK 2 (by kernel_rfl) rfl (fun K hK => ?_)
      go_simp
      obtain ⟨wz, hwz⟩ : ∃ wz, ((w5.setCell ⟨n + 1 + 1, 0, none⟩ (.bool sq)).setCell ⟨n + 1 + 1, 1, none⟩ (.slice a2 l2 c2)).drew = wz := ⟨_, rfl⟩
      have U4 : Hid (Two wz (n + 1 + 1 + 1) 25 (.bool false) (.slice none 0 0)) := Lib.hid (by rw [← hwz]; exact T54.out.far2 (g := n + 1 + 1) (by omega) (.bool sq) (.slice a2 l2 c2))
      have U5 : Hid (Two wz (n + 1 + 1) 25 (.bool sq) (.slice a2 l2 c2)) := Lib.hid (by rw [← hwz]; exact T53.out.put2 (.bool sq) (.slice a2 l2 c2))
      have UX : Hid (Two wz bx 25 (.bool sq) (.slice a2 l2 c2)) := Lib.hid (by rw [← hwz]; exact HX5.out.far2 (g := n + 1 + 1) (by omega) (.bool sq) (.slice a2 l2 c2))
      have UY : Hid (Two wz by_ 25 (.bool false) (.slice a4 0 c4)) := Lib.hid (by rw [← hwz]; exact HY5.out.far2 (g := n + 1 + 1) (by omega) (.bool sq) (.slice a2 l2 c2))
      have V1 : Hid (RInt wz (.agg #[.bool sq, .slice a2 l2 c2]) (qOf x y)) := Lib.hid (by rw [← hwz, Hqr.out.1]; exact HRX5.out.set_two T53.out (.bool sq) (.slice a2 l2 c2))
      have V2 : Hid (RInt wz (.agg #[.bool false, .slice a4 0 c4]) (rOf x y)) := Lib.hid (by rw [← hwz, Hqr.out.2]; exact HRY5.out.set_two T53.out (.bool sq) (.slice a2 l2 c2))
      have VB : Hid (Below n w wz) := Lib.hid (by rw [← hwz]; exact ((HBn5.out.setCell (p := ⟨n + 1 + 1, 0, none⟩) (by show n ≤ n + 1 + 1; omega) (.bool sq)).setCell (p := ⟨n + 1 + 1, 1, none⟩) (by show n ≤ n + 1 + 1; omega) (.slice a2 l2 c2)).drew)
      have q7 := U4.out.cell0
      have q8 := U4.out.cell1
      have q11 := U4.out.frozen 0
      have q12 := U4.out.frozen 1
      try rw [hwz]
      go_wp2_with fail
      refine hK.out _ _ (⟨UX.out.cell0, UX.out.cell1, UY.out.cell0, UY.out.cell1⟩) (fun hHeld => ?_)
      clear hK K
      try simp only [Act.put, List.setIfInBounds_toArray, List.set_cons_zero, List.set_cons_succ]
      clear hwz p5 p6 p7 p8 p9 p10 p11 p12
      refine lastK (by kernel_rfl) rfl (by kernel_rfl) (fun K hK => ?_)
      go_simp
      refine hK.out _ _ ?_
      clear hK K
      try simp only [Act.put, List.setIfInBounds_toArray, List.set_cons_zero, List.set_cons_succ]
      clear hHeld
      have r5 := (U5.out.far2 (g := n + 1 + 1 + 1) (by omega) (.bool false) (.slice a4 0 c4)).cell0
      have r6 := (U5.out.far2 (g := n + 1 + 1 + 1) (by omega) (.bool false) (.slice a4 0 c4)).cell1
      have r7 := (U4.out.put2 (.bool false) (.slice a4 0 c4)).cell0
      have r8 := (U4.out.put2 (.bool false) (.slice a4 0 c4)).cell1
      go_wp2
      refine bodyPost_ret (v := .tuple #[.agg #[.bool sq, .slice a2 l2 c2], .agg #[.bool false, .slice a4 0 c4]]) (by simp [results, Tryd.results31, go_sem, r5, r6, r7, r8]) rfl ⟨?_, _, _, rfl, ?_, ?_⟩
      · rw [Hn.out]
        exact (VB.out.setCell (p := ⟨n + 1 + 1 + 1, 0, none⟩) (by show n ≤ n + 1 + 1 + 1; omega) _).setCell (p := ⟨n + 1 + 1 + 1, 1, none⟩) (by show n ≤ n + 1 + 1 + 1; omega) _
      · exact V1.out.set_two U4.out _ _
      · exact V2.out.set_two U4.out _ _


theorem rOf_nat (p g : Nat) : rOf (p : Int) (g : Int) = p % g := by
  have := (qOf_pos (x := (p : Int)) (y := (g : Int)) (fun h => by omega)).2
  rw [this, Int.natAbs_natCast, Int.natAbs_natCast]

set_option maxRecDepth 100000 in
set_option maxHeartbeats 4000000 in
theorem rgcd_any (vx vy : Value) (x y : Int) (w : World) (hx : RInt w vx x) (hy : RInt w vy y) (hlx : (digs T4 x.natAbs).length ≤ 500000) (hly : (digs T4 y.natAbs).length ≤ 500000) :
    Calls Tryd.prog 42 #[vx, vy] w (RPost (Nat.gcd x.natAbs y.natAbs : Nat) w) := by
  obtain ⟨ax, nx, cx, rfl, hmx, -, hcx⟩ := hx.form
  obtain ⟨ay, ny, cy, rfl, hmy, -, hcy⟩ := hy.form
  have HX := Lib.hid hmx
  have HY := Lib.hid hmy
  clear hx hmx hy hmy
  obtain ⟨n, hn⟩ : ∃ n, w.heap.size = n := ⟨_, rfl⟩
  have Hn := Lib.hid hn
  obtain ⟨W, hW, t1, t2, t3, hBW, hsW⟩ := boxes3 w 25 (.bool (decide (x < 0))) (.slice ax nx cx) (.bool (decide (y < 0))) (.slice ay ny cy) (.bool false) (.slice none 0 0) n hn
  have Hnx : Hid (∀ w', Below n w w' → Calls Tryd.prog 50 #[.bool false, .slice ax nx cx] w' fun e w'' => (∃ vr, e = .returned vr ∧ RInt w'' vr (x.natAbs : Nat)) ∧ Below w'.heap.size w' w'') := Lib.hid (fun w' hb => by
    have := normal_any false _ (digs T4 x.natAbs) w' (RowAt.below HX.out (Nat.le_of_eq hn) hb) (digs_low T4 t4_two _) (by omega)
    rw [val_digs T4 t4_two] at this
    exact this)
  have Hny : Hid (∀ w', Below n w w' → Calls Tryd.prog 50 #[.bool false, .slice ay ny cy] w' fun e w'' => (∃ vr, e = .returned vr ∧ RInt w'' vr (y.natAbs : Nat)) ∧ Below w'.heap.size w' w'') := Lib.hid (fun w' hb => by
    have := normal_any false _ (digs T4 y.natAbs) w' (RowAt.below HY.out (Nat.le_of_eq hn) hb) (digs_low T4 t4_two _) (by omega)
    rw [val_digs T4 t4_two] at this
    exact this)
  generalize decide (x < 0) = sx at *
  generalize decide (y < 0) = sy at *
  have HBW := Lib.hid hBW
  have d1 := t1.cell1
  have d2 := t2.cell1
  have T1 := Lib.hid t1
  have T2 := Lib.hid t2
  have T3 := Lib.hid t3
  clear t1 t2 t3 hBW
  go_enter Tryd.func42, Tryd.ntmps42
  go_wp2_with fail
  clear hW
  refine (Hnx.out W HBW.out).mono ?_
  rintro e w1 ⟨⟨vr, rfl, hr⟩, hB⟩
  have Hr1 := Lib.hid hr
  obtain ⟨a1, l1, c1, rfl, -, -, -⟩ := hr.form
  have HB1 := Lib.hid hB
  clear hr hB
  have hr0 : decide ((x.natAbs : Int) < 0) = false := decide_eq_false (by omega)
  rw [hr0] at Hr1 ⊢
  obtain ⟨bx, hbx⟩ : ∃ b, w1.heap.size = b := ⟨_, rfl⟩
  obtain ⟨w2, hw2⟩ : ∃ w2, w1.alloc (.cells #[.bool false, .slice a1 l1 c1] 25) = w2 := ⟨_, rfl⟩
  have hs2 : w2.heap.size = bx + 1 := by rw [← hw2, World.size_alloc, hbx]
  have HB12 : Hid (Below w1.heap.size w1 w2) := Lib.hid (by rw [← hw2]; exact (Below.refl _ w1).alloc (Nat.le_refl _) _)
  have hX2 := Two.new w1 25 (.bool false) (.slice a1 l1 c1)
  rw [hw2, hbx] at hX2
  have HX2 := Lib.hid hX2
  have HRX2 := Lib.hid (Hr1.out.below (Nat.le_refl _) HB12.out)
  have HBW2 := Lib.hid (HB1.out.trans (HB12.out.mono HB1.out.size))
  have HBn2 := Lib.hid (HBW.out.trans (HBW2.out.mono (by omega)))
  have hz1 : W.heap.size ≤ bx := by rw [← hbx]; exact HB1.out.size
  have T22 := Lib.hid (T2.out.below HBW2.out T2.out.lt)
  have T23 := Lib.hid (T3.out.below HBW2.out T3.out.lt)
  have d3 := T22.out.cell1
  clear hX2 hr0 Hr1 HB1 HB12 d1 d2 T1 T2 T3
  go_wp2_with fail
  clear hw2
  refine (Hny.out w2 HBn2.out).mono ?_
  rintro e w3 ⟨⟨vr, rfl, hr⟩, hB⟩
  have Hr3 := Lib.hid hr
  obtain ⟨a3, l3, c3, rfl, -, -, -⟩ := hr.form
  have HB3 := Lib.hid hB
  clear hr hB
  have hr0 : decide ((y.natAbs : Int) < 0) = false := decide_eq_false (by omega)
  rw [hr0] at Hr3 ⊢
  obtain ⟨by_, hby⟩ : ∃ b, w3.heap.size = b := ⟨_, rfl⟩
  obtain ⟨w4, hw4⟩ : ∃ w4, w3.alloc (.cells #[.bool false, .slice a3 l3 c3] 25) = w4 := ⟨_, rfl⟩
  have HB34 : Hid (Below w3.heap.size w3 w4) := Lib.hid (by rw [← hw4]; exact (Below.refl _ w3).alloc (Nat.le_refl _) _)
  have hY4 := Two.new w3 25 (.bool false) (.slice a3 l3 c3)
  rw [hw4, hby] at hY4
  have HY4 := Lib.hid hY4
  have HRY4 := Lib.hid (Hr3.out.below (Nat.le_refl _) HB34.out)
  have HB24 := Lib.hid (HB3.out.trans (HB34.out.mono HB3.out.size))
  have HX4 := Lib.hid (HX2.out.below HB24.out HX2.out.lt)
  have HRX4 := Lib.hid (HRX2.out.below (Nat.le_refl _) HB24.out)
  have HBn4 := Lib.hid (HBn2.out.trans (HB24.out.mono (by omega)))
  have T43 := Lib.hid (T23.out.below HB24.out T23.out.lt)
  have hz3 : bx < by_ := by rw [← hby]; have := HB3.out.size; omega
  clear hY4 hr0 Hr3 HB3 HB34 d3 T22 T23 HX2 HRX2 HBn2 HB24 HBW2
  go_wp2_with fail
  clear hw4
  go_loopg [] y.natAbs (fun g wr => ∃ (p : Nat) (xa : Option Addr) (xl xc : Nat) (ya : Option Addr) (yl yc : Nat), Hid (Nat.gcd p g = Nat.gcd x.natAbs y.natAbs) ∧ Hid ((digs T4 p).length ≤ 500000) ∧ Hid ((digs T4 g).length ≤ 500000) ∧ Hid (Two wr bx 25 (.bool false) (.slice xa xl xc)) ∧ Hid (RInt wr (.agg #[.bool false, .slice xa xl xc]) (p : Nat)) ∧ Hid (Two wr by_ 25 (.bool false) (.slice ya yl yc)) ∧ Hid (RInt wr (.agg #[.bool false, .slice ya yl yc]) (g : Nat)) ∧ Hid (Below n w wr) ∧ Hid (Two wr (n + 1 + 1) 25 (.bool false) (.slice none 0 0)))
  case atStart => exact ⟨x.natAbs, a1, l1, c1, a3, l3, c3, Lib.hid rfl, Lib.hid hlx, Lib.hid hly, HX4, HRX4, HY4, HRY4, HBn4, T43⟩
  case round =>
    obtain ⟨p, xa, xl, xc, ya, yl, yc, hg, hp, hq, hX, hRX, hY, hRY, hB, hT⟩ := hrel
    clear HX4 HRX4 HY4 HRY4 HBn4 T43
    obtain ⟨_, _, _, hv, -, hyl, hyc⟩ := hRY.out.form
    injection hv with hv
    have hv2 := congrArg (fun a => a[1]?) hv
    simp only [List.getElem?_toArray, List.getElem?_cons_succ, List.getElem?_cons_zero, Option.some.injEq] at hv2
    injection hv2 with e1 e2 e3
    subst e1 e2 e3
    rw [Int.natAbs_natCast] at hyl
    have hlb0 : yl = 0 ↔ gk = 0 := by rw [hyl, List.length_eq_zero_iff, digs_nil T4 _ t4_two]
    have c1 := hY.out.cell0
    have c2 := hY.out.cell1
    have c3 := hX.out.cell0
    have c4 := hX.out.cell1
    clear hv hyl
    by_cases h0 : gk = 0
    · have hl0 : yl = 0 := hlb0.2 h0
      subst hl0
      have hr : p = Nat.gcd x.natAbs y.natAbs := by have := hg.out; rw [h0, Nat.gcd_zero_right] at this; exact this
      have Hr := Lib.hid hr
      have g0 := hT.out.cell0
      have g1 := hT.out.cell1
      have g2 := hT.out.frozen 0
      have g3 := hT.out.frozen 1
      clear hr hlb0
      go_wp2
      refine bodyPost_ret (v := .agg #[.bool false, .slice xa xl xc]) (by simp [results, Tryd.results42, go_sem, g0, g1]) rfl ⟨⟨_, rfl, ?_⟩, ?_⟩
      · rw [← Hr.out]
        exact hRX.out.set_two hT.out _ _
      · rw [Hn.out]
        exact (hB.out.setCell (p := ⟨n + 1 + 1, 0, none⟩) (by show n ≤ n + 1 + 1; omega) _).setCell (p := ⟨n + 1 + 1, 1, none⟩) (by show n ≤ n + 1 + 1; omega) _
    · have hl0 : 0 < yl := by omega
      have Hd := Lib.hid (rdiv_any _ _ (p : Int) (gk : Int) wr hRX.out hRY.out (by omega) (by rw [Int.natAbs_natCast]; exact hp.out) (by rw [Int.natAbs_natCast]; exact hq.out))
      have hml : p % gk < gk := Nat.mod_lt _ (by omega)
      go_wp2_with fail
      refine Hd.out.mono ?_
      rintro e w6 ⟨hB6, vq, vr, rfl, hvq, hvr⟩
      rw [rOf_nat] at hvr
      obtain ⟨aq, lq, cq, rfl, -, -, -⟩ := hvq.form
      have Hvr := Lib.hid hvr
      obtain ⟨ar, lr, cr, rfl, -, -, -⟩ := hvr.form
      obtain ⟨R, hR⟩ : ∃ R, p % gk = R := ⟨_, rfl⟩
      rw [hR] at Hvr hml ⊢
      have HR := Lib.hid hR
      have hr0 : decide ((R : Int) < 0) = false := decide_eq_false (by omega)
      rw [hr0] at Hvr ⊢
      generalize decide (qOf (p : Int) (gk : Int) < 0) = sq at *
      have HX6 := Lib.hid (hX.out.below hB6 hX.out.lt)
      have HY6 := Lib.hid (hY.out.below hB6 hY.out.lt)
      have HRY6 := Lib.hid (hRY.out.below (Nat.le_refl _) hB6)
      have T6 := Lib.hid (hT.out.below hB6 hT.out.lt)
      have HB6 := Lib.hid (hB.out.trans (hB6.mono (Nat.le_trans (Nat.le_of_eq Hn.out.symm) hB.out.size)))
      clear hvq hvr hr0 hR hB6 Hd c1 c2 c3 c4 hlb0
      obtain ⟨b6, hb6⟩ : ∃ b6, w6.heap.size = b6 := ⟨_, rfl⟩
      obtain ⟨w7, hw7⟩ : ∃ w7, (w6.alloc (.cells #[.bool sq, .slice aq lq cq] 25)).alloc (.cells #[.bool false, .slice ar lr cr] 25) = w7 := ⟨_, rfl⟩
      have HB67 : Hid (Below w6.heap.size w6 w7) := Lib.hid (by rw [← hw7]; exact ((Below.refl _ w6).alloc (Nat.le_refl _) _).alloc (by simp) _)
      have HX7 := Lib.hid (HX6.out.below HB67.out HX6.out.lt)
      have HY7 := Lib.hid (HY6.out.below HB67.out HY6.out.lt)
      have HRY7 := Lib.hid (HRY6.out.below (Nat.le_refl _) HB67.out)
      have HR7 := Lib.hid (Hvr.out.below (Nat.le_refl _) HB67.out)
      have T7 := Lib.hid (T6.out.below HB67.out T6.out.lt)
      have HB7 := Lib.hid (HB6.out.trans (HB67.out.mono (Nat.le_trans (Nat.le_of_eq Hn.out.symm) HB6.out.size)))
      have hE7 := Two.new (w6.alloc (.cells #[.bool sq, .slice aq lq cq] 25)) 25 (.bool false) (.slice ar lr cr)
      rw [hw7, World.size_alloc, hb6] at hE7
      have HE7 := Lib.hid hE7
      have hz6 : by_ < b6 := by rw [← hb6]; exact HY6.out.lt
      have c1 := HY7.out.cell0
      have c2 := HY7.out.cell1
      have c3 := HX7.out.cell0
      have c4 := HX7.out.cell1
      have c5 := HX7.out.frozen 0
      have c6 := HX7.out.frozen 1
      clear hE7 HB67 Hvr HX6 HY6 HRY6 T6 HB6
      obtain ⟨w8, hw8⟩ : ∃ w8, (w7.setCell ⟨bx, 0, none⟩ (.bool false)).setCell ⟨bx, 1, none⟩ (.slice ya yl yc) = w8 := ⟨_, rfl⟩
      have HE8 : Hid (Two w8 (b6 + 1) 25 (.bool false) (.slice ar lr cr)) := Lib.hid (by rw [← hw8]; exact HE7.out.far2 (by omega) _ _)
      have HY8 : Hid (Two w8 by_ 25 (.bool false) (.slice ya yl yc)) := Lib.hid (by rw [← hw8]; exact HY7.out.far2 (by omega) _ _)
      have HX8 : Hid (Two w8 bx 25 (.bool false) (.slice ya yl yc)) := Lib.hid (by rw [← hw8]; exact HX7.out.put2 _ _)
      have HRY8 : Hid (RInt w8 (.agg #[.bool false, .slice ya yl yc]) (gk : Nat)) := Lib.hid (by rw [← hw8]; exact HRY7.out.set_two HX7.out _ _)
      have HR8 : Hid (RInt w8 (.agg #[.bool false, .slice ar lr cr]) (R : Nat)) := Lib.hid (by rw [← hw8]; exact HR7.out.set_two HX7.out _ _)
      have T8 : Hid (Two w8 (n + 1 + 1) 25 (.bool false) (.slice none 0 0)) := Lib.hid (by rw [← hw8]; exact T7.out.far2 (by omega) _ _)
      have HB8 : Hid (Below n w w8) := Lib.hid (by rw [← hw8]; exact (HB7.out.setCell (p := ⟨bx, 0, none⟩) (by show n ≤ bx; omega) _).setCell (p := ⟨bx, 1, none⟩) (by show n ≤ bx; omega) _)
      have k1 := HE8.out.cell0
      have k2 := HE8.out.cell1
      have k3 := HY8.out.cell0
      have k4 := HY8.out.cell1
      have k5 := HY8.out.frozen 0
      have k6 := HY8.out.frozen 1
      clear HE7 HX7 HY7 HRY7 HR7 T7 HB7
      go_wp2_with fail
      go_roundg R
      case measure => exact hml
      case rel =>
        refine ⟨gk, ya, yl, yc, ar, lr, cr, Lib.hid (by rw [← hg.out, ← HR.out, Nat.gcd_comm p gk, Nat.gcd_rec gk p, Nat.gcd_comm]), hq, Lib.hid (Nat.le_trans (digs_len_mono T4 t4_two _ _ (Nat.le_of_lt hml)) hq.out), Lib.hid (HX8.out.far2 (by omega) _ _), Lib.hid (HRY8.out.set_two HY8.out _ _), Lib.hid (HY8.out.put2 _ _), Lib.hid (HR8.out.set_two HY8.out _ _), Lib.hid ?_, Lib.hid (T8.out.far2 (by omega) _ _)⟩
        exact (HB8.out.setCell (p := ⟨by_, 0, none⟩) (by show n ≤ by_; omega) _).setCell (p := ⟨by_, 1, none⟩) (by show n ≤ by_; omega) _

end Go.Proofs.YtgfgjnkndfgdiaaDoor
