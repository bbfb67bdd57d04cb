/- bounds of wide integers and of the reference's; forms. -/
import Derived.Test.YtlmbebbdamgfpaaQHR5Power
import Derived.Test.YtlmbebbdamgfpaaQHWKnuth
import Derived.Test.YtlmbebbdamgfpaaQHR5Mul
set_option linter.unusedVariables false
set_option linter.unusedSimpArgs false
set_option maxHeartbeats 4000000
set_option maxRecDepth 100000
namespace Go.Proofs.Ytlmbebbdamgfpaa
open Go.RowKit
def qLs (x y : Int) (w : World) (e : Ending) (w' : World) : Prop :=
 Below w.heap.size w w' /\ ∃ vq vr, e = .returned (.tuple #[vq, vr]) /\ qAL w' vq (qOf x y) /\ qAL w' vr (rOf x y)
theorem qAL.dig {w : World} {b : Bool} {a : Option Addr} {l c : Nat} {z : Int} (h : qAL w (.agg #[.bool b, .slice a l c]) z) : qBG w (.slice a l c) z.natAbs := by
 obtain ⟨vd, hv, hm⟩ := h; injection hv with hv; have hv2 : vd = .slice a l c := by
  have := congrArg (fun a => a[1]?) hv; simpa using this.symm
 rw [hv2] at hm; exact hm
theorem qJH (vx vy : Value) (x y : Int) (w : World) (hx : qAL w vx x) (hy : qAL w vy y) (hy0 : y ≠ 0) (hlx : (qAe T4 x.natAbs).length <= 500000) (hly : (qAe T4 y.natAbs).length <= 500000) :
 Calls Try.prog 47 #[vx, vy] w (qLs x y w) := by
 obtain ⟨ax, nx, cx, rfl, hmx, hnx, hcx⟩ := hx.form; obtain ⟨ay, ny, cy, rfl, hmy, hny, hcy⟩ := hy.form; obtain ⟨n, hn⟩ := eX w.heap.size; have Hn := hZ hn; obtain ⟨W, hW, t1, t2, t3, t4, hBW, hsW⟩ := qKu w 61 (.bool (decide (x < 0))) (.slice ax nx cx) (.bool (decide (y < 0))) (.slice ay ny cy) (.bool false) (.slice none 0 0) (.bool false) (.slice none 0 0) n hn; have Hd := hZ (qFZ (.slice ax nx cx) (.slice ay ny cy) x.natAbs y.natAbs W (qAd.below hmx (Nat.le_of_eq hn) hBW) (qAd.below hmy (Nat.le_of_eq hn) hBW) (by omega) hlx hly); have HY := hZ hmy; have HBW := hZ hBW; have T1 := hZ t1; have T2 := hZ t2; have T3 := hZ t3; have T4' := hZ t4; have d1 := t1.cell1; have d3 := t2.cell1; obtain ⟨sx, hsx⟩ := eX (decide (x < 0)); obtain ⟨sy, hsy⟩ := eX (decide (y < 0)); rw [hsx] at hW T1 ⊢; rw [hsy] at hW T2 ⊢; have Hsx := hZ hsx; have Hsy := hZ hsy; clear hmx hmy t1 t2 t3 t4 hBW hnx hny hsx hsy hx hy
 go_enter Try.func47, Try.ntmps47
 go_wp2_with fail
 clear hW d1 d3; refine Hd.o.mono ?_; rintro e w1 ⟨⟨vq, vr, L1, rfl, hrq, loq, hlq, hvq, hr1⟩, hB1⟩; obtain ⟨aq, cq, hvq1, -⟩ := id hrq; subst hvq1; obtain ⟨ar, cr, hvr1, hcr1, hcr2, -⟩ := id hr1; subst hvr1; have HB1 := hZ (HBW.o.trans (hB1.mono (by omega))); have z1 := hB1.size; rw [hsW] at z1; have T11 := hZ (T1.o.below hB1 (by omega)); have T12 := hZ (T2.o.below hB1 (by omega)); have T13 := hZ (T3.o.below hB1 (by omega)); have T14 := hZ (T4'.o.below hB1 (by omega)); have e0 := T11.o.cell0; have e2 := T12.o.cell0; have HNq := hZ (qAJ (sx != sy) _ L1 w1 hrq loq (by omega)); rw [hvq] at HNq; have HR1 := hZ hr1; clear hrq loq hvq hr1 hB1 Hd T1 T2 T3 T4' hcr1; rw [hlq]; rw [hlq] at HNq; clear hlq; obtain ⟨q, hq⟩ := eX (x.natAbs / y.natAbs); obtain ⟨r, hr⟩ := eX (x.natAbs % y.natAbs); have Hq := hZ hq; have Hr := hZ hr; rw [hq] at HNq; rw [hr] at HR1 ⊢; have Hry : Hid (r < y.natAbs) := hZ (by rw [<- hr]; exact Nat.mod_lt _ (by omega)); have Hql : Hid ((qAe T4 q).length <= 500000) := hZ (Nat.le_trans (qAM T4 qAn _ _ (by rw [<- hq]; exact Nat.div_le_self _ _)) hlx); have Hrl : Hid ((qAe T4 r).length <= 500000) := hZ (Nat.le_trans (qAM T4 qAn _ _ (Nat.le_of_lt Hry.o)) hly); obtain ⟨lq, hlq⟩ := eX ((qAe T4 x.natAbs).length); rw [hlq] at HNq ⊢; clear hq hr hlq; have HNr0 : Hid (∀ w' : World, Below w1.heap.size w1 w' -> Calls Try.prog 59 #[.bool false, .slice ar (qAe T4 r).length cr] w' fun e w'' => (∃ vr, e = .returned vr /\ qAL w'' vr (r : Int)) /\ Below w'.heap.size w' w'') := hZ (fun w' hb => by
  have := qAJ false _ (qAe T4 r) w' (qAd.below HR1.o (Nat.le_refl _) hb) (qAl T4 qAn r) (by have := Hrl.o; omega); rw [qAi T4 qAn] at this; exact this)
 obtain ⟨lr, hlr⟩ := eX ((qAe T4 r).length); rw [hlr] at HNr0 ⊢; clear hlr; obtain ⟨s, hs⟩ := eX ((sx != sy)); have hs2 : (!(sx == sy)) = s := hs; have Hs := hZ hs; rw [hs] at HNq; clear hs
 go_wp2_with fail
 refine (HNq.o).mono ?_; rintro e w2 ⟨⟨vr, rfl, hr⟩, hB⟩; have Hr2 := hZ hr; obtain ⟨a2, l2, c2, rfl, -, -, -⟩ := hr.form; have HB2 := hZ hB; clear hr hB; generalize hsq : decide (sgn s q < 0) = sq at *; have Hsq := hZ hsq; clear hsq; obtain ⟨bx, hbx⟩ := eX w2.heap.size; obtain ⟨w3, hw3⟩ := eX (w2.alloc (.cells #[.bool sq, .slice a2 l2 c2] 61)); have hs3 : w3.heap.size = bx + 1 := by rw [<- hw3, World.size_alloc, hbx]
 have HB23 : Hid (Below w2.heap.size w2 w3) := hZ (by rw [<- hw3]; exact (Below.refl _ w2).alloc (Nat.le_refl _) _); have hX3 := Two.new w2 61 (.bool sq) (.slice a2 l2 c2); rw [hw3, hbx] at hX3; have HX3 := hZ hX3; have HR3 := hZ (Hr2.o.below (Nat.le_refl _) HB23.o); have HB13 := hZ (HB2.o.trans (HB23.o.mono HB2.o.size)); have hz2 : w1.heap.size <= bx := by rw [<- hbx]; exact HB2.o.size
 have HNr := hZ (HNr0.o w3 HB13.o); clear HNr0 hX3 HB23 Hr2 HB2 HNq e0 e2
 go_wp2_with fail
 clear hw3; refine HNr.o.mono ?_; rintro e w4 ⟨⟨vr, rfl, hr⟩, hB⟩; have Hr4 := hZ hr; obtain ⟨a4, l4, c4, rfl, -, hl4, hc4⟩ := hr.form; have HB4 := hZ hB; clear hr hB; have hr0 : decide ((r : Int) < 0) = false := decide_eq_false (by omega); rw [hr0] at Hr4 ⊢; obtain ⟨by_, hby⟩ := eX w4.heap.size; obtain ⟨w5, hw5⟩ := eX (w4.alloc (.cells #[.bool false, .slice a4 l4 c4] 61)); have hs5 : w5.heap.size = by_ + 1 := by rw [<- hw5, World.size_alloc, hby]
 have HB45 : Hid (Below w4.heap.size w4 w5) := hZ (by rw [<- hw5]; exact (Below.refl _ w4).alloc (Nat.le_refl _) _); have hY5 := Two.new w4 61 (.bool false) (.slice a4 l4 c4); rw [hw5, hby] at hY5; have HY5 := hZ hY5; have HRY5 := hZ (Hr4.o.below (Nat.le_refl _) HB45.o); have HB35 := hZ (HB4.o.trans (HB45.o.mono HB4.o.size)); have HX5 := hZ (HX3.o.below HB35.o HX3.o.lt); have HRX5 := hZ (HR3.o.below (Nat.le_refl _) HB35.o); have HB15 := hZ (HB13.o.trans (HB35.o.mono HB13.o.size)); have T51 := hZ (T11.o.below HB15.o (by omega)); have T52 := hZ (T12.o.below HB15.o (by omega)); have T53 := hZ (T13.o.below HB15.o (by omega)); have T54 := hZ (T14.o.below HB15.o (by omega)); have HBn5 := hZ (HB1.o.trans (HB15.o.mono (by omega))); have hz4 : bx < by_ := by rw [<- hby]; have := HB4.o.size; omega
 have g1 := hY5.cell1; have g2 := T51.o.cell0; have g3 := T52.o.cell0; have g4 := T52.o.cell1; have Hr0 : Hid (l4 = 0 ↔ r = 0) := hZ (by
  rw [hl4, Int.natAbs_natCast, List.length_eq_zero_iff, qBM T4 _ qAn])
 clear hr0 Hr4 HB4 HB45 hY5 HB35 HX3 HR3 HB13 HB15 T11 T12 T13 T14 HNr hl4; by_cases hcase : sx = true /\ 0 < l4
 ·obtain ⟨rfl, hl0⟩ := hcase
  have Hqr : Hid (qOf x y = sgn s (q + 1) /\ rOf x y = y.natAbs - r) := hZ (by
   have h9 := qGV (x := x) (y := y) ⟨by simpa using Hsx.o, fun h => by rw [Hr.o] at h; have := Hr0.o.2 h; omega⟩; rw [Hsx.o, Hsy.o, Hs.o, Hq.o, Hr.o] at h9; exact h9)
  have hs4 : (!sy) = s := by rw [<- hs2]; cases sy <;> rfl
  obtain ⟨w6, hw6⟩ := eX (w5.alloc (.cells #[.int .i64 1] 3)); have HB56 : Hid (Below w5.heap.size w5 w6) := hZ (by rw [<- hw6]; exact (Below.refl _ w5).alloc (Nat.le_refl _) _); have hs6 : w6.heap.size = by_ + 1 + 1 := by rw [<- hw6, World.size_alloc, hs5]
  have hblk6 : Blk w6 (by_ + 1) 3 .i64 [1] := by rw [<- hw6, <- hs5]; exact heap_alloc_new w5 _
  have HN6 := hZ (qAJ s (.slice (some ⟨by_ + 1, 0, none⟩) 1 1) [1] w6 (qAd.of_blk hblk6 (by simp) (by simp)) (fun z hz => by rw [List.mem_singleton.1 hz]; decide) (by simp)); rw [show val T4 [1] = 1 by simp [val]] at HN6; clear hblk6 hs2
  go_wp2_with fail
  clear hw6 hw5; refine (HN6.o).mono ?_; rintro e w7 ⟨⟨vr, rfl, hr⟩, hB⟩; have Hr7 := hZ hr; obtain ⟨a7, l7, c7, rfl, -, -, -⟩ := hr.form; have HB7 := hZ hB; clear hr hB; generalize hs1q : decide (sgn s 1 < 0) = s1 at *; have HB57 := hZ (HB56.o.trans (HB7.o.mono HB56.o.size)); obtain ⟨bo, hbo⟩ := eX w7.heap.size; obtain ⟨w8, hw8⟩ := eX (w7.alloc (.cells #[.bool s1, .slice a7 l7 c7] 61)); have hs8 : w8.heap.size = bo + 1 := by rw [<- hw8, World.size_alloc, hbo]
  have HB78 : Hid (Below w7.heap.size w7 w8) := hZ (by rw [<- hw8]; exact (Below.refl _ w7).alloc (Nat.le_refl _) _); have hO8 := Two.new w7 61 (.bool s1) (.slice a7 l7 c7); rw [hw8, hbo] at hO8; have HO8 := hZ hO8; have HRO8 := hZ (Hr7.o.below (Nat.le_refl _) HB78.o); have HB58 := hZ (HB57.o.trans (HB78.o.mono HB57.o.size)); have HX8 := hZ (HX5.o.below HB58.o HX5.o.lt); have HRX8 := hZ (HRX5.o.below (Nat.le_refl _) HB58.o); have HY8 := hZ (HY5.o.below HB58.o HY5.o.lt); have HRY8 := hZ (HRY5.o.below (Nat.le_refl _) HB58.o); have T82 := hZ (T52.o.below HB58.o T52.o.lt); have T83 := hZ (T53.o.below HB58.o T53.o.lt); have T84 := hZ (T54.o.below HB58.o T54.o.lt); have HBn8 := hZ (HBn5.o.trans (HB58.o.mono (by omega))); have hz7 : by_ + 1 < bo := by rw [<- hbo]; have := HB7.o.size; omega
  have k1 := HX8.o.cell0; have k2 := HX8.o.cell1; have k3 := HO8.o.cell0; have k4 := HO8.o.cell1; have Hadd := hZ (fun (w' : World) (hb : Below w8.heap.size w8 w') => qHy _ _ (sgn s q) (sgn s 1) w' (HRX8.o.below (Nat.le_refl _) hb) (HRO8.o.below (Nat.le_refl _) hb) (by rw [qAG]; exact Nat.le_trans Hql.o (by omega)) (by rw [qAG]; exact Nat.le_trans (qC7 _ (by omega)) (by omega))); have hadd : sgn s q + sgn s 1 = sgn s (q + 1) := by unfold sgn; cases s <;> simp <;> omega
  rw [hadd] at Hadd; clear hadd hO8 HB56 HB57 HB78 HN6 Hr7 HB7 g1 g2 g3 g4 HX5 HRX5 HY5 HRY5 T51 T52 T53 T54 HBn5 HB58 hs1q
  go_wp2_with fail
  clear hw8; refine (Hadd.o w8 (Below.refl _ _)).mono ?_; rintro e w9 ⟨⟨vr, rfl, hr⟩, hB⟩; have Hr9 := hZ hr; obtain ⟨a9, l9, c9, rfl, -, -, -⟩ := hr.form; have HB9 := hZ hB; clear hr hB; generalize hs9 : decide (sgn s (q + 1) < 0) = s9 at *; have Hs9 := hZ hs9; clear hs9; have HX9 := hZ (HX8.o.below HB9.o HX8.o.lt); have HY9 := hZ (HY8.o.below HB9.o HY8.o.lt); have HRY9 := hZ (HRY8.o.below (Nat.le_refl _) HB9.o); have T92 := hZ (T82.o.below HB9.o T82.o.lt); have T93 := hZ (T83.o.below HB9.o T83.o.lt); have T94 := hZ (T84.o.below HB9.o T84.o.lt); have HBn9 := hZ (HBn8.o.trans (HB9.o.mono (by omega))); have f1 := HX9.o.cell0; have f2 := HX9.o.cell1; have f3 := HX9.o.frozen 0; have f4 := HX9.o.frozen 1; obtain ⟨w10, hw10⟩ := eX ((w9.setCell ⟨bx, 0, none⟩ (.bool s9)).setCell ⟨bx, 1, none⟩ (.slice a9 l9 c9)); have hz9 : bo < w9.heap.size := Nat.lt_of_lt_of_le (by omega) HB9.o.size; have hs10 : w9.heap.size = w10.heap.size := by rw [<- hw10]; simp [World.setCell]
  have HX10 : Hid (Two w10 bx 61 (.bool s9) (.slice a9 l9 c9)) := hZ (by rw [<- hw10]; exact HX9.o.put2 _ _); have HRX10 : Hid (qAL w10 (.agg #[.bool s9, .slice a9 l9 c9]) (sgn s (q + 1))) := hZ (by rw [<- hw10]; exact Hr9.o.set_two HX9.o _ _); have HY10 : Hid (Two w10 by_ 61 (.bool false) (.slice a4 l4 c4)) := hZ (by rw [<- hw10]; exact HY9.o.far2 (by omega) _ _); have HRY10 : Hid (qAL w10 (.agg #[.bool false, .slice a4 l4 c4]) (r : Int)) := hZ (by rw [<- hw10]; exact HRY9.o.set_two HX9.o _ _); have T102 : Hid (Two w10 (n + 1) 61 (.bool sy) (.slice ay ny cy)) := hZ (by rw [<- hw10]; exact T92.o.far2 (by omega) _ _); have T103 : Hid (Two w10 (n + 1 + 1) 61 (.bool false) (.slice none 0 0)) := hZ (by rw [<- hw10]; exact T93.o.far2 (by omega) _ _); have T104 : Hid (Two w10 (n + 1 + 1 + 1) 61 (.bool false) (.slice none 0 0)) := hZ (by rw [<- hw10]; exact T94.o.far2 (by omega) _ _); have HBn10 : Hid (Below n w w10) := hZ (by rw [<- hw10]; exact (HBn9.o.setCell (p := ⟨bx, 0, none⟩) (by show n <= bx; omega) _).setCell (p := ⟨bx, 1, none⟩) (by show n <= bx; omega) _); have m1 := T102.o.cell1; have m2 := HY10.o.cell1; have Hmin := hZ (qET (.slice ay ny cy) (.slice a4 l4 c4) y.natAbs r w10 (qAd.below HY.o (Nat.le_of_eq Hn.o) HBn10.o) (by have := HRY10.o.dig; rw [Int.natAbs_natCast] at this; exact this) (Nat.le_of_lt Hry.o) (by omega)); clear Hadd k1 k2 k3 k4 HX8 HRX8 HY8 HRY8 T82 T83 T84 HBn8 HB9 Hr9 HO8 HRO8
  go_wp2_with fail
  clear hw10 f1 f2 f3 f4 m1 m2; refine Hmin.o.mono ?_; rintro e w11 ⟨⟨v11, L11, rfl, hr11, lo11, hv11, hl11⟩, hB11⟩; have HN11 := hZ (qAJ false v11 L11 w11 hr11 lo11 (by omega)); rw [hv11] at HN11; obtain ⟨a11, c11, hv11', -⟩ := id hr11; subst hv11'; have HB11 := hZ hB11; clear hr11 lo11 hv11 hl11 hB11 Hmin; obtain ⟨l11, hl11⟩ := eX L11.length; rw [hl11] at HN11 ⊢; clear hl11; obtain ⟨R, hR⟩ := eX (y.natAbs - r); rw [hR] at HN11 Hqr; clear hR
  go_wp2_with fail
  refine (HN11.o).mono ?_; rintro e w12 ⟨⟨vr, rfl, hr⟩, hB⟩; have Hr12 := hZ hr; obtain ⟨a12, l12, c12, rfl, -, -, -⟩ := hr.form; have HB12 := hZ hB; clear hr hB; have hR0 : decide (sgn false R < 0) = false := decide_eq_false (by show ¬ ((R : Int) < 0); omega); rw [hR0] at Hr12 ⊢; have HB1012 := hZ (HB11.o.trans (HB12.o.mono HB11.o.size)); have HX12 := hZ (HX10.o.below HB1012.o HX10.o.lt); have HRX12 := hZ (HRX10.o.below (Nat.le_refl _) HB1012.o); have HY12 := hZ (HY10.o.below HB1012.o HY10.o.lt); have T123 := hZ (T103.o.below HB1012.o T103.o.lt); have T124 := hZ (T104.o.below HB1012.o T104.o.lt); have HBn12 := hZ (HBn10.o.trans (HB1012.o.mono (by omega))); have f1 := HY12.o.cell0; have f2 := HY12.o.cell1; have f3 := HY12.o.frozen 0; have f4 := HY12.o.frozen 1; obtain ⟨w13, hw13⟩ := eX ((w12.setCell ⟨by_, 0, none⟩ (.bool false)).setCell ⟨by_, 1, none⟩ (.slice a12 l12 c12)); have HX13 : Hid (Two w13 bx 61 (.bool s9) (.slice a9 l9 c9)) := hZ (by rw [<- hw13]; exact HX12.o.far2 (by omega) _ _); have HRX13 : Hid (qAL w13 (.agg #[.bool s9, .slice a9 l9 c9]) (sgn s (q + 1))) := hZ (by rw [<- hw13]; exact HRX12.o.set_two HY12.o _ _); have HY13 : Hid (Two w13 by_ 61 (.bool false) (.slice a12 l12 c12)) := hZ (by rw [<- hw13]; exact HY12.o.put2 _ _); have HRY13 : Hid (qAL w13 (.agg #[.bool false, .slice a12 l12 c12]) (R : Int)) := hZ (by rw [<- hw13]; exact Hr12.o.set_two HY12.o _ _); have T133 : Hid (Two w13 (n + 1 + 1) 61 (.bool false) (.slice none 0 0)) := hZ (by rw [<- hw13]; exact T123.o.far2 (by omega) _ _); have T134 : Hid (Two w13 (n + 1 + 1 + 1) 61 (.bool false) (.slice none 0 0)) := hZ (by rw [<- hw13]; exact T124.o.far2 (by omega) _ _); have HBn13 : Hid (Below n w w13) := hZ (by rw [<- hw13]; exact (HBn12.o.setCell (p := ⟨by_, 0, none⟩) (by show n <= by_; omega) _).setCell (p := ⟨by_, 1, none⟩) (by show n <= by_; omega) _); clear hR0 HX12 HRX12 HY12 T123 T124 HBn12 HX10 HRX10 HY10 HRY10 T102 T103 T104 HBn10 HB11 HB12 HB1012 HN11 Hr12 HX9 HY9 HRY9 T92 T93 T94 HBn9; have p1 := HX13.o.cell0; have p2 := HX13.o.cell1; have p3 := HY13.o.cell0; have p4 := HY13.o.cell1; have p5 := T133.o.cell0; have p6 := T133.o.cell1; have p7 := T134.o.cell0; have p8 := T134.o.cell1; have p9 := T133.o.frozen 0; have p10 := T133.o.frozen 1; have p11 := T134.o.frozen 0; have p12 := T134.o.frozen 1
  go_wp2_with fail
  (clear hw13 f1 f2 f3 f4)
  refine qDO 3 (fun w' => w'.cell? ⟨bx, 0, none⟩ = some (.bool s9) /\ w'.cell? ⟨bx, 1, none⟩ = some (.slice a9 l9 c9) /\ w'.cell? ⟨by_, 0, none⟩ = some (.bool false) /\ w'.cell? ⟨by_, 1, none⟩ = some (.slice a12 l12 c12)) (by kernel_rfl) (⟨p1, p2, p3, p4⟩) (fun hHeld => ?_); refine kU 0 52 ?_; refine kU 1 53 ?_; clear p1 p2 p3 p4; refine qCp 2 (by kernel_rfl) rfl (fun K hK => ?_); go_simp; obtain ⟨wz, hwz⟩ := eX (((w13.setCell ⟨n + 1 + 1, 0, none⟩ (.bool s9)).setCell ⟨n + 1 + 1, 1, none⟩ (.slice a9 l9 c9)).drew); have U4 : Hid (Two wz (n + 1 + 1 + 1) 61 (.bool false) (.slice none 0 0)) := hZ (by rw [<- hwz]; exact T134.o.far2 (g := n + 1 + 1) (by omega) (.bool s9) (.slice a9 l9 c9)); have U5 : Hid (Two wz (n + 1 + 1) 61 (.bool s9) (.slice a9 l9 c9)) := hZ (by rw [<- hwz]; exact T133.o.put2 (.bool s9) (.slice a9 l9 c9)); have UX : Hid (Two wz bx 61 (.bool s9) (.slice a9 l9 c9)) := hZ (by rw [<- hwz]; exact HX13.o.far2 (g := n + 1 + 1) (by omega) (.bool s9) (.slice a9 l9 c9)); have UY : Hid (Two wz by_ 61 (.bool false) (.slice a12 l12 c12)) := hZ (by rw [<- hwz]; exact HY13.o.far2 (g := n + 1 + 1) (by omega) (.bool s9) (.slice a9 l9 c9)); have V1 : Hid (qAL wz (.agg #[.bool s9, .slice a9 l9 c9]) (qOf x y)) := hZ (by rw [<- hwz, Hqr.o.1]; exact HRX13.o.set_two T133.o (.bool s9) (.slice a9 l9 c9)); have V2 : Hid (qAL wz (.agg #[.bool false, .slice a12 l12 c12]) (rOf x y)) := hZ (by rw [<- hwz, Hqr.o.2]; exact HRY13.o.set_two T133.o (.bool s9) (.slice a9 l9 c9)); have VB : Hid (Below n w wz) := hZ (by rw [<- hwz]; exact ((HBn13.o.setCell (p := ⟨n + 1 + 1, 0, none⟩) (by show n <= n + 1 + 1; omega) (.bool s9)).setCell (p := ⟨n + 1 + 1, 1, none⟩) (by show n <= n + 1 + 1; omega) (.slice a9 l9 c9)).drew); have q7 := U4.o.cell0; have q8 := U4.o.cell1; have q11 := U4.o.frozen 0; have q12 := U4.o.frozen 1
  try rw [hwz]
  go_wp2_with fail
  refine hK.out _ _ (⟨UX.o.cell0, UX.o.cell1, UY.o.cell0, UY.o.cell1⟩) (fun hHeld => ?_); clear hK K
  try simp only [Act.put, List.setIfInBounds_toArray, List.set_cons_zero, List.set_cons_succ]
  clear hwz p5 p6 p7 p8 p9 p10 p11 p12; refine qI4 (by kernel_rfl) rfl (by kernel_rfl) (fun K hK => ?_); go_simp; refine hK.out _ _ ?_; clear hK K
  try simp only [Act.put, List.setIfInBounds_toArray, List.set_cons_zero, List.set_cons_succ]
  clear hHeld; have r5 := (U5.o.far2 (g := n + 1 + 1 + 1) (by omega) (.bool false) (.slice a12 l12 c12)).cell0; have r6 := (U5.o.far2 (g := n + 1 + 1 + 1) (by omega) (.bool false) (.slice a12 l12 c12)).cell1; have r7 := (U4.o.put2 (.bool false) (.slice a12 l12 c12)).cell0; have r8 := (U4.o.put2 (.bool false) (.slice a12 l12 c12)).cell1
  go_wp2
  refine bodyPost_ret (v := .tuple #[.agg #[.bool s9, .slice a9 l9 c9], .agg #[.bool false, .slice a12 l12 c12]]) (by simp [results, Try.results47, go_sem, r5, r6, r7, r8]) rfl ⟨?_, _, _, rfl, ?_, ?_⟩
  ·rw [Hn.o]
   exact (VB.o.setCell (p := ⟨n + 1 + 1 + 1, 0, none⟩) (by show n <= n + 1 + 1 + 1; omega) _).setCell (p := ⟨n + 1 + 1 + 1, 1, none⟩) (by show n <= n + 1 + 1 + 1; omega) _
  ·exact V1.o.set_two U4.o _ _
  ·exact V2.o.set_two U4.o _ _
 ·have Hqr : Hid (qOf x y = sgn s q /\ rOf x y = r) := hZ (by
   have h9 := qFf (x := x) (y := y) (fun h => hcase ⟨by have := Hsx.o; rw [decide_eq_true h.1] at this; exact this.symm, by
    rcases Nat.eq_zero_or_pos l4 with h0 | h0
    ·exact absurd (by rw [Hr.o]; exact Hr0.o.1 h0) h.2
    ·exact h0⟩)
   rw [Hsx.o, Hsy.o, Hs.o, Hq.o, Hr.o] at h9; exact h9)
  cases sx with
  | false =>
   have p1 := HX5.o.cell0; have p2 := HX5.o.cell1; have p3 := HY5.o.cell0; have p4 := HY5.o.cell1; have p5 := T53.o.cell0; have p6 := T53.o.cell1; have p7 := T54.o.cell0; have p8 := T54.o.cell1; have p9 := T53.o.frozen 0; have p10 := T53.o.frozen 1; have p11 := T54.o.frozen 0; have p12 := T54.o.frozen 1
   go_wp2_with fail
   (clear hw5 g1 g2 g3 g4)
   refine qDO 3 (fun w' => w'.cell? ⟨bx, 0, none⟩ = some (.bool sq) /\ w'.cell? ⟨bx, 1, none⟩ = some (.slice a2 l2 c2) /\ w'.cell? ⟨by_, 0, none⟩ = some (.bool false) /\ w'.cell? ⟨by_, 1, none⟩ = some (.slice a4 l4 c4)) (by kernel_rfl) (⟨p1, p2, p3, p4⟩) (fun hHeld => ?_); refine kU 0 52 ?_; refine kU 1 53 ?_; clear p1 p2 p3 p4; refine qCp 2 (by kernel_rfl) rfl (fun K hK => ?_); go_simp; obtain ⟨wz, hwz⟩ := eX (((w5.setCell ⟨n + 1 + 1, 0, none⟩ (.bool sq)).setCell ⟨n + 1 + 1, 1, none⟩ (.slice a2 l2 c2)).drew); have U4 : Hid (Two wz (n + 1 + 1 + 1) 61 (.bool false) (.slice none 0 0)) := hZ (by rw [<- hwz]; exact T54.o.far2 (g := n + 1 + 1) (by omega) (.bool sq) (.slice a2 l2 c2)); have U5 : Hid (Two wz (n + 1 + 1) 61 (.bool sq) (.slice a2 l2 c2)) := hZ (by rw [<- hwz]; exact T53.o.put2 (.bool sq) (.slice a2 l2 c2)); have UX : Hid (Two wz bx 61 (.bool sq) (.slice a2 l2 c2)) := hZ (by rw [<- hwz]; exact HX5.o.far2 (g := n + 1 + 1) (by omega) (.bool sq) (.slice a2 l2 c2)); have UY : Hid (Two wz by_ 61 (.bool false) (.slice a4 l4 c4)) := hZ (by rw [<- hwz]; exact HY5.o.far2 (g := n + 1 + 1) (by omega) (.bool sq) (.slice a2 l2 c2)); have V1 : Hid (qAL wz (.agg #[.bool sq, .slice a2 l2 c2]) (qOf x y)) := hZ (by rw [<- hwz, Hqr.o.1]; exact HRX5.o.set_two T53.o (.bool sq) (.slice a2 l2 c2)); have V2 : Hid (qAL wz (.agg #[.bool false, .slice a4 l4 c4]) (rOf x y)) := hZ (by rw [<- hwz, Hqr.o.2]; exact HRY5.o.set_two T53.o (.bool sq) (.slice a2 l2 c2)); have VB : Hid (Below n w wz) := hZ (by rw [<- hwz]; exact ((HBn5.o.setCell (p := ⟨n + 1 + 1, 0, none⟩) (by show n <= n + 1 + 1; omega) (.bool sq)).setCell (p := ⟨n + 1 + 1, 1, none⟩) (by show n <= n + 1 + 1; omega) (.slice a2 l2 c2)).drew); have q7 := U4.o.cell0; have q8 := U4.o.cell1; have q11 := U4.o.frozen 0; have q12 := U4.o.frozen 1
   try rw [hwz]
   go_wp2_with fail
   refine hK.out _ _ (⟨UX.o.cell0, UX.o.cell1, UY.o.cell0, UY.o.cell1⟩) (fun hHeld => ?_); clear hK K
   try simp only [Act.put, List.setIfInBounds_toArray, List.set_cons_zero, List.set_cons_succ]
   clear hwz p5 p6 p7 p8 p9 p10 p11 p12; refine qI4 (by kernel_rfl) rfl (by kernel_rfl) (fun K hK => ?_); go_simp; refine hK.out _ _ ?_; clear hK K
   try simp only [Act.put, List.setIfInBounds_toArray, List.set_cons_zero, List.set_cons_succ]
   clear hHeld; have r5 := (U5.o.far2 (g := n + 1 + 1 + 1) (by omega) (.bool false) (.slice a4 l4 c4)).cell0; have r6 := (U5.o.far2 (g := n + 1 + 1 + 1) (by omega) (.bool false) (.slice a4 l4 c4)).cell1; have r7 := (U4.o.put2 (.bool false) (.slice a4 l4 c4)).cell0; have r8 := (U4.o.put2 (.bool false) (.slice a4 l4 c4)).cell1
   go_wp2
   refine bodyPost_ret (v := .tuple #[.agg #[.bool sq, .slice a2 l2 c2], .agg #[.bool false, .slice a4 l4 c4]]) (by simp [results, Try.results47, go_sem, r5, r6, r7, r8]) rfl ⟨?_, _, _, rfl, ?_, ?_⟩
   ·rw [Hn.o]
    exact (VB.o.setCell (p := ⟨n + 1 + 1 + 1, 0, none⟩) (by show n <= n + 1 + 1 + 1; omega) _).setCell (p := ⟨n + 1 + 1 + 1, 1, none⟩) (by show n <= n + 1 + 1 + 1; omega) _
   ·exact V1.o.set_two U4.o _ _
   ·exact V2.o.set_two U4.o _ _
  | true =>
   have hl0 : l4 = 0 := by
    rcases Nat.eq_zero_or_pos l4 with h | h
    ·exact h
    ·exact absurd ⟨rfl, h⟩ hcase
   subst hl0; have p1 := HX5.o.cell0; have p2 := HX5.o.cell1; have p3 := HY5.o.cell0; have p4 := HY5.o.cell1; have p5 := T53.o.cell0; have p6 := T53.o.cell1; have p7 := T54.o.cell0; have p8 := T54.o.cell1; have p9 := T53.o.frozen 0; have p10 := T53.o.frozen 1; have p11 := T54.o.frozen 0; have p12 := T54.o.frozen 1
   go_wp2_with fail
   (clear hw5 g1 g2 g3 g4)
   refine qDO 3 (fun w' => w'.cell? ⟨bx, 0, none⟩ = some (.bool sq) /\ w'.cell? ⟨bx, 1, none⟩ = some (.slice a2 l2 c2) /\ w'.cell? ⟨by_, 0, none⟩ = some (.bool false) /\ w'.cell? ⟨by_, 1, none⟩ = some (.slice a4 0 c4)) (by kernel_rfl) (⟨p1, p2, p3, p4⟩) (fun hHeld => ?_); refine kU 0 52 ?_; refine kU 1 53 ?_; clear p1 p2 p3 p4; refine qCp 2 (by kernel_rfl) rfl (fun K hK => ?_); go_simp; obtain ⟨wz, hwz⟩ := eX (((w5.setCell ⟨n + 1 + 1, 0, none⟩ (.bool sq)).setCell ⟨n + 1 + 1, 1, none⟩ (.slice a2 l2 c2)).drew); have U4 : Hid (Two wz (n + 1 + 1 + 1) 61 (.bool false) (.slice none 0 0)) := hZ (by rw [<- hwz]; exact T54.o.far2 (g := n + 1 + 1) (by omega) (.bool sq) (.slice a2 l2 c2)); have U5 : Hid (Two wz (n + 1 + 1) 61 (.bool sq) (.slice a2 l2 c2)) := hZ (by rw [<- hwz]; exact T53.o.put2 (.bool sq) (.slice a2 l2 c2)); have UX : Hid (Two wz bx 61 (.bool sq) (.slice a2 l2 c2)) := hZ (by rw [<- hwz]; exact HX5.o.far2 (g := n + 1 + 1) (by omega) (.bool sq) (.slice a2 l2 c2)); have UY : Hid (Two wz by_ 61 (.bool false) (.slice a4 0 c4)) := hZ (by rw [<- hwz]; exact HY5.o.far2 (g := n + 1 + 1) (by omega) (.bool sq) (.slice a2 l2 c2)); have V1 : Hid (qAL wz (.agg #[.bool sq, .slice a2 l2 c2]) (qOf x y)) := hZ (by rw [<- hwz, Hqr.o.1]; exact HRX5.o.set_two T53.o (.bool sq) (.slice a2 l2 c2)); have V2 : Hid (qAL wz (.agg #[.bool false, .slice a4 0 c4]) (rOf x y)) := hZ (by rw [<- hwz, Hqr.o.2]; exact HRY5.o.set_two T53.o (.bool sq) (.slice a2 l2 c2)); have VB : Hid (Below n w wz) := hZ (by rw [<- hwz]; exact ((HBn5.o.setCell (p := ⟨n + 1 + 1, 0, none⟩) (by show n <= n + 1 + 1; omega) (.bool sq)).setCell (p := ⟨n + 1 + 1, 1, none⟩) (by show n <= n + 1 + 1; omega) (.slice a2 l2 c2)).drew); have q7 := U4.o.cell0; have q8 := U4.o.cell1; have q11 := U4.o.frozen 0; have q12 := U4.o.frozen 1
   try rw [hwz]
   go_wp2_with fail
   refine hK.out _ _ (⟨UX.o.cell0, UX.o.cell1, UY.o.cell0, UY.o.cell1⟩) (fun hHeld => ?_); clear hK K
   try simp only [Act.put, List.setIfInBounds_toArray, List.set_cons_zero, List.set_cons_succ]
   clear hwz p5 p6 p7 p8 p9 p10 p11 p12; refine qI4 (by kernel_rfl) rfl (by kernel_rfl) (fun K hK => ?_); go_simp; refine hK.out _ _ ?_; clear hK K
   try simp only [Act.put, List.setIfInBounds_toArray, List.set_cons_zero, List.set_cons_succ]
   clear hHeld; have r5 := (U5.o.far2 (g := n + 1 + 1 + 1) (by omega) (.bool false) (.slice a4 0 c4)).cell0; have r6 := (U5.o.far2 (g := n + 1 + 1 + 1) (by omega) (.bool false) (.slice a4 0 c4)).cell1; have r7 := (U4.o.put2 (.bool false) (.slice a4 0 c4)).cell0; have r8 := (U4.o.put2 (.bool false) (.slice a4 0 c4)).cell1
   go_wp2
   refine bodyPost_ret (v := .tuple #[.agg #[.bool sq, .slice a2 l2 c2], .agg #[.bool false, .slice a4 0 c4]]) (by simp [results, Try.results47, go_sem, r5, r6, r7, r8]) rfl ⟨?_, _, _, rfl, ?_, ?_⟩
   ·rw [Hn.o]
    exact (VB.o.setCell (p := ⟨n + 1 + 1 + 1, 0, none⟩) (by show n <= n + 1 + 1 + 1; omega) _).setCell (p := ⟨n + 1 + 1 + 1, 1, none⟩) (by show n <= n + 1 + 1 + 1; omega) _
   ·exact V1.o.set_two U4.o _ _
   ·exact V2.o.set_two U4.o _ _
open Go.RowKit
theorem qAL.form2 {w : World} {v : Value} {z : Int} (h : qAL w v z) : ∃ s a n c, v = .agg #[.bool s, .slice a n c] := by
 obtain ⟨a, n, c, rfl, _⟩ := h.form; exact ⟨_, _, _, _, rfl⟩
theorem qGw (x y : Int) : decide (0 < qAK x y) = decide (y < x) := by
 unfold qAK; by_cases h1 : x < y
 ·rw [if_pos h1, decide_eq_false (show ¬ y < x by omega)]; rfl
 ·rw [if_neg h1]
  by_cases h2 : y < x
  ·rw [if_pos h2, decide_eq_true h2]; rfl
  ·rw [if_neg h2, decide_eq_false h2]; rfl
theorem qGx (x y : Int) : decide (qAK x y < 0) = decide (x < y) := by
 unfold qAK; by_cases h1 : x < y
 ·rw [if_pos h1, decide_eq_true h1]; rfl
 ·rw [if_neg h1, decide_eq_false h1]
  by_cases h2 : y < x
  ·rw [if_pos h2]; rfl
  ·rw [if_neg h2]; rfl
end Go.Proofs.Ytlmbebbdamgfpaa
