/- wide: Div at all numbers; the divisor 0; the law of the quotient. -/
import Derived.Test.YtgfgjnkndfgdiaaDoorWDivL
import Derived.Test.YtgfgjnkndfgdiaaDoorWCmp
import Derived.Test.YtgfgjnkndfgdiaaDoorWLaw
set_option linter.unusedVariables false
set_option linter.unusedSimpArgs false
namespace Go.Proofs.YtgfgjnkndfgdiaaDoor
open Go.RowKit

theorem divok_all {m d : Nat} (hd0 : d ≠ 0) (hm : m < LIM) (hd2 : d < LIM) : DivOk m d := by
  by_cases h : m < d ∨ d < W2
  · exact divok_short hd0 hm h hd2
  · exact fun w va vb ha hb => divide_long va vb m d w ha hb hm (by omega) (by omega)

set_option maxRecDepth 100000 in
set_option maxHeartbeats 4000000 in
theorem gcd_any (vx vy : Value) (x y : Int) (w : World) (hx : WInt w vx x) (hy : WInt w vy y) (hlx : x.natAbs < LIM) (hly : y.natAbs < LIM) :
    Calls Tryd.prog 41 #[vx, vy] w fun e w' => ∃ v, e = .returned v ∧ WInt w' v (Nat.gcd x.natAbs y.natAbs : Nat) ∧ Below w.heap.size w w' := by
  obtain ⟨ax, nx, cx, rfl, hmx⟩ := hx.form
  obtain ⟨ay, ny, cy, rfl, hmy⟩ := hy.form
  have hlx' := (lim_len _).2 hlx
  have hly' := (lim_len _).2 hly
  have HX := Lib.hid hmx
  have HY := Lib.hid hmy
  have HLX := Lib.hid hlx
  have HLY := Lib.hid hly
  clear hx hmx hlx hy hmy hly
  obtain ⟨n, hn⟩ : ∃ n, w.heap.size = n := ⟨_, rfl⟩
  have Hn := Lib.hid hn
  obtain ⟨W, hW, t1, t2, t3, hBW, hsW⟩ := boxes3 w 33 (.bool (decide (x < 0))) (.slice ax nx cx) (.bool (decide (y < 0))) (.slice ay ny cy) (.bool false) (.slice none 0 0) n hn
  have Hcx := Lib.hid (fun w' (hb : Below n w w') => clone_mag (.slice ax nx cx) x.natAbs w' (HX.out.below (Nat.le_of_eq hn) hb) (by omega))
  have Hcy := Lib.hid (fun w' (hb : Below n w w') => clone_mag (.slice ay ny cy) y.natAbs w' (HY.out.below (Nat.le_of_eq hn) hb) (by omega))
  generalize decide (x < 0) = sx at *
  generalize decide (y < 0) = sy at *
  have HBW := Lib.hid hBW
  have d1 := t1.cell1
  have d2 := t2.cell1
  have T1 := Lib.hid t1
  have T2 := Lib.hid t2
  have T3 := Lib.hid t3
  clear t1 t2 t3 hBW
  go_enter Tryd.func41, Tryd.ntmps41
  go_wp2_with fail
  clear hW
  refine startK 7 (fun w' => w'.cell? ⟨n, 1, none⟩ = some (.slice ax nx cx) ∧ w'.cell? ⟨n + 1, 1, none⟩ = some (.slice ay ny cy)) (by kernel_rfl) (⟨d1, d2⟩) (fun hHeld => ?_)
  refine takeK 0 9 (v := ?_) rfl rfl (by kernel_rfl) (by kernel_rfl) (by kernel_rfl) (by kernel_rfl) (fun _ _ _ h => h) (by rfl) ?_ (by assumption) ?_
  rotate_left
  · (intro w hSw; go_simp; first | done | with_reducible rfl)
  simp only [List.setIfInBounds_toArray, List.set_cons_zero, List.set_cons_succ]
  refine takeK 1 10 (v := ?_) rfl rfl (by kernel_rfl) (by kernel_rfl) (by kernel_rfl) (by kernel_rfl) (fun _ _ _ h => h) (by rfl) ?_ (by assumption) ?_
  rotate_left
  · (intro w hSw; go_simp; first | done | with_reducible rfl)
  simp only [List.setIfInBounds_toArray, List.set_cons_zero, List.set_cons_succ]
  refine takeK 3 12 (v := ?_) rfl rfl (by kernel_rfl) (by kernel_rfl) (by kernel_rfl) (by kernel_rfl) (fun _ _ _ h => h) (by rfl) ?_ (by assumption) ?_
  rotate_left
  · (intro w hSw; go_simp; first | done | with_reducible rfl)
  simp only [List.setIfInBounds_toArray, List.set_cons_zero, List.set_cons_succ]
  refine takeK 4 13 (v := ?_) rfl rfl (by kernel_rfl) (by kernel_rfl) (by kernel_rfl) (by kernel_rfl) (fun _ _ _ h => h) (by rfl) ?_ (by assumption) ?_
  rotate_left
  · (intro w hSw; go_simp; first | done | with_reducible rfl)
  simp only [List.setIfInBounds_toArray, List.set_cons_zero, List.set_cons_succ]
  refine stepK 2 (by kernel_rfl) rfl (fun K hK => ?_)
  go_simp
  refine (Hcx.out W.drew HBW.out.drew).mono ?_
  rintro e w1 ⟨a1, l1, c1, rfl, hm1, hB1⟩
  have Hm1 := Lib.hid hm1
  have HB1 := Lib.hid (HBW.out.drew.trans (hB1.mono (by show n ≤ W.heap.size; omega)))
  have z1 : W.heap.size ≤ w1.heap.size := hB1.size
  have T11 := Lib.hid (Two.below (w := W.drew) T1.out hB1 (by show n < W.heap.size; omega))
  have T12 := Lib.hid (Two.below (w := W.drew) T2.out hB1 (by show n + 1 < W.heap.size; omega))
  have T13 := Lib.hid (Two.below (w := W.drew) T3.out hB1 (by show n + 1 + 1 < W.heap.size; omega))
  clear hm1 hB1 d1 d2 T1 T2 T3
  go_wp2_with fail
  refine hK.out _ _ (⟨T11.out.cell1, T12.out.cell1⟩) (fun hHeld => ?_)
  clear hK K
  try simp only [Act.put, List.setIfInBounds_toArray, List.set_cons_zero, List.set_cons_succ]
  refine stepK 5 (by kernel_rfl) rfl (fun K hK => ?_)
  go_simp
  refine (Hcy.out w1 HB1.out).mono ?_
  rintro e w2 ⟨a2, l2, c2, rfl, hm2, hB2⟩
  have Hm2 := Lib.hid hm2
  have HM2 := Lib.hid (RowAt.below Hm1.out (Nat.le_refl _) hB2)
  have HB2 := Lib.hid (HB1.out.trans (hB2.mono (by omega)))
  have z2 : w1.heap.size ≤ w2.heap.size := hB2.size
  have T21 := Lib.hid (T11.out.below hB2 (by omega))
  have T22 := Lib.hid (T12.out.below hB2 (by omega))
  have T23 := Lib.hid (T13.out.below hB2 (by omega))
  clear hm2 hB2 Hm1 T11 T12 T13
  go_wp2_with fail
  refine hK.out _ _ (⟨T21.out.cell1, T22.out.cell1⟩) (fun hHeld => ?_)
  clear hK K
  try simp only [Act.put, List.setIfInBounds_toArray, List.set_cons_zero, List.set_cons_succ]
  refine stepK 6 (by kernel_rfl) rfl (fun K hK => ?_)
  go_simp
  go_wp2_with fail
  refine hK.out _ _ (⟨T21.out.cell1, T22.out.cell1⟩) (fun hHeld => ?_)
  clear hK K
  try simp only [Act.put, List.setIfInBounds_toArray, List.set_cons_zero, List.set_cons_succ]
  refine lastK (by kernel_rfl) rfl (by kernel_rfl) (fun K hK => ?_)
  go_simp
  refine hK.out _ _ ?_
  clear hK K
  try simp only [Act.put, List.setIfInBounds_toArray, List.set_cons_zero, List.set_cons_succ]
  clear hHeld
  go_wp2_with fail
  go_loopg [5, 6] y.natAbs (fun g va vb wr => ∃ (p : Nat) (aa : Option Addr) (la ca : Nat) (ab : Option Addr) (lb cb : Nat), va = .slice aa la ca ∧ vb = .slice ab lb cb ∧ Hid (Nat.gcd p g = Nat.gcd x.natAbs y.natAbs) ∧ Hid (p < LIM) ∧ Hid (g < LIM) ∧ Hid (MagAt wr (.slice aa la ca) p) ∧ Hid (MagAt wr (.slice ab lb cb) g) ∧ Hid (Below n w wr) ∧ Hid (Two wr (n + 1 + 1) 33 (.bool false) (.slice none 0 0)))
  case atStart => exact ⟨x.natAbs, a1, l1, c1, a2, l2, c2, rfl, rfl, Lib.hid rfl, HLX, HLY, HM2, Hm2, HB2, T23⟩
  case round =>
    obtain ⟨p, aa, la, ca, ab, lb, cb, rfl, rfl, hg, hp, hq, hma, hmb, hB, hT⟩ := hrel
    clear HM2 Hm2 HB2 T21 T22 T23
    obtain ⟨_, _, _, hv, _, hlb, hcb⟩ := mag_form hmb.out
    injection hv with e1 e2 e3
    subst e1 e2 e3
    have hlb0 := mag_len (n := gk)
    rw [← hlb] at hlb0
    have hlbm : lb ≤ 9223372036854775807 := by omega
    by_cases h0 : gk = 0
    · have hl0 : lb = 0 := by omega
      subst hl0
      have Hsg := Lib.hid (signed_any false _ p wr hma.out)
      have hr : p = Nat.gcd x.natAbs y.natAbs := by have := hg.out; rw [h0, Nat.gcd_zero_right] at this; exact this
      have Hr := Lib.hid hr
      have hnn : decide (sgn false p < 0) = false := decide_eq_false (by show ¬ ((p : Int) < 0); omega)
      rw [hnn] at Hsg
      clear hlb hlb0 hr
      go_wp2_with fail
      refine Hsg.out.mono ?_
      rintro e w6 ⟨rfl, hB6⟩
      have t6 := hT.out.below hB6 hT.out.lt
      have g0 := t6.cell0
      have g1 := t6.cell1
      have g2 := t6.frozen 0
      have g3 := t6.frozen 1
      have T6 := Lib.hid t6
      have HB6 := Lib.hid hB6
      clear hB6 t6
      go_wp2
      refine bodyPost_ret (v := .agg #[.bool false, .slice aa la ca]) (by simp [results, Tryd.results41, go_sem, g0, g1]) rfl ⟨_, rfl, WInt.mk ?_ ?_, ?_⟩
      · exact decide_eq_false (by omega)
      · rw [Int.natAbs_natCast, ← Hr.out]
        exact RowAt.store_two (RowAt.below hma.out (Nat.le_refl _) HB6.out) T6.out (fun _ _ h => by cases h) (fun _ _ h => by cases h) _ _
      · rw [Hn.out]
        exact ((hB.out.trans (HB6.out.mono (Nat.le_trans (Nat.le_of_eq Hn.out.symm) hB.out.size))).setCell (p := ⟨n + 1 + 1, 0, none⟩) (by show n ≤ n + 1 + 1; omega) _).setCell (p := ⟨n + 1 + 1, 1, none⟩) (by show n ≤ n + 1 + 1; omega) _
    · have hl0 : 0 < lb := by omega
      have Hd := Lib.hid (divok_all h0 hp.out hq.out wr _ _ hma.out hmb.out)
      have hml : p % gk < gk := Nat.mod_lt _ (by omega)
      clear hlb hlb0
      go_wp2_with fail
      refine Hd.out.mono ?_
      rintro e w6 ⟨hB6, vq, vr, rfl, hvq, hvr⟩
      obtain ⟨ar, lr, cr, rfl, hr, hlr, hcr⟩ := mag_form hvr
      have Hr := Lib.hid hr
      have HB6 := Lib.hid hB6
      clear hvq hvr hr hlr hB6 Hd
      go_wp2_with fail
      go_roundg (p % gk)
      case measure => exact hml
      case rel => exact ⟨gk, ab, lb, cb, ar, lr, cr, rfl, rfl, Lib.hid (by rw [← hg.out, Nat.gcd_comm p gk, Nat.gcd_rec gk p, Nat.gcd_comm]), hq, Lib.hid (Nat.lt_trans hml hq.out), Lib.hid (RowAt.below hmb.out (Nat.le_refl _) HB6.out), Hr, Lib.hid (hB.out.trans (HB6.out.mono (Nat.le_trans (Nat.le_of_eq Hn.out.symm) hB.out.size))), Lib.hid (hT.out.below HB6.out hT.out.lt)⟩


theorem wdiv_any (vx vy : Value) (x y : Int) (w : World) (hx : WInt w vx x) (hy : WInt w vy y) (hy0 : y ≠ 0) (hlx : x.natAbs < LIM) (hly : y.natAbs < LIM) :
    Calls Tryd.prog 30 #[vx, vy] w (DivRet x y w) := div_any vx vy x y w hx hy hy0 hlx hly (divok_all (by omega) hlx hly)

def DivZero (w : World) (e : Ending) (w' : World) : Prop := ∃ vq vr, e = .returned (.tuple #[vq, vr, .int .i64 1]) ∧ WInt w' vq 0 ∧ WInt w' vr 0 ∧ Below w.heap.size w w'

set_option maxRecDepth 100000 in
set_option maxHeartbeats 4000000 in
theorem div_zero (vx vy : Value) (x : Int) (w : World) (hx : WInt w vx x) (hy : WInt w vy 0) :
    Calls Tryd.prog 30 #[vx, vy] w (DivZero w) := by
  obtain ⟨vwx, rfl, hmx⟩ := hx
  obtain ⟨vwy, rfl, hmy⟩ := hy
  obtain ⟨ax, nx, cx, rfl, hmx, hnx, hcx⟩ := mag_form hmx
  obtain ⟨ay, ny, cy, rfl, hmy, hny, hcy⟩ := mag_form hmy
  obtain rfl : ny = 0 := by rw [hny]; rfl
  obtain ⟨n, hn⟩ : ∃ n, w.heap.size = n := ⟨_, rfl⟩
  have Hn := Lib.hid hn
  obtain ⟨W, hW, t1, t2, t3, t4, hBW, hsW⟩ := boxes4 w 33 (.bool (decide (x < 0))) (.slice ax nx cx) (.bool false) (.slice ay 0 cy) (.bool false) (.slice none 0 0) (.bool false) (.slice none 0 0) n hn
  have HBW := Lib.hid hBW
  have d3 := t2.cell1
  have g0 := t3.cell0
  have g1 := t3.cell1
  have g2 := t3.frozen 0
  have g3 := t3.frozen 1
  have g4 := t4.cell0
  have g5 := t4.cell1
  have g6 := t4.frozen 0
  have g7 := t4.frozen 1
  have hd0 : decide ((0 : Int) < 0) = false := rfl
  rw [hd0]
  generalize decide (x < 0) = sx at *
  clear hmx hmy t1 t2 t3 t4 hBW hny hnx
  go_enter Tryd.func30, Tryd.ntmps30
  go_wp2
  refine bodyPost_ret (v := .tuple #[.agg #[.bool false, .slice none 0 0], .agg #[.bool false, .slice none 0 0], .int .i64 1]) (by simp [results, Tryd.results30, go_sem, g0, g1, g4, g5]) rfl ⟨_, _, rfl, ⟨_, rfl, RowAt.nil none 0 (by omega)⟩, ⟨_, rfl, RowAt.nil none 0 (by omega)⟩, ?_⟩
  rw [Hn.out]
  exact (((HBW.out.setCell (p := ⟨n + 1 + 1, 0, none⟩) (by show n ≤ n + 1 + 1; omega) _).setCell (p := ⟨n + 1 + 1, 1, none⟩) (by show n ≤ n + 1 + 1; omega) _).setCell (p := ⟨n + 1 + 1 + 1, 0, none⟩) (by show n ≤ n + 1 + 1 + 1; omega) _).setCell (p := ⟨n + 1 + 1 + 1, 1, none⟩) (by show n ≤ n + 1 + 1 + 1; omega) _

theorem div_law (x y : Int) (hy : y ≠ 0) : qOf x y * y + (rOf x y : Int) = x ∧ rOf x y < y.natAbs := by
  have hp : 0 < y.natAbs := by omega
  have h1 := Nat.div_add_mod x.natAbs y.natAbs
  have h2 := Nat.mod_lt x.natAbs hp
  have hym : ∀ (s : Bool) (k : Nat), sgn (s != decide (y < 0)) k * y = sgn s (y.natAbs * k) := by
    intro s k
    have e : ((y.natAbs * k : Nat) : Int) = (y.natAbs : Int) * (k : Int) := Int.natCast_mul _ _
    unfold sgn
    rw [e]
    by_cases h : y < 0
    · have hy2 : y = -(y.natAbs : Int) := by omega
      rw [decide_eq_true h]
      generalize (y.natAbs : Int) = a at *
      subst hy2
      cases s <;> simp [Int.mul_comm, Int.mul_neg, Int.neg_mul]
    · have hy2 : y = (y.natAbs : Int) := by omega
      rw [decide_eq_false h]
      generalize (y.natAbs : Int) = a at *
      subst hy2
      cases s <;> simp [Int.mul_comm, Int.mul_neg, Int.neg_mul]
  by_cases h : x < 0 ∧ x.natAbs % y.natAbs ≠ 0
  · obtain ⟨hq, hr⟩ := qOf_neg h
    rw [hq, hr, hym, decide_eq_true h.1]
    refine ⟨?_, by omega⟩
    unfold sgn
    rw [if_pos rfl, Nat.mul_add, Nat.mul_one]
    have := h.1
    omega
  · obtain ⟨hq, hr⟩ := qOf_pos h
    rw [hq, hr, hym]
    refine ⟨?_, h2⟩
    by_cases hx : x < 0
    · rw [decide_eq_true hx]
      have h0 : x.natAbs % y.natAbs = 0 := by
        rcases Nat.eq_zero_or_pos (x.natAbs % y.natAbs) with h3 | h3
        · exact h3
        · exact absurd ⟨hx, by omega⟩ h
      unfold sgn
      rw [if_pos rfl, h0]
      rw [h0] at h1
      omega
    · rw [decide_eq_false hx]
      unfold sgn
      rw [if_neg (by simp)]
      omega

end Go.Proofs.YtgfgjnkndfgdiaaDoor
