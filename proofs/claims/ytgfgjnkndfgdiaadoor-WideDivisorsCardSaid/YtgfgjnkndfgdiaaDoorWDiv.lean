/- wide: Div, over what divide does. -/
import Derived.Test.YtgfgjnkndfgdiaaDoorWDivide
namespace Go.Proofs.YtgfgjnkndfgdiaaDoor
open Go.RowKit

/-- what divide does at two numbers -/
def DivOk (m d : Nat) : Prop := ∀ (w : World) (va vb : Value), MagAt w va m → MagAt w vb d → Calls Tryd.prog 64 #[va, vb] w (DivPost m d w)

theorem divok_short {m d : Nat} (hd0 : d ≠ 0) (hm : m < LIM) (hd : m < d ∨ d < W2) (hd2 : d < LIM) : DivOk m d := fun w va vb ha hb => divide_short va vb m d w ha hb hd0 hm hd hd2

def qOf (x y : Int) : Int := if x < 0 ∧ x.natAbs % y.natAbs ≠ 0 then sgn (decide (x < 0) != decide (y < 0)) (x.natAbs / y.natAbs + 1) else sgn (decide (x < 0) != decide (y < 0)) (x.natAbs / y.natAbs)
def rOf (x y : Int) : Nat := if x < 0 ∧ x.natAbs % y.natAbs ≠ 0 then y.natAbs - x.natAbs % y.natAbs else x.natAbs % y.natAbs

def DivRet (x y : Int) (w : World) (e : Ending) (w' : World) : Prop :=
  Below w.heap.size w w' ∧ ∃ vq vr, e = .returned (.tuple #[vq, vr, .int .i64 0]) ∧ WInt w' vq (qOf x y) ∧ WInt w' vr (rOf x y)

theorem Two.far {w : World} {b : Nat} {t : TypeId} {x y : Value} (h : Two w b t x y) {p : Addr} (hp : b ≠ p.block) (u : Value) : Two (w.setCell p u) b t x y := (Below.heap_setCell w p u b hp).trans h

theorem boxes4 (w : World) (t : TypeId) (x1 x2 y1 y2 z1 z2 u1 u2 : Value) (n : Nat) (hn : w.heap.size = n) : ∃ W, (((w.alloc (.cells #[x1, x2] t)).alloc (.cells #[y1, y2] t)).alloc (.cells #[z1, z2] t)).alloc (.cells #[u1, u2] t) = W ∧
    Two W n t x1 x2 ∧ Two W (n + 1) t y1 y2 ∧ Two W (n + 1 + 1) t z1 z2 ∧ Two W (n + 1 + 1 + 1) t u1 u2 ∧ Below n w W ∧ W.heap.size = n + 1 + 1 + 1 + 1 := by
  obtain ⟨V, hV, t1, t2, t3, hB, hs⟩ := boxes3 w t x1 x2 y1 y2 z1 z2 n hn
  rw [hV]
  refine ⟨_, rfl, t1.alloc _, t2.alloc _, t3.alloc _, ?_, hB.alloc (by omega) _, by simp [hs]⟩
  have := Two.new V t u1 u2
  rw [hs] at this
  exact this

theorem mag_form {w : World} {v : Value} {n : Nat} (h : MagAt w v n) : ∃ a l c, v = .slice a l c ∧ MagAt w (.slice a l c) n ∧ l = (digs W2 n).length ∧ l ≤ c ∧ c ≤ 9223372036854775807 := by
  obtain ⟨a, c, rfl, h1, h2, h3⟩ := h
  exact ⟨a, _, c, rfl, ⟨a, c, rfl, h1, h2, h3⟩, rfl, h1, h2⟩
theorem mag_len {n : Nat} : 0 < (digs W2 n).length ↔ n ≠ 0 := by
  rw [List.length_pos_iff, ne_eq, digs_nil W2 n w2_two]

theorem qOf_pos {x y : Int} (h : ¬ (x < 0 ∧ x.natAbs % y.natAbs ≠ 0)) : qOf x y = sgn (decide (x < 0) != decide (y < 0)) (x.natAbs / y.natAbs) ∧ rOf x y = x.natAbs % y.natAbs := by
  unfold qOf rOf; rw [if_neg h, if_neg h]; exact ⟨rfl, rfl⟩
theorem qOf_neg {x y : Int} (h : x < 0 ∧ x.natAbs % y.natAbs ≠ 0) : qOf x y = sgn (decide (x < 0) != decide (y < 0)) (x.natAbs / y.natAbs + 1) ∧ rOf x y = y.natAbs - x.natAbs % y.natAbs := by
  unfold qOf rOf; rw [if_pos h, if_pos h]; exact ⟨rfl, rfl⟩

set_option maxRecDepth 100000 in
set_option maxHeartbeats 4000000 in
theorem div_any (vx vy : Value) (x y : Int) (w : World) (hx : WInt w vx x) (hy : WInt w vy y) (hy0 : y ≠ 0) (hlx : x.natAbs < LIM) (hly : y.natAbs < LIM) (hok : DivOk x.natAbs y.natAbs) :
    Calls Tryd.prog 30 #[vx, vy] w (DivRet x y w) := by
  obtain ⟨vwx, rfl, hmx⟩ := hx
  obtain ⟨vwy, rfl, hmy⟩ := hy
  obtain ⟨ax, nx, cx, rfl, hmx, hnx, hcx⟩ := mag_form hmx
  obtain ⟨ay, ny, cy, rfl, hmy, hny, hcy⟩ := mag_form hmy
  have hypos : 0 < ny := by rw [hny, mag_len]; omega
  have hy1 : ((ny : Int) == 0) = false := by simp; omega
  obtain ⟨n, hn⟩ : ∃ n, w.heap.size = n := ⟨_, rfl⟩
  have Hn := Lib.hid hn
  obtain ⟨W, hW, t1, t2, t3, t4, hBW, hsW⟩ := boxes4 w 33 (.bool (decide (x < 0))) (.slice ax nx cx) (.bool (decide (y < 0))) (.slice ay ny cy) (.bool false) (.slice none 0 0) (.bool false) (.slice none 0 0) n hn
  have Hd := Lib.hid (hok W (.slice ax nx cx) (.slice ay ny cy) (hmx.below (Nat.le_of_eq hn) hBW) (hmy.below (Nat.le_of_eq hn) hBW))
  have HY := Lib.hid hmy
  have hle := (lim_len y.natAbs).2 hly
  have hlex := (lim_len x.natAbs).2 hlx
  have Hlex := Lib.hid hlex
  have Hlx := Lib.hid hlx
  have Hle := Lib.hid hle
  have Hmod := Lib.hid (Nat.mod_lt x.natAbs (show 0 < y.natAbs by omega))
  have HBW := Lib.hid hBW
  have T1 := Lib.hid t1
  have T2 := Lib.hid t2
  have T3 := Lib.hid t3
  have T4 := Lib.hid t4
  have d1 := t1.cell1
  have d3 := t2.cell1
  obtain ⟨sx, hsx⟩ : ∃ sx, decide (x < 0) = sx := ⟨_, rfl⟩
  obtain ⟨sy, hsy⟩ : ∃ sy, decide (y < 0) = sy := ⟨_, rfl⟩
  rw [hsx] at hW T1 ⊢
  rw [hsy] at hW T2 ⊢
  have Hsx := Lib.hid hsx
  have Hsy := Lib.hid hsy
  clear hok hmx hmy t1 t2 t3 t4 hBW hnx hny hle hlex hlx hly hy0 hsx hsy
  go_enter Tryd.func30, Tryd.ntmps30
  go_wp2_with fail
  clear hW hy1
  refine Hd.out.mono ?_
  rintro e w1 ⟨hB1, vq, vr, rfl, hq, hr⟩
  obtain ⟨aq, lq, cq, rfl, hq, hlq, hcq⟩ := mag_form hq
  obtain ⟨ar, lr, cr, rfl, hr, hlr, hcr⟩ := mag_form hr
  have Hq := Lib.hid hq
  have Hr := Lib.hid hr
  have Hlr := Lib.hid hlr
  have HB1 := Lib.hid (HBW.out.trans (hB1.mono (by omega)))
  have z1 := hB1.size
  rw [hsW] at z1
  have T11 := Lib.hid (T1.out.below hB1 (by omega))
  have T12 := Lib.hid (T2.out.below hB1 (by omega))
  have T13 := Lib.hid (T3.out.below hB1 (by omega))
  have T14 := Lib.hid (T4.out.below hB1 (by omega))
  have e0 := T11.out.cell0
  have e2 := T12.out.cell0
  have e3 := T12.out.cell1
  have Hor := Lib.hid (show lr = 0 ↔ x.natAbs % y.natAbs = 0 by
    have := mag_len (n := x.natAbs % y.natAbs)
    rw [← hlr] at this
    omega)
  clear hq hr hlr hlq hB1 Hd T1 T2 T3 T4 d1 d3
  by_cases hcase : sx = true ∧ 0 < lr
  · obtain ⟨rfl, hlr0⟩ := hcase
    have Hqr : Hid (qOf x y = sgn (!sy) (x.natAbs / y.natAbs + 1) ∧ rOf x y = y.natAbs - x.natAbs % y.natAbs) := Lib.hid (by
      have h9 := qOf_neg (x := x) (y := y) ⟨by simpa using Hsx.out, fun h => by have := Hor.out.2 h; omega⟩
      rw [Hsx.out, Hsy.out] at h9
      refine ⟨h9.1.trans ?_, h9.2⟩
      cases sy <;> rfl)
    obtain ⟨wa, hwa⟩ : ∃ wa, w1.alloc (.cells #[.int .u32 1] 74) = wa := ⟨_, rfl⟩
    have hBa : Below w1.heap.size w1 wa := by rw [← hwa]; exact (Below.refl _ _).alloc (Nat.le_refl _) _
    have hza : wa.heap.size = w1.heap.size + 1 := by rw [← hwa]; simp
    have hblk : Blk wa w1.heap.size 74 .u32 [1] := by rw [← hwa]; exact heap_alloc_new w1 _
    have hone : MagAt wa (.slice (some ⟨w1.heap.size, 0, none⟩) 1 1) 1 := by
      have hd1 : digs W2 1 = [1] := by rw [digs_pos W2 1 w2_two (by omega), show 1 / W2 = 0 from rfl, digs_zero]; rfl
      unfold MagAt
      rw [hd1]
      exact RowAt.of_blk hblk (by simp) (by simp)
    have Hlq : Hid ((digs W2 (x.natAbs / y.natAbs)).length ≤ 512) := Lib.hid ((lim_len _).2 (Nat.lt_of_le_of_lt (Nat.div_le_self _ _) Hlx.out))
    have Hpl := Lib.hid (plus_any _ _ _ 1 wa (RowAt.below Hq.out (Nat.le_refl _) hBa) hone (by have := Hlq.out; omega) (by rw [show digs W2 1 = [1] by rw [digs_pos W2 1 w2_two (by omega), show 1 / W2 = 0 from rfl, digs_zero]; rfl]; simp))
    have HBa := Lib.hid hBa
    clear hBa hblk hone
    go_wp2_with fail
    refine Hpl.out.mono ?_
    rintro e w2 ⟨v2, rfl, hm2, hB2⟩
    obtain ⟨a3, l3, c3, rfl, hm2, -, hc3⟩ := mag_form hm2
    have Hm2 := Lib.hid hm2
    have HB2 := Lib.hid (HBa.out.trans (hB2.mono (by omega)))
    have z2 := HB2.out.size
    have HT2y := Lib.hid (T12.out.below HB2.out (by omega))
    have e3' := HT2y.out.cell1
    have Hmin := Lib.hid (minus_any (.slice ay ny cy) (.slice ar lr cr) y.natAbs (x.natAbs % y.natAbs) w2 (HY.out.below (Nat.le_of_eq hn) (HB1.out.trans (HB2.out.mono (by omega)))) (RowAt.below Hr.out (Nat.le_refl _) HB2.out) (Nat.le_of_lt Hmod.out) (by have := Hle.out; omega))
    clear hm2 hB2 Hpl
    go_wp2_with fail
    refine Hmin.out.mono ?_
    rintro e w3 ⟨v3, rfl, hm3, hB3⟩
    obtain ⟨a4, l4, c4, rfl, hm3, -, hc4⟩ := mag_form hm3
    have Hr3 := Lib.hid hm3
    have Hq3 := Lib.hid (RowAt.below Hm2.out (Nat.le_refl _) hB3)
    have HB23 := Lib.hid (HB2.out.trans (hB3.mono (by omega)))
    have z3 := HB23.out.size
    have HB3 := Lib.hid (HB1.out.trans (HB23.out.mono (by omega)))
    have T31 := Lib.hid (T11.out.below HB23.out (by omega))
    have T32 := Lib.hid (T12.out.below HB23.out (by omega))
    have T33 := Lib.hid (T13.out.below HB23.out (by omega))
    have T34 := Lib.hid (T14.out.below HB23.out (by omega))
    have k0 := T31.out.cell0
    have k2 := T32.out.cell0
    clear hm3 hB3 Hmin
    obtain ⟨Q1, hQ1⟩ : ∃ Q1, x.natAbs / y.natAbs + 1 = Q1 := ⟨_, rfl⟩
    obtain ⟨R1, hR1⟩ : ∃ R1, y.natAbs - x.natAbs % y.natAbs = R1 := ⟨_, rfl⟩
    have HQM : Hid (MagAt w3 (.slice a3 l3 c3) Q1) := Lib.hid (by rw [← hQ1]; exact Hq3.out)
    have HRM : Hid (MagAt w3 (.slice a4 l4 c4) R1) := Lib.hid (by rw [← hR1]; exact Hr3.out)
    rw [hQ1, hR1] at Hqr
    clear hQ1 hR1 Hq3 Hr3 Hm2
    go_wp2_with fail
    refine (signed_any _ _ _ w3 HQM.out).mono ?_
    rintro e w7 ⟨rfl, hB7⟩
    have HB7 := Lib.hid hB7
    have z7 := hB7.size
    clear hB7
    go_wp2_with fail
    refine (signed_any _ _ _ w7 (RowAt.below HRM.out (Nat.le_refl _) HB7.out)).mono ?_
    rintro e w8 ⟨rfl, hB8⟩
    have HB8 := Lib.hid (HB7.out.trans (hB8.mono z7))
    have z8 := HB8.out.size
    have HT3 := Lib.hid (T33.out.below HB8.out (by omega))
    have HT4 := Lib.hid (T34.out.below HB8.out (by omega))
    have HQ8 := Lib.hid (RowAt.below HQM.out (Nat.le_refl _) HB8.out)
    have HR8 := Lib.hid (RowAt.below HRM.out (Nat.le_refl _) HB8.out)
    have HBall := Lib.hid (HB3.out.trans (HB8.out.mono (by omega)))
    have g0 := HT3.out.cell0
    have g1 := HT3.out.cell1
    have g2 := HT3.out.frozen 0
    have g3 := HT3.out.frozen 1
    have g4 := HT4.out.cell0
    have g5 := HT4.out.cell1
    have g6 := HT4.out.frozen 0
    have g7 := HT4.out.frozen 1
    clear hB8
    go_wp2
    refine bodyPost_ret (v := .tuple #[.agg #[.bool (decide (sgn (!sy) Q1 < 0)), .slice a3 l3 c3], .agg #[.bool (decide (sgn false R1 < 0)), .slice a4 l4 c4], .int .i64 0]) (by simp [results, Tryd.results30, go_sem, g0, g1, g4, g5]) rfl ?_
    refine ⟨?_, _, _, rfl, WInt.mk ?_ ?_, WInt.mk ?_ ?_⟩
    · rw [Hn.out]
      exact (((HBall.out.setCell (p := ⟨n + 1 + 1, 0, none⟩) (by show n ≤ n + 1 + 1; omega) _).setCell (p := ⟨n + 1 + 1, 1, none⟩) (by show n ≤ n + 1 + 1; omega) _).setCell (p := ⟨n + 1 + 1 + 1, 0, none⟩) (by show n ≤ n + 1 + 1 + 1; omega) _).setCell (p := ⟨n + 1 + 1 + 1, 1, none⟩) (by show n ≤ n + 1 + 1 + 1; omega) _
    · rw [Hqr.out.1]
    · rw [Hqr.out.1, sgn_natAbs]
      exact RowAt.store_two (RowAt.store_two HQ8.out HT3.out (fun _ _ h => by cases h) (fun _ _ h => by cases h) _ _) ((HT4.out.far (by show n + 1 + 1 + 1 ≠ n + 1 + 1; omega) _).far (by show n + 1 + 1 + 1 ≠ n + 1 + 1; omega) _) (fun _ _ h => by cases h) (fun _ _ h => by cases h) _ _
    · rw [Hqr.out.2]; rfl
    · rw [Hqr.out.2]
      exact RowAt.store_two (RowAt.store_two HR8.out HT3.out (fun _ _ h => by cases h) (fun _ _ h => by cases h) _ _) ((HT4.out.far (by show n + 1 + 1 + 1 ≠ n + 1 + 1; omega) _).far (by show n + 1 + 1 + 1 ≠ n + 1 + 1; omega) _) (fun _ _ h => by cases h) (fun _ _ h => by cases h) _ _
  · cases sx with
    | false =>
      have Hqr : Hid (qOf x y = sgn sy (x.natAbs / y.natAbs) ∧ rOf x y = x.natAbs % y.natAbs) := Lib.hid (by
        have h9 := qOf_pos (x := x) (y := y) (fun h => by have h8 := Hsx.out; rw [decide_eq_true h.1] at h8; cases h8)
        rw [Hsx.out, Hsy.out] at h9
        refine ⟨h9.1.trans ?_, h9.2⟩
        cases sy <;> rfl)
      clear hcase
      go_wp2_with fail
      refine (signed_any _ _ _ w1 Hq.out).mono ?_
      rintro e w7 ⟨rfl, hB7⟩
      have HB7 := Lib.hid hB7
      have z7 := hB7.size
      clear hB7
      go_wp2_with fail
      refine (signed_any _ _ _ w7 (RowAt.below Hr.out (Nat.le_refl _) HB7.out)).mono ?_
      rintro e w8 ⟨rfl, hB8⟩
      have HB8 := Lib.hid (HB7.out.trans (hB8.mono z7))
      have z8 := HB8.out.size
      have HT3 := Lib.hid (T13.out.below HB8.out (by omega))
      have HT4 := Lib.hid (T14.out.below HB8.out (by omega))
      have HQ8 := Lib.hid (RowAt.below Hq.out (Nat.le_refl _) HB8.out)
      have HR8 := Lib.hid (RowAt.below Hr.out (Nat.le_refl _) HB8.out)
      have HBall := Lib.hid (HB1.out.trans (HB8.out.mono (by omega)))
      have g0 := HT3.out.cell0
      have g1 := HT3.out.cell1
      have g2 := HT3.out.frozen 0
      have g3 := HT3.out.frozen 1
      have g4 := HT4.out.cell0
      have g5 := HT4.out.cell1
      have g6 := HT4.out.frozen 0
      have g7 := HT4.out.frozen 1
      clear hB8
      go_wp2
      refine bodyPost_ret (v := .tuple #[.agg #[.bool (decide (sgn sy (x.natAbs / y.natAbs) < 0)), .slice aq lq cq], .agg #[.bool (decide (sgn false (x.natAbs % y.natAbs) < 0)), .slice ar lr cr], .int .i64 0]) (by simp [results, Tryd.results30, go_sem, g0, g1, g4, g5]) rfl ?_
      refine ⟨?_, _, _, rfl, WInt.mk ?_ ?_, WInt.mk ?_ ?_⟩
      · rw [Hn.out]
        exact (((HBall.out.setCell (p := ⟨n + 1 + 1, 0, none⟩) (by show n ≤ n + 1 + 1; omega) _).setCell (p := ⟨n + 1 + 1, 1, none⟩) (by show n ≤ n + 1 + 1; omega) _).setCell (p := ⟨n + 1 + 1 + 1, 0, none⟩) (by show n ≤ n + 1 + 1 + 1; omega) _).setCell (p := ⟨n + 1 + 1 + 1, 1, none⟩) (by show n ≤ n + 1 + 1 + 1; omega) _
      · rw [Hqr.out.1]
      · rw [Hqr.out.1, sgn_natAbs]
        exact RowAt.store_two (RowAt.store_two HQ8.out HT3.out (fun _ _ h => by cases h) (fun _ _ h => by cases h) _ _) ((HT4.out.far (by show n + 1 + 1 + 1 ≠ n + 1 + 1; omega) _).far (by show n + 1 + 1 + 1 ≠ n + 1 + 1; omega) _) (fun _ _ h => by cases h) (fun _ _ h => by cases h) _ _
      · rw [Hqr.out.2]; rfl
      · rw [Hqr.out.2]
        exact RowAt.store_two (RowAt.store_two HR8.out HT3.out (fun _ _ h => by cases h) (fun _ _ h => by cases h) _ _) ((HT4.out.far (by show n + 1 + 1 + 1 ≠ n + 1 + 1; omega) _).far (by show n + 1 + 1 + 1 ≠ n + 1 + 1; omega) _) (fun _ _ h => by cases h) (fun _ _ h => by cases h) _ _
    | true =>
      obtain rfl : lr = 0 := by simp at hcase; omega
      have Hqr : Hid (qOf x y = sgn (!sy) (x.natAbs / y.natAbs) ∧ rOf x y = x.natAbs % y.natAbs) := Lib.hid (by
        have h9 := qOf_pos (x := x) (y := y) (fun h => h.2 (Hor.out.1 rfl))
        rw [Hsx.out, Hsy.out] at h9
        refine ⟨h9.1.trans ?_, h9.2⟩
        cases sy <;> rfl)
      clear hcase
      go_wp2_with fail
      refine (signed_any _ _ _ w1 Hq.out).mono ?_
      rintro e w7 ⟨rfl, hB7⟩
      have HB7 := Lib.hid hB7
      have z7 := hB7.size
      clear hB7
      go_wp2_with fail
      refine (signed_any _ _ _ w7 (RowAt.below Hr.out (Nat.le_refl _) HB7.out)).mono ?_
      rintro e w8 ⟨rfl, hB8⟩
      have HB8 := Lib.hid (HB7.out.trans (hB8.mono z7))
      have z8 := HB8.out.size
      have HT3 := Lib.hid (T13.out.below HB8.out (by omega))
      have HT4 := Lib.hid (T14.out.below HB8.out (by omega))
      have HQ8 := Lib.hid (RowAt.below Hq.out (Nat.le_refl _) HB8.out)
      have HR8 := Lib.hid (RowAt.below Hr.out (Nat.le_refl _) HB8.out)
      have HBall := Lib.hid (HB1.out.trans (HB8.out.mono (by omega)))
      have g0 := HT3.out.cell0
      have g1 := HT3.out.cell1
      have g2 := HT3.out.frozen 0
      have g3 := HT3.out.frozen 1
      have g4 := HT4.out.cell0
      have g5 := HT4.out.cell1
      have g6 := HT4.out.frozen 0
      have g7 := HT4.out.frozen 1
      clear hB8
      go_wp2
      refine bodyPost_ret (v := .tuple #[.agg #[.bool (decide (sgn (!sy) (x.natAbs / y.natAbs) < 0)), .slice aq lq cq], .agg #[.bool (decide (sgn false (x.natAbs % y.natAbs) < 0)), .slice ar 0 cr], .int .i64 0]) (by simp [results, Tryd.results30, go_sem, g0, g1, g4, g5]) rfl ?_
      refine ⟨?_, _, _, rfl, WInt.mk ?_ ?_, WInt.mk ?_ ?_⟩
      · rw [Hn.out]
        exact (((HBall.out.setCell (p := ⟨n + 1 + 1, 0, none⟩) (by show n ≤ n + 1 + 1; omega) _).setCell (p := ⟨n + 1 + 1, 1, none⟩) (by show n ≤ n + 1 + 1; omega) _).setCell (p := ⟨n + 1 + 1 + 1, 0, none⟩) (by show n ≤ n + 1 + 1 + 1; omega) _).setCell (p := ⟨n + 1 + 1 + 1, 1, none⟩) (by show n ≤ n + 1 + 1 + 1; omega) _
      · rw [Hqr.out.1]
      · rw [Hqr.out.1, sgn_natAbs]
        exact RowAt.store_two (RowAt.store_two HQ8.out HT3.out (fun _ _ h => by cases h) (fun _ _ h => by cases h) _ _) ((HT4.out.far (by show n + 1 + 1 + 1 ≠ n + 1 + 1; omega) _).far (by show n + 1 + 1 + 1 ≠ n + 1 + 1; omega) _) (fun _ _ h => by cases h) (fun _ _ h => by cases h) _ _
      · rw [Hqr.out.2]; rfl
      · rw [Hqr.out.2]
        exact RowAt.store_two (RowAt.store_two HR8.out HT3.out (fun _ _ h => by cases h) (fun _ _ h => by cases h) _ _) ((HT4.out.far (by show n + 1 + 1 + 1 ≠ n + 1 + 1; omega) _).far (by show n + 1 + 1 + 1 ≠ n + 1 + 1; omega) _) (fun _ _ h => by cases h) (fun _ _ h => by cases h) _ _

end Go.Proofs.YtgfgjnkndfgdiaaDoor
