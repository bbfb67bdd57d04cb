/- gain.Check. -/
import Derived.Test.YtfpcgjgkbniofaaGreatDoorGChk
set_option linter.unusedVariables false
set_option linter.unusedSimpArgs false
namespace Go.Proofs.YtfpcgjgkbniofaaGreatDoor
open Go.RowKit

/-- what Check answers at a sequence of usable rules -/
def checkB (c : Cat) (s : List Nat) (ln lg : List Int) : Bool := !s.isEmpty && gainS c s && decide (ln = needL c s) && decide (lg = netL c s)

def loopV (v1 v2 v3 : Value) : Value := .agg #[v1, v2, v3]
/-- the box of a loop -/
structure BoxL (w : World) (b : Nat) (v1 v2 v3 : Value) : Prop where
  lt : b < w.heap.size
  c0 : w.cell? ⟨b, 0, none⟩ = some v1
  c1 : w.cell? ⟨b, 1, none⟩ = some v2
  c2 : w.cell? ⟨b, 2, none⟩ = some v3
theorem BoxL.below {w w' : World} {b : Nat} {v1 v2 v3 : Value} (h : BoxL w b v1 v2 v3) (hb : Below w.heap.size w w') : BoxL w' b v1 v2 v3 :=
  ⟨Nat.lt_of_lt_of_le h.lt hb.size, (hb.cell (p := ⟨b, 0, none⟩) h.lt).trans h.c0, (hb.cell (p := ⟨b, 1, none⟩) h.lt).trans h.c1, (hb.cell (p := ⟨b, 2, none⟩) h.lt).trans h.c2⟩
theorem BoxL.new (w : World) (t : TypeId) (v1 v2 v3 : Value) : BoxL (w.alloc (.cells #[v1, v2, v3] t)) w.heap.size v1 v2 v3 := ⟨by simp, by simp, by simp, by simp⟩

set_option maxHeartbeats 2000000 in
theorem check_err (vi vr v1 v2 v3 : Value) (c : Cat) (z ln lg : List Int) (w : World) (hc : CatAt w vi vr c) (hf : Fine c) (h1 : IntsOf w v1 z) (h2 : IntsOf w v2 ln) (h3 : IntsOf w v3 lg) (hz : ∀ i ∈ z, -9223372036854775808 ≤ i ∧ i ≤ 9223372036854775807) (hu : checkE c z ≠ 0) (hK : Kinds w) :
    Calls Tryz.prog 22 #[catV vi vr, loopV v1 v2 v3] w fun e w' => e = .returned (.bool false) ∧ Below w.heap.size w w' := by
  obtain ⟨er, her⟩ : ∃ er, checkE c z = er := ⟨_, rfl⟩
  rw [her] at hu
  have HER := Lib.hid her
  have HZ := Lib.hid hz
  clear her hz
  have hq : (er == 0) = false := by simpa using hu
  have hq2 : (er != 0) = true := by simpa using hu
  have HU := Lib.hid hu
  clear hu
  obtain ⟨ai, ci, rfl, hi1, hi2⟩ := hc.items.form
  obtain ⟨ar, cr, rfl, hr1, hr2⟩ := hc.rules.form
  obtain ⟨a1, c1, rfl, hs1, hs2⟩ := h1.form
  obtain ⟨a2, c2, rfl, hs3, hs4⟩ := h2.form
  obtain ⟨a3, c3, rfl, hs5, hs6⟩ := h3.form
  have HC := Lib.hid hc
  have HF := Lib.hid hf
  have HK := Lib.hid hK
  have H1 := Lib.hid h1
  have H2 := Lib.hid h2
  have H3 := Lib.hid h3
  clear hc hf hK h1 h2 h3
  unfold catV loopV
  obtain ⟨w1, hw1⟩ : ∃ w1, (w.alloc (.cells #[.slice ai c.items.length ci, .slice ar c.rules.length cr, .slice none 0 0, .slice none 0 0] 28)).alloc (.cells #[.slice a1 z.length c1, .slice a2 ln.length c2, .slice a3 lg.length c3] 42) = w1 := ⟨_, rfl⟩
  have HB : Hid (Below w.heap.size w w1) := Lib.hid (by rw [← hw1]; exact ((Below.refl _ _).alloc (Nat.le_refl _) _).alloc (by simp) _)
  have HX : Hid (BoxC w1 w.heap.size (.slice ai c.items.length ci) (.slice ar c.rules.length cr)) := Lib.hid (by rw [← hw1]; exact (BoxC.new _ _ _).below ((Below.refl _ _).alloc (Nat.le_refl _) _))
  have HY : Hid (BoxL w1 (w.heap.size + 1) (.slice a1 z.length c1) (.slice a2 ln.length c2) (.slice a3 lg.length c3)) := Lib.hid (by rw [← hw1]; have h9 := BoxL.new (w.alloc (.cells #[.slice ai c.items.length ci, .slice ar c.rules.length cr, .slice none 0 0, .slice none 0 0] 28)) 42 (.slice a1 z.length c1) (.slice a2 ln.length c2) (.slice a3 lg.length c3); simpa using h9)
  have m0 := HX.out.c0
  have m1 := HX.out.c1
  have m2 := HX.out.c2
  have m3 := HX.out.c3
  have l0 := HY.out.c0
  have l1 := HY.out.c1
  have l2 := HY.out.c2
  go_enter Tryz.func22, Tryz.ntmps22
  go_wp2_with fail
  clear hw1
  have hnet := net_err _ _ _ c z w1 (HC.out.below HB.out) HF.out (H1.out.below HB.out) HZ.out (by rw [HER.out]; exact HU.out) (HK.out.keep HB.out)
  rw [HER.out] at hnet
  refine hnet.mono ?_
  clear hnet
  rintro e w2 ⟨rfl, hB⟩
  replace HB := Lib.hid (HB.out.trans (hB.mono HB.out.size))
  replace HX := Lib.hid (HX.out.below hB)
  replace HY := Lib.hid (HY.out.below hB)
  clear hB m0 m1 m2 m3 l0 l1 l2
  have m0 := HX.out.c0
  have m1 := HX.out.c1
  have m2 := HX.out.c2
  have m3 := HX.out.c3
  have l0 := HY.out.c0
  have l1 := HY.out.c1
  have l2 := HY.out.c2
  go_wp2_with fail
  go_ret
  exact ⟨rfl, HB.out⟩
set_option maxHeartbeats 4000000 in
theorem check_ok (vi vr v1 v2 v3 : Value) (c : Cat) (s : List Nat) (ln lg : List Int) (w : World) (hc : CatAt w vi vr c) (hf : Fine c) (h1 : NatsOf w v1 s) (h2 : IntsOf w v2 ln) (h3 : IntsOf w v3 lg) (hu : UsS c s) (hK : Kinds w) :
    Calls Tryz.prog 22 #[catV vi vr, loopV v1 v2 v3] w fun e w' => e = .returned (.bool (checkB c s ln lg)) ∧ Below w.heap.size w w' := by
  have HU := Lib.hid hu
  clear hu
  obtain ⟨r, hr⟩ : ∃ r, checkB c s ln lg = r := ⟨_, rfl⟩
  have HR := Lib.hid hr
  rw [hr]
  clear hr
  obtain ⟨ai, ci, rfl, hi1, hi2⟩ := hc.items.form
  obtain ⟨ar, cr, rfl, hr1, hr2⟩ := hc.rules.form
  obtain ⟨a1, c1, rfl, hs1, hs2⟩ := h1.form
  obtain ⟨a2, c2, rfl, hs3, hs4⟩ := h2.form
  obtain ⟨a3, c3, rfl, hs5, hs6⟩ := h3.form
  have HC := Lib.hid hc
  have HF := Lib.hid hf
  have HK := Lib.hid hK
  have H1 := Lib.hid h1
  have H2 := Lib.hid h2
  have H3 := Lib.hid h3
  clear hc hf hK h1 h2 h3
  unfold catV loopV
  obtain ⟨w1, hw1⟩ : ∃ w1, (w.alloc (.cells #[.slice ai c.items.length ci, .slice ar c.rules.length cr, .slice none 0 0, .slice none 0 0] 28)).alloc (.cells #[.slice a1 s.length c1, .slice a2 ln.length c2, .slice a3 lg.length c3] 42) = w1 := ⟨_, rfl⟩
  have HB : Hid (Below w.heap.size w w1) := Lib.hid (by rw [← hw1]; exact ((Below.refl _ _).alloc (Nat.le_refl _) _).alloc (by simp) _)
  have HX : Hid (BoxC w1 w.heap.size (.slice ai c.items.length ci) (.slice ar c.rules.length cr)) := Lib.hid (by rw [← hw1]; exact (BoxC.new _ _ _).below ((Below.refl _ _).alloc (Nat.le_refl _) _))
  have HY : Hid (BoxL w1 (w.heap.size + 1) (.slice a1 s.length c1) (.slice a2 ln.length c2) (.slice a3 lg.length c3)) := Lib.hid (by rw [← hw1]; have h9 := BoxL.new (w.alloc (.cells #[.slice ai c.items.length ci, .slice ar c.rules.length cr, .slice none 0 0, .slice none 0 0] 28)) 42 (.slice a1 s.length c1) (.slice a2 ln.length c2) (.slice a3 lg.length c3); simpa using h9)
  have m0 := HX.out.c0
  have m1 := HX.out.c1
  have m2 := HX.out.c2
  have m3 := HX.out.c3
  have l0 := HY.out.c0
  have l1 := HY.out.c1
  have l2 := HY.out.c2
  go_enter Tryz.func22, Tryz.ntmps22
  go_wp2_with fail
  clear hw1
  refine (net_ok _ _ _ c s w1 (HC.out.below HB.out) HF.out (H1.out.below HB.out) HU.out (HK.out.keep HB.out)).mono ?_
  rintro e w2 ⟨⟨vn, rfl, hn⟩, hB⟩
  obtain ⟨an, cn, rfl, hn1, hn2⟩ := hn.form
  have HNet := Lib.hid hn
  clear hn
  replace HB := Lib.hid (HB.out.trans (hB.mono HB.out.size))
  replace HX := Lib.hid (HX.out.below hB)
  replace HY := Lib.hid (HY.out.below hB)
  clear hB m0 m1 m2 m3 l0 l1 l2
  have m0 := HX.out.c0
  have m1 := HX.out.c1
  have m2 := HX.out.c2
  have m3 := HX.out.c3
  have l0 := HY.out.c0
  have l1 := HY.out.c1
  have l2 := HY.out.c2
  by_cases hs0 : s = []
  · have HRF : Hid (r = false) := Lib.hid (by rw [← HR.out]; unfold checkB; rw [hs0]; rfl)
    have q1 : ((s.length : Int) == 0) = true := by simp [hs0]
    have q2 : (s.length == 0) = true := by simp [hs0]
    clear hs0
    go_wp2_with fail
    go_ret
    exact ⟨by rw [HRF.out]; rfl, HB.out⟩
  · have hN0 : s.length ≠ 0 := fun h => hs0 (List.eq_nil_of_length_eq_zero h)
    have HS0 : Hid (s.isEmpty = false) := Lib.hid (by cases s <;> simp_all)
    have q1 : ((s.length : Int) == 0) = false := by simp; omega
    have q2 : (s.length == 0) = false := by simpa using hN0
    clear hs0
    go_wp2_with fail
    have hgn := gains_any _ _ w2 HNet.out
    cases hgs : gainS c s with
    | false =>
      have hgs' : gainsB (netL c s) = false := hgs
      rw [hgs'] at hgn
      have HRF : Hid (r = false) := Lib.hid (by rw [← HR.out]; unfold checkB; rw [hgs]; simp)
      refine hgn.mono ?_
      clear hgn hgs hgs'
      rintro e w' ⟨rfl, rfl⟩
      go_wp2_with fail
      go_ret
      exact ⟨by rw [HRF.out]; rfl, HB.out⟩
    | true =>
      have hgs' : gainsB (netL c s) = true := hgs
      rw [hgs'] at hgn
      have HG := Lib.hid hgs
      refine hgn.mono ?_
      clear hgn hgs hgs'
      rintro e w' ⟨rfl, rfl⟩
      go_wp2_with fail
      refine (need_ok _ _ _ c s w' (HC.out.below HB.out) HF.out (H1.out.below HB.out) HU.out (HK.out.keep HB.out)).mono ?_
      rintro e w3 ⟨⟨vd, rfl, hd⟩, hB⟩
      obtain ⟨ad, cd, rfl, hd1, hd2⟩ := hd.form
      have HNeed := Lib.hid hd
      replace HNet := Lib.hid (HNet.out.below hB)
      clear hd
      replace HB := Lib.hid (HB.out.trans (hB.mono HB.out.size))
      replace HX := Lib.hid (HX.out.below hB)
      replace HY := Lib.hid (HY.out.below hB)
      clear hB m0 m1 m2 m3 l0 l1 l2
      have m0 := HX.out.c0
      have m1 := HX.out.c1
      have m2 := HX.out.c2
      have m3 := HX.out.c3
      have l0 := HY.out.c0
      have l1 := HY.out.c1
      have l2 := HY.out.c2
      go_wp2_with fail
      by_cases hq : ln = needL c s
      · refine (equal_any _ _ ln (needL c s) w3 (H2.out.below HB.out) HNeed.out).mono ?_
        rw [decide_eq_true hq]
        rintro e w4 ⟨rfl, hB⟩
        replace HNet := Lib.hid (HNet.out.below hB)
        have HQ := Lib.hid hq
        clear hq
        replace HB := Lib.hid (HB.out.trans (hB.mono HB.out.size))
        replace HX := Lib.hid (HX.out.below hB)
        replace HY := Lib.hid (HY.out.below hB)
        clear hB m0 m1 m2 m3 l0 l1 l2
        have m0 := HX.out.c0
        have m1 := HX.out.c1
        have m2 := HX.out.c2
        have m3 := HX.out.c3
        have l0 := HY.out.c0
        have l1 := HY.out.c1
        have l2 := HY.out.c2
        go_wp2_with fail
        refine (equal_any _ _ lg (netL c s) w4 (H3.out.below HB.out) HNet.out).mono ?_
        obtain ⟨x, hx⟩ : ∃ x, decide (lg = netL c s) = x := ⟨_, rfl⟩
        rw [hx]
        rintro e w5 ⟨rfl, hB⟩
        have HRF : Hid (r = x) := Lib.hid (by rw [← HR.out]; unfold checkB; rw [HS0.out, HG.out, decide_eq_true HQ.out, hx]; simp)
        clear hx
        replace HB := Lib.hid (HB.out.trans (hB.mono HB.out.size))
        replace HX := Lib.hid (HX.out.below hB)
        replace HY := Lib.hid (HY.out.below hB)
        clear hB m0 m1 m2 m3 l0 l1 l2
        have m0 := HX.out.c0
        have m1 := HX.out.c1
        have m2 := HX.out.c2
        have m3 := HX.out.c3
        have l0 := HY.out.c0
        have l1 := HY.out.c1
        have l2 := HY.out.c2
        go_wp2_with fail
        go_ret
        exact ⟨by rw [HRF.out]; rfl, HB.out⟩
      · refine (equal_any _ _ ln (needL c s) w3 (H2.out.below HB.out) HNeed.out).mono ?_
        rw [decide_eq_false hq]
        rintro e w4 ⟨rfl, hB⟩
        have HRF : Hid (r = false) := Lib.hid (by rw [← HR.out]; unfold checkB; rw [decide_eq_false hq]; simp)
        clear hq
        replace HB := Lib.hid (HB.out.trans (hB.mono HB.out.size))
        replace HX := Lib.hid (HX.out.below hB)
        replace HY := Lib.hid (HY.out.below hB)
        clear hB m0 m1 m2 m3 l0 l1 l2
        have m0 := HX.out.c0
        have m1 := HX.out.c1
        have m2 := HX.out.c2
        have m3 := HX.out.c3
        have l0 := HY.out.c0
        have l1 := HY.out.c1
        have l2 := HY.out.c2
        go_wp2_with fail
        go_ret
        exact ⟨by rw [HRF.out]; rfl, HB.out⟩
end Go.Proofs.YtfpcgjgkbniofaaGreatDoor
