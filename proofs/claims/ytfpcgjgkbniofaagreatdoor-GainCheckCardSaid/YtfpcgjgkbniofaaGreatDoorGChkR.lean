/- Check of any loop: gain.Check and ref11.Check answer the same. -/
import Derived.Test.YtfpcgjgkbniofaaGreatDoorGCheck
import Derived.Test.YtfpcgjgkbniofaaGreatDoorGBoth
set_option linter.unusedVariables false
set_option linter.unusedSimpArgs false
namespace Go.Proofs.YtfpcgjgkbniofaaGreatDoor
open Go.RowKit
attribute [local go_sem] Oper.semAt_some

def checkZ (c : Cat) (z ln lg : List Int) : Bool := decide (checkE c z = 0) && (gainsB (netZ c z) && (decide (ln = needZ c z) && decide (lg = netZ c z)))
theorem gainsB_zero (n : Nat) : gainsB ((List.range n).map (fun _ => (0 : Int))) = false := by
  unfold gainsB
  have : ((List.range n).map (fun _ => (0 : Int))).any (fun x => decide (0 < x)) = false := by
    rw [List.any_eq_false]
    intro x hx
    obtain ⟨_, _, rfl⟩ := List.mem_map.1 hx
    simp
  rw [this, Bool.and_false]
theorem gains_nil (c : Cat) : gainsB (netL c []) = false := by
  have h : netL c [] = (List.range c.items.length).map (fun _ => (0 : Int)) := by
    unfold netL
    exact List.map_congr_left (fun i _ => rfl)
  rw [h]
  exact gainsB_zero _
theorem checkB_Z (c : Cat) (s : List Nat) (ln lg : List Int) (h : checkE c (s.map (fun i => ((i : Nat) : Int))) = 0) : checkB c s ln lg = checkZ c (s.map (fun i => ((i : Nat) : Int))) ln lg := by
  unfold checkB checkZ netZ needZ
  rw [if_pos h, if_pos h, toNat_map, decide_eq_true h, Bool.true_and]
  cases s with
  | nil => rw [gains_nil]; simp
  | cons x s => simp [gainS, Bool.and_assoc]
theorem checkZ_err (c : Cat) (z ln lg : List Int) (h : checkE c z ≠ 0) : checkZ c z ln lg = false := by
  unfold checkZ
  rw [decide_eq_false h, Bool.false_and]
theorem check_both (vi vr v1 v2 v3 : Value) (c : Cat) (z ln lg : List Int) (w : World) (hc : CatAt w vi vr c) (hf : Fine c) (h1 : IntsOf w v1 z) (h2 : IntsOf w v2 ln) (h3 : IntsOf w v3 lg) (hz : ∀ i ∈ z, -9223372036854775808 ≤ i ∧ i ≤ 9223372036854775807) (hK : Kinds w) :
    Calls Tryz.prog 22 #[catV vi vr, loopV v1 v2 v3] w fun e w' => e = .returned (.bool (checkZ c z ln lg)) ∧ Below w.heap.size w w' := by
  by_cases h0 : checkE c z = 0
  · obtain ⟨s, rfl, hu⟩ := us_of_check h0
    rw [← checkB_Z c s ln lg h0]
    exact check_ok _ _ _ _ _ c s ln lg w hc hf h1.nats h2 h3 hu hK
  · rw [checkZ_err c z ln lg h0]
    exact check_err _ _ _ _ _ c z ln lg w hc hf h1 h2 h3 hz h0 hK

set_option maxHeartbeats 4000000 in
theorem rcheckl_any (vi vr v1 v2 v3 : Value) (c : Cat) (z ln lg : List Int) (w : World) (hc : CatAt w vi vr c) (hf : Fine c) (h1 : IntsOf w v1 z) (h2 : IntsOf w v2 ln) (h3 : IntsOf w v3 lg) (hz : ∀ i ∈ z, -9223372036854775808 ≤ i ∧ i ≤ 9223372036854775807) (hK : Kinds w) :
    Calls Tryz.prog 23 #[catV vi vr, loopV v1 v2 v3] w fun e w' => e = .returned (.bool (checkZ c z ln lg)) ∧ Below w.heap.size w w' := by
  obtain ⟨er, her⟩ : ∃ er, checkE c z = er := ⟨_, rfl⟩
  have HER := Lib.hid her
  have HZ := Lib.hid hz
  obtain ⟨r, hr⟩ : ∃ r, checkZ c z ln lg = r := ⟨_, rfl⟩
  have HR := Lib.hid hr
  rw [hr]
  clear hr her hz
  obtain ⟨ai, ci, rfl, hi1, hi2⟩ := hc.items.form
  obtain ⟨ar, cr, rfl, hr1, hr2⟩ := hc.rules.form
  obtain ⟨a1, c1, rfl, hs1, hs2⟩ := h1.form
  obtain ⟨a2, c2, rfl, hs3, hs4⟩ := h2.form
  obtain ⟨a3, c3, rfl, hs5, hs6⟩ := h3.form
  have HC := Lib.hid hc
  have HF := Lib.hid hf
  have HK := Lib.hid hK
  have H1 := Lib.hid h1
  have H2 := Lib.hid h2
  have H3 := Lib.hid h3
  clear hc hf hK h1 h2 h3
  unfold catV loopV
  obtain ⟨w1, hw1⟩ : ∃ w1, (w.alloc (.cells #[.slice ai c.items.length ci, .slice ar c.rules.length cr, .slice none 0 0, .slice none 0 0] 28)).alloc (.cells #[.slice a1 z.length c1, .slice a2 ln.length c2, .slice a3 lg.length c3] 45) = w1 := ⟨_, rfl⟩
  have HB : Hid (Below w.heap.size w w1) := Lib.hid (by rw [← hw1]; exact ((Below.refl _ _).alloc (Nat.le_refl _) _).alloc (by simp) _)
  have HX : Hid (BoxC w1 w.heap.size (.slice ai c.items.length ci) (.slice ar c.rules.length cr)) := Lib.hid (by rw [← hw1]; exact (BoxC.new _ _ _).below ((Below.refl _ _).alloc (Nat.le_refl _) _))
  have HY : Hid (BoxL w1 (w.heap.size + 1) (.slice a1 z.length c1) (.slice a2 ln.length c2) (.slice a3 lg.length c3)) := Lib.hid (by rw [← hw1]; have h9 := BoxL.new (w.alloc (.cells #[.slice ai c.items.length ci, .slice ar c.rules.length cr, .slice none 0 0, .slice none 0 0] 28)) 45 (.slice a1 z.length c1) (.slice a2 ln.length c2) (.slice a3 lg.length c3); simpa using h9)
  have m0 := HX.out.c0
  have m1 := HX.out.c1
  have m2 := HX.out.c2
  have m3 := HX.out.c3
  have l0 := HY.out.c0
  have l1 := HY.out.c1
  have l2 := HY.out.c2
  go_enter Tryz.func23, Tryz.ntmps23
  go_wp2_with fail
  clear hw1
  refine (rnet_both _ _ _ c z w1 (HC.out.below HB.out) HF.out (H1.out.below HB.out) HZ.out (HK.out.keep HB.out)).mono ?_
  rintro e w2 ⟨⟨vn, rfl, hn⟩, hB⟩
  rw [HER.out]
  obtain ⟨an, cn, rfl, -, -⟩ := hn.form
  have HN := Lib.hid hn
  clear hn
  replace HB := Lib.hid (HB.out.trans (hB.mono HB.out.size))
  replace HX := Lib.hid (HX.out.below hB)
  replace HY := Lib.hid (HY.out.below hB)
  clear hB m0 m1 m2 m3 l0 l1 l2
  have m0 := HX.out.c0
  have m1 := HX.out.c1
  have m2 := HX.out.c2
  have m3 := HX.out.c3
  have l0 := HY.out.c0
  have l1 := HY.out.c1
  have l2 := HY.out.c2
  go_wp2_with fail
  refine (rneed_both _ _ _ c z w2 (HC.out.below HB.out) HF.out (H1.out.below HB.out) HZ.out (HK.out.keep HB.out)).mono ?_
  rintro e w3 ⟨⟨vd, rfl, hn⟩, hB⟩
  rw [HER.out]
  obtain ⟨ad, cd, rfl, -, -⟩ := hn.form
  have HD := Lib.hid hn
  replace HN := Lib.hid (HN.out.below hB)
  clear hn
  replace HB := Lib.hid (HB.out.trans (hB.mono HB.out.size))
  replace HX := Lib.hid (HX.out.below hB)
  replace HY := Lib.hid (HY.out.below hB)
  clear hB m0 m1 m2 m3 l0 l1 l2
  have m0 := HX.out.c0
  have m1 := HX.out.c1
  have m2 := HX.out.c2
  have m3 := HX.out.c3
  have l0 := HY.out.c0
  have l1 := HY.out.c1
  have l2 := HY.out.c2
  go_wp2_with fail
  refine (rgains_any _ _ w3 HN.out).mono ?_
  rintro e w' ⟨rfl, rfl⟩
  obtain ⟨bg, hbg⟩ : ∃ b, gainsB (netZ c z) = b := ⟨_, rfl⟩
  rw [hbg]
  have HBG := Lib.hid hbg
  clear hbg
  go_wp2_with fail
  refine (sameInts_any _ _ _ _ w' HN.out (H3.out.below HB.out)).mono ?_
  rintro e w4 ⟨rfl, hB⟩
  obtain ⟨bs, hbs⟩ : ∃ b, decide (netZ c z = lg) = b := ⟨_, rfl⟩
  rw [hbs]
  have HBS := Lib.hid hbs
  replace HD := Lib.hid (HD.out.below hB)
  clear hbs
  replace HB := Lib.hid (HB.out.trans (hB.mono HB.out.size))
  replace HX := Lib.hid (HX.out.below hB)
  replace HY := Lib.hid (HY.out.below hB)
  clear hB m0 m1 m2 m3 l0 l1 l2
  have m0 := HX.out.c0
  have m1 := HX.out.c1
  have m2 := HX.out.c2
  have m3 := HX.out.c3
  have l0 := HY.out.c0
  have l1 := HY.out.c1
  have l2 := HY.out.c2
  go_wp2_with fail
  refine (sameInts_any _ _ _ _ w4 HD.out (H2.out.below HB.out)).mono ?_
  rintro e w5 ⟨rfl, hB⟩
  obtain ⟨bt, hbt⟩ : ∃ b, decide (needZ c z = ln) = b := ⟨_, rfl⟩
  rw [hbt]
  have HBT := Lib.hid hbt
  clear hbt
  have HR' : Hid (r = (decide (er = 0) && (bg && (bt && bs)))) := Lib.hid (by
    rw [← HR.out]
    unfold checkZ
    rw [HER.out, HBG.out, ← HBT.out, ← HBS.out]
    congr 3
    · exact decide_eq_decide.2 ⟨Eq.symm, Eq.symm⟩
    · exact decide_eq_decide.2 ⟨Eq.symm, Eq.symm⟩)
  by_cases he : er = 0
  · have q0 : (er == 0) = true := by simpa using he
    have HR2 : Hid (r = (bg && (bt && bs))) := Lib.hid (by rw [HR'.out, decide_eq_true he, Bool.true_and])
    clear he HR' HBG HBS HBT
    cases bg <;> cases bt <;> cases bs
    all_goals
      replace HB := Lib.hid (HB.out.trans (hB.mono HB.out.size))
      replace HX := Lib.hid (HX.out.below hB)
      replace HY := Lib.hid (HY.out.below hB)
      clear hB m0 m1 m2 m3 l0 l1 l2
      have m0 := HX.out.c0
      have m1 := HX.out.c1
      have m2 := HX.out.c2
      have m3 := HX.out.c3
      have l0 := HY.out.c0
      have l1 := HY.out.c1
      have l2 := HY.out.c2
      go_wp2_with fail
      go_ret
      exact ⟨by rw [HR2.out]; rfl, HB.out⟩
  · have q0 : (er == 0) = false := by simpa using he
    have HR2 : Hid (r = false) := Lib.hid (by rw [HR'.out, decide_eq_false he, Bool.false_and])
    clear he HR'
    replace HB := Lib.hid (HB.out.trans (hB.mono HB.out.size))
    replace HX := Lib.hid (HX.out.below hB)
    replace HY := Lib.hid (HY.out.below hB)
    clear hB m0 m1 m2 m3 l0 l1 l2
    have m0 := HX.out.c0
    have m1 := HX.out.c1
    have m2 := HX.out.c2
    have m3 := HX.out.c3
    have l0 := HY.out.c0
    have l1 := HY.out.c1
    have l2 := HY.out.c2
    go_wp2_with fail
    all_goals
      go_ret
      exact ⟨by rw [HR2.out]; rfl, HB.out⟩
end Go.Proofs.YtfpcgjgkbniofaaGreatDoor
