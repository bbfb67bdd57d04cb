/- the law GainShortest: its walk. -/
import Derived.Test.YtfpcgjgkbniofaaDoorLawLeast
set_option linter.unusedVariables false
set_option linter.unusedSimpArgs false
namespace Go.Proofs.YtfpcgjgkbniofaaDoor
open Go.RowKit
attribute [local go_sem] Oper.semAt_some

theorem rsOf_perm {c : Cat} {s t : List Nat} (h : s.Perm t) : (rsOf c s).Perm (rsOf c t) := h.filterMap _
theorem netL_perm {c : Cat} {s t : List Nat} (h : s.Perm t) : netL c s = netL c t := by
  unfold netL
  exact List.map_congr_left (fun i _ => netF_perm i (rsOf_perm h))
theorem usL_sorted (c : Cat) : (usL c).Pairwise (· < ·) := List.Pairwise.filter _ List.pairwise_lt_range
theorem seqs_len (U : List Nat) (hU : U.length ≤ 6) : ∀ n, n ≤ 4 → (seqs U n).length ≤ n * 1296
  | 0, _ => by simp [seqs]
  | n + 1, h => by
    have ih := seqs_len U hU n (by omega)
    have h1 := ext_len (n + 1) U
    have h2 : U.length ^ (n + 1) ≤ 6 ^ 4 := Nat.le_trans (Nat.pow_le_pow_left hU _) (Nat.pow_le_pow_right (by omega) (by omega))
    rw [seqs_succ, List.length_append]
    omega
theorem shortest_found {c : Cat} {s : List Nat} (hr : c.rules.length ≤ 6) (h1 : 1 ≤ s.length) (h4 : s.length ≤ 4) (hs : ∀ x ∈ s, x ∈ usL c) (hg : gainS c s = true) :
    ∃ x, scan (gainS c) (seqs (usL c) s.length) 100000 = .found x ∧ 1 ≤ x.length ∧ x.length ≤ s.length ∧ gainS c x = true ∧ (∀ y ∈ x, y ∈ usL c) ∧ x.Pairwise (· ≤ ·) := by
  obtain ⟨t, ht, hp⟩ := ext_all (usL c) s hs
  have hgt : gainS c t = true := by unfold gainS at hg ⊢; rw [netL_perm hp]; exact hg
  have hU : (usL c).length ≤ 6 := Nat.le_trans (usT_len c c.rules.length) hr
  have hmem : t ∈ seqs (usL c) s.length := List.mem_flatMap.2 ⟨s.length - 1, List.mem_range.2 (by omega), by rw [show s.length - 1 + 1 = s.length by omega]; exact ht⟩
  have hl := seqs_len (usL c) hU s.length h4
  obtain ⟨x, hx, hgx, hsc⟩ := scan_found (gainS c) (seqs (usL c) s.length) 100000 ⟨t, hmem, hgt⟩ (by omega)
  obtain ⟨k, hk, hxk⟩ := List.mem_flatMap.1 hx
  rw [List.mem_range] at hk
  obtain ⟨e1, e2, e3⟩ := ext_mem hxk
  exact ⟨x, hsc, by omega, by omega, hgx, e2, e3 (usL_sorted c)⟩
theorem gainL_eq (c : Cat) (s : List Nat) : gainsB (netL c s) = gainS c s := rfl
set_option maxRecDepth 100000 in
set_option maxHeartbeats 4000000 in
theorem gainShortest_any (v1 : Value) (zs : List Int) (n1 : Nat) (v2 : Value) (ys : List Int) (n2 : Nat) (w : World) (h1 : IntsAt w v1 zs n1) (h2 : IntsAt w v2 ys n2) (hK : Kinds w) :
    Calls Tryd.prog 6 #[v1, v2] w fun e w' => e = .returned (.bool true) ∧ Below w.heap.size w w' := by
  have HI := Lib.hid h1
  have HV := Lib.hid (pickIs_of h2)
  have HP := Lib.hid (picks_of ys n2)
  have HK := Lib.hid hK
  have HB := Lib.hid (Below.refl w.heap.size w)
  obtain ⟨pk, hpk⟩ : ∃ pk, pkOf ys n2 = pk := ⟨_, rfl⟩
  obtain ⟨bal, hbal⟩ : ∃ bal, false = bal := ⟨_, rfl⟩
  rw [hpk] at HV HP
  clear h1 h2 hK hpk
  go_enter Tryd.func6, Tryd.ntmps6
  go_wp2_with fail
  rw [hbal]
  clear hbal
  refine (catalog_any _ zs n1 bal _ (HI.out.below (Nat.le_refl _) HB.out)).mono ?_
  rintro e w1 ⟨⟨vi, vr, rfl, hc⟩, hB⟩
  obtain ⟨c, hcc⟩ : ∃ c, genCat (pkOf zs n1) bal = c := ⟨_, rfl⟩
  have hf := genCat_fine (bal := bal) (picks_of zs n1)
  have hr6 := genCat_rules (bal := bal) (picks_of zs n1)
  rw [hcc] at hc hf hr6
  have HCC := Lib.hid hcc
  have HF := Lib.hid hf
  replace HB := Lib.hid (HB.out.trans (hB.mono HB.out.size))
  obtain ⟨ai, ci, rfl, hi1, hi2⟩ := hc.items.form
  obtain ⟨ar, cr, rfl, hr1, hr2⟩ := hc.rules.form
  have HC := Lib.hid hc
  have hli := hf.good.items
  have hl1 := hf.good.some_
  clear hcc hf hc hB
  unfold catV
  go_wp2_with fail
  obtain ⟨w2, hw⟩ : ∃ w2, w1.alloc (.cells #[.slice ai c.items.length ci, .slice ar c.rules.length cr, .slice none 0 0, .slice none 0 0] 29) = w2 := ⟨_, rfl⟩
  have hB : Below w1.heap.size w1 w2 := by rw [← hw]; exact (Below.refl _ _).alloc (Nat.le_refl _) _
  have HX : Hid (BoxC w2 w1.heap.size (.slice ai c.items.length ci) (.slice ar c.rules.length cr)) := Lib.hid (by rw [← hw]; exact BoxC.new _ _ _)
  replace HB := Lib.hid (HB.out.trans (hB.mono HB.out.size))
  replace HC := Lib.hid (HC.out.below hB)
  rw [hw]
  clear hB hw
  have m0 := HX.out.c0
  have m1 := HX.out.c1
  have m2 := HX.out.c2
  have m3 := HX.out.c3
  have mlt := HX.out.lt
  refine (sequence_any _ _ _ c pk 4 _ HC.out (by omega) HP.out (HV.out.below HB.out) (by omega)).mono ?_
  rintro e w3 ⟨⟨vs, s, rfl, hs, hs4, hsu⟩, hB⟩
  obtain ⟨sa, sc, rfl, hs1, hs2⟩ := hs.form
  have HS := Lib.hid hs
  have HU := Lib.hid (us_of (by omega) hsu)
  have HSU := Lib.hid hsu
  replace HB := Lib.hid (HB.out.trans (hB.mono HB.out.size))
  replace HX := Lib.hid (HX.out.below hB)
  replace HC := Lib.hid (HC.out.below hB)
  clear m0 m1 m2 m3 mlt
  have m0 := HX.out.c0
  have m1 := HX.out.c1
  have m2 := HX.out.c2
  have m3 := HX.out.c3
  have mlt := HX.out.lt
  clear hs hB hsu
  go_wp2_with fail
  refine (net_ok _ _ _ c s _ HC.out HF.out HS.out HU.out (HK.out.keep HB.out)).mono ?_
  rintro e w5 ⟨⟨vm, rfl, hm⟩, hB⟩
  have hnl : (netL c s).length = c.items.length := by simp [netL]
  obtain ⟨ma, mc, rfl, hm1, hm2⟩ := hm.form
  rw [hnl] at hm1 hm ⊢
  have HM := Lib.hid hm
  replace HB := Lib.hid (HB.out.trans (hB.mono HB.out.size))
  replace HX := Lib.hid (HX.out.below hB)
  replace HC := Lib.hid (HC.out.below hB)
  clear m0 m1 m2 m3 mlt
  have m0 := HX.out.c0
  have m1 := HX.out.c1
  have m2 := HX.out.c2
  have m3 := HX.out.c3
  have mlt := HX.out.lt
  replace HS := Lib.hid (HS.out.below hB)
  clear hm hB hnl
  by_cases h0 : s.length = 0
  · have q1 : ((s.length : Int) == 0) = true := by rw [h0]; rfl
    have q2 : (s.length == 0) = true := by rw [h0]; rfl
    go_wp2_with fail
    refine (lives_any _ (HK.out.keep HB.out)).mono ?_
    rintro e w9 ⟨rfl, hB⟩
    replace HB := Lib.hid (HB.out.trans (hB.mono HB.out.size))
    clear hB m0 m1 m2 m3
    go_wp2_with fail
    go_ret
    exact ⟨rfl, HB.out⟩
  · have q1 : ((s.length : Int) == 0) = false := by simp; intro h; apply h0; simp [h]
    have q2 : (s.length == 0) = false := by simpa using h0
    go_wp2_with fail
    refine (rgains_any _ _ _ HM.out).mono ?_
    rintro e w' ⟨rfl, rfl⟩
    rw [gainL_eq]
    by_cases hg : gainS c s = true
    · obtain ⟨x, hsc, hx1, hx2, hgx, hxu, hxs⟩ := shortest_found hr6 (by omega) hs4 HSU.out hg
      rw [hg]
      have hx64 : x.length ≤ 64 := by omega
      have HXU := Lib.hid (us_of hx64 hxu)
      have HXS := Lib.hid hxs
      have HCK : Hid (checkB c x (needL c x) (netL c x) = true) := Lib.hid (by
        unfold checkB
        have : x.isEmpty = false := by cases x; simp at hx1; rfl
        rw [this, hgx]
        simp)
      have hu16 : (usL c).length ≤ 16 := by have := usT_len c c.rules.length; show (usT c c.rules.length).length ≤ 16; omega
      have HFI := Lib.hid (find_main (.slice ai c.items.length ci) (.slice ar c.rules.length cr) c s.length 100000 w' HC.out HF.out (by omega) (by omega) hu16 (by decide) (by decide) (HK.out.keep HB.out))
      rw [hsc] at HFI
      clear hsc hg hgx hxu hxs HSU hu16
      go_wp2_with fail
      refine (callsIn_wide.1 HFI.out).mono ?_
      clear HFI
      rintro e w6 ⟨hB, y1, y2, y3, b, er, rfl, rfl, rfl, hy1, hy2, hy3⟩
      have hnl : (netL c x).length = c.items.length := by simp [netL]
      have hdl : (needL c x).length = c.items.length := by simp [needL]
      obtain ⟨a1, c1, rfl, hc11, hc12⟩ := hy1.form
      obtain ⟨a2, c2, rfl, hc21, hc22⟩ := hy2.form
      obtain ⟨a3, c3, rfl, hc31, hc32⟩ := hy3.form
      rw [hdl] at hc21 hy2 ⊢
      rw [hnl] at hc31 hy3 ⊢
      have H1 := Lib.hid hy1
      have H2 := Lib.hid hy2
      have H3 := Lib.hid hy3
      replace HB := Lib.hid (HB.out.trans (hB.mono HB.out.size))
      replace HX := Lib.hid (HX.out.below hB)
      replace HC := Lib.hid (HC.out.below hB)
      clear m0 m1 m2 m3 mlt
      have m0 := HX.out.c0
      have m1 := HX.out.c1
      have m2 := HX.out.c2
      have m3 := HX.out.c3
      have mlt := HX.out.lt
      clear hy1 hy2 hy3 hB hnl hdl
      have q3 : decide ((s.length : Int) < (x.length : Int)) = false := decide_eq_false (by omega)
      have q4 : decide (s.length < x.length) = false := decide_eq_false (by omega)
      go_wp2_with fail
      obtain ⟨w7, hw7⟩ : ∃ W, w6.alloc (.cells #[.slice a1 x.length c1, .slice a2 c.items.length c2, .slice a3 c.items.length c3] 39) = W := ⟨_, rfl⟩
      have hB : Below w6.heap.size w6 w7 := by rw [← hw7]; exact (Below.refl _ _).alloc (Nat.le_refl _) _
      have HY : Hid (BoxL w7 w6.heap.size (.slice a1 x.length c1) (.slice a2 c.items.length c2) (.slice a3 c.items.length c3)) := Lib.hid (by rw [← hw7]; exact BoxL.new _ _ _ _ _)
      replace HB := Lib.hid (HB.out.trans (hB.mono HB.out.size))
      replace HC := Lib.hid (HC.out.below hB)
      replace H1 := Lib.hid (H1.out.below hB)
      replace H2 := Lib.hid (H2.out.below hB)
      replace H3 := Lib.hid (H3.out.below hB)
      rw [hw7]
      clear hw7 hB m0 m1 m2 m3 mlt HX
      refine (check_ok _ _ _ _ _ c x (needL c x) (netL c x) _ HC.out HF.out H1.out H2.out H3.out HXU.out (HK.out.keep HB.out)).mono ?_
      rintro e w8 ⟨rfl, hB⟩
      rw [HCK.out]
      replace HB := Lib.hid (HB.out.trans (hB.mono HB.out.size))
      replace HY := Lib.hid (HY.out.below hB)
      replace H1 := Lib.hid (H1.out.below hB)
      clear hB H2 H3 HC
      go_wp2_with fail
      go_loopw [12] (fun i wr => ∃ k : Nat, 1 ≤ k ∧ k ≤ x.length ∧ i = .int .i64 k ∧ Hid (Below w8.heap.size w8 wr)) (fun i _ => x.length - (intOf i).toNat)
      case atStart => exact ⟨1, by omega, by omega, rfl, Lib.hid (Below.refl _ _)⟩
      case round =>
        obtain ⟨k, hk1, hk, rfl, HBl⟩ := hrel
        have hBl := HBl.out
        replace HB := Lib.hid (HB.out.trans (hBl.mono HB.out.size))
        replace HY := Lib.hid (HY.out.below hBl)
        replace H1 := Lib.hid (H1.out.below hBl)
        have l0 := HY.out.c0
        have llt := HY.out.lt
        clear hBl
        by_cases hlt : k < x.length
        · obtain ⟨k, rfl⟩ : ∃ j, k = j + 1 := ⟨k - 1, by omega⟩
          obtain ⟨b1, cp1, hv, hb1, x0⟩ := NatsOf.at_ H1.out (k + 1) hlt
          obtain ⟨b2, cp2, hv2, hb2, x1⟩ := NatsOf.at_ H1.out k (by omega)
          injection hv with e1 e2 e3
          injection hv2 with f1 f2 f3
          subst e1
          injection f1 with f1
          injection f1 with f1
          subst f1
          clear e2 e3 f2 f3
          have hle := List.pairwise_iff_getElem.1 HXS.out k (k + 1) (by omega) hlt (by omega)
          generalize x[k + 1] = ya at *
          generalize x[k] = yb at *
          have q5 : decide ((ya : Int) < (yb : Int)) = false := decide_eq_false (by omega)
          have q6 : IntKind.i64.wrap (((k + 1 : Nat) : Int) - 1) = (k : Int) := by rw [IntWalk.i64_in _ (by omega)]; omega
          have q7 : IntKind.i64.wrap ((k : Int) + 1 - 1) = (k : Int) := by rw [IntWalk.i64_in _ (by omega)]; omega
          have i1 : (k : Int) < (x.length : Int) := by omega
          have i2 : ((k + 1 : Nat) : Int) < (x.length : Int) := by omega
          have i3 : (k : Int) + 1 < (x.length : Int) := by omega
          go_wp2_with fail
          go_region
          go_wp2_with fail
          go_roundw
          case rel => exact ⟨k + 2, by omega, by omega, by go_num, Lib.hid HBl.out.drew⟩
          case measure => simp [intOf]; omega
        · have q1 : decide ((k : Int) < (x.length : Int)) = false := decide_eq_false (by omega)
          go_wp2_with fail
          refine (lives_any _ (HK.out.keep HB.out)).mono ?_
          rintro e w9 ⟨rfl, hB⟩
          replace HB := Lib.hid (HB.out.trans (hB.mono HB.out.size))
          go_wp2_with fail
          go_ret
          exact ⟨rfl, HB.out⟩
    · rw [Bool.not_eq_true] at hg
      rw [hg]
      go_wp2_with fail
      refine (lives_any _ (HK.out.keep HB.out)).mono ?_
      rintro e w9 ⟨rfl, hB⟩
      replace HB := Lib.hid (HB.out.trans (hB.mono HB.out.size))
      clear hB m0 m1 m2 m3
      go_wp2_with fail
      go_ret
      exact ⟨rfl, HB.out⟩
end Go.Proofs.YtfpcgjgkbniofaaDoor
