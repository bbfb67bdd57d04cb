/- worldmintlaw06.LatticeNormal. -/
import Derived.Test.YtlmbebbdamgfpaaQLMatr
import Derived.Test.YtlmbebbdamgfpaaQLRIsN
import Derived.Test.YtlmbebbdamgfpaaQLVect
import Derived.Test.YtlmbebbdamgfpaaQLSmP
set_option linter.unusedVariables false
set_option linter.unusedSimpArgs false
set_option linter.unusedVariables false
set_option linter.unusedSimpArgs false
namespace Go.Proofs.Ytlmbebbdamgfpaa
open Go.RowKit

theorem MatSpec.small {m : List (List Int)} (h : MatSpec m 20) : SmallM m 60 := by
 obtain ⟨c, hc, hr⟩ := h.cols
 refine ⟨h.rows, ?_, fun r hrm => cols_of hr r hrm, fun r hrm x hx => by have := h.ent r hrm x hx; omega⟩
 rcases Nat.eq_zero_or_pos m.length with h0 | h0
 ·rw [List.eq_nil_of_length_eq_zero h0]; exact Nat.zero_le _
 ·rw [cols_eq hr h0]; exact hc
theorem SmallM.fit {m : List (List Int)} {X : Nat} (h : SmallM m X) (hX : X ≤ 1099511627776) : ∀ r ∈ m, ∀ x ∈ r, -9223372036854775808 ≤ x ∧ x ≤ 9223372036854775807 := fun r hr x hx => by
 have := h.ent r hr x hx
 omega
theorem SmallM.times_le {m : List (List Int)} {v : List Int} (h : SmallM m 60) (hv : ∀ x ∈ v, -3 ≤ x ∧ x ≤ 3) : ∀ x ∈ timesL v m, -900 ≤ x ∧ x ≤ 900 := by
 intro x hx
 obtain ⟨j, hj, rfl⟩ := List.mem_iff_getElem.1 hx
 have h1 := extE_leV (V := 3) (fun x hx => by have := hv x hx; omega) h.ent m.length j (Nat.le_refl _)
 have h2 : m.length * (3 * 60) ≤ 5 * (3 * 60) := Nat.mul_le_mul_right _ h.rows
 have e : (timesL v m)[j] = extE v m m.length j := by simp [timesL]
 rw [e]
 omega

set_option maxRecDepth 100000 in
set_option maxHeartbeats 8000000 in
theorem latticeNormal_any (vl : Value) (zl : List Int) (nl : Nat) (vm : Value) (zm : List Int) (nm : Nat) (w0 : World) (hl : IntsAt w0 vl zl nl) (hm : IntsAt w0 vm zm nm) :
 Calls Try.prog 5 #[vl, vm] w0 fun e w' => e = .returned (.bool true) ∧ Below w0.heap.size w0 w' := by
 have HB := hZ (Below.refl w0.heap.size w0)
 have HL := hZ hl
 have HV := hZ hm
 clear hl hm
 go_enter Try.func5, Try.ntmps5
 go_wp2_with fail
 refine (matrix_any vl zl nl 20 w0 HL.o (by omega) (by omega)).mono ?_
 rintro e w1 ⟨m, u, rfl, hu, hS, hB⟩
 have HM := hZ hu
 have S := hZ hS.small
 replace HB := bT HB hB
 clear hu hS hB HL
 have HZ := hZ (S.o.chk (by omega))
 go_wp2_with fail
 refine (hermite_any w1 _ m HM.o).mono ?_
 rintro e w2 ⟨hB, ⟨hz, -⟩ | ⟨-, H1, k1, k2, k4, k3⟩⟩
 ·exact absurd HZ.o hz
 have HT1 := hZ (S.o.herm k1)
 obtain ⟨ua, rfl, hu⟩ := k3.fit (fit_top HT1.o)
 have MH' := hZ hu
 have K1 := hZ (And.intro k1 (And.intro k2 k4))
 clear k1 k2 k3 k4 hu
 replace HM := hZ (HM.o.blw hB)
 replace HB := bT HB hB
 clear hB
 have MH := MH'
 clear MH'
 go_wp2_with fail
 refine (kernel_any w2 _ m HM.o).mono ?_
 rintro e w3 ⟨hB, ⟨hz, -⟩ | ⟨-, H2, k1, k2, k4, k3⟩⟩
 ·exact absurd HZ.o hz
 have HT2 := hZ (S.o.ker k1)
 obtain ⟨uk, rfl, hu⟩ := k3.fit (fit_top HT2.o)
 have MK' := hZ hu
 have K2 := hZ (And.intro k1 (And.intro k2 k4))
 clear k1 k2 k3 k4 hu
 replace HM := hZ (HM.o.blw hB)
 replace MH := hZ (MH.o.blw hB)
 replace HB := bT HB hB
 clear hB
 have MK := MK'
 clear MK'
 go_wp2_with fail
 have HZ2 : Hid (checkZ H1 = 0) := hZ (top_chk (by have := K1.o.2.2; have := S.o.rows; omega) (by have := S.o.cols; omega) K1.o.2.1 HT1.o)
 refine (hermite_any w3 _ H1 MH.o).mono ?_
 rintro e w4 ⟨hB, ⟨hz, -⟩ | ⟨-, H3, k1, k2, k4, k3⟩⟩
 ·exact absurd HZ2.o hz
 obtain rfl : H3 = H1 := norm_again K1.o.1.nrm K1.o.2.1 k1 k2 k4
 obtain ⟨ug, rfl, hu⟩ := k3.fit (fit_top HT1.o)
 have MG' := hZ hu
 clear k1 k2 k3 k4 hu
 replace HM := hZ (HM.o.blw hB)
 replace MH := hZ (MH.o.blw hB)
 replace MK := hZ (MK.o.blw hB)
 replace HB := bT HB hB
 clear hB
 have MG := MG'
 clear MG'
 obtain ⟨am, cm, rfl, q1, q2⟩ := HM.o.form
 have HRows := hZ S.o.rows
 have HN1 := hZ (nrm_isN K1.o.2.1 K1.o.1.nrm)
 have HN2 := hZ (nrm_isN K2.o.2.1 K2.o.1.nrm)
 have Hc5 := hZ S.o.cols
 obtain ⟨n, hn⟩ : ∃ n, colsOf m = n := ⟨_, rfl⟩
 have Hn := hZ hn
 clear hn
 by_cases h0 : m.length = 0
 ·skip
  have z1 : ¬ (0 : Int) < (m.length : Int) := by omega
  have z2 : ¬ 0 < m.length := by omega
  have hm0 : m = [] := List.eq_nil_of_length_eq_zero h0
  obtain rfl : n = 0 := by rw [← Hn.o, hm0]; rfl
  clear hm0
  have H0 := hZ h0
  clear h0
  go_wp2_with fail
  refine (risn_any w4 _ H3 0 MH.o (by have := K1.o.2.2; have := HRows.o; omega) (by have := Hc5.o; have := Hn.o; omega)).mono ?_
  rintro e w5 ⟨hB, tb, rfl, htb⟩
  obtain rfl : tb = true := htb.2 (by have h9 := HN1.o; rw [Hn.o] at h9; exact h9)
  clear htb
  replace HM := hZ (HM.o.blw hB)
  replace MH := hZ (MH.o.blw hB)
  replace MK := hZ (MK.o.blw hB)
  replace MG := hZ (MG.o.blw hB)
  replace HB := bT HB hB
  clear hB
  go_wp2_with fail
  refine (risn_any w5 _ H2 m.length MK.o (by have := K2.o.2.2; have := HRows.o; omega) (by have := HRows.o; omega)).mono ?_
  rintro e w6 ⟨hB, tb, rfl, htb⟩
  obtain rfl : tb = true := htb.2 HN2.o
  clear htb
  replace HM := hZ (HM.o.blw hB)
  replace MH := hZ (MH.o.blw hB)
  replace MK := hZ (MK.o.blw hB)
  replace MG := hZ (MG.o.blw hB)
  replace HB := bT HB hB
  clear hB
  go_wp2_with fail
  refine (same_any _ _ _ _ w6 MG.o MH.o).mono ?_
  rintro e w7 ⟨rfl, hB⟩
  rw [decide_eq_true rfl]
  replace HM := hZ (HM.o.blw hB)
  replace MH := hZ (MH.o.blw hB)
  replace MK := hZ (MK.o.blw hB)
  replace MG := hZ (MG.o.blw hB)
  replace HB := bT HB hB
  clear hB
  go_wp2_with fail
  go_loopw [13] (fun i wr => ∃ j : Nat, j ≤ m.length ∧ i = .int .i64 j ∧ Hid (MatAt wr (.slice am m.length cm) m) ∧ Hid (MatAt wr ua H3) ∧ Hid (Below w0.heap.size w0 wr)) (fun i _ => m.length - (intOf i).toNat)
  case atStart => exact ⟨0, by omega, rfl, HM, MH, HB⟩
  case round =>
   clear HM MH MK MG HB
   obtain ⟨j, hj, rfl, HM, MH, HB⟩ := hrel
   obtain ⟨w7, rfl⟩ : ∃ w' : World, w' = wr := ⟨_, rfl⟩
   by_cases hlt : j < m.length
   ·skip
    have j1 : (0 : Int) ≤ (j : Int) := by omega
    have j2 : (j : Int) < (m.length : Int) := by omega
    obtain ⟨b0, cap0, a0, c0, hv0, hb0, n0, HR0, g0, g00⟩ := HM.o.at_ j hlt
    injection hv0 with f1 f2 f3
    first | subst f1 | (injection f1 with f1; injection f1 with f1; subst f1)
    clear f2 f3
    have HR0 := hZ HR0
    have HE0 : Hid ((m[j]'hlt) ∈ m) := hZ (List.getElem_mem _)
    generalize m[j]'hlt = r0 at *
    go_wp2_with fail
    clear n0
    refine (in_any w7 _ _ H3 r0 MH.o HR0.o (fit_top HT1.o) (fun x hx => S.o.fit (by omega) r0 HE0.o x hx)).mono ?_
    rintro e w8 ⟨hB, tb, rfl, htb⟩
    obtain rfl : tb = true := htb.2 (herm_in (by have := K1.o.2.2; have := HRows.o; omega) (by have := Hc5.o; omega) K1.o.2.1 K1.o.1 (S.o.even _ HE0.o) (InSpan.mem (List.mem_map.2 ⟨r0, HE0.o, rfl⟩)))
    clear htb
    replace HM := hZ (HM.o.blw hB)
    replace MH := hZ (MH.o.blw hB)
    replace HB := bT HB hB
    clear hB
    go_wp2_with fail
    go_roundw
    case rel => exact ⟨j + 1, by omega, by go_num, HM, MH, HB⟩
    case measure => simp [intOf]; omega
   ·skip
    obtain rfl : j = m.length := by omega
    go_wp2_with fail
    refine (vector_any vm zm nm m.length w7 (HV.o.below (Nat.le_refl _) HB.o) (by have := HRows.o; omega)).mono ?_
    rintro e w8 ⟨hB, uv, lv, rfl, hu, hlv, hev⟩
    have HU' := hZ hu
    have HLv := hZ (And.intro hlv hev)
    clear hu hlv hev
    replace HM := hZ (HM.o.blw hB)
    replace MH := hZ (MH.o.blw hB)
    replace HB := bT HB hB
    clear hB
    have HU := HU'
    clear HU'
    go_wp2_with fail
    refine (rtimes_any w8 _ _ lv m 3 60 HM.o HU.o HLv.o.1 S.o.even (by have := HRows.o; omega) (by have := Hc5.o; omega) (fun x hx => by have := HLv.o.2 x hx; omega) S.o.ent (by have := HRows.o; omega)).mono ?_
    rintro e w9 ⟨hB, ut, rfl, hu⟩
    have HT' := hZ hu
    clear hu
    replace HM := hZ (HM.o.blw hB)
    replace MH := hZ (MH.o.blw hB)
    replace HU := hZ (HU.o.blw hB)
    replace HB := bT HB hB
    clear hB
    have HTm := HT'
    clear HT'
    go_wp2_with fail
    refine (in_any w9 _ _ H3 (timesL lv m) MH.o HTm.o (fit_top HT1.o) (fun x hx => by have := S.o.times_le HLv.o.2 x hx; omega)).mono ?_
    rintro e w10 ⟨hB, tb, rfl, htb⟩
    obtain rfl : tb = true := htb.2 (herm_in (by have := K1.o.2.2; have := HRows.o; omega) (by have := Hc5.o; omega) K1.o.2.1 K1.o.1 (timesL_len _ _) (times_span S.o.even))
    clear htb
    replace HM := hZ (HM.o.blw hB)
    replace MH := hZ (MH.o.blw hB)
    replace HU := hZ (HU.o.blw hB)
    replace HTm := hZ (HTm.o.blw hB)
    replace HB := bT HB hB
    clear hB
    go_wp2_with fail
    refine (lives_any w10).mono ?_
    rintro e w11 ⟨rfl, hB⟩
    replace HM := hZ (HM.o.blw hB)
    replace MH := hZ (MH.o.blw hB)
    replace HU := hZ (HU.o.blw hB)
    replace HTm := hZ (HTm.o.blw hB)
    replace HB := bT HB hB
    clear hB
    go_wp2_with fail
    go_ret
    exact ⟨rfl, HB.o⟩
 ·skip
  have z1 : (0 : Int) < (m.length : Int) := by omega
  obtain ⟨b0, cap0, a0, c0, hv0, hb0, n0, -, -, -⟩ := HM.o.at_ 0 (by omega)
  injection hv0 with f1 f2 f3
  subst f1
  clear f2 f3
  rw [show (m[0]'(by omega)).length = n from by rw [S.o.even _ (List.getElem_mem _), Hn.o]] at n0
  go_wp2_with fail
  clear n0
  refine (risn_any w4 _ H3 n MH.o (by have := K1.o.2.2; have := HRows.o; omega) (by have := Hc5.o; have := Hn.o; omega)).mono ?_
  rintro e w5 ⟨hB, tb, rfl, htb⟩
  obtain rfl : tb = true := htb.2 (by have h9 := HN1.o; rw [Hn.o] at h9; exact h9)
  clear htb
  replace HM := hZ (HM.o.blw hB)
  replace MH := hZ (MH.o.blw hB)
  replace MK := hZ (MK.o.blw hB)
  replace MG := hZ (MG.o.blw hB)
  replace HB := bT HB hB
  clear hB
  go_wp2_with fail
  refine (risn_any w5 _ H2 m.length MK.o (by have := K2.o.2.2; have := HRows.o; omega) (by have := HRows.o; omega)).mono ?_
  rintro e w6 ⟨hB, tb, rfl, htb⟩
  obtain rfl : tb = true := htb.2 HN2.o
  clear htb
  replace HM := hZ (HM.o.blw hB)
  replace MH := hZ (MH.o.blw hB)
  replace MK := hZ (MK.o.blw hB)
  replace MG := hZ (MG.o.blw hB)
  replace HB := bT HB hB
  clear hB
  go_wp2_with fail
  refine (same_any _ _ _ _ w6 MG.o MH.o).mono ?_
  rintro e w7 ⟨rfl, hB⟩
  rw [decide_eq_true rfl]
  replace HM := hZ (HM.o.blw hB)
  replace MH := hZ (MH.o.blw hB)
  replace MK := hZ (MK.o.blw hB)
  replace MG := hZ (MG.o.blw hB)
  replace HB := bT HB hB
  clear hB
  go_wp2_with fail
  go_loopw [13] (fun i wr => ∃ j : Nat, j ≤ m.length ∧ i = .int .i64 j ∧ Hid (MatAt wr (.slice (some ⟨b0, 0, none⟩) m.length cm) m) ∧ Hid (MatAt wr ua H3) ∧ Hid (Below w0.heap.size w0 wr)) (fun i _ => m.length - (intOf i).toNat)
  case atStart => exact ⟨0, by omega, rfl, HM, MH, HB⟩
  case round =>
   clear HM MH MK MG HB
   obtain ⟨j, hj, rfl, HM, MH, HB⟩ := hrel
   obtain ⟨w7, rfl⟩ : ∃ w' : World, w' = wr := ⟨_, rfl⟩
   by_cases hlt : j < m.length
   ·skip
    have j1 : (0 : Int) ≤ (j : Int) := by omega
    have j2 : (j : Int) < (m.length : Int) := by omega
    obtain ⟨b0, cap0, a0, c0, hv0, hb0, n0, HR0, g0, g00⟩ := HM.o.at_ j hlt
    injection hv0 with f1 f2 f3
    first | subst f1 | (injection f1 with f1; injection f1 with f1; subst f1)
    clear f2 f3
    have HR0 := hZ HR0
    have HE0 : Hid ((m[j]'hlt) ∈ m) := hZ (List.getElem_mem _)
    generalize m[j]'hlt = r0 at *
    go_wp2_with fail
    clear n0
    refine (in_any w7 _ _ H3 r0 MH.o HR0.o (fit_top HT1.o) (fun x hx => S.o.fit (by omega) r0 HE0.o x hx)).mono ?_
    rintro e w8 ⟨hB, tb, rfl, htb⟩
    obtain rfl : tb = true := htb.2 (herm_in (by have := K1.o.2.2; have := HRows.o; omega) (by have := Hc5.o; omega) K1.o.2.1 K1.o.1 (S.o.even _ HE0.o) (InSpan.mem (List.mem_map.2 ⟨r0, HE0.o, rfl⟩)))
    clear htb
    replace HM := hZ (HM.o.blw hB)
    replace MH := hZ (MH.o.blw hB)
    replace HB := bT HB hB
    clear hB
    go_wp2_with fail
    go_roundw
    case rel => exact ⟨j + 1, by omega, by go_num, HM, MH, HB⟩
    case measure => simp [intOf]; omega
   ·skip
    obtain rfl : j = m.length := by omega
    go_wp2_with fail
    refine (vector_any vm zm nm m.length w7 (HV.o.below (Nat.le_refl _) HB.o) (by have := HRows.o; omega)).mono ?_
    rintro e w8 ⟨hB, uv, lv, rfl, hu, hlv, hev⟩
    have HU' := hZ hu
    have HLv := hZ (And.intro hlv hev)
    clear hu hlv hev
    replace HM := hZ (HM.o.blw hB)
    replace MH := hZ (MH.o.blw hB)
    replace HB := bT HB hB
    clear hB
    have HU := HU'
    clear HU'
    go_wp2_with fail
    refine (rtimes_any w8 _ _ lv m 3 60 HM.o HU.o HLv.o.1 S.o.even (by have := HRows.o; omega) (by have := Hc5.o; omega) (fun x hx => by have := HLv.o.2 x hx; omega) S.o.ent (by have := HRows.o; omega)).mono ?_
    rintro e w9 ⟨hB, ut, rfl, hu⟩
    have HT' := hZ hu
    clear hu
    replace HM := hZ (HM.o.blw hB)
    replace MH := hZ (MH.o.blw hB)
    replace HU := hZ (HU.o.blw hB)
    replace HB := bT HB hB
    clear hB
    have HTm := HT'
    clear HT'
    go_wp2_with fail
    refine (in_any w9 _ _ H3 (timesL lv m) MH.o HTm.o (fit_top HT1.o) (fun x hx => by have := S.o.times_le HLv.o.2 x hx; omega)).mono ?_
    rintro e w10 ⟨hB, tb, rfl, htb⟩
    obtain rfl : tb = true := htb.2 (herm_in (by have := K1.o.2.2; have := HRows.o; omega) (by have := Hc5.o; omega) K1.o.2.1 K1.o.1 (timesL_len _ _) (times_span S.o.even))
    clear htb
    replace HM := hZ (HM.o.blw hB)
    replace MH := hZ (MH.o.blw hB)
    replace HU := hZ (HU.o.blw hB)
    replace HTm := hZ (HTm.o.blw hB)
    replace HB := bT HB hB
    clear hB
    go_wp2_with fail
    refine (lives_any w10).mono ?_
    rintro e w11 ⟨rfl, hB⟩
    replace HM := hZ (HM.o.blw hB)
    replace MH := hZ (MH.o.blw hB)
    replace HU := hZ (HU.o.blw hB)
    replace HTm := hZ (HTm.o.blw hB)
    replace HB := bT HB hB
    clear hB
    go_wp2_with fail
    go_ret
    exact ⟨rfl, HB.o⟩
end Go.Proofs.Ytlmbebbdamgfpaa
