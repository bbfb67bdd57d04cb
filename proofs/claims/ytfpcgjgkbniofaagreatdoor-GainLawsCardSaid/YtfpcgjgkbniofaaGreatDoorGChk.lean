/- SameInts, slices.Equal. -/
import Derived.Test.YtfpcgjgkbniofaaGreatDoorGFind
set_option linter.unusedVariables false
set_option linter.unusedSimpArgs false
namespace Go.Proofs.YtfpcgjgkbniofaaGreatDoor
open Go.RowKit

set_option maxHeartbeats 2000000 in
theorem sameInts_any (v1 v2 : Value) (l1 l2 : List Int) (w : World) (h1 : IntsOf w v1 l1) (h2 : IntsOf w v2 l2) : Calls Tryz.prog 14 #[v1, v2] w fun e w' => e = .returned (.bool (decide (l1 = l2))) ∧ Below w.heap.size w w' := by
  have H1 := Lib.hid h1
  have H2 := Lib.hid h2
  obtain ⟨a1, c1, rfl, b1, b2⟩ := h1.form
  obtain ⟨a2, c2, rfl, b3, b4⟩ := h2.form
  clear h1 h2
  by_cases hl : l1.length = l2.length
  · have q1 : ((l1.length : Int) == (l2.length : Int)) = true := by simp [hl]
    have q2 : ((l1.length : Int) != (l2.length : Int)) = false := by simp [hl]
    have q3 : (l1.length == l2.length) = true := by simp [hl]
    have q4 : (l1.length != l2.length) = false := by simp [hl]
    have HL := Lib.hid hl
    clear hl
    go_enter Tryz.func14, Tryz.ntmps14
    go_wp2_with fail
    go_loopw [5] (fun i wr => ∃ j : Nat, j ≤ l1.length ∧ i = .int .i64 j ∧ Hid (l1.take j = l2.take j) ∧ Hid (Below w.heap.size w wr)) (fun i _ => l1.length - (intOf i).toNat)
    case atStart => exact ⟨0, by omega, rfl, Lib.hid rfl, Lib.hid (Below.refl _ _)⟩
    case round =>
      obtain ⟨j, hj, rfl, HT, HB⟩ := hrel
      by_cases hlt : j < l1.length
      · have hlt2 : j < l2.length := by have := HL.out; omega
        obtain ⟨d1, e1, hv1, hb1, n1⟩ := IntsOf.at_ (H1.out.below HB.out) j hlt
        obtain ⟨d2, e2, hv2, hb2, n2⟩ := IntsOf.at_ (H2.out.below HB.out) j hlt2
        injection hv1 with f1 f2 f3
        injection hv2 with g1 g2 g3
        subst f1 g1
        clear f2 f3 g2 g3
        have HT1 : Hid (l1.take (j + 1) = l1.take j ++ [l1[j]]) := Lib.hid (List.take_succ_eq_append_getElem hlt)
        have HT2 : Hid (l2.take (j + 1) = l2.take j ++ [l2[j]]) := Lib.hid (List.take_succ_eq_append_getElem hlt2)
        have HNo : Hid (l1[j] ≠ l2[j] → ¬ l1 = l2) := Lib.hid (fun h e => h (by subst e; rfl))
        generalize l1[j] = x1 at *
        generalize l2[j] = x2 at *
        have i1 : (0 : Int) ≤ (j : Int) := by omega
        have i2 : (j : Int) < (l1.length : Int) := by omega
        have i3 : (j : Int) < (l2.length : Int) := by omega
        by_cases hx : x1 = x2
        · have r1 : (x1 == x2) = true := by simp [hx]
          have r2 : (x1 != x2) = false := by simp [hx]
          have HX := Lib.hid hx
          clear hx
          go_wp2_with fail
          go_region
          go_wp2_with fail
          go_roundw
          case rel => exact ⟨j + 1, by omega, by go_num, Lib.hid (by rw [HT1.out, HT2.out, HT.out, HX.out]), Lib.hid HB.out.drew⟩
          case measure => simp [intOf]; omega
        · have r1 : (x1 == x2) = false := by simp [hx]
          have r2 : (x1 != x2) = true := by simp [hx]
          have HX := Lib.hid (decide_eq_false (HNo.out hx))
          clear hx
          go_wp2_with fail
          go_region
          go_wp2_with fail
          go_ret
          exact ⟨by rw [HX.out]; rfl, HB.out.drew⟩
      · have h9 := HT.out
        rw [List.take_of_length_le (show l1.length ≤ j by omega), List.take_of_length_le (show l2.length ≤ j by have := HL.out; omega)] at h9
        have HX := Lib.hid (decide_eq_true h9)
        clear h9
        go_wp2_with fail
        go_ret
        exact ⟨by rw [HX.out]; rfl, HB.out⟩
  · have q1 : ((l1.length : Int) == (l2.length : Int)) = false := by simp; omega
    have q2 : ((l1.length : Int) != (l2.length : Int)) = true := by simp; omega
    have q3 : (l1.length == l2.length) = false := by simpa using hl
    have q4 : (l1.length != l2.length) = true := by simpa using hl
    have HX : Hid (decide (l1 = l2) = false) := Lib.hid (decide_eq_false (fun e => hl (by rw [e])))
    clear hl
    go_enter Tryz.func14, Tryz.ntmps14
    go_wp2_with fail
    go_ret
    exact ⟨by rw [HX.out]; rfl, Below.refl _ _⟩

set_option maxHeartbeats 2000000 in
theorem equal_any (v1 v2 : Value) (l1 l2 : List Int) (w : World) (h1 : IntsOf w v1 l1) (h2 : IntsOf w v2 l2) : Calls Tryz.prog 47 #[v1, v2] w fun e w' => e = .returned (.bool (decide (l1 = l2))) ∧ Below w.heap.size w w' := by
  have H1 := Lib.hid h1
  have H2 := Lib.hid h2
  obtain ⟨a1, c1, rfl, b1, b2⟩ := h1.form
  obtain ⟨a2, c2, rfl, b3, b4⟩ := h2.form
  clear h1 h2
  by_cases hl : l1.length = l2.length
  · have q1 : ((l1.length : Int) == (l2.length : Int)) = true := by simp [hl]
    have q2 : ((l1.length : Int) != (l2.length : Int)) = false := by simp [hl]
    have q3 : (l1.length == l2.length) = true := by simp [hl]
    have q4 : (l1.length != l2.length) = false := by simp [hl]
    have HL := Lib.hid hl
    clear hl
    go_enter Tryz.func47, Tryz.ntmps47
    go_wp2_with fail
    go_loopw [13] (fun i wr => ∃ j : Nat, j ≤ l1.length ∧ i = .int .i64 j ∧ Hid (l1.take j = l2.take j) ∧ Hid (Below w.heap.size w wr)) (fun i _ => l1.length - (intOf i).toNat)
    case atStart => exact ⟨0, by omega, rfl, Lib.hid rfl, Lib.hid (Below.refl _ _)⟩
    case round =>
      obtain ⟨j, hj, rfl, HT, HB⟩ := hrel
      by_cases hlt : j < l1.length
      · have hlt2 : j < l2.length := by have := HL.out; omega
        obtain ⟨d1, e1, hv1, hb1, n1⟩ := IntsOf.at_ (H1.out.below HB.out) j hlt
        obtain ⟨d2, e2, hv2, hb2, n2⟩ := IntsOf.at_ (H2.out.below HB.out) j hlt2
        injection hv1 with f1 f2 f3
        injection hv2 with g1 g2 g3
        subst f1 g1
        clear f2 f3 g2 g3
        have HT1 : Hid (l1.take (j + 1) = l1.take j ++ [l1[j]]) := Lib.hid (List.take_succ_eq_append_getElem hlt)
        have HT2 : Hid (l2.take (j + 1) = l2.take j ++ [l2[j]]) := Lib.hid (List.take_succ_eq_append_getElem hlt2)
        have HNo : Hid (l1[j] ≠ l2[j] → ¬ l1 = l2) := Lib.hid (fun h e => h (by subst e; rfl))
        generalize l1[j] = x1 at *
        generalize l2[j] = x2 at *
        have i1 : (0 : Int) ≤ (j : Int) := by omega
        have i2 : (j : Int) < (l1.length : Int) := by omega
        have i3 : (j : Int) < (l2.length : Int) := by omega
        by_cases hx : x1 = x2
        · have r1 : (x1 == x2) = true := by simp [hx]
          have r2 : (x1 != x2) = false := by simp [hx]
          have HX := Lib.hid hx
          clear hx
          go_wp2_with fail
          go_region
          go_wp2_with fail
          go_roundw
          case rel => exact ⟨j + 1, by omega, by go_num, Lib.hid (by rw [HT1.out, HT2.out, HT.out, HX.out]), Lib.hid HB.out.drew⟩
          case measure => simp [intOf]; omega
        · have r1 : (x1 == x2) = false := by simp [hx]
          have r2 : (x1 != x2) = true := by simp [hx]
          have HX := Lib.hid (decide_eq_false (HNo.out hx))
          clear hx
          go_wp2_with fail
          go_region
          go_wp2_with fail
          go_ret
          exact ⟨by rw [HX.out]; rfl, HB.out.drew⟩
      · have h9 := HT.out
        rw [List.take_of_length_le (show l1.length ≤ j by omega), List.take_of_length_le (show l2.length ≤ j by have := HL.out; omega)] at h9
        have HX := Lib.hid (decide_eq_true h9)
        clear h9
        go_wp2_with fail
        go_ret
        exact ⟨by rw [HX.out]; rfl, HB.out⟩
  · have q1 : ((l1.length : Int) == (l2.length : Int)) = false := by simp; omega
    have q2 : ((l1.length : Int) != (l2.length : Int)) = true := by simp; omega
    have q3 : (l1.length == l2.length) = false := by simpa using hl
    have q4 : (l1.length != l2.length) = true := by simpa using hl
    have HX : Hid (decide (l1 = l2) = false) := Lib.hid (decide_eq_false (fun e => hl (by rw [e])))
    clear hl
    go_enter Tryz.func47, Tryz.ntmps47
    go_wp2_with fail
    go_ret
    exact ⟨by rw [HX.out]; rfl, Below.refl _ _⟩
end Go.Proofs.YtfpcgjgkbniofaaGreatDoor
