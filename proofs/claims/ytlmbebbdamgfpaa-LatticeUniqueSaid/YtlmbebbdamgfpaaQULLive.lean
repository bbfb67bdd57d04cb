/- worldmintlaw06.lives. -/
import Derived.Test.YtlmbebbdamgfpaaQULMat
import Derived.Test.YtlmbebbdamgfpaaQURegLate
import Derived.Test.YtlmbebbdamgfpaaQULKer
import Derived.Test.YtlmbebbdamgfpaaQULIn
import Derived.Test.YtlmbebbdamgfpaaQULLiveP
set_option linter.unusedVariables false
set_option linter.unusedSimpArgs false
set_option linter.unusedVariables false
set_option linter.unusedSimpArgs false
namespace Go.Proofs.Ytlmbebbdamgfpaa
open Go.RowKit

set_option maxHeartbeats 2000000 in
theorem sameInts_any (v1 v2 : Value) (l1 l2 : List Int) (w : World) (h1 : IntsOf w v1 l1) (h2 : IntsOf w v2 l2) : Calls Try.prog 38 #[v1, v2] w fun e w' => e = .returned (.bool (decide (l1 = l2))) ∧ Below w.heap.size w w' := by
 have H1 := hZ h1
 have H2 := hZ h2
 obtain ⟨a1, c1, rfl, b1, b2⟩ := h1.form
 obtain ⟨a2, c2, rfl, b3, b4⟩ := h2.form
 clear h1 h2
 by_cases hl : l1.length = l2.length
 ·have q1 : ((l1.length : Int) == (l2.length : Int)) = true := by simp [hl]
  have q2 : ((l1.length : Int) != (l2.length : Int)) = false := by simp [hl]
  have q3 : (l1.length == l2.length) = true := by simp [hl]
  have q4 : (l1.length != l2.length) = false := by simp [hl]
  have HL := hZ hl
  clear hl
  go_enter Try.func38, Try.ntmps38
  go_wp2_with fail
  go_loopw [5] (fun i wr => ∃ j : Nat, j ≤ l1.length ∧ i = .int .i64 j ∧ Hid (l1.take j = l2.take j) ∧ Hid (Below w.heap.size w wr)) (fun i _ => l1.length - (intOf i).toNat)
  case atStart => exact ⟨0, by omega, rfl, hZ rfl, hZ (Below.refl _ _)⟩
  case round =>
   obtain ⟨j, hj, rfl, HT, HB⟩ := hrel
   by_cases hlt : j < l1.length
   ·have hlt2 : j < l2.length := by have := HL.o; omega
    obtain ⟨d1, e1, hv1, hb1, n1⟩ := IntsOf.at_ (H1.o.below HB.o) j hlt
    obtain ⟨d2, e2, hv2, hb2, n2⟩ := IntsOf.at_ (H2.o.below HB.o) j hlt2
    injection hv1 with f1 f2 f3
    injection hv2 with g1 g2 g3
    subst f1 g1
    clear f2 f3 g2 g3
    have HT1 : Hid (l1.take (j + 1) = l1.take j ++ [l1[j]]) := hZ (List.take_succ_eq_append_getElem hlt)
    have HT2 : Hid (l2.take (j + 1) = l2.take j ++ [l2[j]]) := hZ (List.take_succ_eq_append_getElem hlt2)
    have HNo : Hid (l1[j] ≠ l2[j] → ¬ l1 = l2) := hZ (fun h e => h (by subst e; rfl))
    generalize l1[j] = x1 at *
    generalize l2[j] = x2 at *
    have i1 : (0 : Int) ≤ (j : Int) := by omega
    have i2 : (j : Int) < (l1.length : Int) := by omega
    have i3 : (j : Int) < (l2.length : Int) := by omega
    by_cases hx : x1 = x2
    ·have r1 : (x1 == x2) = true := by simp [hx]
     have r2 : (x1 != x2) = false := by simp [hx]
     have HX := hZ hx
     clear hx
     go_wp2_with fail
     go_region
     go_wp2_with fail
     go_roundw
     case rel => exact ⟨j + 1, by omega, by go_num, hZ (by rw [HT1.o, HT2.o, HT.o, HX.o]), hZ HB.o.drew⟩
     case measure => simp [intOf]; omega
    ·have r1 : (x1 == x2) = false := by simp [hx]
     have r2 : (x1 != x2) = true := by simp [hx]
     have HX := hZ (decide_eq_false (HNo.o hx))
     clear hx
     go_wp2_with fail
     go_region
     go_wp2_with fail
     go_ret
     exact ⟨by rw [HX.o]; rfl, HB.o.drew⟩
   ·have h9 := HT.o
    rw [List.take_of_length_le (show l1.length ≤ j by omega), List.take_of_length_le (show l2.length ≤ j by have := HL.o; omega)] at h9
    have HX := hZ (decide_eq_true h9)
    clear h9
    go_wp2_with fail
    go_ret
    exact ⟨by rw [HX.o]; rfl, HB.o⟩
 ·have q1 : ((l1.length : Int) == (l2.length : Int)) = false := by simp; omega
  have q2 : ((l1.length : Int) != (l2.length : Int)) = true := by simp; omega
  have q3 : (l1.length == l2.length) = false := by simpa using hl
  have q4 : (l1.length != l2.length) = true := by simpa using hl
  have HX : Hid (decide (l1 = l2) = false) := hZ (decide_eq_false (fun e => hl (by rw [e])))
  clear hl
  go_enter Try.func38, Try.ntmps38
  go_wp2_with fail
  go_ret
  exact ⟨by rw [HX.o]; rfl, Below.refl _ _⟩

set_option maxHeartbeats 4000000 in
theorem same_any (v1 v2 : Value) (A B : List (List Int)) (w0 : World) (h1 : MatAt w0 v1 A) (h2 : MatAt w0 v2 B) : Calls Try.prog 16 #[v1, v2] w0 fun e w' => e = .returned (.bool (decide (A = B))) ∧ Below w0.heap.size w0 w' := by
 have H1 := hZ h1
 have H2 := hZ h2
 have HB := hZ (Below.refl w0.heap.size w0)
 obtain ⟨a1, c1, rfl, b1, b2⟩ := h1.form
 obtain ⟨a2, c2, rfl, b3, b4⟩ := h2.form
 clear h1 h2
 by_cases hl : A.length = B.length
 rotate_left
 ·have q1 : ((A.length : Int) == (B.length : Int)) = false := by rw [beq_eq_false_iff_ne]; omega
  have q2 : ((A.length : Int) != (B.length : Int)) = true := by simp; omega
  have q3 : (A.length == B.length) = false := by rw [beq_eq_false_iff_ne]; omega
  have q4 : (A.length != B.length) = true := by simp; omega
  have HN := hZ (decide_eq_false (show ¬ A = B from fun e => hl (by rw [e])))
  go_enter Try.func16, Try.ntmps16
  go_wp2_with fail
  go_ret
  exact ⟨by rw [HN.o]; rfl, HB.o⟩
 have q1 : ((A.length : Int) == (B.length : Int)) = true := by simp [hl]
 have q2 : ((A.length : Int) != (B.length : Int)) = false := by simp [hl]
 have q3 : (A.length == B.length) = true := by simp [hl]
 have q4 : (A.length != B.length) = false := by simp [hl]
 have HL := hZ hl
 clear hl
 go_enter Try.func16, Try.ntmps16
 go_wp2_with fail
 go_loopw [5] (fun i wr => ∃ j : Nat, j ≤ A.length ∧ i = .int .i64 j ∧ Hid (A.take j = B.take j) ∧ Hid (Below w0.heap.size w0 wr)) (fun i _ => A.length - (intOf i).toNat)
 case atStart => exact ⟨0, by omega, rfl, hZ rfl, HB⟩
 case round =>
  clear HB
  obtain ⟨j, hj, rfl, HT, HB⟩ := hrel
  obtain ⟨w1, rfl⟩ : ∃ w' : World, w' = wr := ⟨_, rfl⟩
  by_cases hlt : j < A.length
  rotate_left
  ·have HA : Hid (A = B) := hZ (by have h1 := HT.o; have h2 := HL.o; rwa [List.take_of_length_le (by omega), List.take_of_length_le (by omega)] at h1)
   go_wp2_with fail
   go_ret
   exact ⟨by rw [decide_eq_true HA.o]; rfl, HB.o⟩
  have hlt2 : j < B.length := by have := HL.o; omega
  obtain ⟨d1, e1, x1, y1, hv1, hb1, n1, K1, g1, g2⟩ := H1.o.at_ j hlt
  obtain ⟨d2, e2, x2, y2, hv2, hb2, n2, K2, g3, g4⟩ := H2.o.at_ j hlt2
  injection hv1 with f1 f2 f3
  subst f1
  clear f2 f3
  injection hv2 with f1 f2 f3
  subst f1
  clear f2 f3
  replace n1 := (HB.o.cell (p := ⟨d1, j, none⟩) hb1).trans n1
  replace n2 := (HB.o.cell (p := ⟨d2, j, none⟩) hb2).trans n2
  have i1 : (0 : Int) ≤ (j : Int) := by omega
  have i2 : (j : Int) < (A.length : Int) := by omega
  have i3 : (j : Int) < (B.length : Int) := by omega
  have HT1 : Hid (A.take (j + 1) = A.take j ++ [A[j]]) := hZ (List.take_succ_eq_append_getElem hlt)
  have HT2 : Hid (B.take (j + 1) = B.take j ++ [B[j]]) := hZ (List.take_succ_eq_append_getElem hlt2)
  have HNo : Hid (A[j] ≠ B[j] → ¬ A = B) := hZ (fun h e => h (by subst e; rfl))
  have HK1 := hZ (K1.below HB.o)
  have HK2 := hZ (K2.below HB.o)
  have HN1 := hZ n1
  have HN2 := hZ n2
  have Hb1 := hZ (Nat.lt_of_lt_of_le hb1 HB.o.size)
  have Hb2 := hZ (Nat.lt_of_lt_of_le hb2 HB.o.size)
  clear K1 K2 n1 n2 hb1 hb2
  generalize A[j] = r1 at *
  generalize B[j] = r2 at *
  go_wp2_with fail
  have HD := hZ (Below.refl w1.heap.size w1)
  obtain ⟨w2, hwd⟩ : ∃ w', w1.drew = w' := ⟨_, rfl⟩
  have hB := dB hwd
  replace HB := bT HB hB
  replace HD := bT HD hB
  clear hB
  have HBr : Hid (Only (fun b => False) w2 w2) := hZ (Only.refl _ _)
  refine startL [] (fun w' => Only (fun b => False) w2 w') (by kernel_rfl) (by rw [hwd]; exact Only.refl _ _) (fun hHeld => ?_)
  rw [hwd] at hHeld ⊢
  clear hwd
  have f1 : w2.cell? ⟨d1, j, none⟩ = some (.slice x1 r1.length y1) := (HD.o.cell (p := ⟨d1, j, none⟩) Hb1.o).trans HN1.o
  have f2 : w2.cell? ⟨d2, j, none⟩ = some (.slice x2 r2.length y2) := (HD.o.cell (p := ⟨d2, j, none⟩) Hb2.o).trans HN2.o
  have l1 : d1 < w2.heap.size := Nat.lt_of_lt_of_le Hb1.o HD.o.size
  have l2 : d2 < w2.heap.size := Nat.lt_of_lt_of_le Hb2.o HD.o.size
  refine pP 0 18 (v := ?_) rfl rfl ?_ ?_
  rotate_left
  ·(intro w; go_simp; first | done | with_reducible rfl)
  simp only [sX1, sX2, sX3]
  refine pP 1 19 (v := ?_) rfl rfl ?_ ?_
  rotate_left
  ·(intro w; go_simp; first | done | with_reducible rfl)
  simp only [sX1, sX2, sX3]
  refine pP 2 20 (v := ?_) rfl rfl ?_ ?_
  rotate_left
  ·(intro w; go_simp; first | done | with_reducible rfl)
  simp only [sX1, sX2, sX3]
  refine tP 3 21 (v := ?_) rfl rfl ?_ ?_
  rotate_left
  ·(intro w hSw; have x0 := (hSw.cell (p := ⟨d1, j, none⟩) (fun h => h) l1).trans f1; go_simp; first | done | with_reducible rfl)
  simp only [sX1, sX2, sX3]
  refine pP 4 22 (v := ?_) rfl rfl ?_ ?_
  rotate_left
  ·(intro w; go_simp; first | done | with_reducible rfl)
  simp only [sX1, sX2, sX3]
  refine pP 5 23 (v := ?_) rfl rfl ?_ ?_
  rotate_left
  ·(intro w; go_simp; first | done | with_reducible rfl)
  simp only [sX1, sX2, sX3]
  refine pP 6 24 (v := ?_) rfl rfl ?_ ?_
  rotate_left
  ·(intro w; go_simp; first | done | with_reducible rfl)
  simp only [sX1, sX2, sX3]
  refine tP 7 25 (v := ?_) rfl rfl ?_ ?_
  rotate_left
  ·(intro w hSw; have x0 := (hSw.cell (p := ⟨d2, j, none⟩) (fun h => h) l2).trans f2; go_simp; first | done | with_reducible rfl)
  simp only [sX1, sX2, sX3]
  clear f1 f2 l1 l2
  refine stepL 8 (by kernel_rfl) rfl (fun K hK => ?_)
  go_simp
  refine (sameInts_any _ _ r1 r2 w2 (HK1.o.below HD.o) (HK2.o.below HD.o)).mono ?_
  rintro e w3 ⟨rfl, hB⟩
  replace HBr := oT HBr hB
  replace HB := bT HB hB
  replace HD := bT HD hB
  clear hB
  refine hK.out _ _ HBr.o (fun hHeld => ?_)
  clear hK K
  try simp only [Act.put, sX1, sX2, sX3]
  refine pP 9 6 (v := ?_) rfl rfl ?_ ?_
  rotate_left
  ·(intro w; go_simp; first | done | with_reducible rfl)
  simp only [sX1, sX2, sX3]
  refine doneL (by kernel_rfl) ?_ _
  clear hHeld
  by_cases hx : r1 = r2
  ·skip
   have HX := hZ hx
   rw [decide_eq_true hx]
   clear hx
   go_wp2_with fail
   go_roundw
   case rel => exact ⟨j + 1, by omega, by go_num, hZ (by rw [HT1.o, HT2.o, HT.o, HX.o]), HB⟩
   case measure => simp [intOf]; omega
  ·skip
   have HX := hZ (decide_eq_false (HNo.o hx))
   rw [decide_eq_false hx]
   clear hx
   go_wp2_with fail
   go_ret
   exact ⟨by rw [HX.o]; rfl, HB.o⟩
end Go.Proofs.Ytlmbebbdamgfpaa
set_option linter.unusedVariables false
set_option linter.unusedSimpArgs false
namespace Go.Proofs.Ytlmbebbdamgfpaa
open Go.RowKit

theorem MatAt.blw {w w' : World} {v : Value} {m : List (List Int)} (h : MatAt w v m) (hb : Below w.heap.size w w') : MatAt w' v m := h.below hb
theorem fits_a : ∀ r ∈ ([[1, 1], [0, 2]] : List (List Int)), ∀ x ∈ r, fitZ x := by unfold fitZ; decide
theorem fits_b : ∀ r ∈ ([[1, 1, -1], [0, 3, -2]] : List (List Int)), ∀ x ∈ r, fitZ x := by unfold fitZ; decide
theorem SmallPost.fit {H : List (List Int)} {e : Ending} {w' : World} (h : SmallPost H e w') (hf : ∀ r ∈ H, ∀ x ∈ r, fitZ x) : ∃ u, e = .returned (.tuple #[u, .int .i64 0]) ∧ MatAt w' u H := by
 rcases h with ⟨-, r, hr, x, hx, hn⟩ | ⟨u, h1, h2, -⟩
 ·exact absurd (hf r hr x hx) hn
 ·exact ⟨u, h1, h2⟩
theorem IntsOf.lit {w : World} {g n : Nat} {l : List Int} (h : BlkC w g 3 (l.map zv)) (hl : l.length = n) (hn : n ≤ 1000) : IntsOf w (.slice (some ⟨g, 0, none⟩) n n) l := by
 subst hl
 exact ints_of_blk h (Nat.le_refl _) (by omega)

set_option maxRecDepth 100000 in
set_option maxHeartbeats 8000000 in
theorem lives_any (w0 : World) : Calls Try.prog 17 #[] w0 fun e w' => e = .returned (.bool true) ∧ Below w0.heap.size w0 w' := by
 have HB := hZ (Below.refl w0.heap.size w0)
 obtain ⟨w1, hw_1⟩ : ∃ w', w0.alloc (.cells #[.int .i64 2, .int .i64 4] 3) = w' := ⟨_, rfl⟩
 have hB : Below w0.heap.size w0 w1 := by rw [← hw_1]; exact (Below.refl _ _).alloc (Nat.le_refl _) _
 obtain ⟨b_1, hb_1⟩ : ∃ b, w0.heap.size = b := ⟨_, rfl⟩
 have O_1' : Hid (BlkC w1 b_1 3 (([2, 4] : List Int).map zv)) := hZ (by rw [← hw_1, ← hb_1]; exact BlkC.new _ _ _)
 replace HB := bT HB hB
 clear hB
 have O_1 := O_1'
 clear O_1'
 obtain ⟨w2, hw_2⟩ : ∃ w', w1.alloc (.cells #[.int .i64 3, .int .i64 5] 3) = w' := ⟨_, rfl⟩
 have hB : Below w1.heap.size w1 w2 := by rw [← hw_2]; exact (Below.refl _ _).alloc (Nat.le_refl _) _
 obtain ⟨b_2, hb_2⟩ : ∃ b, w1.heap.size = b := ⟨_, rfl⟩
 have O_2' : Hid (BlkC w2 b_2 3 (([3, 5] : List Int).map zv)) := hZ (by rw [← hw_2, ← hb_2]; exact BlkC.new _ _ _)
 replace O_1 := hZ (O_1.o.blw hB)
 replace HB := bT HB hB
 clear hB
 have O_2 := O_2'
 clear O_2'
 obtain ⟨w3, hw_3⟩ : ∃ w', w2.alloc (.cells #[.slice (some ⟨b_1, 0, none⟩) 2 2, .slice (some ⟨b_2, 0, none⟩) 2 2] 22) = w' := ⟨_, rfl⟩
 have hB : Below w2.heap.size w2 w3 := by rw [← hw_3]; exact (Below.refl _ _).alloc (Nat.le_refl _) _
 obtain ⟨b_3, hb_3⟩ : ∃ b, w2.heap.size = b := ⟨_, rfl⟩
 have O_3' : BlkC w3 b_3 22 (rwIZ [(b_1, 2), (b_2, 2)] 0) := by rw [← hw_3, ← hb_3]; exact BlkC.new _ _ _
 replace O_1 := hZ (O_1.o.blw hB)
 replace O_2 := hZ (O_2.o.blw hB)
 replace HB := bT HB hB
 clear hB
 have M_3 : Hid (MatAt w3 (.slice (some ⟨b_3, 0, none⟩) 2 2) [[2, 4], [3, 5]]) := hZ ((((IntsIn.nil _).snoc O_1.o).snoc O_2.o).mat O_3' (by simp) (by simp) (by simp))
 clear O_3'
 clear O_1
 clear O_2
 go_enter Try.func17, Try.ntmps17
 go_wp2_with fail
 clear hw_1 hb_1 hw_2 hb_2 hw_3 hb_3
 refine (hermite_any w3 _ _ M_3.o).mono ?_
 rintro e w4 ⟨hB, ⟨hz, -⟩ | ⟨-, Hm, h1, h2, -, h3⟩⟩
 ·exact absurd (by decide) hz
 obtain rfl : Hm = [[1, 1], [0, 2]] := map_vec_inj (n := 2) h2 (by decide) (h1.uniq herm_ex)
 obtain ⟨ua, rfl, hu⟩ := h3.fit fits_a
 have Mu' := hZ hu
 clear h1 h2 h3 hu
 clear M_3
 replace HB := bT HB hB
 clear hB
 have Mu := Mu'
 clear Mu'
 obtain ⟨w5, hw_4⟩ : ∃ w', w4.alloc (.cells #[.int .i64 1] 3) = w' := ⟨_, rfl⟩
 have hB : Below w4.heap.size w4 w5 := by rw [← hw_4]; exact (Below.refl _ _).alloc (Nat.le_refl _) _
 obtain ⟨b_4, hb_4⟩ : ∃ b, w4.heap.size = b := ⟨_, rfl⟩
 have O_4' : Hid (BlkC w5 b_4 3 (([1] : List Int).map zv)) := hZ (by rw [← hw_4, ← hb_4]; exact BlkC.new _ _ _)
 replace Mu := hZ (Mu.o.blw hB)
 replace HB := bT HB hB
 clear hB
 have O_4 := O_4'
 clear O_4'
 obtain ⟨w6, hw_5⟩ : ∃ w', w5.alloc (.cells #[.int .i64 2] 3) = w' := ⟨_, rfl⟩
 have hB : Below w5.heap.size w5 w6 := by rw [← hw_5]; exact (Below.refl _ _).alloc (Nat.le_refl _) _
 obtain ⟨b_5, hb_5⟩ : ∃ b, w5.heap.size = b := ⟨_, rfl⟩
 have O_5' : Hid (BlkC w6 b_5 3 (([2] : List Int).map zv)) := hZ (by rw [← hw_5, ← hb_5]; exact BlkC.new _ _ _)
 replace Mu := hZ (Mu.o.blw hB)
 replace O_4 := hZ (O_4.o.blw hB)
 replace HB := bT HB hB
 clear hB
 have O_5 := O_5'
 clear O_5'
 obtain ⟨w7, hw_6⟩ : ∃ w', w6.alloc (.cells #[.int .i64 3] 3) = w' := ⟨_, rfl⟩
 have hB : Below w6.heap.size w6 w7 := by rw [← hw_6]; exact (Below.refl _ _).alloc (Nat.le_refl _) _
 obtain ⟨b_6, hb_6⟩ : ∃ b, w6.heap.size = b := ⟨_, rfl⟩
 have O_6' : Hid (BlkC w7 b_6 3 (([3] : List Int).map zv)) := hZ (by rw [← hw_6, ← hb_6]; exact BlkC.new _ _ _)
 replace Mu := hZ (Mu.o.blw hB)
 replace O_4 := hZ (O_4.o.blw hB)
 replace O_5 := hZ (O_5.o.blw hB)
 replace HB := bT HB hB
 clear hB
 have O_6 := O_6'
 clear O_6'
 obtain ⟨w8, hw_7⟩ : ∃ w', w7.alloc (.cells #[.slice (some ⟨b_4, 0, none⟩) 1 1, .slice (some ⟨b_5, 0, none⟩) 1 1, .slice (some ⟨b_6, 0, none⟩) 1 1] 22) = w' := ⟨_, rfl⟩
 have hB : Below w7.heap.size w7 w8 := by rw [← hw_7]; exact (Below.refl _ _).alloc (Nat.le_refl _) _
 obtain ⟨b_7, hb_7⟩ : ∃ b, w7.heap.size = b := ⟨_, rfl⟩
 have O_7' : BlkC w8 b_7 22 (rwIZ [(b_4, 1), (b_5, 1), (b_6, 1)] 0) := by rw [← hw_7, ← hb_7]; exact BlkC.new _ _ _
 replace Mu := hZ (Mu.o.blw hB)
 replace O_4 := hZ (O_4.o.blw hB)
 replace O_5 := hZ (O_5.o.blw hB)
 replace O_6 := hZ (O_6.o.blw hB)
 replace HB := bT HB hB
 clear hB
 have M_7 : Hid (MatAt w8 (.slice (some ⟨b_7, 0, none⟩) 3 3) [[1], [2], [3]]) := hZ (((((IntsIn.nil _).snoc O_4.o).snoc O_5.o).snoc O_6.o).mat O_7' (by simp) (by simp) (by simp))
 clear O_7'
 clear O_4
 clear O_5
 clear O_6
 go_wp2_with fail
 clear hw_4 hb_4 hw_5 hb_5 hw_6 hb_6 hw_7 hb_7
 refine (kernel_any w8 _ _ M_7.o).mono ?_
 rintro e w9 ⟨hB, ⟨hz, -⟩ | ⟨-, Hm, h1, h2, -, h3⟩⟩
 ·exact absurd (by decide) hz
 obtain rfl : Hm = [[1, 1, -1], [0, 3, -2]] := map_vec_inj (n := 3) h2 (by decide) (h1.uniq ker_ex)
 obtain ⟨ub, rfl, hu⟩ := h3.fit fits_b
 have Mk' := hZ hu
 clear h1 h2 h3 hu
 clear M_7
 replace Mu := hZ (Mu.o.blw hB)
 replace HB := bT HB hB
 clear hB
 have Mk := Mk'
 clear Mk'
 obtain ⟨w10, hw_8⟩ : ∃ w', w9.alloc (.cells #[.int .i64 1, .int .i64 1] 3) = w' := ⟨_, rfl⟩
 have hB : Below w9.heap.size w9 w10 := by rw [← hw_8]; exact (Below.refl _ _).alloc (Nat.le_refl _) _
 obtain ⟨b_8, hb_8⟩ : ∃ b, w9.heap.size = b := ⟨_, rfl⟩
 have O_8' : Hid (BlkC w10 b_8 3 (([1, 1] : List Int).map zv)) := hZ (by rw [← hw_8, ← hb_8]; exact BlkC.new _ _ _)
 replace Mu := hZ (Mu.o.blw hB)
 replace Mk := hZ (Mk.o.blw hB)
 replace HB := bT HB hB
 clear hB
 have O_8 := O_8'
 clear O_8'
 obtain ⟨w11, hw_9⟩ : ∃ w', w10.alloc (.cells #[.int .i64 0, .int .i64 2] 3) = w' := ⟨_, rfl⟩
 have hB : Below w10.heap.size w10 w11 := by rw [← hw_9]; exact (Below.refl _ _).alloc (Nat.le_refl _) _
 obtain ⟨b_9, hb_9⟩ : ∃ b, w10.heap.size = b := ⟨_, rfl⟩
 have O_9' : Hid (BlkC w11 b_9 3 (([0, 2] : List Int).map zv)) := hZ (by rw [← hw_9, ← hb_9]; exact BlkC.new _ _ _)
 replace Mu := hZ (Mu.o.blw hB)
 replace Mk := hZ (Mk.o.blw hB)
 replace O_8 := hZ (O_8.o.blw hB)
 replace HB := bT HB hB
 clear hB
 have O_9 := O_9'
 clear O_9'
 obtain ⟨w12, hw_10⟩ : ∃ w', w11.alloc (.cells #[.slice (some ⟨b_8, 0, none⟩) 2 2, .slice (some ⟨b_9, 0, none⟩) 2 2] 22) = w' := ⟨_, rfl⟩
 have hB : Below w11.heap.size w11 w12 := by rw [← hw_10]; exact (Below.refl _ _).alloc (Nat.le_refl _) _
 obtain ⟨b_10, hb_10⟩ : ∃ b, w11.heap.size = b := ⟨_, rfl⟩
 have O_10' : BlkC w12 b_10 22 (rwIZ [(b_8, 2), (b_9, 2)] 0) := by rw [← hw_10, ← hb_10]; exact BlkC.new _ _ _
 replace Mu := hZ (Mu.o.blw hB)
 replace Mk := hZ (Mk.o.blw hB)
 replace O_8 := hZ (O_8.o.blw hB)
 replace O_9 := hZ (O_9.o.blw hB)
 replace HB := bT HB hB
 clear hB
 have M_10 : Hid (MatAt w12 (.slice (some ⟨b_10, 0, none⟩) 2 2) [[1, 1], [0, 2]]) := hZ ((((IntsIn.nil _).snoc O_8.o).snoc O_9.o).mat O_10' (by simp) (by simp) (by simp))
 clear O_10'
 clear O_8
 clear O_9
 go_wp2_with fail
 clear hw_8 hb_8 hw_9 hb_9 hw_10 hb_10
 refine (same_any _ _ _ _ w12 Mu.o M_10.o).mono ?_
 rintro e w13 ⟨rfl, hB⟩
 rw [decide_eq_true rfl]
 clear M_10
 replace Mu := hZ (Mu.o.blw hB)
 replace Mk := hZ (Mk.o.blw hB)
 replace HB := bT HB hB
 clear hB
 obtain ⟨w14, hw_11⟩ : ∃ w', w13.alloc (.cells #[.int .i64 1, .int .i64 1, .int .i64 (-1)] 3) = w' := ⟨_, rfl⟩
 have hB : Below w13.heap.size w13 w14 := by rw [← hw_11]; exact (Below.refl _ _).alloc (Nat.le_refl _) _
 obtain ⟨b_11, hb_11⟩ : ∃ b, w13.heap.size = b := ⟨_, rfl⟩
 have O_11' : Hid (BlkC w14 b_11 3 (([1, 1, -1] : List Int).map zv)) := hZ (by rw [← hw_11, ← hb_11]; exact BlkC.new _ _ _)
 replace Mu := hZ (Mu.o.blw hB)
 replace Mk := hZ (Mk.o.blw hB)
 replace HB := bT HB hB
 clear hB
 have O_11 := O_11'
 clear O_11'
 obtain ⟨w15, hw_12⟩ : ∃ w', w14.alloc (.cells #[.int .i64 0, .int .i64 3, .int .i64 (-2)] 3) = w' := ⟨_, rfl⟩
 have hB : Below w14.heap.size w14 w15 := by rw [← hw_12]; exact (Below.refl _ _).alloc (Nat.le_refl _) _
 obtain ⟨b_12, hb_12⟩ : ∃ b, w14.heap.size = b := ⟨_, rfl⟩
 have O_12' : Hid (BlkC w15 b_12 3 (([0, 3, -2] : List Int).map zv)) := hZ (by rw [← hw_12, ← hb_12]; exact BlkC.new _ _ _)
 replace Mu := hZ (Mu.o.blw hB)
 replace Mk := hZ (Mk.o.blw hB)
 replace O_11 := hZ (O_11.o.blw hB)
 replace HB := bT HB hB
 clear hB
 have O_12 := O_12'
 clear O_12'
 obtain ⟨w16, hw_13⟩ : ∃ w', w15.alloc (.cells #[.slice (some ⟨b_11, 0, none⟩) 3 3, .slice (some ⟨b_12, 0, none⟩) 3 3] 22) = w' := ⟨_, rfl⟩
 have hB : Below w15.heap.size w15 w16 := by rw [← hw_13]; exact (Below.refl _ _).alloc (Nat.le_refl _) _
 obtain ⟨b_13, hb_13⟩ : ∃ b, w15.heap.size = b := ⟨_, rfl⟩
 have O_13' : BlkC w16 b_13 22 (rwIZ [(b_11, 3), (b_12, 3)] 0) := by rw [← hw_13, ← hb_13]; exact BlkC.new _ _ _
 replace Mu := hZ (Mu.o.blw hB)
 replace Mk := hZ (Mk.o.blw hB)
 replace O_11 := hZ (O_11.o.blw hB)
 replace O_12 := hZ (O_12.o.blw hB)
 replace HB := bT HB hB
 clear hB
 have M_13 : Hid (MatAt w16 (.slice (some ⟨b_13, 0, none⟩) 2 2) [[1, 1, -1], [0, 3, -2]]) := hZ ((((IntsIn.nil _).snoc O_11.o).snoc O_12.o).mat O_13' (by simp) (by simp) (by simp))
 clear O_13'
 clear O_11
 clear O_12
 go_wp2_with fail
 clear hw_11 hb_11 hw_12 hb_12 hw_13 hb_13
 refine (same_any _ _ _ _ w16 Mk.o M_13.o).mono ?_
 rintro e w17 ⟨rfl, hB⟩
 rw [decide_eq_true rfl]
 clear M_13
 replace Mu := hZ (Mu.o.blw hB)
 replace Mk := hZ (Mk.o.blw hB)
 replace HB := bT HB hB
 clear hB
 obtain ⟨w18, hw_14⟩ : ∃ w', w17.alloc (.cells #[.int .i64 3, .int .i64 4] 3) = w' := ⟨_, rfl⟩
 have hB : Below w17.heap.size w17 w18 := by rw [← hw_14]; exact (Below.refl _ _).alloc (Nat.le_refl _) _
 obtain ⟨b_14, hb_14⟩ : ∃ b, w17.heap.size = b := ⟨_, rfl⟩
 have O_14' : Hid (BlkC w18 b_14 3 (([3, 4] : List Int).map zv)) := hZ (by rw [← hw_14, ← hb_14]; exact BlkC.new _ _ _)
 replace Mu := hZ (Mu.o.blw hB)
 replace Mk := hZ (Mk.o.blw hB)
 replace HB := bT HB hB
 clear hB
 have O_14 := O_14'
 clear O_14'
 go_wp2_with fail
 clear hw_14 hb_14
 refine (in_any w18 _ _ _ [3, 4] Mu.o (IntsOf.lit (n := 2) O_14.o rfl (by omega)) (by decide) (by decide)).mono ?_
 rintro e w19 ⟨hB, tb, rfl, htb⟩
 obtain rfl : tb = false := by cases tb with | false => rfl | true => exact absurd (htb.1 rfl) inb_no
 clear htb
 clear O_14
 replace Mu := hZ (Mu.o.blw hB)
 replace Mk := hZ (Mk.o.blw hB)
 replace HB := bT HB hB
 clear hB
 obtain ⟨w20, hw_15⟩ : ∃ w', w19.alloc (.cells #[.int .i64 3, .int .i64 5] 3) = w' := ⟨_, rfl⟩
 have hB : Below w19.heap.size w19 w20 := by rw [← hw_15]; exact (Below.refl _ _).alloc (Nat.le_refl _) _
 obtain ⟨b_15, hb_15⟩ : ∃ b, w19.heap.size = b := ⟨_, rfl⟩
 have O_15' : Hid (BlkC w20 b_15 3 (([3, 5] : List Int).map zv)) := hZ (by rw [← hw_15, ← hb_15]; exact BlkC.new _ _ _)
 replace Mu := hZ (Mu.o.blw hB)
 replace Mk := hZ (Mk.o.blw hB)
 replace HB := bT HB hB
 clear hB
 have O_15 := O_15'
 clear O_15'
 go_wp2_with fail
 clear hw_15 hb_15
 refine (in_any w20 _ _ _ [3, 5] Mu.o (IntsOf.lit (n := 2) O_15.o rfl (by omega)) (by decide) (by decide)).mono ?_
 rintro e w21 ⟨hB, tb, rfl, htb⟩
 obtain rfl : tb = true := htb.2 inb_yes
 clear htb
 clear O_15
 replace Mu := hZ (Mu.o.blw hB)
 replace Mk := hZ (Mk.o.blw hB)
 replace HB := bT HB hB
 clear hB
 go_wp2_with fail
 go_ret
 exact ⟨rfl, HB.o⟩
end Go.Proofs.Ytlmbebbdamgfpaa
