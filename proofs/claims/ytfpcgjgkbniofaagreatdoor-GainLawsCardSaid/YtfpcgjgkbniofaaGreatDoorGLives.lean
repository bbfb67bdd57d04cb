/- lives: the example of the section. -/
import Derived.Test.YtfpcgjgkbniofaaGreatDoorGEx
import Derived.Test.YtfpcgjgkbniofaaGreatDoorGFind
set_option linter.unusedVariables false
set_option linter.unusedSimpArgs false
namespace Go.Proofs.YtfpcgjgkbniofaaGreatDoor
open Go.RowKit

theorem ex_us (n : Nat) : usL (exCat n) = [0, 1] := rfl
theorem ex_scan4 : scan (gainS (exCat 4)) (seqs (usL (exCat 4)) 2) 100 = .found [0, 1] := by kernel_rfl
theorem ex_scan3 : scan (gainS (exCat 3)) (seqs (usL (exCat 3)) 8) 1000 = .nothing := by kernel_rfl
theorem ex_scan5 : scan (gainS (exCat 3)) (seqs (usL (exCat 3)) 8) 5 = .empty := by kernel_rfl
theorem ex_need : needL (exCat 4) [0, 1] = [3, 0] := by kernel_rfl
theorem ex_net : netL (exCat 4) [0, 1] = [1, 0] := by kernel_rfl
theorem ex_check : checkB (exCat 4) [0, 1] [3, 0] [1, 0] = true := by kernel_rfl

theorem ex4 (w : World) : Calls Tryz.prog 39 #[.int .i64 4] w fun e w' => (∃ vi vr, e = .returned (catV vi vr) ∧ CatAt w' vi vr (exCat 4)) ∧ Below w.heap.size w w' := example_any 4 (by decide) w
theorem ex3 (w : World) : Calls Tryz.prog 39 #[.int .i64 3] w fun e w' => (∃ vi vr, e = .returned (catV vi vr) ∧ CatAt w' vi vr (exCat 3)) ∧ Below w.heap.size w w' := example_any 3 (by decide) w

theorem find_a (vi vr : Value) (w : World) (hc : CatAt w vi vr (exCat 4)) (hK : Kinds w) : Calls Tryz.prog 18 #[catV vi vr, .int .i64 2, .int .i64 100] w fun e w' =>
    (∃ a1 c1 a2 c2 a3 c3, e = .returned (.tuple #[.agg #[.slice a1 2 c1, .slice a2 2 c2, .slice a3 2 c3], .bool true, .int .i64 0]) ∧ NatsOf w' (.slice a1 2 c1) [0, 1] ∧ IntsOf w' (.slice a2 2 c2) [3, 0] ∧ IntsOf w' (.slice a3 2 c3) [1, 0]) ∧ Below w.heap.size w w' := by
  refine (callsIn_wide.1 (find_main vi vr (exCat 4) 2 100 w hc (ex_fine 4 (by decide) (by decide)) (by decide) (by decide) (by rw [ex_us]; decide) (by decide) (by decide) hK)).mono ?_
  rintro e w' ⟨hB, v1, v2, v3, b, er, rfl, hI⟩
  rw [ex_scan4] at hI
  obtain ⟨rfl, rfl, h1, h2, h3⟩ := hI
  rw [ex_need] at h2
  rw [ex_net] at h3
  obtain ⟨a1, c1, rfl, -, -⟩ := h1.ints.form
  obtain ⟨a2, c2, rfl, -, -⟩ := h2.form
  obtain ⟨a3, c3, rfl, -, -⟩ := h3.form
  exact ⟨⟨a1, c1, a2, c2, a3, c3, rfl, h1, h2, h3⟩, hB⟩
theorem find_b (vi vr : Value) (w : World) (hc : CatAt w vi vr (exCat 3)) (hK : Kinds w) : Calls Tryz.prog 18 #[catV vi vr, .int .i64 8, .int .i64 1000] w fun e w' =>
    e = .returned (.tuple #[.agg #[.slice none 0 0, .slice none 0 0, .slice none 0 0], .bool false, .int .i64 0]) ∧ Below w.heap.size w w' := by
  refine (callsIn_wide.1 (find_main vi vr (exCat 3) 8 1000 w hc (ex_fine 3 (by decide) (by decide)) (by decide) (by decide) (by rw [ex_us]; decide) (by decide) (by decide) hK)).mono ?_
  rintro e w' ⟨hB, v1, v2, v3, b, er, rfl, hI⟩
  rw [ex_scan3] at hI
  obtain ⟨rfl, rfl, rfl, rfl, rfl⟩ := hI
  exact ⟨rfl, hB⟩
theorem find_c (vi vr : Value) (w : World) (hc : CatAt w vi vr (exCat 3)) (hK : Kinds w) : Calls Tryz.prog 18 #[catV vi vr, .int .i64 8, .int .i64 5] w fun e w' =>
    e = .returned (.tuple #[.agg #[.slice none 0 0, .slice none 0 0, .slice none 0 0], .bool false, .int .i64 21]) ∧ Below w.heap.size w w' := by
  refine (callsIn_wide.1 (find_main vi vr (exCat 3) 8 5 w hc (ex_fine 3 (by decide) (by decide)) (by decide) (by decide) (by rw [ex_us]; decide) (by decide) (by decide) hK)).mono ?_
  rintro e w' ⟨hB, v1, v2, v3, b, er, rfl, hI⟩
  rw [ex_scan5] at hI
  obtain ⟨rfl, rfl, rfl, rfl, rfl⟩ := hI
  exact ⟨rfl, hB⟩

theorem ints_pair {w : World} {g : Nat} {t : TypeId} (a b : Int) (h : BlkC w g t [.int .i64 a, .int .i64 b]) : IntsOf w (.slice (some ⟨g, 0, none⟩) 2 2) [a, b] := ints_of_blk (l := [a, b]) h (by simp) (by simp)



set_option maxRecDepth 100000 in
set_option maxHeartbeats 2000000 in
theorem lives_any (w : World) (hK : Kinds w) : Calls Tryz.prog 17 #[] w fun e w' => e = .returned (.bool true) ∧ Below w.heap.size w w' := by
  have HK := Lib.hid hK
  have HB := Lib.hid (Below.refl w.heap.size w)
  clear hK
  go_enter Tryz.func17, Tryz.ntmps17
  go_wp2_with fail
  refine (ex4 _).mono ?_
  rintro e w1 ⟨⟨vi, vr, rfl, hc⟩, hB⟩
  have HC1 := Lib.hid hc
  have HB := Lib.hid (HB.out.trans (hB.mono HB.out.size))
  clear hc hB
  go_wp2_with fail
  refine (find_a _ _ w1 HC1.out (HK.out.keep HB.out)).mono ?_
  rintro e w2 ⟨⟨a1, c1, a2, c2, a3, c3, rfl, h1, h2, h3⟩, hB⟩
  have HB := Lib.hid (HB.out.trans (hB.mono HB.out.size))
  have H1 := Lib.hid h1
  have H2 := Lib.hid h2
  have H3 := Lib.hid h3
  clear hB h1 h2 h3 HC1
  go_wp2_with fail
  obtain ⟨w3, hw3⟩ : ∃ w3, w2.alloc (.cells #[.slice a1 2 c1, .slice a2 2 c2, .slice a3 2 c3] 42) = w3 := ⟨_, rfl⟩
  have HX : Hid (BoxL w3 w2.heap.size (.slice a1 2 c1) (.slice a2 2 c2) (.slice a3 2 c3)) := Lib.hid (by rw [← hw3]; exact BoxL.new _ _ _ _ _)
  have hB3 : Below w2.heap.size w2 w3 := by rw [← hw3]; exact (Below.refl _ _).alloc (Nat.le_refl _) _
  have HB := Lib.hid (HB.out.trans (hB3.mono HB.out.size))
  have H1 := Lib.hid (H1.out.below hB3)
  have H2 := Lib.hid (H2.out.below hB3)
  have H3 := Lib.hid (H3.out.below hB3)
  rw [hw3]
  clear hw3 hB3
  refine (ex3 _).mono ?_
  rintro e w4 ⟨⟨vi, vr, rfl, hc⟩, hB⟩
  have HC4 := Lib.hid hc
  clear hc
  have HB := Lib.hid (HB.out.trans (hB.mono HB.out.size))
  have HX := Lib.hid (HX.out.below hB)
  have H1 := Lib.hid (H1.out.below hB)
  have H2 := Lib.hid (H2.out.below hB)
  have H3 := Lib.hid (H3.out.below hB)
  clear hB
  go_wp2_with fail
  refine (find_b _ _ w4 HC4.out (HK.out.keep HB.out)).mono ?_
  rintro e w5 ⟨rfl, hB⟩
  have HB := Lib.hid (HB.out.trans (hB.mono HB.out.size))
  have HX := Lib.hid (HX.out.below hB)
  have H1 := Lib.hid (H1.out.below hB)
  have H2 := Lib.hid (H2.out.below hB)
  have H3 := Lib.hid (H3.out.below hB)
  clear hB
  go_wp2_with fail
  obtain ⟨w6, hw6⟩ : ∃ w6, w5.alloc (.cells #[.slice none 0 0, .slice none 0 0, .slice none 0 0] 42) = w6 := ⟨_, rfl⟩
  have hB : Below w5.heap.size w5 w6 := by rw [← hw6]; exact (Below.refl _ _).alloc (Nat.le_refl _) _
  have HB := Lib.hid (HB.out.trans (hB.mono HB.out.size))
  have HX := Lib.hid (HX.out.below hB)
  have H1 := Lib.hid (H1.out.below hB)
  have H2 := Lib.hid (H2.out.below hB)
  have H3 := Lib.hid (H3.out.below hB)
  clear hB
  rw [hw6]
  clear hw6
  refine (ex3 _).mono ?_
  rintro e w7 ⟨⟨vi, vr, rfl, hc⟩, hB⟩
  have HC7 := Lib.hid hc
  clear hc
  have HB := Lib.hid (HB.out.trans (hB.mono HB.out.size))
  have HX := Lib.hid (HX.out.below hB)
  have H1 := Lib.hid (H1.out.below hB)
  have H2 := Lib.hid (H2.out.below hB)
  have H3 := Lib.hid (H3.out.below hB)
  clear hB
  go_wp2_with fail
  refine (find_c _ _ w7 HC7.out (HK.out.keep HB.out)).mono ?_
  rintro e w8 ⟨rfl, hB⟩
  have HB := Lib.hid (HB.out.trans (hB.mono HB.out.size))
  have HX := Lib.hid (HX.out.below hB)
  have H1 := Lib.hid (H1.out.below hB)
  have H2 := Lib.hid (H2.out.below hB)
  have H3 := Lib.hid (H3.out.below hB)
  clear hB
  go_wp2_with fail
  obtain ⟨w9, hw9⟩ : ∃ w9, w8.alloc (.cells #[.slice none 0 0, .slice none 0 0, .slice none 0 0] 42) = w9 := ⟨_, rfl⟩
  have hB : Below w8.heap.size w8 w9 := by rw [← hw9]; exact (Below.refl _ _).alloc (Nat.le_refl _) _
  have HB := Lib.hid (HB.out.trans (hB.mono HB.out.size))
  have HX := Lib.hid (HX.out.below hB)
  have H1 := Lib.hid (H1.out.below hB)
  have H2 := Lib.hid (H2.out.below hB)
  have H3 := Lib.hid (H3.out.below hB)
  clear hB
  rw [hw9]
  clear hw9
  obtain ⟨w10, hw10⟩ : ∃ w10, w9.drew = w10 := ⟨_, rfl⟩
  have hB : Below w9.heap.size w9 w10 := by rw [← hw10]; exact (Below.refl _ _).drew
  have HB := Lib.hid (HB.out.trans (hB.mono HB.out.size))
  have HX := Lib.hid (HX.out.below hB)
  have H1 := Lib.hid (H1.out.below hB)
  have H2 := Lib.hid (H2.out.below hB)
  have H3 := Lib.hid (H3.out.below hB)
  clear hB
  refine startK 99 (fun W => W.cell? ⟨w2.heap.size, 0, none⟩ = some (.slice a1 2 c1) ∧ W.cell? ⟨w2.heap.size, 1, none⟩ = some (.slice a2 2 c2) ∧ W.cell? ⟨w2.heap.size, 2, none⟩ = some (.slice a3 2 c3)) (by kernel_rfl) (by rw [hw10]; exact ⟨HX.out.c0, HX.out.c1, HX.out.c2⟩) (fun hHeld => ?_)
  rw [hw10] at hHeld ⊢
  clear hw10
  refine takeK 0 28 (v := ?_) rfl rfl (by kernel_rfl) (by kernel_rfl) (by kernel_rfl) (by kernel_rfl) (fun _ _ _ h => h) (by rfl) ?_ (by assumption) ?_
  rotate_left
  · (intro w hSw; go_simp; first | done | with_reducible rfl)
  simp only [List.setIfInBounds_toArray, List.set_cons_zero, List.set_cons_succ]
  refine takeK 1 29 (v := ?_) rfl rfl (by kernel_rfl) (by kernel_rfl) (by kernel_rfl) (by kernel_rfl) (fun _ _ _ h => h) (by rfl) ?_ (by assumption) ?_
  rotate_left
  · (intro w hSw; go_simp; first | done | with_reducible rfl)
  simp only [List.setIfInBounds_toArray, List.set_cons_zero, List.set_cons_succ]
  refine takeK 2 30 (v := ?_) rfl rfl (by kernel_rfl) (by kernel_rfl) (by kernel_rfl) (by kernel_rfl) (fun _ _ _ h => h) (by rfl) ?_ (by assumption) ?_
  rotate_left
  · (intro w hSw; go_simp; first | done | with_reducible rfl)
  simp only [List.setIfInBounds_toArray, List.set_cons_zero, List.set_cons_succ]
  refine takeK 3 31 (v := ?_) rfl rfl (by kernel_rfl) (by kernel_rfl) (by kernel_rfl) (by kernel_rfl) (fun _ _ _ h => h) (by rfl) ?_ (by assumption) ?_
  rotate_left
  · (intro w hSw; go_simp; first | done | with_reducible rfl)
  simp only [List.setIfInBounds_toArray, List.set_cons_zero, List.set_cons_succ]
  refine takeK 4 32 (v := ?_) rfl rfl (by kernel_rfl) (by kernel_rfl) (by kernel_rfl) (by kernel_rfl) (fun _ _ _ h => h) (by rfl) ?_ (by assumption) ?_
  rotate_left
  · (intro w hSw; go_simp; first | done | with_reducible rfl)
  simp only [List.setIfInBounds_toArray, List.set_cons_zero, List.set_cons_succ]
  refine takeK 5 33 (v := ?_) rfl rfl (by kernel_rfl) (by kernel_rfl) (by kernel_rfl) (by kernel_rfl) (fun _ _ _ h => h) (by rfl) ?_ (by assumption) ?_
  rotate_left
  · (intro w hSw; go_simp; first | done | with_reducible rfl)
  simp only [List.setIfInBounds_toArray, List.set_cons_zero, List.set_cons_succ]
  refine takeK 6 34 (v := ?_) rfl rfl (by kernel_rfl) (by kernel_rfl) (by kernel_rfl) (by kernel_rfl) (fun _ _ _ h => h) (by rfl) ?_ (by assumption) ?_
  rotate_left
  · (intro w hSw; go_simp; first | done | with_reducible rfl)
  simp only [List.setIfInBounds_toArray, List.set_cons_zero, List.set_cons_succ]
  refine takeK 7 35 (v := ?_) rfl rfl (by kernel_rfl) (by kernel_rfl) (by kernel_rfl) (by kernel_rfl) (fun _ _ _ h => h) (by rfl) ?_ (by assumption) ?_
  rotate_left
  · (intro w hSw; go_simp; first | done | with_reducible rfl)
  simp only [List.setIfInBounds_toArray, List.set_cons_zero, List.set_cons_succ]
  refine takeK 8 36 (v := ?_) rfl rfl (by kernel_rfl) (by kernel_rfl) (by kernel_rfl) (by kernel_rfl) (fun _ _ _ h => h) (by rfl) ?_ (by assumption) ?_
  rotate_left
  · (intro w hSw; go_simp; first | done | with_reducible rfl)
  simp only [List.setIfInBounds_toArray, List.set_cons_zero, List.set_cons_succ]
  refine takeK 9 37 (v := ?_) rfl rfl (by kernel_rfl) (by kernel_rfl) (by kernel_rfl) (by kernel_rfl) (fun _ _ _ h => h) (by rfl) ?_ (by assumption) ?_
  rotate_left
  · (intro w hSw; go_simp; first | done | with_reducible rfl)
  simp only [List.setIfInBounds_toArray, List.set_cons_zero, List.set_cons_succ]
  refine takeK 10 38 (v := ?_) rfl rfl (by kernel_rfl) (by kernel_rfl) (by kernel_rfl) (by kernel_rfl) (fun _ _ _ h => h) (by rfl) ?_ (by assumption) ?_
  rotate_left
  · (intro w hSw; go_simp; first | done | with_reducible rfl)
  simp only [List.setIfInBounds_toArray, List.set_cons_zero, List.set_cons_succ]
  refine takeK 11 39 (v := ?_) rfl rfl (by kernel_rfl) (by kernel_rfl) (by kernel_rfl) (by kernel_rfl) (fun _ _ _ h => h) (by rfl) ?_ (by assumption) ?_
  rotate_left
  · (intro w hSw; go_simp; first | done | with_reducible rfl)
  simp only [List.setIfInBounds_toArray, List.set_cons_zero, List.set_cons_succ]
  refine takeK 12 40 (v := ?_) rfl rfl (by kernel_rfl) (by kernel_rfl) (by kernel_rfl) (by kernel_rfl) (fun _ _ _ h => h) (by rfl) ?_ (by assumption) ?_
  rotate_left
  · (intro w hSw; go_simp; first | done | with_reducible rfl)
  simp only [List.setIfInBounds_toArray, List.set_cons_zero, List.set_cons_succ]
  refine takeK 13 41 (v := ?_) rfl rfl (by kernel_rfl) (by kernel_rfl) (by kernel_rfl) (by kernel_rfl) (fun _ _ _ h => h) (by rfl) ?_ (by assumption) ?_
  rotate_left
  · (intro w hSw; go_simp; first | done | with_reducible rfl)
  simp only [List.setIfInBounds_toArray, List.set_cons_zero, List.set_cons_succ]
  refine takeK 14 42 (v := ?_) rfl rfl (by kernel_rfl) (by kernel_rfl) (by kernel_rfl) (by kernel_rfl) (fun _ _ _ h => h) (by rfl) ?_ (by assumption) ?_
  rotate_left
  · (intro w hSw; go_simp; first | done | with_reducible rfl)
  simp only [List.setIfInBounds_toArray, List.set_cons_zero, List.set_cons_succ]
  refine takeK 15 43 (v := ?_) rfl rfl (by kernel_rfl) (by kernel_rfl) (by kernel_rfl) (by kernel_rfl) (fun _ _ _ h => h) (by rfl) ?_ (by assumption) ?_
  rotate_left
  · (intro w hSw; go_simp; first | done | with_reducible rfl)
  simp only [List.setIfInBounds_toArray, List.set_cons_zero, List.set_cons_succ]
  refine takeK 16 44 (v := ?_) rfl rfl (by kernel_rfl) (by kernel_rfl) (by kernel_rfl) (by kernel_rfl) (fun _ _ _ h => h) (by rfl) ?_ (by assumption) ?_
  rotate_left
  · (intro w hSw; go_simp; first | done | with_reducible rfl)
  simp only [List.setIfInBounds_toArray, List.set_cons_zero, List.set_cons_succ]
  refine takeK 17 45 (v := ?_) rfl rfl (by kernel_rfl) (by kernel_rfl) (by kernel_rfl) (by kernel_rfl) (fun _ _ _ h => h) (by rfl) ?_ (by assumption) ?_
  rotate_left
  · (intro w hSw; go_simp; first | done | with_reducible rfl)
  simp only [List.setIfInBounds_toArray, List.set_cons_zero, List.set_cons_succ]
  refine takeK 18 46 (v := ?_) rfl rfl (by kernel_rfl) (by kernel_rfl) (by kernel_rfl) (by kernel_rfl) (fun _ _ _ h => h) (by rfl) ?_ (by assumption) ?_
  rotate_left
  · (intro w hSw; go_simp; first | done | with_reducible rfl)
  simp only [List.setIfInBounds_toArray, List.set_cons_zero, List.set_cons_succ]
  refine takeK 19 47 (v := ?_) rfl rfl (by kernel_rfl) (by kernel_rfl) (by kernel_rfl) (by kernel_rfl) (fun _ _ _ h => h) (by rfl) ?_ (by assumption) ?_
  rotate_left
  · (intro w hSw; go_simp; first | done | with_reducible rfl)
  simp only [List.setIfInBounds_toArray, List.set_cons_zero, List.set_cons_succ]
  refine stepK 20 (by kernel_rfl) rfl (fun K hK => ?_)
  go_simp
  obtain ⟨w11, hw11⟩ : ∃ W, w10.alloc (.cells #[.int .i64 0, .int .i64 1] 3) = W := ⟨_, rfl⟩
  have HP : Hid (IntsOf w11 (.slice (some ⟨w10.heap.size, 0, none⟩) 2 2) [0, 1]) := Lib.hid (by rw [← hw11]; exact ints_pair _ _ (BlkC.new _ _ _))
  clear hHeld
  have hB : Below w10.heap.size w10 w11 := by rw [← hw11]; exact (Below.refl _ _).alloc (Nat.le_refl _) _
  have HB := Lib.hid (HB.out.trans (hB.mono HB.out.size))
  have HX := Lib.hid (HX.out.below hB)
  have H1 := Lib.hid (H1.out.below hB)
  have H2 := Lib.hid (H2.out.below hB)
  have H3 := Lib.hid (H3.out.below hB)
  clear hB
  rw [hw11]
  clear hw11
  go_wp2_with fail
  refine hK.out _ _ (⟨HX.out.c0, HX.out.c1, HX.out.c2⟩) (fun hHeld => ?_)
  clear hK K
  try simp only [Act.put, List.setIfInBounds_toArray, List.set_cons_zero, List.set_cons_succ]
  refine stepK 21 (by kernel_rfl) rfl (fun K hK => ?_)
  go_simp
  refine (sameInts_any _ _ _ _ w11 H1.out.ints HP.out).mono ?_
  rintro e w12 ⟨rfl, hB⟩
  clear hHeld
  have HB := Lib.hid (HB.out.trans (hB.mono HB.out.size))
  have HX := Lib.hid (HX.out.below hB)
  have H1 := Lib.hid (H1.out.below hB)
  have H2 := Lib.hid (H2.out.below hB)
  have H3 := Lib.hid (H3.out.below hB)
  clear hB
  rw [show decide (List.map (fun i => ((i : Nat) : Int)) [0, 1] = [0, 1]) = true from rfl]
  go_wp2_with fail
  refine hK.out _ _ (⟨HX.out.c0, HX.out.c1, HX.out.c2⟩) (fun hHeld => ?_)
  clear hK K
  try simp only [Act.put, List.setIfInBounds_toArray, List.set_cons_zero, List.set_cons_succ]
  refine takeK 22 50 (v := ?_) rfl rfl (by kernel_rfl) (by kernel_rfl) (by kernel_rfl) (by kernel_rfl) (fun _ _ _ h => h) (by rfl) ?_ (by assumption) ?_
  rotate_left
  · (intro w hSw; go_simp; first | done | with_reducible rfl)
  simp only [List.setIfInBounds_toArray, List.set_cons_zero, List.set_cons_succ]
  refine takeK 23 51 (v := ?_) rfl rfl (by kernel_rfl) (by kernel_rfl) (by kernel_rfl) (by kernel_rfl) (fun _ _ _ h => h) (by rfl) ?_ (by assumption) ?_
  rotate_left
  · (intro w hSw; go_simp; first | done | with_reducible rfl)
  simp only [List.setIfInBounds_toArray, List.set_cons_zero, List.set_cons_succ]
  refine takeK 24 52 (v := ?_) rfl rfl (by kernel_rfl) (by kernel_rfl) (by kernel_rfl) (by kernel_rfl) (fun _ _ _ h => h) (by rfl) ?_ (by assumption) ?_
  rotate_left
  · (intro w hSw; go_simp; first | done | with_reducible rfl)
  simp only [List.setIfInBounds_toArray, List.set_cons_zero, List.set_cons_succ]
  refine takeK 25 53 (v := ?_) rfl rfl (by kernel_rfl) (by kernel_rfl) (by kernel_rfl) (by kernel_rfl) (fun _ _ _ h => h) (by rfl) ?_ (by assumption) ?_
  rotate_left
  · (intro w hSw; go_simp; first | done | with_reducible rfl)
  simp only [List.setIfInBounds_toArray, List.set_cons_zero, List.set_cons_succ]
  refine stepK 26 (by kernel_rfl) rfl (fun K hK => ?_)
  go_simp
  obtain ⟨w13, hw13⟩ : ∃ W, w12.alloc (.cells #[.int .i64 3, .int .i64 0] 3) = W := ⟨_, rfl⟩
  have HP : Hid (IntsOf w13 (.slice (some ⟨w12.heap.size, 0, none⟩) 2 2) [3, 0]) := Lib.hid (by rw [← hw13]; exact ints_pair _ _ (BlkC.new _ _ _))
  clear hHeld
  have hB : Below w12.heap.size w12 w13 := by rw [← hw13]; exact (Below.refl _ _).alloc (Nat.le_refl _) _
  have HB := Lib.hid (HB.out.trans (hB.mono HB.out.size))
  have HX := Lib.hid (HX.out.below hB)
  have H1 := Lib.hid (H1.out.below hB)
  have H2 := Lib.hid (H2.out.below hB)
  have H3 := Lib.hid (H3.out.below hB)
  clear hB
  rw [hw13]
  clear hw13
  go_wp2_with fail
  refine hK.out _ _ (⟨HX.out.c0, HX.out.c1, HX.out.c2⟩) (fun hHeld => ?_)
  clear hK K
  try simp only [Act.put, List.setIfInBounds_toArray, List.set_cons_zero, List.set_cons_succ]
  refine stepK 27 (by kernel_rfl) rfl (fun K hK => ?_)
  go_simp
  refine (sameInts_any _ _ _ _ w13 H2.out HP.out).mono ?_
  rintro e w14 ⟨rfl, hB⟩
  clear hHeld
  have HB := Lib.hid (HB.out.trans (hB.mono HB.out.size))
  have HX := Lib.hid (HX.out.below hB)
  have H1 := Lib.hid (H1.out.below hB)
  have H2 := Lib.hid (H2.out.below hB)
  have H3 := Lib.hid (H3.out.below hB)
  clear hB
  simp only [decide_true]
  go_wp2_with fail
  refine hK.out _ _ (⟨HX.out.c0, HX.out.c1, HX.out.c2⟩) (fun hHeld => ?_)
  clear hK K
  try simp only [Act.put, List.setIfInBounds_toArray, List.set_cons_zero, List.set_cons_succ]
  refine takeK 28 56 (v := ?_) rfl rfl (by kernel_rfl) (by kernel_rfl) (by kernel_rfl) (by kernel_rfl) (fun _ _ _ h => h) (by rfl) ?_ (by assumption) ?_
  rotate_left
  · (intro w hSw; go_simp; first | done | with_reducible rfl)
  simp only [List.setIfInBounds_toArray, List.set_cons_zero, List.set_cons_succ]
  refine takeK 29 57 (v := ?_) rfl rfl (by kernel_rfl) (by kernel_rfl) (by kernel_rfl) (by kernel_rfl) (fun _ _ _ h => h) (by rfl) ?_ (by assumption) ?_
  rotate_left
  · (intro w hSw; go_simp; first | done | with_reducible rfl)
  simp only [List.setIfInBounds_toArray, List.set_cons_zero, List.set_cons_succ]
  refine takeK 30 58 (v := ?_) rfl rfl (by kernel_rfl) (by kernel_rfl) (by kernel_rfl) (by kernel_rfl) (fun _ _ _ h => h) (by rfl) ?_ (by assumption) ?_
  rotate_left
  · (intro w hSw; go_simp; first | done | with_reducible rfl)
  simp only [List.setIfInBounds_toArray, List.set_cons_zero, List.set_cons_succ]
  refine takeK 31 59 (v := ?_) rfl rfl (by kernel_rfl) (by kernel_rfl) (by kernel_rfl) (by kernel_rfl) (fun _ _ _ h => h) (by rfl) ?_ (by assumption) ?_
  rotate_left
  · (intro w hSw; go_simp; first | done | with_reducible rfl)
  simp only [List.setIfInBounds_toArray, List.set_cons_zero, List.set_cons_succ]
  refine stepK 32 (by kernel_rfl) rfl (fun K hK => ?_)
  go_simp
  obtain ⟨w15, hw15⟩ : ∃ W, w14.alloc (.cells #[.int .i64 1, .int .i64 0] 3) = W := ⟨_, rfl⟩
  have HP : Hid (IntsOf w15 (.slice (some ⟨w14.heap.size, 0, none⟩) 2 2) [1, 0]) := Lib.hid (by rw [← hw15]; exact ints_pair _ _ (BlkC.new _ _ _))
  clear hHeld
  have hB : Below w14.heap.size w14 w15 := by rw [← hw15]; exact (Below.refl _ _).alloc (Nat.le_refl _) _
  have HB := Lib.hid (HB.out.trans (hB.mono HB.out.size))
  have HX := Lib.hid (HX.out.below hB)
  have H1 := Lib.hid (H1.out.below hB)
  have H2 := Lib.hid (H2.out.below hB)
  have H3 := Lib.hid (H3.out.below hB)
  clear hB
  rw [hw15]
  clear hw15
  go_wp2_with fail
  refine hK.out _ _ (⟨HX.out.c0, HX.out.c1, HX.out.c2⟩) (fun hHeld => ?_)
  clear hK K
  try simp only [Act.put, List.setIfInBounds_toArray, List.set_cons_zero, List.set_cons_succ]
  refine stepK 33 (by kernel_rfl) rfl (fun K hK => ?_)
  go_simp
  refine (sameInts_any _ _ _ _ w15 H3.out HP.out).mono ?_
  rintro e w16 ⟨rfl, hB⟩
  clear hHeld
  have HB := Lib.hid (HB.out.trans (hB.mono HB.out.size))
  have HX := Lib.hid (HX.out.below hB)
  have H1 := Lib.hid (H1.out.below hB)
  have H2 := Lib.hid (H2.out.below hB)
  have H3 := Lib.hid (H3.out.below hB)
  clear hB
  simp only [decide_true]
  go_wp2_with fail
  refine hK.out _ _ (⟨HX.out.c0, HX.out.c1, HX.out.c2⟩) (fun hHeld => ?_)
  clear hK K
  try simp only [Act.put, List.setIfInBounds_toArray, List.set_cons_zero, List.set_cons_succ]
  refine takeK 34 62 (v := ?_) rfl rfl (by kernel_rfl) (by kernel_rfl) (by kernel_rfl) (by kernel_rfl) (fun _ _ _ h => h) (by rfl) ?_ (by assumption) ?_
  rotate_left
  · (intro w hSw; go_simp; first | done | with_reducible rfl)
  simp only [List.setIfInBounds_toArray, List.set_cons_zero, List.set_cons_succ]
  refine takeK 35 63 (v := ?_) rfl rfl (by kernel_rfl) (by kernel_rfl) (by kernel_rfl) (by kernel_rfl) (fun _ _ _ h => h) (by rfl) ?_ (by assumption) ?_
  rotate_left
  · (intro w hSw; go_simp; first | done | with_reducible rfl)
  simp only [List.setIfInBounds_toArray, List.set_cons_zero, List.set_cons_succ]
  refine takeK 37 65 (v := ?_) rfl rfl (by kernel_rfl) (by kernel_rfl) (by kernel_rfl) (by kernel_rfl) (fun _ _ _ h => h) (by rfl) ?_ (by assumption) ?_
  rotate_left
  · (intro w hSw; go_simp; first | done | with_reducible rfl)
  simp only [List.setIfInBounds_toArray, List.set_cons_zero, List.set_cons_succ]
  refine stepK 36 (by kernel_rfl) rfl (fun K hK => ?_)
  go_simp
  refine (ex4 w16).mono ?_
  rintro e w17 ⟨⟨vi, vr, rfl, hc⟩, hB⟩
  have HC9 := Lib.hid hc
  clear hc hHeld
  have HB := Lib.hid (HB.out.trans (hB.mono HB.out.size))
  have HX := Lib.hid (HX.out.below hB)
  have H1 := Lib.hid (H1.out.below hB)
  have H2 := Lib.hid (H2.out.below hB)
  have H3 := Lib.hid (H3.out.below hB)
  clear hB
  go_wp2_with fail
  refine hK.out _ _ (⟨HX.out.c0, HX.out.c1, HX.out.c2⟩) (fun hHeld => ?_)
  clear hK K
  try simp only [Act.put, List.setIfInBounds_toArray, List.set_cons_zero, List.set_cons_succ]
  refine stepK 38 (by kernel_rfl) rfl (fun K hK => ?_)
  go_simp
  refine (check_ok _ _ _ _ _ (exCat 4) [0, 1] [3, 0] [1, 0] w17 HC9.out (ex_fine 4 (by decide) (by decide)) H1.out H2.out H3.out ⟨by decide, by decide⟩ (HK.out.keep HB.out)).mono ?_
  rintro e w18 ⟨rfl, hB⟩
  clear hHeld
  have HB := Lib.hid (HB.out.trans (hB.mono HB.out.size))
  have HX := Lib.hid (HX.out.below hB)
  have H1 := Lib.hid (H1.out.below hB)
  have H2 := Lib.hid (H2.out.below hB)
  have H3 := Lib.hid (H3.out.below hB)
  clear hB
  rw [ex_check]
  go_wp2_with fail
  refine hK.out _ _ (⟨HX.out.c0, HX.out.c1, HX.out.c2⟩) (fun hHeld => ?_)
  clear hK K
  try simp only [Act.put, List.setIfInBounds_toArray, List.set_cons_zero, List.set_cons_succ]
  refine takeK 39 67 (v := ?_) rfl rfl (by kernel_rfl) (by kernel_rfl) (by kernel_rfl) (by kernel_rfl) (fun _ _ _ h => h) (by rfl) ?_ (by assumption) ?_
  rotate_left
  · (intro w hSw; go_simp; first | done | with_reducible rfl)
  simp only [List.setIfInBounds_toArray, List.set_cons_zero, List.set_cons_succ]
  refine takeK 40 0 (v := ?_) rfl rfl (by kernel_rfl) (by kernel_rfl) (by kernel_rfl) (by kernel_rfl) (fun _ _ _ h => h) (by rfl) ?_ (by assumption) ?_
  rotate_left
  · (intro w hSw; go_simp; first | done | with_reducible rfl)
  simp only [List.setIfInBounds_toArray, List.set_cons_zero, List.set_cons_succ]
  refine doneK (by kernel_rfl) ?_ _
  clear hHeld
  go_wp2_with fail
  go_ret
  exact ⟨rfl, HB.out⟩
end Go.Proofs.YtfpcgjgkbniofaaGreatDoor
