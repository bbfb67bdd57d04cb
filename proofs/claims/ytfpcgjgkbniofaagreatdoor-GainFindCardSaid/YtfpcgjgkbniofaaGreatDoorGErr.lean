/- gain.Find and ref11.Find: the errors. -/
import Derived.Test.YtfpcgjgkbniofaaGreatDoorGFind
import Derived.Test.YtfpcgjgkbniofaaGreatDoorGRFind
set_option linter.unusedVariables false
set_option linter.unusedSimpArgs false
namespace Go.Proofs.YtfpcgjgkbniofaaGreatDoor
open Go.RowKit Go.Shelf
attribute [local go_sem] Oper.semAt_some

set_option maxRecDepth 100000 in
set_option maxHeartbeats 8000000 in
theorem find_many (vi vr : Value) (c : Cat) (most : Nat) (fuel : Int) (w : World) (hc : CatAt w vi vr c) (hf : Fine c) (hm1 : 1 ≤ most) (hm8 : most ≤ 8) (hu16 : 16 < (usL c).length) (hK : Kinds w) :
    CallsIn Fence.wide 31 Tryz.prog 18 #[catV vi vr, .int .i64 (most : Int), .int .i64 fuel] w (fun e w' => e = .returned (.tuple #[.agg #[.slice none 0 0, .slice none 0 0, .slice none 0 0], .bool false, .int .i64 4]) ∧ Below w.heap.size w w') := by
  obtain ⟨ai, ci, rfl, hi1, hi2⟩ := hc.items.form
  obtain ⟨ar, cr, rfl, hr1, hr2⟩ := hc.rules.form
  have HC := Lib.hid hc
  have HF := Lib.hid hf
  have HK := Lib.hid hK
  have hli := hf.good.items
  have hlr := hf.good.rules
  clear hc hf hK
  unfold catV
  refine callsIn_of_wp_marks Tryz.func18 rfl trivial ?_ rfl
  simp only [Tryz.ntmps18, List.size_toArray, List.length_cons, List.length_nil, Nat.reduceAdd, Nat.reduceSub, Array.replicate_succ, Array.replicate_zero, List.push_toArray, List.append_toArray, List.nil_append, List.cons_append]
  refine wpIn_wide.2 ?_
  obtain ⟨w1, hw1⟩ : ∃ w1, (((((w.alloc (.cells #[.slice ai c.items.length ci, .slice ar c.rules.length cr, .slice none 0 0, .slice none 0 0] 28)).alloc (.cells #[.int .i64 fuel] 3)).alloc (.cells #[.slice none 0 0, .slice none 0 0, .slice none 0 0] 42)).alloc (.cells #[.bool false] 4)).alloc (.cells #[.int .i64 0] 33)) = w1 := ⟨_, rfl⟩
  have HB : Hid (Below w.heap.size w w1) := Lib.hid (by rw [← hw1]; exact (((((Below.refl _ _).alloc (Nat.le_refl _) _).alloc (by simp) _).alloc (by simp; omega) _).alloc (by simp; omega) _).alloc (by simp; omega) _)
  have HX : Hid (FBox w w1 ai c.items.length ci ar c.rules.length cr fuel) := Lib.hid (by rw [← hw1]; exact FBox.new _ _ _ _ _ _ _ _)
  have m0 := HX.out.c.c0
  have m1 := HX.out.c.c1
  have m2 := HX.out.c.c2
  have m3 := HX.out.c.c3
  have mf := HX.out.f.cell
  have mlt := HX.out.c.lt
  go_wp2_with fail
  clear hw1
  refine (valid_good _ _ c w1 (HC.out.below HB.out) HF.out.good HF.out.named HF.out.ni HF.out.nr (HK.out.keep HB.out)).mono ?_
  rintro e w2 ⟨rfl, hB⟩
  replace HB := Lib.hid (HB.out.trans (hB.mono HB.out.size))
  replace HX := Lib.hid (HX.out.below hB)
  clear hB m0 m1 m2 m3 mf mlt
  have m0 := HX.out.c.c0
  have m1 := HX.out.c.c1
  have m2 := HX.out.c.c2
  have m3 := HX.out.c.c3
  have mf := HX.out.f.cell
  have mlt := HX.out.c.lt
  have q1 : decide ((most : Int) < 1) = false := by simp; omega
  have q2 : decide ((8 : Int) < (most : Int)) = false := by simp; omega
  go_wp2_with fail
  clear m0 m1 m2 m3 mf
  go_loopw [10, 32] (fun o i wr => ∃ (j : Nat) (ga : Option Addr) (gc : Nat), j ≤ c.rules.length ∧ i = .int .i64 j ∧ o = .slice ga (usT c j).length gc ∧ gc ≤ 9223372036854775807 ∧ (usT c j).length ≤ gc ∧ Hid (wr.ownsRow w2.heap.size 3 1 (.slice ga (usT c j).length gc) (usT c j).length ((usT c j).map natV)) ∧ Hid (Below w2.heap.size w2 wr)) (fun _ i _ => c.rules.length - (intOf i).toNat)
  case atStart => exact ⟨0, none, 0, by omega, rfl, rfl, by omega, by simp [usT], Lib.hid (World.ownsRow_nil _ _ _ _), Lib.hid (Below.refl _ _)⟩
  case round =>
    obtain ⟨j, ga, gc, hj, rfl, rfl, hgc, hgl, HO, HBl⟩ := hrel
    have hlen := usT_len c j
    by_cases hlt : j < c.rules.length
    · obtain ⟨b, cap, p, hv, hb, hr, hcs⟩ := RulesAt.at_ (HC.out.rules.below (HB.out.trans (HBl.out.mono HB.out.size))) j hlt
      injection hv with e1 e2 e3
      subst e1
      clear e2 e3
      obtain ⟨c0, c1, c2, c3, c4, c5, c6, c7, c8⟩ := hcs
      have HR1 := Lib.hid hr.t1
      have HT : Hid (usT c (j + 1) = usT c j ++ if usB c.rules[j] then [j] else []) := Lib.hid (usL_take c j hlt)
      have HUS := Lib.hid (fun W => usable_any c.rules[j] p W HR1.out)
      unfold rulV at HUS
      clear hr
      generalize c.rules[j] = x at *
      go_wp2_with fail
      refine (HUS.out _).mono ?_
      rintro e w5 ⟨rfl, hB5⟩
      have HB5 := Lib.hid ((HBl.out.alloc HBl.out.size _).trans (hB5.mono (by simp; have := HBl.out.size; omega)))
      have HO5 : Hid (w5.ownsRow w2.heap.size 3 1 (.slice ga (usT c j).length gc) (usT c j).length ((usT c j).map natV)) := Lib.hid ((Only.of_below (S := fun _ => False) hB5).own (HO.out.alloc _) (fun _ _ h => h))
      clear hB5 c0 c1 c2 c3 c4 c5 c6 c7 c8
      cases hub : usB x with
      | true =>
        rw [hub] at HT
        go_wp2_with (at_builtin; refine wpList_app1 elemInt rfl _ _ rfl [.int .i64 (j : Int)] 3 _ _ _ rfl rfl rfl (by simp [Value.oneCell']) HO5.out HB5.out (by have := HB5.out.size; omega) (by omega) (by omega) ?_)
        intro g6 cap6 w6 Hown6 HB6 HO6 hcap6 hat6
        have hlen6 : (usT c (j + 1)).length = (usT c j).length + 1 := by rw [HT.out]; simp
        have Hown7 : Hid (w6.ownsRow w2.heap.size 3 1 (.slice (some ⟨g6, 0, none⟩) (usT c (j + 1)).length cap6) (usT c (j + 1)).length ((usT c (j + 1)).map natV)) := Lib.hid (by rw [hlen6, HT.out]; have h9 := Hown6.out; simpa [natV] using h9)
        have hcl : (usT c (j + 1)).length ≤ cap6 := by
          rcases Hown7.out.2 with ⟨hv, _⟩ | ⟨_, _, _, hv, _, _, h4, h3, _⟩
          · cases hv
          · injection hv with _ _ e; omega
        have HL6 := Lib.hid hlen6
        clear Hown6 HO6 hat6 HO5 HO hub hlen6
        go_wp2_with fail
        go_roundw
        case rel => exact ⟨j + 1, some ⟨g6, 0, none⟩, cap6, by omega, by go_num, by rw [HL6.out], hcap6, hcl, Hown7, HB6⟩
        case measure => simp [intOf]; omega
      | false =>
        rw [hub] at HT
        have HE6 : Hid (usT c (j + 1) = usT c j) := Lib.hid (by rw [HT.out]; simp)
        clear hub
        go_wp2_with fail
        go_roundw
        case rel => exact ⟨j + 1, ga, gc, by omega, by go_num, by rw [HE6.out], hgc, by rw [HE6.out]; exact hgl, Lib.hid (by rw [HE6.out]; exact HO5.out), HB5⟩
        case measure => simp [intOf]; omega
    · obtain rfl : j = c.rules.length := by omega
      have hul : usT c c.rules.length = usL c := rfl
      rw [hul] at hgl hlen ⊢
      replace HX := Lib.hid (HX.out.below HBl.out)
      replace HB := Lib.hid (HB.out.trans (HBl.out.mono HB.out.size))
      have q3 : decide ((16 : Int) < ((usL c).length : Int)) = true := decide_eq_true (by omega)
      have q4 : decide (16 < (usL c).length) = true := decide_eq_true hu16
      obtain ⟨n, hn⟩ : ∃ n, (usL c).length = n := ⟨_, rfl⟩
      rw [hn] at q3 q4 hgl hlen ⊢
      clear hn hul HO HBl mlt
      have m0 := HX.out.c.c0
      have m1 := HX.out.c.c1
      have m2 := HX.out.c.c2
      have m3 := HX.out.c.c3
      have mf := HX.out.f.cell
      have mlt := HX.out.c.lt
      have r1 := HX.out.r1
      have e0 := r1.cell 0
      have e1 := r1.cell 1
      have e2 := r1.cell 2
      have h0 := r1.frozen 0
      have h1 := r1.frozen 1
      have h2 := r1.frozen 2
      have e3 := HX.out.r2.cell
      have h3 := HX.out.r2.frozen
      have e4 := HX.out.r3.cell
      have h4 := HX.out.r3.frozen
      simp only [List.getElem?_cons_zero, List.getElem?_cons_succ, nilS] at e0 e1 e2
      go_wp2_with fail
      clear e0 e1 e2 e3 e4 h0 h1 h2 h3 h4
      obtain ⟨Y, hY⟩ : ∃ Y, ((((wr.setCell ⟨w.heap.size + 2, 0, none⟩ (.slice none 0 0)).setCell ⟨w.heap.size + 2, 1, none⟩ (.slice none 0 0)).setCell ⟨w.heap.size + 2, 2, none⟩ (.slice none 0 0)).setCell ⟨w.heap.size + 3, 0, none⟩ (.bool false)).setCell ⟨w.heap.size + 4, 0, none⟩ (.int .i64 4) = Y := ⟨_, rfl⟩
      have hOY : Only (fun b => w.heap.size ≤ b) wr Y := by
        rw [← hY]
        exact ((((((Only.refl _ wr).set (p := ⟨w.heap.size + 2, 0, none⟩) (by simp) _).set (p := ⟨w.heap.size + 2, 1, none⟩) (by simp) _).set (p := ⟨w.heap.size + 2, 2, none⟩) (by simp) _).set (p := ⟨w.heap.size + 3, 0, none⟩) (by simp) _).set (p := ⟨w.heap.size + 4, 0, none⟩) (by simp) _)
      have y1 : BlkC Y (w.heap.size + 2) 42 [nilS, nilS, nilS] := by
        rw [← hY]
        exact ((((HX.out.r1.set 0 _).set 1 _).set 2 _).far (p := ⟨w.heap.size + 3, 0, none⟩) (show w.heap.size + 2 ≠ w.heap.size + 3 by omega) _).far (p := ⟨w.heap.size + 4, 0, none⟩) (show w.heap.size + 2 ≠ w.heap.size + 4 by omega) _
      have y2 : One Y (w.heap.size + 3) 4 (.bool false) := by
        rw [← hY]
        exact ((((HX.out.r2.far (p := ⟨w.heap.size + 2, 0, none⟩) (show w.heap.size + 3 ≠ w.heap.size + 2 by omega) _).far (p := ⟨w.heap.size + 2, 1, none⟩) (show w.heap.size + 3 ≠ w.heap.size + 2 by omega) _).far (p := ⟨w.heap.size + 2, 2, none⟩) (show w.heap.size + 3 ≠ w.heap.size + 2 by omega) _).set _).far (p := ⟨w.heap.size + 4, 0, none⟩) (show w.heap.size + 3 ≠ w.heap.size + 4 by omega) _
      have y3 : One Y (w.heap.size + 4) 33 (.int .i64 4) := by
        rw [← hY]
        exact ((((HX.out.r3.far (p := ⟨w.heap.size + 2, 0, none⟩) (show w.heap.size + 4 ≠ w.heap.size + 2 by omega) _).far (p := ⟨w.heap.size + 2, 1, none⟩) (show w.heap.size + 4 ≠ w.heap.size + 2 by omega) _).far (p := ⟨w.heap.size + 2, 2, none⟩) (show w.heap.size + 4 ≠ w.heap.size + 2 by omega) _).far (p := ⟨w.heap.size + 3, 0, none⟩) (show w.heap.size + 4 ≠ w.heap.size + 3 by omega) _).set _
      have d0 := y1.cell 0
      have d1 := y1.cell 1
      have d2 := y1.cell 2
      have d3 := y2.cell
      have d4 := y3.cell
      simp only [List.getElem?_cons_zero, List.getElem?_cons_succ, nilS] at d0 d1 d2
      rw [hY]
      exact ⟨.tuple #[.agg #[.slice none 0 0, .slice none 0 0, .slice none 0 0], .bool false, .int .i64 4], by simp [results, Tryz.results18, go_sem, d0, d1, d2, d3, d4], rfl, hOY.below HB.out HB.out.size (fun k hk => hk)⟩
set_option maxRecDepth 100000 in
set_option maxHeartbeats 8000000 in
theorem find_range (vi vr : Value) (c : Cat) (most : Int) (fuel : Int) (w : World) (hc : CatAt w vi vr c) (hf : Fine c) (hm : most < 1 ∨ 8 < most) (hK : Kinds w) :
    CallsIn Fence.wide 31 Tryz.prog 18 #[catV vi vr, .int .i64 most, .int .i64 fuel] w (fun e w' => e = .returned (.tuple #[.agg #[.slice none 0 0, .slice none 0 0, .slice none 0 0], .bool false, .int .i64 5]) ∧ Below w.heap.size w w') := by
  obtain ⟨ai, ci, rfl, hi1, hi2⟩ := hc.items.form
  obtain ⟨ar, cr, rfl, hr1, hr2⟩ := hc.rules.form
  have HC := Lib.hid hc
  have HF := Lib.hid hf
  have HK := Lib.hid hK
  have hli := hf.good.items
  have hlr := hf.good.rules
  clear hc hf hK
  unfold catV
  refine callsIn_of_wp_marks Tryz.func18 rfl trivial ?_ rfl
  simp only [Tryz.ntmps18, List.size_toArray, List.length_cons, List.length_nil, Nat.reduceAdd, Nat.reduceSub, Array.replicate_succ, Array.replicate_zero, List.push_toArray, List.append_toArray, List.nil_append, List.cons_append]
  refine wpIn_wide.2 ?_
  obtain ⟨w1, hw1⟩ : ∃ w1, (((((w.alloc (.cells #[.slice ai c.items.length ci, .slice ar c.rules.length cr, .slice none 0 0, .slice none 0 0] 28)).alloc (.cells #[.int .i64 fuel] 3)).alloc (.cells #[.slice none 0 0, .slice none 0 0, .slice none 0 0] 42)).alloc (.cells #[.bool false] 4)).alloc (.cells #[.int .i64 0] 33)) = w1 := ⟨_, rfl⟩
  have HB : Hid (Below w.heap.size w w1) := Lib.hid (by rw [← hw1]; exact (((((Below.refl _ _).alloc (Nat.le_refl _) _).alloc (by simp) _).alloc (by simp; omega) _).alloc (by simp; omega) _).alloc (by simp; omega) _)
  have HX : Hid (FBox w w1 ai c.items.length ci ar c.rules.length cr fuel) := Lib.hid (by rw [← hw1]; exact FBox.new _ _ _ _ _ _ _ _)
  have m0 := HX.out.c.c0
  have m1 := HX.out.c.c1
  have m2 := HX.out.c.c2
  have m3 := HX.out.c.c3
  have mf := HX.out.f.cell
  have mlt := HX.out.c.lt
  go_wp2_with fail
  clear hw1
  refine (valid_good _ _ c w1 (HC.out.below HB.out) HF.out.good HF.out.named HF.out.ni HF.out.nr (HK.out.keep HB.out)).mono ?_
  rintro e w2 ⟨rfl, hB⟩
  replace HB := Lib.hid (HB.out.trans (hB.mono HB.out.size))
  replace HX := Lib.hid (HX.out.below hB)
  clear hB m0 m1 m2 m3 mf mlt
  have m0 := HX.out.c.c0
  have m1 := HX.out.c.c1
  have m2 := HX.out.c.c2
  have m3 := HX.out.c.c3
  have mf := HX.out.f.cell
  have mlt := HX.out.c.lt
  by_cases hm1 : most < 1
  · have q1 : decide (most < 1) = true := decide_eq_true hm1
    have r1 := HX.out.r1
    have e0 := r1.cell 0
    have e1 := r1.cell 1
    have e2 := r1.cell 2
    have h0 := r1.frozen 0
    have h1 := r1.frozen 1
    have h2 := r1.frozen 2
    have e3 := HX.out.r2.cell
    have h3 := HX.out.r2.frozen
    have e4 := HX.out.r3.cell
    have h4 := HX.out.r3.frozen
    simp only [List.getElem?_cons_zero, List.getElem?_cons_succ, nilS] at e0 e1 e2
    go_wp2_with fail
    clear e0 e1 e2 e3 e4 h0 h1 h2 h3 h4
    obtain ⟨Y, hY⟩ : ∃ Y, ((((w2.setCell ⟨w.heap.size + 2, 0, none⟩ (.slice none 0 0)).setCell ⟨w.heap.size + 2, 1, none⟩ (.slice none 0 0)).setCell ⟨w.heap.size + 2, 2, none⟩ (.slice none 0 0)).setCell ⟨w.heap.size + 3, 0, none⟩ (.bool false)).setCell ⟨w.heap.size + 4, 0, none⟩ (.int .i64 5) = Y := ⟨_, rfl⟩
    have hOY : Only (fun b => w.heap.size ≤ b) w2 Y := by
      rw [← hY]
      exact ((((((Only.refl _ w2).set (p := ⟨w.heap.size + 2, 0, none⟩) (by simp) _).set (p := ⟨w.heap.size + 2, 1, none⟩) (by simp) _).set (p := ⟨w.heap.size + 2, 2, none⟩) (by simp) _).set (p := ⟨w.heap.size + 3, 0, none⟩) (by simp) _).set (p := ⟨w.heap.size + 4, 0, none⟩) (by simp) _)
    have y1 : BlkC Y (w.heap.size + 2) 42 [nilS, nilS, nilS] := by
      rw [← hY]
      exact ((((HX.out.r1.set 0 _).set 1 _).set 2 _).far (p := ⟨w.heap.size + 3, 0, none⟩) (show w.heap.size + 2 ≠ w.heap.size + 3 by omega) _).far (p := ⟨w.heap.size + 4, 0, none⟩) (show w.heap.size + 2 ≠ w.heap.size + 4 by omega) _
    have y2 : One Y (w.heap.size + 3) 4 (.bool false) := by
      rw [← hY]
      exact ((((HX.out.r2.far (p := ⟨w.heap.size + 2, 0, none⟩) (show w.heap.size + 3 ≠ w.heap.size + 2 by omega) _).far (p := ⟨w.heap.size + 2, 1, none⟩) (show w.heap.size + 3 ≠ w.heap.size + 2 by omega) _).far (p := ⟨w.heap.size + 2, 2, none⟩) (show w.heap.size + 3 ≠ w.heap.size + 2 by omega) _).set _).far (p := ⟨w.heap.size + 4, 0, none⟩) (show w.heap.size + 3 ≠ w.heap.size + 4 by omega) _
    have y3 : One Y (w.heap.size + 4) 33 (.int .i64 5) := by
      rw [← hY]
      exact ((((HX.out.r3.far (p := ⟨w.heap.size + 2, 0, none⟩) (show w.heap.size + 4 ≠ w.heap.size + 2 by omega) _).far (p := ⟨w.heap.size + 2, 1, none⟩) (show w.heap.size + 4 ≠ w.heap.size + 2 by omega) _).far (p := ⟨w.heap.size + 2, 2, none⟩) (show w.heap.size + 4 ≠ w.heap.size + 2 by omega) _).far (p := ⟨w.heap.size + 3, 0, none⟩) (show w.heap.size + 4 ≠ w.heap.size + 3 by omega) _).set _
    have d0 := y1.cell 0
    have d1 := y1.cell 1
    have d2 := y1.cell 2
    have d3 := y2.cell
    have d4 := y3.cell
    simp only [List.getElem?_cons_zero, List.getElem?_cons_succ, nilS] at d0 d1 d2
    rw [hY]
    exact ⟨.tuple #[.agg #[.slice none 0 0, .slice none 0 0, .slice none 0 0], .bool false, .int .i64 5], by simp [results, Tryz.results18, go_sem, d0, d1, d2, d3, d4], rfl, hOY.below HB.out HB.out.size (fun k hk => hk)⟩
  · have q1 : decide (most < 1) = false := decide_eq_false hm1
    have q2 : decide ((8 : Int) < most) = true := decide_eq_true (by omega)
    clear hm hm1
    have r1 := HX.out.r1
    have e0 := r1.cell 0
    have e1 := r1.cell 1
    have e2 := r1.cell 2
    have h0 := r1.frozen 0
    have h1 := r1.frozen 1
    have h2 := r1.frozen 2
    have e3 := HX.out.r2.cell
    have h3 := HX.out.r2.frozen
    have e4 := HX.out.r3.cell
    have h4 := HX.out.r3.frozen
    simp only [List.getElem?_cons_zero, List.getElem?_cons_succ, nilS] at e0 e1 e2
    go_wp2_with fail
    clear e0 e1 e2 e3 e4 h0 h1 h2 h3 h4
    obtain ⟨Y, hY⟩ : ∃ Y, ((((w2.setCell ⟨w.heap.size + 2, 0, none⟩ (.slice none 0 0)).setCell ⟨w.heap.size + 2, 1, none⟩ (.slice none 0 0)).setCell ⟨w.heap.size + 2, 2, none⟩ (.slice none 0 0)).setCell ⟨w.heap.size + 3, 0, none⟩ (.bool false)).setCell ⟨w.heap.size + 4, 0, none⟩ (.int .i64 5) = Y := ⟨_, rfl⟩
    have hOY : Only (fun b => w.heap.size ≤ b) w2 Y := by
      rw [← hY]
      exact ((((((Only.refl _ w2).set (p := ⟨w.heap.size + 2, 0, none⟩) (by simp) _).set (p := ⟨w.heap.size + 2, 1, none⟩) (by simp) _).set (p := ⟨w.heap.size + 2, 2, none⟩) (by simp) _).set (p := ⟨w.heap.size + 3, 0, none⟩) (by simp) _).set (p := ⟨w.heap.size + 4, 0, none⟩) (by simp) _)
    have y1 : BlkC Y (w.heap.size + 2) 42 [nilS, nilS, nilS] := by
      rw [← hY]
      exact ((((HX.out.r1.set 0 _).set 1 _).set 2 _).far (p := ⟨w.heap.size + 3, 0, none⟩) (show w.heap.size + 2 ≠ w.heap.size + 3 by omega) _).far (p := ⟨w.heap.size + 4, 0, none⟩) (show w.heap.size + 2 ≠ w.heap.size + 4 by omega) _
    have y2 : One Y (w.heap.size + 3) 4 (.bool false) := by
      rw [← hY]
      exact ((((HX.out.r2.far (p := ⟨w.heap.size + 2, 0, none⟩) (show w.heap.size + 3 ≠ w.heap.size + 2 by omega) _).far (p := ⟨w.heap.size + 2, 1, none⟩) (show w.heap.size + 3 ≠ w.heap.size + 2 by omega) _).far (p := ⟨w.heap.size + 2, 2, none⟩) (show w.heap.size + 3 ≠ w.heap.size + 2 by omega) _).set _).far (p := ⟨w.heap.size + 4, 0, none⟩) (show w.heap.size + 3 ≠ w.heap.size + 4 by omega) _
    have y3 : One Y (w.heap.size + 4) 33 (.int .i64 5) := by
      rw [← hY]
      exact ((((HX.out.r3.far (p := ⟨w.heap.size + 2, 0, none⟩) (show w.heap.size + 4 ≠ w.heap.size + 2 by omega) _).far (p := ⟨w.heap.size + 2, 1, none⟩) (show w.heap.size + 4 ≠ w.heap.size + 2 by omega) _).far (p := ⟨w.heap.size + 2, 2, none⟩) (show w.heap.size + 4 ≠ w.heap.size + 2 by omega) _).far (p := ⟨w.heap.size + 3, 0, none⟩) (show w.heap.size + 4 ≠ w.heap.size + 3 by omega) _).set _
    have d0 := y1.cell 0
    have d1 := y1.cell 1
    have d2 := y1.cell 2
    have d3 := y2.cell
    have d4 := y3.cell
    simp only [List.getElem?_cons_zero, List.getElem?_cons_succ, nilS] at d0 d1 d2
    rw [hY]
    exact ⟨.tuple #[.agg #[.slice none 0 0, .slice none 0 0, .slice none 0 0], .bool false, .int .i64 5], by simp [results, Tryz.results18, go_sem, d0, d1, d2, d3, d4], rfl, hOY.below HB.out HB.out.size (fun k hk => hk)⟩
set_option maxRecDepth 100000 in
set_option maxHeartbeats 8000000 in
theorem find_bad (vi vr : Value) (c : Cat) (most : Int) (fuel : Int) (w : World) (hc : CatAt w vi vr c) (hg : Good c) (hn : Named c) (hd : ¬ c.items.Nodup) (hK : Kinds w) :
    CallsIn Fence.wide 31 Tryz.prog 18 #[catV vi vr, .int .i64 most, .int .i64 fuel] w (fun e w' => e = .returned (.tuple #[.agg #[.slice none 0 0, .slice none 0 0, .slice none 0 0], .bool false, .int .i64 8]) ∧ Below w.heap.size w w') := by
  obtain ⟨ai, ci, rfl, hi1, hi2⟩ := hc.items.form
  obtain ⟨ar, cr, rfl, hr1, hr2⟩ := hc.rules.form
  have HC := Lib.hid hc
  have HK := Lib.hid hK
  have HGO := Lib.hid hg
  have HNA := Lib.hid hn
  have HDU := Lib.hid hd
  clear hg hn hd
  clear hc hK
  unfold catV
  refine callsIn_of_wp_marks Tryz.func18 rfl trivial ?_ rfl
  simp only [Tryz.ntmps18, List.size_toArray, List.length_cons, List.length_nil, Nat.reduceAdd, Nat.reduceSub, Array.replicate_succ, Array.replicate_zero, List.push_toArray, List.append_toArray, List.nil_append, List.cons_append]
  refine wpIn_wide.2 ?_
  obtain ⟨w1, hw1⟩ : ∃ w1, (((((w.alloc (.cells #[.slice ai c.items.length ci, .slice ar c.rules.length cr, .slice none 0 0, .slice none 0 0] 28)).alloc (.cells #[.int .i64 fuel] 3)).alloc (.cells #[.slice none 0 0, .slice none 0 0, .slice none 0 0] 42)).alloc (.cells #[.bool false] 4)).alloc (.cells #[.int .i64 0] 33)) = w1 := ⟨_, rfl⟩
  have HB : Hid (Below w.heap.size w w1) := Lib.hid (by rw [← hw1]; exact (((((Below.refl _ _).alloc (Nat.le_refl _) _).alloc (by simp) _).alloc (by simp; omega) _).alloc (by simp; omega) _).alloc (by simp; omega) _)
  have HX : Hid (FBox w w1 ai c.items.length ci ar c.rules.length cr fuel) := Lib.hid (by rw [← hw1]; exact FBox.new _ _ _ _ _ _ _ _)
  have m0 := HX.out.c.c0
  have m1 := HX.out.c.c1
  have m2 := HX.out.c.c2
  have m3 := HX.out.c.c3
  have mf := HX.out.f.cell
  have mlt := HX.out.c.lt
  go_wp2_with fail
  clear hw1
  refine (valid_bad _ _ c w1 (HC.out.below HB.out) HGO.out HNA.out HDU.out (HK.out.keep HB.out)).mono ?_
  rintro e w2 ⟨rfl, hB⟩
  replace HB := Lib.hid (HB.out.trans (hB.mono HB.out.size))
  replace HX := Lib.hid (HX.out.below hB)
  clear hB m0 m1 m2 m3 mf mlt
  have m0 := HX.out.c.c0
  have m1 := HX.out.c.c1
  have m2 := HX.out.c.c2
  have m3 := HX.out.c.c3
  have mf := HX.out.f.cell
  have mlt := HX.out.c.lt
  have r1 := HX.out.r1
  have e0 := r1.cell 0
  have e1 := r1.cell 1
  have e2 := r1.cell 2
  have h0 := r1.frozen 0
  have h1 := r1.frozen 1
  have h2 := r1.frozen 2
  have e3 := HX.out.r2.cell
  have h3 := HX.out.r2.frozen
  have e4 := HX.out.r3.cell
  have h4 := HX.out.r3.frozen
  simp only [List.getElem?_cons_zero, List.getElem?_cons_succ, nilS] at e0 e1 e2
  go_wp2_with fail
  clear e0 e1 e2 e3 e4 h0 h1 h2 h3 h4
  obtain ⟨Y, hY⟩ : ∃ Y, ((((w2.setCell ⟨w.heap.size + 2, 0, none⟩ (.slice none 0 0)).setCell ⟨w.heap.size + 2, 1, none⟩ (.slice none 0 0)).setCell ⟨w.heap.size + 2, 2, none⟩ (.slice none 0 0)).setCell ⟨w.heap.size + 3, 0, none⟩ (.bool false)).setCell ⟨w.heap.size + 4, 0, none⟩ (.int .i64 8) = Y := ⟨_, rfl⟩
  have hOY : Only (fun b => w.heap.size ≤ b) w2 Y := by
    rw [← hY]
    exact ((((((Only.refl _ w2).set (p := ⟨w.heap.size + 2, 0, none⟩) (by simp) _).set (p := ⟨w.heap.size + 2, 1, none⟩) (by simp) _).set (p := ⟨w.heap.size + 2, 2, none⟩) (by simp) _).set (p := ⟨w.heap.size + 3, 0, none⟩) (by simp) _).set (p := ⟨w.heap.size + 4, 0, none⟩) (by simp) _)
  have y1 : BlkC Y (w.heap.size + 2) 42 [nilS, nilS, nilS] := by
    rw [← hY]
    exact ((((HX.out.r1.set 0 _).set 1 _).set 2 _).far (p := ⟨w.heap.size + 3, 0, none⟩) (show w.heap.size + 2 ≠ w.heap.size + 3 by omega) _).far (p := ⟨w.heap.size + 4, 0, none⟩) (show w.heap.size + 2 ≠ w.heap.size + 4 by omega) _
  have y2 : One Y (w.heap.size + 3) 4 (.bool false) := by
    rw [← hY]
    exact ((((HX.out.r2.far (p := ⟨w.heap.size + 2, 0, none⟩) (show w.heap.size + 3 ≠ w.heap.size + 2 by omega) _).far (p := ⟨w.heap.size + 2, 1, none⟩) (show w.heap.size + 3 ≠ w.heap.size + 2 by omega) _).far (p := ⟨w.heap.size + 2, 2, none⟩) (show w.heap.size + 3 ≠ w.heap.size + 2 by omega) _).set _).far (p := ⟨w.heap.size + 4, 0, none⟩) (show w.heap.size + 3 ≠ w.heap.size + 4 by omega) _
  have y3 : One Y (w.heap.size + 4) 33 (.int .i64 8) := by
    rw [← hY]
    exact ((((HX.out.r3.far (p := ⟨w.heap.size + 2, 0, none⟩) (show w.heap.size + 4 ≠ w.heap.size + 2 by omega) _).far (p := ⟨w.heap.size + 2, 1, none⟩) (show w.heap.size + 4 ≠ w.heap.size + 2 by omega) _).far (p := ⟨w.heap.size + 2, 2, none⟩) (show w.heap.size + 4 ≠ w.heap.size + 2 by omega) _).far (p := ⟨w.heap.size + 3, 0, none⟩) (show w.heap.size + 4 ≠ w.heap.size + 3 by omega) _).set _
  have d0 := y1.cell 0
  have d1 := y1.cell 1
  have d2 := y1.cell 2
  have d3 := y2.cell
  have d4 := y3.cell
  simp only [List.getElem?_cons_zero, List.getElem?_cons_succ, nilS] at d0 d1 d2
  rw [hY]
  exact ⟨.tuple #[.agg #[.slice none 0 0, .slice none 0 0, .slice none 0 0], .bool false, .int .i64 8], by simp [results, Tryz.results18, go_sem, d0, d1, d2, d3, d4], rfl, hOY.below HB.out HB.out.size (fun k hk => hk)⟩
end Go.Proofs.YtfpcgjgkbniofaaGreatDoor
