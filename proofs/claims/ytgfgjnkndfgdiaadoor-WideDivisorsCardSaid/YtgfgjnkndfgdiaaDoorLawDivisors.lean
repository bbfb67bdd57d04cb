/- the law WideDivisors: its walk. -/
import Derived.Test.YtgfgjnkndfgdiaaDoorWQuo
import Derived.Test.YtgfgjnkndfgdiaaDoorR5Gcd
import Derived.Test.YtgfgjnkndfgdiaaDoorNRow
set_option linter.unusedVariables false
set_option linter.unusedSimpArgs false
namespace Go.Proofs.YtgfgjnkndfgdiaaDoor
open Go.RowKit

theorem lt_mul {x y : Int} {a b : Nat} (hx : x.natAbs < 2 ^ a) (hy : y.natAbs < 2 ^ b) : (x * y).natAbs < 2 ^ (a + b) := by
  rw [Int.natAbs_mul, Nat.pow_add]
  exact Nat.mul_lt_mul'' hx hy
theorem lim_zero : (0 : Int).natAbs < LIM := lim_of_le (k := 0) (by decide) (by decide)
theorem lim_one : (1 : Int).natAbs < LIM := lim_of_le (k := 1) (by decide) (by decide)
theorem RInt.len0 {w : World} {s : Bool} {a : Option Addr} {n c : Nat} {z : Int} (h : RInt w (.agg #[.bool s, .slice a n c]) z) : n = 0 ↔ z = 0 := by
  obtain ⟨_, _, hv, _⟩ := h.dig
  injection hv with _ e
  rw [e, List.length_eq_zero_iff, digs_nil T4 _ t4_two]
  omega
structure DLims (zs : List Int) (len : Nat) : Prop where
  c : (numZ zs len 12).natAbs < LIM
  n0 : (numZ zs len 0).natAbs < LIM
  n6 : (numZ zs len 6).natAbs < LIM
  a : (numZ zs len 0 * numZ zs len 12).natAbs < LIM
  b : (numZ zs len 6 * numZ zs len 12).natAbs < LIM
theorem div_lims (zs : List Int) (len : Nat) : DLims zs len :=
  ⟨lim_of_le (k := 230) (by decide) (numZ_lt zs len 12), lim_of_le (k := 230) (by decide) (numZ_lt zs len 0), lim_of_le (k := 230) (by decide) (numZ_lt zs len 6), lim_of_le (k := 230 + 230) (by decide) (lt_mul (numZ_lt zs len 0) (numZ_lt zs len 12)), lim_of_le (k := 230 + 230) (by decide) (lt_mul (numZ_lt zs len 6) (numZ_lt zs len 12))⟩
theorem gcd_lim (A B : Int) (G : Nat) (hG : Nat.gcd A.natAbs B.natAbs = G) (hA : A.natAbs < LIM) (hB : B.natAbs < LIM) : (G : Int).natAbs < LIM := by
  rw [Int.natAbs_natCast, ← hG]
  by_cases h : A.natAbs = 0
  · rw [h, Nat.gcd_zero_left]
    exact hB
  · exact Nat.lt_of_le_of_lt (Nat.gcd_le_left _ (by omega)) hA

/-- the quotients by the greatest common divisor -/
theorem div_gcd (A B : Int) (G : Nat) (hG : Nat.gcd A.natAbs B.natAbs = G) (h0 : G ≠ 0) :
    rOf A G = 0 ∧ rOf B G = 0 ∧ (qOf A G).natAbs ≤ A.natAbs ∧ (qOf B G).natAbs ≤ B.natAbs ∧ Nat.gcd (qOf A G).natAbs (qOf B G).natAbs = 1 := by
  have d1 : G ∣ A.natAbs := by rw [← hG]; exact Nat.gcd_dvd_left _ _
  have d2 : G ∣ B.natAbs := by rw [← hG]; exact Nat.gcd_dvd_right _ _
  have m1 : A.natAbs % (G : Int).natAbs = 0 := by rw [Int.natAbs_natCast]; exact Nat.mod_eq_zero_of_dvd d1
  have m2 : B.natAbs % (G : Int).natAbs = 0 := by rw [Int.natAbs_natCast]; exact Nat.mod_eq_zero_of_dvd d2
  obtain ⟨q1, r1⟩ := qOf_pos (x := A) (y := (G : Int)) (fun h => h.2 m1)
  obtain ⟨q2, r2⟩ := qOf_pos (x := B) (y := (G : Int)) (fun h => h.2 m2)
  rw [q1, q2, r1, r2, sgn_natAbs, sgn_natAbs, Int.natAbs_natCast]
  rw [Int.natAbs_natCast] at m1 m2
  refine ⟨m1, m2, Nat.div_le_self _ _, Nat.div_le_self _ _, ?_⟩
  rw [Nat.gcd_div d1 d2, hG, Nat.div_self (by omega)]

set_option maxRecDepth 100000 in
set_option maxHeartbeats 8000000 in
theorem wideDivisors_any (v : Value) (zs : List Int) (len : Nat) (w0 : World) (h : IntsAt w0 v zs len) (hT : Pow10 w0) :
    Calls Tryd.prog 9 #[v] w0 fun e w' => e = .returned (.bool true) ∧ Below w0.heap.size w0 w' := by
  have HI := Lib.hid h
  have HP := Lib.hid hT
  have hg := hT.lt
  have HB := Lib.hid (Below.refl w0.heap.size w0)
  obtain ⟨va, vl, vc, rfl, hv⟩ : ∃ va vl vc, v = .slice va vl vc ∧ vl ≤ 9223372036854775807 := by
    rcases h with ⟨a, cap, rfl, rfl, hcap⟩ | ⟨b, off, cap, rfl, _, h1, h2, _⟩
    · exact ⟨_, _, _, rfl, by omega⟩
    · exact ⟨_, _, _, rfl, by omega⟩
  clear h hT
  go_enter Tryd.func9, Tryd.ntmps9
  go_wp2_with fail
  have HR := Lib.hid (div_lims zs len)
  refine (number_any _ zs len 12 w0 (HI.out.below (Nat.le_refl _) HB.out) (by omega)).mono ?_
  rintro e w1 ⟨⟨vc, rfl, hc⟩, hB⟩
  replace HB := Lib.hid (HB.out.trans (hB.mono HB.out.size))
  have Hc := Lib.hid hc
  obtain ⟨s_c, a_c, n_c, c_c, rfl⟩ := hc.form2
  clear hB hc
  obtain ⟨w2, hw⟩ : ∃ w', (w1.alloc (.cells #[.bool s_c, .slice a_c n_c c_c] 25)) = w' := ⟨_, rfl⟩
  have hB : Below w1.heap.size w1 w2 := by rw [← hw]; exact (Below.refl _ _).alloc (Nat.le_refl _) _
  obtain ⟨b_c, hb_c⟩ : ∃ b, w1.heap.size = b := ⟨_, rfl⟩
  have Tc' : Hid (Two w2 b_c 25 (.bool s_c) (.slice a_c n_c c_c)) := Lib.hid (by rw [← hw, ← hb_c]; have h9 := (Two.new w1 25 (.bool s_c) (.slice a_c n_c c_c)); exact h9)
  replace Hc := Lib.hid (Hc.out.below (Nat.le_refl _) hB)
  replace HB := Lib.hid (HB.out.trans (hB.mono HB.out.size))
  have Tc := Tc'
  clear hB Tc'
  go_wp2_with fail
  clear hw hb_c
  refine wp_join (fun t ds a w' => ∃ (v19 : Value) (v20 : Value) (v21 : Value) (v22 : Value) (s_a : Bool) (a_a : Option Addr) (n_a c_a : Nat) (b_a : Nat), a = ⟨(((((t.setIfInBounds 19 v19).setIfInBounds 20 v20).setIfInBounds 21 v21).setIfInBounds 22 v22).setIfInBounds 4 (.pointer (some ⟨b_a, 0, none⟩))), ds⟩ ∧ Hid (Below w2.heap.size w2 w') ∧ Hid (RInt w' (.agg #[.bool s_a, .slice a_a n_a c_a]) (numZ zs len 0 * numZ zs len 12)) ∧ Hid (Two w' b_a 25 (.bool s_a) (.slice a_a n_a c_a))) ?_ ?_
  · skip
    obtain ⟨w3, hwd⟩ : ∃ w', w2.drew = w' := ⟨_, rfl⟩
    have hB : Below w2.heap.size w2 w3 := by rw [← hwd]; exact (Below.refl _ _).drew
    have HBr := Lib.hid hB
    have Tco := Tc
    replace Hc := Lib.hid (Hc.out.below (Nat.le_refl _) hB)
    replace Tc := Lib.hid (Tc.out.below hB Tc.out.lt)
    replace HB := Lib.hid (HB.out.trans (hB.mono HB.out.size))
    clear hB
    refine startK 5 (fun w' => Below w2.heap.size w2 w') (by kernel_rfl) (by rw [hwd]; exact HBr.out) (fun hHeld => ?_)
    rw [hwd] at hHeld ⊢
    clear hwd
    refine takeK 0 19 (v := ?_) rfl rfl (by kernel_rfl) (by kernel_rfl) (by kernel_rfl) (by kernel_rfl) (fun _ _ _ h => h) (by rfl) ?_ (by assumption) ?_
    rotate_left
    · (intro w hSw; go_simp; first | done | with_reducible rfl)
    simp only [List.setIfInBounds_toArray, List.set_cons_zero, List.set_cons_succ]
    refine takeK 2 21 (v := ?_) rfl rfl (by kernel_rfl) (by kernel_rfl) (by kernel_rfl) (by kernel_rfl) (fun _ _ _ h => h) (by rfl) ?_ (by assumption) ?_
    rotate_left
    · (intro w hSw; have x0c := (hSw.cell (p := ⟨b_c, 0, none⟩) Tco.out.lt).trans Tco.out.cell0; have x1c := (hSw.cell (p := ⟨b_c, 1, none⟩) Tco.out.lt).trans Tco.out.cell1; go_simp; first | done | with_reducible rfl)
    simp only [List.setIfInBounds_toArray, List.set_cons_zero, List.set_cons_succ]
    refine forkK [1, 4] (by kernel_rfl) (by simp) ⟨forkOne 1 rfl (fun K hK => ?_), forkOne 4 rfl (fun K hK => ?_), trivial⟩
    · skip
      go_simp
      refine (number_any _ zs len 0 w3 (HI.out.below (Nat.le_refl _) HB.out) (by omega)).mono ?_
      rintro e w4 ⟨⟨vp, rfl, hp⟩, hB⟩
      replace Hc := Lib.hid (Hc.out.below (Nat.le_refl _) hB)
      replace Tc := Lib.hid (Tc.out.below hB Tc.out.lt)
      replace HB := Lib.hid (HB.out.trans (hB.mono HB.out.size))
      replace HBr := Lib.hid (HBr.out.trans (hB.mono HBr.out.size))
      have Hp := Lib.hid hp
      obtain ⟨s_p, a_p, n_p, c_p, rfl⟩ := hp.form2
      clear hB hp
      refine hK.out _ _ HBr.out (fun hHeld => ?_)
      clear hK K
      try simp only [Act.put, List.setIfInBounds_toArray, List.set_cons_zero, List.set_cons_succ]
      refine forkK [3, 4] (by kernel_rfl) (by simp) ⟨forkOne 3 rfl (fun K hK => ?_), forkOne 4 rfl (fun K hK => ?_), trivial⟩
      · skip
        go_simp
        refine (rmul_any _ _ _ _ w4 Hp.out Hc.out (Nat.le_trans (lim_len4 _ HR.out.n0) (by omega)) (Nat.le_trans (lim_len4 _ HR.out.c) (by omega))).mono ?_
        rintro e w5 ⟨⟨va, rfl, ha⟩, hB⟩
        replace Hc := Lib.hid (Hc.out.below (Nat.le_refl _) hB)
        replace Hp := Lib.hid (Hp.out.below (Nat.le_refl _) hB)
        replace Tc := Lib.hid (Tc.out.below hB Tc.out.lt)
        replace HB := Lib.hid (HB.out.trans (hB.mono HB.out.size))
        replace HBr := Lib.hid (HBr.out.trans (hB.mono HBr.out.size))
        have Ha := Lib.hid ha
        obtain ⟨s_a, a_a, n_a, c_a, rfl⟩ := ha.form2
        clear hB ha
        refine hK.out _ _ HBr.out (fun hHeld => ?_)
        clear hK K
        try simp only [Act.put, List.setIfInBounds_toArray, List.set_cons_zero, List.set_cons_succ]
        refine stepK 4 (by kernel_rfl) rfl (fun K hK => ?_)
        go_simp
        obtain ⟨w6, hw⟩ : ∃ w', w5.alloc (.cells #[.bool false, .slice none 0 0] 25) = w' := ⟨_, rfl⟩
        have hB : Below w5.heap.size w5 w6 := by rw [← hw]; exact (Below.refl _ _).alloc (Nat.le_refl _) _
        obtain ⟨b_a, hb⟩ : ∃ b, w5.heap.size = b := ⟨_, rfl⟩
        have Ta' : Hid (Two w6 b_a 25 (.bool false) (.slice none 0 0)) := Lib.hid (by rw [← hw, ← hb]; exact Two.new w5 25 (.bool false) (.slice none 0 0))
        have hl_a : w2.heap.size ≤ b_a := by rw [← hb]; exact HBr.out.size
        replace Hc := Lib.hid (Hc.out.below (Nat.le_refl _) hB)
        replace Hp := Lib.hid (Hp.out.below (Nat.le_refl _) hB)
        replace Ha := Lib.hid (Ha.out.below (Nat.le_refl _) hB)
        replace Tc := Lib.hid (Tc.out.below hB Tc.out.lt)
        replace HB := Lib.hid (HB.out.trans (hB.mono HB.out.size))
        replace HBr := Lib.hid (HBr.out.trans (hB.mono HBr.out.size))
        have Ta := Ta'
        clear hB Ta'
        rw [hw]
        try rw [hb]
        clear hw hb
        refine hK.out _ _ HBr.out (fun hHeld => ?_)
        clear hK K
        try simp only [Act.put, List.setIfInBounds_toArray, List.set_cons_zero, List.set_cons_succ]
        have f0 := Ta.out.cell0
        have g0 := Ta.out.frozen 0
        have f1 := Ta.out.cell1
        have g1 := Ta.out.frozen 1
        obtain ⟨w7, hw⟩ : ∃ w', (w6.setCell ⟨b_a, 0, none⟩ (.bool s_a)).setCell ⟨b_a, 1, none⟩ (.slice a_a n_a c_a) = w' := ⟨_, rfl⟩
        have Tz := Ta
        replace Ha : Hid (RInt w7 (.agg #[.bool s_a, .slice a_a n_a c_a]) (numZ zs len 0 * numZ zs len 12)) := Lib.hid (by rw [← hw]; exact Ha.out.set_two Tz.out _ _)
        replace Ta : Hid (Two w7 b_a 25 (.bool s_a) (.slice a_a n_a c_a)) := Lib.hid (by rw [← hw]; exact Tz.out.put2 _ _)
        replace HBr : Hid (Below w2.heap.size w2 w7) := Lib.hid (by rw [← hw]; exact (HBr.out.setCell (p := ⟨b_a, 0, none⟩) hl_a _).setCell (p := ⟨b_a, 1, none⟩) hl_a _)
        refine lastK (by kernel_rfl) rfl (by kernel_rfl) (fun K hK => ?_)
        go_simp
        refine hK.out _ _ ?_
        clear hK K
        try simp only [Act.put, List.setIfInBounds_toArray, List.set_cons_zero, List.set_cons_succ]
        try rw [hw]
        refine joinQ_normal ⟨_, _, _, _, _, _, _, _, _, by first | rfl | (simp only [List.setIfInBounds_toArray, List.set_cons_zero, List.set_cons_succ]; rfl), HBr, Ha, Ta⟩
      · skip
        go_simp
        obtain ⟨w5, hw⟩ : ∃ w', w4.alloc (.cells #[.bool false, .slice none 0 0] 25) = w' := ⟨_, rfl⟩
        have hB : Below w4.heap.size w4 w5 := by rw [← hw]; exact (Below.refl _ _).alloc (Nat.le_refl _) _
        obtain ⟨b_a, hb⟩ : ∃ b, w4.heap.size = b := ⟨_, rfl⟩
        have Ta' : Hid (Two w5 b_a 25 (.bool false) (.slice none 0 0)) := Lib.hid (by rw [← hw, ← hb]; exact Two.new w4 25 (.bool false) (.slice none 0 0))
        have hl_a : w2.heap.size ≤ b_a := by rw [← hb]; exact HBr.out.size
        replace Hc := Lib.hid (Hc.out.below (Nat.le_refl _) hB)
        replace Hp := Lib.hid (Hp.out.below (Nat.le_refl _) hB)
        replace Tc := Lib.hid (Tc.out.below hB Tc.out.lt)
        replace HB := Lib.hid (HB.out.trans (hB.mono HB.out.size))
        replace HBr := Lib.hid (HBr.out.trans (hB.mono HBr.out.size))
        have Ta := Ta'
        clear hB Ta'
        rw [hw]
        try rw [hb]
        clear hw hb
        refine hK.out _ _ HBr.out (fun hHeld => ?_)
        clear hK K
        try simp only [Act.put, List.setIfInBounds_toArray, List.set_cons_zero, List.set_cons_succ]
        refine stepK 3 (by kernel_rfl) rfl (fun K hK => ?_)
        go_simp
        refine (rmul_any _ _ _ _ w5 Hp.out Hc.out (Nat.le_trans (lim_len4 _ HR.out.n0) (by omega)) (Nat.le_trans (lim_len4 _ HR.out.c) (by omega))).mono ?_
        rintro e w6 ⟨⟨va, rfl, ha⟩, hB⟩
        replace Hc := Lib.hid (Hc.out.below (Nat.le_refl _) hB)
        replace Hp := Lib.hid (Hp.out.below (Nat.le_refl _) hB)
        replace Tc := Lib.hid (Tc.out.below hB Tc.out.lt)
        replace Ta := Lib.hid (Ta.out.below hB Ta.out.lt)
        replace HB := Lib.hid (HB.out.trans (hB.mono HB.out.size))
        replace HBr := Lib.hid (HBr.out.trans (hB.mono HBr.out.size))
        have Ha := Lib.hid ha
        obtain ⟨s_a, a_a, n_a, c_a, rfl⟩ := ha.form2
        clear hB ha
        refine hK.out _ _ HBr.out (fun hHeld => ?_)
        clear hK K
        try simp only [Act.put, List.setIfInBounds_toArray, List.set_cons_zero, List.set_cons_succ]
        have f0 := Ta.out.cell0
        have g0 := Ta.out.frozen 0
        have f1 := Ta.out.cell1
        have g1 := Ta.out.frozen 1
        obtain ⟨w7, hw⟩ : ∃ w', (w6.setCell ⟨b_a, 0, none⟩ (.bool s_a)).setCell ⟨b_a, 1, none⟩ (.slice a_a n_a c_a) = w' := ⟨_, rfl⟩
        have Tz := Ta
        replace Ha : Hid (RInt w7 (.agg #[.bool s_a, .slice a_a n_a c_a]) (numZ zs len 0 * numZ zs len 12)) := Lib.hid (by rw [← hw]; exact Ha.out.set_two Tz.out _ _)
        replace Ta : Hid (Two w7 b_a 25 (.bool s_a) (.slice a_a n_a c_a)) := Lib.hid (by rw [← hw]; exact Tz.out.put2 _ _)
        replace HBr : Hid (Below w2.heap.size w2 w7) := Lib.hid (by rw [← hw]; exact (HBr.out.setCell (p := ⟨b_a, 0, none⟩) hl_a _).setCell (p := ⟨b_a, 1, none⟩) hl_a _)
        refine lastK (by kernel_rfl) rfl (by kernel_rfl) (fun K hK => ?_)
        go_simp
        refine hK.out _ _ ?_
        clear hK K
        try simp only [Act.put, List.setIfInBounds_toArray, List.set_cons_zero, List.set_cons_succ]
        try rw [hw]
        refine joinQ_normal ⟨_, _, _, _, _, _, _, _, _, by first | rfl | (simp only [List.setIfInBounds_toArray, List.set_cons_zero, List.set_cons_succ]; rfl), HBr, Ha, Ta⟩
    · skip
      go_simp
      obtain ⟨w4, hw⟩ : ∃ w', w3.alloc (.cells #[.bool false, .slice none 0 0] 25) = w' := ⟨_, rfl⟩
      have hB : Below w3.heap.size w3 w4 := by rw [← hw]; exact (Below.refl _ _).alloc (Nat.le_refl _) _
      obtain ⟨b_a, hb⟩ : ∃ b, w3.heap.size = b := ⟨_, rfl⟩
      have Ta' : Hid (Two w4 b_a 25 (.bool false) (.slice none 0 0)) := Lib.hid (by rw [← hw, ← hb]; exact Two.new w3 25 (.bool false) (.slice none 0 0))
      have hl_a : w2.heap.size ≤ b_a := by rw [← hb]; exact HBr.out.size
      replace Hc := Lib.hid (Hc.out.below (Nat.le_refl _) hB)
      replace Tc := Lib.hid (Tc.out.below hB Tc.out.lt)
      replace HB := Lib.hid (HB.out.trans (hB.mono HB.out.size))
      replace HBr := Lib.hid (HBr.out.trans (hB.mono HBr.out.size))
      have Ta := Ta'
      clear hB Ta'
      rw [hw]
      try rw [hb]
      clear hw hb
      refine hK.out _ _ HBr.out (fun hHeld => ?_)
      clear hK K
      try simp only [Act.put, List.setIfInBounds_toArray, List.set_cons_zero, List.set_cons_succ]
      refine stepK 1 (by kernel_rfl) rfl (fun K hK => ?_)
      go_simp
      refine (number_any _ zs len 0 w4 (HI.out.below (Nat.le_refl _) HB.out) (by omega)).mono ?_
      rintro e w5 ⟨⟨vp, rfl, hp⟩, hB⟩
      replace Hc := Lib.hid (Hc.out.below (Nat.le_refl _) hB)
      replace Tc := Lib.hid (Tc.out.below hB Tc.out.lt)
      replace Ta := Lib.hid (Ta.out.below hB Ta.out.lt)
      replace HB := Lib.hid (HB.out.trans (hB.mono HB.out.size))
      replace HBr := Lib.hid (HBr.out.trans (hB.mono HBr.out.size))
      have Hp := Lib.hid hp
      obtain ⟨s_p, a_p, n_p, c_p, rfl⟩ := hp.form2
      clear hB hp
      refine hK.out _ _ HBr.out (fun hHeld => ?_)
      clear hK K
      try simp only [Act.put, List.setIfInBounds_toArray, List.set_cons_zero, List.set_cons_succ]
      refine stepK 3 (by kernel_rfl) rfl (fun K hK => ?_)
      go_simp
      refine (rmul_any _ _ _ _ w5 Hp.out Hc.out (Nat.le_trans (lim_len4 _ HR.out.n0) (by omega)) (Nat.le_trans (lim_len4 _ HR.out.c) (by omega))).mono ?_
      rintro e w6 ⟨⟨va, rfl, ha⟩, hB⟩
      replace Hc := Lib.hid (Hc.out.below (Nat.le_refl _) hB)
      replace Hp := Lib.hid (Hp.out.below (Nat.le_refl _) hB)
      replace Tc := Lib.hid (Tc.out.below hB Tc.out.lt)
      replace Ta := Lib.hid (Ta.out.below hB Ta.out.lt)
      replace HB := Lib.hid (HB.out.trans (hB.mono HB.out.size))
      replace HBr := Lib.hid (HBr.out.trans (hB.mono HBr.out.size))
      have Ha := Lib.hid ha
      obtain ⟨s_a, a_a, n_a, c_a, rfl⟩ := ha.form2
      clear hB ha
      refine hK.out _ _ HBr.out (fun hHeld => ?_)
      clear hK K
      try simp only [Act.put, List.setIfInBounds_toArray, List.set_cons_zero, List.set_cons_succ]
      have f0 := Ta.out.cell0
      have g0 := Ta.out.frozen 0
      have f1 := Ta.out.cell1
      have g1 := Ta.out.frozen 1
      obtain ⟨w7, hw⟩ : ∃ w', (w6.setCell ⟨b_a, 0, none⟩ (.bool s_a)).setCell ⟨b_a, 1, none⟩ (.slice a_a n_a c_a) = w' := ⟨_, rfl⟩
      have Tz := Ta
      replace Ha : Hid (RInt w7 (.agg #[.bool s_a, .slice a_a n_a c_a]) (numZ zs len 0 * numZ zs len 12)) := Lib.hid (by rw [← hw]; exact Ha.out.set_two Tz.out _ _)
      replace Ta : Hid (Two w7 b_a 25 (.bool s_a) (.slice a_a n_a c_a)) := Lib.hid (by rw [← hw]; exact Tz.out.put2 _ _)
      replace HBr : Hid (Below w2.heap.size w2 w7) := Lib.hid (by rw [← hw]; exact (HBr.out.setCell (p := ⟨b_a, 0, none⟩) hl_a _).setCell (p := ⟨b_a, 1, none⟩) hl_a _)
      refine lastK (by kernel_rfl) rfl (by kernel_rfl) (fun K hK => ?_)
      go_simp
      refine hK.out _ _ ?_
      clear hK K
      try simp only [Act.put, List.setIfInBounds_toArray, List.set_cons_zero, List.set_cons_succ]
      try rw [hw]
      refine joinQ_normal ⟨_, _, _, _, _, _, _, _, _, by first | rfl | (simp only [List.setIfInBounds_toArray, List.set_cons_zero, List.set_cons_succ]; rfl), HBr, Ha, Ta⟩
  · skip
    rintro a w102 ⟨v19, v20, v21, v22, s_a, a_a, n_a, c_a, b_a, rfl, HBj, Ha', Ta'⟩
    have hB := HBj.out
    clear HBj
    replace Hc := Lib.hid (Hc.out.below (Nat.le_refl _) hB)
    replace Tc := Lib.hid (Tc.out.below hB Tc.out.lt)
    replace HB := Lib.hid (HB.out.trans (hB.mono HB.out.size))
    have Ha := Ha'
    have Ta := Ta'
    clear hB Ha' Ta'
    simp only [List.setIfInBounds_toArray, List.set_cons_zero, List.set_cons_succ]
    skip
    go_wp2_with fail
    refine wp_join (fun t ds a w' => ∃ (v23 : Value) (v24 : Value) (v25 : Value) (v26 : Value) (s_b : Bool) (a_b : Option Addr) (n_b c_b : Nat) (b_b : Nat), a = ⟨(((((t.setIfInBounds 23 v23).setIfInBounds 24 v24).setIfInBounds 25 v25).setIfInBounds 26 v26).setIfInBounds 5 (.pointer (some ⟨b_b, 0, none⟩))), ds⟩ ∧ Hid (Below w102.heap.size w102 w') ∧ Hid (RInt w' (.agg #[.bool s_b, .slice a_b n_b c_b]) (numZ zs len 6 * numZ zs len 12)) ∧ Hid (Two w' b_b 25 (.bool s_b) (.slice a_b n_b c_b))) ?_ ?_
    · skip
      obtain ⟨w103, hwd⟩ : ∃ w', w102.drew = w' := ⟨_, rfl⟩
      have hB : Below w102.heap.size w102 w103 := by rw [← hwd]; exact (Below.refl _ _).drew
      have HBr := Lib.hid hB
      have Tco := Tc
      replace Hc := Lib.hid (Hc.out.below (Nat.le_refl _) hB)
      replace Ha := Lib.hid (Ha.out.below (Nat.le_refl _) hB)
      replace Tc := Lib.hid (Tc.out.below hB Tc.out.lt)
      replace Ta := Lib.hid (Ta.out.below hB Ta.out.lt)
      replace HB := Lib.hid (HB.out.trans (hB.mono HB.out.size))
      clear hB
      refine startK 5 (fun w' => Below w102.heap.size w102 w') (by kernel_rfl) (by rw [hwd]; exact HBr.out) (fun hHeld => ?_)
      rw [hwd] at hHeld ⊢
      clear hwd
      refine takeK 0 23 (v := ?_) rfl rfl (by kernel_rfl) (by kernel_rfl) (by kernel_rfl) (by kernel_rfl) (fun _ _ _ h => h) (by rfl) ?_ (by assumption) ?_
      rotate_left
      · (intro w hSw; go_simp; first | done | with_reducible rfl)
      simp only [List.setIfInBounds_toArray, List.set_cons_zero, List.set_cons_succ]
      refine takeK 2 25 (v := ?_) rfl rfl (by kernel_rfl) (by kernel_rfl) (by kernel_rfl) (by kernel_rfl) (fun _ _ _ h => h) (by rfl) ?_ (by assumption) ?_
      rotate_left
      · (intro w hSw; have x0c := (hSw.cell (p := ⟨b_c, 0, none⟩) Tco.out.lt).trans Tco.out.cell0; have x1c := (hSw.cell (p := ⟨b_c, 1, none⟩) Tco.out.lt).trans Tco.out.cell1; go_simp; first | done | with_reducible rfl)
      simp only [List.setIfInBounds_toArray, List.set_cons_zero, List.set_cons_succ]
      refine forkK [1, 4] (by kernel_rfl) (by simp) ⟨forkOne 1 rfl (fun K hK => ?_), forkOne 4 rfl (fun K hK => ?_), trivial⟩
      · skip
        go_simp
        refine (number_any _ zs len 6 w103 (HI.out.below (Nat.le_refl _) HB.out) (by omega)).mono ?_
        rintro e w104 ⟨⟨vp, rfl, hp⟩, hB⟩
        replace Hc := Lib.hid (Hc.out.below (Nat.le_refl _) hB)
        replace Ha := Lib.hid (Ha.out.below (Nat.le_refl _) hB)
        replace Tc := Lib.hid (Tc.out.below hB Tc.out.lt)
        replace Ta := Lib.hid (Ta.out.below hB Ta.out.lt)
        replace HB := Lib.hid (HB.out.trans (hB.mono HB.out.size))
        replace HBr := Lib.hid (HBr.out.trans (hB.mono HBr.out.size))
        have Hp := Lib.hid hp
        obtain ⟨s_p, a_p, n_p, c_p, rfl⟩ := hp.form2
        clear hB hp
        refine hK.out _ _ HBr.out (fun hHeld => ?_)
        clear hK K
        try simp only [Act.put, List.setIfInBounds_toArray, List.set_cons_zero, List.set_cons_succ]
        refine forkK [3, 4] (by kernel_rfl) (by simp) ⟨forkOne 3 rfl (fun K hK => ?_), forkOne 4 rfl (fun K hK => ?_), trivial⟩
        · skip
          go_simp
          refine (rmul_any _ _ _ _ w104 Hp.out Hc.out (Nat.le_trans (lim_len4 _ HR.out.n6) (by omega)) (Nat.le_trans (lim_len4 _ HR.out.c) (by omega))).mono ?_
          rintro e w105 ⟨⟨vb, rfl, hb⟩, hB⟩
          replace Hc := Lib.hid (Hc.out.below (Nat.le_refl _) hB)
          replace Ha := Lib.hid (Ha.out.below (Nat.le_refl _) hB)
          replace Hp := Lib.hid (Hp.out.below (Nat.le_refl _) hB)
          replace Tc := Lib.hid (Tc.out.below hB Tc.out.lt)
          replace Ta := Lib.hid (Ta.out.below hB Ta.out.lt)
          replace HB := Lib.hid (HB.out.trans (hB.mono HB.out.size))
          replace HBr := Lib.hid (HBr.out.trans (hB.mono HBr.out.size))
          have Hb := Lib.hid hb
          obtain ⟨s_b, a_b, n_b, c_b, rfl⟩ := hb.form2
          clear hB hb
          refine hK.out _ _ HBr.out (fun hHeld => ?_)
          clear hK K
          try simp only [Act.put, List.setIfInBounds_toArray, List.set_cons_zero, List.set_cons_succ]
          refine stepK 4 (by kernel_rfl) rfl (fun K hK => ?_)
          go_simp
          obtain ⟨w106, hw⟩ : ∃ w', w105.alloc (.cells #[.bool false, .slice none 0 0] 25) = w' := ⟨_, rfl⟩
          have hB : Below w105.heap.size w105 w106 := by rw [← hw]; exact (Below.refl _ _).alloc (Nat.le_refl _) _
          obtain ⟨b_b, hb⟩ : ∃ b, w105.heap.size = b := ⟨_, rfl⟩
          have Tb' : Hid (Two w106 b_b 25 (.bool false) (.slice none 0 0)) := Lib.hid (by rw [← hw, ← hb]; exact Two.new w105 25 (.bool false) (.slice none 0 0))
          have hl_b : w102.heap.size ≤ b_b := by rw [← hb]; exact HBr.out.size
          replace Hc := Lib.hid (Hc.out.below (Nat.le_refl _) hB)
          replace Ha := Lib.hid (Ha.out.below (Nat.le_refl _) hB)
          replace Hp := Lib.hid (Hp.out.below (Nat.le_refl _) hB)
          replace Hb := Lib.hid (Hb.out.below (Nat.le_refl _) hB)
          replace Tc := Lib.hid (Tc.out.below hB Tc.out.lt)
          replace Ta := Lib.hid (Ta.out.below hB Ta.out.lt)
          replace HB := Lib.hid (HB.out.trans (hB.mono HB.out.size))
          replace HBr := Lib.hid (HBr.out.trans (hB.mono HBr.out.size))
          have Tb := Tb'
          clear hB Tb'
          rw [hw]
          try rw [hb]
          clear hw hb
          refine hK.out _ _ HBr.out (fun hHeld => ?_)
          clear hK K
          try simp only [Act.put, List.setIfInBounds_toArray, List.set_cons_zero, List.set_cons_succ]
          have f0 := Tb.out.cell0
          have g0 := Tb.out.frozen 0
          have f1 := Tb.out.cell1
          have g1 := Tb.out.frozen 1
          obtain ⟨w107, hw⟩ : ∃ w', (w106.setCell ⟨b_b, 0, none⟩ (.bool s_b)).setCell ⟨b_b, 1, none⟩ (.slice a_b n_b c_b) = w' := ⟨_, rfl⟩
          have Tz := Tb
          replace Hb : Hid (RInt w107 (.agg #[.bool s_b, .slice a_b n_b c_b]) (numZ zs len 6 * numZ zs len 12)) := Lib.hid (by rw [← hw]; exact Hb.out.set_two Tz.out _ _)
          replace Tb : Hid (Two w107 b_b 25 (.bool s_b) (.slice a_b n_b c_b)) := Lib.hid (by rw [← hw]; exact Tz.out.put2 _ _)
          replace HBr : Hid (Below w102.heap.size w102 w107) := Lib.hid (by rw [← hw]; exact (HBr.out.setCell (p := ⟨b_b, 0, none⟩) hl_b _).setCell (p := ⟨b_b, 1, none⟩) hl_b _)
          refine lastK (by kernel_rfl) rfl (by kernel_rfl) (fun K hK => ?_)
          go_simp
          refine hK.out _ _ ?_
          clear hK K
          try simp only [Act.put, List.setIfInBounds_toArray, List.set_cons_zero, List.set_cons_succ]
          try rw [hw]
          refine joinQ_normal ⟨_, _, _, _, _, _, _, _, _, by first | rfl | (simp only [List.setIfInBounds_toArray, List.set_cons_zero, List.set_cons_succ]; rfl), HBr, Hb, Tb⟩
        · skip
          go_simp
          obtain ⟨w105, hw⟩ : ∃ w', w104.alloc (.cells #[.bool false, .slice none 0 0] 25) = w' := ⟨_, rfl⟩
          have hB : Below w104.heap.size w104 w105 := by rw [← hw]; exact (Below.refl _ _).alloc (Nat.le_refl _) _
          obtain ⟨b_b, hb⟩ : ∃ b, w104.heap.size = b := ⟨_, rfl⟩
          have Tb' : Hid (Two w105 b_b 25 (.bool false) (.slice none 0 0)) := Lib.hid (by rw [← hw, ← hb]; exact Two.new w104 25 (.bool false) (.slice none 0 0))
          have hl_b : w102.heap.size ≤ b_b := by rw [← hb]; exact HBr.out.size
          replace Hc := Lib.hid (Hc.out.below (Nat.le_refl _) hB)
          replace Ha := Lib.hid (Ha.out.below (Nat.le_refl _) hB)
          replace Hp := Lib.hid (Hp.out.below (Nat.le_refl _) hB)
          replace Tc := Lib.hid (Tc.out.below hB Tc.out.lt)
          replace Ta := Lib.hid (Ta.out.below hB Ta.out.lt)
          replace HB := Lib.hid (HB.out.trans (hB.mono HB.out.size))
          replace HBr := Lib.hid (HBr.out.trans (hB.mono HBr.out.size))
          have Tb := Tb'
          clear hB Tb'
          rw [hw]
          try rw [hb]
          clear hw hb
          refine hK.out _ _ HBr.out (fun hHeld => ?_)
          clear hK K
          try simp only [Act.put, List.setIfInBounds_toArray, List.set_cons_zero, List.set_cons_succ]
          refine stepK 3 (by kernel_rfl) rfl (fun K hK => ?_)
          go_simp
          refine (rmul_any _ _ _ _ w105 Hp.out Hc.out (Nat.le_trans (lim_len4 _ HR.out.n6) (by omega)) (Nat.le_trans (lim_len4 _ HR.out.c) (by omega))).mono ?_
          rintro e w106 ⟨⟨vb, rfl, hb⟩, hB⟩
          replace Hc := Lib.hid (Hc.out.below (Nat.le_refl _) hB)
          replace Ha := Lib.hid (Ha.out.below (Nat.le_refl _) hB)
          replace Hp := Lib.hid (Hp.out.below (Nat.le_refl _) hB)
          replace Tc := Lib.hid (Tc.out.below hB Tc.out.lt)
          replace Ta := Lib.hid (Ta.out.below hB Ta.out.lt)
          replace Tb := Lib.hid (Tb.out.below hB Tb.out.lt)
          replace HB := Lib.hid (HB.out.trans (hB.mono HB.out.size))
          replace HBr := Lib.hid (HBr.out.trans (hB.mono HBr.out.size))
          have Hb := Lib.hid hb
          obtain ⟨s_b, a_b, n_b, c_b, rfl⟩ := hb.form2
          clear hB hb
          refine hK.out _ _ HBr.out (fun hHeld => ?_)
          clear hK K
          try simp only [Act.put, List.setIfInBounds_toArray, List.set_cons_zero, List.set_cons_succ]
          have f0 := Tb.out.cell0
          have g0 := Tb.out.frozen 0
          have f1 := Tb.out.cell1
          have g1 := Tb.out.frozen 1
          obtain ⟨w107, hw⟩ : ∃ w', (w106.setCell ⟨b_b, 0, none⟩ (.bool s_b)).setCell ⟨b_b, 1, none⟩ (.slice a_b n_b c_b) = w' := ⟨_, rfl⟩
          have Tz := Tb
          replace Hb : Hid (RInt w107 (.agg #[.bool s_b, .slice a_b n_b c_b]) (numZ zs len 6 * numZ zs len 12)) := Lib.hid (by rw [← hw]; exact Hb.out.set_two Tz.out _ _)
          replace Tb : Hid (Two w107 b_b 25 (.bool s_b) (.slice a_b n_b c_b)) := Lib.hid (by rw [← hw]; exact Tz.out.put2 _ _)
          replace HBr : Hid (Below w102.heap.size w102 w107) := Lib.hid (by rw [← hw]; exact (HBr.out.setCell (p := ⟨b_b, 0, none⟩) hl_b _).setCell (p := ⟨b_b, 1, none⟩) hl_b _)
          refine lastK (by kernel_rfl) rfl (by kernel_rfl) (fun K hK => ?_)
          go_simp
          refine hK.out _ _ ?_
          clear hK K
          try simp only [Act.put, List.setIfInBounds_toArray, List.set_cons_zero, List.set_cons_succ]
          try rw [hw]
          refine joinQ_normal ⟨_, _, _, _, _, _, _, _, _, by first | rfl | (simp only [List.setIfInBounds_toArray, List.set_cons_zero, List.set_cons_succ]; rfl), HBr, Hb, Tb⟩
      · skip
        go_simp
        obtain ⟨w104, hw⟩ : ∃ w', w103.alloc (.cells #[.bool false, .slice none 0 0] 25) = w' := ⟨_, rfl⟩
        have hB : Below w103.heap.size w103 w104 := by rw [← hw]; exact (Below.refl _ _).alloc (Nat.le_refl _) _
        obtain ⟨b_b, hb⟩ : ∃ b, w103.heap.size = b := ⟨_, rfl⟩
        have Tb' : Hid (Two w104 b_b 25 (.bool false) (.slice none 0 0)) := Lib.hid (by rw [← hw, ← hb]; exact Two.new w103 25 (.bool false) (.slice none 0 0))
        have hl_b : w102.heap.size ≤ b_b := by rw [← hb]; exact HBr.out.size
        replace Hc := Lib.hid (Hc.out.below (Nat.le_refl _) hB)
        replace Ha := Lib.hid (Ha.out.below (Nat.le_refl _) hB)
        replace Tc := Lib.hid (Tc.out.below hB Tc.out.lt)
        replace Ta := Lib.hid (Ta.out.below hB Ta.out.lt)
        replace HB := Lib.hid (HB.out.trans (hB.mono HB.out.size))
        replace HBr := Lib.hid (HBr.out.trans (hB.mono HBr.out.size))
        have Tb := Tb'
        clear hB Tb'
        rw [hw]
        try rw [hb]
        clear hw hb
        refine hK.out _ _ HBr.out (fun hHeld => ?_)
        clear hK K
        try simp only [Act.put, List.setIfInBounds_toArray, List.set_cons_zero, List.set_cons_succ]
        refine stepK 1 (by kernel_rfl) rfl (fun K hK => ?_)
        go_simp
        refine (number_any _ zs len 6 w104 (HI.out.below (Nat.le_refl _) HB.out) (by omega)).mono ?_
        rintro e w105 ⟨⟨vp, rfl, hp⟩, hB⟩
        replace Hc := Lib.hid (Hc.out.below (Nat.le_refl _) hB)
        replace Ha := Lib.hid (Ha.out.below (Nat.le_refl _) hB)
        replace Tc := Lib.hid (Tc.out.below hB Tc.out.lt)
        replace Ta := Lib.hid (Ta.out.below hB Ta.out.lt)
        replace Tb := Lib.hid (Tb.out.below hB Tb.out.lt)
        replace HB := Lib.hid (HB.out.trans (hB.mono HB.out.size))
        replace HBr := Lib.hid (HBr.out.trans (hB.mono HBr.out.size))
        have Hp := Lib.hid hp
        obtain ⟨s_p, a_p, n_p, c_p, rfl⟩ := hp.form2
        clear hB hp
        refine hK.out _ _ HBr.out (fun hHeld => ?_)
        clear hK K
        try simp only [Act.put, List.setIfInBounds_toArray, List.set_cons_zero, List.set_cons_succ]
        refine stepK 3 (by kernel_rfl) rfl (fun K hK => ?_)
        go_simp
        refine (rmul_any _ _ _ _ w105 Hp.out Hc.out (Nat.le_trans (lim_len4 _ HR.out.n6) (by omega)) (Nat.le_trans (lim_len4 _ HR.out.c) (by omega))).mono ?_
        rintro e w106 ⟨⟨vb, rfl, hb⟩, hB⟩
        replace Hc := Lib.hid (Hc.out.below (Nat.le_refl _) hB)
        replace Ha := Lib.hid (Ha.out.below (Nat.le_refl _) hB)
        replace Hp := Lib.hid (Hp.out.below (Nat.le_refl _) hB)
        replace Tc := Lib.hid (Tc.out.below hB Tc.out.lt)
        replace Ta := Lib.hid (Ta.out.below hB Ta.out.lt)
        replace Tb := Lib.hid (Tb.out.below hB Tb.out.lt)
        replace HB := Lib.hid (HB.out.trans (hB.mono HB.out.size))
        replace HBr := Lib.hid (HBr.out.trans (hB.mono HBr.out.size))
        have Hb := Lib.hid hb
        obtain ⟨s_b, a_b, n_b, c_b, rfl⟩ := hb.form2
        clear hB hb
        refine hK.out _ _ HBr.out (fun hHeld => ?_)
        clear hK K
        try simp only [Act.put, List.setIfInBounds_toArray, List.set_cons_zero, List.set_cons_succ]
        have f0 := Tb.out.cell0
        have g0 := Tb.out.frozen 0
        have f1 := Tb.out.cell1
        have g1 := Tb.out.frozen 1
        obtain ⟨w107, hw⟩ : ∃ w', (w106.setCell ⟨b_b, 0, none⟩ (.bool s_b)).setCell ⟨b_b, 1, none⟩ (.slice a_b n_b c_b) = w' := ⟨_, rfl⟩
        have Tz := Tb
        replace Hb : Hid (RInt w107 (.agg #[.bool s_b, .slice a_b n_b c_b]) (numZ zs len 6 * numZ zs len 12)) := Lib.hid (by rw [← hw]; exact Hb.out.set_two Tz.out _ _)
        replace Tb : Hid (Two w107 b_b 25 (.bool s_b) (.slice a_b n_b c_b)) := Lib.hid (by rw [← hw]; exact Tz.out.put2 _ _)
        replace HBr : Hid (Below w102.heap.size w102 w107) := Lib.hid (by rw [← hw]; exact (HBr.out.setCell (p := ⟨b_b, 0, none⟩) hl_b _).setCell (p := ⟨b_b, 1, none⟩) hl_b _)
        refine lastK (by kernel_rfl) rfl (by kernel_rfl) (fun K hK => ?_)
        go_simp
        refine hK.out _ _ ?_
        clear hK K
        try simp only [Act.put, List.setIfInBounds_toArray, List.set_cons_zero, List.set_cons_succ]
        try rw [hw]
        refine joinQ_normal ⟨_, _, _, _, _, _, _, _, _, by first | rfl | (simp only [List.setIfInBounds_toArray, List.set_cons_zero, List.set_cons_succ]; rfl), HBr, Hb, Tb⟩
    · skip
      rintro a w202 ⟨v23, v24, v25, v26, s_b, a_b, n_b, c_b, b_b, rfl, HBj, Hb', Tb'⟩
      have hB := HBj.out
      clear HBj
      replace Hc := Lib.hid (Hc.out.below (Nat.le_refl _) hB)
      replace Ha := Lib.hid (Ha.out.below (Nat.le_refl _) hB)
      replace Tc := Lib.hid (Tc.out.below hB Tc.out.lt)
      replace Ta := Lib.hid (Ta.out.below hB Ta.out.lt)
      replace HB := Lib.hid (HB.out.trans (hB.mono HB.out.size))
      have Hb := Hb'
      have Tb := Tb'
      clear hB Hb' Tb'
      simp only [List.setIfInBounds_toArray, List.set_cons_zero, List.set_cons_succ]
      obtain ⟨A, hA⟩ : ∃ A, numZ zs len 0 * numZ zs len 12 = A := ⟨_, rfl⟩
      obtain ⟨B, hBB⟩ : ∃ B, numZ zs len 6 * numZ zs len 12 = B := ⟨_, rfl⟩
      have HLA : Hid (A.natAbs < LIM) := Lib.hid (hA ▸ HR.out.a)
      have HLB : Hid (B.natAbs < LIM) := Lib.hid (hBB ▸ HR.out.b)
      rw [hA] at Ha
      rw [hBB] at Hb
      clear hA hBB
      clear Hc Tc
      have d0a_202 := Ta.out.cell0
      have d1a_202 := Ta.out.cell1
      go_wp2_with fail
      clear d0a_202 d1a_202
      refine (wider_any _ _ w202 Ha.out HLA.out).mono ?_
      rintro e w203 ⟨⟨vx, rfl, hx⟩, hB⟩
      replace Ha := Lib.hid (Ha.out.below (Nat.le_refl _) hB)
      replace Hb := Lib.hid (Hb.out.below (Nat.le_refl _) hB)
      replace Ta := Lib.hid (Ta.out.below hB Ta.out.lt)
      replace Tb := Lib.hid (Tb.out.below hB Tb.out.lt)
      replace HB := Lib.hid (HB.out.trans (hB.mono HB.out.size))
      have Hx := Lib.hid hx
      obtain ⟨s_x, a_x, n_x, c_x, rfl⟩ := hx.form2
      clear hB hx
      obtain ⟨w204, hw⟩ : ∃ w', (w203.alloc (.cells #[.bool s_x, .slice a_x n_x c_x] 33)) = w' := ⟨_, rfl⟩
      have hB : Below w203.heap.size w203 w204 := by rw [← hw]; exact (Below.refl _ _).alloc (Nat.le_refl _) _
      obtain ⟨b_x, hb_x⟩ : ∃ b, w203.heap.size = b := ⟨_, rfl⟩
      have Tx' : Hid (Two w204 b_x 33 (.bool s_x) (.slice a_x n_x c_x)) := Lib.hid (by rw [← hw, ← hb_x]; have h9 := (Two.new w203 33 (.bool s_x) (.slice a_x n_x c_x)); exact h9)
      replace Ha := Lib.hid (Ha.out.below (Nat.le_refl _) hB)
      replace Hb := Lib.hid (Hb.out.below (Nat.le_refl _) hB)
      replace Hx := Lib.hid (Hx.out.below hB)
      replace Ta := Lib.hid (Ta.out.below hB Ta.out.lt)
      replace Tb := Lib.hid (Tb.out.below hB Tb.out.lt)
      replace HB := Lib.hid (HB.out.trans (hB.mono HB.out.size))
      have Tx := Tx'
      clear hB Tx'
      have d0b_204 := Tb.out.cell0
      have d1b_204 := Tb.out.cell1
      go_wp2_with fail
      clear hw hb_x d0b_204 d1b_204
      refine (wider_any _ _ w204 Hb.out HLB.out).mono ?_
      rintro e w205 ⟨⟨vy, rfl, hy⟩, hB⟩
      replace Ha := Lib.hid (Ha.out.below (Nat.le_refl _) hB)
      replace Hb := Lib.hid (Hb.out.below (Nat.le_refl _) hB)
      replace Hx := Lib.hid (Hx.out.below hB)
      replace Ta := Lib.hid (Ta.out.below hB Ta.out.lt)
      replace Tb := Lib.hid (Tb.out.below hB Tb.out.lt)
      replace Tx := Lib.hid (Tx.out.below hB Tx.out.lt)
      replace HB := Lib.hid (HB.out.trans (hB.mono HB.out.size))
      have Hy := Lib.hid hy
      obtain ⟨s_y, a_y, n_y, c_y, rfl⟩ := hy.form2
      clear hB hy
      obtain ⟨w206, hw⟩ : ∃ w', (w205.alloc (.cells #[.bool s_y, .slice a_y n_y c_y] 33)) = w' := ⟨_, rfl⟩
      have hB : Below w205.heap.size w205 w206 := by rw [← hw]; exact (Below.refl _ _).alloc (Nat.le_refl _) _
      obtain ⟨b_y, hb_y⟩ : ∃ b, w205.heap.size = b := ⟨_, rfl⟩
      have Ty' : Hid (Two w206 b_y 33 (.bool s_y) (.slice a_y n_y c_y)) := Lib.hid (by rw [← hw, ← hb_y]; have h9 := (Two.new w205 33 (.bool s_y) (.slice a_y n_y c_y)); exact h9)
      replace Ha := Lib.hid (Ha.out.below (Nat.le_refl _) hB)
      replace Hb := Lib.hid (Hb.out.below (Nat.le_refl _) hB)
      replace Hx := Lib.hid (Hx.out.below hB)
      replace Hy := Lib.hid (Hy.out.below hB)
      replace Ta := Lib.hid (Ta.out.below hB Ta.out.lt)
      replace Tb := Lib.hid (Tb.out.below hB Tb.out.lt)
      replace Tx := Lib.hid (Tx.out.below hB Tx.out.lt)
      replace HB := Lib.hid (HB.out.trans (hB.mono HB.out.size))
      have Ty := Ty'
      clear hB Ty'
      have d0x_206 := Tx.out.cell0
      have d1x_206 := Tx.out.cell1
      have d0y_206 := Ty.out.cell0
      have d1y_206 := Ty.out.cell1
      go_wp2_with fail
      clear hw hb_y d0x_206 d1x_206 d0y_206 d1y_206
      refine (gcd_any _ _ _ _ w206 Hx.out Hy.out HLA.out HLB.out).mono ?_
      rintro e w207 ⟨vg, rfl, hgg, hB⟩
      replace Ha := Lib.hid (Ha.out.below (Nat.le_refl _) hB)
      replace Hb := Lib.hid (Hb.out.below (Nat.le_refl _) hB)
      replace Hx := Lib.hid (Hx.out.below hB)
      replace Hy := Lib.hid (Hy.out.below hB)
      replace Ta := Lib.hid (Ta.out.below hB Ta.out.lt)
      replace Tb := Lib.hid (Tb.out.below hB Tb.out.lt)
      replace Tx := Lib.hid (Tx.out.below hB Tx.out.lt)
      replace Ty := Lib.hid (Ty.out.below hB Ty.out.lt)
      replace HB := Lib.hid (HB.out.trans (hB.mono HB.out.size))
      have Hg := Lib.hid hgg
      obtain ⟨s_g, a_g, n_g, c_g, rfl⟩ := hgg.form2
      clear hB hgg
      obtain ⟨w208, hw⟩ : ∃ w', (w207.alloc (.cells #[.bool s_g, .slice a_g n_g c_g] 33)) = w' := ⟨_, rfl⟩
      have hB : Below w207.heap.size w207 w208 := by rw [← hw]; exact (Below.refl _ _).alloc (Nat.le_refl _) _
      obtain ⟨b_g, hb_g⟩ : ∃ b, w207.heap.size = b := ⟨_, rfl⟩
      have Tg' : Hid (Two w208 b_g 33 (.bool s_g) (.slice a_g n_g c_g)) := Lib.hid (by rw [← hw, ← hb_g]; have h9 := (Two.new w207 33 (.bool s_g) (.slice a_g n_g c_g)); exact h9)
      replace Ha := Lib.hid (Ha.out.below (Nat.le_refl _) hB)
      replace Hb := Lib.hid (Hb.out.below (Nat.le_refl _) hB)
      replace Hx := Lib.hid (Hx.out.below hB)
      replace Hy := Lib.hid (Hy.out.below hB)
      replace Hg := Lib.hid (Hg.out.below hB)
      replace Ta := Lib.hid (Ta.out.below hB Ta.out.lt)
      replace Tb := Lib.hid (Tb.out.below hB Tb.out.lt)
      replace Tx := Lib.hid (Tx.out.below hB Tx.out.lt)
      replace Ty := Lib.hid (Ty.out.below hB Ty.out.lt)
      replace HB := Lib.hid (HB.out.trans (hB.mono HB.out.size))
      have Tg := Tg'
      clear hB Tg'
      go_wp2_with fail
      clear hw hb_g
      obtain ⟨G, hG⟩ : ∃ G, Nat.gcd A.natAbs B.natAbs = G := ⟨_, rfl⟩
      rw [hG] at Hg
      have HG := Lib.hid hG
      clear hG
      have HLG : Hid ((G : Int).natAbs < LIM) := Lib.hid (gcd_lim A B G HG.out HLA.out HLB.out)
      have hB : Below w208.heap.size w208 w208.drew := ⟨rfl, rfl, rfl, Nat.le_refl _, fun _ _ => rfl⟩
      replace Ha := Lib.hid (Ha.out.below (Nat.le_refl _) hB)
      replace Hb := Lib.hid (Hb.out.below (Nat.le_refl _) hB)
      replace Hx := Lib.hid (Hx.out.below hB)
      replace Hy := Lib.hid (Hy.out.below hB)
      replace Hg := Lib.hid (Hg.out.below hB)
      replace Ta := Lib.hid (Ta.out.below hB Ta.out.lt)
      replace Tb := Lib.hid (Tb.out.below hB Tb.out.lt)
      replace Tx := Lib.hid (Tx.out.below hB Tx.out.lt)
      replace Ty := Lib.hid (Ty.out.below hB Ty.out.lt)
      replace Tg := Lib.hid (Tg.out.below hB Tg.out.lt)
      replace HB := Lib.hid (HB.out.trans (hB.mono HB.out.size))
      clear hB
      go_region_held3 (fun w' => w'.cell? ⟨b_g, 0, none⟩ = some (.bool s_g) ∧ w'.cell? ⟨b_g, 1, none⟩ = some (.slice a_g n_g c_g) ∧ w'.cell? ⟨b_a, 0, none⟩ = some (.bool s_a) ∧ w'.cell? ⟨b_a, 1, none⟩ = some (.slice a_a n_a c_a) ∧ w'.cell? ⟨b_b, 0, none⟩ = some (.bool s_b) ∧ w'.cell? ⟨b_b, 1, none⟩ = some (.slice a_b n_b c_b))
        (first | (exact ⟨Tg.out.cell0, Tg.out.cell1, Ta.out.cell0, Ta.out.cell1, Tb.out.cell0, Tb.out.cell1⟩) | go_keep)
        (first
          | (go_at_call 42; (with_reducible refine (rgcd_any _ _ _ _ w208.drew Ha.out Hb.out (Nat.le_trans (lim_len4 _ HLA.out) (by omega)) (Nat.le_trans (lim_len4 _ HLB.out) (by omega))).mono ?_); rintro e w209 ⟨⟨vh, rfl, hh⟩, hB⟩; rw [HG.out] at hh; replace Ha := Lib.hid (Ha.out.below (Nat.le_refl _) hB); replace Hb := Lib.hid (Hb.out.below (Nat.le_refl _) hB); replace Hx := Lib.hid (Hx.out.below hB); replace Hy := Lib.hid (Hy.out.below hB); replace Hg := Lib.hid (Hg.out.below hB); replace Ta := Lib.hid (Ta.out.below hB Ta.out.lt); replace Tb := Lib.hid (Tb.out.below hB Tb.out.lt); replace Tx := Lib.hid (Tx.out.below hB Tx.out.lt); replace Ty := Lib.hid (Ty.out.below hB Ty.out.lt); replace Tg := Lib.hid (Tg.out.below hB Tg.out.lt); replace HB := Lib.hid (HB.out.trans (hB.mono HB.out.size)); have Hh := Lib.hid hh; obtain ⟨s_h, a_h, n_h, c_h, rfl⟩ := hh.form2; clear hB hh)
          | (go_at_call 18; (with_reducible refine (equal_any _ _ _ w209 Hg.out Hh.out HLG.out (HP.out.below HB.out hg)).mono ?_); rintro e w210 ⟨rfl, hB⟩; replace Ha := Lib.hid (Ha.out.below (Nat.le_refl _) hB); replace Hb := Lib.hid (Hb.out.below (Nat.le_refl _) hB); replace Hx := Lib.hid (Hx.out.below hB); replace Hy := Lib.hid (Hy.out.below hB); replace Hg := Lib.hid (Hg.out.below hB); replace Hh := Lib.hid (Hh.out.below (Nat.le_refl _) hB); replace Ta := Lib.hid (Ta.out.below hB Ta.out.lt); replace Tb := Lib.hid (Tb.out.below hB Tb.out.lt); replace Tx := Lib.hid (Tx.out.below hB Tx.out.lt); replace Ty := Lib.hid (Ty.out.below hB Ty.out.lt); replace Tg := Lib.hid (Tg.out.below hB Tg.out.lt); replace HB := Lib.hid (HB.out.trans (hB.mono HB.out.size)); clear hB ))
      clear Hh
      have d0g_210 := Tg.out.cell0
      have d1g_210 := Tg.out.cell1
      go_wp2_with fail
      clear d0g_210 d1g_210
      by_cases hG0 : G = 0
      · skip
        have hAB : A = 0 ∧ B = 0 := by have h9 := HG.out; rw [hG0] at h9; have h8 := Nat.gcd_eq_zero_iff.1 h9; omega
        have hna : n_a = 0 := Ha.out.len0.2 hAB.1
        have hnb : n_b = 0 := Hb.out.len0.2 hAB.2
        have HSg := Lib.hid (fun w h => sign_any (.agg #[.bool s_g, .slice a_g n_g c_g]) (G : Int) w h HLG.out)
        rw [show cmp3 ((G : Nat) : Int) 0 = 0 by rw [hG0]; rfl] at HSg
        clear hAB
        subst hna hnb
        refine (HSg.out w210 Hg.out).mono ?_
        rintro e w211 ⟨rfl, hB⟩
        replace Ha := Lib.hid (Ha.out.below (Nat.le_refl _) hB)
        replace Hb := Lib.hid (Hb.out.below (Nat.le_refl _) hB)
        replace Hx := Lib.hid (Hx.out.below hB)
        replace Hy := Lib.hid (Hy.out.below hB)
        replace Hg := Lib.hid (Hg.out.below hB)
        replace Ta := Lib.hid (Ta.out.below hB Ta.out.lt)
        replace Tb := Lib.hid (Tb.out.below hB Tb.out.lt)
        replace Tx := Lib.hid (Tx.out.below hB Tx.out.lt)
        replace Ty := Lib.hid (Ty.out.below hB Ty.out.lt)
        replace Tg := Lib.hid (Tg.out.below hB Tg.out.lt)
        replace HB := Lib.hid (HB.out.trans (hB.mono HB.out.size))
        clear hB 
        have d1a := Ta.out.cell1
        have d1b := Tb.out.cell1
        go_wp2_with fail
        clear d1a d1b
        refine (lives_any w211 (HP.out.below HB.out hg)).mono ?_
        rintro e w212 ⟨rfl, hB⟩
        replace Ha := Lib.hid (Ha.out.below (Nat.le_refl _) hB)
        replace Hb := Lib.hid (Hb.out.below (Nat.le_refl _) hB)
        replace Hx := Lib.hid (Hx.out.below hB)
        replace Hy := Lib.hid (Hy.out.below hB)
        replace Hg := Lib.hid (Hg.out.below hB)
        replace Ta := Lib.hid (Ta.out.below hB Ta.out.lt)
        replace Tb := Lib.hid (Tb.out.below hB Tb.out.lt)
        replace Tx := Lib.hid (Tx.out.below hB Tx.out.lt)
        replace Ty := Lib.hid (Ty.out.below hB Ty.out.lt)
        replace Tg := Lib.hid (Tg.out.below hB Tg.out.lt)
        replace HB := Lib.hid (HB.out.trans (hB.mono HB.out.size))
        clear hB 
        go_wp2_with fail
        go_ret
        exact ⟨rfl, HB.out⟩
      · skip
        have hGz : (G : Int) ≠ 0 := by omega
        have HD := Lib.hid (div_gcd A B G HG.out hG0)
        have HSg := Lib.hid (fun w h => sign_any (.agg #[.bool s_g, .slice a_g n_g c_g]) (G : Int) w h HLG.out)
        rw [show cmp3 ((G : Nat) : Int) 0 = 1 by unfold cmp3; rw [if_neg (by omega), if_pos (by omega)]] at HSg
        refine (HSg.out w210 Hg.out).mono ?_
        rintro e w211 ⟨rfl, hB⟩
        replace Ha := Lib.hid (Ha.out.below (Nat.le_refl _) hB)
        replace Hb := Lib.hid (Hb.out.below (Nat.le_refl _) hB)
        replace Hx := Lib.hid (Hx.out.below hB)
        replace Hy := Lib.hid (Hy.out.below hB)
        replace Hg := Lib.hid (Hg.out.below hB)
        replace Ta := Lib.hid (Ta.out.below hB Ta.out.lt)
        replace Tb := Lib.hid (Tb.out.below hB Tb.out.lt)
        replace Tx := Lib.hid (Tx.out.below hB Tx.out.lt)
        replace Ty := Lib.hid (Ty.out.below hB Ty.out.lt)
        replace Tg := Lib.hid (Tg.out.below hB Tg.out.lt)
        replace HB := Lib.hid (HB.out.trans (hB.mono HB.out.size))
        clear hB 
        have d0x_211 := Tx.out.cell0
        have d1x_211 := Tx.out.cell1
        have d0g_211 := Tg.out.cell0
        have d1g_211 := Tg.out.cell1
        go_wp2_with fail
        clear d0x_211 d1x_211 d0g_211 d1g_211
        refine (wdiv_any _ _ A (G : Int) w211 Hx.out Hg.out hGz HLA.out HLG.out).mono ?_
        rintro e w212 ⟨hB, vq, vr, rfl, hq, hr1⟩
        replace Ha := Lib.hid (Ha.out.below (Nat.le_refl _) hB)
        replace Hb := Lib.hid (Hb.out.below (Nat.le_refl _) hB)
        replace Hx := Lib.hid (Hx.out.below hB)
        replace Hy := Lib.hid (Hy.out.below hB)
        replace Hg := Lib.hid (Hg.out.below hB)
        replace Ta := Lib.hid (Ta.out.below hB Ta.out.lt)
        replace Tb := Lib.hid (Tb.out.below hB Tb.out.lt)
        replace Tx := Lib.hid (Tx.out.below hB Tx.out.lt)
        replace Ty := Lib.hid (Ty.out.below hB Ty.out.lt)
        replace Tg := Lib.hid (Tg.out.below hB Tg.out.lt)
        replace HB := Lib.hid (HB.out.trans (hB.mono HB.out.size))
        have Hq := Lib.hid hq
        obtain ⟨s_q, a_q, n_q, c_q, rfl⟩ := hq.form2
        have Hr := Lib.hid hr1
        obtain ⟨s_r, a_r, n_r, c_r, rfl⟩ := hr1.form2
        clear hB hq hr1
        obtain ⟨w213, hw⟩ : ∃ w', ((w212.alloc (.cells #[.bool s_q, .slice a_q n_q c_q] 33)).alloc (.cells #[.bool s_r, .slice a_r n_r c_r] 33)) = w' := ⟨_, rfl⟩
        have hB : Below w212.heap.size w212 w213 := by rw [← hw]; exact ((Below.refl _ _).alloc (Nat.le_refl _) _).alloc (by simp) _
        obtain ⟨b_q, hb_q⟩ : ∃ b, w212.heap.size = b := ⟨_, rfl⟩
        have Tq' : Hid (Two w213 b_q 33 (.bool s_q) (.slice a_q n_q c_q)) := Lib.hid (by rw [← hw, ← hb_q]; have h9 := ((Two.new w212 33 (.bool s_q) (.slice a_q n_q c_q)).alloc (.cells #[.bool s_r, .slice a_r n_r c_r] 33)); exact h9)
        obtain ⟨b_r, hb_r⟩ : ∃ b, w212.heap.size + 1 = b := ⟨_, rfl⟩
        have Tr' : Hid (Two w213 b_r 33 (.bool s_r) (.slice a_r n_r c_r)) := Lib.hid (by rw [← hw, ← hb_r]; have h9 := (Two.new (w212.alloc (.cells #[.bool s_q, .slice a_q n_q c_q] 33)) 33 (.bool s_r) (.slice a_r n_r c_r)); rw [World.size_alloc] at h9; exact h9)
        replace Ha := Lib.hid (Ha.out.below (Nat.le_refl _) hB)
        replace Hb := Lib.hid (Hb.out.below (Nat.le_refl _) hB)
        replace Hx := Lib.hid (Hx.out.below hB)
        replace Hy := Lib.hid (Hy.out.below hB)
        replace Hg := Lib.hid (Hg.out.below hB)
        replace Hq := Lib.hid (Hq.out.below hB)
        replace Hr := Lib.hid (Hr.out.below hB)
        replace Ta := Lib.hid (Ta.out.below hB Ta.out.lt)
        replace Tb := Lib.hid (Tb.out.below hB Tb.out.lt)
        replace Tx := Lib.hid (Tx.out.below hB Tx.out.lt)
        replace Ty := Lib.hid (Ty.out.below hB Ty.out.lt)
        replace Tg := Lib.hid (Tg.out.below hB Tg.out.lt)
        replace HB := Lib.hid (HB.out.trans (hB.mono HB.out.size))
        have Tq := Tq'
        have Tr := Tr'
        clear hB Tq' Tr'
        have d0y_213 := Ty.out.cell0
        have d1y_213 := Ty.out.cell1
        have d0g_213 := Tg.out.cell0
        have d1g_213 := Tg.out.cell1
        go_wp2_with fail
        try rw [show b_q + 1 = b_r by rw [← hb_q]; exact hb_r]
        clear hw hb_q hb_r d0y_213 d1y_213 d0g_213 d1g_213
        refine (wdiv_any _ _ B (G : Int) w213 Hy.out Hg.out hGz HLB.out HLG.out).mono ?_
        rintro e w214 ⟨hB, vs, vt, rfl, hs1, ht⟩
        replace Ha := Lib.hid (Ha.out.below (Nat.le_refl _) hB)
        replace Hb := Lib.hid (Hb.out.below (Nat.le_refl _) hB)
        replace Hx := Lib.hid (Hx.out.below hB)
        replace Hy := Lib.hid (Hy.out.below hB)
        replace Hg := Lib.hid (Hg.out.below hB)
        replace Hq := Lib.hid (Hq.out.below hB)
        replace Hr := Lib.hid (Hr.out.below hB)
        replace Ta := Lib.hid (Ta.out.below hB Ta.out.lt)
        replace Tb := Lib.hid (Tb.out.below hB Tb.out.lt)
        replace Tx := Lib.hid (Tx.out.below hB Tx.out.lt)
        replace Ty := Lib.hid (Ty.out.below hB Ty.out.lt)
        replace Tg := Lib.hid (Tg.out.below hB Tg.out.lt)
        replace Tq := Lib.hid (Tq.out.below hB Tq.out.lt)
        replace Tr := Lib.hid (Tr.out.below hB Tr.out.lt)
        replace HB := Lib.hid (HB.out.trans (hB.mono HB.out.size))
        have Hs := Lib.hid hs1
        obtain ⟨s_s, a_s, n_s, c_s, rfl⟩ := hs1.form2
        have Ht := Lib.hid ht
        obtain ⟨s_t, a_t, n_t, c_t, rfl⟩ := ht.form2
        clear hB hs1 ht
        rw [HD.out.1] at Hr
        rw [HD.out.2.1] at Ht
        obtain ⟨w215, hw⟩ : ∃ w', ((w214.alloc (.cells #[.bool s_s, .slice a_s n_s c_s] 33)).alloc (.cells #[.bool s_t, .slice a_t n_t c_t] 33)) = w' := ⟨_, rfl⟩
        have hB : Below w214.heap.size w214 w215 := by rw [← hw]; exact ((Below.refl _ _).alloc (Nat.le_refl _) _).alloc (by simp) _
        obtain ⟨b_s, hb_s⟩ : ∃ b, w214.heap.size = b := ⟨_, rfl⟩
        have Ts' : Hid (Two w215 b_s 33 (.bool s_s) (.slice a_s n_s c_s)) := Lib.hid (by rw [← hw, ← hb_s]; have h9 := ((Two.new w214 33 (.bool s_s) (.slice a_s n_s c_s)).alloc (.cells #[.bool s_t, .slice a_t n_t c_t] 33)); exact h9)
        obtain ⟨b_t, hb_t⟩ : ∃ b, w214.heap.size + 1 = b := ⟨_, rfl⟩
        have Tt' : Hid (Two w215 b_t 33 (.bool s_t) (.slice a_t n_t c_t)) := Lib.hid (by rw [← hw, ← hb_t]; have h9 := (Two.new (w214.alloc (.cells #[.bool s_s, .slice a_s n_s c_s] 33)) 33 (.bool s_t) (.slice a_t n_t c_t)); rw [World.size_alloc] at h9; exact h9)
        replace Ha := Lib.hid (Ha.out.below (Nat.le_refl _) hB)
        replace Hb := Lib.hid (Hb.out.below (Nat.le_refl _) hB)
        replace Hx := Lib.hid (Hx.out.below hB)
        replace Hy := Lib.hid (Hy.out.below hB)
        replace Hg := Lib.hid (Hg.out.below hB)
        replace Hq := Lib.hid (Hq.out.below hB)
        replace Hr := Lib.hid (Hr.out.below hB)
        replace Hs := Lib.hid (Hs.out.below hB)
        replace Ht := Lib.hid (Ht.out.below hB)
        replace Ta := Lib.hid (Ta.out.below hB Ta.out.lt)
        replace Tb := Lib.hid (Tb.out.below hB Tb.out.lt)
        replace Tx := Lib.hid (Tx.out.below hB Tx.out.lt)
        replace Ty := Lib.hid (Ty.out.below hB Ty.out.lt)
        replace Tg := Lib.hid (Tg.out.below hB Tg.out.lt)
        replace Tq := Lib.hid (Tq.out.below hB Tq.out.lt)
        replace Tr := Lib.hid (Tr.out.below hB Tr.out.lt)
        replace HB := Lib.hid (HB.out.trans (hB.mono HB.out.size))
        have Ts := Ts'
        have Tt := Tt'
        clear hB Ts' Tt'
        have d0r_215 := Tr.out.cell0
        have d1r_215 := Tr.out.cell1
        have d0t_215 := Tt.out.cell0
        have d1t_215 := Tt.out.cell1
        go_wp2_with fail
        try rw [show b_s + 1 = b_t by rw [← hb_s]; exact hb_t]
        clear hw hb_s hb_t d0r_215 d1r_215 d0t_215 d1t_215
        refine (sign_any _ _ w215 Hr.out lim_zero).mono ?_
        rintro e w216 ⟨rfl, hB⟩
        replace Ha := Lib.hid (Ha.out.below (Nat.le_refl _) hB)
        replace Hb := Lib.hid (Hb.out.below (Nat.le_refl _) hB)
        replace Hx := Lib.hid (Hx.out.below hB)
        replace Hy := Lib.hid (Hy.out.below hB)
        replace Hg := Lib.hid (Hg.out.below hB)
        replace Hq := Lib.hid (Hq.out.below hB)
        replace Hr := Lib.hid (Hr.out.below hB)
        replace Hs := Lib.hid (Hs.out.below hB)
        replace Ht := Lib.hid (Ht.out.below hB)
        replace Ta := Lib.hid (Ta.out.below hB Ta.out.lt)
        replace Tb := Lib.hid (Tb.out.below hB Tb.out.lt)
        replace Tx := Lib.hid (Tx.out.below hB Tx.out.lt)
        replace Ty := Lib.hid (Ty.out.below hB Ty.out.lt)
        replace Tg := Lib.hid (Tg.out.below hB Tg.out.lt)
        replace Tq := Lib.hid (Tq.out.below hB Tq.out.lt)
        replace Tr := Lib.hid (Tr.out.below hB Tr.out.lt)
        replace Ts := Lib.hid (Ts.out.below hB Ts.out.lt)
        replace Tt := Lib.hid (Tt.out.below hB Tt.out.lt)
        replace HB := Lib.hid (HB.out.trans (hB.mono HB.out.size))
        clear hB 
        have d0t_216 := Tt.out.cell0
        have d1t_216 := Tt.out.cell1
        go_wp2_with fail
        clear d0t_216 d1t_216
        refine (sign_any _ _ w216 Ht.out lim_zero).mono ?_
        rintro e w217 ⟨rfl, hB⟩
        replace Ha := Lib.hid (Ha.out.below (Nat.le_refl _) hB)
        replace Hb := Lib.hid (Hb.out.below (Nat.le_refl _) hB)
        replace Hx := Lib.hid (Hx.out.below hB)
        replace Hy := Lib.hid (Hy.out.below hB)
        replace Hg := Lib.hid (Hg.out.below hB)
        replace Hq := Lib.hid (Hq.out.below hB)
        replace Hr := Lib.hid (Hr.out.below hB)
        replace Hs := Lib.hid (Hs.out.below hB)
        replace Ht := Lib.hid (Ht.out.below hB)
        replace Ta := Lib.hid (Ta.out.below hB Ta.out.lt)
        replace Tb := Lib.hid (Tb.out.below hB Tb.out.lt)
        replace Tx := Lib.hid (Tx.out.below hB Tx.out.lt)
        replace Ty := Lib.hid (Ty.out.below hB Ty.out.lt)
        replace Tg := Lib.hid (Tg.out.below hB Tg.out.lt)
        replace Tq := Lib.hid (Tq.out.below hB Tq.out.lt)
        replace Tr := Lib.hid (Tr.out.below hB Tr.out.lt)
        replace Ts := Lib.hid (Ts.out.below hB Ts.out.lt)
        replace Tt := Lib.hid (Tt.out.below hB Tt.out.lt)
        replace HB := Lib.hid (HB.out.trans (hB.mono HB.out.size))
        clear hB 
        have d0q_217 := Tq.out.cell0
        have d1q_217 := Tq.out.cell1
        have d0s_217 := Ts.out.cell0
        have d1s_217 := Ts.out.cell1
        go_wp2_with fail
        clear d0q_217 d1q_217 d0s_217 d1s_217
        refine (gcd_any _ _ _ _ w217 Hq.out Hs.out (Nat.lt_of_le_of_lt HD.out.2.2.1 HLA.out) (Nat.lt_of_le_of_lt HD.out.2.2.2.1 HLB.out)).mono ?_
        rintro e w218 ⟨vk, rfl, hk, hB⟩
        replace Ha := Lib.hid (Ha.out.below (Nat.le_refl _) hB)
        replace Hb := Lib.hid (Hb.out.below (Nat.le_refl _) hB)
        replace Hx := Lib.hid (Hx.out.below hB)
        replace Hy := Lib.hid (Hy.out.below hB)
        replace Hg := Lib.hid (Hg.out.below hB)
        replace Hq := Lib.hid (Hq.out.below hB)
        replace Hr := Lib.hid (Hr.out.below hB)
        replace Hs := Lib.hid (Hs.out.below hB)
        replace Ht := Lib.hid (Ht.out.below hB)
        replace Ta := Lib.hid (Ta.out.below hB Ta.out.lt)
        replace Tb := Lib.hid (Tb.out.below hB Tb.out.lt)
        replace Tx := Lib.hid (Tx.out.below hB Tx.out.lt)
        replace Ty := Lib.hid (Ty.out.below hB Ty.out.lt)
        replace Tg := Lib.hid (Tg.out.below hB Tg.out.lt)
        replace Tq := Lib.hid (Tq.out.below hB Tq.out.lt)
        replace Tr := Lib.hid (Tr.out.below hB Tr.out.lt)
        replace Ts := Lib.hid (Ts.out.below hB Ts.out.lt)
        replace Tt := Lib.hid (Tt.out.below hB Tt.out.lt)
        replace HB := Lib.hid (HB.out.trans (hB.mono HB.out.size))
        have Hk := Lib.hid hk
        obtain ⟨s_k, a_k, n_k, c_k, rfl⟩ := hk.form2
        clear hB hk
        rw [HD.out.2.2.2.2] at Hk
        go_wp2_with fail
        refine (from_any 1 w218 (by omega) (by omega)).mono ?_
        rintro e w219 ⟨vm, rfl, hm, hB⟩
        replace Ha := Lib.hid (Ha.out.below (Nat.le_refl _) hB)
        replace Hb := Lib.hid (Hb.out.below (Nat.le_refl _) hB)
        replace Hx := Lib.hid (Hx.out.below hB)
        replace Hy := Lib.hid (Hy.out.below hB)
        replace Hg := Lib.hid (Hg.out.below hB)
        replace Hq := Lib.hid (Hq.out.below hB)
        replace Hr := Lib.hid (Hr.out.below hB)
        replace Hs := Lib.hid (Hs.out.below hB)
        replace Ht := Lib.hid (Ht.out.below hB)
        replace Hk := Lib.hid (Hk.out.below hB)
        replace Ta := Lib.hid (Ta.out.below hB Ta.out.lt)
        replace Tb := Lib.hid (Tb.out.below hB Tb.out.lt)
        replace Tx := Lib.hid (Tx.out.below hB Tx.out.lt)
        replace Ty := Lib.hid (Ty.out.below hB Ty.out.lt)
        replace Tg := Lib.hid (Tg.out.below hB Tg.out.lt)
        replace Tq := Lib.hid (Tq.out.below hB Tq.out.lt)
        replace Tr := Lib.hid (Tr.out.below hB Tr.out.lt)
        replace Ts := Lib.hid (Ts.out.below hB Ts.out.lt)
        replace Tt := Lib.hid (Tt.out.below hB Tt.out.lt)
        replace HB := Lib.hid (HB.out.trans (hB.mono HB.out.size))
        have Hm := Lib.hid hm
        obtain ⟨s_m, a_m, n_m, c_m, rfl⟩ := hm.form2
        clear hB hm
        go_wp2_with fail
        refine (wcompare_any _ _ _ _ w219 Hk.out Hm.out lim_one lim_one).mono ?_
        rintro e w220 ⟨rfl, hB⟩
        replace Ha := Lib.hid (Ha.out.below (Nat.le_refl _) hB)
        replace Hb := Lib.hid (Hb.out.below (Nat.le_refl _) hB)
        replace Hx := Lib.hid (Hx.out.below hB)
        replace Hy := Lib.hid (Hy.out.below hB)
        replace Hg := Lib.hid (Hg.out.below hB)
        replace Hq := Lib.hid (Hq.out.below hB)
        replace Hr := Lib.hid (Hr.out.below hB)
        replace Hs := Lib.hid (Hs.out.below hB)
        replace Ht := Lib.hid (Ht.out.below hB)
        replace Hk := Lib.hid (Hk.out.below hB)
        replace Hm := Lib.hid (Hm.out.below hB)
        replace Ta := Lib.hid (Ta.out.below hB Ta.out.lt)
        replace Tb := Lib.hid (Tb.out.below hB Tb.out.lt)
        replace Tx := Lib.hid (Tx.out.below hB Tx.out.lt)
        replace Ty := Lib.hid (Ty.out.below hB Ty.out.lt)
        replace Tg := Lib.hid (Tg.out.below hB Tg.out.lt)
        replace Tq := Lib.hid (Tq.out.below hB Tq.out.lt)
        replace Tr := Lib.hid (Tr.out.below hB Tr.out.lt)
        replace Ts := Lib.hid (Ts.out.below hB Ts.out.lt)
        replace Tt := Lib.hid (Tt.out.below hB Tt.out.lt)
        replace HB := Lib.hid (HB.out.trans (hB.mono HB.out.size))
        clear hB 
        go_wp2_with fail
        refine (lives_any w220 (HP.out.below HB.out hg)).mono ?_
        rintro e w221 ⟨rfl, hB⟩
        replace Ha := Lib.hid (Ha.out.below (Nat.le_refl _) hB)
        replace Hb := Lib.hid (Hb.out.below (Nat.le_refl _) hB)
        replace Hx := Lib.hid (Hx.out.below hB)
        replace Hy := Lib.hid (Hy.out.below hB)
        replace Hg := Lib.hid (Hg.out.below hB)
        replace Hq := Lib.hid (Hq.out.below hB)
        replace Hr := Lib.hid (Hr.out.below hB)
        replace Hs := Lib.hid (Hs.out.below hB)
        replace Ht := Lib.hid (Ht.out.below hB)
        replace Hk := Lib.hid (Hk.out.below hB)
        replace Hm := Lib.hid (Hm.out.below hB)
        replace Ta := Lib.hid (Ta.out.below hB Ta.out.lt)
        replace Tb := Lib.hid (Tb.out.below hB Tb.out.lt)
        replace Tx := Lib.hid (Tx.out.below hB Tx.out.lt)
        replace Ty := Lib.hid (Ty.out.below hB Ty.out.lt)
        replace Tg := Lib.hid (Tg.out.below hB Tg.out.lt)
        replace Tq := Lib.hid (Tq.out.below hB Tq.out.lt)
        replace Tr := Lib.hid (Tr.out.below hB Tr.out.lt)
        replace Ts := Lib.hid (Ts.out.below hB Ts.out.lt)
        replace Tt := Lib.hid (Tt.out.below hB Tt.out.lt)
        replace HB := Lib.hid (HB.out.trans (hB.mono HB.out.size))
        clear hB 
        go_wp2_with fail
        go_ret
        exact ⟨rfl, HB.out⟩

end Go.Proofs.YtgfgjnkndfgdiaaDoor
