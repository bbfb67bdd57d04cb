/- the reference's integers: Fits. -/
import Derived.Test.YtgfgjnkndfgdiaaDoorWLaw
namespace Go.Proofs.YtgfgjnkndfgdiaaDoor
open Go.RowKit

theorem t4_1229 : T4 ^ 1229 ≤ LIM := by
  rw [← lim_w2]
  decide +kernel
theorem fits_short (n : Nat) (h : (digs T4 n).length < 1230) : n < LIM := by
  have h1 := val_lt T4 (by decide) (digs T4 n) (digs_low T4 t4_two n)
  rw [val_digs T4 t4_two] at h1
  exact Nat.lt_of_lt_of_le h1 (Nat.le_trans (Nat.pow_le_pow_right (by decide) (by omega)) t4_1229)

theorem cmp3_pos_iff (x y : Int) : decide (0 < cmp3 x y) = decide (y < x) := by
  unfold cmp3
  by_cases h1 : x < y
  · rw [if_pos h1, decide_eq_false (show ¬ y < x by omega)]; rfl
  · rw [if_neg h1]
    by_cases h2 : y < x
    · rw [if_pos h2, decide_eq_true h2]; rfl
    · rw [if_neg h2, decide_eq_false h2]; rfl
theorem cmp3_neg_iff (x y : Int) : decide (cmp3 x y < 0) = decide (x < y) := by
  unfold cmp3
  by_cases h1 : x < y
  · rw [if_pos h1, decide_eq_true h1]; rfl
  · rw [if_neg h1, decide_eq_false h1]
    by_cases h2 : y < x
    · rw [if_pos h2]; rfl
    · rw [if_neg h2]; rfl

theorem lim_len5 (m : Nat) (h : LIM = 2 ^ m) : (digs T4 LIM).length ≤ m + 1 := by
  rw [h]
  exact len_pow _ (m + 1) (Nat.pow_lt_pow_right (by decide) (by omega))

theorem power_lim (w : World) : Calls Tryd.prog 46 #[.int .i64 16384] w (RPost (LIM : Int) w) := by
  rw [lim_eq]
  exact power_any 16384 w (by omega)

set_option maxRecDepth 100000 in
set_option maxHeartbeats 1000000 in
theorem fits_any (v : Value) (z : Int) (w : World) (h : RInt w v z) (hl : (digs T4 z.natAbs).length ≤ 1048576) :
    Calls Tryd.prog 43 #[v] w fun e w' => e = .returned (.bool (decide (z.natAbs < LIM))) ∧ Below w.heap.size w w' := by
  obtain ⟨a, n, c, rfl, hd, hn, hc⟩ := h.form
  by_cases hs : n < 1230
  · have e : decide (z.natAbs < LIM) = true := decide_eq_true (fits_short _ (by omega))
    rw [e]
    clear h hd e hn
    generalize decide (z < 0) = s at *
    go_enter Tryd.func43, Tryd.ntmps43
    go_wp2
    go_ret
    exact ⟨rfl, (Below.refl _ _).alloc (Nat.le_refl _) _⟩
  · rw [← hn] at hl
    have Hl := Lib.hid hn
    have HD := Lib.hid hd
    have HLL := Lib.hid (show (digs T4 LIM).length ≤ 1048576 from Nat.le_trans (lim_len5 16384 lim_eq) (by omega))
    have Hc3 : Hid (decide (cmp3 (z.natAbs : Int) (LIM : Int) < 0) = decide (z.natAbs < LIM)) := Lib.hid (by
      rw [cmp3_neg_iff]
      exact decide_eq_decide.2 (by omega))
    clear h hd hn
    generalize decide (z < 0) = s at *
    have HB0 := Lib.hid ((Below.refl w.heap.size w).alloc (Nat.le_refl _) (.cells #[.bool s, .slice a n c] 25))
    have HT0 := Lib.hid (Two.new w 25 (.bool s) (.slice a n c))
    obtain ⟨w0, hw0⟩ : ∃ w0, w.alloc (.cells #[.bool s, .slice a n c] 25) = w0 := ⟨_, rfl⟩
    obtain ⟨b, hb⟩ : ∃ b, w.heap.size = b := ⟨_, rfl⟩
    have Hb := Lib.hid hb
    rw [hw0] at HB0 HT0
    rw [hb] at HB0 HT0
    have d0 := HT0.out.cell0
    have d1 := HT0.out.cell1
    go_enter Tryd.func43, Tryd.ntmps43
    go_wp2_with fail
    clear hw0 d0 d1
    refine (power_lim w0).mono ?_
    rintro e w1 ⟨⟨vr, rfl, hr⟩, hB⟩
    have Hr1 := Lib.hid hr
    obtain ⟨a1, l1, c1, rfl, -, -, -⟩ := hr.form
    have HB1 := Lib.hid hB
    clear hr hB
    obtain ⟨sp, hsp⟩ : ∃ sp, decide ((LIM : Int) < 0) = sp := ⟨_, rfl⟩
    rw [hsp] at Hr1 ⊢
    clear hsp
    have hg1 : Hid (DigAt w1 (.slice a1 l1 c1) LIM) := Lib.hid (by
      obtain ⟨vd, hv, hm⟩ := Hr1.out
      have e2 : vd = .slice a1 l1 c1 := by
        have := congrArg (fun v => match v with | .agg x => x[1]? | _ => none) hv
        simpa using this.symm
      rw [e2] at hm
      exact hm)
    obtain ⟨w2, hw2⟩ : ∃ w2, w1.alloc (.cells #[.bool sp, .slice a1 l1 c1] 25) = w2 := ⟨_, rfl⟩
    have hB2 : Below w1.heap.size w1 w2 := by rw [← hw2]; exact (Below.refl _ _).alloc (Nat.le_refl _) _
    obtain ⟨b1, hb1⟩ : ∃ b, w1.heap.size = b := ⟨_, rfl⟩
    have HU2 : Hid (Two w2 b1 25 (.bool sp) (.slice a1 l1 c1)) := Lib.hid (by rw [← hw2, ← hb1]; exact Two.new ..)
    have HT2 := Lib.hid ((HT0.out.below HB1.out HT0.out.lt).below hB2 (Nat.lt_of_lt_of_le HT0.out.lt HB1.out.size))
    have HB1b := Lib.hid (HB0.out.trans (HB1.out.mono (Nat.le_trans (Nat.le_of_eq Hb.out.symm) HB0.out.size)))
    have HB2 := Lib.hid (HB1b.out.trans (hB2.mono (Nat.le_trans (Nat.le_of_eq Hb.out.symm) HB1b.out.size)))
    have HG2 := Lib.hid (RowAt.below hg1.out (Nat.le_refl _) hB2)
    have f0 := HT2.out.cell0
    have f1 := HT2.out.cell1
    have f2 := HU2.out.cell0
    have f3 := HU2.out.cell1
    clear hB2
    have Hcmp := Lib.hid (compared_any (.slice a n c) (.slice a1 l1 c1) z.natAbs LIM w2 (RowAt.below HD.out (Nat.le_of_eq Hb.out) HB2.out) HG2.out (by rw [← Hl.out]; omega) (Nat.le_trans HLL.out (by omega)))
    generalize cmp3 (z.natAbs : Int) (LIM : Int) = cm at *
    go_wp2_with fail
    refine Hcmp.out.mono ?_
    rintro e w5 ⟨rfl, d, rfl⟩
    clear hw2
    go_wp2
    go_ret
    exact ⟨by rw [← Hc3.out]; rfl, by rw [Hb.out]; exact below_drewN2 HB2.out d⟩

end Go.Proofs.YtgfgjnkndfgdiaaDoor
