/- the reference's integers: compared, Compare, at. -/
import Derived.Test.YtgfgjnkndfgdiaaDoorR5Of
namespace Go.Proofs.YtgfgjnkndfgdiaaDoor
open Go.RowKit

set_option maxHeartbeats 1000000 in
theorem at_in (v : Value) (L : List Nat) (w : World) (h : RowAt .i64 w v L) (_hlen : L.length ≤ 4611686018427387904) (i : Nat) (hi : i < L.length) :
    Calls Tryd.prog 76 #[v, .int .i64 (i : Int)] w fun e w' => e = .returned (.int .i64 ((L.getD i 0 : Nat) : Int)) ∧ w' = w := by
  obtain ⟨b, off, cap, rfl, hb, hc⟩ := h.at_ hi
  have hg : L.getD i 0 = L[i] := by simp [List.getD, hi]
  rw [hg]
  generalize L[i] = x at *
  have hcap : L.length ≤ cap ∧ cap ≤ 9223372036854775807 := by obtain ⟨_, _, hv, _, _, _⟩ := h; injection hv with _ _ e; omega
  generalize L.length = N at *
  clear h hg
  go_enter Tryd.func76, Tryd.ntmps76
  go_wp2
  go_ret
  exact ⟨rfl, rfl⟩

set_option maxHeartbeats 1000000 in
theorem at_out (v : Value) (L : List Nat) (w : World) (h : RowAt .i64 w v L) (i : Nat) (hi : L.length ≤ i) (_hi2 : i ≤ 9223372036854775807) :
    Calls Tryd.prog 76 #[v, .int .i64 (i : Int)] w fun e w' => e = .returned (.int .i64 ((L.getD i 0 : Nat) : Int)) ∧ w' = w := by
  obtain ⟨a, cap, rfl, h1, h2, -⟩ := h
  have hg : L.getD i 0 = 0 := by simp [List.getD, hi]
  rw [hg]
  generalize L.length = N at *
  clear hg
  go_enter Tryd.func76, Tryd.ntmps76
  go_wp2
  go_ret
  exact ⟨rfl, rfl⟩

theorem at_any (v : Value) (L : List Nat) (w : World) (h : RowAt .i64 w v L) (hlen : L.length ≤ 4611686018427387904) (i : Nat) (hi2 : i ≤ 4611686018427387904) :
    Calls Tryd.prog 76 #[v, .int .i64 (i : Int)] w fun e w' => e = .returned (.int .i64 ((L.getD i 0 : Nat) : Int)) ∧ w' = w := by
  rcases Nat.lt_or_ge i L.length with hi | hi
  · exact at_in v L w h hlen i hi
  · exact at_out v L w h i hi (by omega)

theorem cmp_len4 (m n : Nat) (h : (digs T4 m).length ≠ (digs T4 n).length) : cmp3 ((digs T4 m).length : Int) ((digs T4 n).length : Int) = cmp3 (m : Int) (n : Int) := by
  rcases Nat.lt_or_gt_of_ne h with h | h
  · rw [cmp3_lt (by omega), cmp3_lt (by have := lt_of_len T4 t4_two m n h; omega)]
  · rw [cmp3_gt (by omega), cmp3_gt (by have := lt_of_len T4 t4_two n m h; omega)]

theorem cmp_at4 (m n i : Nat) (h1 : i - 1 < (digs T4 m).length) (h2 : i - 1 < (digs T4 n).length) (h0 : 0 < i) (hd : (digs T4 m).drop i = (digs T4 n).drop i) (hne : (digs T4 m)[i - 1] ≠ (digs T4 n)[i - 1]) :
    cmp3 ((digs T4 m)[i - 1] : Int) ((digs T4 n)[i - 1] : Int) = cmp3 (m : Int) (n : Int) := by
  have e : i - 1 + 1 = i := Nat.sub_add_cancel h0
  rcases Nat.lt_or_gt_of_ne hne with h | h
  · have := val_lt_at T4 t4_two _ _ (digs_low T4 t4_two m) (i - 1) h1 h2 (by rw [e]; exact hd) h
    rw [val_digs T4 t4_two, val_digs T4 t4_two] at this
    rw [cmp3_lt (by omega), cmp3_lt (by omega)]
  · have := val_lt_at T4 t4_two _ _ (digs_low T4 t4_two n) (i - 1) h2 h1 (by rw [e]; exact hd.symm) h
    rw [val_digs T4 t4_two, val_digs T4 t4_two] at this
    rw [cmp3_gt (by omega), cmp3_gt (by omega)]


set_option maxHeartbeats 1000000 in
theorem compared_any (va vb : Value) (m n : Nat) (w : World) (ha : DigAt w va m) (hb : DigAt w vb n) (hl1 : (digs T4 m).length ≤ 4611686018427387904) (_hl2 : (digs T4 n).length ≤ 4611686018427387904) :
    Calls Tryd.prog 62 #[va, vb] w fun e w' => e = .returned (.int .i64 (cmp3 (m : Int) (n : Int))) ∧ ∃ d, w' = w.drewN d := by
  obtain ⟨a, cap, rfl, h1, h2, hc⟩ := ha
  obtain ⟨a', cap', rfl, h1', h2', hc'⟩ := hb
  have Hc := Lib.hid hc
  have Hc' := Lib.hid hc'
  clear hc hc'
  by_cases hne : (digs T4 m).length = (digs T4 n).length
  · obtain ⟨N, hN⟩ : ∃ N, (digs T4 m).length = N := ⟨_, rfl⟩
    have HN := Lib.hid hN
    have HM := Lib.hid (hne.symm.trans hN)
    rw [hne.symm.trans hN] at h1' _hl2 ⊢
    rw [hN] at h1 hl1 ⊢
    clear hN hne
    go_enter Tryd.func62, Tryd.ntmps62
    go_wp2
    go_loopw [5] (fun i wr => ∃ k d : Nat, k ≤ N ∧ i = .int .i64 ((k : Int) - 1) ∧ Hid ((digs T4 m).drop k = (digs T4 n).drop k) ∧ Hid (wr = w.drewN d)) (fun i _ => (intOf i + 1).toNat)
    case atStart => exact ⟨N, 0, Nat.le_refl _, rfl, Lib.hid (by rw [List.drop_of_length_le (by rw [HN.out]; exact Nat.le_refl _), List.drop_of_length_le (by rw [HM.out]; exact Nat.le_refl _)]), Lib.hid rfl⟩
    case round =>
      obtain ⟨k, d, hk, rfl, hd, hw⟩ := hrel
      have hw' := hw.out
      subst hw'
      clear hw
      by_cases h0 : k = 0
      · subst h0
        have he : Hid (cmp3 (m : Int) (n : Int) = 0) := Lib.hid (by
          have := hd.out
          rw [List.drop_zero, List.drop_zero] at this
          have h3 : m = n := by rw [← val_digs T4 t4_two m, ← val_digs T4 t4_two n, this]
          rw [h3, cmp3_eq])
        go_wp2
        go_ret
        exact ⟨by rw [he.out]; rfl, d, rfl⟩
      · have q1 : k - 1 < (digs T4 m).length := by rw [HN.out]; omega
        have q2 : k - 1 < (digs T4 n).length := by rw [HM.out]; omega
        obtain ⟨b, off, rfl, hb, hcc⟩ := Hc.out (by omega)
        obtain ⟨b', off', rfl, hb', hcc'⟩ := Hc'.out (by omega)
        have c1 := hcc (k - 1) q1
        have c2 := hcc' (k - 1) q2
        clear hcc hcc'
        have i0 : (0 : Int) ≤ (k : Int) - 1 := by omega
        have i1 : (k : Int) - 1 < (N : Int) := by omega
        have i2 : ((k : Int) - 1).toNat = k - 1 := by omega
        by_cases he : (digs T4 m)[k - 1] = (digs T4 n)[k - 1]
        · have Hd2 := Lib.hid (drop_pred q1 q2 (by omega) hd.out he)
          rw [he] at c1
          generalize (digs T4 n)[k - 1] = z at *
          clear he
          go_wp2
          go_quiet (fail)
          obtain ⟨W3, hW3⟩ : ∃ W3, (w.drewN d).drewN nq = W3 := ⟨_, rfl⟩
          have c3 : W3.cell? ⟨b, off + (k - 1), none⟩ = some (.int .i64 (z : Int)) := by rw [← hW3]; exact c1
          have c4 : W3.cell? ⟨b', off' + (k - 1), none⟩ = some (.int .i64 (z : Int)) := by rw [← hW3]; exact c2
          have HW3 := Lib.hid hW3
          rw [hW3]
          clear hW3 c1 c2
          go_wp2
          go_quiet (fail)
          go_wp2
          go_roundw
          case rel => exact ⟨k - 1, _, by omega, by go_num, Hd2, Lib.hid (by rw [← HW3.out, World.drewN_drewN, World.drewN_drewN])⟩
          case measure => simp [intOf]; omega
        · have Hca := Lib.hid (cmp_at4 m n k q1 q2 (by omega) hd.out he)
          generalize (digs T4 n)[k - 1] = z at *
          generalize (digs T4 m)[k - 1] = y at *
          rcases Nat.lt_or_gt_of_ne he with hlt | hlt
          · rw [cmp3_lt (by omega)] at Hca
            have hyz : (y : Int) < (z : Int) := by omega
            clear he
            go_wp2
            go_quiet (fail)
            go_wp2
            go_ret
            exact ⟨by rw [← Hca.out]; rfl, _, by rw [World.drewN_drewN]⟩
          · rw [cmp3_gt (by omega)] at Hca
            have hyz : ¬ (y : Int) < (z : Int) := by omega
            have hzy : (z : Int) < (y : Int) := by omega
            clear he
            go_wp2
            go_quiet (fail)
            obtain ⟨W3, hW3⟩ : ∃ W3, (w.drewN d).drewN nq = W3 := ⟨_, rfl⟩
            have c3 : W3.cell? ⟨b, off + (k - 1), none⟩ = some (.int .i64 (y : Int)) := by rw [← hW3]; exact c1
            have c4 : W3.cell? ⟨b', off' + (k - 1), none⟩ = some (.int .i64 (z : Int)) := by rw [← hW3]; exact c2
            have HW3 := Lib.hid hW3
            rw [hW3]
            clear hW3 c1 c2
            go_wp2
            go_quiet (fail)
            go_wp2
            go_ret
            exact ⟨by rw [← Hca.out]; rfl, _, by rw [← HW3.out, World.drewN_drewN, World.drewN_drewN]⟩
  · have Hcl := Lib.hid (cmp_len4 m n hne)
    clear Hc Hc'
    generalize (digs T4 m).length = N at *
    generalize (digs T4 n).length = M at *
    rcases Nat.lt_or_gt_of_ne hne with hlt | hlt
    · have hx : cmp3 (m : Int) (n : Int) = -1 := by rw [← Hcl.out, cmp3_lt (by omega)]
      have Hx := Lib.hid hx
      clear hx Hcl hne
      go_enter Tryd.func62, Tryd.ntmps62
      go_wp2
      go_ret
      exact ⟨by rw [Hx.out]; rfl, 0, rfl⟩
    · have hx : cmp3 (m : Int) (n : Int) = 1 := by rw [← Hcl.out, cmp3_gt (by omega)]
      have Hx := Lib.hid hx
      clear hx Hcl hne
      go_enter Tryd.func62, Tryd.ntmps62
      go_wp2
      go_ret
      exact ⟨by rw [Hx.out]; rfl, 0, rfl⟩

end Go.Proofs.YtgfgjnkndfgdiaaDoor
