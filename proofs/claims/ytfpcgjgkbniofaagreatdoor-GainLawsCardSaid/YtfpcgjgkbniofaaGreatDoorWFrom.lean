/- wide: From, Compare, Sign, Neg, Small. -/
import Derived.Test.YtfpcgjgkbniofaaGreatDoorWMul
namespace Go.Proofs.YtfpcgjgkbniofaaGreatDoor
open Go.RowKit

theorem LimPost.ok {z : Int} {w w' : World} {e : Ending} (h : LimPost z w e w') (hz : z.natAbs < LIM) : ∃ a l cap, e = .returned (.tuple #[.agg #[.bool (decide (z < 0)), .slice a l cap], .int .i64 0]) ∧ MagAt w' (.slice a l cap) z.natAbs ∧ Below w.heap.size w w' := by
  obtain ⟨hB, ⟨_, v, rfl, hW⟩ | ⟨hl, rfl⟩⟩ := h
  · obtain ⟨a, l, cap, rfl, hm⟩ := hW.form
    exact ⟨a, l, cap, rfl, hm, hB⟩
  · omega
theorem LimPost.big {z : Int} {w w' : World} {e : Ending} (h : LimPost z w e w') (hz : LIM ≤ z.natAbs) : e = .returned (.tuple #[.agg #[.bool false, .slice none 0 0], .int .i64 4]) ∧ Below w.heap.size w w' := by
  obtain ⟨hB, ⟨hl, v, rfl, hW⟩ | ⟨hl, rfl⟩⟩ := h
  · omega
  · exact ⟨rfl, hB⟩

theorem sgn_opp (y : Int) : sgn (!decide (y < 0)) y.natAbs = -y := by
  unfold sgn
  by_cases h : y < 0
  · simp [h]; omega
  · simp [h]; omega

theorem two_words (m : Nat) (h : m < 18446744073709551616) : val W2 [m % W2, m / W2] = m ∧ Low W2 [m % W2, m / W2] := by
  constructor
  · show m % 4294967296 + 4294967296 * (m / 4294967296 + 4294967296 * 0) = m
    omega
  · intro x hx
    simp only [List.mem_cons, List.not_mem_nil, or_false] at hx
    rcases hx with rfl | rfl
    · exact Nat.mod_lt _ (by decide)
    · exact (Nat.div_lt_iff_lt_mul (by decide)).2 (by unfold W2; omega)

theorem trim_two (w0 : World) (m : Nat) (hm : m < 18446744073709551616) (g : Nat) (hg : g = w0.heap.size) :
    Calls Tryz.prog 116 #[.slice (some ⟨g, 0, none⟩) 2 2] (w0.alloc (.cells #[.int .u32 ((m : Int) % 4294967296), .int .u32 ((m : Int) / 4294967296)] 159)) fun e w' =>
      ∃ v', e = .returned v' ∧ MagAt (w0.alloc (.cells #[.int .u32 ((m : Int) % 4294967296), .int .u32 ((m : Int) / 4294967296)] 159)) v' m ∧ (w0.alloc (.cells #[.int .u32 ((m : Int) % 4294967296), .int .u32 ((m : Int) / 4294967296)] 159)) = w' := by
  subst hg
  have hb : Blk (w0.alloc (.cells #[.int .u32 ((m : Int) % 4294967296), .int .u32 ((m : Int) / 4294967296)] 159)) w0.heap.size 159 .u32 [m % W2, m / W2] := by
    unfold Blk
    rw [heap_alloc_new]
    simp only [List.map_cons, List.map_nil, iv, cast_mod, cast_div]
  have h2 := two_words m hm
  have := trim_any _ _ _ (RowAt.of_blk hb (cap := 2) (by simp) (by omega)) h2.2 (by simp)
  rw [h2.1] at this
  exact this

set_option maxRecDepth 100000 in
set_option maxHeartbeats 2000000 in
theorem from_any (z : Int) (w : World) (h1 : -9223372036854775808 ≤ z) (h2 : z ≤ 9223372036854775807) :
    Calls Tryz.prog 104 #[.int .i64 z] w fun e w' => ∃ v, e = .returned v ∧ WInt w' v z ∧ Below w.heap.size w w' := by
  by_cases hz : z < 0
  · obtain ⟨m, hm⟩ : ∃ m : Nat, z = -(m : Int) := ⟨z.natAbs, by omega⟩
    subst hm
    have b1 : IntKind.u64.wrap (-(m : Int)) = 18446744073709551616 - (m : Int) := by rw [IntKind.wrap_u64]; omega
    have b2 : IntKind.u64.wrap (-(18446744073709551616 - (m : Int))) = (m : Int) := by rw [IntKind.wrap_u64]; omega
    go_enter Tryz.func104, Tryz.ntmps104
    go_wp2_with fail
    clear b1 b2
    refine (trim_two (w.alloc (.cells #[.bool false, .slice none 0 0] 85)) m (by omega) _ (by simp)).mono ?_
    rintro e w1 ⟨v1, rfl, hm1, hw1⟩
    have T1 : Two w1 w.heap.size 85 (.bool false) (.slice none 0 0) := by rw [← hw1]; exact (Two.new w 85 (.bool false) (.slice none 0 0)).alloc _
    have hB1 : Below w.heap.size w w1 := by rw [← hw1]; exact ((Below.refl _ w).alloc (Nat.le_refl _) _).alloc (by simp) _
    rw [hw1] at hm1
    clear hw1
    obtain ⟨a1, c1, rfl, hr1⟩ := hm1
    have Hm1 : Hid (MagAt w1 (.slice a1 (digs W2 m).length c1) m) := Lib.hid ⟨a1, c1, rfl, hr1⟩
    have HT1 := Lib.hid T1
    have HB1 := Lib.hid hB1
    clear hr1 T1 hB1
    go_wp2_with fail
    refine (signed_any true _ m w1 Hm1.out).mono ?_
    rintro e w2 ⟨rfl, hB2⟩
    have hT2 := HT1.out.below hB2 HT1.out.lt
    have g0 := hT2.cell0
    have g1 := hT2.cell1
    have g2 := hT2.frozen 0
    have g3 := hT2.frozen 1
    have HT2 := Lib.hid hT2
    have Hm2 := Lib.hid (RowAt.below Hm1.out (Nat.le_refl _) hB2)
    have z1 := HB1.out.size
    have HB2 := Lib.hid (HB1.out.trans (hB2.mono z1))
    clear hT2 hB2
    go_wp2
    refine bodyPost_ret (v := .agg #[.bool (decide (sgn true m < 0)), .slice a1 (digs W2 m).length c1]) (by simp [results, Tryz.results104, go_sem, g0, g1]) rfl ⟨_, rfl, WInt.mk ?_ ?_, ?_⟩
    · rfl
    · rw [show (-(m : Int) : Int).natAbs = m by omega]
      exact RowAt.store_two Hm2.out HT2.out (fun _ _ h => by cases h) (fun _ _ h => by cases h) _ _
    · exact (HB2.out.setCell (p := ⟨w.heap.size, 0, none⟩) (Nat.le_refl _) _).setCell (p := ⟨w.heap.size, 1, none⟩) (Nat.le_refl _) _
  · obtain ⟨m, hm⟩ : ∃ m : Nat, z = (m : Int) := ⟨z.natAbs, by omega⟩
    subst hm
    go_enter Tryz.func104, Tryz.ntmps104
    go_wp2_with fail
    refine (trim_two (w.alloc (.cells #[.bool false, .slice none 0 0] 85)) m (by omega) _ (by simp)).mono ?_
    rintro e w1 ⟨v1, rfl, hm1, hw1⟩
    have T1 : Two w1 w.heap.size 85 (.bool false) (.slice none 0 0) := by rw [← hw1]; exact (Two.new w 85 (.bool false) (.slice none 0 0)).alloc _
    have hB1 : Below w.heap.size w w1 := by rw [← hw1]; exact ((Below.refl _ w).alloc (Nat.le_refl _) _).alloc (by simp) _
    rw [hw1] at hm1
    clear hw1
    obtain ⟨a1, c1, rfl, hr1⟩ := hm1
    have Hm1 : Hid (MagAt w1 (.slice a1 (digs W2 m).length c1) m) := Lib.hid ⟨a1, c1, rfl, hr1⟩
    have HT1 := Lib.hid T1
    have HB1 := Lib.hid hB1
    clear hr1 T1 hB1
    go_wp2_with fail
    refine (signed_any false _ m w1 Hm1.out).mono ?_
    rintro e w2 ⟨rfl, hB2⟩
    have hT2 := HT1.out.below hB2 HT1.out.lt
    have g0 := hT2.cell0
    have g1 := hT2.cell1
    have g2 := hT2.frozen 0
    have g3 := hT2.frozen 1
    have HT2 := Lib.hid hT2
    have Hm2 := Lib.hid (RowAt.below Hm1.out (Nat.le_refl _) hB2)
    have z1 := HB1.out.size
    have HB2 := Lib.hid (HB1.out.trans (hB2.mono z1))
    clear hT2 hB2
    go_wp2
    refine bodyPost_ret (v := .agg #[.bool (decide (sgn false m < 0)), .slice a1 (digs W2 m).length c1]) (by simp [results, Tryz.results104, go_sem, g0, g1]) rfl ⟨_, rfl, WInt.mk ?_ ?_, ?_⟩
    · rfl
    · rw [show ((m : Int) : Int).natAbs = m by omega]
      exact RowAt.store_two Hm2.out HT2.out (fun _ _ h => by cases h) (fun _ _ h => by cases h) _ _
    · exact (HB2.out.setCell (p := ⟨w.heap.size, 0, none⟩) (Nat.le_refl _) _).setCell (p := ⟨w.heap.size, 1, none⟩) (Nat.le_refl _) _

end Go.Proofs.YtfpcgjgkbniofaaGreatDoor
