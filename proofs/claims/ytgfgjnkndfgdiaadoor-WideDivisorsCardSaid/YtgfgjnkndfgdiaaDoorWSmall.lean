/- wide: Small. -/
import Derived.Test.YtgfgjnkndfgdiaaDoorWCmp
namespace Go.Proofs.YtgfgjnkndfgdiaaDoor
open Go.RowKit

def smallV (z : Int) : Value := if -9223372036854775808 ≤ z ∧ z ≤ 9223372036854775807 then .tuple #[.int .i64 z, .bool true] else .tuple #[.int .i64 0, .bool false]

theorem or_zero_u64 (y : Nat) (hy : y < 4294967296) : bits BinOp.or IntKind.u64 0 (y : Int) = (y : Int) := by
  have h := u64_or_nat 0 y (by omega) (by omega)
  rw [Nat.zero_or] at h
  exact h
theorem or_high_u64 (x y : Nat) (hx : x < 4294967296) (hy : y < 4294967296) : bits BinOp.or IntKind.u64 (x : Int) ((y : Int) * 4294967296) = ((x + y * 4294967296 : Nat) : Int) := by
  have h := u64_or_nat x (y * 4294967296) (by omega) (by omega)
  have e : (((y * 4294967296 : Nat)) : Int) = (y : Int) * 4294967296 := by omega
  rw [e] at h
  rw [h]
  have h2 : x ||| y * 2 ^ 32 = y * 2 ^ 32 + x := by rw [Nat.or_comm, Nat.mul_comm, ← Nat.two_pow_add_eq_or_of_lt hx]
  have h3 : x ||| y * 4294967296 = x + y * 4294967296 := by rw [Nat.add_comm]; exact h2
  rw [h3]

set_option maxRecDepth 100000 in
set_option maxHeartbeats 4000000 in
theorem small_any (vx : Value) (z : Int) (w : World) (hx : WInt w vx z) (hlx : z.natAbs < LIM) :
    Calls Tryd.prog 22 #[vx] w fun e w' => e = .returned (smallV z) ∧ Below w.heap.size w w' := by
  obtain ⟨ax, nx, cx, rfl, hmx⟩ := hx.form
  have hlen := (lim_len _).2 hlx
  obtain ⟨a', c', hv, q1, q2, hc⟩ := hmx
  injection hv with e1 e2 e3
  subst e1 e2 e3
  have Hc := Lib.hid hc
  have Hlow := Lib.hid (digs_low W2 w2_two z.natAbs)
  have Hval := Lib.hid (val_digs W2 w2_two z.natAbs)
  clear hx hc hlx
  have HB := Lib.hid (fun b1 n1 => (Below.refl w.heap.size w).alloc (Nat.le_refl _) (.cells #[.bool b1, .slice ax n1 cx] 33))
  obtain ⟨A, hA⟩ : ∃ A, digs W2 z.natAbs = A := ⟨_, rfl⟩
  have HA := Lib.hid hA
  rw [hA] at Hc Hlow Hval hlen q1 ⊢
  clear hA
  obtain ⟨N, hN⟩ : ∃ N, A.length = N := ⟨_, rfl⟩
  have HN := Lib.hid hN
  rw [hN] at hlen q1 ⊢
  clear hN
  by_cases h2 : 2 < N
  · have Hbig : Hid (smallV z = .tuple #[.int .i64 0, .bool false]) := Lib.hid (by
      have h3 : W2 ^ 2 ≤ z.natAbs := by
        rcases Nat.lt_or_ge z.natAbs (W2 ^ 2) with h | h
        · have := digs_len_le W2 w2_two 2 z.natAbs h
          rw [HA.out, HN.out] at this
          omega
        · exact h
      have h4 : W2 ^ 2 = 18446744073709551616 := rfl
      unfold smallV
      rw [if_neg (by omega)])
    go_enter Tryd.func22, Tryd.ntmps22
    go_wp2
    go_ret2
    exact ⟨by rw [Hbig.out]; rfl, HB.out _ _⟩
  · go_enter Tryd.func22, Tryd.ntmps22
    go_wp2_with fail
    go_loopw [4, 14] (fun sv i wr => ∃ (k s : Nat), k ≤ N ∧ i = .int .i64 k ∧ sv = .int .u64 (s : Int) ∧ Hid (s = val W2 (A.take k)) ∧ Hid (w.alloc (.cells #[.bool (decide (z < 0)), .slice ax N cx] 33) = wr)) (fun _ i _ => N - (intOf i).toNat)
    case atStart => exact ⟨0, 0, by omega, rfl, rfl, Lib.hid (by simp [val]), Lib.hid rfl⟩
    case round =>
      obtain ⟨k, s, hk, rfl, rfl, hs, hw⟩ := hrel
      by_cases hlt : k < N
      · have hka : k < A.length := by rw [HN.out]; exact hlt
        obtain ⟨b, off, rfl, hb, hcc⟩ := Hc.out (by omega)
        have hyl : A[k] < 4294967296 := Hlow.out _ (List.getElem_mem hka)
        have cy : wr.cell? ⟨b, off + k, none⟩ = some (.int .u32 (A[k] : Int)) := by
          rw [← hw.out, World.cell?_alloc_lt _ _ _ hb]; exact hcc k hka
        have Hst := Lib.hid (val_take_succ W2 A k hka)
        clear hcc
        generalize A[k] = y at *
        have hk2 : k = 0 ∨ k = 1 := by omega
        rcases hk2 with rfl | rfl
        · obtain rfl : s = 0 := by rw [hs.out]; simp [val]
          have hor := or_zero_u64 y hyl
          rw [Nat.add_zero] at cy
          go_wp2_with fail
          refine ⟨⟨1, y, by omega, rfl, rfl, Lib.hid ?_, hw⟩, ?_⟩
          · have := Hst.out
            rw [Nat.zero_add] at this
            rw [this]; simp [val]
          · simp [intOf]; omega
        · have hs1 : s < 4294967296 := by
            have h3 := val_lt W2 (by decide) (A.take 1) (low_take Hlow.out 1)
            rw [List.length_take, Nat.min_eq_left (by omega)] at h3
            rw [hs.out]
            exact h3
          have hor := or_high_u64 s y hs1 hyl
          go_wp2_with fail
          refine ⟨⟨2, s + y * 4294967296, by omega, rfl, by go_num, Lib.hid ?_, hw⟩, ?_⟩
          · have := Hst.out
            rw [show 1 + 1 = 2 from rfl] at this
            rw [this, ← hs.out]
            rfl
          · simp [intOf]; omega
      · obtain rfl : k = N := by omega
        clear hlt
        obtain rfl : s = z.natAbs := by
          rw [hs.out, List.take_of_length_le (by rw [HN.out]; exact Nat.le_refl _)]; exact Hval.out
        have hs2 : z.natAbs < 18446744073709551616 := by
          have h3 := val_lt W2 (by decide) A Hlow.out
          rw [Hval.out, HN.out] at h3
          have h4 : W2 ^ k ≤ W2 ^ 2 := Nat.pow_le_pow_right (by decide) (by omega)
          have h5 : W2 ^ 2 = 18446744073709551616 := rfl
          omega
        have HBw : Hid (Below w.heap.size w wr) := Lib.hid (by rw [← hw.out]; exact HB.out _ _)
        have cneg : wr.cell? ⟨w.heap.size, 0, none⟩ = some (.bool (decide (z < 0))) := by
          rw [← hw.out]; exact (Two.new w 33 _ _).cell0
        clear hw Hc HB hs
        by_cases hz : z < 0
        · rw [decide_eq_true hz] at cneg
          have hza : (z.natAbs : Int) = -z := by omega
          obtain ⟨m, hm⟩ : ∃ m, z.natAbs = m := ⟨_, rfl⟩
          rw [hm] at hs2 hza ⊢
          have hmp : 0 < m := by omega
          by_cases hbig : 9223372036854775808 < m
          · have Hb : Hid (smallV z = .tuple #[.int .i64 0, .bool false]) := Lib.hid (by unfold smallV; rw [if_neg (by omega)])
            clear hm hza
            go_wp2
            go_ret2
            exact ⟨by rw [Hb.out]; rfl, HBw.out⟩
          · have Hb : Hid (smallV z = .tuple #[.int .i64 (-(m : Int)), .bool true]) := Lib.hid (by unfold smallV; rw [if_pos (by omega), hza, Int.neg_neg])
            have b1 : IntKind.u64.wrap (-(m : Int)) = 18446744073709551616 - (m : Int) := by rw [IntKind.wrap_u64]; omega
            have b2 : IntKind.i64.wrap (18446744073709551616 - (m : Int)) = -(m : Int) := by rw [IntKind.wrap_i64]; omega
            clear hm hza
            go_wp2
            go_ret2
            exact ⟨by rw [Hb.out]; rfl, HBw.out⟩
        · rw [decide_eq_false hz] at cneg
          have hza : (z.natAbs : Int) = z := by omega
          obtain ⟨m, hm⟩ : ∃ m, z.natAbs = m := ⟨_, rfl⟩
          rw [hm] at hs2 hza ⊢
          by_cases hbig : 9223372036854775807 < m
          · have Hb : Hid (smallV z = .tuple #[.int .i64 0, .bool false]) := Lib.hid (by unfold smallV; rw [if_neg (by omega)])
            clear hm hza
            go_wp2
            go_ret2
            exact ⟨by rw [Hb.out]; rfl, HBw.out⟩
          · have Hb : Hid (smallV z = .tuple #[.int .i64 (m : Int), .bool true]) := Lib.hid (by unfold smallV; rw [if_pos (by omega), hza])
            clear hm hza
            go_wp2
            go_ret2
            exact ⟨by rw [Hb.out]; rfl, HBw.out⟩

end Go.Proofs.YtgfgjnkndfgdiaaDoor
