/- The law LexerLong: it returns true. -/
import Derived.Test.YtndlecddgihihaaDoorTexts
import Derived.Test.YtndlecddgihihaaDoorLives
namespace Go.Proofs.YtndlecddgihihaaDoor
open Go.RowKit

theorem sz_append (a b : ByteArray) : (a ++ b).size = a.size + b.size := by simp

set_option maxRecDepth 100000 in
set_option maxHeartbeats 2000000 in
theorem lexerLong_any (n how : Int) (w : World) (hn : -9223372036854775808 ≤ n) (hn' : n ≤ 9223372036854775807) (hh : -9223372036854775808 ≤ how) (hh' : how ≤ 9223372036854775807) (hK : Kinds w) :
    Calls Tryd.prog 5 #[.int .i64 n, .int .i64 how] w fun e w' => e = .returned (.bool true) ∧ Below w.heap.size w w' := by
  have HK := Lib.hid hK
  have hg := hK.lt
  clear hK
  have Ha1 := Lib.hid (fun w => around_any how 4 w hh hh' (by omega) (by omega))
  have Ha2 := Lib.hid (fun w => around_any n 16 w hn hn' (by omega) (by omega))
  have hq1 := around_range how 4 (by omega)
  have hq2 := around_range n 16 (by omega)
  generalize around how 4 = q1 at *
  generalize around n 16 = q2 at *
  obtain ⟨N, hN⟩ : ∃ N : Nat, q2 = N := ⟨q2.toNat, by omega⟩
  subst hN
  have hN : N < 16 := by omega
  clear hq2
  have hq : q1 = 0 ∨ q1 = 1 ∨ q1 = 2 ∨ q1 = 3 := by omega
  clear hq1
  rcases hq with rfl | rfl | rfl | rfl
  all_goals
    go_enter Tryd.func5, Tryd.ntmps5
    go_wp2_with (go_at_call 15; refine (Ha1.out _).mono ?_; rintro e w' ⟨rfl, rfl⟩)
    go_loop [6, 7] (fun t i => ∃ (k : Nat) (T : ByteArray), k ≤ 818 ∧ T.size = 10 * k ∧ i = .int .i64 k ∧ t = .string T) (fun _ i => 818 - (intOf i).toNat)
    case atStart => exact ⟨0, ByteArray.empty, by omega, rfl, rfl, rfl⟩
    case round =>
      obtain ⟨k, T, hk, hT, rfl, rfl⟩ := hrel
      by_cases hlt : k < 818
      · have HT := Lib.hid hT
        have hTs : T.size ≤ 8180 := by omega
        clear hT
        go_wp2
        go_round
        case rel => exact ⟨k + 1, _, by omega, by rw [sz_append, HT.out]; show 10 * k + 10 = 10 * (k + 1); omega, by go_num, rfl⟩
        case measure => simp [intOf]; omega
      · have hTs : T.size ≤ 8180 := by omega
        have hge : 818 ≤ k := by omega
        clear hT hlt
        go_wp2_with (go_at_call 15; refine (Ha2.out _).mono ?_; rintro e w' ⟨rfl, rfl⟩)
        go_loop [6, 8] (fun t i => ∃ (j : Nat) (U : ByteArray), j ≤ N + 5 ∧ U.size + j ≤ 8180 + N + 5 ∧ i = .int .i64 j ∧ t = .string U) (fun _ i => (intOf i).toNat)
        case atStart => exact ⟨N + 5, T, by omega, by omega, by go_num, rfl⟩
        case round =>
          obtain ⟨j, U, hj, hU, rfl, rfl⟩ := hrel
          by_cases hj0 : 0 < j
          · have hUs : U.size ≤ 9000 := by omega
            go_wp2
            go_round
            case rel => exact ⟨j - 1, _, by omega, by rw [sz_append]; show U.size + 1 + (j - 1) ≤ _; omega, by go_num, rfl⟩
            case measure => simp [intOf]; omega
          · obtain rfl : j = 0 := by omega
            go_wp2_with fail
            refine (agrees_any _ _ (by omega) (HK.out.below ((Below.refl w.heap.size w).alloc (Nat.le_refl _) _) hg)).mono ?_
            rintro e w2 ⟨rfl, hB2⟩
            have HB2 := Lib.hid (((Below.refl w.heap.size w).alloc (Nat.le_refl _) _).trans (hB2.mono (by simp)))
            have z2 := HB2.out.size
            clear hB2
            go_wp2_with fail
            refine (lives_any w2 (HK.out.below HB2.out hg)).mono ?_
            rintro e w6 ⟨rfl, hB6⟩
            have HB6 := Lib.hid (HB2.out.trans (hB6.mono z2))
            clear hB6
            go_wp2
            go_ret
            exact ⟨rfl, HB6.out⟩

end Go.Proofs.YtndlecddgihihaaDoor
