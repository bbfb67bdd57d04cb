/- Pick: the number at a place, within bounds; 0 where there is none. -/
import Derived.Test.YtndlecddgihihaaDoorTexts
namespace Go.Proofs.YtndlecddgihihaaDoor
open Go.RowKit

def pickN (zs : List Int) (len i : Nat) (m : Int) : Int := if i < len then around (zs[i]?.getD 0) m else 0

theorem pickN_range (zs : List Int) (len i : Nat) (m : Int) (hm : 0 < m) : 0 ≤ pickN zs len i m ∧ pickN zs len i m < m := by
  unfold pickN
  by_cases h : i < len
  · rw [if_pos h]; exact around_range _ _ hm
  · rw [if_neg h]; omega

set_option maxHeartbeats 1000000 in
theorem pick_any (v : Value) (zs : List Int) (len i : Nat) (m : Int) (w : World) (h : IntsAt w v zs len) (hi : i ≤ 4611686018427387904) (hm0 : 0 < m) (hm1 : m ≤ 4611686018427387904) :
    Calls Tryd.prog 19 #[v, .int .i64 i, .int .i64 m] w fun e w' => e = .returned (.int .i64 (pickN zs len i m)) ∧ w' = w := by
  rcases h with ⟨a, cap, rfl, rfl, hcap⟩ | ⟨b, off, cap, rfl, hlt, h1, h2, hc, hr⟩
  · have hp : Hid (pickN zs 0 i m = 0) := Lib.hid (by unfold pickN; rw [if_neg (by omega)])
    go_enter Tryd.func19, Tryd.ntmps19
    go_wp2
    go_ret
    exact ⟨by rw [hp.out]; rfl, rfl⟩
  · by_cases hil : i < len
    · have hp : Hid (pickN zs len i m = around (zs[i]?.getD 0) m) := Lib.hid (by unfold pickN; rw [if_pos hil])
      have hcell := hc i hil
      have hri := hr i hil
      clear hc hr
      generalize zs[i]?.getD 0 = z at *
      go_enter Tryd.func19, Tryd.ntmps19
      go_wp2_with (go_at_call 15; refine (around_any z m w hri.1 hri.2 (by omega) (by omega)).mono ?_; rintro e w' ⟨rfl, rfl⟩)
      go_ret
      exact ⟨by rw [hp.out]; rfl, rfl⟩
    · have hp : Hid (pickN zs len i m = 0) := Lib.hid (by unfold pickN; rw [if_neg hil])
      clear hc hr
      go_enter Tryd.func19, Tryd.ntmps19
      go_wp2
      go_ret
      exact ⟨by rw [hp.out]; rfl, rfl⟩

end Go.Proofs.YtndlecddgihihaaDoor
