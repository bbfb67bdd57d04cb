/- The documented examples: lives. -/
import Derived.Test.YtndlecddgihihaaDoorAgrees
import Derived.Test.YtndlecddgihihaaDoorPos
import Derived.KernelRfl
namespace Go.Proofs.YtndlecddgihihaaDoor
open Go.RowKit

def liveToks : List Tok := [⟨0, [97, 49], 0, 0⟩, ⟨1, [49, 50], 12, 3⟩, ⟨2, [44], 0, 5⟩, ⟨0, [98], 0, 6⟩, ⟨2, [45, 62], 0, 7⟩]
theorem live1 : lxs ⟨#[97, 49, 32, 49, 50, 44, 98, 45, 62, 35, 99]⟩ = .ok liveToks := by kernel_rfl
theorem live2 : lxs ⟨#[97, 45, 98]⟩ = .error (1, 2) := by kernel_rfl
theorem live3 : lxs ⟨#[120, 32, 49, 48, 57, 57, 53, 49, 49, 54, 50, 55, 55, 55, 55]⟩ = .error (2, 4) := by kernel_rfl
theorem live4 : lnN ⟨#[97, 98, 10, 99]⟩ (clampN ⟨#[97, 98, 10, 99]⟩ 3) = 2 ∧ coN ⟨#[97, 98, 10, 99]⟩ (clampN ⟨#[97, 98, 10, 99]⟩ 3) = 1 := ⟨by kernel_rfl, by kernel_rfl⟩

set_option maxRecDepth 100000 in
set_option maxHeartbeats 1000000 in
theorem lives_any (w : World) (hK : Kinds w) :
    Calls Tryd.prog 14 #[] w fun e w' => e = .returned (.bool true) ∧ Below w.heap.size w w' := by
  have HK := Lib.hid hK
  clear hK
  go_enter Tryd.func14, Tryd.ntmps14
  go_wp2_with fail
  refine (tokens_any _ w (by decide) HK.out).mono ?_
  rintro e w1 ⟨hB1, ⟨ts, v, hx, hlen, rfl, hown1⟩ | ⟨k, er, hx, rfl, her⟩⟩
  rotate_left
  · rw [live1] at hx; cases hx
  rw [live1] at hx
  cases hx
  have HB1 := Lib.hid hB1
  have Hown1 := Lib.hid hown1
  clear hB1 hown1 hlen
  have hl1 : 1 < w.heap.size := HK.out.lt
  go_wp2_with fail
  refine (tokens_any _ w1 (by decide) (HK.out.below HB1.out hl1)).mono ?_
  rintro e w2 ⟨hB2, ⟨ts, v2, hx, hlen, rfl, hown2⟩ | ⟨k, er, hx, rfl, her⟩⟩
  · rw [live2] at hx; cases hx
  rw [live2] at hx
  cases hx
  have HB2 := Lib.hid hB2
  clear hB2 her
  have hz1 := HB1.out.size
  go_wp2_with fail
  refine (tokens_any _ w2 (by decide) ((HK.out.below HB1.out hl1).below HB2.out (by omega))).mono ?_
  rintro e w3 ⟨hB3, ⟨ts, v2, hx, hlen, rfl, hown2⟩ | ⟨k, er, hx, rfl, her⟩⟩
  · rw [live3] at hx; cases hx
  rw [live3] at hx
  cases hx
  have HB3 := Lib.hid hB3
  clear hB3 her
  have hz2 := HB2.out.size
  go_wp2_with fail
  refine (pos_any _ 3 w3 (by decide) (by decide) (by decide)).mono ?_
  rw [live4.1, live4.2]
  rintro e w4 ⟨rfl, rfl⟩
  have ht := TokAt.of_owns (ownsRow_below (ownsRow_below Hown1.out HB2.out) HB3.out)
  rcases ht with ⟨rfl, ht⟩ | ⟨g, cap, rfl, hc1, hc2, hcells⟩
  · cases ht
  have hcap : cap ≤ 9223372036854775807 := by unfold maxLen at hc2; omega
  have hlen : liveToks.length = 5 := rfl
  rw [hlen] at hc1 ⊢
  have a1 := hcells 4 _ rfl
  have a2 := hcells 6 _ rfl
  have a3 := hcells 7 _ rfl
  have a4 := hcells 17 _ rfl
  have a5 := hcells 19 _ rfl
  clear hcells Hown1 hlen hc2
  go_wp2
  go_ret
  exact ⟨rfl, (HB1.out.trans (HB2.out.mono hz1)).trans (HB3.out.mono (by omega))⟩

end Go.Proofs.YtndlecddgihihaaDoor
