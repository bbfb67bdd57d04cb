/- math/bits: Len32, LeadingZeros32. -/
import Derived.Test.YtgfgjnkndfgdiaaDoorWRest
import Derived.Lib.BitFns
import Derived.Lib.Walk
set_option linter.unusedVariables false
set_option linter.unusedSimpArgs false
namespace Go.Proofs.YtgfgjnkndfgdiaaDoor
open Go.RowKit

theorem tab_at (y : Nat) (h : y < 256) : ∀ h', (Lib.len8tab[y]'h').toNat = Lib.bitLen y := by
  intro h'
  have e := Lib.len8_eq ⟨y, h⟩
  unfold Lib.len8 at e
  simp only [Int.toNat_natCast] at e
  have e2 : Lib.len8tab[y]? = some (Lib.len8tab[y]'h') := by simp [h']
  rw [e2] at e
  exact Int.ofNat.inj e
theorem tab_size : Lib.len8tab.size = 256 := by decide +kernel


set_option maxHeartbeats 4000000 in
set_option maxRecDepth 100000 in
theorem len32_any (x : Nat) (w : World) (h1 : x < 4294967296) :
    Calls Tryd.prog 94 #[.int .u32 (x : Int)] w fun e w' => e = .returned (.int .i64 (Lib.bitLen x)) ∧ w' = w := by
  have hs := tab_size
  by_cases h2 : x < 65536
  · have g2 : ¬ (65536 ≤ (x : Int)) := by omega
    by_cases h3 : x < 256
    · have g3 : ¬ (256 ≤ (x : Int)) := by omega
      have hy : x < 256 := h3
      have Hb : Hid True := Lib.hid trivial
      have hyl : Lib.bitLen x ≤ 8 := Lib.bitLen_le8 ⟨x, hy⟩
      have htab := tab_at x hy
      generalize Lib.bitLen x = L at *
      go_enter Tryd.func94, Tryd.ntmps94
      go_wp2
      go_ret
      refine ⟨?_, rfl⟩
      first | rfl | (rw [Hb.out]; rfl)
    · have g3 : 256 ≤ (x : Int) := by omega
      obtain ⟨y, hyx⟩ : ∃ y, x / 256 = y := ⟨_, rfl⟩
      have Hb : Hid (Lib.bitLen x = 8 + Lib.bitLen y) := Lib.hid (by rw [← hyx]; exact Lib.bitLen_shift8 x (by omega) (by omega))
      have hy : y < 256 := by omega
      have hq : (x : Int) / 256 = (y : Int) := by omega
      clear hyx
      have hyl : Lib.bitLen y ≤ 8 := Lib.bitLen_le8 ⟨y, hy⟩
      have htab := tab_at y hy
      generalize Lib.bitLen y = L at *
      go_enter Tryd.func94, Tryd.ntmps94
      go_wp2
      go_ret
      refine ⟨?_, rfl⟩
      first | rfl | (rw [Hb.out]; rfl)
  · have g2 : 65536 ≤ (x : Int) := by omega
    obtain ⟨u, hu⟩ : ∃ u, x / 65536 = u := ⟨_, rfl⟩
    have hqu : (x : Int) / 65536 = (u : Int) := by omega
    have hul : u < 65536 := by omega
    have hb16 := Lib.bitLen_shift16 x (by omega) (by omega)
    rw [hu] at hb16
    by_cases h3 : u < 256
    · have g3 : ¬ (256 ≤ (u : Int)) := by omega
      have Hb : Hid (Lib.bitLen x = 16 + Lib.bitLen u) := Lib.hid hb16
      have hy : u < 256 := h3
      clear hu hb16
      have hyl : Lib.bitLen u ≤ 8 := Lib.bitLen_le8 ⟨u, hy⟩
      have htab := tab_at u hy
      generalize Lib.bitLen u = L at *
      go_enter Tryd.func94, Tryd.ntmps94
      go_wp2
      go_ret
      refine ⟨?_, rfl⟩
      first | rfl | (rw [Hb.out]; rfl)
    · have g3 : 256 ≤ (u : Int) := by omega
      obtain ⟨y, hyx⟩ : ∃ y, u / 256 = y := ⟨_, rfl⟩
      have hb8 := Lib.bitLen_shift8 u (by omega) (by omega)
      rw [hyx] at hb8
      have Hb : Hid (Lib.bitLen x = 24 + Lib.bitLen y) := Lib.hid (by omega)
      have hy : y < 256 := by omega
      have hq : (u : Int) / 256 = (y : Int) := by omega
      clear hyx hu hb16 hb8
      have hyl : Lib.bitLen y ≤ 8 := Lib.bitLen_le8 ⟨y, hy⟩
      have htab := tab_at y hy
      generalize Lib.bitLen y = L at *
      go_enter Tryd.func94, Tryd.ntmps94
      go_wp2
      go_ret
      refine ⟨?_, rfl⟩
      first | rfl | (rw [Hb.out]; rfl)

theorem bitLen32 (x : Nat) (h : x < 4294967296) : Lib.bitLen x ≤ 32 := Lib.bitLen_le x 32 (by omega) h

theorem lz32_any (x : Nat) (w : World) (h1 : x < 4294967296) :
    Calls Tryd.prog 77 #[.int .u32 (x : Int)] w fun e w' => e = .returned (.int .i64 ((32 - Lib.bitLen x : Nat) : Int)) ∧ w' = w := by
  have hl := bitLen32 x h1
  have H := Lib.hid (len32_any x w h1)
  generalize Lib.bitLen x = L at *
  go_enter Tryd.func77, Tryd.ntmps77
  go_wp2_with fail
  refine H.out.mono ?_
  rintro e w' ⟨rfl, rfl⟩
  go_wp2
  go_ret
  refine ⟨?_, rfl⟩
  have e : (32 : Int) - (L : Int) = ((32 - L : Nat) : Int) := by omega
  rw [← e]
  rfl

end Go.Proofs.YtgfgjnkndfgdiaaDoor
