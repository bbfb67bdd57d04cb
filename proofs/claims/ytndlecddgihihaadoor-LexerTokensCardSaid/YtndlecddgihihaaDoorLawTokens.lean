/- The law LexerTokens: it returns true. -/
import Derived.Test.YtndlecddgihihaaDoorTexts
import Derived.Test.YtndlecddgihihaaDoorLives
namespace Go.Proofs.YtndlecddgihihaaDoor
open Go.RowKit

theorem bs_size (l : Bs) : (⟨l.toArray⟩ : ByteArray).size = l.length := rfl

set_option maxHeartbeats 1000000 in
theorem lexerTokens_any (v : Value) (zs : List Int) (len : Nat) (s : ByteArray) (w : World) (hl : IntsAt w v zs len) (hs : s.size ≤ 9223372036854775807) (hK : Kinds w) :
    Calls Tryd.prog 3 #[v, .string s] w fun e w' => e = .returned (.bool true) ∧ Below w.heap.size w w' := by
  have HK := Lib.hid hK
  have Hl := Lib.hid hl
  have hg := hK.lt
  have ht := textOf_len zs len
  have hc := cleanText_len zs len
  clear hK hl
  go_enter Tryd.func3, Tryd.ntmps3
  go_wp2_with fail
  refine (text_any v zs len w Hl.out).mono ?_
  rintro e w1 ⟨rfl, hB1⟩
  have HB1 := Lib.hid hB1
  have z1 := hB1.size
  clear hB1
  go_wp2_with fail
  refine (agrees_any _ w1 (by rw [bs_size]; omega) (HK.out.below HB1.out hg)).mono ?_
  rintro e w2 ⟨rfl, hB2⟩
  have HB2 := Lib.hid (HB1.out.trans (hB2.mono z1))
  clear hB2
  have z2 := HB2.out.size
  go_wp2_with fail
  refine (clean_any v zs len w2 (Hl.out.below (Nat.le_refl _) HB2.out)).mono ?_
  rintro e w3 ⟨rfl, hB3⟩
  have HB3 := Lib.hid (HB2.out.trans (hB3.mono z2))
  clear hB3
  have z3 := HB3.out.size
  go_wp2_with fail
  refine (agrees_any _ w3 (by rw [bs_size]; omega) (HK.out.below HB3.out hg)).mono ?_
  rintro e w4 ⟨rfl, hB4⟩
  have HB4 := Lib.hid (HB3.out.trans (hB4.mono z3))
  clear hB4
  have z4 := HB4.out.size
  go_wp2_with fail
  refine (short_any s 60 w4 hs (by omega)).mono ?_
  rintro e w5 ⟨rfl, rfl⟩
  go_wp2_with fail
  refine (agrees_any _ w4 (by rw [ByteArray.size_extract]; omega) (HK.out.below HB4.out hg)).mono ?_
  rintro e w5 ⟨rfl, hB5⟩
  have HB5 := Lib.hid (HB4.out.trans (hB5.mono z4))
  clear hB5
  have z5 := HB5.out.size
  go_wp2_with fail
  refine (lives_any w5 (HK.out.below HB5.out hg)).mono ?_
  rintro e w6 ⟨rfl, hB6⟩
  have HB6 := Lib.hid (HB5.out.trans (hB6.mono z5))
  clear hB6
  go_wp2
  go_ret
  exact ⟨rfl, HB6.out⟩

end Go.Proofs.YtndlecddgihihaaDoor
