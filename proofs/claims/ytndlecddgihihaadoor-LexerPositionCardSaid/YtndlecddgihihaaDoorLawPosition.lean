/- The law LexerPosition: it returns true. -/
import Derived.Test.YtndlecddgihihaaDoorTexts
import Derived.Test.YtndlecddgihihaaDoorLives
namespace Go.Proofs.YtndlecddgihihaaDoor
open Go.RowKit

/-- the two texts, by number -/
def twoT (c s : ByteArray) (i : Nat) : ByteArray := if i = 0 then c else s

theorem two_cell (w : World) (c s : ByteArray) (i : Nat) (h : i < 2) : (w.alloc (.cells #[.string c, .string s] 9)).cell? ⟨w.heap.size, i, none⟩ = some (.string (twoT c s i)) := by
  rw [cell_of_row _ w.heap.size i _ 9 (0, 0) (World.alloc_heap_new w _)]
  have hi : i = 0 ∨ i = 1 := by omega
  rcases hi with rfl | rfl <;> rfl

set_option maxHeartbeats 2000000 in
theorem lexerPosition_any (v : Value) (zs : List Int) (len : Nat) (s : ByteArray) (at_ : Int) (w : World) (hl : IntsAt w v zs len) (hs : s.size ≤ 9223372036854775807) (h1 : -9223372036854775808 ≤ at_) (h2 : at_ ≤ 9223372036854775807) (hK : Kinds w) :
    Calls Tryd.prog 6 #[v, .string s, .int .i64 at_] w fun e w' => e = .returned (.bool true) ∧ Below w.heap.size w w' := by
  have HK := Lib.hid hK
  have Hl := Lib.hid hl
  have hg := hK.lt
  have hc := cleanText_len zs len
  clear hK hl
  go_enter Tryd.func6, Tryd.ntmps6
  go_wp2_with fail
  refine (clean_any v zs len w Hl.out).mono ?_
  rintro e w1 ⟨rfl, hB1⟩
  have HB1 := Lib.hid hB1
  have z1 := hB1.size
  clear hB1
  have hcs : (⟨(cleanText zs len).toArray⟩ : ByteArray).size ≤ 456 := hc
  generalize (⟨(cleanText zs len).toArray⟩ : ByteArray) = c at *
  clear hc
  go_wp2_with fail
  refine (short_any s 40 w1 hs (by omega)).mono ?_
  rintro e w5 ⟨rfl, rfl⟩
  have hss : (s.extract 0 40).size ≤ 456 := by rw [ByteArray.size_extract]; omega
  generalize s.extract 0 40 = s' at *
  go_wp2
  have hcell := two_cell w1 c s'
  have htw : ∀ i, (twoT c s' i).size ≤ 456 := by intro i; unfold twoT; split <;> assumption
  have Hcell := Lib.hid hcell
  have Htw := Lib.hid htw
  clear hcell htw
  go_loop [8] (fun i => ∃ (k : Nat), k ≤ 2 ∧ i = .int .i64 k) (fun i => 2 - (intOf i).toNat)
  case atStart => exact ⟨0, by omega, rfl⟩
  case round =>
    obtain ⟨i, hi, rfl⟩ := hrel
    by_cases hlt : i < 2
    · have hcl := Hcell.out i hlt
      have hts := Htw.out i
      generalize twoT c s' i = T at *
      have hi0 : (0 : Int) ≤ (i : Int) := by omega
      go_wp2
      go_loop [9] (fun k => ∃ (m : Nat), m ≤ T.size + 4 ∧ k = .int .i64 ((m : Int) - 2)) (fun k => ((T.size : Int) + 2 - intOf k).toNat)
      case atStart => exact ⟨0, by omega, rfl⟩
      case round =>
        obtain ⟨m, hm, rfl⟩ := hrel
        by_cases hle : (m : Int) - 2 ≤ T.size + 1
        · by_cases hm0 : m = 0
          · subst hm0
            have hb : (((0 : Nat) : Int) - 2 == -2) = true := by decide
            go_wp2_with fail
            refine (pos_any T at_ _ (by omega) h1 h2).mono ?_
            rintro e w' ⟨rfl, rfl⟩
            go_wp2_with fail
            refine (rpos_any T at_ _ (by omega) h1 h2).mono ?_
            rintro e w' ⟨rfl, rfl⟩
            go_wp2_with fail
            go_round
            case rel => exact ⟨1, by omega, by simp⟩
            case measure => simp [intOf]; omega
          · have hne : (((m : Int) - 2) == -2) = false := by rw [beq_eq_false_iff_ne]; omega
            go_wp2_with fail
            refine (pos_any T ((m : Int) - 2) _ (by omega) (by omega) (by omega)).mono ?_
            rintro e w' ⟨rfl, rfl⟩
            go_wp2_with fail
            refine (rpos_any T ((m : Int) - 2) _ (by omega) (by omega) (by omega)).mono ?_
            rintro e w' ⟨rfl, rfl⟩
            go_wp2_with fail
            go_round
            case rel => exact ⟨m + 1, by omega, by simp; omega⟩
            case measure => simp [intOf]; omega
        · go_wp2_with fail
          go_round
          case rel => exact ⟨i + 1, by omega, by go_num⟩
          case measure => simp [intOf]; omega
    · have hge : 2 ≤ i := by omega
      have HBa := Lib.hid (HB1.out.trans (((Below.refl w1.heap.size w1).alloc (Nat.le_refl _) (.cells #[.string c, .string s'] 9)).mono z1))
      go_wp2_with fail
      refine (lives_any _ (HK.out.below HBa.out hg)).mono ?_
      rintro e w6 ⟨rfl, hB6⟩
      have HB6 := Lib.hid (HBa.out.trans (hB6.mono (by simp; omega)))
      clear hB6
      go_wp2
      go_ret
      exact ⟨rfl, HB6.out⟩

end Go.Proofs.YtndlecddgihihaaDoor
