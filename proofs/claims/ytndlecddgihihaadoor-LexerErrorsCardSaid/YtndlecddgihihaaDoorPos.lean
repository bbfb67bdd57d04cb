/- Positions: the program's and the reference's. -/
import Derived.Test.YtndlecddgihihaaDoorRefWalks
import Derived.Test.YtndlecddgihihaaDoorShelf
namespace Go.Proofs.YtndlecddgihihaaDoor
open Go.RowKit

def nl (s : ByteArray) (n : Nat) : Bool := decide ((s.data[n]!).toNat = 10)
/-- line and column of an offset -/
def lnN (s : ByteArray) : Nat → Nat
  | 0 => 1
  | n + 1 => if nl s n then lnN s n + 1 else lnN s n
def coN (s : ByteArray) : Nat → Nat
  | 0 => 1
  | n + 1 => if nl s n then 1 else coN s n + 1

theorem lnN_le (s : ByteArray) : ∀ n, 1 ≤ lnN s n ∧ lnN s n ≤ n + 1
  | 0 => ⟨Nat.le_refl _, Nat.le_refl _⟩
  | n + 1 => by
    have := lnN_le s n
    unfold lnN
    split <;> omega
theorem coN_le (s : ByteArray) : ∀ n, 1 ≤ coN s n ∧ coN s n ≤ n + 1
  | 0 => ⟨Nat.le_refl _, Nat.le_refl _⟩
  | n + 1 => by
    have := coN_le s n
    unfold coN
    split <;> omega

def clampN (s : ByteArray) (at_ : Int) : Nat := (max 0 (min at_ s.size)).toNat

theorem data_get (s : ByteArray) (k : Nat) (h : k < s.size) : s.data[k]! = s[k] := by
  rw [getElem!_pos s.data k (by simpa using h)]; rfl

theorem nl_true (s : ByteArray) (k : Nat) (h : k < s.size) (hb : ((s[k].toNat : Int) == 10) = true) : nl s k = true := by
  unfold nl; rw [data_get s k h]; simp only [beq_iff_eq] at hb; simp; omega
theorem nl_false (s : ByteArray) (k : Nat) (h : k < s.size) (hb : ((s[k].toNat : Int) == 10) = false) : nl s k = false := by
  unfold nl; rw [data_get s k h]; simp only [beq_eq_false_iff_ne] at hb; simp; omega

set_option maxHeartbeats 1000000 in
theorem rpos_any (s : ByteArray) (at_ : Int) (w : World) (hs : s.size ≤ 4611686018427387904) (h1 : -9223372036854775808 ≤ at_) (h2 : at_ ≤ 9223372036854775807) :
    Calls Tryd.prog 17 #[.string s, .int .i64 at_] w fun e w' => e = .returned (.tuple #[.int .i64 (lnN s (clampN s at_)), .int .i64 (coN s (clampN s at_))]) ∧ w = w' := by
  have hcl : clampN s at_ ≤ s.size ∧ (∀ k : Nat, k < clampN s at_ ↔ k < s.size ∧ (k : Int) < at_) := by
    unfold clampN; constructor
    · omega
    · intro k; omega
  have Hcl := Lib.hid hcl
  clear hcl
  generalize clampN s at_ = N at *
  go_enter Tryd.func17, Tryd.ntmps17
  go_wp2
  go_loop [6, 7, 8] (fun l c i => ∃ (k : Nat), k ≤ N ∧ i = .int .i64 k ∧ l = .int .i64 (lnN s k) ∧ c = .int .i64 (coN s k)) (fun _ _ i => s.size - (intOf i).toNat)
  case atStart => exact ⟨0, by omega, rfl, rfl, rfl⟩
  case round =>
    obtain ⟨k, hk, rfl, rfl, rfl⟩ := hrel
    have hNs := Hcl.out.1
    have hl1 := lnN_le s k
    have hc1 := coN_le s k
    by_cases hlt : k < N
    · have hq := (Hcl.out.2 k).1 hlt
      obtain ⟨hq1, hq2⟩ := hq
      have hln : Hid (lnN s (k + 1) = if nl s k then lnN s k + 1 else lnN s k) := rfl
      have hco : Hid (coN s (k + 1) = if nl s k then 1 else coN s k + 1) := rfl
      generalize lnN s k = A at *
      generalize coN s k = B at *
      go_wp2
      · have hb : ((s[k].toNat : Int) == 10) = true := by assumption
        have hn := nl_true s k hq1 hb
        go_round
        case rel => exact ⟨k + 1, by omega, by go_num, by rw [hln.out, hn]; go_num, by rw [hco.out, hn]; rfl⟩
        case measure => simp [intOf]; omega
      · have hb : ((s[k].toNat : Int) == 10) = false := by assumption
        have hn := nl_false s k hq1 hb
        go_round
        case rel => exact ⟨k + 1, by omega, by go_num, by rw [hln.out, hn]; rfl, by rw [hco.out, hn]; go_num⟩
        case measure => simp [intOf]; omega
    · obtain rfl : k = N := by omega
      have hno : ¬ (k < s.size ∧ (k : Int) < at_) := fun h => hlt ((Hcl.out.2 k).2 h)
      by_cases hks : k < s.size
      · have hat : at_ ≤ (k : Int) := by omega
        clear hno hlt
        go_wp2
        go_ret2
        exact ⟨rfl, rfl⟩
      · clear hno hlt
        go_wp2
        go_ret2
        exact ⟨rfl, rfl⟩

theorem lastIdx_extract (s : ByteArray) (m : Nat) (hm : m ≤ s.size) : ∀ n, n ≤ m → Lib.lastIdx (s.extract 0 m) 10 n = Lib.lastIdx s 10 n
  | 0, _ => rfl
  | n + 1, h => by
    have he : (s.extract 0 m).data[n]! = s.data[n]! := by
      rw [getElem!_pos _ n (by rw [ByteArray.data_extract, Array.size_extract]; have : s.data.size = s.size := rfl; omega), getElem!_pos _ n (by have : s.data.size = s.size := rfl; omega)]
      simp [ByteArray.data_extract]
    unfold Lib.lastIdx
    rw [he, lastIdx_extract s m hm n (by omega)]

theorem co_last (s : ByteArray) : ∀ n : Nat, (n : Int) - Lib.lastIdx s 10 n = coN s n
  | 0 => rfl
  | n + 1 => by
    have ih := co_last s n
    unfold Lib.lastIdx coN nl
    by_cases h : (s.data[n]!).toNat = 10
    · rw [if_pos (by omega), if_pos (by simpa using h)]; omega
    · rw [if_neg (by omega), if_neg (by simpa using h)]; omega

theorem ln_count (s : ByteArray) : ∀ n : Nat, n ≤ s.size → (s.data.toList.take n).count 10 + 1 = lnN s n
  | 0, _ => rfl
  | n + 1, h => by
    have ih := ln_count s n (by omega)
    rw [take_snoc s n (by omega), List.count_append]
    unfold lnN nl
    rw [data_get s n (by omega)]
    by_cases hb : s[n].toNat = 10
    · have : s[n] = 10 := by rw [← UInt8.toNat_inj]; exact hb
      rw [if_pos (by simpa using hb), this]; simp; omega
    · have : ¬ s[n] = 10 := fun e => hb (by rw [e]; rfl)
      rw [if_neg (by simpa using hb)]
      simp [this]; omega

theorem count_at (s : ByteArray) (n : Nat) (hn : n ≤ s.size) (w : World) :
    Calls Tryd.prog 25 #[.string (s.extract 0 n), .string ⟨#[10]⟩] w fun e w' => e = .returned (.int .i64 ((lnN s n : Int) - 1)) ∧ w = w' := by
  refine (Tryd.strings_Count_one (s.extract 0 n) 10 w).mono ?_
  rintro e w' ⟨rfl, rfl⟩
  refine ⟨ret_int ?_, rfl⟩
  have hd : (s.extract 0 n).data.toList = s.data.toList.take n := by
    rw [ByteArray.data_extract, Array.toList_extract, List.extract_eq_take_drop]; simp
  unfold Lib.countByte
  rw [hd, ← ln_count s n hn]
  omega

theorem last_at (s : ByteArray) (n : Nat) (hn : n ≤ s.size) (hs : s.size < 4611686018427387904) (w : World) :
    Calls Tryd.prog 26 #[.string (s.extract 0 n), .int .u8 10] w fun e w' => e = .returned (.int .i64 ((n : Int) - coN s n)) ∧ w = w' := by
  have hz : (s.extract 0 n).size = n := by rw [ByteArray.size_extract]; omega
  refine (Tryd.strings_LastIndexByte (s.extract 0 n) 10 (by omega) w).mono ?_
  rintro e w' ⟨rfl, rfl⟩
  refine ⟨ret_int ?_, rfl⟩
  unfold Lib.lastIndexByte
  rw [hz, lastIdx_extract s n hn n (Nat.le_refl _), ← co_last s n]
  omega

set_option maxHeartbeats 1000000 in
theorem pos_any (s : ByteArray) (at_ : Int) (w : World) (hs : s.size < 4611686018427387904) (_h1 : -9223372036854775808 ≤ at_) (_h2 : at_ ≤ 9223372036854775807) :
    Calls Tryd.prog 16 #[.string s, .int .i64 at_] w fun e w' => e = .returned (.tuple #[.int .i64 (lnN s (clampN s at_)), .int .i64 (coN s (clampN s at_))]) ∧ w = w' := by
  have hN : (max 0 (min at_ (s.size : Int))).toNat = clampN s at_ := rfl
  have hNs : clampN s at_ ≤ s.size := by unfold clampN; omega
  have HN := Lib.hid hN
  clear hN
  have hl1 := lnN_le s (clampN s at_)
  have hc1 := coN_le s (clampN s at_)
  generalize clampN s at_ = N at *
  have Ha := Lib.hid (count_at s N hNs)
  have Hb := Lib.hid (last_at s N hNs hs)
  have hz : (s.extract 0 N).size = N := by rw [ByteArray.size_extract]; omega
  have Hz := Lib.hid hz
  clear hz
  generalize lnN s N = A at *
  generalize coN s N = B at *
  go_enter Tryd.func16, Tryd.ntmps16
  go_wp2_with fail
  rw [HN.out]
  refine (Ha.out _).mono ?_
  rintro e w' ⟨rfl, rfl⟩
  go_wp2_with fail
  refine (Hb.out _).mono ?_
  rintro e w' ⟨rfl, rfl⟩
  go_wp2_with fail
  go_ret2
  exact ⟨by simp; omega, rfl⟩

end Go.Proofs.YtndlecddgihihaaDoor
