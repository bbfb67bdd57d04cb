/- Walks of the lexer's functions: kindAt, skip, next. -/
import Derived.Test.YtfpcgjgkbniofaaGreatDoorRefWalks
import Derived.Test.YtfpcgjgkbniofaaGreatDoorShelf
import Derived.RegionTactic
import Derived.ChangeAlike
namespace Go.Proofs.YtfpcgjgkbniofaaGreatDoor
open Go.RowKit

/-- the table of kinds, as it lies in memory -/
def Kinds (w : World) : Prop := ∀ k, k < 128 → w.cell? ⟨0, k, none⟩ = some (.int .u8 (kindsL.getD k 0))

theorem Kinds.lt {w : World} (h : Kinds w) : 0 < w.heap.size := World.block_lt_of_cell? w _ (h 0 (by omega))

theorem Kinds.below {w w' : World} (h : Kinds w) {B : Nat} (hb : Below B w w') (hB : 0 < B) : Kinds w' :=
  fun k hk => (hb.cell (p := ⟨0, k, none⟩) hB).trans (h k hk)

def kdAt (s : ByteArray) (k : Nat) : Int := if h : k < s.size then kd s[k] else 0

theorem kdAt_in (s : ByteArray) (k : Nat) (h : k < s.size) : kdAt s k = kd s[k] := by unfold kdAt; rw [dif_pos h]
theorem kdAt_out (s : ByteArray) (k : Nat) (h : s.size ≤ k) : kdAt s k = 0 := by unfold kdAt; rw [dif_neg (by omega)]

set_option maxHeartbeats 400000 in
theorem kindAt_any (s : ByteArray) (k : Nat) (w : World) (_hs : s.size ≤ 4611686018427387904) (_hk : k ≤ 4611686018427387905) (hK : Kinds w) :
    Calls Tryz.prog 134 #[.string s, .int .i64 k] w fun e w' => e = .returned (.int .u8 (kdAt s k)) ∧ w = w' := by
  have HK := Lib.hid hK
  clear hK
  by_cases hlt : k < s.size
  · have hE := Lib.hid (kdAt_in s k hlt)
    by_cases h8 : s[k].toNat < 128
    · have hc := HK.out s[k].toNat h8
      have hf : Hid (kindsL.getD s[k].toNat 0 = kd s[k]) := Lib.hid (by unfold kd; rw [if_pos h8])
      generalize kindsL.getD s[k].toNat 0 = v at *
      go_enter Tryz.func134, Tryz.ntmps134
      go_wp2
      go_ret
      exact ⟨ret_int (by rw [hE.out, ← hf.out]), rfl⟩
    · have hf : Hid (0 = kd s[k]) := Lib.hid (by unfold kd; rw [if_neg h8])
      go_enter Tryz.func134, Tryz.ntmps134
      go_wp2
      go_ret
      exact ⟨ret_int (by rw [hE.out, ← hf.out]), rfl⟩
  · have hE := Lib.hid (kdAt_out s k (by omega))
    go_enter Tryz.func134, Tryz.ntmps134
    go_wp2
    go_ret
    exact ⟨ret_int (by rw [hE.out]), rfl⟩

theorem kindAt_at (s : ByteArray) (n : Nat) (a : Int) (ha : a = n) (w : World) (hs : s.size ≤ 4611686018427387904) (hk : n ≤ 4611686018427387905) (hK : Kinds w) :
    Calls Tryz.prog 134 #[.string s, .int .i64 a] w fun e w' => e = .returned (.int .u8 (kdAt s n)) ∧ w = w' := by
  subst ha; exact kindAt_any s n w hs hk hK

theorem kd_blank (c : UInt8) : kd c = 1 ↔ cl c = 0 := by have := cl_range c; rw [kd_cl]; unfold toKd; omega
theorem kd_hash (c : UInt8) : kd c = 2 ↔ cl c = 5 := by have := cl_range c; rw [kd_cl]; unfold toKd; omega
theorem kd_letter (c : UInt8) : kd c = 3 ↔ cl c = 1 := by have := cl_range c; rw [kd_cl]; unfold toKd; omega
theorem kd_digit (c : UInt8) : kd c = 4 ↔ cl c = 2 := by have := cl_range c; rw [kd_cl]; unfold toKd; omega
theorem kd_under (c : UInt8) : kd c = 5 ↔ cl c = 3 := by have := cl_range c; rw [kd_cl]; unfold toKd; omega
theorem kd_minus (c : UInt8) : kd c = 6 ↔ cl c = 6 := by have := cl_range c; rw [kd_cl]; unfold toKd; omega
theorem kd_symbol (c : UInt8) : kd c = 7 ↔ cl c = 4 := by have := cl_range c; rw [kd_cl]; unfold toKd; omega

/-- where the line of an offset ends -/
def lineAt (s : ByteArray) (k : Nat) : Nat := run (fun c => c != 10) s k

theorem indexByte_run : ∀ (l : Bs), Lib.indexByte l 10 = if ((l.takeWhile (fun c => c != 10)).length < l.length) then ((l.takeWhile (fun c => c != 10)).length : Int) else -1
  | [] => by simp [Lib.indexByte]
  | c :: l => by
    have ih := indexByte_run l
    unfold Lib.indexByte
    by_cases h : c = 10
    · subst h; simp
    · have h1 : (c == 10) = false := by simp [h]
      have h2 : (c != 10) = true := by simp [h]
      rw [List.takeWhile_cons]
      simp only [h1, h2, if_true, Bool.false_eq_true, if_false, List.length_cons]
      rw [ih]
      by_cases hl : (l.takeWhile (fun c => c != 10)).length < l.length
      · have hl' : (l.takeWhile (fun c => c != 10)).length + 1 < l.length + 1 := by omega
        have hne : ((((l.takeWhile (fun c => c != 10)).length : Nat) : Int) == -1) = false := by rw [beq_eq_false_iff_ne]; omega
        simp only [hl, hl', if_true, hne, Bool.false_eq_true, if_false]
        omega
      · have hl' : ¬ (l.takeWhile (fun c => c != 10)).length + 1 < l.length + 1 := by omega
        simp [hl]

/-- how far it is to the line's end; -1: the text ends ahead of it -/
def nlAt (s : ByteArray) (k : Nat) : Int := if lineAt s k < s.size then (lineAt s k - k : Nat) else -1

theorem nl_any (s : ByteArray) (k : Nat) (w : World) (hk : k ≤ s.size) :
    Calls Tryz.prog 135 #[.string (s.extract k s.size), .int .u8 10] w fun e w' => e = .returned (.int .i64 (nlAt s k)) ∧ w = w' := by
  refine (Tryz.strings_IndexByte (s.extract k s.size) 10 w).mono ?_
  rintro e w' ⟨rfl, rfl⟩
  refine ⟨ret_int ?_, rfl⟩
  have hl : s.data.toList.length = s.size := by simp
  have hd : (s.extract k s.size).data.toList = s.data.toList.drop k := by
    rw [ByteArray.data_extract, Array.toList_extract, List.extract_eq_take_drop, List.take_of_length_le]
    rw [List.length_drop]; omega
  rw [hd]
  show Lib.indexByte (s.data.toList.drop k) 10 = _
  rw [indexByte_run]
  unfold nlAt lineAt run
  rw [List.length_drop, hl]
  have := (List.takeWhile_sublist (fun c : UInt8 => c != 10) (l := s.data.toList.drop k)).length_le
  rw [List.length_drop, hl] at this
  split <;> split <;> omega

theorem skAt_blank (s : ByteArray) (k : Nat) (h : k < s.size) (hb : cl s[k] = 0) : skAt s false k = skAt s false (k + 1) := by
  unfold skAt; rw [drop_at s k h, sk_blank _ _ hb]
theorem skAt_plain (s : ByteArray) (k : Nat) (h : k < s.size) (h0 : cl s[k] ≠ 0) (h5 : cl s[k] ≠ 5) : skAt s false k = k :=
  skAt_here s false k (by omega) (by rw [drop_at s k h, sk_stop _ _ h0 h5])
theorem drop_takeWhile (p : UInt8 → Bool) (l : Bs) : l.drop (l.takeWhile p).length = l.dropWhile p := by
  induction l with
  | nil => rfl
  | cons c l ih =>
    rw [List.takeWhile_cons, List.dropWhile_cons]
    by_cases h : p c = true
    · rw [if_pos h, if_pos h, List.length_cons, List.drop_succ_cons]; exact ih
    · rw [if_neg h, if_neg h]; rfl

theorem drop_run (p : UInt8 → Bool) (s : ByteArray) (k : Nat) : s.data.toList.drop (run p s k) = (s.data.toList.drop k).dropWhile p := by
  unfold run
  rw [← List.drop_drop, drop_takeWhile]

theorem skAt_hash (s : ByteArray) (k : Nat) (h : k < s.size) (h5 : cl s[k] = 5) : skAt s false k = skAt s false (lineAt s k) := by
  have h10 : s[k] != 10 := by
    have := (cl_hash s[k]).1.1 h5
    simp only [bne_iff_ne, ne_eq]
    intro e; rw [e] at this; revert this; decide
  unfold skAt lineAt
  rw [drop_run, drop_at s k h, sk_hash _ _ h5, sk_comment, List.dropWhile_cons, if_pos h10]

theorem lineAt_gt (s : ByteArray) (k : Nat) (h : k < s.size) (h5 : cl s[k] = 5) : k < lineAt s k := by
  have h10 : (s[k] != 10) = true := by
    have := (cl_hash s[k]).1.1 h5
    simp only [bne_iff_ne, ne_eq]
    intro e; rw [e] at this; revert this; decide
  unfold lineAt
  rw [run_step _ s k h h10]
  exact run_ge _ _ _

set_option maxHeartbeats 1000000 in
theorem skip_any (s : ByteArray) (k0 : Nat) (w : World) (hs : s.size ≤ 4611686018427387904) (hk0 : k0 ≤ s.size) (hK : Kinds w) :
    Calls Tryz.prog 130 #[.string s, .int .i64 k0] w fun e w' => e = .returned (.int .i64 (skAt s false k0)) ∧ w = w' := by
  have HK := Lib.hid hK
  clear hK
  go_enter Tryz.func130, Tryz.ntmps130
  go_wp2
  go_loop [1] (fun i => ∃ (k : Nat), k ≤ s.size ∧ i = .int .i64 k ∧ Hid (skAt s false k = skAt s false k0)) (fun i => s.size - (intOf i).toNat)
  case atStart => exact ⟨k0, hk0, rfl, rfl⟩
  case round =>
    obtain ⟨k, hk, rfl, hI⟩ := hrel
    by_cases hlt : k < s.size
    · have hE := Lib.hid (kdAt_in s k hlt)
      generalize hg : kdAt s k = kk at *
      have Hg := Lib.hid hg
      clear hg
      have hnl : nlAt s k ≤ s.size - k := by
        have := run_le (fun c => c != 10) s k hk
        have h2 : lineAt s k = run (fun c => c != 10) s k := rfl
        unfold nlAt; split <;> omega
      have hn0 := Lib.hid (rfl : nlAt s k = nlAt s k)
      generalize hn : nlAt s k = nl at hnl
      have Hn := Lib.hid hn
      clear hn hn0
      go_wp2_with (first | (go_at_call 134; refine (kindAt_any _ _ _ hs (by omega) HK.out).mono ?_; rw [Hg.out]; rintro e w' ⟨rfl, rfl⟩) | (go_at_call 135; refine (nl_any _ _ _ hk).mono ?_; rw [Hn.out]; rintro e w' ⟨rfl, rfl⟩))
      · have q : (kk == 1) = true := by assumption
        have hc : cl s[k] = 0 := (kd_blank _).1 (by rw [← hE.out]; simpa using q)
        go_round
        case rel => exact ⟨k + 1, by omega, by go_num, Lib.hid (by rw [← skAt_blank s k hlt hc, hI.out])⟩
        case measure => simp [intOf]; omega
      · have q : (kk == 2) = true := by assumption
        have q2 : nl < 0 := by assumption
        have hc : cl s[k] = 5 := (kd_hash _).1 (by rw [← hE.out]; simpa using q)
        go_ret
        refine ⟨ret_int ?_, rfl⟩
        rw [← hI.out, skAt_hash s k hlt hc]
        have h1 : lineAt s k ≤ s.size := run_le _ s k hk
        have h2 : ¬ lineAt s k < s.size := by
          intro h; rw [← Hn.out] at q2; unfold nlAt at q2; rw [if_pos h] at q2; omega
        have h3 : lineAt s k = s.size := by omega
        rw [h3, skAt_here s false s.size (Nat.le_refl _) (by rw [drop_end s _ (Nat.le_refl _)]; rfl)]
      · have q : (kk == 2) = true := by assumption
        have q2 : 0 ≤ nl := by assumption
        have hc : cl s[k] = 5 := (kd_hash _).1 (by rw [← hE.out]; simpa using q)
        have h1 : lineAt s k ≤ s.size := run_le _ s k hk
        have h0 := lineAt_gt s k hlt hc
        have h2 : nl = (lineAt s k : Int) - k := by
          rw [← Hn.out] at q2 ⊢
          unfold nlAt at q2 ⊢
          by_cases h : lineAt s k < s.size
          · rw [if_pos h]; omega
          · rw [if_neg h] at q2; omega
        go_round
        case rel => exact ⟨lineAt s k, h1, by rw [h2]; go_num, Lib.hid (by rw [← skAt_hash s k hlt hc, hI.out])⟩
        case measure => simp [intOf]; omega
      · have q1 : (kk == 1) = false := by assumption
        have q2 : (kk == 2) = false := by assumption
        have h0 : cl s[k] ≠ 0 := fun h => by rw [← kd_blank, ← hE.out] at h; simp [h] at q1
        have h5 : cl s[k] ≠ 5 := fun h => by rw [← kd_hash, ← hE.out] at h; simp [h] at q2
        go_ret
        exact ⟨ret_int (by rw [← hI.out, skAt_plain s k hlt h0 h5]), rfl⟩
    · go_wp2
      go_ret
      exact ⟨ret_int (by rw [← hI.out, skAt_here s false k hk (by rw [drop_end s k (by omega)]; rfl)]), rfl⟩

end Go.Proofs.YtfpcgjgkbniofaaGreatDoor
