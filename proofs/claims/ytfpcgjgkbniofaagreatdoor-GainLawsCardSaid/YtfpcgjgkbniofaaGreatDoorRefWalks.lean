/- Walks of the reference's small functions: class, skip, end, value, Around. -/
import Derived.Test.YtfpcgjgkbniofaaGreatDoorProg
import Derived.Test.YtfpcgjgkbniofaaGreatDoorLexPlain
import Derived.WalkKit
import Derived.WalkSpells
import Derived.WalkLawsBesides
import Derived.Lib.Hide
namespace Go.Proofs.YtfpcgjgkbniofaaGreatDoor
open Go.RowKit

def around (n m : Int) : Int := if n < 0 then (-(n+1)) % m else n % m

theorem around_range (n m : Int) (hm : 1 ≤ m) : 0 ≤ around n m ∧ around n m < m := by
  unfold around
  split
  · exact ⟨Int.emod_nonneg _ (by omega), Int.emod_lt_of_pos _ (by omega)⟩
  · exact ⟨Int.emod_nonneg _ (by omega), Int.emod_lt_of_pos _ (by omega)⟩

theorem around_eq (n m : Int) (hn : n < 0) (_hm : 1 ≤ m) : (-(n + 1)).tmod m = around n m := by
  unfold around
  rw [if_pos hn, Int.tmod_eq_emod_of_nonneg (by omega)]

theorem ret_int {k : IntKind} {a b : Int} (h : a = b) : Ending.returned (.int k a) = .returned (.int k b) := by rw [h]

set_option maxHeartbeats 400000 in
theorem around_any (n m : Int) (w : World) (hn : -9223372036854775808 ≤ n) (hn' : n ≤ 9223372036854775807) (hm : 1 ≤ m) (hm' : m ≤ 9223372036854775807) :
    Calls Tryz.prog 9 #[.int .i64 n, .int .i64 m] w fun e w' => e = .returned (.int .i64 (around n m)) ∧ w = w' := by
  by_cases h : n < 0
  · have h2 := Lib.hid (around_eq n m h hm)
    go_enter Tryz.func9, Tryz.ntmps9
    go_wp2
    go_ret
    exact ⟨ret_int (by rw [← h2.out, Int.neg_tmod]), rfl⟩
  · go_enter Tryz.func9, Tryz.ntmps9
    go_wp2
    go_ret
    exact ⟨ret_int (by rw [around, if_neg (by omega)]), rfl⟩

set_option maxHeartbeats 1000000 in
theorem class_int (c : Int) (w : World) (h0 : 0 ≤ c) (h1 : c ≤ 255) :
    Calls Tryz.prog 122 #[.int .u8 c] w fun e w' => e = .returned (.int .i64 (cls c)) ∧ w = w' := by
  go_enter Tryz.func122, Tryz.ntmps122
  go_wp2
  all_goals (go_ret; exact ⟨ret_int (by first | (simp_all [cls]; done) | (simp_all [cls]; omega)), rfl⟩)

theorem class_any (c : UInt8) (w : World) :
    Calls Tryz.prog 122 #[.int .u8 c.toNat] w fun e w' => e = .returned (.int .i64 (cl c)) ∧ w = w' :=
  class_int c.toNat w (by omega) (by have := UInt8.toNat_lt c; omega)

/-- the byte at an offset, and what is left of the text -/
theorem drop_at (s : ByteArray) (k : Nat) (h : k < s.size) : s.data.toList.drop k = s[k] :: s.data.toList.drop (k + 1) := by
  rw [List.drop_eq_getElem_cons (by simpa using h)]; rfl

theorem drop_end (s : ByteArray) (k : Nat) (h : s.size ≤ k) : s.data.toList.drop k = [] := by
  rw [List.drop_eq_nil_iff]; simpa using h

/-- where skipping from k ends -/
def skAt (s : ByteArray) (cm : Bool) (k : Nat) : Nat := s.size - (sk cm (s.data.toList.drop k)).length

theorem skAt_le (s : ByteArray) (cm : Bool) (k : Nat) : skAt s cm k ≤ s.size := by unfold skAt; omega

theorem skAt_here (s : ByteArray) (cm : Bool) (k : Nat) (h : k ≤ s.size) (hh : sk cm (s.data.toList.drop k) = s.data.toList.drop k) : skAt s cm k = k := by
  unfold skAt; rw [hh, List.length_drop]
  have : s.data.toList.length = s.size := by simp
  omega

theorem skAt_drop (s : ByteArray) (cm : Bool) (k : Nat) : s.data.toList.drop (skAt s cm k) = sk cm (s.data.toList.drop k) := by
  have hl : s.data.toList.length = s.size := by simp
  obtain ⟨p, hp⟩ := sk_suffix cm (s.data.toList.drop k)
  have h2 : sk cm (s.data.toList.drop k) <:+ s.data.toList := (sk_suffix _ _).trans (List.drop_suffix _ _)
  obtain ⟨q, hq⟩ := h2
  have h3 : skAt s cm k = q.length := by
    unfold skAt
    have := congrArg List.length hq
    simp only [List.length_append] at this
    omega
  rw [h3]
  conv => lhs; arg 2; rw [← hq]
  simp

theorem skAt_step (s : ByteArray) (cm : Bool) (k : Nat) (h : k < s.size) (hg : ¬ (nc cm s[k] = false ∧ cl s[k] ≠ 0)) : skAt s cm k = skAt s (nc cm s[k]) (k + 1) := by
  unfold skAt; rw [drop_at s k h, sk_cons, if_neg hg]

theorem skAt_stop (s : ByteArray) (cm : Bool) (k : Nat) (h : k < s.size) (hg : nc cm s[k] = false ∧ cl s[k] ≠ 0) : skAt s cm k = k :=
  skAt_here s cm k (by omega) (by rw [drop_at s k h, sk_cons, if_pos hg])

theorem nc_cases (b : Bool) (c : UInt8) (x y : Bool) (h35 : (((c.toNat : Nat) : Int) == 35) = x) (h10 : (((c.toNat : Nat) : Int) == 10) = y) :
    nc b c = (if y then false else if x then true else b) := by
  subst h35; subst h10
  unfold nc
  by_cases h1 : c.toNat = 10
  · simp [h1]
  · by_cases h2 : c.toNat = 35
    · simp [h2]
    · have e1 : (((c.toNat : Nat) : Int) == 10) = false := by simp; omega
      have e2 : (((c.toNat : Nat) : Int) == 35) = false := by simp; omega
      simp [h1, h2, e1, e2]

set_option maxHeartbeats 1000000 in
theorem rskip_any (s : ByteArray) (k0 : Nat) (w : World) (hs : s.size ≤ 4611686018427387904) (hk0 : k0 ≤ s.size) :
    Calls Tryz.prog 120 #[.string s, .int .i64 k0] w fun e w' => e = .returned (.int .i64 (skAt s false k0)) ∧ w = w' := by
  go_enter Tryz.func120, Tryz.ntmps120
  go_wp2
  go_loop [1, 5] (fun i c => ∃ (k : Nat) (b : Bool), k ≤ s.size ∧ i = .int .i64 k ∧ c = .bool b ∧ Hid (skAt s b k = skAt s false k0)) (fun i _ => s.size - (intOf i).toNat)
  case atStart => exact ⟨k0, false, hk0, rfl, rfl, rfl⟩
  case round =>
    obtain ⟨k, b, hk, rfl, rfl, hI⟩ := hrel
    by_cases hlt : k < s.size
    · go_wp2_with (go_at_call 122; refine (class_any _ _).mono ?_; rintro e w' ⟨rfl, rfl⟩)
      · go_round
        case rel =>
          have e := nc_cases b s[k] _ _ (by assumption) (by assumption)
          exact ⟨k + 1, true, by omega, by go_num, rfl, by rw [← hI.out, skAt_step s b k hlt (by rw [e]; simp), e]; rfl⟩
        case measure => simp [intOf]; omega
      · have e := nc_cases b s[k] false true (by assumption) (by assumption)
        have hc : (cl s[k] != 0) = true := by assumption
        go_ret
        exact ⟨ret_int (by rw [← hI.out, skAt_stop s b k hlt (by rw [e]; simpa using hc)]), rfl⟩
      · have e := nc_cases b s[k] false true (by assumption) (by assumption)
        have hc : (cl s[k] != 0) = false := by assumption
        go_round
        case rel => exact ⟨k + 1, false, by omega, by go_num, rfl, by rw [← hI.out, skAt_step s b k hlt (by simp at hc; simp [hc]), e]; rfl⟩
        case measure => simp [intOf]; omega
      · have e := nc_cases b s[k] false false (by assumption) (by assumption)
        have hb : b = true := by assumption
        go_round
        case rel => exact ⟨k + 1, true, by omega, by go_num, by simp, Lib.hid (by rw [← hI.out, skAt_step s b k hlt (by rw [e]; simp [hb]), e]; simp [hb])⟩
        case measure => simp [intOf]; omega
      · have e := nc_cases b s[k] false false (by assumption) (by assumption)
        have hb : ¬ b = true := by assumption
        have hc : (cl s[k] != 0) = true := by assumption
        go_ret
        exact ⟨ret_int (by rw [← hI.out, skAt_stop s b k hlt (by rw [e]; simp at hc hb; simp [hb, hc])]), rfl⟩
      · have e := nc_cases b s[k] false false (by assumption) (by assumption)
        have hb : ¬ b = true := by assumption
        have hc : (cl s[k] != 0) = false := by assumption
        go_round
        case rel => exact ⟨k + 1, false, by omega, by go_num, by simp, Lib.hid (by rw [← hI.out, skAt_step s b k hlt (by simp at hc; simp [hc]), e]; simp at hb; simp [hb])⟩
        case measure => simp [intOf]; omega
    · go_wp2
      go_ret
      exact ⟨ret_int (by rw [← hI.out, skAt_here s b k hk (by rw [drop_end s k (by omega)]; rfl)]), rfl⟩

/-- how far bytes with a property go on -/
def run (p : UInt8 → Bool) (s : ByteArray) (k : Nat) : Nat := k + ((s.data.toList.drop k).takeWhile p).length

theorem run_le (p : UInt8 → Bool) (s : ByteArray) (k : Nat) (h : k ≤ s.size) : run p s k ≤ s.size := by
  unfold run
  have h1 := (List.takeWhile_sublist p (l := s.data.toList.drop k)).length_le
  have hl : s.data.toList.length = s.size := by simp
  rw [List.length_drop] at h1
  omega

theorem run_ge (p : UInt8 → Bool) (s : ByteArray) (k : Nat) : k ≤ run p s k := by unfold run; omega

theorem run_step (p : UInt8 → Bool) (s : ByteArray) (k : Nat) (h : k < s.size) (hp : p s[k] = true) : run p s k = run p s (k + 1) := by
  unfold run; rw [drop_at s k h, List.takeWhile_cons, if_pos hp, List.length_cons]; omega

theorem run_stop (p : UInt8 → Bool) (s : ByteArray) (k : Nat) (h : k < s.size) (hp : p s[k] = false) : run p s k = k := by
  unfold run; rw [drop_at s k h, List.takeWhile_cons, if_neg (by simp [hp])]; simp

theorem run_end (p : UInt8 → Bool) (s : ByteArray) (k : Nat) (h : s.size ≤ k) : run p s k = k := by
  unfold run; rw [drop_end s k h]; simp

/-- the end of the token at k (the offset itself, if there is none) -/
def endAt (s : ByteArray) (k : Nat) : Nat := k + tl (s.data.toList.drop k)

theorem endAt_word (s : ByteArray) (k : Nat) (h : k < s.size) (h1 : cl s[k] = 1) : endAt s k = run wb s (k + 1) := by
  unfold endAt run; rw [drop_at s k h, tl, if_pos h1]; omega
theorem endAt_number (s : ByteArray) (k : Nat) (h : k < s.size) (h1 : cl s[k] = 2) : endAt s k = run db s (k + 1) := by
  unfold endAt run; rw [drop_at s k h, tl, if_neg (by omega), if_pos h1]; omega
theorem endAt_symbol (s : ByteArray) (k : Nat) (h : k < s.size) (h1 : cl s[k] = 4) : endAt s k = k + 1 := by
  unfold endAt; rw [drop_at s k h, tl, if_neg (by omega), if_neg (by omega), if_pos h1]
theorem endAt_other (s : ByteArray) (k : Nat) (h : k < s.size) (h1 : cl s[k] ≠ 1) (h2 : cl s[k] ≠ 2) (h4 : cl s[k] ≠ 4) (h6 : cl s[k] ≠ 6) : endAt s k = k := by
  unfold endAt; rw [drop_at s k h, tl, if_neg h1, if_neg h2, if_neg h4, if_neg h6]; omega
theorem endAt_arrow (s : ByteArray) (k : Nat) (h : k + 1 < s.size) (h1 : cl s[k] = 6) (h2 : s[k + 1].toNat = 62) : endAt s k = k + 2 := by
  unfold endAt; rw [drop_at s k (by omega), drop_at s (k + 1) h, tl, if_neg (by omega), if_neg (by omega), if_neg (by omega), if_pos h1, if_pos]
  simp [← UInt8.toNat_inj, h2]
theorem endAt_minus (s : ByteArray) (k : Nat) (h : k + 1 < s.size) (h1 : cl s[k] = 6) (h2 : ¬ s[k + 1].toNat = 62) : endAt s k = k := by
  unfold endAt; rw [drop_at s k (by omega), drop_at s (k + 1) h, tl, if_neg (by omega), if_neg (by omega), if_neg (by omega), if_pos h1, if_neg]
  · omega
  · simp [← UInt8.toNat_inj, h2]
theorem endAt_minus_end (s : ByteArray) (k : Nat) (h0 : k < s.size) (h : s.size ≤ k + 1) (h1 : cl s[k] = 6) : endAt s k = k := by
  unfold endAt; rw [drop_at s k h0, drop_end s (k + 1) h, tl, if_neg (by omega), if_neg (by omega), if_neg (by omega), if_pos h1, if_neg (by simp)]
  omega

theorem wb_true (c : UInt8) (h1 : 1 ≤ cl c) (h2 : cl c ≤ 3) : wb c = true := by simp [wb, h1, h2]
theorem wb_false (c : UInt8) (h : cl c < 1 ∨ 3 < cl c) : wb c = false := by simp only [wb, Bool.and_eq_false_iff, decide_eq_false_iff_not]; omega

set_option maxHeartbeats 2000000 in
theorem rend_any (s : ByteArray) (k0 : Nat) (w : World) (hs : s.size ≤ 4611686018427387904) (hk0 : k0 < s.size) :
    Calls Tryz.prog 121 #[.string s, .int .i64 k0] w fun e w' => e = .returned (.int .i64 (endAt s k0)) ∧ w = w' := by
  have hr := cl_range s[k0]
  by_cases h1 : cl s[k0] = 1
  · have hI0 : Hid (run wb s (k0 + 1) = endAt s k0) := Lib.hid (endAt_word s k0 hk0 h1).symm
    have hb1 : (cl s[k0] == 1) = true := by simp [h1]
    clear h1
    go_enter Tryz.func121, Tryz.ntmps121
    go_wp2_with (go_at_call 122; refine (class_any _ _).mono ?_; rintro e w' ⟨rfl, rfl⟩)
    go_loop [5] (fun i => ∃ (k : Nat), k ≤ s.size ∧ i = .int .i64 k ∧ Hid (run wb s k = endAt s k0)) (fun i => s.size - (intOf i).toNat)
    case atStart => exact ⟨k0 + 1, by omega, by go_num, hI0⟩
    case round =>
      obtain ⟨k, hk, rfl, hI⟩ := hrel
      by_cases hlt : k < s.size
      · go_wp2_with (go_at_call 122; refine (class_any _ _).mono ?_; rintro e w' ⟨rfl, rfl⟩)
        · have q1 : 1 ≤ cl s[k] := by assumption
          have q2 : cl s[k] ≤ 3 := by assumption
          go_round
          case rel => exact ⟨k + 1, by omega, by go_num, Lib.hid (by rw [← run_step wb s k hlt (wb_true _ q1 q2), hI.out])⟩
          case measure => simp [intOf]; omega
        · have q2 : 3 < cl s[k] := by assumption
          go_ret
          exact ⟨ret_int (by rw [← hI.out, run_stop wb s k hlt (wb_false _ (.inr q2))]), rfl⟩
        · have q2 : cl s[k] < 1 := by assumption
          go_ret
          exact ⟨ret_int (by rw [← hI.out, run_stop wb s k hlt (wb_false _ (.inl q2))]), rfl⟩
      · go_wp2_with (go_at_call 122; refine (class_any _ _).mono ?_; rintro e w' ⟨rfl, rfl⟩)
        go_ret
        exact ⟨ret_int (by rw [← hI.out, run_end wb s k (by omega)]), rfl⟩
  · have hb1 : (cl s[k0] == 1) = false := by simp [h1]
    by_cases h2 : cl s[k0] = 2
    · have hI0 : Hid (run db s (k0 + 1) = endAt s k0) := Lib.hid (endAt_number s k0 hk0 h2).symm
      have hb2 : (cl s[k0] == 2) = true := by simp [h2]
      clear h1 h2
      go_enter Tryz.func121, Tryz.ntmps121
      go_wp2_with (go_at_call 122; refine (class_any _ _).mono ?_; rintro e w' ⟨rfl, rfl⟩)
      go_loop [5] (fun i => ∃ (k : Nat), k ≤ s.size ∧ i = .int .i64 k ∧ Hid (run db s k = endAt s k0)) (fun i => s.size - (intOf i).toNat)
      case atStart => exact ⟨k0 + 1, by omega, by go_num, hI0⟩
      case round =>
        obtain ⟨k, hk, rfl, hI⟩ := hrel
        by_cases hlt : k < s.size
        · go_wp2_with (go_at_call 122; refine (class_any _ _).mono ?_; rintro e w' ⟨rfl, rfl⟩)
          · have q1 : (cl s[k] == 2) = true := by assumption
            go_round
            case rel => exact ⟨k + 1, by omega, by go_num, Lib.hid (by rw [← run_step db s k hlt (by simpa [db] using q1), hI.out])⟩
            case measure => simp [intOf]; omega
          · have q2 : (cl s[k] == 2) = false := by assumption
            go_ret
            exact ⟨ret_int (by rw [← hI.out, run_stop db s k hlt (by simpa [db] using q2)]), rfl⟩
        · go_wp2_with (go_at_call 122; refine (class_any _ _).mono ?_; rintro e w' ⟨rfl, rfl⟩)
          go_ret
          exact ⟨ret_int (by rw [← hI.out, run_end db s k (by omega)]), rfl⟩
    · have hb2 : (cl s[k0] == 2) = false := by simp [h2]
      by_cases h4 : cl s[k0] = 4
      · have hb4 : (cl s[k0] == 4) = true := by simp [h4]
        have hE := Lib.hid (endAt_symbol s k0 hk0 h4)
        clear h1 h2 h4
        go_enter Tryz.func121, Tryz.ntmps121
        go_wp2_with (go_at_call 122; refine (class_any _ _).mono ?_; rintro e w' ⟨rfl, rfl⟩)
        go_ret
        exact ⟨ret_int (by rw [hE.out]; omega), rfl⟩
      · have hb4 : (cl s[k0] == 4) = false := by simp [h4]
        by_cases h6 : cl s[k0] = 6
        · have hb6 : (cl s[k0] == 6) = true := by simp [h6]
          by_cases hlt : k0 + 1 < s.size
          · by_cases hq : s[k0 + 1].toNat = 62
            · have hE := Lib.hid (endAt_arrow s k0 hlt h6 hq)
              have hq' : ((s[k0 + 1].toNat : Int) == 62) = true := by simp [hq]
              clear h1 h2 h4 h6 hq
              go_enter Tryz.func121, Tryz.ntmps121
              go_wp2_with (go_at_call 122; refine (class_any _ _).mono ?_; rintro e w' ⟨rfl, rfl⟩)
              go_ret
              exact ⟨ret_int (by rw [hE.out]; omega), rfl⟩
            · have hE := Lib.hid (endAt_minus s k0 hlt h6 hq)
              have hq' : ((s[k0 + 1].toNat : Int) == 62) = false := by simp; omega
              clear h1 h2 h4 h6 hq
              go_enter Tryz.func121, Tryz.ntmps121
              go_wp2_with (go_at_call 122; refine (class_any _ _).mono ?_; rintro e w' ⟨rfl, rfl⟩)
              go_ret
              exact ⟨ret_int (by rw [hE.out]), rfl⟩
          · have hE := Lib.hid (endAt_minus_end s k0 hk0 (by omega) h6)
            clear h1 h2 h4 h6
            go_enter Tryz.func121, Tryz.ntmps121
            go_wp2_with (go_at_call 122; refine (class_any _ _).mono ?_; rintro e w' ⟨rfl, rfl⟩)
            go_ret
            exact ⟨ret_int (by rw [hE.out]), rfl⟩
        · have hb6 : (cl s[k0] == 6) = false := by simp [h6]
          have hE := Lib.hid (endAt_other s k0 hk0 h1 h2 h4 h6)
          clear h1 h2 h4 h6
          go_enter Tryz.func121, Tryz.ntmps121
          go_wp2_with (go_at_call 122; refine (class_any _ _).mono ?_; rintro e w' ⟨rfl, rfl⟩)
          go_ret
          exact ⟨ret_int (by rw [hE.out]), rfl⟩

/-- the reference's value: never more than 2^40 + 1 -/
theorem min_step (n d M : Nat) (hM : 0 < M) : min (10 * min n M + d) M = min (10 * n + d) M := by omega

def dvTo (l : Bs) : Nat := min (dv 0 l) 1099511627777

theorem take_snoc (s : ByteArray) (k : Nat) (h : k < s.size) : s.data.toList.take (k + 1) = s.data.toList.take k ++ [s[k]] := by
  rw [List.take_succ_eq_append_getElem (by simpa using h)]; rfl

theorem dvTo_step (s : ByteArray) (k : Nat) (h : k < s.size) : min (10 * dvTo (s.data.toList.take k) + dg s[k]) 1099511627777 = dvTo (s.data.toList.take (k + 1)) := by
  unfold dvTo; rw [take_snoc s k h, dv_snoc, min_step _ _ _ (by omega)]

set_option maxHeartbeats 1000000 in
theorem value_any (s : ByteArray) (w : World) (hs : s.size ≤ 4611686018427387904) (hd : ∀ k (h : k < s.size), 48 ≤ s[k].toNat ∧ s[k].toNat ≤ 57) :
    Calls Tryz.prog 123 #[.string s] w fun e w' => e = .returned (.int .i64 (dvTo s.data.toList)) ∧ w = w' := by
  have Hd := Lib.hid hd; clear hd
  go_enter Tryz.func123, Tryz.ntmps123
  go_wp2
  go_loop [3, 4] (fun n i => ∃ (k : Nat), k ≤ s.size ∧ i = .int .i64 k ∧ n = .int .i64 (dvTo (s.data.toList.take k))) (fun _ i => s.size - (intOf i).toNat)
  case atStart => exact ⟨0, by omega, rfl, rfl⟩
  case round =>
    obtain ⟨k, hk, rfl, rfl⟩ := hrel
    by_cases hlt : k < s.size
    · have hb := Hd.out k hlt
      have hstep := Lib.hid (dvTo_step s k hlt)
      have hle : dvTo (s.data.toList.take k) ≤ 1099511627777 := by unfold dvTo; omega
      generalize dvTo (s.data.toList.take k) = n at *
      go_wp2
      go_round
      case rel =>
        refine ⟨k + 1, by omega, by go_num, ?_⟩
        rw [← hstep.out]
        rw [dg_eq]
        exact congrArg (Value.int IntKind.i64) (by split <;> omega)
      case measure => simp [intOf]; omega
    · go_wp2
      go_ret
      exact ⟨ret_int (by rw [List.take_of_length_le (by simp; omega)]), rfl⟩

end Go.Proofs.YtfpcgjgkbniofaaGreatDoor
