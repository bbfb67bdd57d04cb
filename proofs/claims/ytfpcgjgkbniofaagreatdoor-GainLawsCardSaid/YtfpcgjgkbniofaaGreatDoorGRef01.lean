/- Walks of package ref01: Around, Pick, Short, Bound, Decimal. -/
import Derived.Test.YtfpcgjgkbniofaaGreatDoorProg
import Derived.Test.YtfpcgjgkbniofaaGreatDoorStr
import Derived.Test.YtfpcgjgkbniofaaGreatDoorRefWalks
import Derived.WalkKit
import Derived.WalkSpells
import Derived.WalkLawsBesides
set_option linter.unusedVariables false
set_option linter.unusedSimpArgs false
namespace Go.Proofs.YtfpcgjgkbniofaaGreatDoor
open Go.RowKit

def IntsAt (w : World) (v : Value) (zs : List Int) (len : Nat) : Prop :=
  (∃ a cap, v = .slice a 0 cap ∧ len = 0 ∧ cap ≤ 9223372036854775807) ∨ ∃ b off cap, v = .slice (some ⟨b, off, none⟩) len cap ∧ b < w.heap.size ∧ len ≤ cap ∧ cap ≤ 9223372036854775807 ∧ (∀ j, j < len → w.cell? ⟨b, off + j, none⟩ = some (.int .i64 (zs[j]?.getD 0))) ∧ (∀ j, j < len → -9223372036854775808 ≤ zs[j]?.getD 0 ∧ zs[j]?.getD 0 ≤ 9223372036854775807)

theorem IntsAt.below {w w' : World} {v : Value} {zs : List Int} {len : Nat} (h : IntsAt w v zs len) {B : Nat} (hB : w.heap.size ≤ B) (hb : Below B w w') : IntsAt w' v zs len := by
  rcases h with h | ⟨b, off, cap, hv, hlt, h1, h2, hc, hr⟩
  · exact .inl h
  · exact .inr ⟨b, off, cap, hv, Nat.lt_of_lt_of_le hlt hb.size, h1, h2, fun j hj => (hb.cell (p := ⟨b, off + j, none⟩) (Nat.lt_of_lt_of_le hlt hB)).trans (hc j hj), hr⟩

def pickN (zs : List Int) (len i : Nat) (m : Int) : Int := if i < len then around (zs[i]?.getD 0) m else 0

theorem pickN_range (zs : List Int) (len i : Nat) (m : Int) (hm : 0 < m) : 0 ≤ pickN zs len i m ∧ pickN zs len i m < m := by
  unfold pickN
  by_cases h : i < len
  · rw [if_pos h]; exact around_range _ _ hm
  · rw [if_neg h]; omega

set_option maxHeartbeats 1000000 in
theorem pick_any (v : Value) (zs : List Int) (len i : Nat) (m : Int) (w : World) (h : IntsAt w v zs len) (hi : i ≤ 4611686018427387904) (hm0 : 0 < m) (hm1 : m ≤ 4611686018427387904) :
    Calls Tryz.prog 24 #[v, .int .i64 i, .int .i64 m] w fun e w' => e = .returned (.int .i64 (pickN zs len i m)) ∧ w' = w := by
  rcases h with ⟨a, cap, rfl, rfl, hcap⟩ | ⟨b, off, cap, rfl, hlt, h1, h2, hc, hr⟩
  · have hp : Hid (pickN zs 0 i m = 0) := Lib.hid (by unfold pickN; rw [if_neg (by omega)])
    go_enter Tryz.func24, Tryz.ntmps24
    go_wp2
    go_ret
    exact ⟨by rw [hp.out]; rfl, rfl⟩
  · by_cases hil : i < len
    · have hp : Hid (pickN zs len i m = around (zs[i]?.getD 0) m) := Lib.hid (by unfold pickN; rw [if_pos hil])
      have hcell := hc i hil
      have hri := hr i hil
      clear hc hr
      generalize zs[i]?.getD 0 = z at *
      go_enter Tryz.func24, Tryz.ntmps24
      go_wp2_with (go_at_call 9; refine (around_any z m w hri.1 hri.2 (by omega) (by omega)).mono ?_; rintro e w' ⟨rfl, rfl⟩)
      go_ret
      exact ⟨by rw [hp.out]; rfl, rfl⟩
    · have hp : Hid (pickN zs len i m = 0) := Lib.hid (by unfold pickN; rw [if_neg hil])
      clear hc hr
      go_enter Tryz.func24, Tryz.ntmps24
      go_wp2
      go_ret
      exact ⟨by rw [hp.out]; rfl, rfl⟩


theorem dig_sub (d : Nat) (h : d < 10) : (⟨#[48, 49, 50, 51, 52, 53, 54, 55, 56, 57]⟩ : ByteArray).extract d (d + 1) = ⟨[dch d].toArray⟩ := by
  match d, h with
  | 0, _ => rfl
  | 1, _ => rfl
  | 2, _ => rfl
  | 3, _ => rfl
  | 4, _ => rfl
  | 5, _ => rfl
  | 6, _ => rfl
  | 7, _ => rfl
  | 8, _ => rfl
  | 9, _ => rfl
  | d + 10, h => omega

def ldV : Value → Nat
  | .int _ i => i.natAbs
  | _ => 0

theorem ba_lit : (⟨#[45]⟩ : ByteArray) = ⟨([45] : Tx).toArray⟩ := rfl
set_option maxRecDepth 100000 in
set_option maxHeartbeats 1000000 in
theorem decimal_pos (n : Nat) (w : World) (h0 : 0 < n) (h : n ≤ 9223372036854775807) :
    Calls Tryz.prog 27 #[.int .i64 (n : Int)] w fun e w' => e = .returned (sv (dec n)) ∧ w' = w := by
  have hne : ((n : Int) == 0) = false := by simp; omega
  have hnn : ¬ ((n : Int) < 0) := by omega
  have Hdec : Hid (dec n = decP n) := Lib.hid (by unfold dec; rw [if_neg (by omega)])
  have Hlen := Lib.hid (pad_decP 19 n (by omega)).2
  go_enter Tryz.func27, Tryz.ntmps27
  go_wp2_with fail
  go_loop [4, 5] (fun sv5 kv => ∃ (t : Tx) (r : Nat), r ≤ n ∧ kv = .int .i64 ((r : Int)) ∧ sv5 = .string ⟨t.toArray⟩ ∧ Hid (decP r ++ t = decP n)) (fun _ kv => ldV kv)
  case atStart => exact ⟨[], n, Nat.le_refl _, rfl, rfl, Lib.hid (by simp)⟩
  case round =>
    obtain ⟨t, r, hr, rfl, rfl, ht⟩ := hrel
    have htl : t.length ≤ 19 := by
      have h5 := congrArg List.length ht.out
      rw [List.length_append] at h5
      have := Hlen.out
      omega
    by_cases h1 : r = 0
    · subst h1
      go_wp2
      go_ret
      refine ⟨?_, rfl⟩
      rw [Hdec.out, ← ht.out]
      first | rfl | (rw [ba_lit, ba_app]; rfl)
    · have Hst := Lib.hid (decP_pos r h1)
      obtain ⟨k, hk⟩ : ∃ k, r % 10 = k := ⟨_, rfl⟩
      obtain ⟨q, hq⟩ : ∃ q, r / 10 = q := ⟨_, rfl⟩
      have hk10 : k < 10 := by omega
      have hqr : q < r := by omega
      have hrn : (((r : Int)) == 0) = false := by simp; omega
      have hkI : (r : Int) % 10 = (k : Int) := by omega
      have hqI : (r : Int) / 10 = (q : Int) := by omega
      rw [hk, hq] at Hst
      have Hsub := Lib.hid (dig_sub k hk10)
      have hk11 : ¬ ((k : Int) < 0) := by omega
      clear hk hq h1
      go_wp2_with fail
      go_round
      case rel =>
        refine ⟨[dch k] ++ t, q, by omega, rfl, ?_, Lib.hid (by rw [← ht.out, Hst.out, List.append_assoc])⟩
        rw [Hsub.out, ba_app]
      case measure => simp [ldV]; omega

theorem decimal_zero (w : World) : Calls Tryz.prog 27 #[.int .i64 0] w fun e w' => e = .returned (sv (dec 0)) ∧ w' = w := by
  go_enter Tryz.func27, Tryz.ntmps27
  go_wp2
  go_ret
  exact ⟨rfl, rfl⟩

theorem decimal_nat (n : Nat) (w : World) (h : n ≤ 9223372036854775807) :
    Calls Tryz.prog 27 #[.int .i64 (n : Int)] w fun e w' => e = .returned (sv (dec n)) ∧ w' = w := by
  rcases Nat.eq_zero_or_pos n with h0 | h0
  · subst h0; exact decimal_zero w
  · exact decimal_pos n w h0 h

end Go.Proofs.YtfpcgjgkbniofaaGreatDoor
