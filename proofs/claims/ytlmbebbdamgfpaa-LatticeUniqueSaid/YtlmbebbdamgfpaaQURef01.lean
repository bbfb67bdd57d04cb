/- Walks of package ref01: Around, Pick, Short, Bound, Decimal. -/
import Derived.Test.YtlmbebbdamgfpaaProg
import Derived.Test.YtlmbebbdamgfpaaQUStr
import Derived.WalkKit
import Derived.WalkSpells
import Derived.WalkLawsBesides
set_option linter.unusedVariables false
set_option linter.unusedSimpArgs false
namespace Go.Proofs.Ytlmbebbdamgfpaa
open Go.RowKit

def around (n m : Int) : Int := if n < 0 then (-(n+1)) % m else n % m

theorem around_range (n m : Int) (hm : 1 ≤ m) : 0 ≤ around n m ∧ around n m < m := by
 unfold around
 split
 ·exact ⟨Int.emod_nonneg _ (by omega), Int.emod_lt_of_pos _ (by omega)⟩
 ·exact ⟨Int.emod_nonneg _ (by omega), Int.emod_lt_of_pos _ (by omega)⟩

theorem around_eq (n m : Int) (hn : n < 0) (_hm : 1 ≤ m) : (-(n + 1)).tmod m = around n m := by
 unfold around
 rw [if_pos hn, Int.tmod_eq_emod_of_nonneg (by omega)]

theorem ret_int {k : IntKind} {a b : Int} (h : a = b) : Ending.returned (.int k a) = .returned (.int k b) := by rw [h]

set_option maxHeartbeats 400000 in
theorem around_any (n m : Int) (w : World) (hn : -9223372036854775808 ≤ n) (hn' : n ≤ 9223372036854775807) (hm : 1 ≤ m) (hm' : m ≤ 9223372036854775807) :
 Calls Try.prog 13 #[.int .i64 n, .int .i64 m] w fun e w' => e = .returned (.int .i64 (around n m)) ∧ w = w' := by
 by_cases h : n < 0
 ·have h2 := Lib.hid (around_eq n m h hm)
  go_enter Try.func13, Try.ntmps13
  go_wp2
  go_ret
  exact ⟨ret_int (by rw [← h2.out, Int.neg_tmod]), rfl⟩
 ·go_enter Try.func13, Try.ntmps13
  go_wp2
  go_ret
  exact ⟨ret_int (by rw [around, if_neg (by omega)]), rfl⟩

def IntsAt (w : World) (v : Value) (zs : List Int) (len : Nat) : Prop :=
 (∃ a cap, v = .slice a 0 cap ∧ len = 0 ∧ cap ≤ 9223372036854775807) ∨ ∃ b off cap, v = .slice (some ⟨b, off, none⟩) len cap ∧ b < w.heap.size ∧ len ≤ cap ∧ cap ≤ 9223372036854775807 ∧ (∀ j, j < len → w.cell? ⟨b, off + j, none⟩ = some (.int .i64 (zs[j]?.getD 0))) ∧ (∀ j, j < len → -9223372036854775808 ≤ zs[j]?.getD 0 ∧ zs[j]?.getD 0 ≤ 9223372036854775807)

theorem IntsAt.below {w w' : World} {v : Value} {zs : List Int} {len : Nat} (h : IntsAt w v zs len) {B : Nat} (hB : w.heap.size ≤ B) (hb : Below B w w') : IntsAt w' v zs len := by
 rcases h with h | ⟨b, off, cap, hv, hlt, h1, h2, hc, hr⟩
 ·exact .inl h
 ·exact .inr ⟨b, off, cap, hv, Nat.lt_of_lt_of_le hlt hb.size, h1, h2, fun j hj => (hb.cell (p := ⟨b, off + j, none⟩) (Nat.lt_of_lt_of_le hlt hB)).trans (hc j hj), hr⟩

def pickN (zs : List Int) (len i : Nat) (m : Int) : Int := if i < len then around (zs[i]?.getD 0) m else 0

theorem pickN_range (zs : List Int) (len i : Nat) (m : Int) (hm : 0 < m) : 0 ≤ pickN zs len i m ∧ pickN zs len i m < m := by
 unfold pickN
 by_cases h : i < len
 ·rw [if_pos h]; exact around_range _ _ hm
 ·rw [if_neg h]; omega

set_option maxHeartbeats 1000000 in
theorem pick_any (v : Value) (zs : List Int) (len i : Nat) (m : Int) (w : World) (h : IntsAt w v zs len) (hi : i ≤ 4611686018427387904) (hm0 : 0 < m) (hm1 : m ≤ 4611686018427387904) :
 Calls Try.prog 29 #[v, .int .i64 i, .int .i64 m] w fun e w' => e = .returned (.int .i64 (pickN zs len i m)) ∧ w' = w := by
 rcases h with ⟨a, cap, rfl, rfl, hcap⟩ | ⟨b, off, cap, rfl, hlt, h1, h2, hc, hr⟩
 ·have hp : Hid (pickN zs 0 i m = 0) := Lib.hid (by unfold pickN; rw [if_neg (by omega)])
  go_enter Try.func29, Try.ntmps29
  go_wp2
  go_ret
  exact ⟨by rw [hp.out]; rfl, rfl⟩
 ·by_cases hil : i < len
  ·have hp : Hid (pickN zs len i m = around (zs[i]?.getD 0) m) := Lib.hid (by unfold pickN; rw [if_pos hil])
   have hcell := hc i hil
   have hri := hr i hil
   clear hc hr
   generalize zs[i]?.getD 0 = z at *
   go_enter Try.func29, Try.ntmps29
   go_wp2_with (go_at_call 13; refine (around_any z m w hri.1 hri.2 (by omega) (by omega)).mono ?_; rintro e w' ⟨rfl, rfl⟩)
   go_ret
   exact ⟨by rw [hp.out]; rfl, rfl⟩
  ·have hp : Hid (pickN zs len i m = 0) := Lib.hid (by unfold pickN; rw [if_neg hil])
   clear hc hr
   go_enter Try.func29, Try.ntmps29
   go_wp2
   go_ret
   exact ⟨by rw [hp.out]; rfl, rfl⟩

end Go.Proofs.Ytlmbebbdamgfpaa
