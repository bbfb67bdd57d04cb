/- The generated catalogs are valid; the generator's contract. -/
import Derived.Test.YtfpcgjgkbniofaaGreatDoorGGen2
import Derived.Test.YtfpcgjgkbniofaaGreatDoorGEx
set_option linter.unusedVariables false
set_option linter.unusedSimpArgs false
namespace Go.Proofs.YtfpcgjgkbniofaaGreatDoor
open Go.RowKit

theorem itemNames_word (n : Tx) (h : n ∈ itemNames) : WordT n := by
  simp only [itemNames, List.mem_cons, List.not_mem_nil, or_false] at h
  rcases h with rfl | rfl | rfl | rfl | rfl | rfl <;> exact ⟨by decide, by rfl⟩
theorem seven {i : Nat} (h : i < 7) : i = 0 ∨ i = 1 ∨ i = 2 ∨ i = 3 ∨ i = 4 ∨ i = 5 ∨ i = 6 := by omega
theorem ruleTx_word (i : Nat) (h : i < 7) : WordT (ruleTx i) := by
  rcases seven h with rfl | rfl | rfl | rfl | rfl | rfl | rfl <;> exact ⟨by decide, by rfl⟩
theorem gRule_name (pk : Nat → Nat → Nat) (bal : Bool) (n i : Nat) : (gRule pk bal n i).name = ruleTx i := by
  unfold gRule
  simp only []
  split <;> rfl
theorem ruleTx_nodup (k : Nat) (h : k < 7) : ((List.range k).map ruleTx).Nodup := by
  rcases seven h with rfl | rfl | rfl | rfl | rfl | rfl | rfl <;> decide
theorem genCat_fine {pk : Nat → Nat → Nat} {bal : Bool} (hp : Picks pk) : Fine (genCat pk bal) := by
  have h7 := hp.lt 7 7 (by omega)
  refine ⟨genCat_good hp, ⟨fun n hn => itemNames_word n (List.mem_of_mem_take hn), fun r hr => ?_⟩, ?_, ?_⟩
  · obtain ⟨i, hi, rfl⟩ := List.mem_map.1 hr
    rw [gRule_name]
    exact ruleTx_word i (by have := List.mem_range.1 hi; omega)
  · exact List.Nodup.sublist (List.take_sublist _ _) (by decide)
  · have : (genCat pk bal).rules.map (fun x => x.name) = (List.range (pk 7 7)).map ruleTx := by
      simp only [genCat, List.map_map]
      exact List.map_congr_left (fun i _ => gRule_name pk bal _ i)
    rw [this]
    exact ruleTx_nodup _ h7
theorem genCat_rules {pk : Nat → Nat → Nat} {bal : Bool} (hp : Picks pk) : (genCat pk bal).rules.length ≤ 6 := by
  have h7 := hp.lt 7 7 (by omega)
  simp [genCat]
  omega

theorem catalog_any (v : Value) (zs : List Int) (len : Nat) (bal : Bool) (w : World) (h : IntsAt w v zs len) :
    Calls Tryz.prog 7 #[v, .bool bal] w fun e w' => (∃ vi vr, e = .returned (catV vi vr) ∧ CatAt w' vi vr (genCat (pkOf zs len) bal)) ∧ Below w.heap.size w w' :=
  catalog_gen v _ bal w (picks_of zs len) (pickIs_of h)
end Go.Proofs.YtfpcgjgkbniofaaGreatDoor
