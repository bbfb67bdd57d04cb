/- Net and Need of any list of numbers: one contract each. -/
import Derived.Test.YtfpcgjgkbniofaaGreatDoorGRef2
set_option linter.unusedVariables false
set_option linter.unusedSimpArgs false
namespace Go.Proofs.YtfpcgjgkbniofaaGreatDoor
open Go.RowKit
attribute [local go_sem] Oper.semAt_some

theorem us_of_check {c : Cat} {z : List Int} (h : checkE c z = 0) : ∃ s : List Nat, z = s.map (fun i => ((i : Nat) : Int)) ∧ UsS c s := by
  unfold checkE at h
  split at h
  · omega
  · rename_i hl
    split at h
    · rename_i ha
      rw [List.all_eq_true] at ha
      have hp : ∀ i ∈ z, 0 ≤ i ∧ ∃ h : i.toNat < c.rules.length, usB c.rules[i.toNat] = true := by
        intro i hi
        have h1 := ha i hi
        unfold usI at h1
        rw [Bool.and_eq_true, decide_eq_true_eq] at h1
        refine ⟨h1.1, ?_⟩
        rcases Nat.lt_or_ge i.toNat c.rules.length with h2 | h2
        · rw [List.getElem?_eq_getElem h2] at h1
          exact ⟨h2, h1.2⟩
        · rw [List.getElem?_eq_none h2] at h1
          exact absurd h1.2 (by simp)
      refine ⟨z.map Int.toNat, ?_, by rw [List.length_map]; omega, ?_⟩
      · rw [List.map_map]
        conv => lhs; rw [← List.map_id z]
        exact List.map_congr_left (fun i hi => by have := (hp i hi).1; simp [Int.toNat_of_nonneg this])
      · intro i hi
        obtain ⟨j, hj, rfl⟩ := List.mem_map.1 hi
        exact (hp j hj).2
    · omega
def netZ (c : Cat) (z : List Int) : List Int := if checkE c z = 0 then netL c (z.map Int.toNat) else []
def needZ (c : Cat) (z : List Int) : List Int := if checkE c z = 0 then needL c (z.map Int.toNat) else []
theorem toNat_map (s : List Nat) : (s.map (fun i => ((i : Nat) : Int))).map Int.toNat = s := by
  rw [List.map_map]
  conv => rhs; rw [← List.map_id s]
  exact List.map_congr_left (fun i _ => by simp)
theorem intsOf_nil (w : World) : IntsOf w (.slice none 0 0) [] := ⟨none, 0, rfl, Nat.le_refl _, by omega, fun h => absurd h (by simp)⟩
theorem net_both (vi vr vs : Value) (c : Cat) (z : List Int) (w : World) (hc : CatAt w vi vr c) (hf : Fine c) (hs : IntsOf w vs z) (hz : ∀ i ∈ z, -9223372036854775808 ≤ i ∧ i ≤ 9223372036854775807) (hK : Kinds w) :
    Calls Tryz.prog 10 #[catV vi vr, vs] w fun e w' => (∃ v, e = .returned (.tuple #[v, .int .i64 (checkE c z)]) ∧ IntsOf w' v (netZ c z)) ∧ Below w.heap.size w w' := by
  by_cases h0 : checkE c z = 0
  · obtain ⟨s, rfl, hu⟩ := us_of_check h0
    refine (net_ok _ _ _ c s w hc hf hs.nats hu hK).mono ?_
    rintro e w' ⟨⟨v, rfl, hv⟩, hB⟩
    refine ⟨⟨v, by rw [h0], ?_⟩, hB⟩
    unfold netZ
    rw [if_pos h0, toNat_map]
    exact hv
  · refine (net_err _ _ _ c z w hc hf hs hz h0 hK).mono ?_
    rintro e w' ⟨rfl, hB⟩
    refine ⟨⟨_, rfl, ?_⟩, hB⟩
    unfold netZ
    rw [if_neg h0]
    exact intsOf_nil w'
theorem need_both (vi vr vs : Value) (c : Cat) (z : List Int) (w : World) (hc : CatAt w vi vr c) (hf : Fine c) (hs : IntsOf w vs z) (hz : ∀ i ∈ z, -9223372036854775808 ≤ i ∧ i ≤ 9223372036854775807) (hK : Kinds w) :
    Calls Tryz.prog 12 #[catV vi vr, vs] w fun e w' => (∃ v, e = .returned (.tuple #[v, .int .i64 (checkE c z)]) ∧ IntsOf w' v (needZ c z)) ∧ Below w.heap.size w w' := by
  by_cases h0 : checkE c z = 0
  · obtain ⟨s, rfl, hu⟩ := us_of_check h0
    refine (need_ok _ _ _ c s w hc hf hs.nats hu hK).mono ?_
    rintro e w' ⟨⟨v, rfl, hv⟩, hB⟩
    refine ⟨⟨v, by rw [h0], ?_⟩, hB⟩
    unfold needZ
    rw [if_pos h0, toNat_map]
    exact hv
  · refine (need_err _ _ _ c z w hc hf hs hz h0 hK).mono ?_
    rintro e w' ⟨rfl, hB⟩
    refine ⟨⟨_, rfl, ?_⟩, hB⟩
    unfold needZ
    rw [if_neg h0]
    exact intsOf_nil w'
theorem rnet_both (vi vr vs : Value) (c : Cat) (z : List Int) (w : World) (hc : CatAt w vi vr c) (hf : Fine c) (hs : IntsOf w vs z) (hz : ∀ i ∈ z, -9223372036854775808 ≤ i ∧ i ≤ 9223372036854775807) (hK : Kinds w) :
    Calls Tryz.prog 11 #[catV vi vr, vs] w fun e w' => (∃ v, e = .returned (.tuple #[v, .int .i64 (checkE c z)]) ∧ IntsOf w' v (netZ c z)) ∧ Below w.heap.size w w' := by
  by_cases h0 : checkE c z = 0
  · obtain ⟨s, rfl, hu⟩ := us_of_check h0
    refine (rnet_ok _ _ _ c s w hc hf hs.nats hu).mono ?_
    rintro e w' ⟨⟨v, rfl, hv⟩, hB⟩
    refine ⟨⟨v, by rw [h0], ?_⟩, hB⟩
    unfold netZ
    rw [if_pos h0, toNat_map]
    exact hv
  · refine (rnet_err _ _ _ c z w hc hf hs h0).mono ?_
    rintro e w' ⟨rfl, hB⟩
    refine ⟨⟨_, rfl, ?_⟩, hB⟩
    unfold netZ
    rw [if_neg h0]
    exact intsOf_nil w'
theorem rneed_both (vi vr vs : Value) (c : Cat) (z : List Int) (w : World) (hc : CatAt w vi vr c) (hf : Fine c) (hs : IntsOf w vs z) (hz : ∀ i ∈ z, -9223372036854775808 ≤ i ∧ i ≤ 9223372036854775807) (hK : Kinds w) :
    Calls Tryz.prog 13 #[catV vi vr, vs] w fun e w' => (∃ v, e = .returned (.tuple #[v, .int .i64 (checkE c z)]) ∧ IntsOf w' v (needZ c z)) ∧ Below w.heap.size w w' := by
  by_cases h0 : checkE c z = 0
  · obtain ⟨s, rfl, hu⟩ := us_of_check h0
    refine (rneed_ok _ _ _ c s w hc hf hs.nats hu).mono ?_
    rintro e w' ⟨⟨v, rfl, hv⟩, hB⟩
    refine ⟨⟨v, by rw [h0], ?_⟩, hB⟩
    unfold needZ
    rw [if_pos h0, toNat_map]
    exact hv
  · refine (rneed_err _ _ _ c z w hc hf hs h0).mono ?_
    rintro e w' ⟨rfl, hB⟩
    refine ⟨⟨_, rfl, ?_⟩, hB⟩
    unfold needZ
    rw [if_neg h0]
    exact intsOf_nil w'
end Go.Proofs.YtfpcgjgkbniofaaGreatDoor
