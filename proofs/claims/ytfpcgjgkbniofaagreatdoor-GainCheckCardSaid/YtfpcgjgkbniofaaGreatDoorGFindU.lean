/- Find and its reference in one form of answer. -/
import Derived.Test.YtfpcgjgkbniofaaGreatDoorGCheck
import Derived.Test.YtfpcgjgkbniofaaGreatDoorGRFind
import Derived.Test.YtfpcgjgkbniofaaGreatDoorGBoth
set_option linter.unusedVariables false
set_option linter.unusedSimpArgs false
namespace Go.Proofs.YtfpcgjgkbniofaaGreatDoor
open Go.RowKit
attribute [local go_sem] Oper.semAt_some

def soR : Sought → List Int
  | .found s => s.map (fun i => ((i : Nat) : Int))
  | _ => []
def soN (c : Cat) : Sought → List Int
  | .found s => needL c s
  | _ => []
def soG (c : Cat) : Sought → List Int
  | .found s => netL c s
  | _ => []
def soB : Sought → Bool
  | .found _ => true
  | _ => false
def soE : Sought → Int
  | .empty => 21
  | _ => 0
theorem ints_none (w : World) : IntsOf w (.slice none 0 0) [] := ⟨none, 0, rfl, Nat.le_refl _, by omega, fun h => absurd h (by simp)⟩
theorem find_is {c : Cat} {w : World} {R : Sought} {v1 v2 v3 : Value} {b : Bool} {er : Int} (h : FindIs c w R v1 v2 v3 b er) : b = soB R ∧ er = soE R ∧ IntsOf w v1 (soR R) ∧ IntsOf w v2 (soN c R) ∧ IntsOf w v3 (soG c R) := by
  cases R with
  | found s =>
    obtain ⟨h1, h2, h3, h4, h5⟩ := h
    exact ⟨h1, h2, h3.ints, h4, h5⟩
  | nothing =>
    obtain ⟨h1, h2, rfl, rfl, rfl⟩ := h
    exact ⟨h1, h2, ints_none w, ints_none w, ints_none w⟩
  | empty =>
    obtain ⟨h1, h2, rfl, rfl, rfl⟩ := h
    exact ⟨h1, h2, ints_none w, ints_none w, ints_none w⟩

set_option maxHeartbeats 4000000 in
theorem same_any (v1 v2 v3 u1 u2 u3 : Value) (l1 l2 l3 : List Int) (w : World) (h1 : IntsOf w v1 l1) (h2 : IntsOf w v2 l2) (h3 : IntsOf w v3 l3) (k1 : IntsOf w u1 l1) (k2 : IntsOf w u2 l2) (k3 : IntsOf w u3 l3) :
    Calls Tryz.prog 20 #[loopV v1 v2 v3, loopV u1 u2 u3] w fun e w' => e = .returned (.bool true) ∧ Below w.heap.size w w' := by
  obtain ⟨a1, c1, rfl, -, -⟩ := h1.form
  obtain ⟨a2, c2, rfl, -, -⟩ := h2.form
  obtain ⟨a3, c3, rfl, -, -⟩ := h3.form
  obtain ⟨b1, d1, rfl, -, -⟩ := k1.form
  obtain ⟨b2, d2, rfl, -, -⟩ := k2.form
  obtain ⟨b3, d3, rfl, -, -⟩ := k3.form
  have H1 := Lib.hid h1
  have H2 := Lib.hid h2
  have H3 := Lib.hid h3
  have K1 := Lib.hid k1
  have K2 := Lib.hid k2
  have K3 := Lib.hid k3
  clear h1 h2 h3 k1 k2 k3
  unfold loopV
  obtain ⟨w1, hw1⟩ : ∃ W, (w.alloc (.cells #[.slice a1 l1.length c1, .slice a2 l2.length c2, .slice a3 l3.length c3] 42)).alloc (.cells #[.slice b1 l1.length d1, .slice b2 l2.length d2, .slice b3 l3.length d3] 45) = W := ⟨_, rfl⟩
  have HB : Hid (Below w.heap.size w w1) := Lib.hid (by rw [← hw1]; exact ((Below.refl _ _).alloc (Nat.le_refl _) _).alloc (by simp) _)
  have HX : Hid (BoxL w1 w.heap.size (.slice a1 l1.length c1) (.slice a2 l2.length c2) (.slice a3 l3.length c3)) := Lib.hid (by rw [← hw1]; exact (BoxL.new w _ _ _ _).below ((Below.refl _ _).alloc (Nat.le_refl _) _))
  have HY : Hid (BoxL w1 (w.heap.size + 1) (.slice b1 l1.length d1) (.slice b2 l2.length d2) (.slice b3 l3.length d3)) := Lib.hid (by
    rw [← hw1]
    have h9 := BoxL.new (w.alloc (.cells #[.slice a1 l1.length c1, .slice a2 l2.length c2, .slice a3 l3.length c3] 42)) 45 (.slice b1 l1.length d1) (.slice b2 l2.length d2) (.slice b3 l3.length d3)
    simpa using h9)
  have m0 := HX.out.c0
  have m1 := HX.out.c1
  have m2 := HX.out.c2
  have n0 := HY.out.c0
  have n1 := HY.out.c1
  have n2 := HY.out.c2
  go_enter Tryz.func20, Tryz.ntmps20
  go_wp2_with fail
  clear hw1
  refine (sameInts_any _ _ _ _ w1 (H1.out.below HB.out) (K1.out.below HB.out)).mono ?_
  simp only [decide_true]
  rintro e w2 ⟨rfl, hB⟩
  replace HB := Lib.hid (HB.out.trans (hB.mono HB.out.size))
  replace HX := Lib.hid (HX.out.below hB)
  replace HY := Lib.hid (HY.out.below hB)
  clear hB m0 m1 m2 n0 n1 n2
  have m0 := HX.out.c0
  have m1 := HX.out.c1
  have m2 := HX.out.c2
  have n0 := HY.out.c0
  have n1 := HY.out.c1
  have n2 := HY.out.c2
  go_wp2_with fail
  refine (sameInts_any _ _ _ _ w2 (H2.out.below HB.out) (K2.out.below HB.out)).mono ?_
  simp only [decide_true]
  rintro e w3 ⟨rfl, hB⟩
  replace HB := Lib.hid (HB.out.trans (hB.mono HB.out.size))
  replace HX := Lib.hid (HX.out.below hB)
  replace HY := Lib.hid (HY.out.below hB)
  clear hB m0 m1 m2 n0 n1 n2
  have m0 := HX.out.c0
  have m1 := HX.out.c1
  have m2 := HX.out.c2
  have n0 := HY.out.c0
  have n1 := HY.out.c1
  have n2 := HY.out.c2
  go_wp2_with fail
  refine (sameInts_any _ _ _ _ w3 (H3.out.below HB.out) (K3.out.below HB.out)).mono ?_
  simp only [decide_true]
  rintro e w4 ⟨rfl, hB⟩
  replace HB := Lib.hid (HB.out.trans (hB.mono HB.out.size))
  replace HX := Lib.hid (HX.out.below hB)
  replace HY := Lib.hid (HY.out.below hB)
  clear hB m0 m1 m2 n0 n1 n2
  have m0 := HX.out.c0
  have m1 := HX.out.c1
  have m2 := HX.out.c2
  have n0 := HY.out.c0
  have n1 := HY.out.c1
  have n2 := HY.out.c2
  go_wp2_with fail
  go_ret
  exact ⟨rfl, HB.out⟩

def FUPost (b : Bool) (er : Int) (l1 l2 l3 : List Int) (w : World) (e : Ending) (w' : World) : Prop :=
  Below w.heap.size w w' ∧ ∃ a1 c1 a2 c2 a3 c3, e = .returned (.tuple #[.agg #[.slice a1 l1.length c1, .slice a2 l2.length c2, .slice a3 l3.length c3], .bool b, .int .i64 er]) ∧ IntsOf w' (.slice a1 l1.length c1) l1 ∧ IntsOf w' (.slice a2 l2.length c2) l2 ∧ IntsOf w' (.slice a3 l3.length c3) l3
theorem fu_of {c : Cat} {R : Sought} {w : World} {e : Ending} {w' : World} (h : FindPost c R w e w') : FUPost (soB R) (soE R) (soR R) (soN c R) (soG c R) w e w' := by
  obtain ⟨hB, v1, v2, v3, b, er, rfl, hi⟩ := h
  obtain ⟨rfl, rfl, h1, h2, h3⟩ := find_is hi
  obtain ⟨a1, c1, rfl, -, -⟩ := h1.form
  obtain ⟨a2, c2, rfl, -, -⟩ := h2.form
  obtain ⟨a3, c3, rfl, -, -⟩ := h3.form
  exact ⟨hB, a1, c1, a2, c2, a3, c3, rfl, h1, h2, h3⟩
theorem us_len {c : Cat} (h : c.rules.length ≤ 6) : (usL c).length ≤ 16 := by
  have h1 : (usL c).length ≤ (List.range c.rules.length).length := List.length_filter_le _ _
  rw [List.length_range] at h1
  omega
theorem us_of' {c : Cat} {s : List Nat} (hl : s.length ≤ 64) (h : ∀ x ∈ s, x ∈ usL c) : UsS c s := by
  refine ⟨hl, fun i hi => ?_⟩
  have h1 := List.mem_filter.1 (h i hi)
  have h2 := List.mem_range.1 h1.1
  refine ⟨h2, ?_⟩
  have h3 := h1.2
  unfold usI at h3
  simpa [h2] using h3
/-- a loop that is found: its numbers are small, and Check accepts it -/
def FoundOk (c : Cat) (R : Sought) : Prop := (∀ i ∈ soR R, 0 ≤ i ∧ i ≤ 1000) ∧ (soB R = true → checkE c (soR R) = 0 ∧ gainsB (netL c ((soR R).map Int.toNat)) = true ∧ soN c R = needL c ((soR R).map Int.toNat) ∧ soG c R = netL c ((soR R).map Int.toNat))
theorem found_ok {c : Cat} (hr : c.rules.length ≤ 6) {most : Nat} (hm8 : most ≤ 8) {fuel : Int} : FoundOk c (scan (gainS c) (seqs (usL c) most) fuel) := by
  cases h : scan (gainS c) (seqs (usL c) most) fuel with
  | nothing => exact ⟨fun i hi => by simp [soR] at hi, fun h => by simp [soB] at h⟩
  | empty => exact ⟨fun i hi => by simp [soR] at hi, fun h => by simp [soB] at h⟩
  | found s =>
    obtain ⟨h1, h2⟩ := scan_mem h
    obtain ⟨h3, h4, h5, _⟩ := seqs_mem h1
    have hu : UsS c s := us_of' (by omega) h5
    have hm : (soR (.found s)).map Int.toNat = s := toNat_map s
    refine ⟨fun i hi => ?_, fun _ => ⟨hu.check, by rw [hm]; exact h2, by rw [hm]; rfl, by rw [hm]; rfl⟩⟩
    obtain ⟨k, hk, rfl⟩ := List.mem_map.1 hi
    have := hu.lt k hk
    omega
/-- both, at the same arguments -/
theorem find_uni (vi vr : Value) (c : Cat) (most : Nat) (fuel : Int) (hf : Fine c) (hr : c.rules.length ≤ 6) (hm1 : 1 ≤ most) (hm8 : most ≤ 8) (hf1 : -9223372036854775808 ≤ fuel) (hf2 : fuel ≤ 9223372036854775807) :
    ∃ R, FoundOk c R ∧ (∀ w, CatAt w vi vr c → Kinds w → Calls Tryz.prog 18 #[catV vi vr, .int .i64 (most : Int), .int .i64 fuel] w (FUPost (soB R) (soE R) (soR R) (soN c R) (soG c R) w)) ∧
      (∀ w, CatAt w vi vr c → Kinds w → Calls Tryz.prog 19 #[catV vi vr, .int .i64 (most : Int), .int .i64 fuel] w (FUPost (soB R) (soE R) (soR R) (soN c R) (soG c R) w)) :=
  ⟨_, found_ok hr hm8, fun w hc hK => (callsIn_wide.1 (find_main vi vr c most fuel w hc hf hm1 hm8 (us_len hr) hf1 hf2 hK)).mono fun _ _ h => fu_of h,
    fun w hc _ => (rfind_main vi vr c most fuel w hc hf hm1 hm8 (us_len hr) hf1 hf2).mono fun _ _ h => fu_of h⟩
end Go.Proofs.YtfpcgjgkbniofaaGreatDoor
