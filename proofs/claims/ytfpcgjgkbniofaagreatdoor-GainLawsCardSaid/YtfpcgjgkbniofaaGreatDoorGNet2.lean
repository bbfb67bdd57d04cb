/- gain: Net, Need, gains. -/
import Derived.Test.YtfpcgjgkbniofaaGreatDoorGNet
import Derived.Deep.RegionHeld3
set_option linter.unusedVariables false
set_option linter.unusedSimpArgs false
namespace Go.Proofs.YtfpcgjgkbniofaaGreatDoor
open Go.RowKit

def netL (c : Cat) (s : List Nat) : List Int := (List.range c.items.length).map (fun i => netF i (rsOf c s))
def needL (c : Cat) (s : List Nat) : List Int := (List.range c.items.length).map (fun i => needF i (rsOf c s))
theorem bag_map (n : Nat) (f : Nat → Int) : bagL n f = ((List.range n).map f).map zv := by simp [bagL]
theorem ints_of_bag {w : World} {g n : Nat} {t : TypeId} {f : Nat → Int} (h : BlkC w g t (bagL n f)) (hn : n ≤ 1000000) : IntsOf w (.slice (some ⟨g, 0, none⟩) n n) ((List.range n).map f) := by
  rw [bag_map] at h
  have := ints_of_blk h (cap := n) (by simp) (by omega)
  simpa using this
/-- a sequence of usable rules -/
def UsS (c : Cat) (s : List Nat) : Prop := s.length ≤ 64 ∧ ∀ i ∈ s, ∃ h : i < c.rules.length, usB c.rules[i] = true
theorem UsS.check {c : Cat} {s : List Nat} (h : UsS c s) : checkE c (s.map (fun i => ((i : Nat) : Int))) = 0 := by
  unfold checkE
  rw [List.length_map, if_neg (by have := h.1; omega), if_pos]
  rw [List.all_map, List.all_eq_true]
  intro i hi
  obtain ⟨h1, h2⟩ := h.2 i hi
  simp [usI, h1, h2]
theorem UsS.lt {c : Cat} {s : List Nat} (h : UsS c s) : ∀ i ∈ s, i < c.rules.length := fun i hi => (h.2 i hi).1

set_option maxHeartbeats 2000000 in
theorem net_ok (vi vr vs : Value) (c : Cat) (s : List Nat) (w : World) (hc : CatAt w vi vr c) (hf : Fine c) (hs : NatsOf w vs s) (hu : UsS c s) (hK : Kinds w) :
    Calls Tryz.prog 10 #[catV vi vr, vs] w fun e w' => (∃ v, e = .returned (.tuple #[v, .int .i64 0]) ∧ IntsOf w' v (netL c s)) ∧ Below w.heap.size w w' := by
  have HU := Lib.hid hu
  have hsl := hu.1
  clear hu
  obtain ⟨as_, cs, rfl, hs1, hs2⟩ := hs.form
  have HS := Lib.hid hs
  clear hs
  obtain ⟨ai, ci, rfl, hi1, hi2⟩ := hc.items.form
  obtain ⟨ar, cr, rfl, hr1, hr2⟩ := hc.rules.form
  have HC := Lib.hid hc
  have HF := Lib.hid hf
  have HK := Lib.hid hK
  have hli := hf.good.items
  have hlr := hf.good.rules
  clear hc hf hK
  unfold catV
  obtain ⟨w1, hw1⟩ : ∃ w1, w.alloc (.cells #[.slice ai c.items.length ci, .slice ar c.rules.length cr, .slice none 0 0, .slice none 0 0] 28) = w1 := ⟨_, rfl⟩
  have HB : Hid (Below w.heap.size w w1) := Lib.hid (by rw [← hw1]; exact (Below.refl _ _).alloc (Nat.le_refl _) _)
  have HX : Hid (BoxC w1 w.heap.size (.slice ai c.items.length ci) (.slice ar c.rules.length cr)) := Lib.hid (by rw [← hw1]; exact BoxC.new _ _ _)
  have m0 := HX.out.c0
  have m1 := HX.out.c1
  have m2 := HX.out.c2
  have m3 := HX.out.c3
  have mlt := HX.out.lt
  have hmk := run_makeZ c.items.length (by omega)
  go_enter Tryz.func10, Tryz.ntmps10
  go_wp2_with fail
  clear hw1
  have HI := Lib.hid (HS.out.ints)
  have hz : ∀ i ∈ s.map (fun i => ((i : Nat) : Int)), -9223372036854775808 ≤ i ∧ i ≤ 9223372036854775807 := by
    intro i hi
    obtain ⟨k, hk, rfl⟩ := List.mem_map.1 hi
    have := HU.out.lt k hk
    omega
  have HCK := Lib.hid (check_any _ _ _ c _ w1 (HC.out.below HB.out) HF.out (HI.out.below HB.out) hz (HK.out.keep HB.out))
  rw [HU.out.check] at HCK
  clear hz
  refine HCK.out.mono ?_
  rintro e w2 ⟨rfl, hB⟩
  have HB := Lib.hid (HB.out.trans (hB.mono HB.out.size))
  have HX := Lib.hid (HX.out.below hB)
  clear hB m0 m1 m2 m3 mlt
  have m0 := HX.out.c0
  have m1 := HX.out.c1
  have m2 := HX.out.c2
  have m3 := HX.out.c3
  have mlt := HX.out.lt
  go_wp2_with fail
  obtain ⟨w3, hw3⟩ : ∃ w3, w2.alloc (.cells (bagL c.items.length (fun _ => 0)).toArray 3) = w3 := ⟨_, rfl⟩
  have HBK : Hid (BlkC w3 w2.heap.size 3 (bagL c.items.length (fun _ => 0))) := Lib.hid (by rw [← hw3]; exact BlkC.new _ _ _)
  have hB3 : Below w2.heap.size w2 w3 := by rw [← hw3]; exact (Below.refl _ _).alloc (Nat.le_refl _) _
  have HB := Lib.hid (HB.out.trans (hB3.mono HB.out.size))
  rw [hw3]
  have hge : w.heap.size ≤ w2.heap.size := by have := HX.out.lt; omega
  clear hw3 hB3
  refine (perform_nil _ _ _ c s w2.heap.size w w3 HC.out HF.out.good (fun W' ho => HS.out.below (ho.below HB.out HB.out.size (fun k hk => by omega))) HB.out hge HU.out.lt (by omega) HBK.out).mono ?_
  rintro e w4 ⟨⟨v, rfl⟩, hk4, ho4⟩
  have HK4 := Lib.hid hk4
  have HB4 := Lib.hid (ho4.below HB.out HB.out.size (fun k hk => by omega))
  clear hk4 ho4
  go_wp2_with fail
  go_ret2
  exact ⟨⟨_, rfl, ints_of_bag HK4.out (by omega)⟩, HB4.out⟩
set_option maxHeartbeats 2000000 in
theorem net_err (vi vr vs : Value) (c : Cat) (z : List Int) (w : World) (hc : CatAt w vi vr c) (hf : Fine c) (hs : IntsOf w vs z) (hz : ∀ i ∈ z, -9223372036854775808 ≤ i ∧ i ≤ 9223372036854775807) (hu : checkE c z ≠ 0) (hK : Kinds w) :
    Calls Tryz.prog 10 #[catV vi vr, vs] w fun e w' => e = .returned (.tuple #[.slice none 0 0, .int .i64 (checkE c z)]) ∧ Below w.heap.size w w' := by
  have HZ := Lib.hid hz
  obtain ⟨er, her⟩ : ∃ er, checkE c z = er := ⟨_, rfl⟩
  rw [her] at hu ⊢
  have HER := Lib.hid her
  clear her
  have hq : (er == 0) = false := by simpa using hu
  have hq2 : (er != 0) = true := by simpa using hu
  clear hu hz
  obtain ⟨as_, cs, rfl, hs1, hs2⟩ := hs.form
  have HS := Lib.hid hs
  clear hs
  obtain ⟨ai, ci, rfl, hi1, hi2⟩ := hc.items.form
  obtain ⟨ar, cr, rfl, hr1, hr2⟩ := hc.rules.form
  have HC := Lib.hid hc
  have HF := Lib.hid hf
  have HK := Lib.hid hK
  have hli := hf.good.items
  have hlr := hf.good.rules
  clear hc hf hK
  unfold catV
  obtain ⟨w1, hw1⟩ : ∃ w1, w.alloc (.cells #[.slice ai c.items.length ci, .slice ar c.rules.length cr, .slice none 0 0, .slice none 0 0] 28) = w1 := ⟨_, rfl⟩
  have HB : Hid (Below w.heap.size w w1) := Lib.hid (by rw [← hw1]; exact (Below.refl _ _).alloc (Nat.le_refl _) _)
  have HX : Hid (BoxC w1 w.heap.size (.slice ai c.items.length ci) (.slice ar c.rules.length cr)) := Lib.hid (by rw [← hw1]; exact BoxC.new _ _ _)
  have m0 := HX.out.c0
  have m1 := HX.out.c1
  have m2 := HX.out.c2
  have m3 := HX.out.c3
  have mlt := HX.out.lt
  have hmk := run_makeZ c.items.length (by omega)
  go_enter Tryz.func10, Tryz.ntmps10
  go_wp2_with fail
  clear hw1
  have HCK := Lib.hid (check_any _ _ _ c _ w1 (HC.out.below HB.out) HF.out (HS.out.below HB.out) HZ.out (HK.out.keep HB.out))
  rw [HER.out] at HCK
  refine HCK.out.mono ?_
  rintro e w2 ⟨rfl, hB⟩
  have HB := Lib.hid (HB.out.trans (hB.mono HB.out.size))
  have HX := Lib.hid (HX.out.below hB)
  clear hB m0 m1 m2 m3 mlt
  have m0 := HX.out.c0
  have m1 := HX.out.c1
  have m2 := HX.out.c2
  have m3 := HX.out.c3
  have mlt := HX.out.lt
  go_wp2_with fail
  go_ret2
  exact ⟨rfl, HB.out⟩
set_option maxHeartbeats 2000000 in
theorem need_err (vi vr vs : Value) (c : Cat) (z : List Int) (w : World) (hc : CatAt w vi vr c) (hf : Fine c) (hs : IntsOf w vs z) (hz : ∀ i ∈ z, -9223372036854775808 ≤ i ∧ i ≤ 9223372036854775807) (hu : checkE c z ≠ 0) (hK : Kinds w) :
    Calls Tryz.prog 12 #[catV vi vr, vs] w fun e w' => e = .returned (.tuple #[.slice none 0 0, .int .i64 (checkE c z)]) ∧ Below w.heap.size w w' := by
  have HZ := Lib.hid hz
  obtain ⟨er, her⟩ : ∃ er, checkE c z = er := ⟨_, rfl⟩
  rw [her] at hu ⊢
  have HER := Lib.hid her
  clear her
  have hq : (er == 0) = false := by simpa using hu
  have hq2 : (er != 0) = true := by simpa using hu
  clear hu hz
  obtain ⟨as_, cs, rfl, hs1, hs2⟩ := hs.form
  have HS := Lib.hid hs
  clear hs
  obtain ⟨ai, ci, rfl, hi1, hi2⟩ := hc.items.form
  obtain ⟨ar, cr, rfl, hr1, hr2⟩ := hc.rules.form
  have HC := Lib.hid hc
  have HF := Lib.hid hf
  have HK := Lib.hid hK
  have hli := hf.good.items
  have hlr := hf.good.rules
  clear hc hf hK
  unfold catV
  obtain ⟨w1, hw1⟩ : ∃ w1, w.alloc (.cells #[.slice ai c.items.length ci, .slice ar c.rules.length cr, .slice none 0 0, .slice none 0 0] 28) = w1 := ⟨_, rfl⟩
  have HB : Hid (Below w.heap.size w w1) := Lib.hid (by rw [← hw1]; exact (Below.refl _ _).alloc (Nat.le_refl _) _)
  have HX : Hid (BoxC w1 w.heap.size (.slice ai c.items.length ci) (.slice ar c.rules.length cr)) := Lib.hid (by rw [← hw1]; exact BoxC.new _ _ _)
  have m0 := HX.out.c0
  have m1 := HX.out.c1
  have m2 := HX.out.c2
  have m3 := HX.out.c3
  have mlt := HX.out.lt
  have hmk := run_makeZ c.items.length (by omega)
  go_enter Tryz.func12, Tryz.ntmps12
  go_wp2_with fail
  clear hw1
  have HCK := Lib.hid (check_any _ _ _ c _ w1 (HC.out.below HB.out) HF.out (HS.out.below HB.out) HZ.out (HK.out.keep HB.out))
  rw [HER.out] at HCK
  refine HCK.out.mono ?_
  rintro e w2 ⟨rfl, hB⟩
  have HB := Lib.hid (HB.out.trans (hB.mono HB.out.size))
  have HX := Lib.hid (HX.out.below hB)
  clear hB m0 m1 m2 m3 mlt
  have m0 := HX.out.c0
  have m1 := HX.out.c1
  have m2 := HX.out.c2
  have m3 := HX.out.c3
  have mlt := HX.out.lt
  go_wp2_with fail
  go_ret2
  exact ⟨rfl, HB.out⟩
set_option maxHeartbeats 2000000 in
theorem need_ok (vi vr vs : Value) (c : Cat) (s : List Nat) (w : World) (hc : CatAt w vi vr c) (hf : Fine c) (hs : NatsOf w vs s) (hu : UsS c s) (hK : Kinds w) :
    Calls Tryz.prog 12 #[catV vi vr, vs] w fun e w' => (∃ v, e = .returned (.tuple #[v, .int .i64 0]) ∧ IntsOf w' v (needL c s)) ∧ Below w.heap.size w w' := by
  have HU := Lib.hid hu
  have hsl := hu.1
  clear hu
  obtain ⟨as_, cs, rfl, hs1, hs2⟩ := hs.form
  have HS := Lib.hid hs
  clear hs
  obtain ⟨ai, ci, rfl, hi1, hi2⟩ := hc.items.form
  obtain ⟨ar, cr, rfl, hr1, hr2⟩ := hc.rules.form
  have HC := Lib.hid hc
  have HF := Lib.hid hf
  have HK := Lib.hid hK
  have hli := hf.good.items
  have hlr := hf.good.rules
  clear hc hf hK
  unfold catV
  obtain ⟨w1, hw1⟩ : ∃ w1, w.alloc (.cells #[.slice ai c.items.length ci, .slice ar c.rules.length cr, .slice none 0 0, .slice none 0 0] 28) = w1 := ⟨_, rfl⟩
  have HB : Hid (Below w.heap.size w w1) := Lib.hid (by rw [← hw1]; exact (Below.refl _ _).alloc (Nat.le_refl _) _)
  have HX : Hid (BoxC w1 w.heap.size (.slice ai c.items.length ci) (.slice ar c.rules.length cr)) := Lib.hid (by rw [← hw1]; exact BoxC.new _ _ _)
  have m0 := HX.out.c0
  have m1 := HX.out.c1
  have m2 := HX.out.c2
  have m3 := HX.out.c3
  have mlt := HX.out.lt
  have hmk := run_makeZ c.items.length (by omega)
  go_enter Tryz.func12, Tryz.ntmps12
  go_wp2_with fail
  clear hw1
  have HI := Lib.hid (HS.out.ints)
  have hz : ∀ i ∈ s.map (fun i => ((i : Nat) : Int)), -9223372036854775808 ≤ i ∧ i ≤ 9223372036854775807 := by
    intro i hi
    obtain ⟨k, hk, rfl⟩ := List.mem_map.1 hi
    have := HU.out.lt k hk
    omega
  have HCK := Lib.hid (check_any _ _ _ c _ w1 (HC.out.below HB.out) HF.out (HI.out.below HB.out) hz (HK.out.keep HB.out))
  rw [HU.out.check] at HCK
  clear hz
  refine HCK.out.mono ?_
  rintro e w2 ⟨rfl, hB⟩
  have HB := Lib.hid (HB.out.trans (hB.mono HB.out.size))
  have HX := Lib.hid (HX.out.below hB)
  clear hB m0 m1 m2 m3 mlt
  have m0 := HX.out.c0
  have m1 := HX.out.c1
  have m2 := HX.out.c2
  have m3 := HX.out.c3
  have mlt := HX.out.lt
  go_wp2_with fail
  have hge : w.heap.size ≤ w2.heap.size := by omega
  have hgl2 : w.heap.size < w2.heap.size := mlt
  obtain ⟨w3, hw3⟩ : ∃ w3, w2.alloc (.cells (bagL c.items.length (fun _ => 0)).toArray 3) = w3 := ⟨_, rfl⟩
  have HBK : Hid (BlkC w3 w2.heap.size 3 (bagL c.items.length (fun _ => 0))) := Lib.hid (by rw [← hw3]; exact BlkC.new _ _ _)
  have hB3 : Below w2.heap.size w2 w3 := by rw [← hw3]; exact (Below.refl _ _).alloc (Nat.le_refl _) _
  have HB := Lib.hid (HB.out.trans (hB3.mono HB.out.size))
  have HX := Lib.hid (HX.out.below hB3)
  have hsz3 : w2.heap.size < w3.heap.size := HBK.out.lt
  rw [hw3]
  clear hw3 hB3 m0 m1 m2 m3 mlt
  have m0 := HX.out.c0
  have m1 := HX.out.c1
  have m2 := HX.out.c2
  have m3 := HX.out.c3
  have mlt := HX.out.lt
  refine startK 99 (fun w' => w'.cell? ⟨w.heap.size, 0, none⟩ = some (.slice ai c.items.length ci) ∧ w'.cell? ⟨w.heap.size, 1, none⟩ = some (.slice ar c.rules.length cr) ∧ w'.cell? ⟨w.heap.size, 2, none⟩ = some (.slice none 0 0) ∧ w'.cell? ⟨w.heap.size, 3, none⟩ = some (.slice none 0 0)) (by kernel_rfl) (⟨m0, m1, m2, m3⟩) (fun hHeld => ?_)
  refine takeK 0 18 (v := ?_) rfl rfl (by kernel_rfl) (by kernel_rfl) (by kernel_rfl) (by kernel_rfl) (fun _ _ _ h => h) (by rfl) ?_ (by assumption) ?_
  rotate_left
  · (intro w hSw; go_simp; first | done | with_reducible rfl)
  simp only [List.setIfInBounds_toArray, List.set_cons_zero, List.set_cons_succ]
  refine takeK 1 19 (v := ?_) rfl rfl (by kernel_rfl) (by kernel_rfl) (by kernel_rfl) (by kernel_rfl) (fun _ _ _ h => h) (by rfl) ?_ (by assumption) ?_
  rotate_left
  · (intro w hSw; go_simp; first | done | with_reducible rfl)
  simp only [List.setIfInBounds_toArray, List.set_cons_zero, List.set_cons_succ]
  refine takeK 2 20 (v := ?_) rfl rfl (by kernel_rfl) (by kernel_rfl) (by kernel_rfl) (by kernel_rfl) (fun _ _ _ h => h) (by rfl) ?_ (by assumption) ?_
  rotate_left
  · (intro w hSw; go_simp; first | done | with_reducible rfl)
  simp only [List.setIfInBounds_toArray, List.set_cons_zero, List.set_cons_succ]
  refine takeK 3 21 (v := ?_) rfl rfl (by kernel_rfl) (by kernel_rfl) (by kernel_rfl) (by kernel_rfl) (fun _ _ _ h => h) (by rfl) ?_ (by assumption) ?_
  rotate_left
  · (intro w hSw; go_simp; first | done | with_reducible rfl)
  simp only [List.setIfInBounds_toArray, List.set_cons_zero, List.set_cons_succ]
  refine takeK 4 22 (v := ?_) rfl rfl (by kernel_rfl) (by kernel_rfl) (by kernel_rfl) (by kernel_rfl) (fun _ _ _ h => h) (by rfl) ?_ (by assumption) ?_
  rotate_left
  · (intro w hSw; go_simp; first | done | with_reducible rfl)
  simp only [List.setIfInBounds_toArray, List.set_cons_zero, List.set_cons_succ]
  refine takeK 6 24 (v := ?_) rfl rfl (by kernel_rfl) (by kernel_rfl) (by kernel_rfl) (by kernel_rfl) (fun _ _ _ h => h) (by rfl) ?_ (by assumption) ?_
  rotate_left
  · (intro w hSw; go_simp; first | done | with_reducible rfl)
  simp only [List.setIfInBounds_toArray, List.set_cons_zero, List.set_cons_succ]
  refine stepK 5 (by kernel_rfl) rfl (fun K hK => ?_)
  go_simp
  obtain ⟨w4, hw4⟩ : ∃ w4, (w3.alloc (.cells (bagL c.items.length (fun _ => 0)).toArray 3)).drew = w4 := ⟨_, rfl⟩
  have HK4 : Hid (BlkC w4 w3.heap.size 3 (bagL c.items.length (fun _ => 0))) := Lib.hid (by rw [← hw4]; exact (BlkC.new _ _ _).drew)
  have hB4 : Below w3.heap.size w3 w4 := by rw [← hw4]; exact ((Below.refl _ _).alloc (Nat.le_refl _) _).drew
  have HB := Lib.hid (HB.out.trans (hB4.mono HB.out.size))
  have HX := Lib.hid (HX.out.below hB4)
  have HN4 := Lib.hid (HBK.out.below hB4 HBK.out.lt)
  rw [hw4]
  clear hw4 hB4 m0 m1 m2 m3 mlt hHeld
  go_wp2_with fail
  refine hK.out _ _ (⟨HX.out.c0, HX.out.c1, HX.out.c2, HX.out.c3⟩) (fun hHeld => ?_)
  clear hK K
  try simp only [Act.put, List.setIfInBounds_toArray, List.set_cons_zero, List.set_cons_succ]
  have hne : w3.heap.size ≠ w2.heap.size := by omega
  refine stepK 7 (by kernel_rfl) rfl (fun K hK => ?_)
  go_simp
  refine (perform_need _ _ _ c s w3.heap.size w2.heap.size w w4 HC.out HF.out.good (fun W' ho => HS.out.below (ho.below HB.out HB.out.size (fun k hk => by omega))) HB.out (by omega) HU.out.lt (by omega) HK4.out hge hne HN4.out).mono ?_
  rintro e w5 ⟨⟨v, rfl⟩, hk5, hn5, ho5⟩
  have HN5 := Lib.hid hn5
  have HB5 := Lib.hid (ho5.below HB.out HB.out.size (fun k hk => by omega))
  have hnb : ¬ ((fun b => b = w3.heap.size ∨ b = w2.heap.size) w.heap.size) := by have := HBK.out.lt; simp only []; omega
  have HS5 : Hid (w5.cell? ⟨w.heap.size, 0, none⟩ = some (.slice ai c.items.length ci) ∧ w5.cell? ⟨w.heap.size, 1, none⟩ = some (.slice ar c.rules.length cr) ∧ w5.cell? ⟨w.heap.size, 2, none⟩ = some (.slice none 0 0) ∧ w5.cell? ⟨w.heap.size, 3, none⟩ = some (.slice none 0 0)) := Lib.hid ⟨(ho5.cell (p := ⟨w.heap.size, 0, none⟩) hnb HX.out.lt).trans HX.out.c0, (ho5.cell (p := ⟨w.heap.size, 1, none⟩) hnb HX.out.lt).trans HX.out.c1, (ho5.cell (p := ⟨w.heap.size, 2, none⟩) hnb HX.out.lt).trans HX.out.c2, (ho5.cell (p := ⟨w.heap.size, 3, none⟩) hnb HX.out.lt).trans HX.out.c3⟩
  clear hk5 hn5 ho5 hnb hHeld
  go_wp2_with fail
  refine hK.out _ _ (HS5.out) (fun hHeld => ?_)
  clear hK K
  try simp only [Act.put, List.setIfInBounds_toArray, List.set_cons_zero, List.set_cons_succ]
  refine doneK (by kernel_rfl) ?_ _
  clear hHeld
  go_wp2_with fail
  go_ret2
  exact ⟨⟨_, rfl, ints_of_bag HN5.out (by omega)⟩, HB5.out⟩
def gmore (l : List Int) : Bool := l.any (fun x => decide (0 < x))
set_option maxHeartbeats 1000000 in
theorem gains_any (v : Value) (l : List Int) (w : World) (h : IntsOf w v l) : Calls Tryz.prog 42 #[v] w fun e w' => e = .returned (.bool (gainsB l)) ∧ w' = w := by
  have HL := Lib.hid h
  obtain ⟨a0, c0, rfl, h1, h2⟩ := h.form
  clear h
  go_enter Tryz.func42, Tryz.ntmps42
  go_wp2_with fail
  go_loop [3, 8] (fun m i => ∃ (j : Nat) (b : Bool), j ≤ l.length ∧ i = .int .i64 j ∧ m = .bool b ∧ Hid (b = gmore (l.take j)) ∧ Hid ((l.take j).all (fun x => decide (0 ≤ x)) = true)) (fun _ i => l.length - (intOf i).toNat)
  case atStart => exact ⟨0, false, by omega, rfl, rfl, Lib.hid (by simp [gmore]), Lib.hid (by simp)⟩
  case round =>
    obtain ⟨j, b, hj, rfl, rfl, HM, HA⟩ := hrel
    by_cases hlt : j < l.length
    · obtain ⟨b1, cap1, hv1, hb1, n0⟩ := IntsOf.at_ HL.out j hlt
      injection hv1 with e1 e2 e3
      subst e1
      clear e2 e3
      have HT : Hid (gmore (l.take (j + 1)) = (gmore (l.take j) || decide (0 < l[j]))) := Lib.hid (by unfold gmore; rw [List.take_succ_eq_append_getElem hlt, List.any_append]; simp)
      have HT2 : Hid ((l.take (j + 1)).all (fun x => decide (0 ≤ x)) = ((l.take j).all (fun x => decide (0 ≤ x)) && decide (0 ≤ l[j]))) := Lib.hid (by rw [List.take_succ_eq_append_getElem hlt, List.all_append]; simp)
      have HNo : Hid (l[j] < 0 → gainsB l = false) := Lib.hid (fun h => by
        unfold gainsB
        have : l.all (fun x => decide (0 ≤ x)) = false := by
          rw [Bool.eq_false_iff]
          intro h2
          rw [List.all_eq_true] at h2
          have := h2 _ (List.getElem_mem hlt)
          simp at this
          omega
        rw [this]
        rfl)
      generalize l[j] = x at *
      by_cases hx : x < 0
      · have HE := Lib.hid (HNo.out hx)
        have q1 : decide (x < 0) = true := by simpa using hx
        go_wp2_with fail
        go_ret
        exact ⟨by rw [HE.out]; rfl, rfl⟩
      · have q1 : decide (x < 0) = false := by simpa using hx
        have HA2 : Hid ((l.take (j + 1)).all (fun x => decide (0 ≤ x)) = true) := Lib.hid (by rw [HT2.out, HA.out, decide_eq_true (show 0 ≤ x by omega)]; rfl)
        cases b with
        | true =>
          go_wp2_with fail
          go_round
          case rel => exact ⟨j + 1, true, by omega, by go_num, rfl, Lib.hid (by rw [HT.out, ← HM.out]; rfl), HA2⟩
          case measure => simp [intOf]; omega
        | false =>
          by_cases hx2 : 0 < x
          · have q2 : decide (0 < x) = true := by simpa using hx2
            go_wp2_with fail
            go_round
            case rel => exact ⟨j + 1, true, by omega, by go_num, rfl, Lib.hid (by rw [HT.out, q2, Bool.or_true]), HA2⟩
            case measure => simp [intOf]; omega
          · have q2 : decide (0 < x) = false := by simpa using hx2
            go_wp2_with fail
            go_round
            case rel => exact ⟨j + 1, false, by omega, by go_num, rfl, Lib.hid (by rw [HT.out, q2, ← HM.out]; rfl), HA2⟩
            case measure => simp [intOf]; omega
    · have h9 := HA.out
      have h8 := HM.out
      rw [List.take_of_length_le (show l.length ≤ j by omega)] at h9 h8
      have HE : Hid (gainsB l = b) := Lib.hid (by unfold gainsB; rw [h9, h8]; rfl)
      clear h9 h8
      go_wp2_with fail
      go_ret
      exact ⟨by rw [HE.out]; rfl, rfl⟩
end Go.Proofs.YtfpcgjgkbniofaaGreatDoor
