/- Catalogs that are not valid: an item stands there twice; Net, Need. -/
import Derived.Test.YtfpcgjgkbniofaaGreatDoorGNet2
set_option linter.unusedVariables false
set_option linter.unusedSimpArgs false
namespace Go.Proofs.YtfpcgjgkbniofaaGreatDoor
open Go.RowKit
attribute [local go_sem] Oper.semAt_some

def badC (c : Cat) : Cat := ⟨c.items ++ c.items.take 1, c.rules⟩
theorem GoodL.more {n m M K : Nat} {l : List Amt} (h : GoodL n M K l) (hnm : n ≤ m) : GoodL m M K l := ⟨h.sorted, fun a ha => by have := h.all a ha; omega, h.len⟩
theorem GoodR.more {n m : Nat} {r : Rul} (h : GoodR n r) (hnm : n ≤ m) : GoodR m r := ⟨h.take.more hnm, h.give.more hnm, h.back.more hnm, h.of1, h.of2, h.time, h.hasBack, h.spawn, h.player, h.within⟩
structure BadOk (c : Cat) : Prop where
  good : Good c
  named : Named c
  dup : ¬ c.items.Nodup
theorem badC_ok {c : Cat} (hf : Fine c) (h5 : c.items.length ≤ 5) : BadOk (badC c) := by
  have h1 := hf.good.some_
  have hl : (badC c).items.length = c.items.length + 1 := by unfold badC; simp; omega
  refine ⟨⟨by omega, by omega, hf.good.rules, fun r hr => (hf.good.each r hr).more (by omega)⟩, ⟨fun n hn => ?_, hf.named.2⟩, fun hd => ?_⟩
  · rcases List.mem_append.1 hn with h | h
    · exact hf.named.1 n h
    · exact hf.named.1 n (List.mem_of_mem_take h)
  · unfold badC at hd
    obtain ⟨x, l, hx⟩ : ∃ x l, c.items = x :: l := by
      cases hc : c.items with
      | nil => rw [hc] at h1; simp at h1
      | cons x l => exact ⟨x, l, rfl⟩
    rw [hx] at hd
    simp at hd
set_option maxHeartbeats 2000000 in
theorem check_bad (vi vr vs : Value) (c : Cat) (w : World) (hc : CatAt w vi vr c) (hf : BadOk c) (hK : Kinds w) :
    Calls Tryz.prog 30 #[catV vi vr, vs] w fun e w' => e = .returned (.int .i64 8) ∧ Below w.heap.size w w' := by
  obtain ⟨ai, ci, rfl, hi1, hi2⟩ := hc.items.form
  obtain ⟨ar, cr, rfl, hr1, hr2⟩ := hc.rules.form
  have HC := Lib.hid hc
  have HF := Lib.hid hf
  have HK := Lib.hid hK
  clear hc hf hK
  unfold catV
  obtain ⟨w1, hw1⟩ : ∃ w1, w.alloc (.cells #[.slice ai c.items.length ci, .slice ar c.rules.length cr, .slice none 0 0, .slice none 0 0] 28) = w1 := ⟨_, rfl⟩
  have HB : Hid (Below w.heap.size w w1) := Lib.hid (by rw [← hw1]; exact (Below.refl _ _).alloc (Nat.le_refl _) _)
  have HX : Hid (BoxC w1 w.heap.size (.slice ai c.items.length ci) (.slice ar c.rules.length cr)) := Lib.hid (by rw [← hw1]; exact BoxC.new _ _ _)
  have m0 := HX.out.c0
  have m1 := HX.out.c1
  have m2 := HX.out.c2
  have m3 := HX.out.c3
  go_enter Tryz.func30, Tryz.ntmps30
  go_wp2_with fail
  clear hw1 m0 m1 m2 m3
  refine (valid_bad _ _ c w1 (HC.out.below HB.out) HF.out.good HF.out.named HF.out.dup (HK.out.keep HB.out)).mono ?_
  rintro e w2 ⟨rfl, hB⟩
  replace HB := Lib.hid (HB.out.trans (hB.mono HB.out.size))
  clear hB
  go_wp2_with fail
  go_ret
  exact ⟨rfl, HB.out⟩
set_option maxHeartbeats 2000000 in
theorem net_bad (vi vr vs : Value) (c : Cat) (w : World) (hc : CatAt w vi vr c) (hf : BadOk c) (hK : Kinds w) :
    Calls Tryz.prog 10 #[catV vi vr, vs] w fun e w' => e = .returned (.tuple #[.slice none 0 0, .int .i64 8]) ∧ Below w.heap.size w w' := by
  obtain ⟨ai, ci, rfl, hi1, hi2⟩ := hc.items.form
  obtain ⟨ar, cr, rfl, hr1, hr2⟩ := hc.rules.form
  have HC := Lib.hid hc
  have HF := Lib.hid hf
  have HK := Lib.hid hK
  clear hc hf hK
  unfold catV
  obtain ⟨w1, hw1⟩ : ∃ w1, w.alloc (.cells #[.slice ai c.items.length ci, .slice ar c.rules.length cr, .slice none 0 0, .slice none 0 0] 28) = w1 := ⟨_, rfl⟩
  have HB : Hid (Below w.heap.size w w1) := Lib.hid (by rw [← hw1]; exact (Below.refl _ _).alloc (Nat.le_refl _) _)
  have HX : Hid (BoxC w1 w.heap.size (.slice ai c.items.length ci) (.slice ar c.rules.length cr)) := Lib.hid (by rw [← hw1]; exact BoxC.new _ _ _)
  have m0 := HX.out.c0
  have m1 := HX.out.c1
  have m2 := HX.out.c2
  have m3 := HX.out.c3
  go_enter Tryz.func10, Tryz.ntmps10
  go_wp2_with fail
  clear hw1 m0 m1 m2 m3
  refine (check_bad _ _ _ c w1 (HC.out.below HB.out) HF.out (HK.out.keep HB.out)).mono ?_
  rintro e w2 ⟨rfl, hB⟩
  replace HB := Lib.hid (HB.out.trans (hB.mono HB.out.size))
  clear hB
  go_wp2_with fail
  go_ret2
  exact ⟨rfl, HB.out⟩
set_option maxHeartbeats 2000000 in
theorem need_bad (vi vr vs : Value) (c : Cat) (w : World) (hc : CatAt w vi vr c) (hf : BadOk c) (hK : Kinds w) :
    Calls Tryz.prog 12 #[catV vi vr, vs] w fun e w' => e = .returned (.tuple #[.slice none 0 0, .int .i64 8]) ∧ Below w.heap.size w w' := by
  obtain ⟨ai, ci, rfl, hi1, hi2⟩ := hc.items.form
  obtain ⟨ar, cr, rfl, hr1, hr2⟩ := hc.rules.form
  have HC := Lib.hid hc
  have HF := Lib.hid hf
  have HK := Lib.hid hK
  clear hc hf hK
  unfold catV
  obtain ⟨w1, hw1⟩ : ∃ w1, w.alloc (.cells #[.slice ai c.items.length ci, .slice ar c.rules.length cr, .slice none 0 0, .slice none 0 0] 28) = w1 := ⟨_, rfl⟩
  have HB : Hid (Below w.heap.size w w1) := Lib.hid (by rw [← hw1]; exact (Below.refl _ _).alloc (Nat.le_refl _) _)
  have HX : Hid (BoxC w1 w.heap.size (.slice ai c.items.length ci) (.slice ar c.rules.length cr)) := Lib.hid (by rw [← hw1]; exact BoxC.new _ _ _)
  have m0 := HX.out.c0
  have m1 := HX.out.c1
  have m2 := HX.out.c2
  have m3 := HX.out.c3
  go_enter Tryz.func12, Tryz.ntmps12
  go_wp2_with fail
  clear hw1 m0 m1 m2 m3
  refine (check_bad _ _ _ c w1 (HC.out.below HB.out) HF.out (HK.out.keep HB.out)).mono ?_
  rintro e w2 ⟨rfl, hB⟩
  replace HB := Lib.hid (HB.out.trans (hB.mono HB.out.size))
  clear hB
  go_wp2_with fail
  go_ret2
  exact ⟨rfl, HB.out⟩
end Go.Proofs.YtfpcgjgkbniofaaGreatDoor
