/- catalog.Valid at a good catalog: wellFormed, inRange, all together. -/
import Derived.Test.YtfpcgjgkbniofaaGreatDoorGFits
import Derived.Laws.EntriesVeiled
set_option linter.unusedVariables false
set_option linter.unusedSimpArgs false
namespace Go.Proofs.YtfpcgjgkbniofaaGreatDoor
open Go.RowKit

theorem within_of {n : Nat} {r : Rul} (h : GoodR n r) : ∀ i, ofI r.back i ≤ ofI r.take i := by
  intro i
  rcases h.within with e | e
  · rw [e]; simp [ofI_nil]
  · rw [e]; exact Nat.le_refl _

set_option maxHeartbeats 1000000 in
theorem wf2_any (r : Rul) (p : Pl) (n bs bc : Nat) (ai : Option Addr) (ci : Nat) (w : World) (hr : RulIs w r p) (hg : GoodR n r) (hn : n ≤ 6) (hbs : bs < w.heap.size) (hbc : bc < w.heap.size) (hs : w.cell? ⟨bs, 0, none⟩ = some (.func (.func 72) #[] #[.pointer (some ⟨bc, 0, none⟩)])) (hcb : w.cell? ⟨bc, 0, none⟩ = some (.slice ai n ci)) :
    Calls Tryz.prog 74 #[rulV r p, .pointer (some ⟨bs, 0, none⟩)] w fun e w' => e = .returned (.bool true) ∧ Below w.heap.size w w' := by
  have HG := Lib.hid hg
  have HR := Lib.hid hr
  obtain ⟨rn, rs, rt, ro, lt, lg, lb⟩ := r
  unfold rulV
  simp only []
  obtain ⟨w1, hw1⟩ : ∃ w1, w.alloc (.cells #[.string ⟨rn.toArray⟩, .bool rs, .int .i64 0, .int .i64 rt, .int .i64 1, .int .i64 ro, .slice p.at_ lt.length p.ct, .slice p.ag lg.length p.cg, .slice p.ab lb.length p.cb] 63) = w1 := ⟨_, rfl⟩
  have hB0 : Below w.heap.size w w1 := by rw [← hw1]; exact (Below.refl _ _).alloc (Nat.le_refl _) _
  have HB := Lib.hid hB0
  have HX : Hid (RulCells w1 w.heap.size 0 ⟨rn, rs, rt, ro, lt, lg, lb⟩ p) := Lib.hid (by rw [← hw1]; exact ⟨by simp, by simp, by simp, by simp, by simp, by simp, by simp, by simp, by simp⟩)
  have HL : Hid (w.heap.size < w1.heap.size) := Lib.hid (by rw [← hw1]; simp)
  have HR := Lib.hid (HR.out.below hB0)
  have HSL := Lib.hid (Nat.lt_of_lt_of_le hbs hB0.size)
  have HS : Hid (w1.cell? ⟨bs, 0, none⟩ = some (.func (.func 72) #[] #[.pointer (some ⟨bc, 0, none⟩)])) := Lib.hid ((hB0.cell (p := ⟨bs, 0, none⟩) hbs).trans hs)
  have HC : Hid (w1.cell? ⟨bc, 0, none⟩ = some (.slice ai n ci)) := Lib.hid ((hB0.cell (p := ⟨bc, 0, none⟩) hbc).trans hcb)
  have HCL := Lib.hid (Nat.lt_of_lt_of_le hbc hB0.size)
  clear hB0 hs hcb hr hg hbs hbc
  have z0 := HX.out.c0
  have z1 := HX.out.c1
  have z2 := HX.out.c2
  have z3 := HX.out.c3
  have z4 := HX.out.c4
  have z5 := HX.out.c5
  have z6 := HX.out.c6
  have z7 := HX.out.c7
  have z8 := HX.out.c8
  have zs := HS.out
  have zb := HSL.out
  go_enter Tryz.func74, Tryz.ntmps74
  go_wp2_with fail
  clear hw1
  refine (sorted_any _ lt n 2 bc ai ci w1 HR.out.take HG.out.take (by omega) HC.out HCL.out (by omega)).mono ?_
  rintro e w2 ⟨rfl, hB⟩
  have HB := Lib.hid (HB.out.trans (hB.mono HB.out.size))
  have HX := Lib.hid (HX.out.below hB HL.out)
  have HS := Lib.hid ((hB.cell (p := ⟨bs, 0, none⟩) HSL.out).trans HS.out)
  have HR := Lib.hid (HR.out.below hB)
  have HL := Lib.hid (Nat.lt_of_lt_of_le HL.out hB.size)
  have HSL := Lib.hid (Nat.lt_of_lt_of_le HSL.out hB.size)
  have HC := Lib.hid ((hB.cell (p := ⟨bc, 0, none⟩) HCL.out).trans HC.out)
  have HCL := Lib.hid (Nat.lt_of_lt_of_le HCL.out hB.size)
  clear hB z0 z1 z2 z3 z4 z5 z6 z7 z8 zs zb
  have z0 := HX.out.c0
  have z1 := HX.out.c1
  have z2 := HX.out.c2
  have z3 := HX.out.c3
  have z4 := HX.out.c4
  have z5 := HX.out.c5
  have z6 := HX.out.c6
  have z7 := HX.out.c7
  have z8 := HX.out.c8
  have zs := HS.out
  have zb := HSL.out
  go_wp2_with fail
  refine (sorted_any _ lg n 2 bc ai ci w2 HR.out.give HG.out.give (by omega) HC.out HCL.out (by omega)).mono ?_
  rintro e w3 ⟨rfl, hB⟩
  have HB := Lib.hid (HB.out.trans (hB.mono HB.out.size))
  have HX := Lib.hid (HX.out.below hB HL.out)
  have HS := Lib.hid ((hB.cell (p := ⟨bs, 0, none⟩) HSL.out).trans HS.out)
  have HR := Lib.hid (HR.out.below hB)
  have HL := Lib.hid (Nat.lt_of_lt_of_le HL.out hB.size)
  have HSL := Lib.hid (Nat.lt_of_lt_of_le HSL.out hB.size)
  have HC := Lib.hid ((hB.cell (p := ⟨bc, 0, none⟩) HCL.out).trans HC.out)
  have HCL := Lib.hid (Nat.lt_of_lt_of_le HCL.out hB.size)
  clear hB z0 z1 z2 z3 z4 z5 z6 z7 z8 zs zb
  have z0 := HX.out.c0
  have z1 := HX.out.c1
  have z2 := HX.out.c2
  have z3 := HX.out.c3
  have z4 := HX.out.c4
  have z5 := HX.out.c5
  have z6 := HX.out.c6
  have z7 := HX.out.c7
  have z8 := HX.out.c8
  have zs := HS.out
  have zb := HSL.out
  go_wp2_with fail
  refine (sorted_any _ lb n 2 bc ai ci w3 HR.out.back HG.out.back (by omega) HC.out HCL.out (by omega)).mono ?_
  rintro e w4 ⟨rfl, hB⟩
  have HB := Lib.hid (HB.out.trans (hB.mono HB.out.size))
  have HX := Lib.hid (HX.out.below hB HL.out)
  have HS := Lib.hid ((hB.cell (p := ⟨bs, 0, none⟩) HSL.out).trans HS.out)
  have HR := Lib.hid (HR.out.below hB)
  have HL := Lib.hid (Nat.lt_of_lt_of_le HL.out hB.size)
  have HSL := Lib.hid (Nat.lt_of_lt_of_le HSL.out hB.size)
  have HC := Lib.hid ((hB.cell (p := ⟨bc, 0, none⟩) HCL.out).trans HC.out)
  have HCL := Lib.hid (Nat.lt_of_lt_of_le HCL.out hB.size)
  clear hB z0 z1 z2 z3 z4 z5 z6 z7 z8 zs zb
  have z0 := HX.out.c0
  have z1 := HX.out.c1
  have z2 := HX.out.c2
  have z3 := HX.out.c3
  have z4 := HX.out.c4
  have z5 := HX.out.c5
  have z6 := HX.out.c6
  have z7 := HX.out.c7
  have z8 := HX.out.c8
  have zs := HS.out
  have zb := HSL.out
  go_wp2_with fail
  refine (ruleFormed_any ⟨rn, rs, rt, ro, lt, lg, lb⟩ p n w4 HR.out HG.out).mono ?_
  rintro e w5 ⟨rfl, hB⟩
  have HB := Lib.hid (HB.out.trans (hB.mono HB.out.size))
  have HX := Lib.hid (HX.out.below hB HL.out)
  have HS := Lib.hid ((hB.cell (p := ⟨bs, 0, none⟩) HSL.out).trans HS.out)
  have HR := Lib.hid (HR.out.below hB)
  have HL := Lib.hid (Nat.lt_of_lt_of_le HL.out hB.size)
  have HSL := Lib.hid (Nat.lt_of_lt_of_le HSL.out hB.size)
  clear hB z0 z1 z2 z3 z4 z5 z6 z7 z8 zs zb
  have z0 := HX.out.c0
  have z1 := HX.out.c1
  have z2 := HX.out.c2
  have z3 := HX.out.c3
  have z4 := HX.out.c4
  have z5 := HX.out.c5
  have z6 := HX.out.c6
  have z7 := HX.out.c7
  have z8 := HX.out.c8
  have zs := HS.out
  have zb := HSL.out
  go_wp2_with fail
  refine (contains_any _ _ lt lb n w5 HR.out.take HR.out.back HG.out.take HG.out.back (by omega) (within_of HG.out)).mono ?_
  rintro e w6 ⟨rfl, hB⟩
  have HB := Lib.hid (HB.out.trans (hB.mono HB.out.size))
  have HX := Lib.hid (HX.out.below hB HL.out)
  have HS := Lib.hid ((hB.cell (p := ⟨bs, 0, none⟩) HSL.out).trans HS.out)
  have HR := Lib.hid (HR.out.below hB)
  have HL := Lib.hid (Nat.lt_of_lt_of_le HL.out hB.size)
  have HSL := Lib.hid (Nat.lt_of_lt_of_le HSL.out hB.size)
  clear hB z0 z1 z2 z3 z4 z5 z6 z7 z8 zs zb
  have z0 := HX.out.c0
  have z1 := HX.out.c1
  have z2 := HX.out.c2
  have z3 := HX.out.c3
  have z4 := HX.out.c4
  have z5 := HX.out.c5
  have z6 := HX.out.c6
  have z7 := HX.out.c7
  have z8 := HX.out.c8
  have zs := HS.out
  have zb := HSL.out
  go_wp2_with fail
  go_ret
  exact ⟨rfl, HB.out⟩
set_option maxHeartbeats 1000000 in
theorem ir2_any (r : Rul) (p : Pl) (n bs : Nat) (w : World) (hr : RulIs w r p) (hg : GoodR n r) (hbs : bs < w.heap.size) (hs : w.cell? ⟨bs, 0, none⟩ = some (.func (.func 81) #[] #[])) :
    Calls Tryz.prog 85 #[rulV r p, .pointer (some ⟨bs, 0, none⟩)] w fun e w' => e = .returned (.bool true) ∧ Below w.heap.size w w' := by
  have HG := Lib.hid hg
  have HR := Lib.hid hr
  obtain ⟨rn, rs, rt, ro, lt, lg, lb⟩ := r
  unfold rulV
  simp only []
  obtain ⟨w1, hw1⟩ : ∃ w1, w.alloc (.cells #[.string ⟨rn.toArray⟩, .bool rs, .int .i64 0, .int .i64 rt, .int .i64 1, .int .i64 ro, .slice p.at_ lt.length p.ct, .slice p.ag lg.length p.cg, .slice p.ab lb.length p.cb] 63) = w1 := ⟨_, rfl⟩
  have hB0 : Below w.heap.size w w1 := by rw [← hw1]; exact (Below.refl _ _).alloc (Nat.le_refl _) _
  have HB := Lib.hid hB0
  have HX : Hid (RulCells w1 w.heap.size 0 ⟨rn, rs, rt, ro, lt, lg, lb⟩ p) := Lib.hid (by rw [← hw1]; exact ⟨by simp, by simp, by simp, by simp, by simp, by simp, by simp, by simp, by simp⟩)
  have HL : Hid (w.heap.size < w1.heap.size) := Lib.hid (by rw [← hw1]; simp)
  have HR := Lib.hid (HR.out.below hB0)
  have HSL := Lib.hid (Nat.lt_of_lt_of_le hbs hB0.size)
  have HS : Hid (w1.cell? ⟨bs, 0, none⟩ = some (.func (.func 81) #[] #[])) := Lib.hid ((hB0.cell (p := ⟨bs, 0, none⟩) hbs).trans hs)
  clear hB0 hs hr hg hbs
  have z0 := HX.out.c0
  have z1 := HX.out.c1
  have z2 := HX.out.c2
  have z3 := HX.out.c3
  have z4 := HX.out.c4
  have z5 := HX.out.c5
  have z6 := HX.out.c6
  have z7 := HX.out.c7
  have z8 := HX.out.c8
  have zs := HS.out
  have zb := HSL.out
  go_enter Tryz.func85, Tryz.ntmps85
  go_wp2_with fail
  clear hw1
  refine (unitsIn_any _ lt n 2 w1 HR.out.take HG.out.take (by omega)).mono ?_
  rintro e w2 ⟨rfl, hB⟩
  have HB := Lib.hid (HB.out.trans (hB.mono HB.out.size))
  have HX := Lib.hid (HX.out.below hB HL.out)
  have HS := Lib.hid ((hB.cell (p := ⟨bs, 0, none⟩) HSL.out).trans HS.out)
  have HR := Lib.hid (HR.out.below hB)
  have HL := Lib.hid (Nat.lt_of_lt_of_le HL.out hB.size)
  have HSL := Lib.hid (Nat.lt_of_lt_of_le HSL.out hB.size)
  clear hB z0 z1 z2 z3 z4 z5 z6 z7 z8 zs zb
  have z0 := HX.out.c0
  have z1 := HX.out.c1
  have z2 := HX.out.c2
  have z3 := HX.out.c3
  have z4 := HX.out.c4
  have z5 := HX.out.c5
  have z6 := HX.out.c6
  have z7 := HX.out.c7
  have z8 := HX.out.c8
  have zs := HS.out
  have zb := HSL.out
  go_wp2_with fail
  refine (unitsIn_any _ lg n 2 w2 HR.out.give HG.out.give (by omega)).mono ?_
  rintro e w3 ⟨rfl, hB⟩
  have HB := Lib.hid (HB.out.trans (hB.mono HB.out.size))
  have HX := Lib.hid (HX.out.below hB HL.out)
  have HS := Lib.hid ((hB.cell (p := ⟨bs, 0, none⟩) HSL.out).trans HS.out)
  have HR := Lib.hid (HR.out.below hB)
  have HL := Lib.hid (Nat.lt_of_lt_of_le HL.out hB.size)
  have HSL := Lib.hid (Nat.lt_of_lt_of_le HSL.out hB.size)
  clear hB z0 z1 z2 z3 z4 z5 z6 z7 z8 zs zb
  have z0 := HX.out.c0
  have z1 := HX.out.c1
  have z2 := HX.out.c2
  have z3 := HX.out.c3
  have z4 := HX.out.c4
  have z5 := HX.out.c5
  have z6 := HX.out.c6
  have z7 := HX.out.c7
  have z8 := HX.out.c8
  have zs := HS.out
  have zb := HSL.out
  go_wp2_with fail
  refine (unitsIn_any _ lb n 2 w3 HR.out.back HG.out.back (by omega)).mono ?_
  rintro e w4 ⟨rfl, hB⟩
  have HB := Lib.hid (HB.out.trans (hB.mono HB.out.size))
  have HX := Lib.hid (HX.out.below hB HL.out)
  have HS := Lib.hid ((hB.cell (p := ⟨bs, 0, none⟩) HSL.out).trans HS.out)
  have HR := Lib.hid (HR.out.below hB)
  have HL := Lib.hid (Nat.lt_of_lt_of_le HL.out hB.size)
  have HSL := Lib.hid (Nat.lt_of_lt_of_le HSL.out hB.size)
  clear hB z0 z1 z2 z3 z4 z5 z6 z7 z8 zs zb
  have z0 := HX.out.c0
  have z1 := HX.out.c1
  have z2 := HX.out.c2
  have z3 := HX.out.c3
  have z4 := HX.out.c4
  have z5 := HX.out.c5
  have z6 := HX.out.c6
  have z7 := HX.out.c7
  have z8 := HX.out.c8
  have zs := HS.out
  have zb := HSL.out
  go_wp2_with fail
  refine (ruleInRange_any ⟨rn, rs, rt, ro, lt, lg, lb⟩ p n w4 HR.out HG.out).mono ?_
  rintro e w5 ⟨rfl, hB⟩
  have HB := Lib.hid (HB.out.trans (hB.mono HB.out.size))
  have HX := Lib.hid (HX.out.below hB HL.out)
  have HS := Lib.hid ((hB.cell (p := ⟨bs, 0, none⟩) HSL.out).trans HS.out)
  have HR := Lib.hid (HR.out.below hB)
  have HL := Lib.hid (Nat.lt_of_lt_of_le HL.out hB.size)
  have HSL := Lib.hid (Nat.lt_of_lt_of_le HSL.out hB.size)
  clear hB z0 z1 z2 z3 z4 z5 z6 z7 z8 zs zb
  have z0 := HX.out.c0
  have z1 := HX.out.c1
  have z2 := HX.out.c2
  have z3 := HX.out.c3
  have z4 := HX.out.c4
  have z5 := HX.out.c5
  have z6 := HX.out.c6
  have z7 := HX.out.c7
  have z8 := HX.out.c8
  have zs := HS.out
  have zb := HSL.out
  go_wp2_with fail
  go_ret
  exact ⟨rfl, HB.out⟩
set_option maxHeartbeats 1000000 in
theorem wellFormed_any (vi vr : Value) (c : Cat) (w : World) (hc : CatAt w vi vr c) (hg : Good c) : Calls Tryz.prog 37 #[catV vi vr] w fun e w' => e = .returned (.bool true) ∧ Below w.heap.size w w' := by
  have HI := Lib.hid hc.items
  have HR := Lib.hid hc.rules
  obtain ⟨ai, ci, rfl, hi1, hi2⟩ := hc.items.form
  obtain ⟨ar, cr, rfl, hr1, hr2⟩ := hc.rules.form
  have hli := hg.items
  have hlr := hg.rules
  have HG := Lib.hid hg
  clear hc hg
  unfold catV
  obtain ⟨w1, hw1⟩ : ∃ w1, (w.alloc (.cells #[.slice ai c.items.length ci, .slice ar c.rules.length cr, .slice none 0 0, .slice none 0 0] 28)).alloc (.cells #[.func (.func 72) #[] #[.pointer (some ⟨w.heap.size, 0, none⟩)]] 112) = w1 := ⟨_, rfl⟩
  have HB : Hid (Below w.heap.size w w1) := Lib.hid (by rw [← hw1]; exact ((Below.refl _ _).alloc (Nat.le_refl _) _).alloc (by simp) _)
  have HX : Hid (BoxC w1 w.heap.size (.slice ai c.items.length ci) (.slice ar c.rules.length cr)) := Lib.hid (by rw [← hw1]; exact (BoxC.new _ _ _).below ((Below.refl _ _).alloc (Nat.le_refl _) _))
  have HS : Hid (w1.cell? ⟨w.heap.size + 1, 0, none⟩ = some (.func (.func 72) #[] #[.pointer (some ⟨w.heap.size, 0, none⟩)])) := Lib.hid (by rw [← hw1]; simp)
  have HSL : Hid (w.heap.size + 1 < w1.heap.size) := Lib.hid (by rw [← hw1]; simp)
  have m0 := HX.out.c0
  have m1 := HX.out.c1
  have m2 := HX.out.c2
  have m3 := HX.out.c3
  go_enter Tryz.func37, Tryz.ntmps37
  go_wp2_with fail
  clear hw1
  refine (every_item _ c.items 73 #[] w1 (HI.out.below HB.out) (by omega) (fun _ _ => by simp [go_sem]) (fun j hj w' hb => by simpa using itemFormed_any c.items[j] w')).mono ?_
  rintro e w2 ⟨rfl, hB⟩
  have HB := Lib.hid (HB.out.trans (hB.mono HB.out.size))
  have HX := Lib.hid (HX.out.below hB)
  have HS := Lib.hid ((hB.cell (p := ⟨w.heap.size + 1, 0, none⟩) HSL.out).trans HS.out)
  have HSL := Lib.hid (Nat.lt_of_lt_of_le HSL.out hB.size)
  clear hB m0 m1 m2 m3
  have m0 := HX.out.c0
  have m1 := HX.out.c1
  have m2 := HX.out.c2
  have m3 := HX.out.c3
  go_wp2_with fail
  refine (every_rule _ c.rules 74 #[.pointer (some ⟨w.heap.size + 1, 0, none⟩)] w2 (HR.out.below HB.out) (by omega) (fun _ _ => by simp [go_sem]) (fun j hj p w' hb hr => by simpa using wf2_any c.rules[j] p c.items.length (w.heap.size + 1) w.heap.size ai ci w' hr (HG.out.each _ (List.getElem_mem hj)) hli (Nat.lt_of_lt_of_le HSL.out hb.size) (Nat.lt_of_lt_of_le HX.out.lt hb.size) ((hb.cell (p := ⟨w.heap.size + 1, 0, none⟩) HSL.out).trans HS.out) ((hb.cell (p := ⟨w.heap.size, 0, none⟩) HX.out.lt).trans HX.out.c0))).mono ?_
  rintro e w3 ⟨rfl, hB⟩
  have HB := Lib.hid (HB.out.trans (hB.mono HB.out.size))
  have HX := Lib.hid (HX.out.below hB)
  have HS := Lib.hid ((hB.cell (p := ⟨w.heap.size + 1, 0, none⟩) HSL.out).trans HS.out)
  have HSL := Lib.hid (Nat.lt_of_lt_of_le HSL.out hB.size)
  clear hB m0 m1 m2 m3
  have m0 := HX.out.c0
  have m1 := HX.out.c1
  have m2 := HX.out.c2
  have m3 := HX.out.c3
  go_wp2_with fail
  refine (every_table _ _).mono ?_
  rintro e w' ⟨rfl, rfl⟩
  go_wp2_with fail
  refine (every_tax _ _).mono ?_
  rintro e w' ⟨rfl, rfl⟩
  go_wp2_with fail
  go_ret
  exact ⟨rfl, HB.out⟩
set_option maxHeartbeats 1000000 in
theorem inRange_any (vi vr : Value) (c : Cat) (w : World) (hc : CatAt w vi vr c) (hg : Good c) : Calls Tryz.prog 38 #[catV vi vr] w fun e w' => e = .returned (.bool true) ∧ Below w.heap.size w w' := by
  have HI := Lib.hid hc.items
  have HR := Lib.hid hc.rules
  obtain ⟨ai, ci, rfl, hi1, hi2⟩ := hc.items.form
  obtain ⟨ar, cr, rfl, hr1, hr2⟩ := hc.rules.form
  have hli := hg.items
  have hlr := hg.rules
  have HG := Lib.hid hg
  clear hc hg
  unfold catV
  obtain ⟨w1, hw1⟩ : ∃ w1, (w.alloc (.cells #[.slice ai c.items.length ci, .slice ar c.rules.length cr, .slice none 0 0, .slice none 0 0] 28)).alloc (.cells #[.func (.func 81) #[] #[]] 112) = w1 := ⟨_, rfl⟩
  have HB : Hid (Below w.heap.size w w1) := Lib.hid (by rw [← hw1]; exact ((Below.refl _ _).alloc (Nat.le_refl _) _).alloc (by simp) _)
  have HX : Hid (BoxC w1 w.heap.size (.slice ai c.items.length ci) (.slice ar c.rules.length cr)) := Lib.hid (by rw [← hw1]; exact (BoxC.new _ _ _).below ((Below.refl _ _).alloc (Nat.le_refl _) _))
  have HS : Hid (w1.cell? ⟨w.heap.size + 1, 0, none⟩ = some (.func (.func 81) #[] #[])) := Lib.hid (by rw [← hw1]; simp)
  have HSL : Hid (w.heap.size + 1 < w1.heap.size) := Lib.hid (by rw [← hw1]; simp)
  have m0 := HX.out.c0
  have m1 := HX.out.c1
  have m2 := HX.out.c2
  have m3 := HX.out.c3
  go_enter Tryz.func38, Tryz.ntmps38
  go_wp2_with fail
  clear hw1
  refine (every_item _ c.items 84 #[] w1 (HI.out.below HB.out) (by omega) (fun _ _ => by simp [go_sem]) (fun j hj w' hb => by simpa using itemInRange_any c.items[j] w')).mono ?_
  rintro e w2 ⟨rfl, hB⟩
  have HB := Lib.hid (HB.out.trans (hB.mono HB.out.size))
  have HX := Lib.hid (HX.out.below hB)
  have HS := Lib.hid ((hB.cell (p := ⟨w.heap.size + 1, 0, none⟩) HSL.out).trans HS.out)
  have HSL := Lib.hid (Nat.lt_of_lt_of_le HSL.out hB.size)
  clear hB m0 m1 m2 m3
  have m0 := HX.out.c0
  have m1 := HX.out.c1
  have m2 := HX.out.c2
  have m3 := HX.out.c3
  go_wp2_with fail
  refine (every_rule _ c.rules 85 #[.pointer (some ⟨w.heap.size + 1, 0, none⟩)] w2 (HR.out.below HB.out) (by omega) (fun _ _ => by simp [go_sem]) (fun j hj p w' hb hr => by simpa using ir2_any c.rules[j] p c.items.length (w.heap.size + 1) w' hr (HG.out.each _ (List.getElem_mem hj)) (Nat.lt_of_lt_of_le HSL.out hb.size) ((hb.cell (p := ⟨w.heap.size + 1, 0, none⟩) HSL.out).trans HS.out))).mono ?_
  rintro e w3 ⟨rfl, hB⟩
  have HB := Lib.hid (HB.out.trans (hB.mono HB.out.size))
  have HX := Lib.hid (HX.out.below hB)
  have HS := Lib.hid ((hB.cell (p := ⟨w.heap.size + 1, 0, none⟩) HSL.out).trans HS.out)
  have HSL := Lib.hid (Nat.lt_of_lt_of_le HSL.out hB.size)
  clear hB m0 m1 m2 m3
  have m0 := HX.out.c0
  have m1 := HX.out.c1
  have m2 := HX.out.c2
  have m3 := HX.out.c3
  go_wp2_with fail
  refine (every_table _ _).mono ?_
  rintro e w' ⟨rfl, rfl⟩
  go_wp2_with fail
  refine (every_tax _ _).mono ?_
  rintro e w' ⟨rfl, rfl⟩
  go_wp2_with fail
  go_ret
  exact ⟨rfl, HB.out⟩
set_option maxHeartbeats 1000000 in
theorem valid_good (vi vr : Value) (c : Cat) (w : World) (hc : CatAt w vi vr c) (hg : Good c) (hn : Named c) (h1 : c.items.Nodup) (h2 : (c.rules.map (fun x => x.name)).Nodup) (hK : Kinds w) : Calls Tryz.prog 16 #[catV vi vr] w fun e w' => e = .returned (.int .i64 0) ∧ Below w.heap.size w w' := by
  have H1 := Lib.hid h1
  have H2 := Lib.hid h2
  clear h1 h2
  obtain ⟨ai, ci, rfl, hi1, hi2⟩ := hc.items.form
  obtain ⟨ar, cr, rfl, hr1, hr2⟩ := hc.rules.form
  obtain ⟨w1, hw1⟩ : ∃ w1, w.alloc (.cells #[.slice ai c.items.length ci, .slice ar c.rules.length cr, .slice none 0 0, .slice none 0 0] 28) = w1 := ⟨_, rfl⟩
  have HB : Hid (Below w.heap.size w w1) := Lib.hid (by rw [← hw1]; exact (Below.refl _ _).alloc (Nat.le_refl _) _)
  have HX : Hid (BoxC w1 w.heap.size (.slice ai c.items.length ci) (.slice ar c.rules.length cr)) := Lib.hid (by rw [← hw1]; exact BoxC.new _ _ _)
  have HC := Lib.hid (hc.below HB.out)
  have m0 := HX.out.c0
  have m1 := HX.out.c1
  have m2 := HX.out.c2
  have m3 := HX.out.c3
  have HG := Lib.hid hg
  have HN := Lib.hid hn
  have HK := Lib.hid (hK.keep HB.out)
  clear hc hg hn hK
  unfold catV
  go_enter Tryz.func16, Tryz.ntmps16
  go_wp2_with fail
  clear hw1
  refine (within_any _ _ c w1 HC.out HG.out).mono ?_
  rintro e w2 ⟨rfl, hB⟩
  have HK := Lib.hid (HK.out.keep hB)
  have HB := Lib.hid (HB.out.trans (hB.mono HB.out.size))
  have HX := Lib.hid (HX.out.below hB)
  have HC := Lib.hid (HC.out.below hB)
  clear hB m0 m1 m2 m3
  have m0 := HX.out.c0
  have m1 := HX.out.c1
  have m2 := HX.out.c2
  have m3 := HX.out.c3
  go_wp2_with fail
  refine (namesFit_any _ _ c w2 HC.out HG.out HN.out HK.out).mono ?_
  rintro e w3 ⟨rfl, hB⟩
  have HB := Lib.hid (HB.out.trans (hB.mono HB.out.size))
  have HX := Lib.hid (HX.out.below hB)
  have HC := Lib.hid (HC.out.below hB)
  clear hB m0 m1 m2 m3
  have m0 := HX.out.c0
  have m1 := HX.out.c1
  have m2 := HX.out.c2
  have m3 := HX.out.c3
  go_wp2_with fail
  refine (namesDiffer_any _ _ c w3 HC.out HG.out HN.out H1.out H2.out).mono ?_
  rintro e w4 ⟨rfl, hB⟩
  have HB := Lib.hid (HB.out.trans (hB.mono HB.out.size))
  have HX := Lib.hid (HX.out.below hB)
  have HC := Lib.hid (HC.out.below hB)
  clear hB m0 m1 m2 m3
  have m0 := HX.out.c0
  have m1 := HX.out.c1
  have m2 := HX.out.c2
  have m3 := HX.out.c3
  go_wp2_with fail
  refine (wellFormed_any _ _ c w4 HC.out HG.out).mono ?_
  rintro e w5 ⟨rfl, hB⟩
  have HB := Lib.hid (HB.out.trans (hB.mono HB.out.size))
  have HX := Lib.hid (HX.out.below hB)
  have HC := Lib.hid (HC.out.below hB)
  clear hB m0 m1 m2 m3
  have m0 := HX.out.c0
  have m1 := HX.out.c1
  have m2 := HX.out.c2
  have m3 := HX.out.c3
  go_wp2_with fail
  refine (inRange_any _ _ c w5 HC.out HG.out).mono ?_
  rintro e w6 ⟨rfl, hB⟩
  have HB := Lib.hid (HB.out.trans (hB.mono HB.out.size))
  have HX := Lib.hid (HX.out.below hB)
  have HC := Lib.hid (HC.out.below hB)
  clear hB m0 m1 m2 m3
  have m0 := HX.out.c0
  have m1 := HX.out.c1
  have m2 := HX.out.c2
  have m3 := HX.out.c3
  go_wp2_with fail
  go_ret
  exact ⟨rfl, HB.out⟩
set_option maxHeartbeats 1000000 in
theorem valid_bad (vi vr : Value) (c : Cat) (w : World) (hc : CatAt w vi vr c) (hg : Good c) (hn : Named c) (h1 : ¬ c.items.Nodup) (hK : Kinds w) : Calls Tryz.prog 16 #[catV vi vr] w fun e w' => e = .returned (.int .i64 8) ∧ Below w.heap.size w w' := by
  have H1 := Lib.hid h1
  clear h1
  obtain ⟨ai, ci, rfl, hi1, hi2⟩ := hc.items.form
  obtain ⟨ar, cr, rfl, hr1, hr2⟩ := hc.rules.form
  obtain ⟨w1, hw1⟩ : ∃ w1, w.alloc (.cells #[.slice ai c.items.length ci, .slice ar c.rules.length cr, .slice none 0 0, .slice none 0 0] 28) = w1 := ⟨_, rfl⟩
  have HB : Hid (Below w.heap.size w w1) := Lib.hid (by rw [← hw1]; exact (Below.refl _ _).alloc (Nat.le_refl _) _)
  have HX : Hid (BoxC w1 w.heap.size (.slice ai c.items.length ci) (.slice ar c.rules.length cr)) := Lib.hid (by rw [← hw1]; exact BoxC.new _ _ _)
  have HC := Lib.hid (hc.below HB.out)
  have m0 := HX.out.c0
  have m1 := HX.out.c1
  have m2 := HX.out.c2
  have m3 := HX.out.c3
  have HG := Lib.hid hg
  have HN := Lib.hid hn
  have HK := Lib.hid (hK.keep HB.out)
  clear hc hg hn hK
  unfold catV
  go_enter Tryz.func16, Tryz.ntmps16
  go_wp2_with fail
  clear hw1
  refine (within_any _ _ c w1 HC.out HG.out).mono ?_
  rintro e w2 ⟨rfl, hB⟩
  have HK := Lib.hid (HK.out.keep hB)
  have HB := Lib.hid (HB.out.trans (hB.mono HB.out.size))
  have HX := Lib.hid (HX.out.below hB)
  have HC := Lib.hid (HC.out.below hB)
  clear hB m0 m1 m2 m3
  have m0 := HX.out.c0
  have m1 := HX.out.c1
  have m2 := HX.out.c2
  have m3 := HX.out.c3
  go_wp2_with fail
  refine (namesFit_any _ _ c w2 HC.out HG.out HN.out HK.out).mono ?_
  rintro e w3 ⟨rfl, hB⟩
  have HB := Lib.hid (HB.out.trans (hB.mono HB.out.size))
  have HX := Lib.hid (HX.out.below hB)
  have HC := Lib.hid (HC.out.below hB)
  clear hB m0 m1 m2 m3
  have m0 := HX.out.c0
  have m1 := HX.out.c1
  have m2 := HX.out.c2
  have m3 := HX.out.c3
  go_wp2_with fail
  refine (namesDiffer_no _ _ c w3 HC.out HG.out HN.out H1.out).mono ?_
  rintro e w4 ⟨rfl, hB⟩
  have HB := Lib.hid (HB.out.trans (hB.mono HB.out.size))
  have HX := Lib.hid (HX.out.below hB)
  have HC := Lib.hid (HC.out.below hB)
  clear hB m0 m1 m2 m3
  have m0 := HX.out.c0
  have m1 := HX.out.c1
  have m2 := HX.out.c2
  have m3 := HX.out.c3
  go_wp2_with fail
  go_ret
  exact ⟨rfl, HB.out⟩
end Go.Proofs.YtfpcgjgkbniofaaGreatDoor
