/- Matrices whose rows grow; for laws.Effects. -/
import Derived.Test.YtkjhlkngihponaaGreatDoorQVGFits
import Derived.Laws.EntriesVeiled
import Derived.RegionTactic
import Derived.ChangeAlike
import Derived.Test.YtkjhlkngihponaaGreatDoorQVRegLast
import Derived.Laws.MakeOwn
import Derived.Deep.RegionHeld3
import Derived.Test.YtkjhlkngihponaaGreatDoorQVRefWalks
import Derived.OrdersIn
import Derived.Deep.Upon
import Derived.Test.YtkjhlkngihponaaGreatDoorQVGMath
import Derived.BigRegion
import Derived.Test.YtkjhlkngihponaaGreatDoorQVLHnf
import Derived.Test.YtkjhlkngihponaaGreatDoorQVWDiv
import Derived.Test.YtkjhlkngihponaaGreatDoorQVLHerm
set_option linter.unusedVariables false
set_option linter.unusedSimpArgs false
set_option maxHeartbeats 8000000
set_option maxRecDepth 100000
namespace Go.Proofs.YtkjhlkngihponaaGreatDoor
open Go.RowKit
theorem qKI {n : Nat} {r : Rul} (h : qIO n r) : ∀ i, ofI r.back i <= ofI r.take i := by
 intro i; rcases h.within with e | e
 ·rw [e]; simp [qCd]
 ·rw [e]; exact Nat.le_refl _
theorem qNO (r : Rul) (p : Pl) (n bs bc : Nat) (ai : Option Addr) (ci : Nat) (w : World) (hr : qFz w r p) (hg : qIO n r) (hn : n <= 6) (hbs : bs < w.heap.size) (hbc : bc < w.heap.size) (hs : w.cell? ⟨bs, 0, none⟩ = some (.func (.func 90) #[] #[.pointer (some ⟨bc, 0, none⟩)])) (hcb : w.cell? ⟨bc, 0, none⟩ = some (.slice ai n ci)) :
 Calls Tryz.prog 92 #[qGO r p, .pointer (some ⟨bs, 0, none⟩)] w fun e w' => e = .returned (.bool true) /\ Below w.heap.size w w' := by
 have HG := hZ hg; have HR := hZ hr; obtain ⟨rn, rs, rt, ro, lt, lg, lb⟩ := r; unfold qGO; simp only []; obtain ⟨w1, hw1⟩ := eX (w.alloc (.cells #[.string ⟨rn.toArray⟩, .bool rs, .int .i64 0, .int .i64 rt, .int .i64 1, .int .i64 ro, .slice p.at_ lt.length p.ct, .slice p.ag lg.length p.cg, .slice p.ab lb.length p.cb] 54)); have hB0 : Below w.heap.size w w1 := by rw [<- hw1]; exact aR
 have HB := hZ hB0; have HX : Hid (qCR w1 w.heap.size 0 ⟨rn, rs, rt, ro, lt, lg, lb⟩ p) := hZ (by rw [<- hw1]; exact ⟨by simp, by simp, by simp, by simp, by simp, by simp, by simp, by simp, by simp⟩); have HL : Hid (w.heap.size < w1.heap.size) := hZ (by rw [<- hw1]; simp); have HR := hZ (HR.o.below hB0); have HSL := hZ (Nat.lt_of_lt_of_le hbs hB0.size); have HS : Hid (w1.cell? ⟨bs, 0, none⟩ = some (.func (.func 90) #[] #[.pointer (some ⟨bc, 0, none⟩)])) := hZ ((hB0.cell (p := ⟨bs, 0, none⟩) hbs).trans hs); have HC : Hid (w1.cell? ⟨bc, 0, none⟩ = some (.slice ai n ci)) := hZ ((hB0.cell (p := ⟨bc, 0, none⟩) hbc).trans hcb); have HCL := hZ (Nat.lt_of_lt_of_le hbc hB0.size); clear hB0 hs hcb hr hg hbs hbc; have z0 := HX.o.c0; have z1 := HX.o.c1; have z2 := HX.o.c2; have z3 := HX.o.c3; have z4 := HX.o.c4; have z5 := HX.o.c5; have z6 := HX.o.c6; have z7 := HX.o.c7; have z8 := HX.o.c8; have zs := HS.o; have zb := HSL.o
 go_enter Tryz.func92, Tryz.ntmps92
 go_wp2_with fail
 clear hw1; refine (qDK _ lt n 2 bc ai ci w1 HR.o.take HG.o.take (by omega) HC.o HCL.o (by omega)).mono ?_; rintro e w2 ⟨rfl, hB⟩; have HB := hZ (HB.o.trans (hB.mono HB.o.size)); have HX := hZ (HX.o.below hB HL.o); have HS := hZ ((hB.cell (p := ⟨bs, 0, none⟩) HSL.o).trans HS.o); have HR := hZ (HR.o.below hB); have HL := hZ (Nat.lt_of_lt_of_le HL.o hB.size); have HSL := hZ (Nat.lt_of_lt_of_le HSL.o hB.size); have HC := hZ ((hB.cell (p := ⟨bc, 0, none⟩) HCL.o).trans HC.o); have HCL := hZ (Nat.lt_of_lt_of_le HCL.o hB.size); clear hB z0 z1 z2 z3 z4 z5 z6 z7 z8 zs zb; have z0 := HX.o.c0; have z1 := HX.o.c1; have z2 := HX.o.c2; have z3 := HX.o.c3; have z4 := HX.o.c4; have z5 := HX.o.c5; have z6 := HX.o.c6; have z7 := HX.o.c7; have z8 := HX.o.c8; have zs := HS.o; have zb := HSL.o
 go_wp2_with fail
 refine (qDK _ lg n 2 bc ai ci w2 HR.o.give HG.o.give (by omega) HC.o HCL.o (by omega)).mono ?_; rintro e w3 ⟨rfl, hB⟩; have HB := hZ (HB.o.trans (hB.mono HB.o.size)); have HX := hZ (HX.o.below hB HL.o); have HS := hZ ((hB.cell (p := ⟨bs, 0, none⟩) HSL.o).trans HS.o); have HR := hZ (HR.o.below hB); have HL := hZ (Nat.lt_of_lt_of_le HL.o hB.size); have HSL := hZ (Nat.lt_of_lt_of_le HSL.o hB.size); have HC := hZ ((hB.cell (p := ⟨bc, 0, none⟩) HCL.o).trans HC.o); have HCL := hZ (Nat.lt_of_lt_of_le HCL.o hB.size); clear hB z0 z1 z2 z3 z4 z5 z6 z7 z8 zs zb; have z0 := HX.o.c0; have z1 := HX.o.c1; have z2 := HX.o.c2; have z3 := HX.o.c3; have z4 := HX.o.c4; have z5 := HX.o.c5; have z6 := HX.o.c6; have z7 := HX.o.c7; have z8 := HX.o.c8; have zs := HS.o; have zb := HSL.o
 go_wp2_with fail
 refine (qDK _ lb n 2 bc ai ci w3 HR.o.back HG.o.back (by omega) HC.o HCL.o (by omega)).mono ?_; rintro e w4 ⟨rfl, hB⟩; have HB := hZ (HB.o.trans (hB.mono HB.o.size)); have HX := hZ (HX.o.below hB HL.o); have HS := hZ ((hB.cell (p := ⟨bs, 0, none⟩) HSL.o).trans HS.o); have HR := hZ (HR.o.below hB); have HL := hZ (Nat.lt_of_lt_of_le HL.o hB.size); have HSL := hZ (Nat.lt_of_lt_of_le HSL.o hB.size); have HC := hZ ((hB.cell (p := ⟨bc, 0, none⟩) HCL.o).trans HC.o); have HCL := hZ (Nat.lt_of_lt_of_le HCL.o hB.size); clear hB z0 z1 z2 z3 z4 z5 z6 z7 z8 zs zb; have z0 := HX.o.c0; have z1 := HX.o.c1; have z2 := HX.o.c2; have z3 := HX.o.c3; have z4 := HX.o.c4; have z5 := HX.o.c5; have z6 := HX.o.c6; have z7 := HX.o.c7; have z8 := HX.o.c8; have zs := HS.o; have zb := HSL.o
 go_wp2_with fail
 refine (qFt ⟨rn, rs, rt, ro, lt, lg, lb⟩ p n w4 HR.o HG.o).mono ?_; rintro e w5 ⟨rfl, hB⟩; have HB := hZ (HB.o.trans (hB.mono HB.o.size)); have HX := hZ (HX.o.below hB HL.o); have HS := hZ ((hB.cell (p := ⟨bs, 0, none⟩) HSL.o).trans HS.o); have HR := hZ (HR.o.below hB); have HL := hZ (Nat.lt_of_lt_of_le HL.o hB.size); have HSL := hZ (Nat.lt_of_lt_of_le HSL.o hB.size); clear hB z0 z1 z2 z3 z4 z5 z6 z7 z8 zs zb; have z0 := HX.o.c0; have z1 := HX.o.c1; have z2 := HX.o.c2; have z3 := HX.o.c3; have z4 := HX.o.c4; have z5 := HX.o.c5; have z6 := HX.o.c6; have z7 := HX.o.c7; have z8 := HX.o.c8; have zs := HS.o; have zb := HSL.o
 go_wp2_with fail
 refine (qHq _ _ lt lb n w5 HR.o.take HR.o.back HG.o.take HG.o.back (by omega) (qKI HG.o)).mono ?_; rintro e w6 ⟨rfl, hB⟩; have HB := hZ (HB.o.trans (hB.mono HB.o.size)); have HX := hZ (HX.o.below hB HL.o); have HS := hZ ((hB.cell (p := ⟨bs, 0, none⟩) HSL.o).trans HS.o); have HR := hZ (HR.o.below hB); have HL := hZ (Nat.lt_of_lt_of_le HL.o hB.size); have HSL := hZ (Nat.lt_of_lt_of_le HSL.o hB.size); clear hB z0 z1 z2 z3 z4 z5 z6 z7 z8 zs zb; have z0 := HX.o.c0; have z1 := HX.o.c1; have z2 := HX.o.c2; have z3 := HX.o.c3; have z4 := HX.o.c4; have z5 := HX.o.c5; have z6 := HX.o.c6; have z7 := HX.o.c7; have z8 := HX.o.c8; have zs := HS.o; have zb := HSL.o
 go_wp2_with fail
 go_ret; exact ⟨rfl, HB.o⟩
theorem qOl (r : Rul) (p : Pl) (n bs : Nat) (w : World) (hr : qFz w r p) (hg : qIO n r) (hbs : bs < w.heap.size) (hs : w.cell? ⟨bs, 0, none⟩ = some (.func (.func 99) #[] #[])) :
 Calls Tryz.prog 103 #[qGO r p, .pointer (some ⟨bs, 0, none⟩)] w fun e w' => e = .returned (.bool true) /\ Below w.heap.size w w' := by
 have HG := hZ hg; have HR := hZ hr; obtain ⟨rn, rs, rt, ro, lt, lg, lb⟩ := r; unfold qGO; simp only []; obtain ⟨w1, hw1⟩ := eX (w.alloc (.cells #[.string ⟨rn.toArray⟩, .bool rs, .int .i64 0, .int .i64 rt, .int .i64 1, .int .i64 ro, .slice p.at_ lt.length p.ct, .slice p.ag lg.length p.cg, .slice p.ab lb.length p.cb] 54)); have hB0 : Below w.heap.size w w1 := by rw [<- hw1]; exact aR
 have HB := hZ hB0; have HX : Hid (qCR w1 w.heap.size 0 ⟨rn, rs, rt, ro, lt, lg, lb⟩ p) := hZ (by rw [<- hw1]; exact ⟨by simp, by simp, by simp, by simp, by simp, by simp, by simp, by simp, by simp⟩); have HL : Hid (w.heap.size < w1.heap.size) := hZ (by rw [<- hw1]; simp); have HR := hZ (HR.o.below hB0); have HSL := hZ (Nat.lt_of_lt_of_le hbs hB0.size); have HS : Hid (w1.cell? ⟨bs, 0, none⟩ = some (.func (.func 99) #[] #[])) := hZ ((hB0.cell (p := ⟨bs, 0, none⟩) hbs).trans hs); clear hB0 hs hr hg hbs; have z0 := HX.o.c0; have z1 := HX.o.c1; have z2 := HX.o.c2; have z3 := HX.o.c3; have z4 := HX.o.c4; have z5 := HX.o.c5; have z6 := HX.o.c6; have z7 := HX.o.c7; have z8 := HX.o.c8; have zs := HS.o; have zb := HSL.o
 go_enter Tryz.func103, Tryz.ntmps103
 go_wp2_with fail
 clear hw1; refine (qC0 _ lt n 2 w1 HR.o.take HG.o.take (by omega)).mono ?_; rintro e w2 ⟨rfl, hB⟩; have HB := hZ (HB.o.trans (hB.mono HB.o.size)); have HX := hZ (HX.o.below hB HL.o); have HS := hZ ((hB.cell (p := ⟨bs, 0, none⟩) HSL.o).trans HS.o); have HR := hZ (HR.o.below hB); have HL := hZ (Nat.lt_of_lt_of_le HL.o hB.size); have HSL := hZ (Nat.lt_of_lt_of_le HSL.o hB.size); clear hB z0 z1 z2 z3 z4 z5 z6 z7 z8 zs zb; have z0 := HX.o.c0; have z1 := HX.o.c1; have z2 := HX.o.c2; have z3 := HX.o.c3; have z4 := HX.o.c4; have z5 := HX.o.c5; have z6 := HX.o.c6; have z7 := HX.o.c7; have z8 := HX.o.c8; have zs := HS.o; have zb := HSL.o
 go_wp2_with fail
 refine (qC0 _ lg n 2 w2 HR.o.give HG.o.give (by omega)).mono ?_; rintro e w3 ⟨rfl, hB⟩; have HB := hZ (HB.o.trans (hB.mono HB.o.size)); have HX := hZ (HX.o.below hB HL.o); have HS := hZ ((hB.cell (p := ⟨bs, 0, none⟩) HSL.o).trans HS.o); have HR := hZ (HR.o.below hB); have HL := hZ (Nat.lt_of_lt_of_le HL.o hB.size); have HSL := hZ (Nat.lt_of_lt_of_le HSL.o hB.size); clear hB z0 z1 z2 z3 z4 z5 z6 z7 z8 zs zb; have z0 := HX.o.c0; have z1 := HX.o.c1; have z2 := HX.o.c2; have z3 := HX.o.c3; have z4 := HX.o.c4; have z5 := HX.o.c5; have z6 := HX.o.c6; have z7 := HX.o.c7; have z8 := HX.o.c8; have zs := HS.o; have zb := HSL.o
 go_wp2_with fail
 refine (qC0 _ lb n 2 w3 HR.o.back HG.o.back (by omega)).mono ?_; rintro e w4 ⟨rfl, hB⟩; have HB := hZ (HB.o.trans (hB.mono HB.o.size)); have HX := hZ (HX.o.below hB HL.o); have HS := hZ ((hB.cell (p := ⟨bs, 0, none⟩) HSL.o).trans HS.o); have HR := hZ (HR.o.below hB); have HL := hZ (Nat.lt_of_lt_of_le HL.o hB.size); have HSL := hZ (Nat.lt_of_lt_of_le HSL.o hB.size); clear hB z0 z1 z2 z3 z4 z5 z6 z7 z8 zs zb; have z0 := HX.o.c0; have z1 := HX.o.c1; have z2 := HX.o.c2; have z3 := HX.o.c3; have z4 := HX.o.c4; have z5 := HX.o.c5; have z6 := HX.o.c6; have z7 := HX.o.c7; have z8 := HX.o.c8; have zs := HS.o; have zb := HSL.o
 go_wp2_with fail
 refine (qEJ ⟨rn, rs, rt, ro, lt, lg, lb⟩ p n w4 HR.o HG.o).mono ?_; rintro e w5 ⟨rfl, hB⟩; have HB := hZ (HB.o.trans (hB.mono HB.o.size)); have HX := hZ (HX.o.below hB HL.o); have HS := hZ ((hB.cell (p := ⟨bs, 0, none⟩) HSL.o).trans HS.o); have HR := hZ (HR.o.below hB); have HL := hZ (Nat.lt_of_lt_of_le HL.o hB.size); have HSL := hZ (Nat.lt_of_lt_of_le HSL.o hB.size); clear hB z0 z1 z2 z3 z4 z5 z6 z7 z8 zs zb; have z0 := HX.o.c0; have z1 := HX.o.c1; have z2 := HX.o.c2; have z3 := HX.o.c3; have z4 := HX.o.c4; have z5 := HX.o.c5; have z6 := HX.o.c6; have z7 := HX.o.c7; have z8 := HX.o.c8; have zs := HS.o; have zb := HSL.o
 go_wp2_with fail
 go_ret; exact ⟨rfl, HB.o⟩
theorem qFp (vi vr : Value) (c : Cat) (w : World) (hc : qBF w vi vr c) (hg : qKz c) : Calls Tryz.prog 42 #[qDd vi vr] w fun e w' => e = .returned (.bool true) /\ Below w.heap.size w w' := by
 have HI := hZ hc.items; have HR := hZ hc.rules; obtain ⟨ai, ci, rfl, hi1, hi2⟩ := hc.items.form; obtain ⟨ar, cr, rfl, hr1, hr2⟩ := hc.rules.form; have hli := hg.items; have hlr := hg.rules; have HG := hZ hg; clear hc hg; unfold qDd; obtain ⟨w1, hw1⟩ := eX ((w.alloc (.cells #[.slice ai c.items.length ci, .slice ar c.rules.length cr, .slice none 0 0, .slice none 0 0] 28)).alloc (.cells #[.func (.func 90) #[] #[.pointer (some ⟨w.heap.size, 0, none⟩)]] 135)); have HB : Hid (Below w.heap.size w w1) := hZ (by rw [<- hw1]; exact aR.alloc (by simp) _); have HX : Hid (qCp w1 w.heap.size (.slice ai c.items.length ci) (.slice ar c.rules.length cr)) := hZ (by rw [<- hw1]; exact (qCp.new _ _ _).below aR); have HS : Hid (w1.cell? ⟨w.heap.size + 1, 0, none⟩ = some (.func (.func 90) #[] #[.pointer (some ⟨w.heap.size, 0, none⟩)])) := hZ (by rw [<- hw1]; simp); have HSL : Hid (w.heap.size + 1 < w1.heap.size) := hZ (by rw [<- hw1]; simp); have m0 := HX.o.c0; have m1 := HX.o.c1; have m2 := HX.o.c2; have m3 := HX.o.c3
 go_enter Tryz.func42, Tryz.ntmps42
 go_wp2_with fail
 clear hw1; refine (qDV _ c.items 91 #[] w1 (HI.o.below HB.o) (by omega) (fun _ _ => by simp [go_sem]) (fun j hj w' hb => by simpa using qFv c.items[j] w')).mono ?_; rintro e w2 ⟨rfl, hB⟩; have HB := hZ (HB.o.trans (hB.mono HB.o.size)); have HX := hZ (HX.o.below hB); have HS := hZ ((hB.cell (p := ⟨w.heap.size + 1, 0, none⟩) HSL.o).trans HS.o); have HSL := hZ (Nat.lt_of_lt_of_le HSL.o hB.size); clear hB m0 m1 m2 m3; have m0 := HX.o.c0; have m1 := HX.o.c1; have m2 := HX.o.c2; have m3 := HX.o.c3
 go_wp2_with fail
 refine (qCN _ c.rules 92 #[.pointer (some ⟨w.heap.size + 1, 0, none⟩)] w2 (HR.o.below HB.o) (by omega) (fun _ _ => by simp [go_sem]) (fun j hj p w' hb hr => by simpa using qNO c.rules[j] p c.items.length (w.heap.size + 1) w.heap.size ai ci w' hr (HG.o.each _ (List.getElem_mem hj)) hli (Nat.lt_of_lt_of_le HSL.o hb.size) (Nat.lt_of_lt_of_le HX.o.lt hb.size) ((hb.cell (p := ⟨w.heap.size + 1, 0, none⟩) HSL.o).trans HS.o) ((hb.cell (p := ⟨w.heap.size, 0, none⟩) HX.o.lt).trans HX.o.c0))).mono ?_; rintro e w3 ⟨rfl, hB⟩; have HB := hZ (HB.o.trans (hB.mono HB.o.size)); have HX := hZ (HX.o.below hB); have HS := hZ ((hB.cell (p := ⟨w.heap.size + 1, 0, none⟩) HSL.o).trans HS.o); have HSL := hZ (Nat.lt_of_lt_of_le HSL.o hB.size); clear hB m0 m1 m2 m3; have m0 := HX.o.c0; have m1 := HX.o.c1; have m2 := HX.o.c2; have m3 := HX.o.c3
 go_wp2_with fail
 refine (qCh _ _).mono ?_; rintro e w' ⟨rfl, rfl⟩
 go_wp2_with fail
 refine (qDw _ _).mono ?_; rintro e w' ⟨rfl, rfl⟩
 go_wp2_with fail
 go_ret; exact ⟨rfl, HB.o⟩
theorem qIo (vi vr : Value) (c : Cat) (w : World) (hc : qBF w vi vr c) (hg : qKz c) : Calls Tryz.prog 43 #[qDd vi vr] w fun e w' => e = .returned (.bool true) /\ Below w.heap.size w w' := by
 have HI := hZ hc.items; have HR := hZ hc.rules; obtain ⟨ai, ci, rfl, hi1, hi2⟩ := hc.items.form; obtain ⟨ar, cr, rfl, hr1, hr2⟩ := hc.rules.form; have hli := hg.items; have hlr := hg.rules; have HG := hZ hg; clear hc hg; unfold qDd; obtain ⟨w1, hw1⟩ := eX ((w.alloc (.cells #[.slice ai c.items.length ci, .slice ar c.rules.length cr, .slice none 0 0, .slice none 0 0] 28)).alloc (.cells #[.func (.func 99) #[] #[]] 135)); have HB : Hid (Below w.heap.size w w1) := hZ (by rw [<- hw1]; exact aR.alloc (by simp) _); have HX : Hid (qCp w1 w.heap.size (.slice ai c.items.length ci) (.slice ar c.rules.length cr)) := hZ (by rw [<- hw1]; exact (qCp.new _ _ _).below aR); have HS : Hid (w1.cell? ⟨w.heap.size + 1, 0, none⟩ = some (.func (.func 99) #[] #[])) := hZ (by rw [<- hw1]; simp); have HSL : Hid (w.heap.size + 1 < w1.heap.size) := hZ (by rw [<- hw1]; simp); have m0 := HX.o.c0; have m1 := HX.o.c1; have m2 := HX.o.c2; have m3 := HX.o.c3
 go_enter Tryz.func43, Tryz.ntmps43
 go_wp2_with fail
 clear hw1; refine (qDV _ c.items 102 #[] w1 (HI.o.below HB.o) (by omega) (fun _ _ => by simp [go_sem]) (fun j hj w' hb => by simpa using qE2 c.items[j] w')).mono ?_; rintro e w2 ⟨rfl, hB⟩; have HB := hZ (HB.o.trans (hB.mono HB.o.size)); have HX := hZ (HX.o.below hB); have HS := hZ ((hB.cell (p := ⟨w.heap.size + 1, 0, none⟩) HSL.o).trans HS.o); have HSL := hZ (Nat.lt_of_lt_of_le HSL.o hB.size); clear hB m0 m1 m2 m3; have m0 := HX.o.c0; have m1 := HX.o.c1; have m2 := HX.o.c2; have m3 := HX.o.c3
 go_wp2_with fail
 refine (qCN _ c.rules 103 #[.pointer (some ⟨w.heap.size + 1, 0, none⟩)] w2 (HR.o.below HB.o) (by omega) (fun _ _ => by simp [go_sem]) (fun j hj p w' hb hr => by simpa using qOl c.rules[j] p c.items.length (w.heap.size + 1) w' hr (HG.o.each _ (List.getElem_mem hj)) (Nat.lt_of_lt_of_le HSL.o hb.size) ((hb.cell (p := ⟨w.heap.size + 1, 0, none⟩) HSL.o).trans HS.o))).mono ?_; rintro e w3 ⟨rfl, hB⟩; have HB := hZ (HB.o.trans (hB.mono HB.o.size)); have HX := hZ (HX.o.below hB); have HS := hZ ((hB.cell (p := ⟨w.heap.size + 1, 0, none⟩) HSL.o).trans HS.o); have HSL := hZ (Nat.lt_of_lt_of_le HSL.o hB.size); clear hB m0 m1 m2 m3; have m0 := HX.o.c0; have m1 := HX.o.c1; have m2 := HX.o.c2; have m3 := HX.o.c3
 go_wp2_with fail
 refine (qCh _ _).mono ?_; rintro e w' ⟨rfl, rfl⟩
 go_wp2_with fail
 refine (qDw _ _).mono ?_; rintro e w' ⟨rfl, rfl⟩
 go_wp2_with fail
 go_ret; exact ⟨rfl, HB.o⟩
theorem qCE (vi vr : Value) (c : Cat) (w : World) (hc : qBF w vi vr c) (hg : qKz c) (hn : qNq c) (h1 : c.items.Nodup) (h2 : (c.rules.map (fun x => x.name)).Nodup) (hK : qAY w) : Calls Tryz.prog 13 #[qDd vi vr] w fun e w' => e = .returned (.int .i64 0) /\ Below w.heap.size w w' := by
 have H1 := hZ h1; have H2 := hZ h2; clear h1 h2; obtain ⟨ai, ci, rfl, hi1, hi2⟩ := hc.items.form; obtain ⟨ar, cr, rfl, hr1, hr2⟩ := hc.rules.form; obtain ⟨w1, hw1⟩ := eX (w.alloc (.cells #[.slice ai c.items.length ci, .slice ar c.rules.length cr, .slice none 0 0, .slice none 0 0] 28)); have HB : Hid (Below w.heap.size w w1) := hZ (by rw [<- hw1]; exact aR); have HX : Hid (qCp w1 w.heap.size (.slice ai c.items.length ci) (.slice ar c.rules.length cr)) := hZ (by rw [<- hw1]; exact qCp.new _ _ _); have HC := hZ (hc.below HB.o); have m0 := HX.o.c0; have m1 := HX.o.c1; have m2 := HX.o.c2; have m3 := HX.o.c3; have HG := hZ hg; have HN := hZ hn; have HK := hZ (hK.keep HB.o); clear hc hg hn hK; unfold qDd
 go_enter Tryz.func13, Tryz.ntmps13
 go_wp2_with fail
 clear hw1; refine (qJH _ _ c w1 HC.o HG.o).mono ?_; rintro e w2 ⟨rfl, hB⟩; have HK := hZ (HK.o.keep hB); have HB := hZ (HB.o.trans (hB.mono HB.o.size)); have HX := hZ (HX.o.below hB); have HC := hZ (HC.o.below hB); clear hB m0 m1 m2 m3; have m0 := HX.o.c0; have m1 := HX.o.c1; have m2 := HX.o.c2; have m3 := HX.o.c3
 go_wp2_with fail
 refine (qGY _ _ c w2 HC.o HG.o HN.o HK.o).mono ?_; rintro e w3 ⟨rfl, hB⟩; have HB := hZ (HB.o.trans (hB.mono HB.o.size)); have HX := hZ (HX.o.below hB); have HC := hZ (HC.o.below hB); clear hB m0 m1 m2 m3; have m0 := HX.o.c0; have m1 := HX.o.c1; have m2 := HX.o.c2; have m3 := HX.o.c3
 go_wp2_with fail
 refine (qEV _ _ c w3 HC.o HG.o HN.o H1.o H2.o).mono ?_; rintro e w4 ⟨rfl, hB⟩; have HB := hZ (HB.o.trans (hB.mono HB.o.size)); have HX := hZ (HX.o.below hB); have HC := hZ (HC.o.below hB); clear hB m0 m1 m2 m3; have m0 := HX.o.c0; have m1 := HX.o.c1; have m2 := HX.o.c2; have m3 := HX.o.c3
 go_wp2_with fail
 refine (qFp _ _ c w4 HC.o HG.o).mono ?_; rintro e w5 ⟨rfl, hB⟩; have HB := hZ (HB.o.trans (hB.mono HB.o.size)); have HX := hZ (HX.o.below hB); have HC := hZ (HC.o.below hB); clear hB m0 m1 m2 m3; have m0 := HX.o.c0; have m1 := HX.o.c1; have m2 := HX.o.c2; have m3 := HX.o.c3
 go_wp2_with fail
 refine (qIo _ _ c w5 HC.o HG.o).mono ?_; rintro e w6 ⟨rfl, hB⟩; have HB := hZ (HB.o.trans (hB.mono HB.o.size)); have HX := hZ (HX.o.below hB); have HC := hZ (HC.o.below hB); clear hB m0 m1 m2 m3; have m0 := HX.o.c0; have m1 := HX.o.c1; have m2 := HX.o.c2; have m3 := HX.o.c3
 go_wp2_with fail
 go_ret; exact ⟨rfl, HB.o⟩
def qCT (n : Nat) (f : Nat -> Int) : List Value := (List.range n).map (fun i => zv (f i))
theorem qEv (n : Nat) (f : Nat -> Int) : (qCT n f).length = n := by simp [qCT]
theorem qFk (n : Nat) (f : Nat -> Int) (j : Nat) (h : j < n) : (qCT n f)[j]? = some (.int .i64 (f j)) := by simp [qCT, h, zv]
theorem qEu (n : Nat) (f : Nat -> Int) (j : Nat) (x : Int) : (qCT n f).set j (.int .i64 x) = qCT n (fun i => if i = j then x else f i) := by
 apply List.ext_getElem?; intro i; rw [List.getElem?_set]; by_cases h : j = i
 ·subst h
  by_cases hl : j < n
  ·simp [qCT, hl, zv]
  ·simp [qCT, hl]
 ·rw [if_neg h]
  by_cases hl : i < n
  ·simp [qCT, hl, zv, Ne.symm h]
  ·simp [qCT, hl]
theorem qBF.of_below {w w' : World} {vi vr : Value} {c : Cat} (h : qBF w vi vr c) (hb : Below w.heap.size w w') : qBF w' vi vr c := h.below hb
theorem qGG (l : List Amt) (k : Nat) (hk : k < l.length) (f : Nat -> Int) : (fun i => if i = l[k].item then (f l[k].item - (ofI (l.take k) l[k].item : Nat)) - (l[k].n : Int) else f i - (ofI (l.take k) i : Nat)) = (fun i => f i - ((ofI (l.take (k + 1)) i : Nat) : Int)) := by
 funext i
 rw [qEo l k hk]; by_cases h : i = l[k].item
 ·rw [if_pos h, h, if_pos rfl]; omega
 ·rw [if_neg h, if_neg (Ne.symm h)]; omega
theorem qHa (l : List Amt) (k : Nat) (hk : k < l.length) (f : Nat -> Int) : (fun i => if i = l[k].item then (f l[k].item + (ofI (l.take k) l[k].item : Nat)) + (l[k].n : Int) else f i + (ofI (l.take k) i : Nat)) = (fun i => f i + ((ofI (l.take (k + 1)) i : Nat) : Int)) := by
 funext i
 rw [qEo l k hk]; by_cases h : i = l[k].item
 ·rw [if_pos h, h, if_pos rfl]; omega
 ·rw [if_neg h, if_neg (Ne.symm h)]; omega
theorem qAc.alloc {S : Nat -> Prop} {w w' : World} (h : qAc S w w') (o : Obj) : qAc S w (w'.alloc o) :=
 ⟨h.os, h.tape, h.output, Nat.le_trans h.size (by simp), fun k hk hn => (Below.heap_alloc w' o k (Nat.lt_of_lt_of_le hk h.size)).trans (h.block k hk hn)⟩
theorem qMO (n : Nat) : madeCells (Value.int .i64 0).cells (n * 1) = (qCT n (fun _ => 0)).toArray := by
 apply Array.toList_inj.1; simp [madeCells, Value.cells, qCT, zv, Nat.mod_one, List.map_const']
theorem qK1 (n : Nat) (hn : n <= 1000000) (w : World) :
 (Instr.makeSlice 22 (.int .i64 (n : Int)) (.int .i64 (n : Int))).run Tryz.prog w = .ok (.slice (some ⟨w.heap.size, 0, none⟩) n n) (w.alloc (.cells (qCT n (fun _ => 0)).toArray 3)) := by
 obtain ⟨ht, i, z, hi, hz, hsize, hbyt, hzs, hk⟩ := qE7; have hz' : z = .int .i64 0 := by
  obtain ⟨i', hi', hz0, hz1, hz2⟩ := info_parts (show (Tryz.prog.info? 3).map (fun i => (i.zero, i.size, i.bytes)) = some (some (.int .i64 0), 1, 8) by kernel_rfl); have := Option.some.inj (hi.symm.trans hi'); subst this; exact Option.some.inj (hz.symm.trans hz0)
 subst hz'; have hb : (i.bytes : Int) * (n : Int) <= 281474976710656 := by rw [hbyt]; omega
 have hr := run_make (P := Tryz.prog) w 22 3 i _ ht hi hz .i64 .i64 n n (by omega) (by omega) hb (by omega); simp only [Int.toNat_natCast, hsize] at hr; rw [qMO] at hr; exact hr
structure qNJ (c : Cat) : Prop where
 good : qKz c
 named : qNq c
 ni : c.items.Nodup
 nr : (c.rules.map (fun x => x.name)).Nodup
theorem qOI (n : Nat) (f : Nat -> Int) : qCT n f = ((List.range n).map f).map zv := by simp [qCT]
theorem qE3 {w : World} {g n : Nat} {t : TypeId} {f : Nat -> Int} (h : qAo w g t (qCT n f)) (hn : n <= 1000000) : qAk w (.slice (some ⟨g, 0, none⟩) n n) ((List.range n).map f) := by
 rw [qOI] at h; have := qBR h (cap := n) (by simp) (by omega); simpa using this
open Go
section
variable {P : Program} {md : Region.Mode} {ops : Array Oper} {Q : Exit -> Act -> World -> Prop} {l n : Nat}
theorem qBI {f : FuncId} {args : Array Value} {w : World} {R : Ending -> World -> Prop} (h : Calls P f args w R) : CallsIn (Fence.wide.inRound l) n P f args w R :=
 (callsIn_wide (n := n)).2 h
theorem qKK {o : Oper} {a : Act} {K : Act -> World -> Prop} : ∀ r : Result Next, o.upon P a K Q r -> o.uponIn (Fence.wide.inRound l) n P a K Q r := by
 intro r h; unfold Oper.upon at h; unfold Oper.uponIn
 split at h
 ·exact h
 ·exact h
 ·exact h
 ·exact ⟨(fun h => by cases h), qBI h⟩
 ·refine ⟨fun h => (by cases h), fun c cs _ => ?_⟩
  obtain ⟨v, w', hr, hs⟩ := h c cs; exact ⟨v, w', hr, stepsIn_wide.2 hs⟩
 ·exact h
 ·exact h.elim
def qEU (ops : Array Oper) : Bool := ops.all fun o => match o.op with
 | .defer _ => false
 | _ => true
theorem qGX (h : qEU ops = true) {i : Nat} {o : Oper} (ho : ops[i]? = some o) : ∀ c, o.op ≠ .defer c := by
 intro c hc; unfold qEU at h; rw [Array.all_eq_true'] at h; have := h o (Array.mem_of_getElem? ho); rw [hc] at this; cases this
theorem qKH (hd : qEU ops = true) (hL : ∀ a w, ¬ Q .outgrown a w) {i : Nat} {K : Act -> World -> Prop} {a : Act} {w : World} (h : wpOp P ops Q i K a w) : wpOpIn (Fence.wide.inRound l) n P ops Q i K a w := by
 unfold wpOp at h; unfold wpOpIn; cases ho : ops[i]? with
 | none => rw [ho] at h; exact h
 | some o =>
  rw [ho] at h; simp only [] at h ⊢
  split
  ·next hw =>
   rw [if_pos hw] at h; refine ⟨fun _ _ => trivial, ?_⟩; rw [show (Fence.wide.inRound l).round = some l from rfl, Oper.semAt_some l _ o (qGX hd ho)]; rcases h with h | ⟨_, a', w', h⟩
   ·exact qKK _ h
   ·exact (hL a' w' h).elim
  ·next hw =>
   rw [if_neg hw] at h; exact ⟨fun _ _ => trivial, h⟩
theorem qFD (hd : qEU ops = true) (hL : ∀ a w, ¬ Q .outgrown a w) : ∀ (fuel : Nat) (listed : Array Bool) (a : Act) (w : World), wpAny P md ops Q fuel listed a w -> wpAnyIn (Fence.wide.inRound l) n P md ops Q fuel listed a w
 | 0, _, _, _, h => h
 | fuel + 1, _, _, _, h => ⟨h.1, fun i hi => wpOpIn_mono (fun a' w' h' => qFD hd hL fuel _ a' w' h') (qKH hd hL (h.2 i hi))⟩
theorem qJR {id : Nat} {a : Act} {w : World} (last : Nat) (S : World -> Prop) (hm : P.follows .mixedOrders = true) (hd : qEU ops = true) (hL : ∀ a w, ¬ Q .outgrown a w) (hS : S w.drew)
 (h : S w.drew -> qBi P .any ops Q S last ops.size (Array.replicate ops.size false) a w.drew) : (Code.region id ops true).wpIn (Fence.wide.inRound l) n P Q a w :=
 wpIn_region_any hm (qFD hd hL _ _ _ _ (qDH _ _ _ _ (h hS)))
end
open Go.RowKit Go.Shelf
attribute [local go_sem] Oper.semAt_some
def qGw (n0 : Nat) (W W' : World) : Prop := W.heap.size <= W'.heap.size /\ ∀ b, n0 <= b -> b < W.heap.size -> W'.heap[b]? = W.heap[b]?
theorem One.up {n0 : Nat} {W W' : World} {b : Nat} {t : TypeId} {v : Value} (h : One W b t v) (hk : qGw n0 W W') (hb : n0 <= b) : One W' b t v := (hk.2 b hb h.lt).trans h
open Go.RowKit Go.Shelf
theorem qHx {w : World} {g : Nat} {t : TypeId} {cs : List Value} (h : qAo w g t cs) : qAo (w.setCells g 0 (List.replicate cs.length (.int .i64 0))) g t (qCT cs.length (fun _ => 0)) := by
 have hlt := h.lt; have key : ∀ (m o : Nat) (cs : List Value) (w : World), qAo w g t cs -> o + m = cs.length -> qAo (w.setCells g o (List.replicate m (.int .i64 0))) g t (cs.take o ++ List.replicate m (.int .i64 0)) := by
  intro m
  induction m with
  | zero => intro o cs w h he; simpa [World.setCells, List.take_of_length_le (show cs.length <= o by omega)] using h
  | succ m ih =>
   intro o cs w h he; rw [List.replicate_succ, World.setCells]; have h1 := ih (o + 1) (cs.set o (.int .i64 0)) _ (h.set o _) (by rw [List.length_set]; omega); have e : (cs.set o (.int .i64 0)).take (o + 1) ++ List.replicate m (Value.int .i64 0) = cs.take o ++ (Value.int .i64 0 :: List.replicate m (Value.int .i64 0)) := by
    rw [List.take_succ_eq_append_getElem (by rw [List.length_set]; omega), List.take_set_of_le (Nat.le_refl _)]; simp
   rw [e] at h1; exact h1
 have := key cs.length 0 cs w h (by omega); have e : qCT cs.length (fun _ => 0) = List.replicate cs.length (.int .i64 0) := by simp [qCT, zv, List.map_const']
 rw [e]; simpa using this
theorem qDX (w : World) (g o : Nat) : ∀ (vs : List Value) (o : Nat) (w : World), qAc (fun b => b = g) w (w.setCells g o vs)
 | [], _, w => qAc.refl _ _
 | v :: r, o, w => ((qAc.refl (fun b => b = g) w).set (p := ⟨g, o, none⟩) rfl v).trans (qDX w g o r (o + 1) _)
theorem qAm (W : World) (l : Nat) (o : Obj) : qAc (fun b => b = l) W (W.putObj l o) :=
 ⟨rfl, rfl, rfl, by rw [World.putObj_size]; exact Nat.le_refl _, fun k hk hn => World.putObj_heap_other hn⟩
theorem qBH {S : Nat -> Prop} {W W' : World} {n0 : Nat} (h : qAc S W W') (hS : ∀ b, n0 <= b -> ¬ S b) : qGw n0 W W' := ⟨h.size, fun b hb hl => h.block b hl (hS b hb)⟩
open Go.RowKit Go.Shelf
attribute [local go_sem] Oper.semAt_some
def qE8 (lt lg : List Amt) (i : Nat) : Int := (ofI lg i : Nat) - (ofI lt i : Nat)
def qER (r : Rul) : List (List Amt) := if 1 < r.of_ then [r.give, r.back] else [r.give]
def qJZ (j : Nat) (r : Rul) : List (Nat × (Nat -> Int)) := if r.spawn then [] else (qER r).map (fun l => (j, qE8 r.take l))
def qH3 : Nat -> List Rul -> List (Nat × (Nat -> Int))
 | _, [] => []
 | j, r :: rs => qJZ j r ++ qH3 (j + 1) rs
def qDD (c : Cat) : List (Nat × (Nat -> Int)) := qH3 0 c.rules
theorem qK8 (c : Cat) (j : Nat) (h : j < c.rules.length) : qH3 j (c.rules.drop j) = qJZ j c.rules[j] ++ qH3 (j + 1) (c.rules.drop (j + 1)) := by
 rw [List.drop_eq_getElem_cons h]; rfl
theorem qF3 : ∀ (rs : List Rul) (j : Nat) (x : Nat × (Nat -> Int)), x ∈ qH3 j rs -> ∃ r ∈ rs, ∃ l ∈ qER r, x.2 = qE8 r.take l /\ r.spawn = false /\ ∃ h : x.1 - j < rs.length, j <= x.1 /\ rs[x.1 - j] = r
 | [], j, x, h => by simp [qH3] at h
 | r :: rs, j, x, h => by
  simp only [qH3, List.mem_append] at h; rcases h with h | h
  ·unfold qJZ at h
   split at h
   ·simp at h
   ·rename_i hs
    obtain ⟨l, hl, rfl⟩ := List.mem_map.1 h; exact ⟨r, by simp, l, hl, rfl, by simpa using hs, by simp, Nat.le_refl _, by simp⟩
  ·obtain ⟨r', h1, l, h2, h3, h4, h5, h6, h7⟩ := qF3 rs (j + 1) x h
   refine ⟨r', by simp [h1], l, h2, h3, h4, by simp; omega, by omega, ?_⟩; have e : x.1 - j = (x.1 - (j + 1)) + 1 := by omega
   simp only [e, List.getElem_cons_succ]; exact h7
def qEg (S L : List (Nat × (Nat -> Int))) (k : Nat) : Prop := k + L.length = S.length /\ ∀ q (h : q < L.length), S[k + q]? = some L[q]
theorem qEg.all (S : List (Nat × (Nat -> Int))) : qEg S S 0 := ⟨by simp, fun q h => by rw [Nat.zero_add, List.getElem?_eq_getElem h]⟩
theorem qEg.skip {S A L : List (Nat × (Nat -> Int))} {k : Nat} (h : qEg S (A ++ L) k) : qEg S L (k + A.length) := by
 obtain ⟨h1, h2⟩ := h; rw [List.length_append] at h1; refine ⟨by omega, fun q hq => ?_⟩; have := h2 (A.length + q) (by rw [List.length_append]; omega); rw [Nat.add_assoc, this, List.getElem_append_right (by omega)]; simp
theorem qEg.at_ {S A L : List (Nat × (Nat -> Int))} {k : Nat} (h : qEg S (A ++ L) k) (q : Nat) (hq : q < A.length) : S[k + q]? = some A[q] := by
 have := h.2 q (by rw [List.length_append]; omega); rw [this, List.getElem_append_left hq]
def qBk (n0 : Nat) (W W' : World) : Prop := W.heap.size <= W'.heap.size /\ ∀ b t cs, n0 <= b -> qAo W b t cs -> (b = n0 \/ t ≠ 3) -> qAo W' b t cs
theorem qGw.keepsT {n0 : Nat} {W W' : World} (h : qGw n0 W W') : qBk n0 W W' := ⟨h.1, fun b _ _ hb hc _ => (h.2 b hb hc.lt).trans hc⟩
structure qPG (n0 l bc : Nat) (wc : World) (vi vr : Value) (c : Cat) (J : Nat -> World -> Prop) (Jx : World -> Prop) : Prop where
 hA : ∀ k W W', J k W -> qAc (fun b => b = n0) W W' -> J k W'
 hC : qBF wc vi vr c
 hw : wc.heap.size <= n0
 hR : ∀ k W, J k W -> n0 <= W.heap.size /\ qCp W bc vi vr /\ Below wc.heap.size wc W
 hb : bc < n0 /\ l < n0
 hY : ∀ (k i : Nat) (f : Nat -> Int) (W : World), (qDD c)[k]? = some (i, f) -> J k W -> qAo W n0 3 (qCT c.items.length f) -> YieldAt Fence.wide 29 Tryz.prog l #[.int .i64 (i : Int), .slice (some ⟨n0, 0, none⟩) c.items.length c.items.length] W fun e W' =>
  ((e = .returned (.bool true) /\ J (k + 1) W') \/ (e = .returned (.bool false) /\ Jx W')) /\ qBk n0 W W'
structure RSt (n0 n g bR : Nat) (os rc : List Value) (J : World -> Prop) (f : Nat -> Int) (W : World) : Prop where
 j : J W
 f : qAo W n0 3 (qCT n f)
 o : qAo W g 52 os
 r : qAo W bR 54 rc
theorem RSt.only {n0 n g bR : Nat} {os rc : List Value} {J : World -> Prop} {f f' : Nat -> Int} {W W' : World} (h : RSt n0 n g bR os rc J f W) (hA : ∀ W W', J W -> qAc (fun b => b = n0) W W' -> J W') (ho : qAc (fun b => b = n0) W W') (hf : qAo W' n0 3 (qCT n f')) (hg : n0 < g) (hr : n0 < bR) (hs : n0 <= W.heap.size) : RSt n0 n g bR os rc J f' W' :=
 ⟨hA W W' h.j ho, hf, h.o.only ho (by omega), h.r.only ho (by omega)⟩
theorem qOx : qKD Tryz.prog 144 52 1 24 := qKD.mk (z := .slice none 0 0) Tryz.underlying144 (by kernel_rfl) rfl (by decide)
theorem qMD (r : Rul) : 1 <= (qER r).length /\ (qER r).length <= 2 := by
 unfold qER
 split <;> simp
theorem qLf (w : World) (e : TypeId) (v : Value) : (w.alloc (.cells #[v] e)).ownsRow w.heap.size e 1 (.slice (some ⟨w.heap.size, 0, none⟩) 1 1) 1 [v] :=
 ⟨by simp, .inr ⟨w.heap.size, 1, #[v], rfl, Nat.le_refl _, heap_alloc_new w _, Nat.le_refl _, by unfold maxLen; omega, by simp, by simp⟩⟩
theorem qCv {l bc : Nat} {vi vr : Value} {c : Cat} {J : Nat -> World -> Prop} {Jx : World -> Prop} (W0 : World) {wc : World} (E : qPG W0.heap.size l bc wc vi vr c J Jx) (hg : qKz c) (hJ : J 0 W0) :
 Calls Tryz.prog 109 #[.func (.yield l) #[] #[], .pointer (some ⟨bc, 0, none⟩)] W0 fun e W' => (∃ v, e = .returned v) /\ (J (qDD c).length W' \/ Jx W') := by
 obtain ⟨hz0, hx0, hc0⟩ := E.hR 0 W0 hJ; obtain ⟨ai, ci, rfl, hi1, hi2⟩ := E.hC.items.form; obtain ⟨ar, cr, rfl, hr1, hr2⟩ := E.hC.rules.form; obtain ⟨n0, hn0⟩ := eX W0.heap.size; rw [hn0] at E; have HE := hZ E; have HG := hZ hg; have hbl := E.hb; have hli := hg.items; have hl1 := hg.some_; have hlr := hg.rules; obtain ⟨w1, hw1⟩ := eX (W0.alloc (.cells (qCT c.items.length (fun _ => 0)).toArray 3)); have hB1 : Below n0 W0 w1 := by rw [<- hw1, <- hn0]; exact aR
 have HF1 : Hid (qAo w1 n0 3 (qCT c.items.length (fun _ => 0))) := hZ (by rw [<- hw1, <- hn0]; exact qAo.new _ _ _); have HJ1 := hZ (E.hA 0 W0 w1 hJ (qAc.of_below (hn0 ▸ hB1))); have hx1 := (E.hR 0 w1 HJ1.o).2.1; have hmk := qK1 c.items.length (by omega) W0; rw [hw1] at hmk; have m0 := hx0.c0; have p1 := hx1.c1; clear hx0 hc0 hJ E hg hB1 hz0 hx1
 go_enter Tryz.func109, Tryz.ntmps109
 go_wp2_with fail
 clear hmk hw1 m0 p1 hn0
 go_loopw [20] (fun i wr => ∃ (j kj : Nat), j <= c.rules.length /\ i = .int .i64 j /\ Hid (J kj wr) /\ Hid (∃ f, qAo wr n0 3 (qCT c.items.length f)) /\ Hid (qEg (qDD c) (qH3 j (c.rules.drop j)) kj)) (fun i _ => c.rules.length - (intOf i).toNat)
 case atStart => exact ⟨0, 0, by omega, rfl, HJ1, hZ ⟨_, HF1.o⟩, hZ (qEg.all _)⟩
 case round =>
  clear HJ1 HF1; obtain ⟨j, kj, hj, rfl, HJ, HFk, HL⟩ := hrel; by_cases hlt : j < c.rules.length
  ·obtain ⟨hsz, hbx, hcat⟩ := HE.o.hR kj wr HJ.o
   obtain ⟨b2, cap2, p, hv2, hb2, hr, hcs0⟩ := qBU.at_ HE.o.hC.rules j hlt; injection hv2 with e1 e2 e3; subst e1; clear e2 e3; have HGR := hZ (HG.o.each c.rules[j] (List.getElem_mem hlt)); have HD := hZ (qK8 c j hlt); have HR := hZ hr; have hcs := hcs0.below hcat hb2; clear hcs0; obtain ⟨c0, c1, c2, c3, c4, c5, c6, c7, c8⟩ := hcs; have i1 : (0 : Int) <= (j : Int) := by omega
   have i2 : (j : Int) < (c.rules.length : Int) := by omega
   have hto := HGR.o.of1; have hto2 := HGR.o.of2; clear hbx hcat hr; generalize c.rules[j] = r at *; obtain ⟨rn, rs, rt, ro, lt, lg, lb⟩ := r; simp only [] at c0 c1 c2 c3 c4 c5 c6 c7 c8 hto hto2; obtain ⟨wx, hwx⟩ := eX (wr.alloc (.cells #[.string ⟨rn.toArray⟩, .bool rs, .int .i64 0, .int .i64 (rt : Int), .int .i64 1, .int .i64 (ro : Int), .slice p.at_ lt.length p.ct, .slice p.ag lg.length p.cg, .slice p.ab lb.length p.cb] 54)); have hBx : Below wr.heap.size wr wx := by rw [<- hwx]; exact aR
   have HRB : Hid (qAo wx wr.heap.size 54 [.string ⟨rn.toArray⟩, .bool rs, .int .i64 0, .int .i64 (rt : Int), .int .i64 1, .int .i64 (ro : Int), .slice p.at_ lt.length p.ct, .slice p.ag lg.length p.cg, .slice p.ab lb.length p.cb]) := hZ (by rw [<- hwx]; exact qAo.new _ _ _); have HJx := hZ (HE.o.hA kj wr wx HJ.o (qAc.of_below hBx)); have HFx : Hid (∃ f, qAo wx n0 3 (qCT c.items.length f)) := hZ (by
    obtain ⟨f, hf⟩ := HFk.o; exact ⟨f, hf.below hBx hf.lt⟩)
   have hlx : wr.heap.size < wx.heap.size := HRB.o.lt; have d1 := HRB.o.cell 1; have d4 := HRB.o.cell 4; have d5 := HRB.o.cell 5; have d6 := HRB.o.cell 6; have d7 := HRB.o.cell 7; have d8 := HRB.o.cell 8; simp only [List.getElem?_cons_succ, List.getElem?_cons_zero] at d1 d4 d5 d6 d7 d8; have hn0r : n0 < wr.heap.size := by obtain ⟨f, hf⟩ := HFk.o; exact hf.lt
   cases rs with
   | true =>
    have HL2 : Hid (qEg (qDD c) (qH3 (j + 1) (c.rules.drop (j + 1))) kj) := hZ (by have h9 := HL.o; rw [HD.o] at h9; exact h9); clear hBx HD HL
    go_wp2_with fail
    go_roundw
    case rel => exact ⟨j + 1, kj, by omega, by go_num, HJx, HFx, HL2⟩
    case measure => simp [intOf]; omega
   | false =>
    by_cases hof : 1 < ro
    ·have q1 : decide ((1 : Int) < (ro : Int)) = true := decide_eq_true (by omega)
     have q2 : decide (1 < ro) = true := decide_eq_true hof; have HO : Hid ((wx.alloc (.cells #[.slice p.ag lg.length p.cg] 52)).ownsRow wx.heap.size 52 1 (.slice (some ⟨wx.heap.size, 0, none⟩) 1 1) 1 [.slice p.ag lg.length p.cg]) := hZ (qLf wx 52 (.slice p.ag lg.length p.cg)); have HBA : Hid (Below wx.heap.size wx (wx.alloc (.cells #[.slice p.ag lg.length p.cg] 52))) := hZ aR
     go_wp2_with (at_builtin; refine qHQ (W0 := wx) (B := wx.heap.size) qOx rfl _ _ rfl [.slice p.ab lb.length p.cb] 52 (.slice (some ⟨wx.heap.size, 0, none⟩) 1 1) 1 [.slice p.ag lg.length p.cg] rfl (by show Value.slice (some ⟨wx.heap.size + 1, 0, none⟩) 1 1 = _; simp) rfl (by simp [Value.oneCell']) HO.o HBA.o (by simp) (by omega) (by omega) ?_)
     intro g cap w6 HO6 HB6 HOn6 hcap HAT; obtain ⟨tl, htl⟩ := qHW HO6.o; obtain ⟨os, hos⟩ := eX (([.slice p.ag lg.length p.cg, .slice p.ab lb.length p.cb] : List Value) ++ tl); rw [hos] at htl; have HOut := hZ htl; have hgx : wx.heap.size <= g := by
      rcases HAT.o with h | h
      ·have := HO.o.lt g h; omega
      ·omega
     have HOU : Hid (∀ o, o < 2 -> ∃ oa oc lo, os[o]? = some (.slice oa lo.length oc) /\ Hid (qAE wc (.slice oa lo.length oc) lo) /\ Hid (qBD c.items.length 1000 2 lo) /\ (qDD c)[kj + o]? = some (j, qE8 lt lo)) := hZ (fun o ho => by
      have hl := HL.o; rw [HD.o] at hl; have hr2 : qJZ j ⟨rn, false, rt, ro, lt, lg, lb⟩ = [(j, qE8 lt lg), (j, qE8 lt lb)] := by unfold qJZ qER; simp [hof]
      rw [hr2] at hl
      match o, ho with
      | 0, _ => exact ⟨p.ag, p.cg, lg, by rw [<- hos]; rfl, hZ HR.o.give, hZ HGR.o.give, hl.at_ 0 (by simp)⟩
      | 1, _ => exact ⟨p.ab, p.cb, lb, by rw [<- hos]; rfl, hZ HR.o.back, hZ HGR.o.back, hl.at_ 1 (by simp)⟩)
     have HL2 : Hid (qEg (qDD c) (qH3 (j + 1) (c.rules.drop (j + 1))) (kj + 2)) := hZ (by
      have hl := HL.o; rw [HD.o] at hl; have hr2 : qJZ j ⟨rn, false, rt, ro, lt, lg, lb⟩ = [(j, qE8 lt lg), (j, qE8 lt lb)] := by unfold qJZ qER; simp [hof]
      rw [hr2] at hl; exact hl.skip)
     clear hos htl HO6 HOn6 HAT HO HBA HL HD
     go_wp2_with fail
     have hm2 : 2 <= 2 := by omega
     obtain ⟨wro, rfl⟩ := eY wr; obtain ⟨bR, hbR⟩ := eX wro.heap.size; rw [hbR] at HRB; obtain ⟨rc, hrc⟩ := eX (([.string ⟨rn.toArray⟩, .bool false, .int .i64 0, .int .i64 (rt : Int), .int .i64 1, .int .i64 (ro : Int), .slice p.at_ lt.length p.ct, .slice p.ag lg.length p.cg, .slice p.ab lb.length p.cb] : List Value)); have HRC6 : Hid (rc[6]? = some (.slice p.at_ lt.length p.ct)) := hZ (by rw [<- hrc]; rfl); rw [hrc] at HRB; have HRST : Hid (∃ f, RSt n0 c.items.length g bR os rc (J kj) f w6) := hZ (by
      obtain ⟨f, hf⟩ := HFx.o; exact ⟨f, HE.o.hA kj wx w6 HJx.o (qAc.of_below HB6.o), hf.below HB6.o hf.lt, HOut.o, HRB.o.below HB6.o HRB.o.lt⟩)
     rw [hbR]; have hbRn : n0 < bR := by omega
     have hgn : n0 < g := by omega
     clear hbR hrc HRB HOut HB6 HFx HJx hwx hBx d1 d4 d5 d6 d7 d8
     go_loopw [42] (fun i wr => ∃ o : Nat, o <= 2 /\ i = .int .i64 o /\ Hid (∃ f, RSt n0 c.items.length g bR os rc (J (kj + o)) f wr)) (fun i _ => 2 - (intOf i).toNat)
     case atStart => exact ⟨0, by omega, rfl, HRST⟩
     case round =>
      clear HRST; obtain ⟨o, ho, rfl, HI⟩ := hrel; by_cases hlto : o < 2
      ·obtain ⟨oa, oc, lo, hvo, HAMo, HGLo, hko⟩ := HOU.o o hlto
       have HKO := hZ hko; obtain ⟨ko, hkoe⟩ := eX (kj + o); rw [hkoe] at HI HKO; have HKE : Hid (kj + (o + 1) = ko + 1) := hZ (by omega); obtain ⟨f0, hI⟩ := HI.o; have hszI := (HE.o.hR ko wr hI.j).1; have v0 := hI.o.cell o; rw [hvo] at v0; obtain ⟨W4, hW4⟩ := eX (wr.setCells n0 0 (List.replicate c.items.length (.int .i64 0))); have hO4 : qAc (fun b => b = n0) wr W4 := by rw [<- hW4]; exact qDX wr n0 0 _ 0 wr
       have hbag4 : qAo W4 n0 3 (qCT c.items.length (fun _ => 0)) := by
        have h9 := qHx hI.f; rw [qEv, hW4] at h9; exact h9
       have HQ4 : Hid (RSt n0 c.items.length g bR os rc (J ko) (fun _ => 0) W4) := hZ (hI.only (HE.o.hA ko) hO4 hbag4 hgn hbRn hszI); have hclear : ∀ ty, (Builtin.clear_ #[22] ty #[.slice (some ⟨n0, 0, none⟩) c.items.length c.items.length]).run Tryz.prog wr = .ok (.tuple #[]) W4 := fun ty => by
        rw [<- hW4]; exact Lib.run_clear_slice wr 22 3 ty (.int .i64 0) Tryz.underlying22 qNM rfl rfl n0 0 c.items.length c.items.length (by omega) (fun q hq => by rw [Nat.zero_add, hI.f.cell, List.getElem?_eq_getElem (by rw [qEv]; exact hq)]; rfl) (fun q hq => hI.f.frozen _)
       have j1 : (0 : Int) <= (o : Int) := by omega
       have j2 : (o : Int) < (2 : Int) := by omega
       have jq : decide ((o : Int) < (2 : Int)) = true := decide_eq_true (by omega); clear hI HI hko hkoe hvo hO4 hbag4 hW4 hszI
       go_wp2_with fail
       clear hclear v0 j1 j2 jq; have hlo := HGLo.o.len; obtain ⟨wo4, rfl⟩ := eY wr
       go_loopw [49] (fun i wr => ∃ k : Nat, k <= lo.length /\ i = .int .i64 k /\ Hid (RSt n0 c.items.length g bR os rc (J ko) (fun i => (0 : Int) + ((ofI (lo.take k) i : Nat) : Int)) wr)) (fun i _ => lo.length - (intOf i).toNat)
       case atStart => exact ⟨0, by omega, rfl, hZ (by simpa [qCd] using HQ4.o)⟩
       case round =>
        clear HQ4; obtain ⟨k, hk, rfl, HQ⟩ := hrel; by_cases hlt2 : k < lo.length
        ·have hJz := HE.o.hR ko wr HQ.o.j
         have hsz3 := hJz.1; have hams := HAMo.o.below hJz.2.2; obtain ⟨b3, cap3, hv3, hb3, y0, y1⟩ := qAE.at_ hams k hlt2; injection hv3 with e1 e2 e3; clear e2 e3; have hit := HGLo.o.all lo[k] (List.getElem_mem hlt2); have HST := hZ (qHa lo k hlt2 (fun _ => (0 : Int))); have hol := qCl HGLo.o lo[k].item; have hol2 := qBn lo k lo[k].item; have hbd : True := trivial; generalize lo[k] = x at *; obtain ⟨xi, xn⟩ := x
         try simp only [] at hit hol hol2 y0 y1 HST hbd
         obtain ⟨z, hz⟩ := eX ((0 : Int) + ((ofI (lo.take k) xi : Nat) : Int)); have hzl : -100000000 <= z /\ z <= 100000000 := by omega
         have hgl := HQ.o.f.lt; have y2 := HQ.o.f.cell xi; rw [qFk _ _ _ hit.1] at y2
         try simp only [] at y2
         rw [hz] at y2; have y3 := HQ.o.f.frozen xi; rw [hz] at HST; have hgne : n0 ≠ wr.heap.size := by omega
         have i1 : (0 : Int) <= (xi : Int) := by omega
         have i2 : (xi : Int) < (c.items.length : Int) := by omega
         have HE1 := hZ e1; clear hz hol hol2 e1 hJz hams hbd; rw [HE1.o]
         go_wp2_with fail
         go_region
         go_wp2_with fail
         go_roundw
         case rel =>
          refine ⟨k + 1, by omega, by go_num, hZ ?_⟩; refine HQ.o.only (HE.o.hA ko) ((((qAc.refl (fun b => b = n0) wr).set (p := ⟨n0, xi, none⟩) rfl _).alloc _).drew) ?_ hgn hbRn hsz3; rw [<- HST.o, <- qEu]; exact ((HQ.o.f.set xi _).alloc _).drew
         case measure => simp [intOf]; omega
        ·have HQ5 : Hid (RSt n0 c.items.length g bR os rc (J ko) (fun i => (0 : Int) + ((ofI lo i : Nat) : Int)) wr) := hZ (by
          have h9 := HQ.o; rw [List.take_of_length_le (show lo.length <= k by omega)] at h9; exact h9)
         have z6 := HQ5.o.r.cell 6; rw [HRC6.o] at z6; have hlt5 := HGR.o.take.len
         try simp only [] at hlt5
         clear HQ
         go_wp2_with fail
         clear z6; obtain ⟨wo5, rfl⟩ := eY wr; have HAMt := hZ HR.o.take; have HGLt := hZ HGR.o.take
         try simp only [] at HAMt HGLt
         go_loopw [66] (fun i wr => ∃ k : Nat, k <= lt.length /\ i = .int .i64 k /\ Hid (RSt n0 c.items.length g bR os rc (J ko) (fun i => (0 : Int) + ((ofI lo i : Nat) : Int) - ((ofI (lt.take k) i : Nat) : Int)) wr)) (fun i _ => lt.length - (intOf i).toNat)
         case atStart => exact ⟨0, by omega, rfl, hZ (by simpa [qCd] using HQ5.o)⟩
         case round =>
          clear HQ5; obtain ⟨k, hk, rfl, HQ⟩ := hrel; by_cases hlt2 : k < lt.length
          ·have hJz := HE.o.hR ko wr HQ.o.j
           have hsz3 := hJz.1; have hams := HAMt.o.below hJz.2.2; obtain ⟨b3, cap3, hv3, hb3, y0, y1⟩ := qAE.at_ hams k hlt2; injection hv3 with e1 e2 e3; clear e2 e3; have hit := HGLt.o.all lt[k] (List.getElem_mem hlt2); have HST := hZ (qGG lt k hlt2 (fun i => (0 : Int) + ((ofI lo i : Nat) : Int))); have hol := qCl HGLt.o lt[k].item; have hol2 := qBn lt k lt[k].item; have hbd := qCl HGLo.o lt[k].item; generalize lt[k] = x at *; obtain ⟨xi, xn⟩ := x
           try simp only [] at hit hol hol2 y0 y1 HST hbd
           obtain ⟨z, hz⟩ := eX ((0 : Int) + ((ofI lo xi : Nat) : Int) - ((ofI (lt.take k) xi : Nat) : Int)); have hzl : -100000000 <= z /\ z <= 100000000 := by omega
           have hgl := HQ.o.f.lt; have y2 := HQ.o.f.cell xi; rw [qFk _ _ _ hit.1] at y2
           try simp only [] at y2
           rw [hz] at y2; have y3 := HQ.o.f.frozen xi; rw [hz] at HST; have hgne : n0 ≠ wr.heap.size := by omega
           have i1 : (0 : Int) <= (xi : Int) := by omega
           have i2 : (xi : Int) < (c.items.length : Int) := by omega
           have HE1 := hZ e1; clear hz hol hol2 e1 hJz hams hbd; rw [HE1.o]
           go_wp2_with fail
           go_region
           go_wp2_with fail
           go_roundw
           case rel =>
            refine ⟨k + 1, by omega, by go_num, hZ ?_⟩; refine HQ.o.only (HE.o.hA ko) ((((qAc.refl (fun b => b = n0) wr).set (p := ⟨n0, xi, none⟩) rfl _).alloc _).drew) ?_ hgn hbRn hsz3; rw [<- HST.o, <- qEu]; exact ((HQ.o.f.set xi _).alloc _).drew
           case measure => simp [intOf]; omega
          ·have HQ6 : Hid (RSt n0 c.items.length g bR os rc (J ko) (qE8 lt lo) wr) := hZ (by
            have h9 := HQ.o; rw [List.take_of_length_le (show lt.length <= k by omega)] at h9; have e : (fun i => (0 : Int) + ((ofI lo i : Nat) : Int) - ((ofI lt i : Nat) : Int)) = qE8 lt lo := by funext i; unfold qE8; omega
            rw [e] at h9; exact h9)
           obtain ⟨fn, tmps, assign, body, hyy, hRR⟩ := HE.o.hY ko j (qE8 lt lo) wr HKO.o HQ6.o.j HQ6.o.f; have HRR := hZ hRR; clear HQ hRR; refine (wpIn_wide (n := 30)).1 ?_
           gi_wp2
           refine (wpIn_wide (n := 30)).1 ?_
           repeat (first | go_values | gi_guarded | gi_step | gi_upon)
           refine HRR.o.mono ?_; rintro e W3 ⟨⟨rfl, hj⟩ | ⟨rfl, hj⟩, hK⟩
           ·have HR3 : Hid (∃ f, RSt n0 c.items.length g bR os rc (J (kj + (o + 1))) f W3) := hZ (by
             rw [HKE.o]; exact ⟨_, hj, hK.2 _ _ _ (Nat.le_refl _) HQ6.o.f (.inl rfl), hK.2 _ _ _ (by omega) HQ6.o.o (.inr (by decide)), hK.2 _ _ _ (by omega) HQ6.o.r (.inr (by decide))⟩)
            clear hj hK HQ6 hyy HRR HKO HKE; simp only []
            repeat (first | go_values | gi_guarded | gi_step | gi_upon)
            go_wp2_with fail
            go_roundw
            case rel => exact ⟨o + 1, by omega, by go_num, HR3⟩
            case measure => simp [intOf]; omega
           ·simp only []
            repeat (first | go_values | gi_guarded | gi_step | gi_upon)
            exact bodyPost_ret (results_none rfl _ _ _) rfl ⟨⟨_, rfl⟩, .inr hj⟩
      ·obtain rfl : o = 2 := by omega
       have HJ9 : Hid (J (kj + 2) wr) := hZ (by obtain ⟨f, hf⟩ := HI.o; exact hf.j); have HF9 : Hid (∃ f, qAo wr n0 3 (qCT c.items.length f)) := hZ (by obtain ⟨f, hf⟩ := HI.o; exact ⟨f, hf.f⟩); clear HI HOU
       go_wp2_with fail
       go_roundw
       case rel => exact ⟨j + 1, kj + 2, by omega, by go_num, HJ9, HF9, HL2⟩
       case measure => simp [intOf]; omega
    ·have q1 : decide ((1 : Int) < (ro : Int)) = false := decide_eq_false (by omega)
     have q2 : decide (1 < ro) = false := decide_eq_false hof; obtain ⟨w6, hw6⟩ := eX (wx.alloc (.cells #[.slice p.ag lg.length p.cg] 52)); have HB6 : Hid (Below wx.heap.size wx w6) := hZ (by rw [<- hw6]; exact aR); obtain ⟨os, hos⟩ := eX (([.slice p.ag lg.length p.cg] : List Value)); have HOut : Hid (qAo w6 wx.heap.size 52 os) := hZ (by rw [<- hw6, <- hos]; exact qAo.new _ _ _); have HOU : Hid (∀ o, o < 1 -> ∃ oa oc lo, os[o]? = some (.slice oa lo.length oc) /\ Hid (qAE wc (.slice oa lo.length oc) lo) /\ Hid (qBD c.items.length 1000 2 lo) /\ (qDD c)[kj + o]? = some (j, qE8 lt lo)) := hZ (fun o ho => by
      have hl := HL.o; rw [HD.o] at hl; have hr2 : qJZ j ⟨rn, false, rt, ro, lt, lg, lb⟩ = [(j, qE8 lt lg)] := by unfold qJZ qER; simp [hof]
      rw [hr2] at hl
      match o, ho with
      | 0, _ => exact ⟨p.ag, p.cg, lg, by rw [<- hos]; rfl, hZ HR.o.give, hZ HGR.o.give, hl.at_ 0 (by simp)⟩)
     have HL2 : Hid (qEg (qDD c) (qH3 (j + 1) (c.rules.drop (j + 1))) (kj + 1)) := hZ (by
      have hl := HL.o; rw [HD.o] at hl; have hr2 : qJZ j ⟨rn, false, rt, ro, lt, lg, lb⟩ = [(j, qE8 lt lg)] := by unfold qJZ qER; simp [hof]
      rw [hr2] at hl; exact hl.skip)
     have hrb6 := HRB.o.below HB6.o HRB.o.lt; have f4 := hrb6.cell 4; have f5 := hrb6.cell 5; simp only [List.getElem?_cons_succ, List.getElem?_cons_zero] at f4 f5; clear hos HL HD hrb6
     go_wp2_with fail
     clear hw6 f4 f5; obtain ⟨g, hg⟩ := eX wx.heap.size; have hgx : wx.heap.size <= g := by omega
     rw [hg] at HOut ⊢; clear hg; have hm2 : 1 <= 2 := by omega
     obtain ⟨wro, rfl⟩ := eY wr; obtain ⟨bR, hbR⟩ := eX wro.heap.size; rw [hbR] at HRB; obtain ⟨rc, hrc⟩ := eX (([.string ⟨rn.toArray⟩, .bool false, .int .i64 0, .int .i64 (rt : Int), .int .i64 1, .int .i64 (ro : Int), .slice p.at_ lt.length p.ct, .slice p.ag lg.length p.cg, .slice p.ab lb.length p.cb] : List Value)); have HRC6 : Hid (rc[6]? = some (.slice p.at_ lt.length p.ct)) := hZ (by rw [<- hrc]; rfl); rw [hrc] at HRB; have HRST : Hid (∃ f, RSt n0 c.items.length g bR os rc (J kj) f w6) := hZ (by
      obtain ⟨f, hf⟩ := HFx.o; exact ⟨f, HE.o.hA kj wx w6 HJx.o (qAc.of_below HB6.o), hf.below HB6.o hf.lt, HOut.o, HRB.o.below HB6.o HRB.o.lt⟩)
     rw [hbR]; have hbRn : n0 < bR := by omega
     have hgn : n0 < g := by omega
     clear hbR hrc HRB HOut HB6 HFx HJx hwx hBx d1 d4 d5 d6 d7 d8
     go_loopw [42] (fun i wr => ∃ o : Nat, o <= 1 /\ i = .int .i64 o /\ Hid (∃ f, RSt n0 c.items.length g bR os rc (J (kj + o)) f wr)) (fun i _ => 1 - (intOf i).toNat)
     case atStart => exact ⟨0, by omega, rfl, HRST⟩
     case round =>
      clear HRST; obtain ⟨o, ho, rfl, HI⟩ := hrel; by_cases hlto : o < 1
      ·obtain ⟨oa, oc, lo, hvo, HAMo, HGLo, hko⟩ := HOU.o o hlto
       have HKO := hZ hko; obtain ⟨ko, hkoe⟩ := eX (kj + o); rw [hkoe] at HI HKO; have HKE : Hid (kj + (o + 1) = ko + 1) := hZ (by omega); obtain ⟨f0, hI⟩ := HI.o; have hszI := (HE.o.hR ko wr hI.j).1; have v0 := hI.o.cell o; rw [hvo] at v0; obtain ⟨W4, hW4⟩ := eX (wr.setCells n0 0 (List.replicate c.items.length (.int .i64 0))); have hO4 : qAc (fun b => b = n0) wr W4 := by rw [<- hW4]; exact qDX wr n0 0 _ 0 wr
       have hbag4 : qAo W4 n0 3 (qCT c.items.length (fun _ => 0)) := by
        have h9 := qHx hI.f; rw [qEv, hW4] at h9; exact h9
       have HQ4 : Hid (RSt n0 c.items.length g bR os rc (J ko) (fun _ => 0) W4) := hZ (hI.only (HE.o.hA ko) hO4 hbag4 hgn hbRn hszI); have hclear : ∀ ty, (Builtin.clear_ #[22] ty #[.slice (some ⟨n0, 0, none⟩) c.items.length c.items.length]).run Tryz.prog wr = .ok (.tuple #[]) W4 := fun ty => by
        rw [<- hW4]; exact Lib.run_clear_slice wr 22 3 ty (.int .i64 0) Tryz.underlying22 qNM rfl rfl n0 0 c.items.length c.items.length (by omega) (fun q hq => by rw [Nat.zero_add, hI.f.cell, List.getElem?_eq_getElem (by rw [qEv]; exact hq)]; rfl) (fun q hq => hI.f.frozen _)
       have j1 : (0 : Int) <= (o : Int) := by omega
       have j2 : (o : Int) < (1 : Int) := by omega
       have jq : decide ((o : Int) < (1 : Int)) = true := decide_eq_true (by omega); clear hI HI hko hkoe hvo hO4 hbag4 hW4 hszI
       go_wp2_with fail
       clear hclear v0 j1 j2 jq; have hlo := HGLo.o.len; obtain ⟨wo4, rfl⟩ := eY wr
       go_loopw [49] (fun i wr => ∃ k : Nat, k <= lo.length /\ i = .int .i64 k /\ Hid (RSt n0 c.items.length g bR os rc (J ko) (fun i => (0 : Int) + ((ofI (lo.take k) i : Nat) : Int)) wr)) (fun i _ => lo.length - (intOf i).toNat)
       case atStart => exact ⟨0, by omega, rfl, hZ (by simpa [qCd] using HQ4.o)⟩
       case round =>
        clear HQ4; obtain ⟨k, hk, rfl, HQ⟩ := hrel; by_cases hlt2 : k < lo.length
        ·have hJz := HE.o.hR ko wr HQ.o.j
         have hsz3 := hJz.1; have hams := HAMo.o.below hJz.2.2; obtain ⟨b3, cap3, hv3, hb3, y0, y1⟩ := qAE.at_ hams k hlt2; injection hv3 with e1 e2 e3; clear e2 e3; have hit := HGLo.o.all lo[k] (List.getElem_mem hlt2); have HST := hZ (qHa lo k hlt2 (fun _ => (0 : Int))); have hol := qCl HGLo.o lo[k].item; have hol2 := qBn lo k lo[k].item; have hbd : True := trivial; generalize lo[k] = x at *; obtain ⟨xi, xn⟩ := x
         try simp only [] at hit hol hol2 y0 y1 HST hbd
         obtain ⟨z, hz⟩ := eX ((0 : Int) + ((ofI (lo.take k) xi : Nat) : Int)); have hzl : -100000000 <= z /\ z <= 100000000 := by omega
         have hgl := HQ.o.f.lt; have y2 := HQ.o.f.cell xi; rw [qFk _ _ _ hit.1] at y2
         try simp only [] at y2
         rw [hz] at y2; have y3 := HQ.o.f.frozen xi; rw [hz] at HST; have hgne : n0 ≠ wr.heap.size := by omega
         have i1 : (0 : Int) <= (xi : Int) := by omega
         have i2 : (xi : Int) < (c.items.length : Int) := by omega
         have HE1 := hZ e1; clear hz hol hol2 e1 hJz hams hbd; rw [HE1.o]
         go_wp2_with fail
         go_region
         go_wp2_with fail
         go_roundw
         case rel =>
          refine ⟨k + 1, by omega, by go_num, hZ ?_⟩; refine HQ.o.only (HE.o.hA ko) ((((qAc.refl (fun b => b = n0) wr).set (p := ⟨n0, xi, none⟩) rfl _).alloc _).drew) ?_ hgn hbRn hsz3; rw [<- HST.o, <- qEu]; exact ((HQ.o.f.set xi _).alloc _).drew
         case measure => simp [intOf]; omega
        ·have HQ5 : Hid (RSt n0 c.items.length g bR os rc (J ko) (fun i => (0 : Int) + ((ofI lo i : Nat) : Int)) wr) := hZ (by
          have h9 := HQ.o; rw [List.take_of_length_le (show lo.length <= k by omega)] at h9; exact h9)
         have z6 := HQ5.o.r.cell 6; rw [HRC6.o] at z6; have hlt5 := HGR.o.take.len
         try simp only [] at hlt5
         clear HQ
         go_wp2_with fail
         clear z6; obtain ⟨wo5, rfl⟩ := eY wr; have HAMt := hZ HR.o.take; have HGLt := hZ HGR.o.take
         try simp only [] at HAMt HGLt
         go_loopw [66] (fun i wr => ∃ k : Nat, k <= lt.length /\ i = .int .i64 k /\ Hid (RSt n0 c.items.length g bR os rc (J ko) (fun i => (0 : Int) + ((ofI lo i : Nat) : Int) - ((ofI (lt.take k) i : Nat) : Int)) wr)) (fun i _ => lt.length - (intOf i).toNat)
         case atStart => exact ⟨0, by omega, rfl, hZ (by simpa [qCd] using HQ5.o)⟩
         case round =>
          clear HQ5; obtain ⟨k, hk, rfl, HQ⟩ := hrel; by_cases hlt2 : k < lt.length
          ·have hJz := HE.o.hR ko wr HQ.o.j
           have hsz3 := hJz.1; have hams := HAMt.o.below hJz.2.2; obtain ⟨b3, cap3, hv3, hb3, y0, y1⟩ := qAE.at_ hams k hlt2; injection hv3 with e1 e2 e3; clear e2 e3; have hit := HGLt.o.all lt[k] (List.getElem_mem hlt2); have HST := hZ (qGG lt k hlt2 (fun i => (0 : Int) + ((ofI lo i : Nat) : Int))); have hol := qCl HGLt.o lt[k].item; have hol2 := qBn lt k lt[k].item; have hbd := qCl HGLo.o lt[k].item; generalize lt[k] = x at *; obtain ⟨xi, xn⟩ := x
           try simp only [] at hit hol hol2 y0 y1 HST hbd
           obtain ⟨z, hz⟩ := eX ((0 : Int) + ((ofI lo xi : Nat) : Int) - ((ofI (lt.take k) xi : Nat) : Int)); have hzl : -100000000 <= z /\ z <= 100000000 := by omega
           have hgl := HQ.o.f.lt; have y2 := HQ.o.f.cell xi; rw [qFk _ _ _ hit.1] at y2
           try simp only [] at y2
           rw [hz] at y2; have y3 := HQ.o.f.frozen xi; rw [hz] at HST; have hgne : n0 ≠ wr.heap.size := by omega
           have i1 : (0 : Int) <= (xi : Int) := by omega
           have i2 : (xi : Int) < (c.items.length : Int) := by omega
           have HE1 := hZ e1; clear hz hol hol2 e1 hJz hams hbd; rw [HE1.o]
           go_wp2_with fail
           go_region
           go_wp2_with fail
           go_roundw
           case rel =>
            refine ⟨k + 1, by omega, by go_num, hZ ?_⟩; refine HQ.o.only (HE.o.hA ko) ((((qAc.refl (fun b => b = n0) wr).set (p := ⟨n0, xi, none⟩) rfl _).alloc _).drew) ?_ hgn hbRn hsz3; rw [<- HST.o, <- qEu]; exact ((HQ.o.f.set xi _).alloc _).drew
           case measure => simp [intOf]; omega
          ·have HQ6 : Hid (RSt n0 c.items.length g bR os rc (J ko) (qE8 lt lo) wr) := hZ (by
            have h9 := HQ.o; rw [List.take_of_length_le (show lt.length <= k by omega)] at h9; have e : (fun i => (0 : Int) + ((ofI lo i : Nat) : Int) - ((ofI lt i : Nat) : Int)) = qE8 lt lo := by funext i; unfold qE8; omega
            rw [e] at h9; exact h9)
           obtain ⟨fn, tmps, assign, body, hyy, hRR⟩ := HE.o.hY ko j (qE8 lt lo) wr HKO.o HQ6.o.j HQ6.o.f; have HRR := hZ hRR; clear HQ hRR; refine (wpIn_wide (n := 30)).1 ?_
           gi_wp2
           refine (wpIn_wide (n := 30)).1 ?_
           repeat (first | go_values | gi_guarded | gi_step | gi_upon)
           refine HRR.o.mono ?_; rintro e W3 ⟨⟨rfl, hj⟩ | ⟨rfl, hj⟩, hK⟩
           ·have HR3 : Hid (∃ f, RSt n0 c.items.length g bR os rc (J (kj + (o + 1))) f W3) := hZ (by
             rw [HKE.o]; exact ⟨_, hj, hK.2 _ _ _ (Nat.le_refl _) HQ6.o.f (.inl rfl), hK.2 _ _ _ (by omega) HQ6.o.o (.inr (by decide)), hK.2 _ _ _ (by omega) HQ6.o.r (.inr (by decide))⟩)
            clear hj hK HQ6 hyy HRR HKO HKE; simp only []
            repeat (first | go_values | gi_guarded | gi_step | gi_upon)
            go_wp2_with fail
            go_roundw
            case rel => exact ⟨o + 1, by omega, by go_num, HR3⟩
            case measure => simp [intOf]; omega
           ·simp only []
            repeat (first | go_values | gi_guarded | gi_step | gi_upon)
            exact bodyPost_ret (results_none rfl _ _ _) rfl ⟨⟨_, rfl⟩, .inr hj⟩
      ·obtain rfl : o = 1 := by omega
       have HJ9 : Hid (J (kj + 1) wr) := hZ (by obtain ⟨f, hf⟩ := HI.o; exact hf.j); have HF9 : Hid (∃ f, qAo wr n0 3 (qCT c.items.length f)) := hZ (by obtain ⟨f, hf⟩ := HI.o; exact ⟨f, hf.f⟩); clear HI HOU
       go_wp2_with fail
       go_roundw
       case rel => exact ⟨j + 1, kj + 1, by omega, by go_num, HJ9, HF9, HL2⟩
       case measure => simp [intOf]; omega
  ·have HJ9 : Hid (J (qDD c).length wr) := hZ (by
    have h9 := HL.o.1; rw [List.drop_of_length_le (show c.rules.length <= j by omega)] at h9; have h8 := HJ.o; have e : kj = (qDD c).length := by simpa [qH3] using h9
    rw [e] at h8; exact h8)
   clear HJ HL HFk
   go_wp2_with fail
   go_end0
   exact ⟨⟨_, rfl⟩, .inl HJ9.o⟩
theorem qC4 (a1 a2 : Option Addr) (n1 c1 n2 c2 : Nat) (w : World) : Calls Tryz.prog 45 #[.agg #[.slice a1 n1 c1, .slice a2 n2 c2, .slice none 0 0, .slice none 0 0]] w fun e w' => e = .returned (.func (.func 109) #[] #[.pointer (some ⟨w.heap.size, 0, none⟩)]) /\ w.alloc (.cells #[.slice a1 n1 c1, .slice a2 n2 c2, .slice none 0 0, .slice none 0 0] 28) = w' := by
 go_enter Tryz.func45, Tryz.ntmps45
 go_wp2_with fail
 go_ret; exact ⟨rfl, rfl⟩
theorem qAo.onlyT {w w' : World} {base m k g : Nat} {t e : TypeId} {v : Value} {us cs : List Value} (hb : qAo w g t cs) (hv : w.ownsRow base e k v m us) (ht : t ≠ e) (ho : qAc (fun b => v.ownBlock = some b) w w') : qAo w' g t cs := by
 refine (ho.block _ hb.lt (fun e9 => ?_)).trans hb; rcases hv.2 with ⟨hv', _⟩ | ⟨g', cap, cur, hv', _, hh, _⟩
 ·rw [hv'] at e9; cases e9
 ·rw [hv'] at e9
  simp only [Value.ownBlock, Option.some.injEq] at e9; subst e9; unfold qAo at hb; rw [hb] at hh; injection hh with hh; injection hh with _ hh _; exact ht hh
def topE : Int := 466560000000
section
variable {m H K : List (List Int)}
theorem qNP {r : List Int} {x : Int} (h : x ∈ r) : ∃ j, vec r j = x := by
 obtain ⟨j, hj, rfl⟩ := List.mem_iff_getElem.1 h; exact ⟨j, qAp hj⟩
theorem qOC {n : Nat} (h : ∀ r ∈ H, r.length = n) : ∀ r ∈ H, r.length = qEb H := by
 intro r hr; unfold qEb; cases H with
 | nil => cases hr
 | cons a H => rw [h r hr]; simpa using (h a (by simp)).symm
end
def qFx (n : Nat) (E : List (Nat -> Int)) : List (List Int) := (List.range n).map (fun i => E.map (fun f => f i))
theorem qCO {n : Nat} {E : List (Nat -> Int)} : (qFx n E).length = n := by simp [qFx]
theorem qEt {n : Nat} {E : List (Nat -> Int)} : ∀ r ∈ qFx n E, r.length = E.length := by
 intro r hr; obtain ⟨i, _, rfl⟩ := List.mem_map.1 hr; simp
theorem qL6 {n : Nat} {E : List (Nat -> Int)} : ∀ r ∈ qFx n E, r.length = qEb (qFx n E) := qOC qEt
theorem qJx {n : Nat} {E : List (Nat -> Int)} {X : Nat} (h : ∀ f ∈ E, ∀ i, i < n -> (f i).natAbs <= X) : ∀ r ∈ qFx n E, ∀ x ∈ r, x.natAbs <= X := by
 intro r hr x hx; obtain ⟨i, hi, rfl⟩ := List.mem_map.1 hr; obtain ⟨f, hf, rfl⟩ := List.mem_map.1 hx; exact h f hf i (List.mem_range.1 hi)
theorem qOh {m K : List (List Int)} (hr : m.length <= 5) (he : ∀ r ∈ m, r.length = qEb m) (hX : ∀ r ∈ m, ∀ x ∈ r, x.natAbs <= 60) (hs : qBA m (K.map vec)) : ∀ r ∈ K, ∀ x ∈ r, -topE <= x /\ x <= topE := by
 intro r hrr x hx; obtain ⟨j, rfl⟩ := qNP hx; have := (hs.norm he).bound (K := 5) (X := 60) (qIk he) (by rw [qAn]; exact hr) (by omega) (qKg (by omega) hX) (vec r) (List.mem_map.2 ⟨r, hrr, rfl⟩) j; have e : 5 * (fac 5 * 60 ^ 5) = 466560000000 := by decide
 rw [e] at this; unfold topE; omega
structure qGx (n : Nat) (E : List (Nat -> Int)) (K : List (List Int)) : Prop where
 ker : qBA (qFx n E) (K.map vec)
 row : ∀ r ∈ K, r.length = n
 len : K.length <= n
 top : ∀ r ∈ K, ∀ x ∈ r, -topE <= x /\ x <= topE
section
variable {n : Nat} {E E' : List (Nat -> Int)} {K K' : List (List Int)}
theorem qGx.uniq (h : qGx n E K) (h' : qGx n E K') : K = K' := qEX h.row h'.row (h.ker.uniq h'.ker)
end
def qDW (c : Cat) : List (Nat -> Int) := (qDD c).map (fun x => x.2)
def xV (x : Yw) (r : List Int) : Value := .slice x.1 r.length x.2
theorem qOV (l : List Yw) (M : List (List Int)) (i : Nat) (x : Yw) (r : List Int) (h : i < l.length) (h' : i < M.length) : List.zipWith xV (l.set i x) (M.set i r) = (List.zipWith xV l M).set i (xV x r) := by
 refine List.ext_getElem (by simp) (fun k h1 h2 => ?_); simp only [List.getElem_zipWith, List.getElem_set]
 split <;> rfl
structure EMt (w : World) (B R : Nat) (l : List Yw) (M : List (List Int)) : Prop where
 len : M.length = l.length
 blk : qAo w R 22 (List.zipWith xV l M)
 row : ∀ i (h : i < l.length) (h' : i < M.length), w.ownsRow B 3 1 (xV l[i] M[i]) M[i].length (M[i].map zv)
 nodup : ∀ i j (h : i < l.length) (h' : j < l.length) (k : i < M.length) (k' : j < M.length) g, i ≠ j -> (xV l[i] M[i]).ownBlock = some g -> (xV l[j] M[j]).ownBlock ≠ some g
section
variable {w w' : World} {B R : Nat} {l : List Yw} {M : List (List Int)}
theorem EMt.only {S : Nat -> Prop} (h : EMt w B R l M) (ho : qAc S w w') (hR : ¬ S R) (hS : ∀ b, S b -> b < B) : EMt w' B R l M :=
 ⟨h.len, h.blk.only ho hR, fun i h1 h2 => ho.own (h.row i h1 h2) (fun b hb hs => by have := ((h.row i h1 h2).lt b hb).1; have := hS b hs; omega), h.nodup⟩
theorem EMt.at_ (h : EMt w B R l M) (i : Nat) (hi : i < l.length) (hi' : i < M.length) : w.cell? ⟨R, i, none⟩ = some (xV l[i] M[i]) := by
 rw [h.blk.cell, List.getElem?_eq_getElem (by simp; omega), List.getElem_zipWith]
theorem EMt.mat (h : EMt w B R l M) (hl : l.length <= 1000) : qBa w (.slice (some ⟨R, 0, none⟩) M.length M.length) M := by
 refine qA1 (k := 1) (xs := M) (css := (List.zipWith xV l M).map (fun v => [v])) (by rw [qBS (fun v => v), List.map_id']; exact h.blk) (fun cs hc => by obtain ⟨_, _, rfl⟩ := List.mem_map.1 hc; rfl) (by simp [h.len]) (fun j h1 h2 => ?_) (Nat.le_refl _) (by have := h.len; omega); have h3 : j < l.length := by rw [<- h.len]; exact h1
 refine ⟨xV l[j] M[j], by simp, ?_⟩; exact qAk.of_own (h.row j h3 h1)
theorem EMt.app (h : EMt w B R l M) {i : Nat} (hi : i < l.length) (hi' : i < M.length) {g cap : Nat} {z : Int} (hRB : R < B)
 (ho : w'.ownsRow B 3 1 (.slice (some ⟨g, 0, none⟩) (M[i].length + 1) cap) (M[i].length + 1) (M[i].map zv ++ [zv z]))
 (hon : qAc (fun b => (xV l[i] M[i]).ownBlock = some b) w w') (hat : (xV l[i] M[i]).ownBlock = some g \/ w.heap.size <= g) :
 EMt (w'.setCell ⟨R, i, none⟩ (.slice (some ⟨g, 0, none⟩) (M[i].length + 1) cap)) B R (l.set i (some ⟨g, 0, none⟩, cap)) (M.set i (M[i] ++ [z])) := by
 have hoR : qAc (fun b => b = R) w' (w'.setCell ⟨R, i, none⟩ (.slice (some ⟨g, 0, none⟩) (M[i].length + 1) cap)) := (qAc.refl (fun b => b = R) w').set (p := ⟨R, i, none⟩) rfl _; have hv : xV (some ⟨g, 0, none⟩, cap) (M[i] ++ [z]) = .slice (some ⟨g, 0, none⟩) (M[i].length + 1) cap := by simp [xV]
 have hb1 : qAo w' R 22 (List.zipWith xV l M) := h.blk.only hon (fun e => by have := ((h.row i hi hi').lt R e).1; omega); have hge : ∀ k (hk : k < l.length) (hk' : k < M.length), k ≠ i -> (xV l[k] M[k]).ownBlock ≠ some g := fun k hk hk' hn e => by
  rcases hat with h1 | h1
  ·exact h.nodup k i hk hi hk' hi' g hn e h1
  ·have := ((h.row k hk hk').lt g e).2; omega
 refine ⟨by simp [h.len], by rw [qOV _ _ _ _ _ hi hi', hv]; exact hb1.set i _, fun k hk hk' => ?_, fun a b ha hb ka kb q hn e1 e2 => ?_⟩
 ·by_cases hki : k = i
  ·subst hki
   simp only [List.getElem_set_self]; rw [hv, List.length_append, List.map_append]; exact hoR.own ho (fun b hb e => by have := (ho.lt b hb).1; omega)
  ·simp only [List.getElem_set_ne (Ne.symm hki)]
   have hk2 : k < l.length := by simpa using hk
   have hk3 : k < M.length := by simpa using hk'
   refine hoR.own (hon.own (h.row k hk2 hk3) (fun b hb e => h.nodup k i hk2 hi hk3 hi' b hki hb e)) (fun b hb e => by have := ((h.row k hk2 hk3).lt b hb).1; omega)
 ·have ha2 : a < l.length := by simpa using ha
  have hb2 : b < l.length := by simpa using hb
  have ka2 : a < M.length := by simpa using ka
  have kb2 : b < M.length := by simpa using kb
  by_cases hai : a = i
  ·subst hai
   simp only [List.getElem_set_self] at e1; simp only [List.getElem_set_ne hn] at e2; rw [hv] at e1; injection e1 with e1; subst e1; exact hge b hb2 kb2 (Ne.symm hn) e2
  ·by_cases hbi : b = i
   ·subst hbi
    simp only [List.getElem_set_self] at e2; simp only [List.getElem_set_ne (Ne.symm hn)] at e1; rw [hv] at e2; injection e2 with e2; subst e2; exact hge a ha2 ka2 hn e1
   ·simp only [List.getElem_set_ne (Ne.symm hai)] at e1
    simp only [List.getElem_set_ne (Ne.symm hbi)] at e2; exact h.nodup a b ha2 hb2 ka2 kb2 q hn e1 e2
theorem EMt.keeps {n0 : Nat} {W0 : World} {R' : Nat} (h : EMt w B R l M) (hk : qBk n0 W0 w) (hB : B = n0 + 1) {i : Nat} (hi : i < l.length) (hi' : i < M.length) (hon : qAc (fun b => (xV l[i] M[i]).ownBlock = some b) w w') : qBk n0 W0 w' := by
 refine ⟨Nat.le_trans hk.1 hon.size, fun b t cs hb hc ht => ?_⟩; have h1 := hk.2 b t cs hb hc ht; rcases ht with rfl | ht
 ·exact h1.only hon (fun e => by have := ((h.row i hi hi').lt b e).1; omega)
 ·exact h1.onlyT (h.row i hi hi') ht hon
theorem qBk.pre {n0 : Nat} {W0 : World} (hk : qBk n0 w w') {S : Nat -> Prop} (ho : qAc S W0 w) (hS : ∀ b, n0 <= b -> ¬ S b) : qBk n0 W0 w' :=
 ⟨Nat.le_trans ho.size hk.1, fun b t cs hb hc ht => hk.2 b t cs hb (hc.only ho (hS b hb)) ht⟩
theorem qBk.set {n0 : Nat} {W0 : World} (hk : qBk n0 W0 w) {S : Nat -> Prop} (ho : qAc S w w') (hS : ∀ b, n0 <= b -> ¬ S b) : qBk n0 W0 w' :=
 ⟨Nat.le_trans hk.1 ho.size, fun b t cs hb hc ht => (hk.2 b t cs hb hc ht).only ho (hS b hb)⟩
end
theorem qJQ {P : Program} {w : World} {ops : Array Oper} {o : Oper} {a : Act} {K : Act -> World -> Prop} {Q : Exit -> Act -> World -> Prop} {E : Prop} {B k bytes : Nat} {t e : TypeId} (hE : qKD P t e k bytes) (hgd : o.guard = none) (s x : Operand)
 (ho : o.op = .call { callee := .builtin .append, args := #[s, x], argTypes := #[t, t] }) (cs : List Value) (g0 : Nat)
 (v : Value) (n : Nat) (xs : List Value) (hs : a.eval s = v) (hx : a.eval x = .slice (some ⟨g0, 0, none⟩) 1 1) (hg0 : qAo w g0 e cs) (hcs : cs.length = k) (h1 : ∀ u ∈ cs, u.oneCell' = true)
 (hown : w.ownsRow B e k v n xs) (hle : B <= w.heap.size) (hn : n <= 1000000000) (hby : bytes <= 1000)
 (h : ∀ g cap w', Hid (w'.ownsRow B e k (.slice (some ⟨g, 0, none⟩) (n + 1) cap) (n + 1) (xs ++ cs)) -> Hid (qAc (fun b => v.ownBlock = some b) w w') -> Hid (v.ownBlock = some g \/ w.heap.size <= g) -> K (a.put o.dst (.slice (some ⟨g, 0, none⟩) (n + 1) cap)) w') :
 if Region.wanted o (yielded ops a.tmps) = true then Oper.wp P o a w K Q else E := by
 obtain ⟨ht, i, z, hi, hz, hsize, hbyt, hzs, hk⟩ := hE; have hcap : (n + 1) * bytes <= 140737488355328 := Nat.le_trans (Nat.mul_le_mul (show n + 1 <= 1000000001 by omega) hby) (by decide); refine step_append_lies w hgd s x t ho B e i z k bytes ht hi hz hsize hbyt hzs hk v n xs hs hown ⟨g0, 0, none⟩ 1 1 cs hx (by rw [Nat.one_mul]; exact hcs) ?_ h1 (by omega) (by unfold maxLen; omega) hcap hle w.heap.size rfl ?_
 ·intro j u hu
  have hadd : (⟨g0, 0, none⟩ : Addr).add j = ⟨g0, j, none⟩ := by unfold Addr.add; split <;> simp_all
  rw [hadd, hg0.cell]; exact hu
 ·intro g cap w' ho' hg hat hlt
  exact h g cap w' (hZ ho') (hZ (qCc hg)) (hZ (hat.imp id (fun e => Nat.le_of_eq e.symm)))
def qFQ (n : Nat) (E : List (Nat -> Int)) (k i : Nat) : List (List Int) := (List.range n).map (fun q => (E.take (if q < i then k + 1 else k)).map (fun f => f q))
theorem qJw {n : Nat} {E : List (Nat -> Int)} {k i : Nat} : (qFQ n E k i).length = n := by simp [qFQ]
theorem qFh {n : Nat} {E : List (Nat -> Int)} {k i q : Nat} (h : q < (qFQ n E k i).length) : (qFQ n E k i)[q] = (E.take (if q < i then k + 1 else k)).map (fun f => f q) := by simp [qFQ]
theorem qL3 (n : Nat) (E : List (Nat -> Int)) (k : Nat) : qFQ n E k 0 = qFx n (E.take k) := by
 unfold qFQ qFx; simp
theorem qL5 (n : Nat) (E : List (Nat -> Int)) (k : Nat) : qFQ n E k n = qFx n (E.take (k + 1)) := by
 unfold qFQ qFx; refine List.map_congr_left (fun q hq => ?_); rw [if_pos (List.mem_range.1 hq)]
theorem qL4 {n : Nat} {E : List (Nat -> Int)} {k i : Nat} (hi : i < (qFQ n E k i).length) (hk : k < E.length) : (qFQ n E k i).set i ((qFQ n E k i)[i] ++ [E[k] i]) = qFQ n E k (i + 1) := by
 refine List.ext_getElem (by simp [qJw]) (fun q h1 h2 => ?_); rw [List.getElem_set]
 split
 ·next e =>
  subst e; rw [qFh, qFh, if_neg (by omega), if_pos (by omega), List.take_succ_eq_append_getElem hk, List.map_append]; rfl
 ·next e =>
  rw [qFh, qFh]; by_cases h : q < i
  ·rw [if_pos h, if_pos (by omega)]
  ·rw [if_neg h, if_neg (by omega)]
theorem qNi {n : Nat} {E : List (Nat -> Int)} {k i : Nat} (hi : i < (qFQ n E k i).length) (hk : k <= E.length) : (qFQ n E k i)[i].length = k := by
 rw [qFh, if_neg (by omega)]; simp [hk]
theorem qK7 : ∀ (rs : List Rul) (j : Nat), (qH3 j rs).length <= 2 * rs.length
 | [], _ => by simp [qH3]
 | r :: rs, j => by
  have := qK7 rs (j + 1); have h2 : (qJZ j r).length <= 2 := by
   unfold qJZ
   split
   ·simp
   ·rw [List.length_map]; exact (qMD r).2
  simp only [qH3, List.length_append, List.length_cons]; omega
theorem qLU {c : Cat} (hg : qKz c) : (qDW c).length <= 44 := by
 have := qK7 c.rules 0; have := hg.rules; unfold qDW qDD; rw [List.length_map]; omega
end Go.Proofs.YtkjhlkngihponaaGreatDoor
