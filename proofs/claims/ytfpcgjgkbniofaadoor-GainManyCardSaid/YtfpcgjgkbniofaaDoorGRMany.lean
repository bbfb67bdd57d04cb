/- ref11.Find: too many usable rules. -/
import Derived.Test.YtfpcgjgkbniofaaDoorGRFind
set_option linter.unusedVariables false
set_option linter.unusedSimpArgs false
namespace Go.Proofs.YtfpcgjgkbniofaaDoor
open Go.RowKit
attribute [local go_sem] Oper.semAt_some

set_option maxRecDepth 100000 in
set_option maxHeartbeats 8000000 in
theorem rfind_many (vi vr : Value) (c : Cat) (most : Nat) (fuel : Int) (w : World) (hc : CatAt w vi vr c) (hf : Fine c) (hm1 : 1 ≤ most) (hm8 : most ≤ 8) (hu16 : 16 < (usL c).length) :
    Calls Tryd.prog 10 #[catV vi vr, .int .i64 (most : Int), .int .i64 fuel] w fun e w' => e = .returned (.tuple #[.agg #[.slice none 0 0, .slice none 0 0, .slice none 0 0], .bool false, .int .i64 4]) ∧ Below w.heap.size w w' := by
  obtain ⟨ai, ci, rfl, hi1, hi2⟩ := hc.items.form
  obtain ⟨ar, cr, rfl, hr1, hr2⟩ := hc.rules.form
  have HC := Lib.hid hc
  have HF := Lib.hid hf
  have hli := hf.good.items
  have hlr := hf.good.rules
  clear hc hf
  unfold catV
  obtain ⟨w1, hw1⟩ : ∃ w1, (w.alloc (.cells #[.slice ai c.items.length ci, .slice ar c.rules.length cr, .slice none 0 0, .slice none 0 0] 29)).alloc (.cells #[.slice none 0 0, .slice none 0 0, .slice none 0 0] 43) = w1 := ⟨_, rfl⟩
  have HB : Hid (Below w.heap.size w w1) := Lib.hid (by rw [← hw1]; exact ((Below.refl _ _).alloc (Nat.le_refl _) _).alloc (by simp) _)
  have HX : Hid (BoxC w1 w.heap.size (.slice ai c.items.length ci) (.slice ar c.rules.length cr)) := Lib.hid (by
    rw [← hw1]
    exact (BoxC.new w _ _).below ((Below.refl _ _).alloc (Nat.le_refl _) _))
  have HR : Hid (BlkC w1 (w.heap.size + 1) 43 [.slice none 0 0, .slice none 0 0, .slice none 0 0]) := Lib.hid (by
    rw [← hw1]
    have h9 := BlkC.new (w.alloc (.cells #[.slice ai c.items.length ci, .slice ar c.rules.length cr, .slice none 0 0, .slice none 0 0] 29)) 43 [.slice none 0 0, .slice none 0 0, .slice none 0 0]
    simpa using h9)
  have m0 := HX.out.c0
  have m1 := HX.out.c1
  have m2 := HX.out.c2
  have m3 := HX.out.c3
  have mlt := HX.out.lt
  have p0 := HR.out.cell 0
  have p1 := HR.out.cell 1
  have p2 := HR.out.cell 2
  have f0 := HR.out.frozen 0
  have f1 := HR.out.frozen 1
  have f2 := HR.out.frozen 2
  have rlt := HR.out.lt
  simp only [List.getElem?_cons_succ, List.getElem?_cons_zero] at p0 p1 p2
  go_enter Tryd.func10, Tryd.ntmps10
  go_wp2_with fail
  clear hw1
  clear m0 m1 m2 m3 mlt p0 p1 p2 f0 f1 f2 rlt
  refine (rvalid_any _ _ c w1 (HC.out.below HB.out) HF.out).mono ?_
  rintro e w2 ⟨rfl, hB⟩
  replace HB := Lib.hid (HB.out.trans ((hB).mono HB.out.size))
  replace HX := Lib.hid (HX.out.below (hB))
  replace HR := Lib.hid (HR.out.below (hB) HR.out.lt)
  clear hB
  have qa : decide ((most : Int) < 1) = false := decide_eq_false (by omega)
  have qb : decide ((8 : Int) < (most : Int)) = false := decide_eq_false (by omega)
  have qb' : decide (8 < most) = false := decide_eq_false (by omega)
  have m0 := HX.out.c0
  have m1 := HX.out.c1
  have m2 := HX.out.c2
  have m3 := HX.out.c3
  have mlt := HX.out.lt
  have p0 := HR.out.cell 0
  have p1 := HR.out.cell 1
  have p2 := HR.out.cell 2
  have f0 := HR.out.frozen 0
  have f1 := HR.out.frozen 1
  have f2 := HR.out.frozen 2
  have rlt := HR.out.lt
  simp only [List.getElem?_cons_succ, List.getElem?_cons_zero] at p0 p1 p2
  go_wp2_with fail
  clear m0 m1 m2 m3 mlt p0 p1 p2 f0 f1 f2 rlt
  refine (usable_ref _ _ c w2 (HC.out.below HB.out) (by omega)).mono ?_
  rintro e w3 ⟨⟨vu, rfl, hu⟩, hB⟩
  obtain ⟨ua, uc, rfl, hu1, hu2⟩ := hu.form
  have HU := Lib.hid hu
  replace HB := Lib.hid (HB.out.trans ((hB).mono HB.out.size))
  replace HX := Lib.hid (HX.out.below (hB))
  replace HR := Lib.hid (HR.out.below (hB) HR.out.lt)
  clear hu hB
  have qc : decide ((16 : Int) < ((usL c).length : Int)) = true := decide_eq_true (by omega)
  have qc' : decide (16 < (usL c).length) = true := decide_eq_true hu16
  obtain ⟨n, hn⟩ : ∃ n, (usL c).length = n := ⟨_, rfl⟩
  rw [hn] at qc qc' hu1 hu16 ⊢
  clear HU hn
  have m0 := HX.out.c0
  have m1 := HX.out.c1
  have m2 := HX.out.c2
  have m3 := HX.out.c3
  have mlt := HX.out.lt
  have p0 := HR.out.cell 0
  have p1 := HR.out.cell 1
  have p2 := HR.out.cell 2
  have f0 := HR.out.frozen 0
  have f1 := HR.out.frozen 1
  have f2 := HR.out.frozen 2
  have rlt := HR.out.lt
  simp only [List.getElem?_cons_succ, List.getElem?_cons_zero] at p0 p1 p2
  go_wp2_with fail
  clear m0 m1 m2 m3 mlt p0 p1 p2 f0 f1 f2 rlt
  obtain ⟨w9, hw9⟩ : ∃ W, ((w3.setCell ⟨w.heap.size + 1, 0, none⟩ (.slice none 0 0)).setCell ⟨w.heap.size + 1, 1, none⟩ (.slice none 0 0)).setCell ⟨w.heap.size + 1, 2, none⟩ (.slice none 0 0) = W := ⟨_, rfl⟩
  have hk9 : BlkC w9 (w.heap.size + 1) 43 [.slice none 0 0, .slice none 0 0, .slice none 0 0] := by rw [← hw9]; exact ((HR.out.set 0 _).set 1 _).set 2 _
  have hO9 : Only (fun b => b = w.heap.size + 1) w3 w9 := by
    rw [← hw9]
    repeat (refine Only.trans ?_ (only_set _ _ _ _))
    exact Only.refl _ _
  have k0 := hk9.cell 0
  have k1 := hk9.cell 1
  have k2 := hk9.cell 2
  simp only [List.getElem?_cons_succ, List.getElem?_cons_zero] at k0 k1 k2
  rw [hw9]
  exact bodyPost_ret (v := .tuple #[.agg #[.slice none 0 0, .slice none 0 0, .slice none 0 0], .bool false, .int .i64 4]) (by simp [results, Tryd.results10, go_sem, k0, k1, k2]) rfl ⟨rfl, hO9.below HB.out HB.out.size (fun k hk => by omega)⟩
end Go.Proofs.YtfpcgjgkbniofaaDoor
