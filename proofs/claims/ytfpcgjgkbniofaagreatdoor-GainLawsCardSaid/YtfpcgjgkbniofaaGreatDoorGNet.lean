/- gain: usable, check, Net, Need, gains. -/
import Derived.Test.YtfpcgjgkbniofaaGreatDoorGPerf
import Derived.Laws.MakeOwn
set_option linter.unusedVariables false
set_option linter.unusedSimpArgs false
namespace Go.Proofs.YtfpcgjgkbniofaaGreatDoor
open Go.RowKit

theorem made_bag (n : Nat) : madeCells (Value.int .i64 0).cells (n * 1) = (bagL n (fun _ => 0)).toArray := by
  apply Array.toList_inj.1
  simp [madeCells, Value.cells, bagL, zv, Nat.mod_one, List.map_const']
theorem run_makeZ (n : Nat) (hn : n ≤ 1000000) (w : World) :
    (Instr.makeSlice 22 (.int .i64 (n : Int)) (.int .i64 (n : Int))).run Tryz.prog w = .ok (.slice (some ⟨w.heap.size, 0, none⟩) n n) (w.alloc (.cells (bagL n (fun _ => 0)).toArray 3)) := by
  obtain ⟨ht, i, z, hi, hz, hsize, hbyt, hzs, hk⟩ := elemInt
  have hz' : z = .int .i64 0 := by
    obtain ⟨i', hi', hz0, hz1, hz2⟩ := info_parts (show (Tryz.prog.info? 3).map (fun i => (i.zero, i.size, i.bytes)) = some (some (.int .i64 0), 1, 8) by kernel_rfl)
    have := Option.some.inj (hi.symm.trans hi')
    subst this
    exact Option.some.inj (hz.symm.trans hz0)
  subst hz'
  have hb : (i.bytes : Int) * (n : Int) ≤ 281474976710656 := by rw [hbyt]; omega
  have hr := run_make (P := Tryz.prog) w 22 3 i _ ht hi hz .i64 .i64 n n (by omega) (by omega) hb (by omega)
  simp only [Int.toNat_natCast, hsize] at hr
  rw [made_bag] at hr
  exact hr

def usB (r : Rul) : Bool := !r.spawn && !r.take.isEmpty
set_option maxHeartbeats 1000000 in
theorem usable_any (r : Rul) (p : Pl) (w : World) (h1 : r.take.length ≤ p.ct ∧ p.ct ≤ 9223372036854775807) : Calls Tryz.prog 40 #[rulV r p] w fun e w' => e = .returned (.bool (usB r)) ∧ Below w.heap.size w w' := by
  obtain ⟨rn, rs, rt, ro, lt, lg, lb⟩ := r
  unfold rulV
  simp only [] at h1 ⊢
  cases rs with
  | true =>
    go_enter Tryz.func40, Tryz.ntmps40
    go_wp2_with fail
    go_ret
    exact ⟨rfl, (Below.refl _ _).alloc (Nat.le_refl _) _⟩
  | false =>
    cases lt with
    | nil =>
      go_enter Tryz.func40, Tryz.ntmps40
      go_wp2_with fail
      go_ret
      exact ⟨rfl, (Below.refl _ _).alloc (Nat.le_refl _) _⟩
    | cons x l =>
      have q1 : decide (0 < ((x :: l).length : Int)) = true := by simp
      have q2 : decide (0 < (x :: l).length) = true := by simp
      have hu : Hid (usB ⟨rn, false, rt, ro, x :: l, lg, lb⟩ = true) := Lib.hid rfl
      have hx : 0 < (x :: l).length := by simp
      generalize x :: l = lt at *
      go_enter Tryz.func40, Tryz.ntmps40
      go_wp2_with fail
      go_ret
      exact ⟨by rw [hu.out]; rfl, (Below.refl _ _).alloc (Nat.le_refl _) _⟩

/-- a catalog that is valid -/
structure Fine (c : Cat) : Prop where
  good : Good c
  named : Named c
  ni : c.items.Nodup
  nr : (c.rules.map (fun x => x.name)).Nodup

/-- the index of a usable rule -/
def usI (c : Cat) (i : Int) : Bool := decide (0 ≤ i) && match c.rules[i.toNat]? with
  | some r => usB r
  | none => false
def checkE (c : Cat) (z : List Int) : Int := if 64 < z.length then 4 else if z.all (usI c) then 0 else 6

set_option maxHeartbeats 2000000 in
theorem check_any (vi vr vs : Value) (c : Cat) (z : List Int) (w : World) (hc : CatAt w vi vr c) (hf : Fine c) (hs : IntsOf w vs z) (hz : ∀ i ∈ z, -9223372036854775808 ≤ i ∧ i ≤ 9223372036854775807) (hK : Kinds w) :
    Calls Tryz.prog 30 #[catV vi vr, vs] w fun e w' => e = .returned (.int .i64 (checkE c z)) ∧ Below w.heap.size w w' := by
  obtain ⟨as_, cs, rfl, hs1, hs2⟩ := hs.form
  have HS := Lib.hid hs
  have HZ := Lib.hid hz
  clear hs hz
  obtain ⟨ai, ci, rfl, hi1, hi2⟩ := hc.items.form
  obtain ⟨ar, cr, rfl, hr1, hr2⟩ := hc.rules.form
  have HC := Lib.hid hc
  have HF := Lib.hid hf
  have HK := Lib.hid hK
  have hli := hf.good.items
  have hlr := hf.good.rules
  clear hc hf hK
  unfold catV
  obtain ⟨w1, hw1⟩ : ∃ w1, w.alloc (.cells #[.slice ai c.items.length ci, .slice ar c.rules.length cr, .slice none 0 0, .slice none 0 0] 28) = w1 := ⟨_, rfl⟩
  have HB : Hid (Below w.heap.size w w1) := Lib.hid (by rw [← hw1]; exact (Below.refl _ _).alloc (Nat.le_refl _) _)
  have HX : Hid (BoxC w1 w.heap.size (.slice ai c.items.length ci) (.slice ar c.rules.length cr)) := Lib.hid (by rw [← hw1]; exact BoxC.new _ _ _)
  have m0 := HX.out.c0
  have m1 := HX.out.c1
  have m2 := HX.out.c2
  have m3 := HX.out.c3
  by_cases h64 : 64 < z.length
  · have HE : Hid (checkE c z = 4) := Lib.hid (by unfold checkE; rw [if_pos h64])
    have q1 : decide (64 < (z.length : Int)) = true := by simp; omega
    go_enter Tryz.func30, Tryz.ntmps30
    go_wp2_with fail
    clear hw1
    refine (valid_good _ _ c w1 (HC.out.below HB.out) HF.out.good HF.out.named HF.out.ni HF.out.nr (HK.out.keep HB.out)).mono ?_
    rintro e w2 ⟨rfl, hB⟩
    have HB := Lib.hid (HB.out.trans (hB.mono HB.out.size))
    have HX := Lib.hid (HX.out.below hB)
    clear hB m0 m1 m2 m3
    have m0 := HX.out.c0
    have m1 := HX.out.c1
    have m2 := HX.out.c2
    have m3 := HX.out.c3
    go_wp2_with fail
    go_ret
    exact ⟨by rw [HE.out]; rfl, HB.out⟩
  · have HE : Hid (checkE c z = if z.all (usI c) then 0 else 6) := Lib.hid (by unfold checkE; rw [if_neg h64])
    have q1 : decide (64 < (z.length : Int)) = false := by simp; omega
    go_enter Tryz.func30, Tryz.ntmps30
    go_wp2_with fail
    clear hw1
    refine (valid_good _ _ c w1 (HC.out.below HB.out) HF.out.good HF.out.named HF.out.ni HF.out.nr (HK.out.keep HB.out)).mono ?_
    rintro e w2 ⟨rfl, hB⟩
    have HB := Lib.hid (HB.out.trans (hB.mono HB.out.size))
    have HX := Lib.hid (HX.out.below hB)
    clear hB m0 m1 m2 m3
    have m0 := HX.out.c0
    have m1 := HX.out.c1
    have m2 := HX.out.c2
    have m3 := HX.out.c3
    go_wp2_with fail
    clear m0 m1 m2 m3
    go_loopw [18] (fun i wr => ∃ j : Nat, j ≤ z.length ∧ i = .int .i64 j ∧ Hid (Below w.heap.size w wr) ∧ Hid (BoxC wr w.heap.size (.slice ai c.items.length ci) (.slice ar c.rules.length cr)) ∧ Hid ((z.take j).all (usI c) = true)) (fun i _ => z.length - (intOf i).toNat)
    case atStart => exact ⟨0, by omega, rfl, HB, HX, Lib.hid (by simp)⟩
    case round =>
      clear HB HX
      obtain ⟨j, hj, rfl, HB, HX, HA⟩ := hrel
      by_cases hlt : j < z.length
      · obtain ⟨b1, cap1, hv1, hb1, n0⟩ := IntsOf.at_ (HS.out.below HB.out) j hlt
        injection hv1 with e1 e2 e3
        subst e1
        clear e2 e3
        have hzj := HZ.out z[j] (List.getElem_mem hlt)
        have HT : Hid ((z.take (j + 1)).all (usI c) = ((z.take j).all (usI c) && usI c z[j])) := Lib.hid (by rw [List.take_succ_eq_append_getElem hlt, List.all_append]; simp)
        have HNo : Hid (usI c z[j] = false → z.all (usI c) = false) := Lib.hid (fun h => by
          rw [Bool.eq_false_iff]
          intro h2
          rw [List.all_eq_true] at h2
          rw [h2 _ (List.getElem_mem hlt)] at h
          cases h)
        have m1 := HX.out.c1
        generalize z[j] = x at *
        by_cases hx0 : x < 0
        · have hu : usI c x = false := by unfold usI; rw [decide_eq_false (by omega)]; rfl
          have HE2 : Hid (checkE c z = 6) := Lib.hid (by rw [HE.out, HNo.out hu]; rfl)
          have q2 : decide (x < 0) = true := by simpa using hx0
          clear hu
          go_wp2_with fail
          go_ret
          exact ⟨by rw [HE2.out]; rfl, HB.out⟩
        · obtain ⟨n, rfl⟩ : ∃ n : Nat, x = (n : Int) := ⟨x.toNat, by omega⟩
          have q2 : decide ((n : Int) < 0) = false := by simp
          by_cases hn : n < c.rules.length
          · have hu : usI c (n : Int) = usB c.rules[n] := by unfold usI; simp [hn]
            rw [hu] at HT HNo
            obtain ⟨b2, cap2, p, hv2, hb2, hr, hcs⟩ := RulesAt.at_ (HC.out.rules.below HB.out) n hn
            injection hv2 with e1 e2 e3
            subst e1
            clear e2 e3 hu
            have q3 : decide ((c.rules.length : Int) ≤ (n : Int)) = false := by simp; omega
            have q4 : decide (c.rules.length ≤ n) = false := by simp; omega
            have HU := Lib.hid (usable_any c.rules[n] p wr hr.t1)
            obtain ⟨z0, z1, z2, z3, z4, z5, z6, z7, z8⟩ := hcs
            unfold rulV at HU
            clear hr
            generalize c.rules[n] = r at *
            by_cases hub : usB r = true
            · rw [hub] at HU HT
              go_wp2_with fail
              refine HU.out.mono ?_
              rintro e w5 ⟨rfl, hB⟩
              have HB := Lib.hid (HB.out.trans (hB.mono HB.out.size))
              have HX := Lib.hid (HX.out.below hB)
              clear hB
              go_wp2_with fail
              go_roundw
              case rel => exact ⟨j + 1, by omega, by go_num, HB, HX, Lib.hid (by rw [HT.out, HA.out]; rfl)⟩
              case measure => simp [intOf]; omega
            · rw [Bool.not_eq_true] at hub
              have HE2 : Hid (checkE c z = 6) := Lib.hid (by rw [HE.out, HNo.out hub]; rfl)
              rw [hub] at HU
              go_wp2_with fail
              refine HU.out.mono ?_
              rintro e w5 ⟨rfl, hB⟩
              have HB := Lib.hid (HB.out.trans (hB.mono HB.out.size))
              clear hB
              go_wp2_with fail
              go_ret
              exact ⟨by rw [HE2.out]; rfl, HB.out⟩
          · have hu : usI c (n : Int) = false := by unfold usI; simp [List.getElem?_eq_none (show c.rules.length ≤ n by omega)]
            have HE2 : Hid (checkE c z = 6) := Lib.hid (by rw [HE.out, HNo.out hu]; rfl)
            have q3 : decide ((c.rules.length : Int) ≤ (n : Int)) = true := by simp; omega
            have q4 : decide (c.rules.length ≤ n) = true := by simp; omega
            clear hu
            go_wp2_with fail
            go_ret
            exact ⟨by rw [HE2.out]; rfl, HB.out⟩
      · have h9 := HA.out
        rw [List.take_of_length_le (show z.length ≤ j by omega)] at h9
        have HE2 : Hid (checkE c z = 0) := Lib.hid (by rw [HE.out, h9]; rfl)
        clear h9
        go_wp2_with fail
        go_ret
        exact ⟨by rw [HE2.out]; rfl, HB.out⟩
end Go.Proofs.YtfpcgjgkbniofaaGreatDoor
