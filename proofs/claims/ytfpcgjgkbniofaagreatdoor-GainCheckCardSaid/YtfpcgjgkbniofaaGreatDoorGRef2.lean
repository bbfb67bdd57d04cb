/- ref11: check, Net, Need. -/
import Derived.Test.YtfpcgjgkbniofaaGreatDoorGValid9
import Derived.Test.YtfpcgjgkbniofaaGreatDoorGRef
set_option linter.unusedVariables false
set_option linter.unusedSimpArgs false
namespace Go.Proofs.YtfpcgjgkbniofaaGreatDoor
open Go.RowKit
attribute [local go_sem] Oper.semAt_some

set_option maxRecDepth 100000 in
set_option maxHeartbeats 1000000 in
theorem of11_any (v : Value) (l : List Amt) (it : Nat) (w : World) (h : AmtsAt w v l) (hl : l.length ≤ 1000) (hn : ∀ a ∈ l, a.n ≤ 1000000) (hi : it ≤ 1000000) :
    Calls Tryz.prog 33 #[v, .int .i64 (it : Int)] w fun e w' => e = .returned (.int .i64 ((ofI l it : Nat) : Int)) ∧ w' = w := by
  obtain ⟨a, cap, rfl, h1, h2⟩ := h.form
  have HL := Lib.hid h
  have HNN := Lib.hid hn
  have HSM := Lib.hid (ofI_bound l it 1000000 hn)
  clear h hn
  go_enter Tryz.func33, Tryz.ntmps33
  go_wp2_with fail
  go_loop [5, 6] (fun s i => ∃ j : Nat, j ≤ l.length ∧ i = .int .i64 j ∧ s = .int .i64 ((ofI (l.take j) it : Nat) : Int)) (fun _ i => l.length - (intOf i).toNat)
  case atStart => exact ⟨0, by omega, rfl, by simp [ofI_nil]⟩
  case round =>
    obtain ⟨j, hj, rfl, rfl⟩ := hrel
    by_cases hlt : j < l.length
    · obtain ⟨b1, cap1, hv1, hb1, y0, y1⟩ := AmtsAt.at_ HL.out j hlt
      injection hv1 with e1 e2 e3
      subst e1
      clear e2 e3
      have hs := HSM.out j (by omega)
      have hx := HNN.out l[j] (List.getElem_mem hlt)
      have HT : Hid (ofI (l.take (j + 1)) it = ofI (l.take j) it + if l[j].item = it then l[j].n else 0) := Lib.hid (by rw [List.take_succ_eq_append_getElem hlt, ofI_append, ofI_cons, ofI_nil]; rfl)
      generalize l[j] = x at *
      obtain ⟨xi, xn⟩ := x
      simp only [] at y0 y1 hx HT
      obtain ⟨S, hS⟩ : ∃ S, ofI (l.take j) it = S := ⟨_, rfl⟩
      rw [hS] at hs HT ⊢
      by_cases he : xi = it
      · have q1 : ((xi : Int) == (it : Int)) = true := by rw [he]; simp
        have q2 : (xi == it) = true := by rw [he]; simp
        have hw : IntKind.i64.wrap ((S : Int) + (xn : Int)) = ((S + xn : Nat) : Int) := by rw [IntWalk.i64_in _ (by omega)]; omega
        rw [if_pos he] at HT
        clear he
        go_wp2_with fail
        go_round
        case rel => exact ⟨j + 1, by omega, by go_num, by rw [HT.out]; congr 1⟩
        case measure => simp [intOf]; omega
      · have q1 : ((xi : Int) == (it : Int)) = false := by simp; omega
        have q2 : (xi == it) = false := by simpa using he
        rw [if_neg he] at HT
        clear he
        go_wp2_with fail
        go_round
        case rel => exact ⟨j + 1, by omega, by go_num, by rw [HT.out]; rfl⟩
        case measure => simp [intOf]; omega
    · rw [List.take_of_length_le (show l.length ≤ j by omega)]
      go_wp2_with fail
      go_ret
      exact ⟨rfl, rfl⟩


def hasB (l : List Nat) (x : Int) : Bool := decide (x ∈ l.map (fun i => ((i : Nat) : Int)))
set_option maxHeartbeats 1000000 in
theorem has_any (v : Value) (l : List Nat) (x : Int) (w : World) (h : NatsOf w v l) : Calls Tryz.prog 51 #[v, .int .i64 x] w fun e w' => e = .returned (.bool (hasB l x)) ∧ w' = w := by
  obtain ⟨a, cap, rfl, h1, h2⟩ := h.form
  have HL := Lib.hid h
  clear h
  go_enter Tryz.func51, Tryz.ntmps51
  go_wp2_with fail
  go_loop [5] (fun i => ∃ j : Nat, j ≤ l.length ∧ i = .int .i64 j ∧ Hid (x ∉ (l.take j).map (fun i => ((i : Nat) : Int)))) (fun i => l.length - (intOf i).toNat)
  case atStart => exact ⟨0, by omega, rfl, Lib.hid (by simp)⟩
  case round =>
    obtain ⟨j, hj, rfl, HN⟩ := hrel
    by_cases hlt : j < l.length
    · obtain ⟨b1, cap1, hv1, hb1, n0⟩ := NatsOf.at_ HL.out j hlt
      injection hv1 with e1 e2 e3
      subst e1
      clear e2 e3
      have HT : Hid (l.take (j + 1) = l.take j ++ [l[j]]) := Lib.hid (List.take_succ_eq_append_getElem hlt)
      have HM := Lib.hid (List.getElem_mem hlt)
      generalize l[j] = y at *
      by_cases he : (y : Int) = x
      · have hq : ((y : Int) == x) = true := by rw [he]; simp
        have HE : Hid (hasB l x = true) := Lib.hid (decide_eq_true (List.mem_map.2 ⟨y, HM.out, he⟩))
        go_wp2_with fail
        go_ret
        exact ⟨by rw [HE.out]; rfl, rfl⟩
      · have hq : ((y : Int) == x) = false := by simpa using he
        have HN2 : Hid (x ∉ (l.take (j + 1)).map (fun i => ((i : Nat) : Int))) := Lib.hid (by rw [HT.out, List.map_append, List.mem_append]; intro h; rcases h with h | h; exact HN.out h; simp at h; exact he h.symm)
        go_wp2_with fail
        go_round
        all_goals first | exact ⟨j + 1, by omega, by go_num, HN2⟩ | (simp [intOf]; omega)
    · have h9 := HN.out
      rw [List.take_of_length_le (show l.length ≤ j by omega)] at h9
      have HE : Hid (hasB l x = false) := Lib.hid (decide_eq_false h9)
      clear h9
      go_wp2_with fail
      go_ret
      exact ⟨by rw [HE.out]; rfl, rfl⟩

theorem usI_mem (c : Cat) (x : Int) : usI c x = hasB (usL c) x := by
  unfold hasB
  by_cases h : usI c x = true
  · rw [h]
    refine (decide_eq_true ?_).symm
    have h1 := h
    unfold usI at h1
    rw [Bool.and_eq_true, decide_eq_true_eq] at h1
    obtain ⟨h0, h2⟩ := h1
    obtain ⟨n, rfl⟩ : ∃ n : Nat, x = (n : Int) := ⟨x.toNat, by omega⟩
    refine List.mem_map.2 ⟨n, List.mem_filter.2 ⟨List.mem_range.2 ?_, by simpa using h⟩, rfl⟩
    rcases Nat.lt_or_ge n c.rules.length with h3 | h3
    · exact h3
    · simp [List.getElem?_eq_none h3] at h2
  · rw [Bool.not_eq_true] at h
    rw [h]
    refine (decide_eq_false (fun hm => ?_)).symm
    obtain ⟨n, hn, rfl⟩ := List.mem_map.1 hm
    have h3 : usI c (n : Int) = true := (List.mem_filter.1 hn).2
    rw [h] at h3
    cases h3

set_option maxHeartbeats 2000000 in
theorem rcheck_any (vi vr vs : Value) (c : Cat) (z : List Int) (w : World) (hc : CatAt w vi vr c) (hf : Fine c) (hs : IntsOf w vs z) :
    Calls Tryz.prog 32 #[catV vi vr, vs] w fun e w' => e = .returned (.int .i64 (checkE c z)) ∧ Below w.heap.size w w' := by
  obtain ⟨as_, cs, rfl, hs1, hs2⟩ := hs.form
  have HS := Lib.hid hs
  clear hs
  obtain ⟨ai, ci, rfl, hi1, hi2⟩ := hc.items.form
  obtain ⟨ar, cr, rfl, hr1, hr2⟩ := hc.rules.form
  have HC := Lib.hid hc
  have HF := Lib.hid hf
  have hli := hf.good.items
  have hlr := hf.good.rules
  clear hc hf
  unfold catV
  obtain ⟨w1, hw1⟩ : ∃ w1, w.alloc (.cells #[.slice ai c.items.length ci, .slice ar c.rules.length cr, .slice none 0 0, .slice none 0 0] 28) = w1 := ⟨_, rfl⟩
  have HB : Hid (Below w.heap.size w w1) := Lib.hid (by rw [← hw1]; exact (Below.refl _ _).alloc (Nat.le_refl _) _)
  have HX : Hid (BoxC w1 w.heap.size (.slice ai c.items.length ci) (.slice ar c.rules.length cr)) := Lib.hid (by rw [← hw1]; exact BoxC.new _ _ _)
  have m0 := HX.out.c0
  have m1 := HX.out.c1
  have m2 := HX.out.c2
  have m3 := HX.out.c3
  have mlt := HX.out.lt
  go_enter Tryz.func32, Tryz.ntmps32
  go_wp2_with fail
  clear hw1
  refine (rvalid_any _ _ c w1 (HC.out.below HB.out) HF.out).mono ?_
  rintro e w2 ⟨rfl, hB⟩
  have hBk := hB
  replace HB := Lib.hid (HB.out.trans (hBk.mono HB.out.size))
  replace HX := Lib.hid (HX.out.below hBk)
  clear hBk m0 m1 m2 m3 mlt
  have m0 := HX.out.c0
  have m1 := HX.out.c1
  have m2 := HX.out.c2
  have m3 := HX.out.c3
  have mlt := HX.out.lt
  by_cases h64 : 64 < z.length
  · have HE : Hid (checkE c z = 4) := Lib.hid (by unfold checkE; rw [if_pos h64])
    have q1 : decide (64 < (z.length : Int)) = true := decide_eq_true (by omega)
    have q2 : decide (64 < z.length) = true := decide_eq_true h64
    go_wp2_with fail
    go_ret
    exact ⟨by rw [HE.out]; rfl, HB.out⟩
  · have HE : Hid (checkE c z = if z.all (usI c) then 0 else 6) := Lib.hid (by unfold checkE; rw [if_neg h64])
    have q1 : decide (64 < (z.length : Int)) = false := decide_eq_false (by omega)
    have q2 : decide (64 < z.length) = false := decide_eq_false h64
    go_wp2_with fail
    refine (usable_ref _ _ c w2 (HC.out.below HB.out) (by omega)).mono ?_
    rintro e w3 ⟨⟨vu, rfl, hu⟩, hB⟩
    obtain ⟨ua, uc, rfl, hu1, hu2⟩ := hu.form
    have HU := Lib.hid hu
    replace HB := Lib.hid (HB.out.trans (hB.mono HB.out.size))
    have HUI := Lib.hid (usI_mem c)
    obtain ⟨U, hU⟩ : ∃ U, usL c = U := ⟨_, rfl⟩
    rw [hU] at HU HUI hu1 ⊢
    clear hu hB hU m0 m1 m2 m3 mlt HX
    go_wp2_with fail
    go_loopw [7] (fun i wr => ∃ j : Nat, j ≤ z.length ∧ i = .int .i64 j ∧ Hid (wr = w3) ∧ Hid ((z.take j).all (usI c) = true)) (fun i _ => z.length - (intOf i).toNat)
    case atStart => exact ⟨0, by omega, rfl, Lib.hid rfl, Lib.hid (by simp)⟩
    case round =>
      obtain ⟨j, hj, rfl, HW, HA⟩ := hrel
      obtain rfl := HW.out
      clear HW
      by_cases hlt : j < z.length
      · obtain ⟨b1, cap1, hv1, hb1, n0⟩ := IntsOf.at_ (HS.out.below HB.out) j hlt
        injection hv1 with e1 e2 e3
        subst e1
        clear e2 e3
        have HT : Hid ((z.take (j + 1)).all (usI c) = ((z.take j).all (usI c) && usI c z[j])) := Lib.hid (by rw [List.take_succ_eq_append_getElem hlt, List.all_append]; simp)
        have HNo : Hid (usI c z[j] = false → z.all (usI c) = false) := Lib.hid (fun h => by
          rw [Bool.eq_false_iff]
          intro h2
          rw [List.all_eq_true] at h2
          rw [h2 _ (List.getElem_mem hlt)] at h
          cases h)
        have HUX := Lib.hid (HUI.out z[j])
        generalize z[j] = x at *
        go_wp2_with fail
        refine (has_any _ U x _ HU.out).mono ?_
        rintro e w' ⟨rfl, rfl⟩
        rw [← HUX.out]
        cases hux : usI c x with
        | true =>
          rw [hux] at HT
          go_wp2_with fail
          go_roundw
          case rel => exact ⟨j + 1, by omega, by go_num, Lib.hid (by first | trivial | rfl), Lib.hid (by rw [HT.out, HA.out]; rfl)⟩
          case measure => simp [intOf]; omega
        | false =>
          have HE2 : Hid (checkE c z = 6) := Lib.hid (by rw [HE.out, HNo.out hux]; rfl)
          go_wp2_with fail
          go_ret
          exact ⟨by rw [HE2.out]; rfl, HB.out⟩
      · have h9 := HA.out
        rw [List.take_of_length_le (show z.length ≤ j by omega)] at h9
        have HE2 : Hid (checkE c z = 0) := Lib.hid (by rw [HE.out, h9]; rfl)
        clear h9
        go_wp2_with fail
        go_ret
        exact ⟨by rw [HE2.out]; rfl, HB.out⟩

set_option maxHeartbeats 2000000 in
theorem rnet_err (vi vr vs : Value) (c : Cat) (z : List Int) (w : World) (hc : CatAt w vi vr c) (hf : Fine c) (hs : IntsOf w vs z) (hu : checkE c z ≠ 0) :
    Calls Tryz.prog 11 #[catV vi vr, vs] w fun e w' => e = .returned (.tuple #[.slice none 0 0, .int .i64 (checkE c z)]) ∧ Below w.heap.size w w' := by
  obtain ⟨er, her⟩ : ∃ er, checkE c z = er := ⟨_, rfl⟩
  rw [her] at hu ⊢
  have HER := Lib.hid her
  clear her
  have hq : (er == 0) = false := by simpa using hu
  have hq2 : (er != 0) = true := by simpa using hu
  obtain ⟨as_, cs, rfl, hs1, hs2⟩ := hs.form
  have HS := Lib.hid hs
  clear hs hu
  obtain ⟨ai, ci, rfl, hi1, hi2⟩ := hc.items.form
  obtain ⟨ar, cr, rfl, hr1, hr2⟩ := hc.rules.form
  have HC := Lib.hid hc
  have HF := Lib.hid hf
  have hli := hf.good.items
  have hlr := hf.good.rules
  clear hc hf
  unfold catV
  obtain ⟨w1, hw1⟩ : ∃ w1, w.alloc (.cells #[.slice ai c.items.length ci, .slice ar c.rules.length cr, .slice none 0 0, .slice none 0 0] 28) = w1 := ⟨_, rfl⟩
  have HB : Hid (Below w.heap.size w w1) := Lib.hid (by rw [← hw1]; exact (Below.refl _ _).alloc (Nat.le_refl _) _)
  have HX : Hid (BoxC w1 w.heap.size (.slice ai c.items.length ci) (.slice ar c.rules.length cr)) := Lib.hid (by rw [← hw1]; exact BoxC.new _ _ _)
  have m0 := HX.out.c0
  have m1 := HX.out.c1
  have m2 := HX.out.c2
  have m3 := HX.out.c3
  have mlt := HX.out.lt
  go_enter Tryz.func11, Tryz.ntmps11
  go_wp2_with fail
  clear hw1
  have HCK := Lib.hid (rcheck_any _ _ _ c _ w1 (HC.out.below HB.out) HF.out (HS.out.below HB.out))
  rw [HER.out] at HCK
  refine HCK.out.mono ?_
  rintro e w2 ⟨rfl, hB⟩
  have hBk := hB
  replace HB := Lib.hid (HB.out.trans (hBk.mono HB.out.size))
  replace HX := Lib.hid (HX.out.below hBk)
  clear hBk m0 m1 m2 m3 mlt
  have m0 := HX.out.c0
  have m1 := HX.out.c1
  have m2 := HX.out.c2
  have m3 := HX.out.c3
  have mlt := HX.out.lt
  go_wp2_with fail
  go_ret2
  exact ⟨rfl, HB.out⟩
set_option maxHeartbeats 2000000 in
theorem rneed_err (vi vr vs : Value) (c : Cat) (z : List Int) (w : World) (hc : CatAt w vi vr c) (hf : Fine c) (hs : IntsOf w vs z) (hu : checkE c z ≠ 0) :
    Calls Tryz.prog 13 #[catV vi vr, vs] w fun e w' => e = .returned (.tuple #[.slice none 0 0, .int .i64 (checkE c z)]) ∧ Below w.heap.size w w' := by
  obtain ⟨er, her⟩ : ∃ er, checkE c z = er := ⟨_, rfl⟩
  rw [her] at hu ⊢
  have HER := Lib.hid her
  clear her
  have hq : (er == 0) = false := by simpa using hu
  have hq2 : (er != 0) = true := by simpa using hu
  obtain ⟨as_, cs, rfl, hs1, hs2⟩ := hs.form
  have HS := Lib.hid hs
  clear hs hu
  obtain ⟨ai, ci, rfl, hi1, hi2⟩ := hc.items.form
  obtain ⟨ar, cr, rfl, hr1, hr2⟩ := hc.rules.form
  have HC := Lib.hid hc
  have HF := Lib.hid hf
  have hli := hf.good.items
  have hlr := hf.good.rules
  clear hc hf
  unfold catV
  obtain ⟨w1, hw1⟩ : ∃ w1, w.alloc (.cells #[.slice ai c.items.length ci, .slice ar c.rules.length cr, .slice none 0 0, .slice none 0 0] 28) = w1 := ⟨_, rfl⟩
  have HB : Hid (Below w.heap.size w w1) := Lib.hid (by rw [← hw1]; exact (Below.refl _ _).alloc (Nat.le_refl _) _)
  have HX : Hid (BoxC w1 w.heap.size (.slice ai c.items.length ci) (.slice ar c.rules.length cr)) := Lib.hid (by rw [← hw1]; exact BoxC.new _ _ _)
  have m0 := HX.out.c0
  have m1 := HX.out.c1
  have m2 := HX.out.c2
  have m3 := HX.out.c3
  have mlt := HX.out.lt
  go_enter Tryz.func13, Tryz.ntmps13
  go_wp2_with fail
  clear hw1
  have HCK := Lib.hid (rcheck_any _ _ _ c _ w1 (HC.out.below HB.out) HF.out (HS.out.below HB.out))
  rw [HER.out] at HCK
  refine HCK.out.mono ?_
  rintro e w2 ⟨rfl, hB⟩
  have hBk := hB
  replace HB := Lib.hid (HB.out.trans (hBk.mono HB.out.size))
  replace HX := Lib.hid (HX.out.below hBk)
  clear hBk m0 m1 m2 m3 mlt
  have m0 := HX.out.c0
  have m1 := HX.out.c1
  have m2 := HX.out.c2
  have m3 := HX.out.c3
  have mlt := HX.out.lt
  go_wp2_with fail
  go_ret2
  exact ⟨rfl, HB.out⟩

set_option maxRecDepth 100000 in
set_option maxHeartbeats 4000000 in
theorem rnet_ok (vi vr vs : Value) (c : Cat) (s : List Nat) (w : World) (hc : CatAt w vi vr c) (hf : Fine c) (hs : NatsOf w vs s) (hu : UsS c s) :
    Calls Tryz.prog 11 #[catV vi vr, vs] w fun e w' => (∃ v, e = .returned (.tuple #[v, .int .i64 0]) ∧ IntsOf w' v (netL c s)) ∧ Below w.heap.size w w' := by
  have HU := Lib.hid hu
  have hsl := hu.1
  obtain ⟨as_, cs, rfl, hs1, hs2⟩ := hs.form
  have HS := Lib.hid hs
  clear hs hu
  obtain ⟨ai, ci, rfl, hi1, hi2⟩ := hc.items.form
  obtain ⟨ar, cr, rfl, hr1, hr2⟩ := hc.rules.form
  have HC := Lib.hid hc
  have HF := Lib.hid hf
  have hli := hf.good.items
  have hlr := hf.good.rules
  clear hc hf
  unfold catV
  obtain ⟨w1, hw1⟩ : ∃ w1, w.alloc (.cells #[.slice ai c.items.length ci, .slice ar c.rules.length cr, .slice none 0 0, .slice none 0 0] 28) = w1 := ⟨_, rfl⟩
  have HB : Hid (Below w.heap.size w w1) := Lib.hid (by rw [← hw1]; exact (Below.refl _ _).alloc (Nat.le_refl _) _)
  have HX : Hid (BoxC w1 w.heap.size (.slice ai c.items.length ci) (.slice ar c.rules.length cr)) := Lib.hid (by rw [← hw1]; exact BoxC.new _ _ _)
  have m0 := HX.out.c0
  have m1 := HX.out.c1
  have m2 := HX.out.c2
  have m3 := HX.out.c3
  have mlt := HX.out.lt
  go_enter Tryz.func11, Tryz.ntmps11
  go_wp2_with fail
  clear hw1
  have HI := Lib.hid (HS.out.ints)
  have HCK := Lib.hid (rcheck_any _ _ (.slice as_ s.length cs) c _ w1 (HC.out.below HB.out) HF.out (HI.out.below HB.out))
  rw [HU.out.check] at HCK
  refine HCK.out.mono ?_
  clear HCK HI
  rintro e w2 ⟨rfl, hB⟩
  have hBk := hB
  replace HB := Lib.hid (HB.out.trans (hBk.mono HB.out.size))
  replace HX := Lib.hid (HX.out.below hBk)
  clear hBk m0 m1 m2 m3 mlt
  have m0 := HX.out.c0
  have m1 := HX.out.c1
  have m2 := HX.out.c2
  have m3 := HX.out.c3
  have mlt := HX.out.lt
  go_wp2_with fail
  clear m0 m1 m2 m3 mlt
  have hLL : (netL c s).length = c.items.length := by simp [netL]
  go_loopw [7, 8] (fun o i wr => ∃ (i0 : Nat) (ga : Option Addr) (gc : Nat), i0 ≤ c.items.length ∧ i = .int .i64 i0 ∧ o = .slice ga i0 gc ∧ gc ≤ 9223372036854775807 ∧ i0 ≤ gc ∧ Hid (wr.ownsRow w2.heap.size 3 1 (.slice ga i0 gc) i0 (((netL c s).take i0).map zv)) ∧ Hid (Below w2.heap.size w2 wr)) (fun _ i _ => c.items.length - (intOf i).toNat)
  case atStart => exact ⟨0, none, 0, by omega, rfl, rfl, by omega, by omega, Lib.hid (World.ownsRow_nil _ _ _ _), Lib.hid (Below.refl _ _)⟩
  case round =>
    obtain ⟨i, ga, gc, hi, rfl, rfl, hgc, hig, HO, HBl⟩ := hrel
    have HB0 := HB
    have HX0 := HX
    replace HB := Lib.hid (HB0.out.trans (HBl.out.mono HB0.out.size))
    replace HX := Lib.hid (HX0.out.below HBl.out)
    have m0 := HX.out.c0
    have m1 := HX.out.c1
    have m2 := HX.out.c2
    have m3 := HX.out.c3
    have mlt := HX.out.lt
    by_cases hlt : i < c.items.length
    · have HLT : Hid ((netL c s).take (i + 1) = (netL c s).take i ++ [netF i (rsOf c s)]) := Lib.hid (by rw [List.take_succ_eq_append_getElem (by omega)]; simp [netL])
      go_wp2_with fail
      clear m0 m1 m2 m3 mlt
      obtain ⟨wo, rfl⟩ : ∃ wo : World, wo = wr := ⟨_, rfl⟩
      go_loopw [9, 10] (fun v q wr => ∃ k : Nat, k ≤ s.length ∧ q = .int .i64 k ∧ v = .int .i64 (netF i (rsOf c (s.take k))) ∧ Hid (Below wo.heap.size wo wr)) (fun _ q _ => s.length - (intOf q).toNat)
      case atStart => exact ⟨0, by omega, rfl, by simp [rsOf, netF], Lib.hid (Below.refl _ _)⟩
      case round =>
        obtain ⟨k, hk, rfl, rfl, HBk⟩ := hrel
        have HBw := HB
        replace HB := Lib.hid (HB.out.trans (HBk.out.mono HB.out.size))
        replace HX := Lib.hid (HX.out.below HBk.out)
        by_cases hlt2 : k < s.length
        · skip
          obtain ⟨b1, cap1, hv1, hb1, n00⟩ := NatsOf.at_ HS.out k hlt2
          injection hv1 with e1 e2 e3
          try injection e1 with e1
          try injection e1 with e1
          subst e1
          clear e2 e3
          have n0 := (HB.out.cell (p := ⟨b1, k, none⟩) hb1).trans n00
          have hsj := HU.out.lt s[k] (List.getElem_mem hlt2)
          obtain ⟨b2, cap2, p, hv2, hb2, hr, hcs00⟩ := RulesAt.at_ HC.out.rules s[k] hsj
          injection hv2 with e1 e2 e3
          try injection e1 with e1
          try injection e1 with e1
          subst e1
          clear e2 e3
          have hcs0 := hcs00.below HB.out hb2
          have x6 := hcs0.c6
          have x7 := hcs0.c7
          have HGR := Lib.hid (HF.out.good.each c.rules[s[k]] (List.getElem_mem hsj))
          have HTK := Lib.hid (rsOf_take c s k hlt2 hsj)
          have HNX := Lib.hid (netF_le i (rsOf c (s.take k)) (rsOf_good HF.out.good _))
          have HNL := Lib.hid (rsOf_len c (s.take k))
          have HRU := Lib.hid (hr.below HB.out)
          have hb2r : b2 < wr.heap.size := Nat.lt_of_lt_of_le hb2 HB.out.size
          have i9 : (k : Int) < (s.length : Int) := by omega
          clear hr hcs0 hcs00 n00
          generalize c.rules[s[k]] = r at *
          generalize s[k] = sj at *
          obtain ⟨rn, rs, rt, ro, lt, lg, lb⟩ := r
          simp only [] at x6 x7
          have hsj2 : (sj : Int) < (c.rules.length : Int) := by omega
          have hT := ofI_le HGR.out.take i
          have hG := ofI_le HGR.out.give i
          have hlt9 := HGR.out.take.len
          have hlg9 := HGR.out.give.len
          simp only [] at hT hG hlt9 hlg9
          have HTA : Hid (∀ a ∈ lt, a.n ≤ 1000000) := Lib.hid (fun a ha => by have := HGR.out.take.all a ha; omega)
          have HGA : Hid (∀ a ∈ lg, a.n ≤ 1000000) := Lib.hid (fun a ha => by have := HGR.out.give.all a ha; omega)
          have m0 := HX.out.c0
          have m1 := HX.out.c1
          have m2 := HX.out.c2
          have m3 := HX.out.c3
          have mlt := HX.out.lt
          have hnx := HNX.out
          have hnl := HNL.out
          rw [List.length_take] at hnl
          have HEQ : Hid (netF i (rsOf c (s.take (k + 1))) = netF i (rsOf c (s.take k)) + (ofI lg i : Nat) - (ofI lt i : Nat)) := Lib.hid (by rw [HTK.out, netF_snoc]; unfold effI; simp only []; omega)
          obtain ⟨N, hN⟩ : ∃ N, netF i (rsOf c (s.take k)) = N := ⟨_, rfl⟩
          rw [hN] at hnx HEQ ⊢
          have hw1 : IntKind.i64.wrap (N + ((ofI lg i : Nat) : Int)) = N + ((ofI lg i : Nat) : Int) := IntWalk.i64_in _ (by omega)
          have hw2 : IntKind.i64.wrap (N + ((ofI lg i : Nat) : Int) - ((ofI lt i : Nat) : Int)) = N + ((ofI lg i : Nat) : Int) - ((ofI lt i : Nat) : Int) := IntWalk.i64_in _ (by omega)
          clear hN hnx hnl
          go_wp2_with fail
          refine startK 99 (fun W => W.cell? ⟨w.heap.size, 1, none⟩ = some (.slice (some ⟨b2, 0, none⟩) c.rules.length cr) ∧ W.cell? ⟨b1, k, none⟩ = some (.int .i64 (sj : Int)) ∧ W.cell? ⟨b2, sj * 9 + 6, none⟩ = some (.slice p.at_ lt.length p.ct) ∧ W.cell? ⟨b2, sj * 9 + 7, none⟩ = some (.slice p.ag lg.length p.cg)) (by kernel_rfl) (⟨m1, n0, x6, x7⟩) (fun hHeld => ?_)
          refine takeK 0 30 (v := ?_) rfl rfl (by kernel_rfl) (by kernel_rfl) (by kernel_rfl) (by kernel_rfl) (fun _ _ _ h => h) (by rfl) ?_ (by assumption) ?_
          rotate_left
          · (intro w hSw; go_simp; first | done | with_reducible rfl)
          simp only [List.setIfInBounds_toArray, List.set_cons_zero, List.set_cons_succ]
          refine takeK 1 31 (v := ?_) rfl rfl (by kernel_rfl) (by kernel_rfl) (by kernel_rfl) (by kernel_rfl) (fun _ _ _ h => h) (by rfl) ?_ (by assumption) ?_
          rotate_left
          · (intro w hSw; go_simp; first | done | with_reducible rfl)
          simp only [List.setIfInBounds_toArray, List.set_cons_zero, List.set_cons_succ]
          refine takeK 2 32 (v := ?_) rfl rfl (by kernel_rfl) (by kernel_rfl) (by kernel_rfl) (by kernel_rfl) (fun _ _ _ h => h) (by rfl) ?_ (by assumption) ?_
          rotate_left
          · (intro w hSw; go_simp; first | done | with_reducible rfl)
          simp only [List.setIfInBounds_toArray, List.set_cons_zero, List.set_cons_succ]
          refine takeK 3 33 (v := ?_) rfl rfl (by kernel_rfl) (by kernel_rfl) (by kernel_rfl) (by kernel_rfl) (fun _ _ _ h => h) (by rfl) ?_ (by assumption) ?_
          rotate_left
          · (intro w hSw; go_simp; first | done | with_reducible rfl)
          simp only [List.setIfInBounds_toArray, List.set_cons_zero, List.set_cons_succ]
          refine takeK 4 34 (v := ?_) rfl rfl (by kernel_rfl) (by kernel_rfl) (by kernel_rfl) (by kernel_rfl) (fun _ _ _ h => h) (by rfl) ?_ (by assumption) ?_
          rotate_left
          · (intro w hSw; go_simp; first | done | with_reducible rfl)
          simp only [List.setIfInBounds_toArray, List.set_cons_zero, List.set_cons_succ]
          refine takeK 5 35 (v := ?_) rfl rfl (by kernel_rfl) (by kernel_rfl) (by kernel_rfl) (by kernel_rfl) (fun _ _ _ h => h) (by rfl) ?_ (by assumption) ?_
          rotate_left
          · (intro w hSw; go_simp; first | done | with_reducible rfl)
          simp only [List.setIfInBounds_toArray, List.set_cons_zero, List.set_cons_succ]
          refine takeK 6 36 (v := ?_) rfl rfl (by kernel_rfl) (by kernel_rfl) (by kernel_rfl) (by kernel_rfl) (fun _ _ _ h => h) (by rfl) ?_ (by assumption) ?_
          rotate_left
          · (intro w hSw; go_simp; first | done | with_reducible rfl)
          simp only [List.setIfInBounds_toArray, List.set_cons_zero, List.set_cons_succ]
          refine takeK 7 37 (v := ?_) rfl rfl (by kernel_rfl) (by kernel_rfl) (by kernel_rfl) (by kernel_rfl) (fun _ _ _ h => h) (by rfl) ?_ (by assumption) ?_
          rotate_left
          · (intro w hSw; go_simp; first | done | with_reducible rfl)
          simp only [List.setIfInBounds_toArray, List.set_cons_zero, List.set_cons_succ]
          refine takeK 8 38 (v := ?_) rfl rfl (by kernel_rfl) (by kernel_rfl) (by kernel_rfl) (by kernel_rfl) (fun _ _ _ h => h) (by rfl) ?_ (by assumption) ?_
          rotate_left
          · (intro w hSw; go_simp; first | done | with_reducible rfl)
          simp only [List.setIfInBounds_toArray, List.set_cons_zero, List.set_cons_succ]
          refine takeK 9 39 (v := ?_) rfl rfl (by kernel_rfl) (by kernel_rfl) (by kernel_rfl) (by kernel_rfl) (fun _ _ _ h => h) (by rfl) ?_ (by assumption) ?_
          rotate_left
          · (intro w hSw; go_simp; first | done | with_reducible rfl)
          simp only [List.setIfInBounds_toArray, List.set_cons_zero, List.set_cons_succ]
          refine takeK 10 40 (v := ?_) rfl rfl (by kernel_rfl) (by kernel_rfl) (by kernel_rfl) (by kernel_rfl) (fun _ _ _ h => h) (by rfl) ?_ (by assumption) ?_
          rotate_left
          · (intro w hSw; go_simp; first | done | with_reducible rfl)
          simp only [List.setIfInBounds_toArray, List.set_cons_zero, List.set_cons_succ]
          refine takeK 13 43 (v := ?_) rfl rfl (by kernel_rfl) (by kernel_rfl) (by kernel_rfl) (by kernel_rfl) (fun _ _ _ h => h) (by rfl) ?_ (by assumption) ?_
          rotate_left
          · (intro w hSw; go_simp; first | done | with_reducible rfl)
          simp only [List.setIfInBounds_toArray, List.set_cons_zero, List.set_cons_succ]
          refine takeK 14 44 (v := ?_) rfl rfl (by kernel_rfl) (by kernel_rfl) (by kernel_rfl) (by kernel_rfl) (fun _ _ _ h => h) (by rfl) ?_ (by assumption) ?_
          rotate_left
          · (intro w hSw; go_simp; first | done | with_reducible rfl)
          simp only [List.setIfInBounds_toArray, List.set_cons_zero, List.set_cons_succ]
          refine takeK 15 45 (v := ?_) rfl rfl (by kernel_rfl) (by kernel_rfl) (by kernel_rfl) (by kernel_rfl) (fun _ _ _ h => h) (by rfl) ?_ (by assumption) ?_
          rotate_left
          · (intro w hSw; go_simp; first | done | with_reducible rfl)
          simp only [List.setIfInBounds_toArray, List.set_cons_zero, List.set_cons_succ]
          refine takeK 16 46 (v := ?_) rfl rfl (by kernel_rfl) (by kernel_rfl) (by kernel_rfl) (by kernel_rfl) (fun _ _ _ h => h) (by rfl) ?_ (by assumption) ?_
          rotate_left
          · (intro w hSw; go_simp; first | done | with_reducible rfl)
          simp only [List.setIfInBounds_toArray, List.set_cons_zero, List.set_cons_succ]
          refine takeK 17 47 (v := ?_) rfl rfl (by kernel_rfl) (by kernel_rfl) (by kernel_rfl) (by kernel_rfl) (fun _ _ _ h => h) (by rfl) ?_ (by assumption) ?_
          rotate_left
          · (intro w hSw; go_simp; first | done | with_reducible rfl)
          simp only [List.setIfInBounds_toArray, List.set_cons_zero, List.set_cons_succ]
          refine takeK 18 48 (v := ?_) rfl rfl (by kernel_rfl) (by kernel_rfl) (by kernel_rfl) (by kernel_rfl) (fun _ _ _ h => h) (by rfl) ?_ (by assumption) ?_
          rotate_left
          · (intro w hSw; go_simp; first | done | with_reducible rfl)
          simp only [List.setIfInBounds_toArray, List.set_cons_zero, List.set_cons_succ]
          refine takeK 19 49 (v := ?_) rfl rfl (by kernel_rfl) (by kernel_rfl) (by kernel_rfl) (by kernel_rfl) (fun _ _ _ h => h) (by rfl) ?_ (by assumption) ?_
          rotate_left
          · (intro w hSw; go_simp; first | done | with_reducible rfl)
          simp only [List.setIfInBounds_toArray, List.set_cons_zero, List.set_cons_succ]
          refine takeK 20 50 (v := ?_) rfl rfl (by kernel_rfl) (by kernel_rfl) (by kernel_rfl) (by kernel_rfl) (fun _ _ _ h => h) (by rfl) ?_ (by assumption) ?_
          rotate_left
          · (intro w hSw; go_simp; first | done | with_reducible rfl)
          simp only [List.setIfInBounds_toArray, List.set_cons_zero, List.set_cons_succ]
          refine takeK 21 51 (v := ?_) rfl rfl (by kernel_rfl) (by kernel_rfl) (by kernel_rfl) (by kernel_rfl) (fun _ _ _ h => h) (by rfl) ?_ (by assumption) ?_
          rotate_left
          · (intro w hSw; go_simp; first | done | with_reducible rfl)
          simp only [List.setIfInBounds_toArray, List.set_cons_zero, List.set_cons_succ]
          refine takeK 22 52 (v := ?_) rfl rfl (by kernel_rfl) (by kernel_rfl) (by kernel_rfl) (by kernel_rfl) (fun _ _ _ h => h) (by rfl) ?_ (by assumption) ?_
          rotate_left
          · (intro w hSw; go_simp; first | done | with_reducible rfl)
          simp only [List.setIfInBounds_toArray, List.set_cons_zero, List.set_cons_succ]
          refine stepK 11 (by kernel_rfl) rfl (fun K hK => ?_)
          go_simp
          refine (of11_any _ lg i _ (AmtsAt.below HRU.out.give (Below.refl _ _).drew) (by omega) HGA.out (by omega)).mono ?_
          rintro e w' ⟨rfl, hw'⟩
          rw [hw']
          clear hHeld hw'
          go_wp2_with fail
          refine hK.out _ _ (⟨m1, n0, x6, x7⟩) (fun hHeld => ?_)
          clear hK K
          try simp only [Act.put, List.setIfInBounds_toArray, List.set_cons_zero, List.set_cons_succ]
          refine takeK 12 42 (v := ?_) rfl rfl (by kernel_rfl) (by kernel_rfl) (by kernel_rfl) (by kernel_rfl) (fun _ _ _ h => h) (by rfl) ?_ (by assumption) ?_
          rotate_left
          · (intro w hSw; go_simp; first | done | with_reducible rfl)
          simp only [List.setIfInBounds_toArray, List.set_cons_zero, List.set_cons_succ]
          refine stepK 23 (by kernel_rfl) rfl (fun K hK => ?_)
          go_simp
          refine (of11_any _ lt i _ (AmtsAt.below HRU.out.take (Below.refl _ _).drew) (by omega) HTA.out (by omega)).mono ?_
          rintro e w' ⟨rfl, hw'⟩
          rw [hw']
          clear hHeld hw'
          go_wp2_with fail
          refine hK.out _ _ (⟨m1, n0, x6, x7⟩) (fun hHeld => ?_)
          clear hK K
          try simp only [Act.put, List.setIfInBounds_toArray, List.set_cons_zero, List.set_cons_succ]
          refine takeK 24 54 (v := ?_) rfl rfl (by kernel_rfl) (by kernel_rfl) (by kernel_rfl) (by kernel_rfl) (fun _ _ _ h => h) (by rfl) ?_ (by assumption) ?_
          rotate_left
          · (intro w hSw; go_simp; first | done | with_reducible rfl)
          simp only [List.setIfInBounds_toArray, List.set_cons_zero, List.set_cons_succ]
          refine takeK 25 9 (v := ?_) rfl rfl (by kernel_rfl) (by kernel_rfl) (by kernel_rfl) (by kernel_rfl) (fun _ _ _ h => h) (by rfl) ?_ (by assumption) ?_
          rotate_left
          · (intro w hSw; go_simp; first | done | with_reducible rfl)
          simp only [List.setIfInBounds_toArray, List.set_cons_zero, List.set_cons_succ]
          refine doneK (by kernel_rfl) ?_ _
          clear hHeld
          clear m0 m1 m2 m3 mlt n0 x6 x7
          go_wp2_with fail
          go_roundw
          case rel => exact ⟨k + 1, by omega, by go_num, by rw [HEQ.out], Lib.hid HBk.out.drew⟩
          case measure => simp [intOf]; omega
        · have hks : s.take k = s := List.take_of_length_le (by omega)
          have hq : decide ((k : Int) < (s.length : Int)) = false := decide_eq_false (by omega)
          rw [hks]
          have m0 := HX.out.c0
          have m1 := HX.out.c1
          have m2 := HX.out.c2
          have m3 := HX.out.c3
          have mlt := HX.out.lt
          obtain ⟨V, hV⟩ : ∃ V, netF i (rsOf c s) = V := ⟨_, rfl⟩
          rw [hV] at HLT ⊢
          have HOr := Lib.hid ((Only.of_below (S := fun _ => False) HBk.out).own HO.out (fun _ _ h => h))
          have HBr := Lib.hid (HBl.out.trans (HBk.out.mono HBl.out.size))
          go_wp2_with (at_builtin; refine wpList_app1 (W0 := w2) elemInt rfl _ _ rfl [.int .i64 V] 3 _ _ _ rfl rfl rfl (by simp [Value.oneCell']) HOr.out HBr.out HBr.out.size (by omega) (by omega) ?_)
          intro g6 cap6 w6 Hown6 HB6 HO6 hcap6 hat6
          have Hown7 : Hid (w6.ownsRow w2.heap.size 3 1 (.slice (some ⟨g6, 0, none⟩) (i + 1) cap6) (i + 1) (((netL c s).take (i + 1)).map zv)) := Lib.hid (by rw [HLT.out]; have h9 := Hown6.out; simpa [zv] using h9)
          have hcl : i + 1 ≤ cap6 := by
            rcases Hown7.out.2 with ⟨hv, _⟩ | ⟨_, _, _, hv, _, _, h4, h3, _⟩
            · cases hv
            · injection hv with _ _ e; omega
          clear Hown6 HO6 hat6 HO HOr m0 m1 m2 m3 mlt
          go_wp2_with fail
          go_roundw
          case rel => exact ⟨i + 1, some ⟨g6, 0, none⟩, cap6, by omega, by go_num, rfl, hcap6, hcl, Hown7, HB6⟩
          case measure => simp [intOf]; omega
    · obtain rfl : c.items.length = i := by omega
      have HR : Hid (IntsOf wr (.slice ga (netL c s).length gc) (netL c s)) := Lib.hid (ints_of_own (by
        have h9 := HO.out
        rw [List.take_of_length_le (by omega)] at h9
        rw [hLL]
        exact h9))
      rw [hLL] at HR
      clear HO
      go_wp2_with fail
      go_ret2
      exact ⟨⟨_, rfl, HR.out⟩, HB.out⟩

set_option maxRecDepth 100000 in
set_option maxHeartbeats 4000000 in
theorem rneed_ok (vi vr vs : Value) (c : Cat) (s : List Nat) (w : World) (hc : CatAt w vi vr c) (hf : Fine c) (hs : NatsOf w vs s) (hu : UsS c s) :
    Calls Tryz.prog 13 #[catV vi vr, vs] w fun e w' => (∃ v, e = .returned (.tuple #[v, .int .i64 0]) ∧ IntsOf w' v (needL c s)) ∧ Below w.heap.size w w' := by
  have HU := Lib.hid hu
  have hsl := hu.1
  obtain ⟨as_, cs, rfl, hs1, hs2⟩ := hs.form
  have HS := Lib.hid hs
  clear hs hu
  obtain ⟨ai, ci, rfl, hi1, hi2⟩ := hc.items.form
  obtain ⟨ar, cr, rfl, hr1, hr2⟩ := hc.rules.form
  have HC := Lib.hid hc
  have HF := Lib.hid hf
  have hli := hf.good.items
  have hlr := hf.good.rules
  clear hc hf
  unfold catV
  obtain ⟨w1, hw1⟩ : ∃ w1, w.alloc (.cells #[.slice ai c.items.length ci, .slice ar c.rules.length cr, .slice none 0 0, .slice none 0 0] 28) = w1 := ⟨_, rfl⟩
  have HB : Hid (Below w.heap.size w w1) := Lib.hid (by rw [← hw1]; exact (Below.refl _ _).alloc (Nat.le_refl _) _)
  have HX : Hid (BoxC w1 w.heap.size (.slice ai c.items.length ci) (.slice ar c.rules.length cr)) := Lib.hid (by rw [← hw1]; exact BoxC.new _ _ _)
  have m0 := HX.out.c0
  have m1 := HX.out.c1
  have m2 := HX.out.c2
  have m3 := HX.out.c3
  have mlt := HX.out.lt
  go_enter Tryz.func13, Tryz.ntmps13
  go_wp2_with fail
  clear hw1
  have HI := Lib.hid (HS.out.ints)
  have HCK := Lib.hid (rcheck_any _ _ (.slice as_ s.length cs) c _ w1 (HC.out.below HB.out) HF.out (HI.out.below HB.out))
  rw [HU.out.check] at HCK
  refine HCK.out.mono ?_
  clear HCK HI
  rintro e w2 ⟨rfl, hB⟩
  have hBk := hB
  replace HB := Lib.hid (HB.out.trans (hBk.mono HB.out.size))
  replace HX := Lib.hid (HX.out.below hBk)
  clear hBk m0 m1 m2 m3 mlt
  have m0 := HX.out.c0
  have m1 := HX.out.c1
  have m2 := HX.out.c2
  have m3 := HX.out.c3
  have mlt := HX.out.lt
  go_wp2_with fail
  clear m0 m1 m2 m3 mlt
  have hLL : (needL c s).length = c.items.length := by simp [needL]
  go_loopw [7, 8] (fun o i wr => ∃ (i0 : Nat) (ga : Option Addr) (gc : Nat), i0 ≤ c.items.length ∧ i = .int .i64 i0 ∧ o = .slice ga i0 gc ∧ gc ≤ 9223372036854775807 ∧ i0 ≤ gc ∧ Hid (wr.ownsRow w2.heap.size 3 1 (.slice ga i0 gc) i0 (((needL c s).take i0).map zv)) ∧ Hid (Below w2.heap.size w2 wr)) (fun _ i _ => c.items.length - (intOf i).toNat)
  case atStart => exact ⟨0, none, 0, by omega, rfl, rfl, by omega, by omega, Lib.hid (World.ownsRow_nil _ _ _ _), Lib.hid (Below.refl _ _)⟩
  case round =>
    obtain ⟨i, ga, gc, hi, rfl, rfl, hgc, hig, HO, HBl⟩ := hrel
    have HB0 := HB
    have HX0 := HX
    replace HB := Lib.hid (HB0.out.trans (HBl.out.mono HB0.out.size))
    replace HX := Lib.hid (HX0.out.below HBl.out)
    have m0 := HX.out.c0
    have m1 := HX.out.c1
    have m2 := HX.out.c2
    have m3 := HX.out.c3
    have mlt := HX.out.lt
    by_cases hlt : i < c.items.length
    · have HLT : Hid ((needL c s).take (i + 1) = (needL c s).take i ++ [needF i (rsOf c s)]) := Lib.hid (by rw [List.take_succ_eq_append_getElem (by omega)]; simp [needL])
      go_wp2_with fail
      clear m0 m1 m2 m3 mlt
      obtain ⟨wo, rfl⟩ : ∃ wo : World, wo = wr := ⟨_, rfl⟩
      go_loopw [9, 10] (fun v q wr => ∃ k : Nat, k ≤ s.length ∧ q = .int .i64 k ∧ v = .int .i64 (needF i (rsOf c (s.take k))) ∧ Hid (Below wo.heap.size wo wr)) (fun _ q _ => s.length - (intOf q).toNat)
      case atStart => exact ⟨0, by omega, rfl, by simp [rsOf, needF, needR], Lib.hid (Below.refl _ _)⟩
      case round =>
        obtain ⟨k, hk, rfl, rfl, HBk⟩ := hrel
        have HBw := HB
        replace HB := Lib.hid (HB.out.trans (HBk.out.mono HB.out.size))
        replace HX := Lib.hid (HX.out.below HBk.out)
        by_cases hlt2 : k < s.length
        · skip
          obtain ⟨b1, cap1, hv1, hb1, n00⟩ := NatsOf.at_ HS.out k hlt2
          injection hv1 with e1 e2 e3
          try injection e1 with e1
          try injection e1 with e1
          subst e1
          clear e2 e3
          have n0 := (HB.out.cell (p := ⟨b1, k, none⟩) hb1).trans n00
          have hsj := HU.out.lt s[k] (List.getElem_mem hlt2)
          obtain ⟨b2, cap2, p, hv2, hb2, hr, hcs00⟩ := RulesAt.at_ HC.out.rules s[k] hsj
          injection hv2 with e1 e2 e3
          try injection e1 with e1
          try injection e1 with e1
          subst e1
          clear e2 e3
          have hcs0 := hcs00.below HB.out hb2
          have x6 := hcs0.c6
          have x7 := hcs0.c7
          have HGR := Lib.hid (HF.out.good.each c.rules[s[k]] (List.getElem_mem hsj))
          have HTK := Lib.hid (rsOf_take c s k hlt2 hsj)
          have HNX := Lib.hid (netF_le i (rsOf c (s.take k)) (rsOf_good HF.out.good _))
          have HNL := Lib.hid (rsOf_len c (s.take k))
          have HRU := Lib.hid (hr.below HB.out)
          have hb2r : b2 < wr.heap.size := Nat.lt_of_lt_of_le hb2 HB.out.size
          have i9 : (k : Int) < (s.length : Int) := by omega
          clear hr hcs0 hcs00 n00
          generalize c.rules[s[k]] = r at *
          generalize s[k] = sj at *
          obtain ⟨rn, rs, rt, ro, lt, lg, lb⟩ := r
          simp only [] at x6 x7
          have hsj2 : (sj : Int) < (c.rules.length : Int) := by omega
          have hT := ofI_le HGR.out.take i
          have hG := ofI_le HGR.out.give i
          have hlt9 := HGR.out.take.len
          have hlg9 := HGR.out.give.len
          simp only [] at hT hG hlt9 hlg9
          have HTA : Hid (∀ a ∈ lt, a.n ≤ 1000000) := Lib.hid (fun a ha => by have := HGR.out.take.all a ha; omega)
          have HGA : Hid (∀ a ∈ lg, a.n ≤ 1000000) := Lib.hid (fun a ha => by have := HGR.out.give.all a ha; omega)
          have m0 := HX.out.c0
          have m1 := HX.out.c1
          have m2 := HX.out.c2
          have m3 := HX.out.c3
          have mlt := HX.out.lt
          have HEQ : Hid (needF i (rsOf c (s.take (k + 1))) = max (needF i (rsOf c (s.take k))) ((ofI lt i : Nat) - netF i (rsOf c (s.take k)))) := Lib.hid (by rw [HTK.out, needF_snoc])
          obtain ⟨N, hN⟩ : ∃ N, needF i (rsOf c (s.take k)) = N := ⟨_, rfl⟩
          rw [hN] at HEQ ⊢
          clear hN hG hlg9
          go_wp2_with fail
          refine startK 99 (fun W => W.cell? ⟨w.heap.size, 1, none⟩ = some (.slice (some ⟨b2, 0, none⟩) c.rules.length cr) ∧ W.cell? ⟨b1, k, none⟩ = some (.int .i64 (sj : Int)) ∧ W.cell? ⟨b2, sj * 9 + 6, none⟩ = some (.slice p.at_ lt.length p.ct) ∧ W.cell? ⟨b2, sj * 9 + 7, none⟩ = some (.slice p.ag lg.length p.cg)) (by kernel_rfl) (⟨m1, n0, x6, x7⟩) (fun hHeld => ?_)
          refine takeK 0 32 (v := ?_) rfl rfl (by kernel_rfl) (by kernel_rfl) (by kernel_rfl) (by kernel_rfl) (fun _ _ _ h => h) (by rfl) ?_ (by assumption) ?_
          rotate_left
          · (intro w hSw; go_simp; first | done | with_reducible rfl)
          simp only [List.setIfInBounds_toArray, List.set_cons_zero, List.set_cons_succ]
          refine takeK 1 33 (v := ?_) rfl rfl (by kernel_rfl) (by kernel_rfl) (by kernel_rfl) (by kernel_rfl) (fun _ _ _ h => h) (by rfl) ?_ (by assumption) ?_
          rotate_left
          · (intro w hSw; go_simp; first | done | with_reducible rfl)
          simp only [List.setIfInBounds_toArray, List.set_cons_zero, List.set_cons_succ]
          refine takeK 2 34 (v := ?_) rfl rfl (by kernel_rfl) (by kernel_rfl) (by kernel_rfl) (by kernel_rfl) (fun _ _ _ h => h) (by rfl) ?_ (by assumption) ?_
          rotate_left
          · (intro w hSw; go_simp; first | done | with_reducible rfl)
          simp only [List.setIfInBounds_toArray, List.set_cons_zero, List.set_cons_succ]
          refine takeK 3 35 (v := ?_) rfl rfl (by kernel_rfl) (by kernel_rfl) (by kernel_rfl) (by kernel_rfl) (fun _ _ _ h => h) (by rfl) ?_ (by assumption) ?_
          rotate_left
          · (intro w hSw; go_simp; first | done | with_reducible rfl)
          simp only [List.setIfInBounds_toArray, List.set_cons_zero, List.set_cons_succ]
          refine takeK 4 36 (v := ?_) rfl rfl (by kernel_rfl) (by kernel_rfl) (by kernel_rfl) (by kernel_rfl) (fun _ _ _ h => h) (by rfl) ?_ (by assumption) ?_
          rotate_left
          · (intro w hSw; go_simp; first | done | with_reducible rfl)
          simp only [List.setIfInBounds_toArray, List.set_cons_zero, List.set_cons_succ]
          refine takeK 5 37 (v := ?_) rfl rfl (by kernel_rfl) (by kernel_rfl) (by kernel_rfl) (by kernel_rfl) (fun _ _ _ h => h) (by rfl) ?_ (by assumption) ?_
          rotate_left
          · (intro w hSw; go_simp; first | done | with_reducible rfl)
          simp only [List.setIfInBounds_toArray, List.set_cons_zero, List.set_cons_succ]
          refine takeK 6 38 (v := ?_) rfl rfl (by kernel_rfl) (by kernel_rfl) (by kernel_rfl) (by kernel_rfl) (fun _ _ _ h => h) (by rfl) ?_ (by assumption) ?_
          rotate_left
          · (intro w hSw; go_simp; first | done | with_reducible rfl)
          simp only [List.setIfInBounds_toArray, List.set_cons_zero, List.set_cons_succ]
          refine takeK 7 39 (v := ?_) rfl rfl (by kernel_rfl) (by kernel_rfl) (by kernel_rfl) (by kernel_rfl) (fun _ _ _ h => h) (by rfl) ?_ (by assumption) ?_
          rotate_left
          · (intro w hSw; go_simp; first | done | with_reducible rfl)
          simp only [List.setIfInBounds_toArray, List.set_cons_zero, List.set_cons_succ]
          refine takeK 8 40 (v := ?_) rfl rfl (by kernel_rfl) (by kernel_rfl) (by kernel_rfl) (by kernel_rfl) (fun _ _ _ h => h) (by rfl) ?_ (by assumption) ?_
          rotate_left
          · (intro w hSw; go_simp; first | done | with_reducible rfl)
          simp only [List.setIfInBounds_toArray, List.set_cons_zero, List.set_cons_succ]
          refine takeK 9 41 (v := ?_) rfl rfl (by kernel_rfl) (by kernel_rfl) (by kernel_rfl) (by kernel_rfl) (fun _ _ _ h => h) (by rfl) ?_ (by assumption) ?_
          rotate_left
          · (intro w hSw; go_simp; first | done | with_reducible rfl)
          simp only [List.setIfInBounds_toArray, List.set_cons_zero, List.set_cons_succ]
          refine stepK 10 (by kernel_rfl) rfl (fun K hK => ?_)
          go_simp
          refine (of11_any _ lt i _ (AmtsAt.below HRU.out.take (Below.refl _ _).drew) (by omega) HTA.out (by omega)).mono ?_
          rintro e w' ⟨rfl, hw'⟩
          rw [hw']
          clear hHeld hw'
          go_wp2_with fail
          refine hK.out _ _ (⟨m1, n0, x6, x7⟩) (fun hHeld => ?_)
          clear hK K
          try simp only [Act.put, List.setIfInBounds_toArray, List.set_cons_zero, List.set_cons_succ]
          refine takeK 11 11 (v := ?_) rfl rfl (by kernel_rfl) (by kernel_rfl) (by kernel_rfl) (by kernel_rfl) (fun _ _ _ h => h) (by rfl) ?_ (by assumption) ?_
          rotate_left
          · (intro w hSw; go_simp; first | done | with_reducible rfl)
          simp only [List.setIfInBounds_toArray, List.set_cons_zero, List.set_cons_succ]
          refine doneK (by kernel_rfl) ?_ _
          clear hHeld
          obtain ⟨wp_, hwp⟩ : ∃ W, wr.drew = W := ⟨_, rfl⟩
          have HBp : Hid (Below wr.heap.size wr wp_) := Lib.hid (by rw [← hwp]; exact (Below.refl _ _).drew)
          rw [hwp]
          replace HB := Lib.hid (HB.out.trans (HBp.out.mono HB.out.size))
          replace HX := Lib.hid (HX.out.below HBp.out)
          replace HBk := Lib.hid (HBk.out.trans (HBp.out.mono HBk.out.size))
          obtain ⟨T, hTT⟩ : ∃ T, ofI lt i = T := ⟨_, rfl⟩
          rw [hTT] at hT HEQ ⊢
          clear m0 m1 m2 m3 mlt n0 x6 x7 hwp HBp HRU HTA HGA HGR HTK HNX HNL hTT hb1 hb2 hb2r
          go_wp2_with fail
          go_loopw [11, 12] (fun v q wr => ∃ j : Nat, j ≤ k ∧ q = .int .i64 j ∧ v = .int .i64 ((T : Int) - netF i (rsOf c (s.take j))) ∧ Hid (Below wp_.heap.size wp_ wr)) (fun _ q _ => k - (intOf q).toNat)
          case atStart => exact ⟨0, by omega, rfl, by simp [rsOf, netF], Lib.hid (Below.refl _ _)⟩
          case round =>
            obtain ⟨j, hj, rfl, rfl, HBj⟩ := hrel
            have HBv := HB
            replace HB := Lib.hid (HB.out.trans (HBj.out.mono HB.out.size))
            replace HX := Lib.hid (HX.out.below HBj.out)
            by_cases hlt3 : j < k
            · have hlt4 : j < s.length := by omega
              obtain ⟨b1, cap1, hv1, hb1, n00⟩ := NatsOf.at_ HS.out j hlt4
              injection hv1 with e1 e2 e3
              try injection e1 with e1
              try injection e1 with e1
              subst e1
              clear e2 e3
              have n0 := (HB.out.cell (p := ⟨b1, j, none⟩) hb1).trans n00
              have hsj := HU.out.lt s[j] (List.getElem_mem hlt4)
              obtain ⟨b2, cap2, p, hv2, hb2, hr, hcs00⟩ := RulesAt.at_ HC.out.rules s[j] hsj
              injection hv2 with e1 e2 e3
              try injection e1 with e1
              try injection e1 with e1
              subst e1
              clear e2 e3
              have hcs0 := hcs00.below HB.out hb2
              have x6 := hcs0.c6
              have x7 := hcs0.c7
              have HGR := Lib.hid (HF.out.good.each c.rules[s[j]] (List.getElem_mem hsj))
              have HTK := Lib.hid (rsOf_take c s j hlt4 hsj)
              have HNX := Lib.hid (netF_le i (rsOf c (s.take j)) (rsOf_good HF.out.good _))
              have HNL := Lib.hid (rsOf_len c (s.take j))
              have HRU := Lib.hid (hr.below HB.out)
              have hb2r : b2 < wr.heap.size := Nat.lt_of_lt_of_le hb2 HB.out.size
              have i9 : (j : Int) < (s.length : Int) := by omega
              clear hr hcs0 hcs00 n00
              generalize c.rules[s[j]] = r at *
              generalize s[j] = sj at *
              obtain ⟨rn, rs, rt, ro, lt, lg, lb⟩ := r
              simp only [] at x6 x7
              have hsj2 : (sj : Int) < (c.rules.length : Int) := by omega
              have hT := ofI_le HGR.out.take i
              have hG := ofI_le HGR.out.give i
              have hlt9 := HGR.out.take.len
              have hlg9 := HGR.out.give.len
              simp only [] at hT hG hlt9 hlg9
              have HTA : Hid (∀ a ∈ lt, a.n ≤ 1000000) := Lib.hid (fun a ha => by have := HGR.out.take.all a ha; omega)
              have HGA : Hid (∀ a ∈ lg, a.n ≤ 1000000) := Lib.hid (fun a ha => by have := HGR.out.give.all a ha; omega)
              have m0 := HX.out.c0
              have m1 := HX.out.c1
              have m2 := HX.out.c2
              have m3 := HX.out.c3
              have mlt := HX.out.lt
              have hnx := HNX.out
              have hnl := HNL.out
              rw [List.length_take] at hnl
              have HEQ2 : Hid (netF i (rsOf c (s.take (j + 1))) = netF i (rsOf c (s.take j)) + (ofI lg i : Nat) - (ofI lt i : Nat)) := Lib.hid (by rw [HTK.out, netF_snoc]; unfold effI; simp only []; omega)
              obtain ⟨M, hM⟩ : ∃ M, netF i (rsOf c (s.take j)) = M := ⟨_, rfl⟩
              rw [hM] at hnx HEQ2 ⊢
              have hw1 : IntKind.i64.wrap ((T : Int) - M + ((ofI lt i : Nat) : Int)) = (T : Int) - M + ((ofI lt i : Nat) : Int) := IntWalk.i64_in _ (by omega)
              have hw2 : IntKind.i64.wrap ((T : Int) - M + ((ofI lt i : Nat) : Int) - ((ofI lg i : Nat) : Int)) = (T : Int) - M + ((ofI lt i : Nat) : Int) - ((ofI lg i : Nat) : Int) := IntWalk.i64_in _ (by omega)
              clear hM hnx hnl
              go_wp2_with fail
              refine startK 99 (fun W => W.cell? ⟨w.heap.size, 1, none⟩ = some (.slice (some ⟨b2, 0, none⟩) c.rules.length cr) ∧ W.cell? ⟨b1, j, none⟩ = some (.int .i64 (sj : Int)) ∧ W.cell? ⟨b2, sj * 9 + 6, none⟩ = some (.slice p.at_ lt.length p.ct) ∧ W.cell? ⟨b2, sj * 9 + 7, none⟩ = some (.slice p.ag lg.length p.cg)) (by kernel_rfl) (⟨m1, n0, x6, x7⟩) (fun hHeld => ?_)
              refine takeK 0 48 (v := ?_) rfl rfl (by kernel_rfl) (by kernel_rfl) (by kernel_rfl) (by kernel_rfl) (fun _ _ _ h => h) (by rfl) ?_ (by assumption) ?_
              rotate_left
              · (intro w hSw; go_simp; first | done | with_reducible rfl)
              simp only [List.setIfInBounds_toArray, List.set_cons_zero, List.set_cons_succ]
              refine takeK 1 49 (v := ?_) rfl rfl (by kernel_rfl) (by kernel_rfl) (by kernel_rfl) (by kernel_rfl) (fun _ _ _ h => h) (by rfl) ?_ (by assumption) ?_
              rotate_left
              · (intro w hSw; go_simp; first | done | with_reducible rfl)
              simp only [List.setIfInBounds_toArray, List.set_cons_zero, List.set_cons_succ]
              refine takeK 2 50 (v := ?_) rfl rfl (by kernel_rfl) (by kernel_rfl) (by kernel_rfl) (by kernel_rfl) (fun _ _ _ h => h) (by rfl) ?_ (by assumption) ?_
              rotate_left
              · (intro w hSw; go_simp; first | done | with_reducible rfl)
              simp only [List.setIfInBounds_toArray, List.set_cons_zero, List.set_cons_succ]
              refine takeK 3 51 (v := ?_) rfl rfl (by kernel_rfl) (by kernel_rfl) (by kernel_rfl) (by kernel_rfl) (fun _ _ _ h => h) (by rfl) ?_ (by assumption) ?_
              rotate_left
              · (intro w hSw; go_simp; first | done | with_reducible rfl)
              simp only [List.setIfInBounds_toArray, List.set_cons_zero, List.set_cons_succ]
              refine takeK 4 52 (v := ?_) rfl rfl (by kernel_rfl) (by kernel_rfl) (by kernel_rfl) (by kernel_rfl) (fun _ _ _ h => h) (by rfl) ?_ (by assumption) ?_
              rotate_left
              · (intro w hSw; go_simp; first | done | with_reducible rfl)
              simp only [List.setIfInBounds_toArray, List.set_cons_zero, List.set_cons_succ]
              refine takeK 5 53 (v := ?_) rfl rfl (by kernel_rfl) (by kernel_rfl) (by kernel_rfl) (by kernel_rfl) (fun _ _ _ h => h) (by rfl) ?_ (by assumption) ?_
              rotate_left
              · (intro w hSw; go_simp; first | done | with_reducible rfl)
              simp only [List.setIfInBounds_toArray, List.set_cons_zero, List.set_cons_succ]
              refine takeK 6 54 (v := ?_) rfl rfl (by kernel_rfl) (by kernel_rfl) (by kernel_rfl) (by kernel_rfl) (fun _ _ _ h => h) (by rfl) ?_ (by assumption) ?_
              rotate_left
              · (intro w hSw; go_simp; first | done | with_reducible rfl)
              simp only [List.setIfInBounds_toArray, List.set_cons_zero, List.set_cons_succ]
              refine takeK 7 55 (v := ?_) rfl rfl (by kernel_rfl) (by kernel_rfl) (by kernel_rfl) (by kernel_rfl) (fun _ _ _ h => h) (by rfl) ?_ (by assumption) ?_
              rotate_left
              · (intro w hSw; go_simp; first | done | with_reducible rfl)
              simp only [List.setIfInBounds_toArray, List.set_cons_zero, List.set_cons_succ]
              refine takeK 8 56 (v := ?_) rfl rfl (by kernel_rfl) (by kernel_rfl) (by kernel_rfl) (by kernel_rfl) (fun _ _ _ h => h) (by rfl) ?_ (by assumption) ?_
              rotate_left
              · (intro w hSw; go_simp; first | done | with_reducible rfl)
              simp only [List.setIfInBounds_toArray, List.set_cons_zero, List.set_cons_succ]
              refine takeK 9 57 (v := ?_) rfl rfl (by kernel_rfl) (by kernel_rfl) (by kernel_rfl) (by kernel_rfl) (fun _ _ _ h => h) (by rfl) ?_ (by assumption) ?_
              rotate_left
              · (intro w hSw; go_simp; first | done | with_reducible rfl)
              simp only [List.setIfInBounds_toArray, List.set_cons_zero, List.set_cons_succ]
              refine takeK 10 58 (v := ?_) rfl rfl (by kernel_rfl) (by kernel_rfl) (by kernel_rfl) (by kernel_rfl) (fun _ _ _ h => h) (by rfl) ?_ (by assumption) ?_
              rotate_left
              · (intro w hSw; go_simp; first | done | with_reducible rfl)
              simp only [List.setIfInBounds_toArray, List.set_cons_zero, List.set_cons_succ]
              refine takeK 13 61 (v := ?_) rfl rfl (by kernel_rfl) (by kernel_rfl) (by kernel_rfl) (by kernel_rfl) (fun _ _ _ h => h) (by rfl) ?_ (by assumption) ?_
              rotate_left
              · (intro w hSw; go_simp; first | done | with_reducible rfl)
              simp only [List.setIfInBounds_toArray, List.set_cons_zero, List.set_cons_succ]
              refine takeK 14 62 (v := ?_) rfl rfl (by kernel_rfl) (by kernel_rfl) (by kernel_rfl) (by kernel_rfl) (fun _ _ _ h => h) (by rfl) ?_ (by assumption) ?_
              rotate_left
              · (intro w hSw; go_simp; first | done | with_reducible rfl)
              simp only [List.setIfInBounds_toArray, List.set_cons_zero, List.set_cons_succ]
              refine takeK 15 63 (v := ?_) rfl rfl (by kernel_rfl) (by kernel_rfl) (by kernel_rfl) (by kernel_rfl) (fun _ _ _ h => h) (by rfl) ?_ (by assumption) ?_
              rotate_left
              · (intro w hSw; go_simp; first | done | with_reducible rfl)
              simp only [List.setIfInBounds_toArray, List.set_cons_zero, List.set_cons_succ]
              refine takeK 16 64 (v := ?_) rfl rfl (by kernel_rfl) (by kernel_rfl) (by kernel_rfl) (by kernel_rfl) (fun _ _ _ h => h) (by rfl) ?_ (by assumption) ?_
              rotate_left
              · (intro w hSw; go_simp; first | done | with_reducible rfl)
              simp only [List.setIfInBounds_toArray, List.set_cons_zero, List.set_cons_succ]
              refine takeK 17 65 (v := ?_) rfl rfl (by kernel_rfl) (by kernel_rfl) (by kernel_rfl) (by kernel_rfl) (fun _ _ _ h => h) (by rfl) ?_ (by assumption) ?_
              rotate_left
              · (intro w hSw; go_simp; first | done | with_reducible rfl)
              simp only [List.setIfInBounds_toArray, List.set_cons_zero, List.set_cons_succ]
              refine takeK 18 66 (v := ?_) rfl rfl (by kernel_rfl) (by kernel_rfl) (by kernel_rfl) (by kernel_rfl) (fun _ _ _ h => h) (by rfl) ?_ (by assumption) ?_
              rotate_left
              · (intro w hSw; go_simp; first | done | with_reducible rfl)
              simp only [List.setIfInBounds_toArray, List.set_cons_zero, List.set_cons_succ]
              refine takeK 19 67 (v := ?_) rfl rfl (by kernel_rfl) (by kernel_rfl) (by kernel_rfl) (by kernel_rfl) (fun _ _ _ h => h) (by rfl) ?_ (by assumption) ?_
              rotate_left
              · (intro w hSw; go_simp; first | done | with_reducible rfl)
              simp only [List.setIfInBounds_toArray, List.set_cons_zero, List.set_cons_succ]
              refine takeK 20 68 (v := ?_) rfl rfl (by kernel_rfl) (by kernel_rfl) (by kernel_rfl) (by kernel_rfl) (fun _ _ _ h => h) (by rfl) ?_ (by assumption) ?_
              rotate_left
              · (intro w hSw; go_simp; first | done | with_reducible rfl)
              simp only [List.setIfInBounds_toArray, List.set_cons_zero, List.set_cons_succ]
              refine takeK 21 69 (v := ?_) rfl rfl (by kernel_rfl) (by kernel_rfl) (by kernel_rfl) (by kernel_rfl) (fun _ _ _ h => h) (by rfl) ?_ (by assumption) ?_
              rotate_left
              · (intro w hSw; go_simp; first | done | with_reducible rfl)
              simp only [List.setIfInBounds_toArray, List.set_cons_zero, List.set_cons_succ]
              refine takeK 22 70 (v := ?_) rfl rfl (by kernel_rfl) (by kernel_rfl) (by kernel_rfl) (by kernel_rfl) (fun _ _ _ h => h) (by rfl) ?_ (by assumption) ?_
              rotate_left
              · (intro w hSw; go_simp; first | done | with_reducible rfl)
              simp only [List.setIfInBounds_toArray, List.set_cons_zero, List.set_cons_succ]
              refine stepK 11 (by kernel_rfl) rfl (fun K hK => ?_)
              go_simp
              refine (of11_any _ lt i _ (AmtsAt.below HRU.out.take (Below.refl _ _).drew) (by omega) HTA.out (by omega)).mono ?_
              rintro e w' ⟨rfl, hw'⟩
              rw [hw']
              clear hHeld hw'
              go_wp2_with fail
              refine hK.out _ _ (⟨m1, n0, x6, x7⟩) (fun hHeld => ?_)
              clear hK K
              try simp only [Act.put, List.setIfInBounds_toArray, List.set_cons_zero, List.set_cons_succ]
              refine takeK 12 60 (v := ?_) rfl rfl (by kernel_rfl) (by kernel_rfl) (by kernel_rfl) (by kernel_rfl) (fun _ _ _ h => h) (by rfl) ?_ (by assumption) ?_
              rotate_left
              · (intro w hSw; go_simp; first | done | with_reducible rfl)
              simp only [List.setIfInBounds_toArray, List.set_cons_zero, List.set_cons_succ]
              refine stepK 23 (by kernel_rfl) rfl (fun K hK => ?_)
              go_simp
              refine (of11_any _ lg i _ (AmtsAt.below HRU.out.give (Below.refl _ _).drew) (by omega) HGA.out (by omega)).mono ?_
              rintro e w' ⟨rfl, hw'⟩
              rw [hw']
              clear hHeld hw'
              go_wp2_with fail
              refine hK.out _ _ (⟨m1, n0, x6, x7⟩) (fun hHeld => ?_)
              clear hK K
              try simp only [Act.put, List.setIfInBounds_toArray, List.set_cons_zero, List.set_cons_succ]
              refine takeK 24 72 (v := ?_) rfl rfl (by kernel_rfl) (by kernel_rfl) (by kernel_rfl) (by kernel_rfl) (fun _ _ _ h => h) (by rfl) ?_ (by assumption) ?_
              rotate_left
              · (intro w hSw; go_simp; first | done | with_reducible rfl)
              simp only [List.setIfInBounds_toArray, List.set_cons_zero, List.set_cons_succ]
              refine takeK 25 11 (v := ?_) rfl rfl (by kernel_rfl) (by kernel_rfl) (by kernel_rfl) (by kernel_rfl) (fun _ _ _ h => h) (by rfl) ?_ (by assumption) ?_
              rotate_left
              · (intro w hSw; go_simp; first | done | with_reducible rfl)
              simp only [List.setIfInBounds_toArray, List.set_cons_zero, List.set_cons_succ]
              refine doneK (by kernel_rfl) ?_ _
              clear hHeld
              clear m0 m1 m2 m3 mlt n0 x6 x7
              go_wp2_with fail
              go_roundw
              case rel => exact ⟨j + 1, by omega, by go_num, by rw [HEQ2.out]; congr 1; omega, Lib.hid HBj.out.drew⟩
              case measure => simp [intOf]; omega
            · obtain rfl : k = j := by omega
              have hq : decide ((k : Int) < (k : Int)) = false := decide_eq_false (by omega)
              have hBkj := HBk.out.trans (HBj.out.mono HBk.out.size)
              have HBkj := Lib.hid hBkj
              obtain ⟨M, hM⟩ : ∃ M, (T : Int) - netF i (rsOf c (s.take k)) = M := ⟨_, rfl⟩
              rw [hM] at HEQ ⊢
              clear hM hBkj
              go_wp2_with fail
              go_roundw
              case rel => exact ⟨k + 1, by omega, by go_num, by rw [HEQ.out], HBkj⟩
              case measure => simp [intOf]; omega
        · have hks : s.take k = s := List.take_of_length_le (by omega)
          have hq : decide ((k : Int) < (s.length : Int)) = false := decide_eq_false (by omega)
          rw [hks]
          have m0 := HX.out.c0
          have m1 := HX.out.c1
          have m2 := HX.out.c2
          have m3 := HX.out.c3
          have mlt := HX.out.lt
          obtain ⟨V, hV⟩ : ∃ V, needF i (rsOf c s) = V := ⟨_, rfl⟩
          rw [hV] at HLT ⊢
          have HOr := Lib.hid ((Only.of_below (S := fun _ => False) HBk.out).own HO.out (fun _ _ h => h))
          have HBr := Lib.hid (HBl.out.trans (HBk.out.mono HBl.out.size))
          go_wp2_with (at_builtin; refine wpList_app1 (W0 := w2) elemInt rfl _ _ rfl [.int .i64 V] 3 _ _ _ rfl rfl rfl (by simp [Value.oneCell']) HOr.out HBr.out HBr.out.size (by omega) (by omega) ?_)
          intro g6 cap6 w6 Hown6 HB6 HO6 hcap6 hat6
          have Hown7 : Hid (w6.ownsRow w2.heap.size 3 1 (.slice (some ⟨g6, 0, none⟩) (i + 1) cap6) (i + 1) (((needL c s).take (i + 1)).map zv)) := Lib.hid (by rw [HLT.out]; have h9 := Hown6.out; simpa [zv] using h9)
          have hcl : i + 1 ≤ cap6 := by
            rcases Hown7.out.2 with ⟨hv, _⟩ | ⟨_, _, _, hv, _, _, h4, h3, _⟩
            · cases hv
            · injection hv with _ _ e; omega
          clear Hown6 HO6 hat6 HO HOr m0 m1 m2 m3 mlt
          go_wp2_with fail
          go_roundw
          case rel => exact ⟨i + 1, some ⟨g6, 0, none⟩, cap6, by omega, by go_num, rfl, hcap6, hcl, Hown7, HB6⟩
          case measure => simp [intOf]; omega
    · obtain rfl : c.items.length = i := by omega
      have HR : Hid (IntsOf wr (.slice ga (needL c s).length gc) (needL c s)) := Lib.hid (ints_of_own (by
        have h9 := HO.out
        rw [List.take_of_length_le (by omega)] at h9
        rw [hLL]
        exact h9))
      rw [hLL] at HR
      clear HO
      go_wp2_with fail
      go_ret2
      exact ⟨⟨_, rfl, HR.out⟩, HB.out⟩
end Go.Proofs.YtfpcgjgkbniofaaGreatDoor
