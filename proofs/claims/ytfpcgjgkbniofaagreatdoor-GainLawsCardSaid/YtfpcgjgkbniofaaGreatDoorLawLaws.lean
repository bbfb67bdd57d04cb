/- the law GainLaws: its walk. -/
import Derived.Test.YtfpcgjgkbniofaaGreatDoorGBalP
import Derived.Test.YtfpcgjgkbniofaaGreatDoorGRef
import Derived.Test.YtfpcgjgkbniofaaGreatDoorGLives
import Derived.Test.YtfpcgjgkbniofaaGreatDoorRegLast
set_option linter.unusedVariables false
set_option linter.unusedSimpArgs false
namespace Go.Proofs.YtfpcgjgkbniofaaGreatDoor
open Go.RowKit
attribute [local go_sem] Oper.semAt_some

theorem PickIs.below {w w' : World} {v : Value} {pk : Nat → Nat → Nat} (h : PickIs w v pk) (hb : Below w.heap.size w w') : PickIs w' v pk := fun W hB => h W (hb.trans (hB.mono hb.size))
theorem us_of {c : Cat} {s : List Nat} (hl : s.length ≤ 64) (h : ∀ x ∈ s, x ∈ usL c) : UsS c s := by
  refine ⟨hl, fun i hi => ?_⟩
  have h1 := List.mem_filter.1 (h i hi)
  have h2 := List.mem_range.1 h1.1
  refine ⟨h2, ?_⟩
  have h3 := h1.2
  unfold usI at h3
  simpa [h2] using h3
theorem sumQ_le (n : Nat) (f : Nat → Int) (M : Int) (hM : 0 ≤ M) (h : ∀ i, -M ≤ f i ∧ f i ≤ M) : -(M * n) ≤ sumQ n f ∧ sumQ n f ≤ M * n := by
  induction n with
  | zero => simp [sumQ]
  | succ n ih =>
    have := h n
    rw [sumQ, Int.natCast_add, Int.mul_add]
    omega
theorem prod_bd (x y : Int) (h1 : 0 ≤ x) (h2 : x ≤ 4) (h3 : -24000 ≤ y) (h4 : y ≤ 24000) : -96000 ≤ x * y ∧ x * y ≤ 96000 := by
  rcases (show x = 0 ∨ x = 1 ∨ x = 2 ∨ x = 3 ∨ x = 4 by omega) with rfl | rfl | rfl | rfl | rfl <;> omega

set_option maxRecDepth 100000 in
set_option maxHeartbeats 8000000 in
theorem gainLaws_any (v1 : Value) (zs : List Int) (n1 : Nat) (v2 : Value) (ys : List Int) (n2 : Nat) (w : World) (h1 : IntsAt w v1 zs n1) (h2 : IntsAt w v2 ys n2) (hK : Kinds w) :
    Calls Tryz.prog 6 #[v1, v2] w fun e w' => e = .returned (.bool true) ∧ Below w.heap.size w w' := by
  have HI := Lib.hid h1
  have HVL := Lib.hid (pickIs_of h1)
  have HV := Lib.hid (pickIs_of h2)
  have HP := Lib.hid (picks_of ys n2)
  have HP1 := Lib.hid (picks_of zs n1)
  have HK := Lib.hid hK
  have HB := Lib.hid (Below.refl w.heap.size w)
  have hcat := fun W h => catalog_any v1 zs n1 true W h
  obtain ⟨pk, hpk⟩ : ∃ pk, pkOf ys n2 = pk := ⟨_, rfl⟩
  rw [hpk] at HV HP
  obtain ⟨p1, hp1⟩ : ∃ pk, pkOf zs n1 = pk := ⟨_, rfl⟩
  rw [hp1] at HVL HP1 hcat
  have HCAT := Lib.hid hcat
  clear h1 h2 hK hpk hp1 hcat
  go_enter Tryz.func6, Tryz.ntmps6
  go_wp2_with fail
  refine (HCAT.out _ (HI.out.below (Nat.le_refl _) HB.out)).mono ?_
  rintro e w1 ⟨⟨vi, vr, rfl, hc⟩, hB⟩
  have hbal := genCat_bal HP1.out
  obtain ⟨c, hcc⟩ : ∃ c, genCat p1 true = c := ⟨_, rfl⟩
  have hf := genCat_fine (bal := true) HP1.out
  have hr6 := genCat_rules (bal := true) HP1.out
  rw [hcc] at hc hf hr6 hbal
  have HF := Lib.hid hf
  replace HB := Lib.hid (HB.out.trans (hB.mono HB.out.size))
  obtain ⟨ai, ci, rfl, hi1, hi2⟩ := hc.items.form
  obtain ⟨ar, cr, rfl, hr1, hr2⟩ := hc.rules.form
  have HC := Lib.hid hc
  have hl1 := hf.good.some_
  have hl6 := hf.good.items
  have HW1 := Lib.hid (fun i => genW_le HP1.out i)
  have hwp : ∀ i, (0 : Int) < ((genW p1 i : Nat) : Int) := fun i => by have := HW1.out i; omega
  have HSC := Lib.hid (scan_bal hf.good hr6 hwp hbal)
  have HHO := Lib.hid (holds_bal hf.good _ hbal)
  have HBAL := Lib.hid hbal
  clear hcc hf hc hB hbal hwp HCAT
  unfold catV
  have hmk := run_makeZ c.items.length (by omega)
  go_wp2_with fail
  clear hmk
  obtain ⟨w2, hw⟩ : ∃ w2, w1.alloc (.cells #[.slice ai c.items.length ci, .slice ar c.rules.length cr, .slice none 0 0, .slice none 0 0] 28) = w2 := ⟨_, rfl⟩
  have hB : Below w1.heap.size w1 w2 := by rw [← hw]; exact (Below.refl _ _).alloc (Nat.le_refl _) _
  have HX : Hid (BoxC w2 w1.heap.size (.slice ai c.items.length ci) (.slice ar c.rules.length cr)) := Lib.hid (by rw [← hw]; exact BoxC.new _ _ _)
  have hz2 : w2.heap.size = w1.heap.size + 1 := by rw [← hw]; simp
  replace HB := Lib.hid (HB.out.trans (hB.mono HB.out.size))
  replace HC := Lib.hid (HC.out.below hB)
  rw [hw]
  clear hw hB
  obtain ⟨w3, hw⟩ : ∃ w3, w2.alloc (.cells (bagL c.items.length (fun _ => 0)).toArray 3) = w3 := ⟨_, rfl⟩
  have hB : Below w2.heap.size w2 w3 := by rw [← hw]; exact (Below.refl _ _).alloc (Nat.le_refl _) _
  have HWB : Hid (BlkC w3 w2.heap.size 3 (bagL c.items.length (fun _ => 0))) := Lib.hid (by rw [← hw]; exact BlkC.new _ _ _)
  obtain ⟨bw, hbw⟩ : ∃ g, w2.heap.size = g := ⟨_, rfl⟩
  rw [hbw] at HWB hz2 hB
  rw [hw, ← hz2]
  have HB3 := Lib.hid hB
  have hbx1 : w1.heap.size < bw := by omega
  have hbw0 : w.heap.size ≤ bw := by have := HB.out.size; omega
  have HBW := Lib.hid hbw
  clear hw hB hz2 hbw
  go_loopw [7] (fun i wr => ∃ k : Nat, k ≤ c.items.length ∧ i = .int .i64 k ∧ Hid (BlkC wr bw 3 (bagL c.items.length (fun j => if j < k then ((genW p1 j : Nat) : Int) else 0))) ∧ Hid (Below bw w2 wr)) (fun i _ => c.items.length - (intOf i).toNat)
  case atStart => exact ⟨0, by omega, rfl, Lib.hid (by simpa using HWB.out), HB3⟩
  case round =>
    clear HWB HB3
    obtain ⟨k, hk, rfl, HWB, HB3⟩ := hrel
    by_cases hlt : k < c.items.length
    · have q1 : decide ((k : Int) < (c.items.length : Int)) = true := decide_eq_true (by omega)
      have q2 : decide (k < c.items.length) = true := decide_eq_true hlt
      have i1 : (0 : Int) ≤ (k : Int) := by omega
      have i2 : (k : Int) < (c.items.length : Int) := by omega
      have y2 := HWB.out.cell k
      rw [bagL_at _ _ _ hlt, if_neg (show ¬ k < k by omega)] at y2
      have y3 := HWB.out.frozen k
      have hBr : Below w.heap.size w wr := HB.out.trans (HB3.out.mono (by omega))
      have HPK := Lib.hid (HVL.out wr hBr ((1 : Int) + (k : Int)) (1 + k) 4 4 (by omega) rfl (by omega) (by omega) (by omega))
      have hg := HW1.out k
      have HG : Hid (genW p1 k = 1 + p1 (1 + k) 4) := Lib.hid rfl
      obtain ⟨pz, hpz⟩ : ∃ z, p1 (1 + k) 4 = z := ⟨_, rfl⟩
      rw [hpz] at HPK HG
      have hpz4 : pz ≤ 3 := by have := HG.out; omega
      clear hpz hg hBr
      go_wp2_with fail
      refine HPK.out.mono ?_
      rintro e w' ⟨rfl, rfl⟩
      obtain ⟨gz, hgz⟩ : ∃ z, 1 + pz = z := ⟨_, rfl⟩
      rw [hgz] at HG
      have hw1' : (1 : Int) + (pz : Int) = (gz : Int) := by omega
      have hgz4 : gz ≤ 4 := by omega
      clear hgz
      go_wp2_with fail
      obtain ⟨wn, hwn⟩ : ∃ W, w'.setCell ⟨bw, k, none⟩ (.int .i64 (gz : Int)) = W := ⟨_, rfl⟩
      have HWN : Hid (BlkC wn bw 3 (bagL c.items.length (fun j => if j < k + 1 then ((genW p1 j : Nat) : Int) else 0))) := Lib.hid (by
        have h9 := HWB.out.set k (.int .i64 (gz : Int))
        rw [hwn, bagL_set] at h9
        rw [bagL_congr _ _ (fun i => if i = k then (gz : Int) else if i < k then ((genW p1 i : Nat) : Int) else 0) (fun i _ => ?_)]
        · exact h9
        · by_cases e : i = k
          · rw [if_pos e, if_pos (by omega), e, HG.out]
          · rw [if_neg e]
            by_cases e2 : i < k
            · rw [if_pos e2, if_pos (by omega)]
            · rw [if_neg e2, if_neg (by omega)])
      have HBN : Hid (Below bw w2 wn) := Lib.hid (by rw [← hwn]; exact HB3.out.setCell (p := ⟨bw, k, none⟩) (Nat.le_refl _) _)
      clear y2 y3 hw1'
      try rw [hwn]
      clear hwn
      go_roundw
      case rel => exact ⟨k + 1, by omega, by go_num, HWN, HBN⟩
      case measure => simp [intOf]; omega
    · have q1 : decide ((k : Int) < (c.items.length : Int)) = false := decide_eq_false (by omega)
      have q2 : decide (k < c.items.length) = false := decide_eq_false hlt
      have HWF : Hid (IntsOf wr (.slice (some ⟨bw, 0, none⟩) c.items.length c.items.length) ((List.range c.items.length).map (fun j => ((genW p1 j : Nat) : Int)))) := Lib.hid (by
        have h9 := HWB.out
        rw [bagL_congr _ _ (fun j => ((genW p1 j : Nat) : Int)) (fun i hi => if_pos (by omega))] at h9
        exact ints_of_bag h9 (by omega))
      have hB : Below w2.heap.size w2 wr := by rw [HBW.out]; exact HB3.out
      replace HB := Lib.hid (HB.out.trans (hB.mono HB.out.size))
      replace HX := Lib.hid (HX.out.below hB)
      replace HC := Lib.hid (HC.out.below hB)
      have m0 := HX.out.c0
      have m1 := HX.out.c1
      have m2 := HX.out.c2
      have m3 := HX.out.c3
      have mlt := HX.out.lt
      clear hB HB3 HWB
      go_wp2_with fail
      clear q1 q2
      refine (callsIn_wide.1 (find_main _ _ c 4 100000 wr HC.out HF.out (by omega) (by omega) (by have := usT_len c c.rules.length; show (usT c c.rules.length).length ≤ 16; omega) (by omega) (by omega) (HK.out.keep HB.out))).mono ?_
      rintro e w4 ⟨hB, y1, y2, y3, b1, er, rfl, hfi⟩
      rw [HSC.out] at hfi
      obtain ⟨rfl, rfl, rfl, rfl, rfl⟩ := hfi
      unfold nilS
      replace HB := Lib.hid (HB.out.trans (hB.mono HB.out.size))
      replace HX := Lib.hid (HX.out.below hB)
      replace HC := Lib.hid (HC.out.below hB)
      clear m0 m1 m2 m3 mlt
      have m0 := HX.out.c0
      have m1 := HX.out.c1
      have m2 := HX.out.c2
      have m3 := HX.out.c3
      have mlt := HX.out.lt
      replace HWF := Lib.hid (HWF.out.below hB)
      clear hB
      go_wp2_with fail
      obtain ⟨w5, hw⟩ : ∃ W, w4.alloc (.cells #[.slice none 0 0, .slice none 0 0, .slice none 0 0] 42) = W := ⟨_, rfl⟩
      have hB : Below w4.heap.size w4 w5 := by rw [← hw]; exact (Below.refl _ _).alloc (Nat.le_refl _) _
      replace HB := Lib.hid (HB.out.trans (hB.mono HB.out.size))
      replace HX := Lib.hid (HX.out.below hB)
      replace HC := Lib.hid (HC.out.below hB)
      clear m0 m1 m2 m3 mlt
      have m0 := HX.out.c0
      have m1 := HX.out.c1
      have m2 := HX.out.c2
      have m3 := HX.out.c3
      have mlt := HX.out.lt
      replace HWF := Lib.hid (HWF.out.below hB)
      rw [hw]
      clear hw hB
      refine (sequence_any _ _ _ c pk 12 w5 HC.out (by omega) HP.out (HV.out.below HB.out) (by omega)).mono ?_
      rintro e w6 ⟨⟨vs, s, rfl, hs, hs12, hsu⟩, hB⟩
      obtain ⟨sa, sc, rfl, hs1, hs2⟩ := hs.form
      have HS := Lib.hid hs
      have HU := Lib.hid (us_of (by omega) hsu)
      have HSU := Lib.hid hsu
      replace HB := Lib.hid (HB.out.trans (hB.mono HB.out.size))
      replace HX := Lib.hid (HX.out.below hB)
      replace HC := Lib.hid (HC.out.below hB)
      clear m0 m1 m2 m3 mlt
      have m0 := HX.out.c0
      have m1 := HX.out.c1
      have m2 := HX.out.c2
      have m3 := HX.out.c3
      have mlt := HX.out.lt
      replace HWF := Lib.hid (HWF.out.below hB)
      clear hs hB hsu
      go_wp2_with fail
      refine (net_ok _ _ _ c s w6 HC.out HF.out HS.out HU.out (HK.out.keep HB.out)).mono ?_
      rintro e w7 ⟨⟨vn, rfl, hn⟩, hB⟩
      have hnl : (netL c s).length = c.items.length := by simp [netL]
      obtain ⟨na, nc, rfl, hn1, hn2⟩ := hn.form
      rw [hnl] at hn1 hn ⊢
      have HN := Lib.hid hn
      replace HB := Lib.hid (HB.out.trans (hB.mono HB.out.size))
      replace HX := Lib.hid (HX.out.below hB)
      replace HC := Lib.hid (HC.out.below hB)
      clear m0 m1 m2 m3 mlt
      have m0 := HX.out.c0
      have m1 := HX.out.c1
      have m2 := HX.out.c2
      have m3 := HX.out.c3
      have mlt := HX.out.lt
      replace HWF := Lib.hid (HWF.out.below hB)
      clear hn hB hnl
      go_wp2_with fail
      have h64 : B64 ((List.range c.items.length).map (fun j => ((genW p1 j : Nat) : Int))) := by
        intro i hi
        obtain ⟨q, _, rfl⟩ := List.mem_map.1 hi
        have := HW1.out q
        omega
      have hho := callsIn_wide.1 (holds_any (.slice ai c.items.length ci) (.slice ar c.rules.length cr) (.slice (some ⟨bw, 0, none⟩) c.items.length c.items.length) c _ w7 HC.out HF.out HWF.out h64 (HK.out.keep HB.out))
      rw [HHO.out] at hho
      refine hho.mono ?_
      clear hho h64
      rintro e w8 ⟨rfl, hB⟩
      replace HB := Lib.hid (HB.out.trans (hB.mono HB.out.size))
      replace HX := Lib.hid (HX.out.below hB)
      replace HC := Lib.hid (HC.out.below hB)
      clear m0 m1 m2 m3 mlt
      have m0 := HX.out.c0
      have m1 := HX.out.c1
      have m2 := HX.out.c2
      have m3 := HX.out.c3
      have mlt := HX.out.lt
      replace HWF := Lib.hid (HWF.out.below hB)
      replace HN := Lib.hid (HN.out.below hB)
      clear hB
      go_wp2_with fail
      have HT6 := Lib.hid (fun i => netF_le i (rsOf c s) (rsOf_good HF.out.good s))
      have hrl := rsOf_len c s
      have HZ := Lib.hid (net_bal (n := c.items.length) (rsOf c s) (rsOf_us HF.out.good HBAL.out HSU.out))
      clear m0 m1 m2 m3
      go_loopw [14, 15] (fun x i wr => ∃ k : Nat, k ≤ c.items.length ∧ i = .int .i64 k ∧ x = .int .i64 (sumQ k (fun i => ((genW p1 i : Nat) : Int) * netF i (rsOf c s))) ∧ Hid (Below w8.heap.size w8 wr)) (fun _ i _ => c.items.length - (intOf i).toNat)
      case atStart => exact ⟨0, by omega, rfl, rfl, Lib.hid (Below.refl _ _)⟩
      case round =>
        obtain ⟨k, hk, rfl, rfl, HBl⟩ := hrel
        by_cases hlt : k < c.items.length
        · have q1 : decide ((k : Int) < (c.items.length : Int)) = true := decide_eq_true (by omega)
          have q2 : decide (k < c.items.length) = true := decide_eq_true hlt
          obtain ⟨b1, c1, hv, hb1, x0⟩ := IntsOf.at_ (HWF.out.below HBl.out) k (by simpa using hlt)
          injection hv with e1 e2 e3
          injection e1 with e1
          injection e1 with e1
          subst e1
          clear e2 e3
          obtain ⟨b2, c2, hv, hb2, x1⟩ := IntsOf.at_ (HN.out.below HBl.out) k (by simpa [netL] using hlt)
          injection hv with e1 e2 e3
          subst e1
          clear e2 e3
          replace x0 : wr.cell? ⟨bw, k, none⟩ = some (.int .i64 ((genW p1 k : Nat) : Int)) := by rw [x0]; simp
          replace x1 : wr.cell? ⟨b2, k, none⟩ = some (.int .i64 (netF k (rsOf c s))) := by rw [x1]; simp [netL]
          have g1 := HW1.out k
          have g2 := HT6.out k
          have g3 := sumQ_le k (fun i => ((genW p1 i : Nat) : Int) * netF i (rsOf c s)) 96000 (by omega) (fun i => by
            have a := HW1.out i
            have b := HT6.out i
            exact prod_bd _ _ (by omega) (by omega) (by omega) (by omega))
          have g4 := prod_bd ((genW p1 k : Nat) : Int) (netF k (rsOf c s)) (by omega) (by omega) (by omega) (by omega)
          have HSS : Hid (sumQ (k + 1) (fun i => ((genW p1 i : Nat) : Int) * netF i (rsOf c s)) = sumQ k (fun i => ((genW p1 i : Nat) : Int) * netF i (rsOf c s)) + ((genW p1 k : Nat) : Int) * netF k (rsOf c s)) := Lib.hid rfl
          obtain ⟨sm, hsm⟩ : ∃ z, sumQ k (fun i => ((genW p1 i : Nat) : Int) * netF i (rsOf c s)) = z := ⟨_, rfl⟩
          obtain ⟨gw, hgw⟩ : ∃ z, ((genW p1 k : Nat) : Int) = z := ⟨_, rfl⟩
          obtain ⟨nt, hnt⟩ : ∃ z, netF k (rsOf c s) = z := ⟨_, rfl⟩
          obtain ⟨pr, hpr⟩ : ∃ z, gw * nt = z := ⟨_, rfl⟩
          rw [hsm] at g3 ⊢
          rw [hgw, hnt, hpr] at g4
          rw [hgw] at x0
          rw [hnt] at x1
          rw [hsm, hgw, hnt, hpr] at HSS
          obtain ⟨s2, hs2⟩ : ∃ z, sm + pr = z := ⟨_, rfl⟩
          rw [hs2] at HSS
          have hk6 : (k : Int) ≤ 6 := by omega
          have hwp : IntKind.i64.wrap pr = pr := IntWalk.i64_in _ (by omega)
          have hws : IntKind.i64.wrap s2 = s2 := IntWalk.i64_in _ (by omega)
          have i1 : (0 : Int) ≤ (k : Int) := by omega
          have i2 : (k : Int) < (c.items.length : Int) := by omega
          clear hsm hgw hnt g1 g2 g3 g4 hk6
          go_wp2_with fail
          refine startK 99 (fun W => W.cell? ⟨bw, k, none⟩ = some (.int .i64 gw) ∧ W.cell? ⟨b2, k, none⟩ = some (.int .i64 nt)) (by kernel_rfl) (⟨x0, x1⟩) (fun hHeld => ?_)
          refine takeK 0 79 (v := ?_) rfl rfl (by kernel_rfl) (by kernel_rfl) (by kernel_rfl) (by kernel_rfl) (fun _ _ _ h => h) (by rfl) ?_ (by assumption) ?_
          rotate_left
          · (intro w hSw; go_simp; first | done | with_reducible rfl)
          simp only [List.setIfInBounds_toArray, List.set_cons_zero, List.set_cons_succ]
          refine takeK 1 80 (v := ?_) rfl rfl (by kernel_rfl) (by kernel_rfl) (by kernel_rfl) (by kernel_rfl) (fun _ _ _ h => h) (by rfl) ?_ (by assumption) ?_
          rotate_left
          · (intro w hSw; go_simp; first | done | with_reducible rfl)
          simp only [List.setIfInBounds_toArray, List.set_cons_zero, List.set_cons_succ]
          refine takeK 2 81 (v := ?_) rfl rfl (by kernel_rfl) (by kernel_rfl) (by kernel_rfl) (by kernel_rfl) (fun _ _ _ h => h) (by rfl) ?_ (by assumption) ?_
          rotate_left
          · (intro w hSw; go_simp; first | done | with_reducible rfl)
          simp only [List.setIfInBounds_toArray, List.set_cons_zero, List.set_cons_succ]
          refine takeK 3 82 (v := ?_) rfl rfl (by kernel_rfl) (by kernel_rfl) (by kernel_rfl) (by kernel_rfl) (fun _ _ _ h => h) (by rfl) ?_ (by assumption) ?_
          rotate_left
          · (intro w hSw; go_simp; first | done | with_reducible rfl)
          simp only [List.setIfInBounds_toArray, List.set_cons_zero, List.set_cons_succ]
          refine takeK 4 83 (v := ?_) rfl rfl (by kernel_rfl) (by kernel_rfl) (by kernel_rfl) (by kernel_rfl) (fun _ _ _ h => h) (by rfl) ?_ (by assumption) ?_
          rotate_left
          · (intro w hSw; go_simp; first | done | with_reducible rfl)
          simp only [List.setIfInBounds_toArray, List.set_cons_zero, List.set_cons_succ]
          refine takeK 5 84 (v := ?_) rfl rfl (by kernel_rfl) (by kernel_rfl) (by kernel_rfl) (by kernel_rfl) (fun _ _ _ h => h) (by rfl) ?_ (by assumption) ?_
          rotate_left
          · (intro w hSw; go_simp; first | done | with_reducible rfl)
          simp only [List.setIfInBounds_toArray, List.set_cons_zero, List.set_cons_succ]
          refine takeK 6 85 (v := ?_) rfl rfl (by kernel_rfl) (by kernel_rfl) (by kernel_rfl) (by kernel_rfl) (fun _ _ _ h => h) (by rfl) ?_ (by assumption) ?_
          rotate_left
          · (intro w hSw; go_simp; first | done | with_reducible rfl)
          simp only [List.setIfInBounds_toArray, List.set_cons_zero, List.set_cons_succ]
          refine takeK 7 86 (v := ?_) rfl rfl (by kernel_rfl) (by kernel_rfl) (by kernel_rfl) (by kernel_rfl) (fun _ _ _ h => h) (by rfl) ?_ (by assumption) ?_
          rotate_left
          · (intro w hSw; go_simp; first | done | with_reducible rfl)
          simp only [List.setIfInBounds_toArray, List.set_cons_zero, List.set_cons_succ]
          refine takeK 8 87 (v := ?_) rfl rfl (by kernel_rfl) (by kernel_rfl) (by kernel_rfl) (by kernel_rfl) (fun _ _ _ h => h) (by rfl) ?_ (by assumption) ?_
          rotate_left
          · (intro w hSw; go_simp; first | done | with_reducible rfl)
          simp only [List.setIfInBounds_toArray, List.set_cons_zero, List.set_cons_succ]
          refine takeK 9 88 (v := ?_) rfl rfl (by kernel_rfl) (by kernel_rfl) (by kernel_rfl) (by kernel_rfl) (fun _ _ _ h => h) (by rfl) ?_ (by assumption) ?_
          rotate_left
          · (intro w hSw; go_simp; first | done | with_reducible rfl)
          simp only [List.setIfInBounds_toArray, List.set_cons_zero, List.set_cons_succ]
          refine takeK 10 89 (v := ?_) rfl rfl (by kernel_rfl) (by kernel_rfl) (by kernel_rfl) (by kernel_rfl) (fun _ _ _ h => h) (by rfl) ?_ (by assumption) ?_
          rotate_left
          · (intro w hSw; go_simp; first | done | with_reducible rfl)
          simp only [List.setIfInBounds_toArray, List.set_cons_zero, List.set_cons_succ]
          refine takeK 11 14 (v := ?_) rfl rfl (by kernel_rfl) (by kernel_rfl) (by kernel_rfl) (by kernel_rfl) (fun _ _ _ h => h) (by rfl) ?_ (by assumption) ?_
          rotate_left
          · (intro w hSw; go_simp; first | done | with_reducible rfl)
          simp only [List.setIfInBounds_toArray, List.set_cons_zero, List.set_cons_succ]
          refine doneK (by kernel_rfl) ?_ _
          clear hHeld
          go_wp2_with fail
          go_roundw
          case rel => exact ⟨k + 1, by omega, by go_num, by rw [HSS.out], Lib.hid HBl.out.drew⟩
          case measure => simp [intOf]; omega
        · obtain rfl : k = c.items.length := by omega
          have q1 : decide ((c.items.length : Int) < (c.items.length : Int)) = false := decide_eq_false (by omega)
          replace HB := Lib.hid (HB.out.trans (HBl.out.mono HB.out.size))
          rw [HZ.out]
          go_wp2_with fail
          refine (lives_any _ (HK.out.keep HB.out)).mono ?_
          rintro e w9 ⟨rfl, hB⟩
          replace HB := Lib.hid (HB.out.trans (hB.mono HB.out.size))
          clear hB
          go_wp2_with fail
          go_ret
          exact ⟨rfl, HB.out⟩
end Go.Proofs.YtfpcgjgkbniofaaGreatDoor
