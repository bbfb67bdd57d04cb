/- ref11.Find. -/
import Derived.Test.YtfpcgjgkbniofaaGreatDoorGRef2
import Derived.Test.YtfpcgjgkbniofaaGreatDoorGNext
set_option linter.unusedVariables false
set_option linter.unusedSimpArgs false
namespace Go.Proofs.YtfpcgjgkbniofaaGreatDoor
open Go.RowKit
attribute [local go_sem] Oper.semAt_some

theorem chn_at (k : Nat) : ∀ (E : List (List Nat)), Chn k E → ∀ q (h : q < E.length), nextL k E[q] = E[q + 1]?
  | [], _, q, h => by simp at h
  | [s], h, q, hq => by
    obtain rfl : q = 0 := by simp at hq; omega
    exact h
  | s :: t :: r, h, 0, _ => h.1
  | s :: t :: r, h, q + 1, hq => by
    have := chn_at k (t :: r) h.2 q (by simpa using hq)
    simpa using this
def posE (k n : Nat) : List (List Nat) := ext n (List.range' 0 k)
def getU (U : List Nat) (i : Nat) : Nat := U[i]?.getD 0
theorem getU_range (U : List Nat) : (List.range' 0 U.length).map (getU U) = U := by
  apply List.ext_getElem
  · simp
  · intro i h1 h2
    simp [getU, h2]
theorem ext_pos (U : List Nat) (n : Nat) : ext n U = (posE U.length n).map (List.map (getU U)) := by
  unfold posE
  rw [← ext_map, getU_range]
theorem posE_chain (k n : Nat) (hk : 1 ≤ k) : Chn k (posE k n) ∧ (posE k n).head? = some (List.replicate n 0) := by
  obtain ⟨c, rfl⟩ : ∃ c, k = c + 1 := ⟨k - 1, by omega⟩
  have := ext_chain (c + 1) n c 0 (by omega)
  exact ⟨this.1, this.2.1⟩
theorem posE_mem {k n : Nat} {P : List Nat} (h : P ∈ posE k n) : P.length = n ∧ ∀ x ∈ P, x < k := by
  obtain ⟨h1, h2, _⟩ := ext_mem h
  refine ⟨h1, fun x hx => ?_⟩
  have := h2 x hx
  simp [List.mem_range'] at this
  omega
/-- the sequences of more than n rules -/
def restS (U : List Nat) (most n : Nat) : List (List Nat) := (List.range' n (most - n)).flatMap (fun k => ext (k + 1) U)
theorem restS_zero (U : List Nat) (most : Nat) : restS U most 0 = seqs U most := by
  unfold restS seqs
  rw [Nat.sub_zero, List.range_eq_range']
theorem restS_step (U : List Nat) (most n : Nat) (h : n < most) : restS U most n = ext (n + 1) U ++ restS U most (n + 1) := by
  unfold restS
  rw [show most - n = (most - (n + 1)) + 1 by omega, List.range'_succ, List.flatMap_cons]
theorem restS_end (U : List Nat) (most : Nat) : restS U most most = [] := by simp [restS]
theorem seqs_empty (most : Nat) : seqs [] most = [] := by simp [seqs, ext, extL]
/-- what is still to be searched: from place q of the sequences of n rules on -/
def leftS (U : List Nat) (most n q : Nat) : List (List Nat) := ((posE U.length n).drop q).map (List.map (getU U)) ++ restS U most n
theorem leftS_zero (U : List Nat) (most n : Nat) (h : n < most) : restS U most n = leftS U most (n + 1) 0 := by
  unfold leftS
  rw [restS_step U most n h, ext_pos, List.drop_zero]
theorem leftS_at (U : List Nat) (most n q : Nat) (h : q < (posE U.length n).length) : leftS U most n q = (posE U.length n)[q].map (getU U) :: leftS U most n (q + 1) := by
  unfold leftS
  rw [List.drop_eq_getElem_cons h]
  rfl
theorem leftS_end (U : List Nat) (most n q : Nat) (h : (posE U.length n).length ≤ q) : leftS U most n q = restS U most n := by
  unfold leftS
  rw [List.drop_eq_nil_of_le h]
  rfl
theorem nats_blk {w : World} {g n : Nat} {t : TypeId} (h : BlkC w g t (bagL n (fun _ => 0))) (hn : n ≤ 1000) : NatsOf w (.slice (some ⟨g, 0, none⟩) n n) (List.replicate n 0) := by
  refine ⟨_, n, by simp, by simp, by omega, fun h0 => ⟨g, rfl, h.lt, fun j hj => ⟨_, rfl, rfl, fun i hi => ?_⟩⟩⟩
  obtain rfl : i = 0 := by omega
  rw [List.length_replicate] at hj
  rw [Nat.mul_one, Nat.add_zero, h.cell, bagL_at _ _ _ hj]
  simp [zv]

set_option maxRecDepth 100000 in
set_option maxHeartbeats 8000000 in
theorem rfind_main (vi vr : Value) (c : Cat) (most : Nat) (fuel : Int) (w : World) (hc : CatAt w vi vr c) (hf : Fine c) (hm1 : 1 ≤ most) (hm8 : most ≤ 8) (hu16 : (usL c).length ≤ 16) (hf1 : -9223372036854775808 ≤ fuel) (hf2 : fuel ≤ 9223372036854775807) :
    Calls Tryz.prog 19 #[catV vi vr, .int .i64 (most : Int), .int .i64 fuel] w (FindPost c (scan (gainS c) (seqs (usL c) most) fuel) w) := by
  obtain ⟨ai, ci, rfl, hi1, hi2⟩ := hc.items.form
  obtain ⟨ar, cr, rfl, hr1, hr2⟩ := hc.rules.form
  have HC := Lib.hid hc
  have HF := Lib.hid hf
  have hli := hf.good.items
  have hlr := hf.good.rules
  clear hc hf
  unfold catV
  obtain ⟨w1, hw1⟩ : ∃ w1, (w.alloc (.cells #[.slice ai c.items.length ci, .slice ar c.rules.length cr, .slice none 0 0, .slice none 0 0] 28)).alloc (.cells #[.slice none 0 0, .slice none 0 0, .slice none 0 0] 45) = w1 := ⟨_, rfl⟩
  have HB : Hid (Below w.heap.size w w1) := Lib.hid (by rw [← hw1]; exact ((Below.refl _ _).alloc (Nat.le_refl _) _).alloc (by simp) _)
  have HX : Hid (BoxC w1 w.heap.size (.slice ai c.items.length ci) (.slice ar c.rules.length cr)) := Lib.hid (by
    rw [← hw1]
    exact (BoxC.new w _ _).below ((Below.refl _ _).alloc (Nat.le_refl _) _))
  have HR : Hid (BlkC w1 (w.heap.size + 1) 45 [.slice none 0 0, .slice none 0 0, .slice none 0 0]) := Lib.hid (by
    rw [← hw1]
    have h9 := BlkC.new (w.alloc (.cells #[.slice ai c.items.length ci, .slice ar c.rules.length cr, .slice none 0 0, .slice none 0 0] 28)) 45 [.slice none 0 0, .slice none 0 0, .slice none 0 0]
    simpa using h9)
  have m0 := HX.out.c0
  have m1 := HX.out.c1
  have m2 := HX.out.c2
  have m3 := HX.out.c3
  have mlt := HX.out.lt
  have p0 := HR.out.cell 0
  have p1 := HR.out.cell 1
  have p2 := HR.out.cell 2
  have f0 := HR.out.frozen 0
  have f1 := HR.out.frozen 1
  have f2 := HR.out.frozen 2
  have rlt := HR.out.lt
  simp only [List.getElem?_cons_succ, List.getElem?_cons_zero] at p0 p1 p2
  go_enter Tryz.func19, Tryz.ntmps19
  go_wp2_with fail
  clear hw1
  clear m0 m1 m2 m3 mlt p0 p1 p2 f0 f1 f2 rlt
  refine (rvalid_any _ _ c w1 (HC.out.below HB.out) HF.out).mono ?_
  rintro e w2 ⟨rfl, hB⟩
  replace HB := Lib.hid (HB.out.trans ((hB).mono HB.out.size))
  replace HX := Lib.hid (HX.out.below (hB))
  replace HR := Lib.hid (HR.out.below (hB) HR.out.lt)
  clear hB
  have qa : decide ((most : Int) < 1) = false := decide_eq_false (by omega)
  have qb : decide ((8 : Int) < (most : Int)) = false := decide_eq_false (by omega)
  have qb' : decide (8 < most) = false := decide_eq_false (by omega)
  have m0 := HX.out.c0
  have m1 := HX.out.c1
  have m2 := HX.out.c2
  have m3 := HX.out.c3
  have mlt := HX.out.lt
  have p0 := HR.out.cell 0
  have p1 := HR.out.cell 1
  have p2 := HR.out.cell 2
  have f0 := HR.out.frozen 0
  have f1 := HR.out.frozen 1
  have f2 := HR.out.frozen 2
  have rlt := HR.out.lt
  simp only [List.getElem?_cons_succ, List.getElem?_cons_zero] at p0 p1 p2
  go_wp2_with fail
  clear m0 m1 m2 m3 mlt p0 p1 p2 f0 f1 f2 rlt
  refine (usable_ref _ _ c w2 (HC.out.below HB.out) (by omega)).mono ?_
  rintro e w3 ⟨⟨vu, rfl, hu⟩, hB⟩
  obtain ⟨ua, uc, rfl, hu1, hu2⟩ := hu.form
  have HU := Lib.hid hu
  replace HB := Lib.hid (HB.out.trans ((hB).mono HB.out.size))
  replace HX := Lib.hid (HX.out.below (hB))
  replace HR := Lib.hid (HR.out.below (hB) HR.out.lt)
  have hul : (usL c).length ≤ 100 := by omega
  have HUM : Hid (∀ s : List Nat, s.length ≤ 64 → (∀ x ∈ s, x ∈ usL c) → UsS c s) := Lib.hid (fun s h1 h2 => ⟨h1, fun i hi => by
    have h3 := List.mem_filter.1 (h2 i hi)
    have h4 := List.mem_range.1 h3.1
    refine ⟨h4, ?_⟩
    have h5 : usI c (i : Int) = true := h3.2
    unfold usI at h5
    simpa [h4] using h5⟩)
  obtain ⟨U, hU⟩ : ∃ U, usL c = U := ⟨_, rfl⟩
  rw [hU] at HU hu1 hul hu16 HUM ⊢
  have HUU := Lib.hid hU
  obtain ⟨R, hR⟩ : ∃ R, scan (gainS c) (seqs U most) fuel = R := ⟨_, rfl⟩
  rw [hR]
  have HRR := Lib.hid hR
  clear hu hB hU hR
  have qc : decide ((16 : Int) < (U.length : Int)) = false := decide_eq_false (by omega)
  have qc' : decide (16 < U.length) = false := decide_eq_false (by omega)
  have m0 := HX.out.c0
  have m1 := HX.out.c1
  have m2 := HX.out.c2
  have m3 := HX.out.c3
  have mlt := HX.out.lt
  have p0 := HR.out.cell 0
  have p1 := HR.out.cell 1
  have p2 := HR.out.cell 2
  have f0 := HR.out.frozen 0
  have f1 := HR.out.frozen 1
  have f2 := HR.out.frozen 2
  have rlt := HR.out.lt
  simp only [List.getElem?_cons_succ, List.getElem?_cons_zero] at p0 p1 p2
  go_wp2_with fail
  clear m0 m1 m2 m3 mlt p0 p1 p2 f0 f1 f2 rlt
  go_loopw [2, 11] (fun fv nv wr => ∃ (n : Nat) (f : Int), 1 ≤ n ∧ n ≤ most + 1 ∧ nv = .int .i64 n ∧ fv = .int .i64 f ∧ -9223372036854775808 ≤ f ∧ f ≤ 9223372036854775807 ∧ Hid (scan (gainS c) (restS U most (n - 1)) f = R) ∧ Hid (Below w3.heap.size w3 wr)) (fun _ nv _ => most + 1 - (intOf nv).toNat)
  case atStart => exact ⟨1, fuel, by omega, by omega, rfl, rfl, hf1, hf2, Lib.hid (by rw [Nat.sub_self, restS_zero]; exact HRR.out), Lib.hid (Below.refl _ _)⟩
  case round =>
    obtain ⟨n, f, hn1, hn2, rfl, rfl, hff1, hff2, HS, HBl⟩ := hrel
    have HB3 := HB
    replace HB := Lib.hid (HB.out.trans ((HBl.out).mono HB.out.size))
    replace HX := Lib.hid (HX.out.below (HBl.out))
    replace HR := Lib.hid (HR.out.below (HBl.out) HR.out.lt)
    by_cases hnm : n ≤ most
    · have qd : decide ((n : Int) ≤ (most : Int)) = true := decide_eq_true (by omega)
      have qd' : decide (n ≤ most) = true := decide_eq_true (by omega)
      by_cases hU0 : U.length = 0
      · have qe : decide ((0 : Int) < (U.length : Int)) = false := decide_eq_false (by omega)
        have qe' : decide (0 < U.length) = false := decide_eq_false (by omega)
        have hRn : R = .nothing := by
          have h9 := HS.out
          have hUn : U = [] := List.eq_nil_of_length_eq_zero hU0
          have hz : restS U most (n - 1) = [] := by
            rw [hUn]
            unfold restS
            simp [ext, extL]
          rw [hz] at h9
          exact h9.symm
        subst hRn
        have m0 := HX.out.c0
        have m1 := HX.out.c1
        have m2 := HX.out.c2
        have m3 := HX.out.c3
        have mlt := HX.out.lt
        have p0 := HR.out.cell 0
        have p1 := HR.out.cell 1
        have p2 := HR.out.cell 2
        have f0 := HR.out.frozen 0
        have f1 := HR.out.frozen 1
        have f2 := HR.out.frozen 2
        have rlt := HR.out.lt
        simp only [List.getElem?_cons_succ, List.getElem?_cons_zero] at p0 p1 p2
        go_wp2_with fail
        clear m0 m1 m2 m3 mlt p0 p1 p2 f0 f1 f2 rlt
        obtain ⟨w9, hw9⟩ : ∃ W, ((wr.setCell ⟨w.heap.size + 1, 0, none⟩ (.slice none 0 0)).setCell ⟨w.heap.size + 1, 1, none⟩ (.slice none 0 0)).setCell ⟨w.heap.size + 1, 2, none⟩ (.slice none 0 0) = W := ⟨_, rfl⟩
        have hk9 : BlkC w9 (w.heap.size + 1) 45 [.slice none 0 0, .slice none 0 0, .slice none 0 0] := by rw [← hw9]; exact ((HR.out.set 0 _).set 1 _).set 2 _
        have hO9 : Only (fun b => b = w.heap.size + 1) wr w9 := by
          rw [← hw9]
          repeat (refine Only.trans ?_ (only_set _ _ _ _))
          exact Only.refl _ _
        have k0 := hk9.cell 0
        have k1 := hk9.cell 1
        have k2 := hk9.cell 2
        simp only [List.getElem?_cons_succ, List.getElem?_cons_zero] at k0 k1 k2
        rw [hw9]
        exact bodyPost_ret (v := .tuple #[.agg #[.slice none 0 0, .slice none 0 0, .slice none 0 0], .bool false, .int .i64 0]) (by simp [results, Tryz.results19, go_sem, k0, k1, k2]) rfl ⟨hO9.below HB.out HB.out.size (fun k hk => by omega), _, _, _, _, _, rfl, by rw [HUU.out, HRR.out]; exact ⟨rfl, rfl, rfl, rfl, rfl⟩⟩
      · have qe : decide ((0 : Int) < (U.length : Int)) = true := decide_eq_true (by omega)
        have qe' : decide (0 < U.length) = true := decide_eq_true (by omega)
        obtain ⟨hch, hhd⟩ := posE_chain U.length n (by omega)
        have HCH := Lib.hid (chn_at U.length _ hch)
        have HPM := Lib.hid (fun P (h : P ∈ posE U.length n) => posE_mem h)
        have HLA := Lib.hid (leftS_at U most n)
        have HLE := Lib.hid (leftS_end U most n)
        have hL0 : restS U most (n - 1) = leftS U most n 0 := by
          have h9 := leftS_zero U most (n - 1) (by omega)
          rwa [show n - 1 + 1 = n by omega] at h9
        rw [hL0] at HS
        have hE0 : ∃ h : 0 < (posE U.length n).length, (posE U.length n)[0] = List.replicate n 0 := by
          cases hE : posE U.length n with
          | nil => rw [hE] at hhd; cases hhd
          | cons a b => rw [hE] at hhd; injection hhd with hhd; exact ⟨by simp, by simpa using hhd⟩
        obtain ⟨E, hE⟩ : ∃ E, posE U.length n = E := ⟨_, rfl⟩
        rw [hE] at HCH HPM HLA HLE hE0
        have hmk := run_makeZ n (by omega)
        clear hch hhd hL0 hE
        obtain ⟨hE1, hE2⟩ := hE0
        have HE2 := Lib.hid hE2
        clear hE2
        go_wp2_with fail
        clear hmk
        obtain ⟨w4, hw4⟩ : ∃ W, wr.alloc (.cells (bagL n (fun _ => 0)).toArray 3) = W := ⟨_, rfl⟩
        have hB4 : Below wr.heap.size wr w4 := by rw [← hw4]; exact (Below.refl _ _).alloc (Nat.le_refl _) _
        have HP0 : Hid (NatsOf w4 (.slice (some ⟨wr.heap.size, 0, none⟩) n n) (E[0]'hE1)) := Lib.hid (by rw [HE2.out, ← hw4]; exact nats_blk (BlkC.new _ _ _) (by omega))
        replace HB := Lib.hid (HB.out.trans ((hB4).mono HB.out.size))
        replace HX := Lib.hid (HX.out.below (hB4))
        replace HR := Lib.hid (HR.out.below (hB4) HR.out.lt)
        have HBl4 := Lib.hid (HBl.out.trans (hB4.mono HBl.out.size))
        rw [hw4]
        clear hw4 hB4 HE2
        go_loopw [2, 12, 13] (fun fv pv mv wr => ∃ (f : Int), fv = .int .i64 f ∧ -9223372036854775808 ≤ f ∧ f ≤ 9223372036854775807 ∧ Hid (Below w4.heap.size w4 wr) ∧ ((mv = .bool true ∧ ∃ (q : Nat) (hq : q < E.length), Hid (NatsOf wr pv E[q]) ∧ Hid (scan (gainS c) (leftS U most n q) f = R)) ∨ (mv = .bool false ∧ Hid (scan (gainS c) (restS U most n) f = R)))) (fun fv _ _ _ => (intOf fv).toNat)
        case atStart => exact ⟨f, rfl, hff1, hff2, Lib.hid (Below.refl _ _), .inl ⟨rfl, 0, hE1, HP0, HS⟩⟩
        case round =>
          clear HP0 HS
          obtain ⟨f, rfl, hff1, hff2, HBj, hcase⟩ := hrel
          have HB4 := HB
          replace HB := Lib.hid (HB.out.trans ((HBj.out).mono HB.out.size))
          replace HX := Lib.hid (HX.out.below (HBj.out))
          replace HR := Lib.hid (HR.out.below (HBj.out) HR.out.lt)
          rcases hcase with ⟨rfl, q, hq, HPQ, HS⟩ | ⟨rfl, HS⟩
          · have hLq := HLA.out q hq
            rw [hLq] at HS
            obtain ⟨hPl, hPx⟩ := HPM.out E[q] (List.getElem_mem hq)
            have HNX := Lib.hid (HCH.out q hq)
            obtain ⟨P, hP⟩ : ∃ P, E[q] = P := ⟨_, rfl⟩
            rw [hP] at hPl hPx HPQ HS HNX
            have HPX := Lib.hid hPx
            obtain ⟨s, hs⟩ : ∃ s, P.map (getU U) = s := ⟨_, rfl⟩
            rw [hs] at HS
            clear hLq hP hPx
            by_cases hf0 : f ≤ 0
            · have qf : decide (f ≤ 0) = true := decide_eq_true hf0
              have hRn : R = .empty := by
                have h9 := HS.out
                rw [scan, if_pos hf0] at h9
                exact h9.symm
              subst hRn
              have m0 := HX.out.c0
              have m1 := HX.out.c1
              have m2 := HX.out.c2
              have m3 := HX.out.c3
              have mlt := HX.out.lt
              have p0 := HR.out.cell 0
              have p1 := HR.out.cell 1
              have p2 := HR.out.cell 2
              have f0 := HR.out.frozen 0
              have f1 := HR.out.frozen 1
              have f2 := HR.out.frozen 2
              have rlt := HR.out.lt
              simp only [List.getElem?_cons_succ, List.getElem?_cons_zero] at p0 p1 p2
              go_wp2_with fail
              clear m0 m1 m2 m3 mlt p0 p1 p2 f0 f1 f2 rlt
              obtain ⟨w9, hw9⟩ : ∃ W, ((wr.setCell ⟨w.heap.size + 1, 0, none⟩ (.slice none 0 0)).setCell ⟨w.heap.size + 1, 1, none⟩ (.slice none 0 0)).setCell ⟨w.heap.size + 1, 2, none⟩ (.slice none 0 0) = W := ⟨_, rfl⟩
              have hk9 : BlkC w9 (w.heap.size + 1) 45 [.slice none 0 0, .slice none 0 0, .slice none 0 0] := by rw [← hw9]; exact ((HR.out.set 0 _).set 1 _).set 2 _
              have hO9 : Only (fun b => b = w.heap.size + 1) wr w9 := by
                rw [← hw9]
                repeat (refine Only.trans ?_ (only_set _ _ _ _))
                exact Only.refl _ _
              have k0 := hk9.cell 0
              have k1 := hk9.cell 1
              have k2 := hk9.cell 2
              simp only [List.getElem?_cons_succ, List.getElem?_cons_zero] at k0 k1 k2
              rw [hw9]
              exact bodyPost_ret (v := .tuple #[.agg #[.slice none 0 0, .slice none 0 0, .slice none 0 0], .bool false, .int .i64 21]) (by simp [results, Tryz.results19, go_sem, k0, k1, k2]) rfl ⟨hO9.below HB.out HB.out.size (fun k hk => by omega), _, _, _, _, _, rfl, by rw [HUU.out, HRR.out]; exact ⟨rfl, rfl, rfl, rfl, rfl⟩⟩
            · have qf : decide (f ≤ 0) = false := decide_eq_false hf0
              have qg : IntKind.i64.wrap (f - 1) = f - 1 := IntWalk.i64_in _ (by omega)
              obtain ⟨bp, cp, hv, hbp, -⟩ := NatsOf.at_ HPQ.out 0 (by omega)
              subst hv
              rw [hPl] at HPQ ⊢
              obtain ⟨w5, rfl⟩ : ∃ wo : World, wo = wr := ⟨_, rfl⟩
              have hsl : s.length = n := by rw [← hs]; simp [hPl]
              have HSG : Hid (∀ j (h : j < P.length) (h' : j < s.length), s[j] = getU U P[j]) := Lib.hid (fun j h h' => by subst hs; simp)
              have HSU : Hid (∀ x ∈ s, x ∈ U) := Lib.hid (fun x hx => by
                rw [← hs] at hx
                obtain ⟨y, hy, rfl⟩ := List.mem_map.1 hx
                have h9 := HPX.out y hy
                unfold getU
                rw [List.getElem?_eq_getElem h9]
                exact List.getElem_mem _)
              clear hs
              go_wp2_with fail
              go_loopw [14, 15] (fun o i wr => ∃ (j : Nat) (ga : Option Addr) (gc : Nat), j ≤ n ∧ i = .int .i64 j ∧ o = .slice ga j gc ∧ gc ≤ 9223372036854775807 ∧ j ≤ gc ∧ Hid (wr.ownsRow w5.heap.size 3 1 (.slice ga j gc) j ((s.take j).map natV)) ∧ Hid (Below w5.heap.size w5 wr)) (fun _ i _ => n - (intOf i).toNat)
              case atStart => exact ⟨0, none, 0, by omega, rfl, rfl, by omega, by omega, Lib.hid (World.ownsRow_nil _ _ _ _), Lib.hid (Below.refl _ _)⟩
              case round =>
                obtain ⟨j, ga, gc, hj, rfl, rfl, hgc, hjg, HO, HBk⟩ := hrel
                have HB5 := HB
                have HX5 := HX
                have HR5 := HR
                replace HB := Lib.hid (HB.out.trans ((HBk.out).mono HB.out.size))
                replace HX := Lib.hid (HX.out.below (HBk.out))
                replace HR := Lib.hid (HR.out.below (HBk.out) HR.out.lt)
                by_cases hlt : j < n
                · obtain ⟨b1, cap1, hv1, hb1, n0⟩ := NatsOf.at_ (HPQ.out.below HBk.out) j (by omega)
                  injection hv1 with e1 e2 e3
                  injection e1 with e1
                  injection e1 with e1
                  subst e1
                  clear e2 e3
                  have hpx := HPX.out P[j] (List.getElem_mem (by omega))
                  have HTK : Hid (s.take (j + 1) = s.take j ++ [getU U P[j]]) := Lib.hid (by rw [List.take_succ_eq_append_getElem (by omega), HSG.out j (by omega) (by omega)])
                  generalize P[j] = y at *
                  obtain ⟨b2, cap2, hv2, hb2, n1⟩ := NatsOf.at_ (HU.out.below (HBl4.out.trans ((HBj.out.trans (HBk.out.mono HBj.out.size)).mono HBl4.out.size))) y hpx
                  injection hv2 with e1 e2 e3
                  try injection e1 with e1
                  try injection e1 with e1
                  subst e1
                  clear e2 e3
                  have hgy : getU U y = U[y] := by unfold getU; rw [List.getElem?_eq_getElem hpx]; rfl
                  rw [hgy] at HTK
                  generalize U[y] = z at *
                  have i1 : (j : Int) < (n : Int) := by omega
                  have i2 : (y : Int) < (U.length : Int) := by omega
                  clear hgy
                  go_wp2_with (at_builtin; refine wpList_app1 (W0 := w5) elemInt rfl _ _ rfl [.int .i64 (z : Int)] 3 _ _ _ rfl rfl rfl (by simp [Value.oneCell']) HO.out HBk.out HBk.out.size (by omega) (by omega) ?_)
                  intro g6 cap6 w6 Hown6 HB6 HO6 hcap6 hat6
                  have Hown7 : Hid (w6.ownsRow w5.heap.size 3 1 (.slice (some ⟨g6, 0, none⟩) (j + 1) cap6) (j + 1) ((s.take (j + 1)).map natV)) := Lib.hid (by rw [HTK.out]; have h9 := Hown6.out; simpa [natV] using h9)
                  have hcl : j + 1 ≤ cap6 := by
                    rcases Hown7.out.2 with ⟨hv, _⟩ | ⟨_, _, _, hv, _, _, h4, h3, _⟩
                    · cases hv
                    · injection hv with _ _ e; omega
                  clear Hown6 HO6 hat6 HO
                  go_wp2_with fail
                  go_roundw
                  case rel => exact ⟨j + 1, some ⟨g6, 0, none⟩, cap6, by omega, by go_num, rfl, hcap6, hcl, Hown7, HB6⟩
                  case measure => simp [intOf]; omega
                · obtain rfl : n = j := by omega
                  have HNS : Hid (NatsOf wr (.slice ga s.length gc) s) := Lib.hid (nats_of_own (by
                    have h9 := HO.out
                    rw [List.take_of_length_le (by omega)] at h9
                    rw [hsl]
                    exact h9))
                  rw [hsl] at HNS
                  have HUS := Lib.hid (HUM.out s (by omega) HSU.out)
                  obtain ⟨w6, rfl⟩ : ∃ wo : World, wo = wr := ⟨_, rfl⟩
                  have HP6 := Lib.hid (HPQ.out.below HBk.out)
                  have HBj6 := Lib.hid (HBj.out.trans (HBk.out.mono HBj.out.size))
                  have qh : decide ((n : Int) < (n : Int)) = false := decide_eq_false (by omega)
                  clear HO HBk HB5 HX5 HR5
                  have m0 := HX.out.c0
                  have m1 := HX.out.c1
                  have m2 := HX.out.c2
                  have m3 := HX.out.c3
                  have mlt := HX.out.lt
                  have p0 := HR.out.cell 0
                  have p1 := HR.out.cell 1
                  have p2 := HR.out.cell 2
                  have f0 := HR.out.frozen 0
                  have f1 := HR.out.frozen 1
                  have f2 := HR.out.frozen 2
                  have rlt := HR.out.lt
                  simp only [List.getElem?_cons_succ, List.getElem?_cons_zero] at p0 p1 p2
                  go_wp2_with fail
                  clear m0 m1 m2 m3 mlt p0 p1 p2 f0 f1 f2 rlt
                  refine (rnet_ok _ _ (.slice ga n gc) c s _ (HC.out.below HB.out) HF.out HNS.out HUS.out).mono ?_
                  rintro e w7 ⟨⟨vm, rfl, hm⟩, hB⟩
                  obtain ⟨ma, mc, rfl, hma1, hma2⟩ := hm.form
                  have HM := Lib.hid hm
                  replace HB := Lib.hid (HB.out.trans ((hB).mono HB.out.size))
                  replace HX := Lib.hid (HX.out.below (hB))
                  replace HR := Lib.hid (HR.out.below (hB) HR.out.lt)
                  replace HP6 := Lib.hid (HP6.out.below hB)
                  replace HNS := Lib.hid (HNS.out.below hB)
                  replace HBj6 := Lib.hid (HBj6.out.trans (hB.mono HBj6.out.size))
                  clear hm hB qh
                  go_wp2_with fail
                  refine (rgains_any _ _ _ HM.out).mono ?_
                  rintro e w' ⟨rfl, rfl⟩
                  have hgg : gainsB (netL c s) = gainS c s := rfl
                  rw [hgg]
                  clear hgg
                  cases hg : gainS c s with
                  | true =>
                    have hRn : R = .found s := by
                      have h9 := HS.out
                      rw [scan, if_neg (by omega), if_pos hg] at h9
                      exact h9.symm
                    subst hRn
                    have m0 := HX.out.c0
                    have m1 := HX.out.c1
                    have m2 := HX.out.c2
                    have m3 := HX.out.c3
                    have mlt := HX.out.lt
                    have p0 := HR.out.cell 0
                    have p1 := HR.out.cell 1
                    have p2 := HR.out.cell 2
                    have f0 := HR.out.frozen 0
                    have f1 := HR.out.frozen 1
                    have f2 := HR.out.frozen 2
                    have rlt := HR.out.lt
                    simp only [List.getElem?_cons_succ, List.getElem?_cons_zero] at p0 p1 p2
                    go_wp2_with fail
                    clear m0 m1 m2 m3 mlt p0 p1 p2 f0 f1 f2 rlt
                    refine (rneed_ok _ _ (.slice ga n gc) c s _ (HC.out.below HB.out) HF.out HNS.out HUS.out).mono ?_
                    rintro e w8 ⟨⟨vd, rfl, hd⟩, hB⟩
                    obtain ⟨da, dc, rfl, hda1, hda2⟩ := hd.form
                    have HD := Lib.hid hd
                    replace HB := Lib.hid (HB.out.trans ((hB).mono HB.out.size))
                    replace HX := Lib.hid (HX.out.below (hB))
                    replace HR := Lib.hid (HR.out.below (hB) HR.out.lt)
                    replace HNS := Lib.hid (HNS.out.below hB)
                    replace HM := Lib.hid (HM.out.below hB)
                    clear hd hB
                    have m0 := HX.out.c0
                    have m1 := HX.out.c1
                    have m2 := HX.out.c2
                    have m3 := HX.out.c3
                    have mlt := HX.out.lt
                    have p0 := HR.out.cell 0
                    have p1 := HR.out.cell 1
                    have p2 := HR.out.cell 2
                    have f0 := HR.out.frozen 0
                    have f1 := HR.out.frozen 1
                    have f2 := HR.out.frozen 2
                    have rlt := HR.out.lt
                    simp only [List.getElem?_cons_succ, List.getElem?_cons_zero] at p0 p1 p2
                    go_wp2_with fail
                    obtain ⟨w9, hw9⟩ : ∃ W, ((w8.setCell ⟨w.heap.size + 1, 0, none⟩ (.slice ga n gc)).setCell ⟨w.heap.size + 1, 1, none⟩ (.slice da (needL c s).length dc)).setCell ⟨w.heap.size + 1, 2, none⟩ (.slice ma (netL c s).length mc) = W := ⟨_, rfl⟩
                    have hk9 : BlkC w9 (w.heap.size + 1) 45 [.slice ga n gc, .slice da (needL c s).length dc, .slice ma (netL c s).length mc] := by rw [← hw9]; exact ((HR.out.set 0 _).set 1 _).set 2 _
                    have hO9 : Only (fun b => b = w.heap.size + 1) w8 w9 := by
                      rw [← hw9]
                      repeat (refine Only.trans ?_ (only_set _ _ _ _))
                      exact Only.refl _ _
                    have k0 := hk9.cell 0
                    have k1 := hk9.cell 1
                    have k2 := hk9.cell 2
                    simp only [List.getElem?_cons_succ, List.getElem?_cons_zero] at k0 k1 k2
                    rw [hw9]
                    have hdis : ∀ i, i = 0 → w8.cell? ⟨w.heap.size + 1, i, none⟩ = some (.slice none 0 0) := fun i hi => by subst hi; exact HR.out.cell 0
                    have hi1 : ∀ v l, NatsOf w8 v l → NatsOf w9 v l := fun v l h => SliceOf.onlyS h hO9 (fun b hb x cs hc => ⟨0, by omega, by subst hb hc; rw [hdis 0 rfl]; simp [zv]⟩) (fun _ _ h => h)
                    have hi2 : ∀ v l, IntsOf w8 v l → IntsOf w9 v l := fun v l h => SliceOf.onlyS h hO9 (fun b hb x cs hc => ⟨0, by omega, by subst hb hc; rw [hdis 0 rfl]; simp [zv]⟩) (fun _ _ h => h)
                    exact bodyPost_ret (v := .tuple #[.agg #[.slice ga n gc, .slice da (needL c s).length dc, .slice ma (netL c s).length mc], .bool true, .int .i64 0]) (by simp [results, Tryz.results19, go_sem, k0, k1, k2]) rfl ⟨hO9.below HB.out HB.out.size (fun k hk => by omega), _, _, _, _, _, rfl, by rw [HUU.out, HRR.out]; exact ⟨rfl, rfl, hi1 _ _ HNS.out, hi2 _ _ HD.out, hi2 _ _ HM.out⟩⟩
                  | false =>
                    have HSR : Hid (scan (gainS c) (leftS U most n (q + 1)) (f - 1) = R) := Lib.hid (by
                      have h9 := HS.out
                      rw [scan, if_neg (by omega), if_neg (by rw [hg]; simp)] at h9
                      exact h9)
                    go_wp2_with fail
                    refine (rnext_any _ P U.length _ HP6.out (by omega) (by omega) (by omega) (by omega) HPX.out).mono ?_
                    rintro e w8 ⟨⟨u, b, rfl, hnx⟩, hB⟩
                    rw [HNX.out] at hnx
                    replace HBj6 := Lib.hid (HBj6.out.trans (hB.mono HBj6.out.size))
                    clear hB hg
                    by_cases hq1 : q + 1 < E.length
                    · rw [List.getElem?_eq_getElem hq1] at hnx
                      obtain ⟨rfl, hnn⟩ := hnx
                      have HNN := Lib.hid hnn
                      clear hnn
                      go_wp2_with fail
                      go_roundw
                      case rel => exact ⟨f - 1, rfl, by omega, by omega, HBj6, .inl ⟨rfl, q + 1, hq1, HNN, HSR⟩⟩
                      case measure => simp [intOf]; omega
                    · rw [List.getElem?_eq_none (by omega)] at hnx
                      obtain ⟨rfl, rfl⟩ := hnx
                      have HSE : Hid (scan (gainS c) (restS U most n) (f - 1) = R) := Lib.hid (by rw [← HLE.out (q + 1) (by omega)]; exact HSR.out)
                      go_wp2_with fail
                      go_roundw
                      case rel => exact ⟨f - 1, rfl, by omega, by omega, HBj6, .inr ⟨rfl, HSE⟩⟩
                      case measure => simp [intOf]; omega
          · go_wp2_with fail
            go_roundw
            case rel => exact ⟨n + 1, f, by omega, by omega, by go_num, rfl, hff1, hff2, Lib.hid (by rw [show n + 1 - 1 = n by omega]; exact HS.out), Lib.hid (HBl4.out.trans (HBj.out.mono HBl4.out.size))⟩
            case measure => simp [intOf]; omega
    · have qd : decide ((n : Int) ≤ (most : Int)) = false := decide_eq_false (by omega)
      have qd' : decide (n ≤ most) = false := decide_eq_false (by omega)
      have hRn : R = .nothing := by
        have h9 := HS.out
        rw [show n - 1 = most by omega, restS_end] at h9
        exact h9.symm
      subst hRn
      have m0 := HX.out.c0
      have m1 := HX.out.c1
      have m2 := HX.out.c2
      have m3 := HX.out.c3
      have mlt := HX.out.lt
      have p0 := HR.out.cell 0
      have p1 := HR.out.cell 1
      have p2 := HR.out.cell 2
      have f0 := HR.out.frozen 0
      have f1 := HR.out.frozen 1
      have f2 := HR.out.frozen 2
      have rlt := HR.out.lt
      simp only [List.getElem?_cons_succ, List.getElem?_cons_zero] at p0 p1 p2
      go_wp2_with fail
      clear m0 m1 m2 m3 mlt p0 p1 p2 f0 f1 f2 rlt
      obtain ⟨w9, hw9⟩ : ∃ W, ((wr.setCell ⟨w.heap.size + 1, 0, none⟩ (.slice none 0 0)).setCell ⟨w.heap.size + 1, 1, none⟩ (.slice none 0 0)).setCell ⟨w.heap.size + 1, 2, none⟩ (.slice none 0 0) = W := ⟨_, rfl⟩
      have hk9 : BlkC w9 (w.heap.size + 1) 45 [.slice none 0 0, .slice none 0 0, .slice none 0 0] := by rw [← hw9]; exact ((HR.out.set 0 _).set 1 _).set 2 _
      have hO9 : Only (fun b => b = w.heap.size + 1) wr w9 := by
        rw [← hw9]
        repeat (refine Only.trans ?_ (only_set _ _ _ _))
        exact Only.refl _ _
      have k0 := hk9.cell 0
      have k1 := hk9.cell 1
      have k2 := hk9.cell 2
      simp only [List.getElem?_cons_succ, List.getElem?_cons_zero] at k0 k1 k2
      rw [hw9]
      exact bodyPost_ret (v := .tuple #[.agg #[.slice none 0 0, .slice none 0 0, .slice none 0 0], .bool false, .int .i64 0]) (by simp [results, Tryz.results19, go_sem, k0, k1, k2]) rfl ⟨hO9.below HB.out HB.out.size (fun k hk => by omega), _, _, _, _, _, rfl, by rw [HUU.out, HRR.out]; exact ⟨rfl, rfl, rfl, rfl, rfl⟩⟩
end Go.Proofs.YtfpcgjgkbniofaaGreatDoor
