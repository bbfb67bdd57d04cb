/- the law GainLeast: its walk. -/
import Derived.Test.YtfpcgjgkbniofaaDoorGFine
import Derived.Test.YtfpcgjgkbniofaaDoorGRef
import Derived.Test.YtfpcgjgkbniofaaDoorGRun
import Derived.Test.YtfpcgjgkbniofaaDoorGLives
set_option linter.unusedVariables false
set_option linter.unusedSimpArgs false
namespace Go.Proofs.YtfpcgjgkbniofaaDoor
open Go.RowKit
attribute [local go_sem] Oper.semAt_some

theorem PickIs.below {w w' : World} {v : Value} {pk : Nat → Nat → Nat} (h : PickIs w v pk) (hb : Below w.heap.size w w') : PickIs w' v pk := fun W hB => h W (hb.trans (hB.mono hb.size))
theorem us_of {c : Cat} {s : List Nat} (hl : s.length ≤ 64) (h : ∀ x ∈ s, x ∈ usL c) : UsS c s := by
  refine ⟨hl, fun i hi => ?_⟩
  have h1 := List.mem_filter.1 (h i hi)
  have h2 := List.mem_range.1 h1.1
  refine ⟨h2, ?_⟩
  have h3 := h1.2
  unfold usI at h3
  simpa [h2] using h3


set_option maxRecDepth 100000 in
set_option maxHeartbeats 4000000 in
theorem gainLeast_any (v1 : Value) (zs : List Int) (n1 : Nat) (v2 : Value) (ys : List Int) (n2 : Nat) (bal : Bool) (w : World) (h1 : IntsAt w v1 zs n1) (h2 : IntsAt w v2 ys n2) (hK : Kinds w) :
    Calls Tryd.prog 4 #[v1, v2, .bool bal] w fun e w' => e = .returned (.bool true) ∧ Below w.heap.size w w' := by
  have HI := Lib.hid h1
  have HV := Lib.hid (pickIs_of h2)
  have HP := Lib.hid (picks_of ys n2)
  have HK := Lib.hid hK
  have HB := Lib.hid (Below.refl w.heap.size w)
  obtain ⟨pk, hpk⟩ : ∃ pk, pkOf ys n2 = pk := ⟨_, rfl⟩
  rw [hpk] at HV HP
  clear h1 h2 hK hpk
  go_enter Tryd.func4, Tryd.ntmps4
  go_wp2_with fail
  refine (catalog_any _ zs n1 bal _ (HI.out.below (Nat.le_refl _) HB.out)).mono ?_
  rintro e w1 ⟨⟨vi, vr, rfl, hc⟩, hB⟩
  obtain ⟨c, hcc⟩ : ∃ c, genCat (pkOf zs n1) bal = c := ⟨_, rfl⟩
  have hf := genCat_fine (bal := bal) (picks_of zs n1)
  have hr6 := genCat_rules (bal := bal) (picks_of zs n1)
  rw [hcc] at hc hf hr6
  have HCC := Lib.hid hcc
  have HF := Lib.hid hf
  replace HB := Lib.hid (HB.out.trans (hB.mono HB.out.size))
  obtain ⟨ai, ci, rfl, hi1, hi2⟩ := hc.items.form
  obtain ⟨ar, cr, rfl, hr1, hr2⟩ := hc.rules.form
  have HC := Lib.hid hc
  have hli := hf.good.items
  have hl1 := hf.good.some_
  clear hcc hf hc hB
  unfold catV
  go_wp2_with fail
  obtain ⟨w2, hw⟩ : ∃ w2, w1.alloc (.cells #[.slice ai c.items.length ci, .slice ar c.rules.length cr, .slice none 0 0, .slice none 0 0] 29) = w2 := ⟨_, rfl⟩
  have hB : Below w1.heap.size w1 w2 := by rw [← hw]; exact (Below.refl _ _).alloc (Nat.le_refl _) _
  have HX : Hid (BoxC w2 w1.heap.size (.slice ai c.items.length ci) (.slice ar c.rules.length cr)) := Lib.hid (by rw [← hw]; exact BoxC.new _ _ _)
  replace HB := Lib.hid (HB.out.trans (hB.mono HB.out.size))
  replace HC := Lib.hid (HC.out.below hB)
  rw [hw]
  clear hB hw
  have m0 := HX.out.c0
  have m1 := HX.out.c1
  have m2 := HX.out.c2
  have m3 := HX.out.c3
  have mlt := HX.out.lt
  refine (sequence_any _ _ _ c pk 12 _ HC.out (by omega) HP.out (HV.out.below HB.out) (by omega)).mono ?_
  rintro e w3 ⟨⟨vs, s, rfl, hs, hs12, hsu⟩, hB⟩
  obtain ⟨sa, sc, rfl, hs1, hs2⟩ := hs.form
  have HS := Lib.hid hs
  have HU := Lib.hid (us_of (by omega) hsu)
  replace HB := Lib.hid (HB.out.trans (hB.mono HB.out.size))
  replace HX := Lib.hid (HX.out.below hB)
  replace HC := Lib.hid (HC.out.below hB)
  clear m0 m1 m2 m3 mlt
  have m0 := HX.out.c0
  have m1 := HX.out.c1
  have m2 := HX.out.c2
  have m3 := HX.out.c3
  have mlt := HX.out.lt
  clear hs hB hsu
  go_wp2_with fail
  refine (need_ok _ _ _ c s _ HC.out HF.out HS.out HU.out (HK.out.keep HB.out)).mono ?_
  rintro e w4 ⟨⟨vn, rfl, hn⟩, hB⟩
  have hnl : (needL c s).length = c.items.length := by simp [needL]
  obtain ⟨na, nc, rfl, hn1, hn2⟩ := hn.form
  rw [hnl] at hn1 hn ⊢
  have HN := Lib.hid hn
  replace HB := Lib.hid (HB.out.trans (hB.mono HB.out.size))
  replace HX := Lib.hid (HX.out.below hB)
  replace HC := Lib.hid (HC.out.below hB)
  clear m0 m1 m2 m3 mlt
  have m0 := HX.out.c0
  have m1 := HX.out.c1
  have m2 := HX.out.c2
  have m3 := HX.out.c3
  have mlt := HX.out.lt
  replace HS := Lib.hid (HS.out.below hB)
  clear hn hB hnl
  go_wp2_with fail
  refine (net_ok _ _ _ c s _ HC.out HF.out HS.out HU.out (HK.out.keep HB.out)).mono ?_
  rintro e w5 ⟨⟨vm, rfl, hm⟩, hB⟩
  have hnl : (netL c s).length = c.items.length := by simp [netL]
  obtain ⟨ma, mc, rfl, hm1, hm2⟩ := hm.form
  rw [hnl] at hm1 hm ⊢
  have HM := Lib.hid hm
  replace HB := Lib.hid (HB.out.trans (hB.mono HB.out.size))
  replace HX := Lib.hid (HX.out.below hB)
  replace HC := Lib.hid (HC.out.below hB)
  clear m0 m1 m2 m3 mlt
  have m0 := HX.out.c0
  have m1 := HX.out.c1
  have m2 := HX.out.c2
  have m3 := HX.out.c3
  have mlt := HX.out.lt
  replace HS := Lib.hid (HS.out.below hB)
  replace HN := Lib.hid (HN.out.below hB)
  clear hm hB hnl
  go_wp2_with fail
  have HN6 := Lib.hid (fun i => Int.le_trans (needF_le i (rsOf c s) (rsOf_good HF.out.good s)) (show 2000 * ((rsOf c s).length : Int) ≤ 24000 by have := rsOf_len c s; omega))
  have HT6 := Lib.hid (fun i => netF_le i (rsOf c s) (rsOf_good HF.out.good s))
  have hrl := rsOf_len c s
  refine (run_any _ _ _ _ c s (fun i => needF i (rsOf c s)) _ HC.out HF.out.good HS.out HN.out HU.out.lt (by omega) (fun i => needF_nonneg i _) (fun i => by have := HN6.out i; show needF i (rsOf c s) ≤ _; omega)).mono ?_
  rintro e w6 ⟨⟨vl, rfl, hl⟩, hB⟩
  have hrb : runB c s (fun i => needF i (rsOf c s)) = true := runB_true.2 (fun i _ => Int.le_refl _)
  rw [hrb] at hl ⊢
  have hL := hl rfl
  obtain ⟨la, lc, rfl, hlc1, hlc2⟩ := hL.form
  rw [List.length_map, List.length_range] at hL hlc1 ⊢
  have HL := Lib.hid hL
  replace HB := Lib.hid (HB.out.trans (hB.mono HB.out.size))
  replace HX := Lib.hid (HX.out.below hB)
  replace HC := Lib.hid (HC.out.below hB)
  clear m0 m1 m2 m3 mlt
  have m0 := HX.out.c0
  have m1 := HX.out.c1
  have m2 := HX.out.c2
  have m3 := HX.out.c3
  have mlt := HX.out.lt
  replace HS := Lib.hid (HS.out.below hB)
  replace HN := Lib.hid (HN.out.below hB)
  replace HM := Lib.hid (HM.out.below hB)
  clear hL hl hB hrb m0 m1 m2 m3
  go_wp2_with fail
  go_loopw [15] (fun i wr => ∃ k : Nat, k ≤ c.items.length ∧ i = .int .i64 k ∧ Hid (Below w6.heap.size w6 wr)) (fun i _ => c.items.length - (intOf i).toNat)
  case atStart => exact ⟨0, by omega, rfl, Lib.hid (Below.refl _ _)⟩
  case round =>
    obtain ⟨k, hk, rfl, HBl⟩ := hrel
    have hBl := HBl.out
    replace HB := Lib.hid (HB.out.trans (hBl.mono HB.out.size))
    replace HX := Lib.hid (HX.out.below hBl)
    replace HC := Lib.hid (HC.out.below hBl)
    replace HS := Lib.hid (HS.out.below hBl)
    replace HN := Lib.hid (HN.out.below hBl)
    replace HM := Lib.hid (HM.out.below hBl)
    replace HL := Lib.hid (HL.out.below hBl)
    clear mlt hBl
    by_cases hlt : k < c.items.length
    · obtain ⟨bl, cl, hv, hbl, x0⟩ := IntsOf.at_ HL.out k (by simpa using hlt)
      injection hv with e1 e2 e3
      subst e1
      clear e2 e3
      obtain ⟨bn, cn, hv, hbn, x1⟩ := IntsOf.at_ HN.out k (by simpa [needL] using hlt)
      injection hv with e1 e2 e3
      subst e1
      clear e2 e3
      obtain ⟨bm, cm, hv, hbm, x2⟩ := IntsOf.at_ HM.out k (by simpa [netL] using hlt)
      injection hv with e1 e2 e3
      subst e1
      clear e2 e3
      replace x0 : wr.cell? ⟨bl, k, none⟩ = some (.int .i64 (needF k (rsOf c s) + netF k (rsOf c s))) := by rw [x0]; simp
      replace x1 : wr.cell? ⟨bn, k, none⟩ = some (.int .i64 (needF k (rsOf c s))) := by rw [x1]; simp [needL]
      replace x2 : wr.cell? ⟨bm, k, none⟩ = some (.int .i64 (netF k (rsOf c s))) := by rw [x2]; simp [netL]
      have g1 := HN6.out k
      have g2 := needF_nonneg k (rsOf c s)
      have g3 := HT6.out k
      obtain ⟨nd, hnd⟩ : ∃ nd, needF k (rsOf c s) = nd := ⟨_, rfl⟩
      obtain ⟨nt, hnt⟩ : ∃ nt, netF k (rsOf c s) = nt := ⟨_, rfl⟩
      rw [hnd] at g1 g2 x0 x1
      rw [hnt] at g3 x0 x2
      have HND := Lib.hid hnd
      obtain ⟨sm, hsm⟩ : ∃ sm, nd + nt = sm := ⟨_, rfl⟩
      rw [hsm] at x0
      have hw1 : IntKind.i64.wrap (nd + nt) = sm := by rw [IntWalk.i64_in _ (by omega)]; exact hsm
      have q0 : (sm != sm) = false := by simp
      have q1 : decide (nd < 0) = false := decide_eq_false (by omega)
      have i1 : (0 : Int) ≤ (k : Int) := by omega
      have i2 : (k : Int) < (c.items.length : Int) := by omega
      clear hnd hnt hsm
      go_wp2_with fail
      refine startK 99 (fun W => W.cell? ⟨bl, k, none⟩ = some (.int .i64 sm) ∧ W.cell? ⟨bn, k, none⟩ = some (.int .i64 nd) ∧ W.cell? ⟨bm, k, none⟩ = some (.int .i64 nt)) (by kernel_rfl) (⟨x0, x1, x2⟩) (fun hHeld => ?_)
      refine takeK 0 74 (v := ?_) rfl rfl (by kernel_rfl) (by kernel_rfl) (by kernel_rfl) (by kernel_rfl) (fun _ _ _ h => h) (by rfl) ?_ (by assumption) ?_
      rotate_left
      · (intro w hSw; go_simp; first | done | with_reducible rfl)
      simp only [List.setIfInBounds_toArray, List.set_cons_zero, List.set_cons_succ]
      refine takeK 1 75 (v := ?_) rfl rfl (by kernel_rfl) (by kernel_rfl) (by kernel_rfl) (by kernel_rfl) (fun _ _ _ h => h) (by rfl) ?_ (by assumption) ?_
      rotate_left
      · (intro w hSw; go_simp; first | done | with_reducible rfl)
      simp only [List.setIfInBounds_toArray, List.set_cons_zero, List.set_cons_succ]
      refine takeK 2 76 (v := ?_) rfl rfl (by kernel_rfl) (by kernel_rfl) (by kernel_rfl) (by kernel_rfl) (fun _ _ _ h => h) (by rfl) ?_ (by assumption) ?_
      rotate_left
      · (intro w hSw; go_simp; first | done | with_reducible rfl)
      simp only [List.setIfInBounds_toArray, List.set_cons_zero, List.set_cons_succ]
      refine takeK 3 77 (v := ?_) rfl rfl (by kernel_rfl) (by kernel_rfl) (by kernel_rfl) (by kernel_rfl) (fun _ _ _ h => h) (by rfl) ?_ (by assumption) ?_
      rotate_left
      · (intro w hSw; go_simp; first | done | with_reducible rfl)
      simp only [List.setIfInBounds_toArray, List.set_cons_zero, List.set_cons_succ]
      refine takeK 4 78 (v := ?_) rfl rfl (by kernel_rfl) (by kernel_rfl) (by kernel_rfl) (by kernel_rfl) (fun _ _ _ h => h) (by rfl) ?_ (by assumption) ?_
      rotate_left
      · (intro w hSw; go_simp; first | done | with_reducible rfl)
      simp only [List.setIfInBounds_toArray, List.set_cons_zero, List.set_cons_succ]
      refine takeK 5 79 (v := ?_) rfl rfl (by kernel_rfl) (by kernel_rfl) (by kernel_rfl) (by kernel_rfl) (fun _ _ _ h => h) (by rfl) ?_ (by assumption) ?_
      rotate_left
      · (intro w hSw; go_simp; first | done | with_reducible rfl)
      simp only [List.setIfInBounds_toArray, List.set_cons_zero, List.set_cons_succ]
      refine takeK 6 80 (v := ?_) rfl rfl (by kernel_rfl) (by kernel_rfl) (by kernel_rfl) (by kernel_rfl) (fun _ _ _ h => h) (by rfl) ?_ (by assumption) ?_
      rotate_left
      · (intro w hSw; go_simp; first | done | with_reducible rfl)
      simp only [List.setIfInBounds_toArray, List.set_cons_zero, List.set_cons_succ]
      refine takeK 7 81 (v := ?_) rfl rfl (by kernel_rfl) (by kernel_rfl) (by kernel_rfl) (by kernel_rfl) (fun _ _ _ h => h) (by rfl) ?_ (by assumption) ?_
      rotate_left
      · (intro w hSw; go_simp; first | done | with_reducible rfl)
      simp only [List.setIfInBounds_toArray, List.set_cons_zero, List.set_cons_succ]
      refine takeK 8 82 (v := ?_) rfl rfl (by kernel_rfl) (by kernel_rfl) (by kernel_rfl) (by kernel_rfl) (fun _ _ _ h => h) (by rfl) ?_ (by assumption) ?_
      rotate_left
      · (intro w hSw; go_simp; first | done | with_reducible rfl)
      simp only [List.setIfInBounds_toArray, List.set_cons_zero, List.set_cons_succ]
      refine takeK 9 83 (v := ?_) rfl rfl (by kernel_rfl) (by kernel_rfl) (by kernel_rfl) (by kernel_rfl) (fun _ _ _ h => h) (by rfl) ?_ (by assumption) ?_
      rotate_left
      · (intro w hSw; go_simp; first | done | with_reducible rfl)
      simp only [List.setIfInBounds_toArray, List.set_cons_zero, List.set_cons_succ]
      refine takeK 10 84 (v := ?_) rfl rfl (by kernel_rfl) (by kernel_rfl) (by kernel_rfl) (by kernel_rfl) (fun _ _ _ h => h) (by rfl) ?_ (by assumption) ?_
      rotate_left
      · (intro w hSw; go_simp; first | done | with_reducible rfl)
      simp only [List.setIfInBounds_toArray, List.set_cons_zero, List.set_cons_succ]
      refine takeK 11 85 (v := ?_) rfl rfl (by kernel_rfl) (by kernel_rfl) (by kernel_rfl) (by kernel_rfl) (fun _ _ _ h => h) (by rfl) ?_ (by assumption) ?_
      rotate_left
      · (intro w hSw; go_simp; first | done | with_reducible rfl)
      simp only [List.setIfInBounds_toArray, List.set_cons_zero, List.set_cons_succ]
      refine takeK 12 86 (v := ?_) rfl rfl (by kernel_rfl) (by kernel_rfl) (by kernel_rfl) (by kernel_rfl) (fun _ _ _ h => h) (by rfl) ?_ (by assumption) ?_
      rotate_left
      · (intro w hSw; go_simp; first | done | with_reducible rfl)
      simp only [List.setIfInBounds_toArray, List.set_cons_zero, List.set_cons_succ]
      refine takeK 13 87 (v := ?_) rfl rfl (by kernel_rfl) (by kernel_rfl) (by kernel_rfl) (by kernel_rfl) (fun _ _ _ h => h) (by rfl) ?_ (by assumption) ?_
      rotate_left
      · (intro w hSw; go_simp; first | done | with_reducible rfl)
      simp only [List.setIfInBounds_toArray, List.set_cons_zero, List.set_cons_succ]
      refine takeK 14 88 (v := ?_) rfl rfl (by kernel_rfl) (by kernel_rfl) (by kernel_rfl) (by kernel_rfl) (fun _ _ _ h => h) (by rfl) ?_ (by assumption) ?_
      rotate_left
      · (intro w hSw; go_simp; first | done | with_reducible rfl)
      simp only [List.setIfInBounds_toArray, List.set_cons_zero, List.set_cons_succ]
      refine takeK 15 89 (v := ?_) rfl rfl (by kernel_rfl) (by kernel_rfl) (by kernel_rfl) (by kernel_rfl) (fun _ _ _ h => h) (by rfl) ?_ (by assumption) ?_
      rotate_left
      · (intro w hSw; go_simp; first | done | with_reducible rfl)
      simp only [List.setIfInBounds_toArray, List.set_cons_zero, List.set_cons_succ]
      refine takeK 16 90 (v := ?_) rfl rfl (by kernel_rfl) (by kernel_rfl) (by kernel_rfl) (by kernel_rfl) (fun _ _ _ h => h) (by rfl) ?_ (by assumption) ?_
      rotate_left
      · (intro w hSw; go_simp; first | done | with_reducible rfl)
      simp only [List.setIfInBounds_toArray, List.set_cons_zero, List.set_cons_succ]
      refine takeK 17 91 (v := ?_) rfl rfl (by kernel_rfl) (by kernel_rfl) (by kernel_rfl) (by kernel_rfl) (fun _ _ _ h => h) (by rfl) ?_ (by assumption) ?_
      rotate_left
      · (intro w hSw; go_simp; first | done | with_reducible rfl)
      simp only [List.setIfInBounds_toArray, List.set_cons_zero, List.set_cons_succ]
      refine takeK 18 92 (v := ?_) rfl rfl (by kernel_rfl) (by kernel_rfl) (by kernel_rfl) (by kernel_rfl) (fun _ _ _ h => h) (by rfl) ?_ (by assumption) ?_
      rotate_left
      · (intro w hSw; go_simp; first | done | with_reducible rfl)
      simp only [List.setIfInBounds_toArray, List.set_cons_zero, List.set_cons_succ]
      refine takeK 19 93 (v := ?_) rfl rfl (by kernel_rfl) (by kernel_rfl) (by kernel_rfl) (by kernel_rfl) (fun _ _ _ h => h) (by rfl) ?_ (by assumption) ?_
      rotate_left
      · (intro w hSw; go_simp; first | done | with_reducible rfl)
      simp only [List.setIfInBounds_toArray, List.set_cons_zero, List.set_cons_succ]
      refine takeK 20 94 (v := ?_) rfl rfl (by kernel_rfl) (by kernel_rfl) (by kernel_rfl) (by kernel_rfl) (fun _ _ _ h => h) (by rfl) ?_ (by assumption) ?_
      rotate_left
      · (intro w hSw; go_simp; first | done | with_reducible rfl)
      simp only [List.setIfInBounds_toArray, List.set_cons_zero, List.set_cons_succ]
      refine doneK (by kernel_rfl) ?_ _
      clear hHeld
      by_cases h0 : nd = 0
      · have q2 : (nd == 0) = true := by simpa using h0
        go_wp2_with fail
        go_roundw
        case rel => exact ⟨k + 1, by omega, by go_num, Lib.hid HBl.out.drew⟩
        case measure => simp [intOf]; omega
      · have q2 : (nd == 0) = false := by simpa using h0
        obtain ⟨wd, hwd⟩ : ∃ W, wr.drew = W := ⟨_, rfl⟩
        have hBd : Below wr.heap.size wr wd := by rw [← hwd]; exact (Below.refl _ _).drew
        replace HB := Lib.hid (HB.out.trans (hBd.mono HB.out.size))
        replace HX := Lib.hid (HX.out.below hBd)
        replace HC := Lib.hid (HC.out.below hBd)
        replace HS := Lib.hid (HS.out.below hBd)
        replace HN := Lib.hid (HN.out.below hBd)
        replace HBl := Lib.hid (HBl.out.trans (hBd.mono HBl.out.size))
        have y1 := (hBd.cell (p := ⟨bn, k, none⟩) hbn).trans x1
        obtain ⟨gb, cb, hv, hgb, hbc⟩ := bag_cells (b := fun i => needF i (rsOf c s)) HN.out (by omega)
        injection hv with e1 e2 e3
        injection e1 with e1
        injection e1 with e1
        subst e1
        clear e2 e3
        have HCB : Hid (∀ j u, (bagL c.items.length (fun i => needF i (rsOf c s)))[j]? = some u → (wd.alloc (.cells #[] 3)).cell? ((⟨bn, 0, none⟩ : Addr).add j) = some u) := Lib.hid (fun j u hu => by
          have hadd : (⟨bn, 0, none⟩ : Addr).add j = ⟨bn, j, none⟩ := by unfold Addr.add; split <;> simp_all
          have h9 := hbc j u hu
          rw [hadd] at h9 ⊢
          rw [World.cell?_alloc_lt wd _ _ hgb]
          exact h9)
        rw [hwd]
        clear x0 x1 x2 hbc hBd hwd hbl hbn hbm
        go_wp2_with (at_builtin; refine wpList_appN (W0 := wd) (B := wd.heap.size) elemInt rfl _ _ rfl (.slice (some ⟨wd.heap.size, 0, none⟩) 0 0) 0 [] rfl ⟨bn, 0, none⟩ c.items.length _ (bagL c.items.length (fun i => needF i (rsOf c s))) rfl (by simp [bagL]) HCB.out (by simp [bagL, zv, Value.oneCell']) (World.ownsRow_made wd #[] 0 (Nat.le_refl _) (by unfold maxLen; omega) (by simp)) ((Below.refl _ _).alloc (Nat.le_refl _) _) (by simp) (by omega) (by omega) ?_)
        intro v5 w7 Hown HB5 HO5
        obtain ⟨g5, cap5, hv5, hcap5, hcap5b⟩ := Hown.out.form (by omega)
        subst hv5
        have hcapb : c.items.length ≤ cap5 ∧ cap5 ≤ 9223372036854775807 := by
          rcases Hown.out.2 with ⟨hv, _⟩ | ⟨_, _, _, hv, _, _, hn, h3, _⟩
          · cases hv
          · injection hv with _ _ e; unfold maxLen at h3; omega
        obtain ⟨tl, htl⟩ := pre_of_own Hown.out
        have hg5 := (Hown.out.lt g5 rfl).1
        have HK0 := Lib.hid htl
        have z0 := htl.cell k
        have hpre := pre_at c.items.length (fun i => needF i (rsOf c s)) tl k hlt
        have hpre : (bagL c.items.length (fun i => needF i (rsOf c s)) ++ tl)[k]? = some (.int .i64 nd) := by rw [hpre]; exact congrArg (fun z => some (Value.int .i64 z)) HND.out
        rw [hpre] at z0
        have zf := htl.frozen k
        have hw2 : IntKind.i64.wrap (nd - 1) = nd - 1 := IntWalk.i64_in _ (by omega)
        clear htl HCB HO5 Hown hpre y1
        obtain ⟨w8, hw8⟩ : ∃ W, w7.setCell ⟨g5, k, none⟩ (.int .i64 (nd - 1)) = W := ⟨_, rfl⟩
        have hps := pre_set c.items.length (fun i => needF i (rsOf c s)) tl k (nd - 1) hlt
        have HIL := Lib.hid (ints_of_pre (cap := cap5) (by rw [← hps]; exact HK0.out.set k (.int .i64 (nd - 1))) hcapb.1 hcapb.2)
        rw [hw8] at HIL
        have hO8 : Only (fun b => b = g5) w7 w8 := by rw [← hw8]; exact only_set _ _ _ _
        have hB8 : Below wd.heap.size w7 w8 := hO8.below (Below.refl _ _) HB5.out.size (fun k hk => by omega)
        have hBd : Below wd.heap.size wd w8 := HB5.out.trans hB8
        replace HB := Lib.hid (HB.out.trans (hBd.mono HB.out.size))
        replace HX := Lib.hid (HX.out.below hBd)
        replace HC := Lib.hid (HC.out.below hBd)
        replace HS := Lib.hid (HS.out.below hBd)
        replace HBl := Lib.hid (HBl.out.trans (hBd.mono HBl.out.size))
        have hrf : runB c s (fun i => if i = k then nd - 1 else needF i (rsOf c s)) = false := by
          rw [Bool.eq_false_iff]
          intro h
          have := runB_true.1 h k hlt
          rw [HND.out, if_pos rfl] at this
          omega
        have HRF := Lib.hid hrf
        have m0 := HX.out.c0
        have m1 := HX.out.c1
        have m2 := HX.out.c2
        have m3 := HX.out.c3
        clear hO8 hB8 hBd hps HK0 HB5 hrf
        go_wp2_with fail
        clear z0 zf hw8
        refine (run_any _ _ _ _ c s (fun i => if i = k then nd - 1 else needF i (rsOf c s)) _ HC.out HF.out.good HS.out HIL.out HU.out.lt (by omega) (fun i => by
          show (0 : Int) ≤ if i = k then nd - 1 else needF i (rsOf c s)
          split
          · omega
          · exact needF_nonneg i _) (fun i => by
          show (if i = k then nd - 1 else needF i (rsOf c s)) ≤ 1000000000
          have := HN6.out i
          split <;> omega)).mono ?_
        rintro e w9 ⟨⟨vl, rfl, -⟩, hB⟩
        rw [HRF.out]
        replace HBl := Lib.hid (HBl.out.trans (hB.mono HBl.out.size))
        clear m0 m1 m2 m3 hB
        go_wp2_with fail
        go_roundw
        case rel => exact ⟨k + 1, by omega, by go_num, HBl⟩
        case measure => simp [intOf]; omega
    · have hkk : k = c.items.length := by omega
      have q1 : decide ((k : Int) < (c.items.length : Int)) = false := decide_eq_false (by omega)
      go_wp2_with fail
      refine (lives_any _ (HK.out.keep HB.out)).mono ?_
      rintro e w9 ⟨rfl, hB⟩
      replace HB := Lib.hid (HB.out.trans (hB.mono HB.out.size))
      go_wp2_with fail
      go_ret
      exact ⟨rfl, HB.out⟩
end Go.Proofs.YtfpcgjgkbniofaaDoor
