/- the law GainFind: its walk. -/
import Derived.Test.YtfpcgjgkbniofaaGreatDoorGFine
import Derived.Test.YtfpcgjgkbniofaaGreatDoorGFindU
import Derived.Test.YtfpcgjgkbniofaaGreatDoorGErr
import Derived.Test.YtfpcgjgkbniofaaGreatDoorGBad
import Derived.Test.YtfpcgjgkbniofaaGreatDoorGLives
set_option linter.unusedVariables false
set_option linter.unusedSimpArgs false
namespace Go.Proofs.YtfpcgjgkbniofaaGreatDoor
open Go.RowKit
attribute [local go_sem] Oper.semAt_some

theorem blk_store3 {w : World} {g : Nat} {t : TypeId} {x0 x1 x2 v0 v1 v2 : Value} (h : BlkC w g t [x0, x1, x2]) : BlkC (((w.setCell ⟨g, 0, none⟩ v0).setCell ⟨g, 1, none⟩ v1).setCell ⟨g, 2, none⟩ v2) g t [v0, v1, v2] := ((h.set 0 v0).set 1 v1).set 2 v2
theorem below_store3 {B : Nat} {w0 w : World} {g : Nat} {v0 v1 v2 : Value} (h : Below B w0 w) (hg : B ≤ g) : Below B w0 (((w.setCell ⟨g, 0, none⟩ v0).setCell ⟨g, 1, none⟩ v1).setCell ⟨g, 2, none⟩ v2) :=
  ((h.setCell (p := ⟨g, 0, none⟩) hg _).setCell (p := ⟨g, 1, none⟩) hg _).setCell (p := ⟨g, 2, none⟩) hg _
theorem ints_store3 {w : World} {g : Nat} {t : TypeId} {v : Value} {l : List Int} {v0 v1 v2 : Value} (h : IntsOf w v l) (hg : BlkC w g t [.slice none 0 0, .slice none 0 0, .slice none 0 0]) : IntsOf (((w.setCell ⟨g, 0, none⟩ v0).setCell ⟨g, 1, none⟩ v1).setCell ⟨g, 2, none⟩ v2) v l := by
  obtain ⟨a, cap, hv, h1, h2, hc⟩ := h
  refine ⟨a, cap, hv, h1, h2, fun h0 => ?_⟩
  obtain ⟨b, ha, hlt, hcc⟩ := hc h0
  have hne : b ≠ g := by
    rintro rfl
    obtain ⟨cs, rfl, _, hcl⟩ := hcc 0 h0
    have h3 := hcl 0 (by omega)
    rw [Nat.zero_mul, Nat.zero_add, hg.cell] at h3
    cases h3
  refine ⟨b, ha, by simpa [World.setCell] using hlt, fun j hj => ?_⟩
  obtain ⟨cs, hr, hl, hcl⟩ := hcc j hj
  refine ⟨cs, hr, hl, fun i hi => ?_⟩
  have far : ∀ (W : World) (o : Nat) (u : Value), (W.setCell ⟨g, o, none⟩ u).cell? ⟨b, j * 1 + i, none⟩ = W.cell? ⟨b, j * 1 + i, none⟩ := fun W o u => World.cell?_setCell_other _ _ _ _ (by intro e; injection e with e1; exact hne e1.symm)
  rw [far, far, far]
  exact hcl i hi

set_option maxRecDepth 100000 in
set_option maxHeartbeats 8000000 in
theorem gainFind_any (v1 : Value) (zs : List Int) (n1 : Nat) (a0 f0 : Int) (bal : Bool) (w : World) (h1 : IntsAt w v1 zs n1) (ha1 : -9223372036854775808 ≤ a0) (ha2 : a0 ≤ 9223372036854775807) (hf1 : -9223372036854775808 ≤ f0) (hf2 : f0 ≤ 9223372036854775807) (hK : Kinds w) :
    Calls Tryz.prog 4 #[v1, .int .i64 a0, .int .i64 f0, .bool bal] w fun e w' => e = .returned (.bool true) ∧ Below w.heap.size w w' := by
  have HI := Lib.hid h1
  have HK := Lib.hid hK
  have HB := Lib.hid (Below.refl w.heap.size w)
  have har := around_range a0 4 (by omega)
  have haf := around_range f0 60 (by omega)
  have haz := around_range a0 2 (by omega)
  have HAR := Lib.hid (fun W => around_any a0 4 W ha1 ha2 (by omega) (by omega))
  have HAF := Lib.hid (fun W => around_any f0 60 W hf1 hf2 (by omega) (by omega))
  have HAZ := Lib.hid (fun W => around_any a0 2 W ha1 ha2 (by omega) (by omega))
  obtain ⟨ka, hka⟩ : ∃ k : Nat, around a0 4 = (k : Int) := ⟨(around a0 4).toNat, by omega⟩
  obtain ⟨kf, hkf⟩ : ∃ k : Nat, around f0 60 = (k : Int) := ⟨(around f0 60).toNat, by omega⟩
  obtain ⟨kz, hkz⟩ : ∃ k : Nat, around a0 2 = (k : Int) := ⟨(around a0 2).toNat, by omega⟩
  rw [hka] at har HAR
  rw [hkf] at haf HAF
  rw [hkz] at haz HAZ
  clear h1 hK ha1 ha2 hf1 hf2 hka hkf hkz
  obtain ⟨kn, hkn⟩ : ∃ n, ka + 1 = n := ⟨_, rfl⟩
  have hwi : (ka : Int) + 1 = (kn : Int) := by omega
  have hkn4 : 1 ≤ kn ∧ kn ≤ 4 := by omega
  clear hkn
  go_enter Tryz.func4, Tryz.ntmps4
  go_wp2_with fail
  refine (catalog_any _ zs n1 bal _ (HI.out.below (Nat.le_refl _) HB.out)).mono ?_
  rintro e w1 ⟨⟨vi, vr, rfl, hc⟩, hB⟩
  obtain ⟨c, hcc⟩ : ∃ c, genCat (pkOf zs n1) bal = c := ⟨_, rfl⟩
  have hf := genCat_fine (bal := bal) (picks_of zs n1)
  have hr6 := genCat_rules (bal := bal) (picks_of zs n1)
  have hi5 := genCat_items (bal := bal) (picks_of zs n1)
  have hg5 := (genN_le (picks_of zs n1)).2
  rw [← hi5] at hg5
  rw [hcc] at hc hf hr6 hg5
  have HF := Lib.hid hf
  replace HB := Lib.hid (HB.out.trans (hB.mono HB.out.size))
  obtain ⟨ai, ci, rfl, hi1, hi2⟩ := hc.items.form
  obtain ⟨ar, cr, rfl, hr1, hr2⟩ := hc.rules.form
  have HC := Lib.hid hc
  have hl1 := hf.good.some_
  clear hcc hf hc hB hi5
  unfold catV
  go_wp2_with fail
  obtain ⟨w2, hw⟩ : ∃ w2, w1.alloc (.cells #[.slice ai c.items.length ci, .slice ar c.rules.length cr, .slice none 0 0, .slice none 0 0] 28) = w2 := ⟨_, rfl⟩
  have hB : Below w1.heap.size w1 w2 := by rw [← hw]; exact (Below.refl _ _).alloc (Nat.le_refl _) _
  have HX : Hid (BoxC w2 w1.heap.size (.slice ai c.items.length ci) (.slice ar c.rules.length cr)) := Lib.hid (by rw [← hw]; exact BoxC.new _ _ _)
  replace HB := Lib.hid (HB.out.trans (hB.mono HB.out.size))
  replace HC := Lib.hid (HC.out.below hB)
  rw [hw]
  clear hB hw
  have m0 := HX.out.c0
  have m1 := HX.out.c1
  have m2 := HX.out.c2
  have m3 := HX.out.c3
  have mlt := HX.out.lt
  refine (HAR.out w2).mono ?_
  rintro e w' ⟨rfl, rfl⟩
  go_wp2_with fail
  refine (HAF.out w2).mono ?_
  rintro e w' ⟨rfl, rfl⟩
  go_wp2_with fail
  clear hwi HAR HAF
  obtain ⟨wl, hwl⟩ : ∃ W, w2.alloc (.cells #[.int .i64 (kf : Int), .int .i64 1000, .int .i64 (-1)] 3) = W := ⟨_, rfl⟩
  have hB : Below w2.heap.size w2 wl := by rw [← hwl]; exact (Below.refl _ _).alloc (Nat.le_refl _) _
  have HFu : Hid (BlkC wl w2.heap.size 3 [.int .i64 (kf : Int), .int .i64 1000, .int .i64 (-1)]) := Lib.hid (by rw [← hwl]; exact BlkC.new _ _ _)
  obtain ⟨gf, hgf⟩ : ∃ g, w2.heap.size = g := ⟨_, rfl⟩
  rw [hgf] at HFu
  have H3F : Hid (∀ k, k < 3 → ∃ f : Int, ([.int .i64 (kf : Int), .int .i64 1000, .int .i64 (-1)] : List Value)[k]? = some (.int .i64 f) ∧ -1 ≤ f ∧ f ≤ 1000) := Lib.hid (fun k hk => by
    match k, hk with
    | 0, _ => exact ⟨_, rfl, by omega, by omega⟩
    | 1, _ => exact ⟨_, rfl, by omega, by omega⟩
    | 2, _ => exact ⟨_, rfl, by omega, by omega⟩)
  replace HB := Lib.hid (HB.out.trans (hB.mono HB.out.size))
  replace HX := Lib.hid (HX.out.below hB)
  replace HC := Lib.hid (HC.out.below hB)
  clear m0 m1 m2 m3 mlt
  have m0 := HX.out.c0
  have m1 := HX.out.c1
  have m2 := HX.out.c2
  have m3 := HX.out.c3
  have mlt := HX.out.lt
  rw [hwl, hgf]
  clear hwl hB hgf m0 m1 m2 m3 mlt
  go_loopw [12] (fun i wr => ∃ k : Nat, k ≤ 3 ∧ i = .int .i64 k ∧ Hid (Below wl.heap.size wl wr)) (fun i _ => 3 - (intOf i).toNat)
  case atStart => exact ⟨0, by omega, rfl, Lib.hid (Below.refl _ _)⟩
  case round =>
    obtain ⟨k, hk, rfl, HBl⟩ := hrel
    have hBl := HBl.out
    replace HB := Lib.hid (HB.out.trans (hBl.mono HB.out.size))
    replace HX := Lib.hid (HX.out.below hBl)
    replace HC := Lib.hid (HC.out.below hBl)
    replace HFu := Lib.hid (HFu.out.below hBl HFu.out.lt)
    by_cases hlt : k < 3
    · obtain ⟨f, hvk, hfl, hfh⟩ := H3F.out k hlt
      have HVK := Lib.hid hvk
      obtain ⟨R, -, hFM, hRM⟩ := find_uni (.slice ai c.items.length ci) (.slice ar c.rules.length cr) c kn f HF.out hr6 (by omega) (by omega) (by omega) (by omega)
      obtain ⟨bb, hbb⟩ : ∃ b, soB R = b := ⟨_, rfl⟩
      obtain ⟨er, her⟩ : ∃ b, soE R = b := ⟨_, rfl⟩
      obtain ⟨l1, hl1'⟩ : ∃ b, soR R = b := ⟨_, rfl⟩
      obtain ⟨l2, hl2'⟩ : ∃ b, soN c R = b := ⟨_, rfl⟩
      obtain ⟨l3, hl3'⟩ : ∃ b, soG c R = b := ⟨_, rfl⟩
      rw [hbb, her, hl1', hl2', hl3'] at hFM hRM
      have HFM := Lib.hid hFM
      have HRM := Lib.hid hRM
      clear hFM hRM hbb her hl1' hl2' hl3' hvk hBl
      have q0 : (er != er) = false := by simp
      have q2 : (bb != bb) = false := by simp
      have q1 : decide ((k : Int) < 3) = true := decide_eq_true (by omega)
      have i1 : (0 : Int) ≤ (k : Int) := by omega
      have i2 : (k : Int) < 3 := by omega
      go_wp2_with fail
      clear q1
      refine wp_join (fun t ds a w' => ∃ (u0 u1 u2 u3 u4 u5 u6 u7 u8 u9 u10 : Value) (bx : Nat) (a1 : Option Addr) (c1 : Nat) (a2 : Option Addr) (c2 : Nat) (a3 : Option Addr) (c3 : Nat), a = ⟨(((((((((((((t.setIfInBounds 39 u0).setIfInBounds 40 u1).setIfInBounds 41 u2).setIfInBounds 42 u3).setIfInBounds 43 u4).setIfInBounds 44 u5).setIfInBounds 45 u6).setIfInBounds 38 u7).setIfInBounds 46 u8).setIfInBounds 47 u9).setIfInBounds 48 u10).setIfInBounds 13 (.pointer (some ⟨bx, 0, none⟩))).setIfInBounds 14 (.bool bb)).setIfInBounds 15 (.int .i64 er), ds⟩ ∧ Hid (Below wr.heap.size wr w') ∧ Hid (BlkC w' bx 42 [.slice a1 l1.length c1, .slice a2 l2.length c2, .slice a3 l3.length c3]) ∧ Hid (IntsOf w' (.slice a1 l1.length c1) l1) ∧ Hid (IntsOf w' (.slice a2 l2.length c2) l2) ∧ Hid (IntsOf w' (.slice a3 l3.length c3) l3)) ?_ ?_
      · obtain ⟨wd, hwd⟩ : ∃ X, wr.drew = X := ⟨_, rfl⟩
        have HBr : Hid (Below wr.heap.size wr wd) := Lib.hid (by rw [← hwd]; exact (Below.refl _ _).drew)
        have HS9 : Hid (∀ X, Below wr.heap.size wr X → X.cell? ⟨w1.heap.size, 0, none⟩ = some (.slice ai c.items.length ci) ∧ X.cell? ⟨w1.heap.size, 1, none⟩ = some (.slice ar c.rules.length cr) ∧ X.cell? ⟨w1.heap.size, 2, none⟩ = some (.slice none 0 0) ∧ X.cell? ⟨w1.heap.size, 3, none⟩ = some (.slice none 0 0) ∧ X.cell? ⟨gf, k, none⟩ = some (.int .i64 f)) := Lib.hid (fun X hX => by
          have h9 := HX.out.below hX
          refine ⟨h9.c0, h9.c1, h9.c2, h9.c3, ?_⟩
          rw [(HFu.out.below hX HFu.out.lt).cell k]
          exact HVK.out)
        refine startK 99 (fun X => X.cell? ⟨w1.heap.size, 0, none⟩ = some (.slice ai c.items.length ci) ∧ X.cell? ⟨w1.heap.size, 1, none⟩ = some (.slice ar c.rules.length cr) ∧ X.cell? ⟨w1.heap.size, 2, none⟩ = some (.slice none 0 0) ∧ X.cell? ⟨w1.heap.size, 3, none⟩ = some (.slice none 0 0) ∧ X.cell? ⟨gf, k, none⟩ = some (.int .i64 f)) (by kernel_rfl) (by rw [hwd]; exact HS9.out _ HBr.out) (fun hHeld => ?_)
        rw [hwd] at hHeld ⊢
        clear hwd
        refine takeK 0 39 (v := ?_) rfl rfl (by kernel_rfl) (by kernel_rfl) (by kernel_rfl) (by kernel_rfl) (fun _ _ _ h => h) (by rfl) ?_ (by assumption) ?_
        rotate_left
        · (intro w hSw; go_simp; first | done | with_reducible rfl)
        simp only [List.setIfInBounds_toArray, List.set_cons_zero, List.set_cons_succ]
        refine takeK 1 40 (v := ?_) rfl rfl (by kernel_rfl) (by kernel_rfl) (by kernel_rfl) (by kernel_rfl) (fun _ _ _ h => h) (by rfl) ?_ (by assumption) ?_
        rotate_left
        · (intro w hSw; go_simp; first | done | with_reducible rfl)
        simp only [List.setIfInBounds_toArray, List.set_cons_zero, List.set_cons_succ]
        refine takeK 2 41 (v := ?_) rfl rfl (by kernel_rfl) (by kernel_rfl) (by kernel_rfl) (by kernel_rfl) (fun _ _ _ h => h) (by rfl) ?_ (by assumption) ?_
        rotate_left
        · (intro w hSw; go_simp; first | done | with_reducible rfl)
        simp only [List.setIfInBounds_toArray, List.set_cons_zero, List.set_cons_succ]
        refine takeK 3 42 (v := ?_) rfl rfl (by kernel_rfl) (by kernel_rfl) (by kernel_rfl) (by kernel_rfl) (fun _ _ _ h => h) (by rfl) ?_ (by assumption) ?_
        rotate_left
        · (intro w hSw; go_simp; first | done | with_reducible rfl)
        simp only [List.setIfInBounds_toArray, List.set_cons_zero, List.set_cons_succ]
        refine takeK 4 43 (v := ?_) rfl rfl (by kernel_rfl) (by kernel_rfl) (by kernel_rfl) (by kernel_rfl) (fun _ _ _ h => h) (by rfl) ?_ (by assumption) ?_
        rotate_left
        · (intro w hSw; go_simp; first | done | with_reducible rfl)
        simp only [List.setIfInBounds_toArray, List.set_cons_zero, List.set_cons_succ]
        refine takeK 5 44 (v := ?_) rfl rfl (by kernel_rfl) (by kernel_rfl) (by kernel_rfl) (by kernel_rfl) (fun _ _ _ h => h) (by rfl) ?_ (by assumption) ?_
        rotate_left
        · (intro w hSw; go_simp; first | done | with_reducible rfl)
        simp only [List.setIfInBounds_toArray, List.set_cons_zero, List.set_cons_succ]
        refine forkK [6, 11] (by kernel_rfl) (by simp) ⟨forkOne 6 rfl (fun K hK => ?_), forkOne 11 rfl (fun K hK => ?_), trivial⟩
        · skip
          go_simp
          refine (HFM.out wd (HC.out.below HBr.out) (HK.out.keep (HB.out.trans (HBr.out.mono HB.out.size)))).mono ?_
          rintro e wq1 ⟨hB, a1, c1, a2, c2, a3, c3, rfl, h1, h2, h3⟩
          have HA1 := Lib.hid h1
          have HA2 := Lib.hid h2
          have HA3 := Lib.hid h3
          replace HBr := Lib.hid (HBr.out.trans (hB.mono HBr.out.size))
          try replace HBX := Lib.hid (HBX.out.below hB HBX.out.lt)
          clear hB h1 h2 h3 hHeld
          go_wp2_with fail
          refine hK.out _ _ (HS9.out _ HBr.out) (fun hHeld => ?_)
          clear hK K
          try simp only [Act.put, List.setIfInBounds_toArray, List.set_cons_zero, List.set_cons_succ]
          refine takeK 7 38 (v := ?_) rfl rfl (by kernel_rfl) (by kernel_rfl) (by kernel_rfl) (by kernel_rfl) (fun _ _ _ h => h) (by rfl) ?_ (by assumption) ?_
          rotate_left
          · (intro w hSw; go_simp; first | done | with_reducible rfl)
          simp only [List.setIfInBounds_toArray, List.set_cons_zero, List.set_cons_succ]
          refine takeK 8 46 (v := ?_) rfl rfl (by kernel_rfl) (by kernel_rfl) (by kernel_rfl) (by kernel_rfl) (fun _ _ _ h => h) (by rfl) ?_ (by assumption) ?_
          rotate_left
          · (intro w hSw; go_simp; first | done | with_reducible rfl)
          simp only [List.setIfInBounds_toArray, List.set_cons_zero, List.set_cons_succ]
          refine takeK 9 47 (v := ?_) rfl rfl (by kernel_rfl) (by kernel_rfl) (by kernel_rfl) (by kernel_rfl) (fun _ _ _ h => h) (by rfl) ?_ (by assumption) ?_
          rotate_left
          · (intro w hSw; go_simp; first | done | with_reducible rfl)
          simp only [List.setIfInBounds_toArray, List.set_cons_zero, List.set_cons_succ]
          refine takeK 10 48 (v := ?_) rfl rfl (by kernel_rfl) (by kernel_rfl) (by kernel_rfl) (by kernel_rfl) (fun _ _ _ h => h) (by rfl) ?_ (by assumption) ?_
          rotate_left
          · (intro w hSw; go_simp; first | done | with_reducible rfl)
          simp only [List.setIfInBounds_toArray, List.set_cons_zero, List.set_cons_succ]
          refine stepK 11 (by kernel_rfl) rfl (fun K hK => ?_)
          go_simp
          obtain ⟨wq2, hw2⟩ : ∃ X, wq1.alloc (.cells #[.slice none 0 0, .slice none 0 0, .slice none 0 0] 42) = X := ⟨_, rfl⟩
          have hB : Below wq1.heap.size wq1 wq2 := by rw [← hw2]; exact (Below.refl _ _).alloc (Nat.le_refl _) _
          obtain ⟨bx, hG⟩ : ∃ g, wq1.heap.size = g := ⟨_, rfl⟩
          have HBX : Hid (BlkC wq2 bx 42 [.slice none 0 0, .slice none 0 0, .slice none 0 0]) := Lib.hid (by rw [← hw2, ← hG]; exact BlkC.new _ _ _)
          have hbx : wr.heap.size ≤ bx := by rw [← hG]; exact HBr.out.size
          replace HBr := Lib.hid (HBr.out.trans (hB.mono HBr.out.size))
          try replace HA1 := Lib.hid (HA1.out.below hB)
          try replace HA2 := Lib.hid (HA2.out.below hB)
          try replace HA3 := Lib.hid (HA3.out.below hB)
          rw [hw2, hG]
          clear hB hw2 hG hHeld
          go_wp2_with fail
          refine hK.out _ _ (HS9.out _ HBr.out) (fun hHeld => ?_)
          clear hK K
          try simp only [Act.put, List.setIfInBounds_toArray, List.set_cons_zero, List.set_cons_succ]
          have y0 := HBX.out.cell 0
          have y1 := HBX.out.cell 1
          have y2 := HBX.out.cell 2
          have yf0 := HBX.out.frozen 0
          have yf1 := HBX.out.frozen 1
          have yf2 := HBX.out.frozen 2
          simp only [List.getElem?_cons_succ, List.getElem?_cons_zero] at y0 y1 y2
          refine stepK 12 (by kernel_rfl) rfl (fun K hK => ?_)
          go_simp
          replace HA1 := Lib.hid (ints_store3 (v0 := .slice a1 l1.length c1) (v1 := .slice a2 l2.length c2) (v2 := .slice a3 l3.length c3) HA1.out HBX.out)
          replace HA2 := Lib.hid (ints_store3 (v0 := .slice a1 l1.length c1) (v1 := .slice a2 l2.length c2) (v2 := .slice a3 l3.length c3) HA2.out HBX.out)
          replace HA3 := Lib.hid (ints_store3 (v0 := .slice a1 l1.length c1) (v1 := .slice a2 l2.length c2) (v2 := .slice a3 l3.length c3) HA3.out HBX.out)
          replace HBr := Lib.hid (below_store3 (v0 := .slice a1 l1.length c1) (v1 := .slice a2 l2.length c2) (v2 := .slice a3 l3.length c3) HBr.out hbx)
          replace HBX := Lib.hid (blk_store3 (v0 := .slice a1 l1.length c1) (v1 := .slice a2 l2.length c2) (v2 := .slice a3 l3.length c3) HBX.out)
          clear hHeld y0 y1 y2 yf0 yf1 yf2
          go_wp2_with fail
          refine hK.out _ _ (HS9.out _ HBr.out) (fun hHeld => ?_)
          clear hK K
          try simp only [Act.put, List.setIfInBounds_toArray, List.set_cons_zero, List.set_cons_succ]
          refine takeK 13 14 (v := ?_) rfl rfl (by kernel_rfl) (by kernel_rfl) (by kernel_rfl) (by kernel_rfl) (fun _ _ _ h => h) (by rfl) ?_ (by assumption) ?_
          rotate_left
          · (intro w hSw; go_simp; first | done | with_reducible rfl)
          simp only [List.setIfInBounds_toArray, List.set_cons_zero, List.set_cons_succ]
          refine takeK 14 15 (v := ?_) rfl rfl (by kernel_rfl) (by kernel_rfl) (by kernel_rfl) (by kernel_rfl) (fun _ _ _ h => h) (by rfl) ?_ (by assumption) ?_
          rotate_left
          · (intro w hSw; go_simp; first | done | with_reducible rfl)
          simp only [List.setIfInBounds_toArray, List.set_cons_zero, List.set_cons_succ]
          refine doneK (by kernel_rfl) ?_ _
          clear hHeld
          exact joinQ_normal ⟨_, _, _, _, _, _, _, _, _, _, _, _, _, _, _, _, _, _, by first | rfl | (simp only [List.setIfInBounds_toArray, List.set_cons_zero, List.set_cons_succ]; rfl), HBr, HBX, HA1, HA2, HA3⟩
        · skip
          go_simp
          obtain ⟨wq1, hw2⟩ : ∃ X, wd.alloc (.cells #[.slice none 0 0, .slice none 0 0, .slice none 0 0] 42) = X := ⟨_, rfl⟩
          have hB : Below wd.heap.size wd wq1 := by rw [← hw2]; exact (Below.refl _ _).alloc (Nat.le_refl _) _
          obtain ⟨bx, hG⟩ : ∃ g, wd.heap.size = g := ⟨_, rfl⟩
          have HBX : Hid (BlkC wq1 bx 42 [.slice none 0 0, .slice none 0 0, .slice none 0 0]) := Lib.hid (by rw [← hw2, ← hG]; exact BlkC.new _ _ _)
          have hbx : wr.heap.size ≤ bx := by rw [← hG]; exact HBr.out.size
          replace HBr := Lib.hid (HBr.out.trans (hB.mono HBr.out.size))
          try replace HA1 := Lib.hid (HA1.out.below hB)
          try replace HA2 := Lib.hid (HA2.out.below hB)
          try replace HA3 := Lib.hid (HA3.out.below hB)
          rw [hw2, hG]
          clear hB hw2 hG hHeld
          go_wp2_with fail
          refine hK.out _ _ (HS9.out _ HBr.out) (fun hHeld => ?_)
          clear hK K
          try simp only [Act.put, List.setIfInBounds_toArray, List.set_cons_zero, List.set_cons_succ]
          refine stepK 6 (by kernel_rfl) rfl (fun K hK => ?_)
          go_simp
          refine (HFM.out wq1 (HC.out.below HBr.out) (HK.out.keep (HB.out.trans (HBr.out.mono HB.out.size)))).mono ?_
          rintro e wq2 ⟨hB, a1, c1, a2, c2, a3, c3, rfl, h1, h2, h3⟩
          have HA1 := Lib.hid h1
          have HA2 := Lib.hid h2
          have HA3 := Lib.hid h3
          replace HBr := Lib.hid (HBr.out.trans (hB.mono HBr.out.size))
          try replace HBX := Lib.hid (HBX.out.below hB HBX.out.lt)
          clear hB h1 h2 h3 hHeld
          go_wp2_with fail
          refine hK.out _ _ (HS9.out _ HBr.out) (fun hHeld => ?_)
          clear hK K
          try simp only [Act.put, List.setIfInBounds_toArray, List.set_cons_zero, List.set_cons_succ]
          refine takeK 7 38 (v := ?_) rfl rfl (by kernel_rfl) (by kernel_rfl) (by kernel_rfl) (by kernel_rfl) (fun _ _ _ h => h) (by rfl) ?_ (by assumption) ?_
          rotate_left
          · (intro w hSw; go_simp; first | done | with_reducible rfl)
          simp only [List.setIfInBounds_toArray, List.set_cons_zero, List.set_cons_succ]
          refine takeK 8 46 (v := ?_) rfl rfl (by kernel_rfl) (by kernel_rfl) (by kernel_rfl) (by kernel_rfl) (fun _ _ _ h => h) (by rfl) ?_ (by assumption) ?_
          rotate_left
          · (intro w hSw; go_simp; first | done | with_reducible rfl)
          simp only [List.setIfInBounds_toArray, List.set_cons_zero, List.set_cons_succ]
          refine takeK 9 47 (v := ?_) rfl rfl (by kernel_rfl) (by kernel_rfl) (by kernel_rfl) (by kernel_rfl) (fun _ _ _ h => h) (by rfl) ?_ (by assumption) ?_
          rotate_left
          · (intro w hSw; go_simp; first | done | with_reducible rfl)
          simp only [List.setIfInBounds_toArray, List.set_cons_zero, List.set_cons_succ]
          refine takeK 10 48 (v := ?_) rfl rfl (by kernel_rfl) (by kernel_rfl) (by kernel_rfl) (by kernel_rfl) (fun _ _ _ h => h) (by rfl) ?_ (by assumption) ?_
          rotate_left
          · (intro w hSw; go_simp; first | done | with_reducible rfl)
          simp only [List.setIfInBounds_toArray, List.set_cons_zero, List.set_cons_succ]
          have y0 := HBX.out.cell 0
          have y1 := HBX.out.cell 1
          have y2 := HBX.out.cell 2
          have yf0 := HBX.out.frozen 0
          have yf1 := HBX.out.frozen 1
          have yf2 := HBX.out.frozen 2
          simp only [List.getElem?_cons_succ, List.getElem?_cons_zero] at y0 y1 y2
          refine stepK 12 (by kernel_rfl) rfl (fun K hK => ?_)
          go_simp
          replace HA1 := Lib.hid (ints_store3 (v0 := .slice a1 l1.length c1) (v1 := .slice a2 l2.length c2) (v2 := .slice a3 l3.length c3) HA1.out HBX.out)
          replace HA2 := Lib.hid (ints_store3 (v0 := .slice a1 l1.length c1) (v1 := .slice a2 l2.length c2) (v2 := .slice a3 l3.length c3) HA2.out HBX.out)
          replace HA3 := Lib.hid (ints_store3 (v0 := .slice a1 l1.length c1) (v1 := .slice a2 l2.length c2) (v2 := .slice a3 l3.length c3) HA3.out HBX.out)
          replace HBr := Lib.hid (below_store3 (v0 := .slice a1 l1.length c1) (v1 := .slice a2 l2.length c2) (v2 := .slice a3 l3.length c3) HBr.out hbx)
          replace HBX := Lib.hid (blk_store3 (v0 := .slice a1 l1.length c1) (v1 := .slice a2 l2.length c2) (v2 := .slice a3 l3.length c3) HBX.out)
          clear hHeld y0 y1 y2 yf0 yf1 yf2
          go_wp2_with fail
          refine hK.out _ _ (HS9.out _ HBr.out) (fun hHeld => ?_)
          clear hK K
          try simp only [Act.put, List.setIfInBounds_toArray, List.set_cons_zero, List.set_cons_succ]
          refine takeK 13 14 (v := ?_) rfl rfl (by kernel_rfl) (by kernel_rfl) (by kernel_rfl) (by kernel_rfl) (fun _ _ _ h => h) (by rfl) ?_ (by assumption) ?_
          rotate_left
          · (intro w hSw; go_simp; first | done | with_reducible rfl)
          simp only [List.setIfInBounds_toArray, List.set_cons_zero, List.set_cons_succ]
          refine takeK 14 15 (v := ?_) rfl rfl (by kernel_rfl) (by kernel_rfl) (by kernel_rfl) (by kernel_rfl) (fun _ _ _ h => h) (by rfl) ?_ (by assumption) ?_
          rotate_left
          · (intro w hSw; go_simp; first | done | with_reducible rfl)
          simp only [List.setIfInBounds_toArray, List.set_cons_zero, List.set_cons_succ]
          refine doneK (by kernel_rfl) ?_ _
          clear hHeld
          exact joinQ_normal ⟨_, _, _, _, _, _, _, _, _, _, _, _, _, _, _, _, _, _, by first | rfl | (simp only [List.setIfInBounds_toArray, List.set_cons_zero, List.set_cons_succ]; rfl), HBr, HBX, HA1, HA2, HA3⟩
      rintro a wa ⟨_, _, _, _, _, _, _, _, _, _, _, bx, a1, c1, a2, c2, a3, c3, rfl, HBr, HBX, HA1, HA2, HA3⟩
      simp only [List.setIfInBounds_toArray, List.set_cons_zero, List.set_cons_succ]
      have hB := HBr.out
      replace HB := Lib.hid (HB.out.trans (hB.mono HB.out.size))
      replace HBl := Lib.hid (HBl.out.trans (hB.mono HBl.out.size))
      replace HX := Lib.hid (HX.out.below hB)
      replace HC := Lib.hid (HC.out.below hB)
      replace HFu := Lib.hid (HFu.out.below hB HFu.out.lt)
      have HBXa := HBX
      have HAa1 := HA1
      have HAa2 := HA2
      have HAa3 := HA3
      clear hB HBr HBX HA1 HA2 HA3
      go_wp2_with fail
      refine wp_join (fun t ds a w' => ∃ (u0 u1 u2 u3 u4 u5 u6 u7 u8 u9 u10 : Value) (bx : Nat) (a1 : Option Addr) (c1 : Nat) (a2 : Option Addr) (c2 : Nat) (a3 : Option Addr) (c3 : Nat), a = ⟨(((((((((((((t.setIfInBounds 50 u0).setIfInBounds 51 u1).setIfInBounds 52 u2).setIfInBounds 53 u3).setIfInBounds 54 u4).setIfInBounds 55 u5).setIfInBounds 56 u6).setIfInBounds 49 u7).setIfInBounds 57 u8).setIfInBounds 58 u9).setIfInBounds 59 u10).setIfInBounds 16 (.pointer (some ⟨bx, 0, none⟩))).setIfInBounds 17 (.bool bb)).setIfInBounds 18 (.int .i64 er), ds⟩ ∧ Hid (Below wa.heap.size wa w') ∧ Hid (BlkC w' bx 45 [.slice a1 l1.length c1, .slice a2 l2.length c2, .slice a3 l3.length c3]) ∧ Hid (IntsOf w' (.slice a1 l1.length c1) l1) ∧ Hid (IntsOf w' (.slice a2 l2.length c2) l2) ∧ Hid (IntsOf w' (.slice a3 l3.length c3) l3)) ?_ ?_
      · obtain ⟨wd, hwd⟩ : ∃ X, wa.drew = X := ⟨_, rfl⟩
        have HBr : Hid (Below wa.heap.size wa wd) := Lib.hid (by rw [← hwd]; exact (Below.refl _ _).drew)
        have HS9 : Hid (∀ X, Below wa.heap.size wa X → X.cell? ⟨w1.heap.size, 0, none⟩ = some (.slice ai c.items.length ci) ∧ X.cell? ⟨w1.heap.size, 1, none⟩ = some (.slice ar c.rules.length cr) ∧ X.cell? ⟨w1.heap.size, 2, none⟩ = some (.slice none 0 0) ∧ X.cell? ⟨w1.heap.size, 3, none⟩ = some (.slice none 0 0) ∧ X.cell? ⟨gf, k, none⟩ = some (.int .i64 f)) := Lib.hid (fun X hX => by
          have h9 := HX.out.below hX
          refine ⟨h9.c0, h9.c1, h9.c2, h9.c3, ?_⟩
          rw [(HFu.out.below hX HFu.out.lt).cell k]
          exact HVK.out)
        refine startK 99 (fun X => X.cell? ⟨w1.heap.size, 0, none⟩ = some (.slice ai c.items.length ci) ∧ X.cell? ⟨w1.heap.size, 1, none⟩ = some (.slice ar c.rules.length cr) ∧ X.cell? ⟨w1.heap.size, 2, none⟩ = some (.slice none 0 0) ∧ X.cell? ⟨w1.heap.size, 3, none⟩ = some (.slice none 0 0) ∧ X.cell? ⟨gf, k, none⟩ = some (.int .i64 f)) (by kernel_rfl) (by rw [hwd]; exact HS9.out _ HBr.out) (fun hHeld => ?_)
        rw [hwd] at hHeld ⊢
        clear hwd
        refine takeK 0 50 (v := ?_) rfl rfl (by kernel_rfl) (by kernel_rfl) (by kernel_rfl) (by kernel_rfl) (fun _ _ _ h => h) (by rfl) ?_ (by assumption) ?_
        rotate_left
        · (intro w hSw; go_simp; first | done | with_reducible rfl)
        simp only [List.setIfInBounds_toArray, List.set_cons_zero, List.set_cons_succ]
        refine takeK 1 51 (v := ?_) rfl rfl (by kernel_rfl) (by kernel_rfl) (by kernel_rfl) (by kernel_rfl) (fun _ _ _ h => h) (by rfl) ?_ (by assumption) ?_
        rotate_left
        · (intro w hSw; go_simp; first | done | with_reducible rfl)
        simp only [List.setIfInBounds_toArray, List.set_cons_zero, List.set_cons_succ]
        refine takeK 2 52 (v := ?_) rfl rfl (by kernel_rfl) (by kernel_rfl) (by kernel_rfl) (by kernel_rfl) (fun _ _ _ h => h) (by rfl) ?_ (by assumption) ?_
        rotate_left
        · (intro w hSw; go_simp; first | done | with_reducible rfl)
        simp only [List.setIfInBounds_toArray, List.set_cons_zero, List.set_cons_succ]
        refine takeK 3 53 (v := ?_) rfl rfl (by kernel_rfl) (by kernel_rfl) (by kernel_rfl) (by kernel_rfl) (fun _ _ _ h => h) (by rfl) ?_ (by assumption) ?_
        rotate_left
        · (intro w hSw; go_simp; first | done | with_reducible rfl)
        simp only [List.setIfInBounds_toArray, List.set_cons_zero, List.set_cons_succ]
        refine takeK 4 54 (v := ?_) rfl rfl (by kernel_rfl) (by kernel_rfl) (by kernel_rfl) (by kernel_rfl) (fun _ _ _ h => h) (by rfl) ?_ (by assumption) ?_
        rotate_left
        · (intro w hSw; go_simp; first | done | with_reducible rfl)
        simp only [List.setIfInBounds_toArray, List.set_cons_zero, List.set_cons_succ]
        refine takeK 5 55 (v := ?_) rfl rfl (by kernel_rfl) (by kernel_rfl) (by kernel_rfl) (by kernel_rfl) (fun _ _ _ h => h) (by rfl) ?_ (by assumption) ?_
        rotate_left
        · (intro w hSw; go_simp; first | done | with_reducible rfl)
        simp only [List.setIfInBounds_toArray, List.set_cons_zero, List.set_cons_succ]
        refine forkK [6, 11] (by kernel_rfl) (by simp) ⟨forkOne 6 rfl (fun K hK => ?_), forkOne 11 rfl (fun K hK => ?_), trivial⟩
        · skip
          go_simp
          refine (HRM.out wd (HC.out.below HBr.out) (HK.out.keep (HB.out.trans (HBr.out.mono HB.out.size)))).mono ?_
          rintro e wq1 ⟨hB, a1, c1, a2, c2, a3, c3, rfl, h1, h2, h3⟩
          have HA1 := Lib.hid h1
          have HA2 := Lib.hid h2
          have HA3 := Lib.hid h3
          replace HBr := Lib.hid (HBr.out.trans (hB.mono HBr.out.size))
          try replace HBX := Lib.hid (HBX.out.below hB HBX.out.lt)
          clear hB h1 h2 h3 hHeld
          go_wp2_with fail
          refine hK.out _ _ (HS9.out _ HBr.out) (fun hHeld => ?_)
          clear hK K
          try simp only [Act.put, List.setIfInBounds_toArray, List.set_cons_zero, List.set_cons_succ]
          refine takeK 7 49 (v := ?_) rfl rfl (by kernel_rfl) (by kernel_rfl) (by kernel_rfl) (by kernel_rfl) (fun _ _ _ h => h) (by rfl) ?_ (by assumption) ?_
          rotate_left
          · (intro w hSw; go_simp; first | done | with_reducible rfl)
          simp only [List.setIfInBounds_toArray, List.set_cons_zero, List.set_cons_succ]
          refine takeK 8 57 (v := ?_) rfl rfl (by kernel_rfl) (by kernel_rfl) (by kernel_rfl) (by kernel_rfl) (fun _ _ _ h => h) (by rfl) ?_ (by assumption) ?_
          rotate_left
          · (intro w hSw; go_simp; first | done | with_reducible rfl)
          simp only [List.setIfInBounds_toArray, List.set_cons_zero, List.set_cons_succ]
          refine takeK 9 58 (v := ?_) rfl rfl (by kernel_rfl) (by kernel_rfl) (by kernel_rfl) (by kernel_rfl) (fun _ _ _ h => h) (by rfl) ?_ (by assumption) ?_
          rotate_left
          · (intro w hSw; go_simp; first | done | with_reducible rfl)
          simp only [List.setIfInBounds_toArray, List.set_cons_zero, List.set_cons_succ]
          refine takeK 10 59 (v := ?_) rfl rfl (by kernel_rfl) (by kernel_rfl) (by kernel_rfl) (by kernel_rfl) (fun _ _ _ h => h) (by rfl) ?_ (by assumption) ?_
          rotate_left
          · (intro w hSw; go_simp; first | done | with_reducible rfl)
          simp only [List.setIfInBounds_toArray, List.set_cons_zero, List.set_cons_succ]
          refine stepK 11 (by kernel_rfl) rfl (fun K hK => ?_)
          go_simp
          obtain ⟨wq2, hw2⟩ : ∃ X, wq1.alloc (.cells #[.slice none 0 0, .slice none 0 0, .slice none 0 0] 45) = X := ⟨_, rfl⟩
          have hB : Below wq1.heap.size wq1 wq2 := by rw [← hw2]; exact (Below.refl _ _).alloc (Nat.le_refl _) _
          obtain ⟨bx, hG⟩ : ∃ g, wq1.heap.size = g := ⟨_, rfl⟩
          have HBX : Hid (BlkC wq2 bx 45 [.slice none 0 0, .slice none 0 0, .slice none 0 0]) := Lib.hid (by rw [← hw2, ← hG]; exact BlkC.new _ _ _)
          have hbx : wa.heap.size ≤ bx := by rw [← hG]; exact HBr.out.size
          replace HBr := Lib.hid (HBr.out.trans (hB.mono HBr.out.size))
          try replace HA1 := Lib.hid (HA1.out.below hB)
          try replace HA2 := Lib.hid (HA2.out.below hB)
          try replace HA3 := Lib.hid (HA3.out.below hB)
          rw [hw2, hG]
          clear hB hw2 hG hHeld
          go_wp2_with fail
          refine hK.out _ _ (HS9.out _ HBr.out) (fun hHeld => ?_)
          clear hK K
          try simp only [Act.put, List.setIfInBounds_toArray, List.set_cons_zero, List.set_cons_succ]
          have y0 := HBX.out.cell 0
          have y1 := HBX.out.cell 1
          have y2 := HBX.out.cell 2
          have yf0 := HBX.out.frozen 0
          have yf1 := HBX.out.frozen 1
          have yf2 := HBX.out.frozen 2
          simp only [List.getElem?_cons_succ, List.getElem?_cons_zero] at y0 y1 y2
          refine stepK 12 (by kernel_rfl) rfl (fun K hK => ?_)
          go_simp
          replace HA1 := Lib.hid (ints_store3 (v0 := .slice a1 l1.length c1) (v1 := .slice a2 l2.length c2) (v2 := .slice a3 l3.length c3) HA1.out HBX.out)
          replace HA2 := Lib.hid (ints_store3 (v0 := .slice a1 l1.length c1) (v1 := .slice a2 l2.length c2) (v2 := .slice a3 l3.length c3) HA2.out HBX.out)
          replace HA3 := Lib.hid (ints_store3 (v0 := .slice a1 l1.length c1) (v1 := .slice a2 l2.length c2) (v2 := .slice a3 l3.length c3) HA3.out HBX.out)
          replace HBr := Lib.hid (below_store3 (v0 := .slice a1 l1.length c1) (v1 := .slice a2 l2.length c2) (v2 := .slice a3 l3.length c3) HBr.out hbx)
          replace HBX := Lib.hid (blk_store3 (v0 := .slice a1 l1.length c1) (v1 := .slice a2 l2.length c2) (v2 := .slice a3 l3.length c3) HBX.out)
          clear hHeld y0 y1 y2 yf0 yf1 yf2
          go_wp2_with fail
          refine hK.out _ _ (HS9.out _ HBr.out) (fun hHeld => ?_)
          clear hK K
          try simp only [Act.put, List.setIfInBounds_toArray, List.set_cons_zero, List.set_cons_succ]
          refine takeK 13 17 (v := ?_) rfl rfl (by kernel_rfl) (by kernel_rfl) (by kernel_rfl) (by kernel_rfl) (fun _ _ _ h => h) (by rfl) ?_ (by assumption) ?_
          rotate_left
          · (intro w hSw; go_simp; first | done | with_reducible rfl)
          simp only [List.setIfInBounds_toArray, List.set_cons_zero, List.set_cons_succ]
          refine takeK 14 18 (v := ?_) rfl rfl (by kernel_rfl) (by kernel_rfl) (by kernel_rfl) (by kernel_rfl) (fun _ _ _ h => h) (by rfl) ?_ (by assumption) ?_
          rotate_left
          · (intro w hSw; go_simp; first | done | with_reducible rfl)
          simp only [List.setIfInBounds_toArray, List.set_cons_zero, List.set_cons_succ]
          refine doneK (by kernel_rfl) ?_ _
          clear hHeld
          exact joinQ_normal ⟨_, _, _, _, _, _, _, _, _, _, _, _, _, _, _, _, _, _, by first | rfl | (simp only [List.setIfInBounds_toArray, List.set_cons_zero, List.set_cons_succ]; rfl), HBr, HBX, HA1, HA2, HA3⟩
        · skip
          go_simp
          obtain ⟨wq1, hw2⟩ : ∃ X, wd.alloc (.cells #[.slice none 0 0, .slice none 0 0, .slice none 0 0] 45) = X := ⟨_, rfl⟩
          have hB : Below wd.heap.size wd wq1 := by rw [← hw2]; exact (Below.refl _ _).alloc (Nat.le_refl _) _
          obtain ⟨bx, hG⟩ : ∃ g, wd.heap.size = g := ⟨_, rfl⟩
          have HBX : Hid (BlkC wq1 bx 45 [.slice none 0 0, .slice none 0 0, .slice none 0 0]) := Lib.hid (by rw [← hw2, ← hG]; exact BlkC.new _ _ _)
          have hbx : wa.heap.size ≤ bx := by rw [← hG]; exact HBr.out.size
          replace HBr := Lib.hid (HBr.out.trans (hB.mono HBr.out.size))
          try replace HA1 := Lib.hid (HA1.out.below hB)
          try replace HA2 := Lib.hid (HA2.out.below hB)
          try replace HA3 := Lib.hid (HA3.out.below hB)
          rw [hw2, hG]
          clear hB hw2 hG hHeld
          go_wp2_with fail
          refine hK.out _ _ (HS9.out _ HBr.out) (fun hHeld => ?_)
          clear hK K
          try simp only [Act.put, List.setIfInBounds_toArray, List.set_cons_zero, List.set_cons_succ]
          refine stepK 6 (by kernel_rfl) rfl (fun K hK => ?_)
          go_simp
          refine (HRM.out wq1 (HC.out.below HBr.out) (HK.out.keep (HB.out.trans (HBr.out.mono HB.out.size)))).mono ?_
          rintro e wq2 ⟨hB, a1, c1, a2, c2, a3, c3, rfl, h1, h2, h3⟩
          have HA1 := Lib.hid h1
          have HA2 := Lib.hid h2
          have HA3 := Lib.hid h3
          replace HBr := Lib.hid (HBr.out.trans (hB.mono HBr.out.size))
          try replace HBX := Lib.hid (HBX.out.below hB HBX.out.lt)
          clear hB h1 h2 h3 hHeld
          go_wp2_with fail
          refine hK.out _ _ (HS9.out _ HBr.out) (fun hHeld => ?_)
          clear hK K
          try simp only [Act.put, List.setIfInBounds_toArray, List.set_cons_zero, List.set_cons_succ]
          refine takeK 7 49 (v := ?_) rfl rfl (by kernel_rfl) (by kernel_rfl) (by kernel_rfl) (by kernel_rfl) (fun _ _ _ h => h) (by rfl) ?_ (by assumption) ?_
          rotate_left
          · (intro w hSw; go_simp; first | done | with_reducible rfl)
          simp only [List.setIfInBounds_toArray, List.set_cons_zero, List.set_cons_succ]
          refine takeK 8 57 (v := ?_) rfl rfl (by kernel_rfl) (by kernel_rfl) (by kernel_rfl) (by kernel_rfl) (fun _ _ _ h => h) (by rfl) ?_ (by assumption) ?_
          rotate_left
          · (intro w hSw; go_simp; first | done | with_reducible rfl)
          simp only [List.setIfInBounds_toArray, List.set_cons_zero, List.set_cons_succ]
          refine takeK 9 58 (v := ?_) rfl rfl (by kernel_rfl) (by kernel_rfl) (by kernel_rfl) (by kernel_rfl) (fun _ _ _ h => h) (by rfl) ?_ (by assumption) ?_
          rotate_left
          · (intro w hSw; go_simp; first | done | with_reducible rfl)
          simp only [List.setIfInBounds_toArray, List.set_cons_zero, List.set_cons_succ]
          refine takeK 10 59 (v := ?_) rfl rfl (by kernel_rfl) (by kernel_rfl) (by kernel_rfl) (by kernel_rfl) (fun _ _ _ h => h) (by rfl) ?_ (by assumption) ?_
          rotate_left
          · (intro w hSw; go_simp; first | done | with_reducible rfl)
          simp only [List.setIfInBounds_toArray, List.set_cons_zero, List.set_cons_succ]
          have y0 := HBX.out.cell 0
          have y1 := HBX.out.cell 1
          have y2 := HBX.out.cell 2
          have yf0 := HBX.out.frozen 0
          have yf1 := HBX.out.frozen 1
          have yf2 := HBX.out.frozen 2
          simp only [List.getElem?_cons_succ, List.getElem?_cons_zero] at y0 y1 y2
          refine stepK 12 (by kernel_rfl) rfl (fun K hK => ?_)
          go_simp
          replace HA1 := Lib.hid (ints_store3 (v0 := .slice a1 l1.length c1) (v1 := .slice a2 l2.length c2) (v2 := .slice a3 l3.length c3) HA1.out HBX.out)
          replace HA2 := Lib.hid (ints_store3 (v0 := .slice a1 l1.length c1) (v1 := .slice a2 l2.length c2) (v2 := .slice a3 l3.length c3) HA2.out HBX.out)
          replace HA3 := Lib.hid (ints_store3 (v0 := .slice a1 l1.length c1) (v1 := .slice a2 l2.length c2) (v2 := .slice a3 l3.length c3) HA3.out HBX.out)
          replace HBr := Lib.hid (below_store3 (v0 := .slice a1 l1.length c1) (v1 := .slice a2 l2.length c2) (v2 := .slice a3 l3.length c3) HBr.out hbx)
          replace HBX := Lib.hid (blk_store3 (v0 := .slice a1 l1.length c1) (v1 := .slice a2 l2.length c2) (v2 := .slice a3 l3.length c3) HBX.out)
          clear hHeld y0 y1 y2 yf0 yf1 yf2
          go_wp2_with fail
          refine hK.out _ _ (HS9.out _ HBr.out) (fun hHeld => ?_)
          clear hK K
          try simp only [Act.put, List.setIfInBounds_toArray, List.set_cons_zero, List.set_cons_succ]
          refine takeK 13 17 (v := ?_) rfl rfl (by kernel_rfl) (by kernel_rfl) (by kernel_rfl) (by kernel_rfl) (fun _ _ _ h => h) (by rfl) ?_ (by assumption) ?_
          rotate_left
          · (intro w hSw; go_simp; first | done | with_reducible rfl)
          simp only [List.setIfInBounds_toArray, List.set_cons_zero, List.set_cons_succ]
          refine takeK 14 18 (v := ?_) rfl rfl (by kernel_rfl) (by kernel_rfl) (by kernel_rfl) (by kernel_rfl) (fun _ _ _ h => h) (by rfl) ?_ (by assumption) ?_
          rotate_left
          · (intro w hSw; go_simp; first | done | with_reducible rfl)
          simp only [List.setIfInBounds_toArray, List.set_cons_zero, List.set_cons_succ]
          refine doneK (by kernel_rfl) ?_ _
          clear hHeld
          exact joinQ_normal ⟨_, _, _, _, _, _, _, _, _, _, _, _, _, _, _, _, _, _, by first | rfl | (simp only [List.setIfInBounds_toArray, List.set_cons_zero, List.set_cons_succ]; rfl), HBr, HBX, HA1, HA2, HA3⟩
      rintro a wb ⟨_, _, _, _, _, _, _, _, _, _, _, by_, b1, d1, b2, d2, b3, d3, rfl, HBr, HBX, HA1, HA2, HA3⟩
      simp only [List.setIfInBounds_toArray, List.set_cons_zero, List.set_cons_succ]
      have hB := HBr.out
      replace HB := Lib.hid (HB.out.trans (hB.mono HB.out.size))
      replace HBl := Lib.hid (HBl.out.trans (hB.mono HBl.out.size))
      replace HX := Lib.hid (HX.out.below hB)
      replace HC := Lib.hid (HC.out.below hB)
      replace HFu := Lib.hid (HFu.out.below hB HFu.out.lt)
      replace HBXa := Lib.hid (HBXa.out.below hB HBXa.out.lt)
      replace HAa1 := Lib.hid (HAa1.out.below hB)
      replace HAa2 := Lib.hid (HAa2.out.below hB)
      replace HAa3 := Lib.hid (HAa3.out.below hB)
      have y0 := HBXa.out.cell 0
      have y1 := HBXa.out.cell 1
      have y2 := HBXa.out.cell 2
      have z0 := HBX.out.cell 0
      have z1 := HBX.out.cell 1
      have z2 := HBX.out.cell 2
      simp only [List.getElem?_cons_succ, List.getElem?_cons_zero] at y0 y1 y2 z0 z1 z2
      clear hB HBr
      go_wp2_with fail
      refine (same_any _ _ _ _ _ _ l1 l2 l3 wb HAa1.out HAa2.out HAa3.out HA1.out HA2.out HA3.out).mono ?_
      rintro e wc ⟨rfl, hB⟩
      replace HBl := Lib.hid (HBl.out.trans (hB.mono HBl.out.size))
      clear hB y0 y1 y2 z0 z1 z2
      go_wp2_with fail
      go_roundw
      case rel => exact ⟨k + 1, by omega, by go_num, HBl⟩
      case measure => simp [intOf]; omega
    · have q1 : decide ((k : Int) < 3) = false := decide_eq_false (by omega)
      have HBO := Lib.hid (badC_ok HF.out hg5)
      have hBl := HBl.out
      clear hBl HBl H3F HFu
      go_wp2_with fail
      clear q1
      obtain ⟨mz, hmz⟩ : ∃ m, kz * 9 = m := ⟨_, rfl⟩
      have hmz2 : mz < 1 ∨ 8 < mz := by omega
      have hwm : IntKind.i64.wrap (mz : Int) = (mz : Int) := IntWalk.i64_in _ (by omega)
      have hwn : (kz : Int) * 9 = (mz : Int) := by omega
      clear hmz
      refine wp_join (fun t ds a w' => ∃ (u0 u1 u2 u3 u4 u5 u6 u7 u8 : Value) (bx : Nat), a = ⟨(((((((((((t.setIfInBounds 75 u0).setIfInBounds 76 u1).setIfInBounds 77 u2).setIfInBounds 78 u3).setIfInBounds 79 u4).setIfInBounds 74 u5).setIfInBounds 80 u6).setIfInBounds 81 u7).setIfInBounds 82 u8).setIfInBounds 19 (.pointer (some ⟨bx, 0, none⟩))).setIfInBounds 20 (.bool false)).setIfInBounds 21 (.int .i64 5), ds⟩ ∧ Hid (Below wr.heap.size wr w')) ?_ ?_
      · obtain ⟨wd, hwd⟩ : ∃ X, wr.drew = X := ⟨_, rfl⟩
        have HBr : Hid (Below wr.heap.size wr wd) := Lib.hid (by rw [← hwd]; exact (Below.refl _ _).drew)
        have HS9 : Hid (∀ X, Below wr.heap.size wr X → X.cell? ⟨w1.heap.size, 0, none⟩ = some (.slice ai c.items.length ci) ∧ X.cell? ⟨w1.heap.size, 1, none⟩ = some (.slice ar c.rules.length cr) ∧ X.cell? ⟨w1.heap.size, 2, none⟩ = some (.slice none 0 0) ∧ X.cell? ⟨w1.heap.size, 3, none⟩ = some (.slice none 0 0)) := Lib.hid (fun X hX => by
          have h9 := HX.out.below hX
          exact ⟨h9.c0, h9.c1, h9.c2, h9.c3⟩)
        refine startK 99 (fun X => X.cell? ⟨w1.heap.size, 0, none⟩ = some (.slice ai c.items.length ci) ∧ X.cell? ⟨w1.heap.size, 1, none⟩ = some (.slice ar c.rules.length cr) ∧ X.cell? ⟨w1.heap.size, 2, none⟩ = some (.slice none 0 0) ∧ X.cell? ⟨w1.heap.size, 3, none⟩ = some (.slice none 0 0)) (by kernel_rfl) (by rw [hwd]; exact HS9.out _ HBr.out) (fun hHeld => ?_)
        rw [hwd] at hHeld ⊢
        clear hwd
        refine takeK 0 75 (v := ?_) rfl rfl (by kernel_rfl) (by kernel_rfl) (by kernel_rfl) (by kernel_rfl) (fun _ _ _ h => h) (by rfl) ?_ (by assumption) ?_
        rotate_left
        · (intro w hSw; go_simp; first | done | with_reducible rfl)
        simp only [List.setIfInBounds_toArray, List.set_cons_zero, List.set_cons_succ]
        refine takeK 1 76 (v := ?_) rfl rfl (by kernel_rfl) (by kernel_rfl) (by kernel_rfl) (by kernel_rfl) (fun _ _ _ h => h) (by rfl) ?_ (by assumption) ?_
        rotate_left
        · (intro w hSw; go_simp; first | done | with_reducible rfl)
        simp only [List.setIfInBounds_toArray, List.set_cons_zero, List.set_cons_succ]
        refine forkK [2, 9] (by kernel_rfl) (by simp) ⟨forkOne 2 rfl (fun K hK => ?_), forkOne 9 rfl (fun K hK => ?_), trivial⟩
        · skip
          go_simp
          refine (HAZ.out _).mono ?_
          rintro e w' ⟨rfl, rfl⟩
          clear hHeld
          go_wp2_with fail
          refine hK.out _ _ (HS9.out _ HBr.out) (fun hHeld => ?_)
          clear hK K
          try simp only [Act.put, List.setIfInBounds_toArray, List.set_cons_zero, List.set_cons_succ]
          refine takeK 3 78 (v := ?_) rfl rfl (by kernel_rfl) (by kernel_rfl) (by kernel_rfl) (by kernel_rfl) (fun _ _ _ h => h) (by rfl) ?_ (by assumption) ?_
          rotate_left
          · (intro w hSw; go_simp; first | done | with_reducible rfl)
          simp only [List.setIfInBounds_toArray, List.set_cons_zero, List.set_cons_succ]
          refine forkK [4, 9] (by kernel_rfl) (by simp) ⟨forkOne 4 rfl (fun K hK => ?_), forkOne 9 rfl (fun K hK => ?_), trivial⟩
          · skip
            go_simp
            refine (callsIn_wide.1 (find_range _ _ c (mz : Int) 10 wd (HC.out.below HBr.out) HF.out (by omega) (HK.out.keep (HB.out.trans (HBr.out.mono HB.out.size))))).mono ?_
            rintro e wq1 ⟨rfl, hB⟩
            replace HBr := Lib.hid (HBr.out.trans (hB.mono HBr.out.size))
            try replace HBX := Lib.hid (HBX.out.below hB HBX.out.lt)
            clear hB hHeld
            go_wp2_with fail
            refine hK.out _ _ (HS9.out _ HBr.out) (fun hHeld => ?_)
            clear hK K
            try simp only [Act.put, List.setIfInBounds_toArray, List.set_cons_zero, List.set_cons_succ]
            refine takeK 5 74 (v := ?_) rfl rfl (by kernel_rfl) (by kernel_rfl) (by kernel_rfl) (by kernel_rfl) (fun _ _ _ h => h) (by rfl) ?_ (by assumption) ?_
            rotate_left
            · (intro w hSw; go_simp; first | done | with_reducible rfl)
            simp only [List.setIfInBounds_toArray, List.set_cons_zero, List.set_cons_succ]
            refine takeK 6 80 (v := ?_) rfl rfl (by kernel_rfl) (by kernel_rfl) (by kernel_rfl) (by kernel_rfl) (fun _ _ _ h => h) (by rfl) ?_ (by assumption) ?_
            rotate_left
            · (intro w hSw; go_simp; first | done | with_reducible rfl)
            simp only [List.setIfInBounds_toArray, List.set_cons_zero, List.set_cons_succ]
            refine takeK 7 81 (v := ?_) rfl rfl (by kernel_rfl) (by kernel_rfl) (by kernel_rfl) (by kernel_rfl) (fun _ _ _ h => h) (by rfl) ?_ (by assumption) ?_
            rotate_left
            · (intro w hSw; go_simp; first | done | with_reducible rfl)
            simp only [List.setIfInBounds_toArray, List.set_cons_zero, List.set_cons_succ]
            refine takeK 8 82 (v := ?_) rfl rfl (by kernel_rfl) (by kernel_rfl) (by kernel_rfl) (by kernel_rfl) (fun _ _ _ h => h) (by rfl) ?_ (by assumption) ?_
            rotate_left
            · (intro w hSw; go_simp; first | done | with_reducible rfl)
            simp only [List.setIfInBounds_toArray, List.set_cons_zero, List.set_cons_succ]
            refine stepK 9 (by kernel_rfl) rfl (fun K hK => ?_)
            go_simp
            obtain ⟨wq2, hw2⟩ : ∃ X, wq1.alloc (.cells #[.slice none 0 0, .slice none 0 0, .slice none 0 0] 42) = X := ⟨_, rfl⟩
            have hB : Below wq1.heap.size wq1 wq2 := by rw [← hw2]; exact (Below.refl _ _).alloc (Nat.le_refl _) _
            obtain ⟨bx, hG⟩ : ∃ g, wq1.heap.size = g := ⟨_, rfl⟩
            have HBX : Hid (BlkC wq2 bx 42 [.slice none 0 0, .slice none 0 0, .slice none 0 0]) := Lib.hid (by rw [← hw2, ← hG]; exact BlkC.new _ _ _)
            have hbx : wr.heap.size ≤ bx := by rw [← hG]; exact HBr.out.size
            replace HBr := Lib.hid (HBr.out.trans (hB.mono HBr.out.size))
            rw [hw2, hG]
            clear hB hw2 hG hHeld
            go_wp2_with fail
            refine hK.out _ _ (HS9.out _ HBr.out) (fun hHeld => ?_)
            clear hK K
            try simp only [Act.put, List.setIfInBounds_toArray, List.set_cons_zero, List.set_cons_succ]
            have y0 := HBX.out.cell 0
            have y1 := HBX.out.cell 1
            have y2 := HBX.out.cell 2
            have yf0 := HBX.out.frozen 0
            have yf1 := HBX.out.frozen 1
            have yf2 := HBX.out.frozen 2
            simp only [List.getElem?_cons_succ, List.getElem?_cons_zero] at y0 y1 y2
            refine stepK 10 (by kernel_rfl) rfl (fun K hK => ?_)
            go_simp
            replace HBr := Lib.hid (below_store3 (v0 := .slice none 0 0) (v1 := .slice none 0 0) (v2 := .slice none 0 0) HBr.out hbx)
            clear hHeld y0 y1 y2 yf0 yf1 yf2
            go_wp2_with fail
            refine hK.out _ _ (HS9.out _ HBr.out) (fun hHeld => ?_)
            clear hK K
            try simp only [Act.put, List.setIfInBounds_toArray, List.set_cons_zero, List.set_cons_succ]
            refine takeK 11 20 (v := ?_) rfl rfl (by kernel_rfl) (by kernel_rfl) (by kernel_rfl) (by kernel_rfl) (fun _ _ _ h => h) (by rfl) ?_ (by assumption) ?_
            rotate_left
            · (intro w hSw; go_simp; first | done | with_reducible rfl)
            simp only [List.setIfInBounds_toArray, List.set_cons_zero, List.set_cons_succ]
            refine takeK 12 21 (v := ?_) rfl rfl (by kernel_rfl) (by kernel_rfl) (by kernel_rfl) (by kernel_rfl) (fun _ _ _ h => h) (by rfl) ?_ (by assumption) ?_
            rotate_left
            · (intro w hSw; go_simp; first | done | with_reducible rfl)
            simp only [List.setIfInBounds_toArray, List.set_cons_zero, List.set_cons_succ]
            refine doneK (by kernel_rfl) ?_ _
            clear hHeld
            exact joinQ_normal ⟨_, _, _, _, _, _, _, _, _, _, by first | rfl | (simp only [List.setIfInBounds_toArray, List.set_cons_zero, List.set_cons_succ]; rfl), HBr⟩
          · skip
            go_simp
            obtain ⟨wq1, hw2⟩ : ∃ X, wd.alloc (.cells #[.slice none 0 0, .slice none 0 0, .slice none 0 0] 42) = X := ⟨_, rfl⟩
            have hB : Below wd.heap.size wd wq1 := by rw [← hw2]; exact (Below.refl _ _).alloc (Nat.le_refl _) _
            obtain ⟨bx, hG⟩ : ∃ g, wd.heap.size = g := ⟨_, rfl⟩
            have HBX : Hid (BlkC wq1 bx 42 [.slice none 0 0, .slice none 0 0, .slice none 0 0]) := Lib.hid (by rw [← hw2, ← hG]; exact BlkC.new _ _ _)
            have hbx : wr.heap.size ≤ bx := by rw [← hG]; exact HBr.out.size
            replace HBr := Lib.hid (HBr.out.trans (hB.mono HBr.out.size))
            rw [hw2, hG]
            clear hB hw2 hG hHeld
            go_wp2_with fail
            refine hK.out _ _ (HS9.out _ HBr.out) (fun hHeld => ?_)
            clear hK K
            try simp only [Act.put, List.setIfInBounds_toArray, List.set_cons_zero, List.set_cons_succ]
            refine stepK 4 (by kernel_rfl) rfl (fun K hK => ?_)
            go_simp
            refine (callsIn_wide.1 (find_range _ _ c (mz : Int) 10 wq1 (HC.out.below HBr.out) HF.out (by omega) (HK.out.keep (HB.out.trans (HBr.out.mono HB.out.size))))).mono ?_
            rintro e wq2 ⟨rfl, hB⟩
            replace HBr := Lib.hid (HBr.out.trans (hB.mono HBr.out.size))
            try replace HBX := Lib.hid (HBX.out.below hB HBX.out.lt)
            clear hB hHeld
            go_wp2_with fail
            refine hK.out _ _ (HS9.out _ HBr.out) (fun hHeld => ?_)
            clear hK K
            try simp only [Act.put, List.setIfInBounds_toArray, List.set_cons_zero, List.set_cons_succ]
            refine takeK 5 74 (v := ?_) rfl rfl (by kernel_rfl) (by kernel_rfl) (by kernel_rfl) (by kernel_rfl) (fun _ _ _ h => h) (by rfl) ?_ (by assumption) ?_
            rotate_left
            · (intro w hSw; go_simp; first | done | with_reducible rfl)
            simp only [List.setIfInBounds_toArray, List.set_cons_zero, List.set_cons_succ]
            refine takeK 6 80 (v := ?_) rfl rfl (by kernel_rfl) (by kernel_rfl) (by kernel_rfl) (by kernel_rfl) (fun _ _ _ h => h) (by rfl) ?_ (by assumption) ?_
            rotate_left
            · (intro w hSw; go_simp; first | done | with_reducible rfl)
            simp only [List.setIfInBounds_toArray, List.set_cons_zero, List.set_cons_succ]
            refine takeK 7 81 (v := ?_) rfl rfl (by kernel_rfl) (by kernel_rfl) (by kernel_rfl) (by kernel_rfl) (fun _ _ _ h => h) (by rfl) ?_ (by assumption) ?_
            rotate_left
            · (intro w hSw; go_simp; first | done | with_reducible rfl)
            simp only [List.setIfInBounds_toArray, List.set_cons_zero, List.set_cons_succ]
            refine takeK 8 82 (v := ?_) rfl rfl (by kernel_rfl) (by kernel_rfl) (by kernel_rfl) (by kernel_rfl) (fun _ _ _ h => h) (by rfl) ?_ (by assumption) ?_
            rotate_left
            · (intro w hSw; go_simp; first | done | with_reducible rfl)
            simp only [List.setIfInBounds_toArray, List.set_cons_zero, List.set_cons_succ]
            have y0 := HBX.out.cell 0
            have y1 := HBX.out.cell 1
            have y2 := HBX.out.cell 2
            have yf0 := HBX.out.frozen 0
            have yf1 := HBX.out.frozen 1
            have yf2 := HBX.out.frozen 2
            simp only [List.getElem?_cons_succ, List.getElem?_cons_zero] at y0 y1 y2
            refine stepK 10 (by kernel_rfl) rfl (fun K hK => ?_)
            go_simp
            replace HBr := Lib.hid (below_store3 (v0 := .slice none 0 0) (v1 := .slice none 0 0) (v2 := .slice none 0 0) HBr.out hbx)
            clear hHeld y0 y1 y2 yf0 yf1 yf2
            go_wp2_with fail
            refine hK.out _ _ (HS9.out _ HBr.out) (fun hHeld => ?_)
            clear hK K
            try simp only [Act.put, List.setIfInBounds_toArray, List.set_cons_zero, List.set_cons_succ]
            refine takeK 11 20 (v := ?_) rfl rfl (by kernel_rfl) (by kernel_rfl) (by kernel_rfl) (by kernel_rfl) (fun _ _ _ h => h) (by rfl) ?_ (by assumption) ?_
            rotate_left
            · (intro w hSw; go_simp; first | done | with_reducible rfl)
            simp only [List.setIfInBounds_toArray, List.set_cons_zero, List.set_cons_succ]
            refine takeK 12 21 (v := ?_) rfl rfl (by kernel_rfl) (by kernel_rfl) (by kernel_rfl) (by kernel_rfl) (fun _ _ _ h => h) (by rfl) ?_ (by assumption) ?_
            rotate_left
            · (intro w hSw; go_simp; first | done | with_reducible rfl)
            simp only [List.setIfInBounds_toArray, List.set_cons_zero, List.set_cons_succ]
            refine doneK (by kernel_rfl) ?_ _
            clear hHeld
            exact joinQ_normal ⟨_, _, _, _, _, _, _, _, _, _, by first | rfl | (simp only [List.setIfInBounds_toArray, List.set_cons_zero, List.set_cons_succ]; rfl), HBr⟩
        · skip
          go_simp
          obtain ⟨wq1, hw2⟩ : ∃ X, wd.alloc (.cells #[.slice none 0 0, .slice none 0 0, .slice none 0 0] 42) = X := ⟨_, rfl⟩
          have hB : Below wd.heap.size wd wq1 := by rw [← hw2]; exact (Below.refl _ _).alloc (Nat.le_refl _) _
          obtain ⟨bx, hG⟩ : ∃ g, wd.heap.size = g := ⟨_, rfl⟩
          have HBX : Hid (BlkC wq1 bx 42 [.slice none 0 0, .slice none 0 0, .slice none 0 0]) := Lib.hid (by rw [← hw2, ← hG]; exact BlkC.new _ _ _)
          have hbx : wr.heap.size ≤ bx := by rw [← hG]; exact HBr.out.size
          replace HBr := Lib.hid (HBr.out.trans (hB.mono HBr.out.size))
          rw [hw2, hG]
          clear hB hw2 hG hHeld
          go_wp2_with fail
          refine hK.out _ _ (HS9.out _ HBr.out) (fun hHeld => ?_)
          clear hK K
          try simp only [Act.put, List.setIfInBounds_toArray, List.set_cons_zero, List.set_cons_succ]
          refine stepK 2 (by kernel_rfl) rfl (fun K hK => ?_)
          go_simp
          refine (HAZ.out _).mono ?_
          rintro e w' ⟨rfl, rfl⟩
          clear hHeld
          go_wp2_with fail
          refine hK.out _ _ (HS9.out _ HBr.out) (fun hHeld => ?_)
          clear hK K
          try simp only [Act.put, List.setIfInBounds_toArray, List.set_cons_zero, List.set_cons_succ]
          refine takeK 3 78 (v := ?_) rfl rfl (by kernel_rfl) (by kernel_rfl) (by kernel_rfl) (by kernel_rfl) (fun _ _ _ h => h) (by rfl) ?_ (by assumption) ?_
          rotate_left
          · (intro w hSw; go_simp; first | done | with_reducible rfl)
          simp only [List.setIfInBounds_toArray, List.set_cons_zero, List.set_cons_succ]
          refine stepK 4 (by kernel_rfl) rfl (fun K hK => ?_)
          go_simp
          refine (callsIn_wide.1 (find_range _ _ c (mz : Int) 10 wq1 (HC.out.below HBr.out) HF.out (by omega) (HK.out.keep (HB.out.trans (HBr.out.mono HB.out.size))))).mono ?_
          rintro e wq2 ⟨rfl, hB⟩
          replace HBr := Lib.hid (HBr.out.trans (hB.mono HBr.out.size))
          try replace HBX := Lib.hid (HBX.out.below hB HBX.out.lt)
          clear hB hHeld
          go_wp2_with fail
          refine hK.out _ _ (HS9.out _ HBr.out) (fun hHeld => ?_)
          clear hK K
          try simp only [Act.put, List.setIfInBounds_toArray, List.set_cons_zero, List.set_cons_succ]
          refine takeK 5 74 (v := ?_) rfl rfl (by kernel_rfl) (by kernel_rfl) (by kernel_rfl) (by kernel_rfl) (fun _ _ _ h => h) (by rfl) ?_ (by assumption) ?_
          rotate_left
          · (intro w hSw; go_simp; first | done | with_reducible rfl)
          simp only [List.setIfInBounds_toArray, List.set_cons_zero, List.set_cons_succ]
          refine takeK 6 80 (v := ?_) rfl rfl (by kernel_rfl) (by kernel_rfl) (by kernel_rfl) (by kernel_rfl) (fun _ _ _ h => h) (by rfl) ?_ (by assumption) ?_
          rotate_left
          · (intro w hSw; go_simp; first | done | with_reducible rfl)
          simp only [List.setIfInBounds_toArray, List.set_cons_zero, List.set_cons_succ]
          refine takeK 7 81 (v := ?_) rfl rfl (by kernel_rfl) (by kernel_rfl) (by kernel_rfl) (by kernel_rfl) (fun _ _ _ h => h) (by rfl) ?_ (by assumption) ?_
          rotate_left
          · (intro w hSw; go_simp; first | done | with_reducible rfl)
          simp only [List.setIfInBounds_toArray, List.set_cons_zero, List.set_cons_succ]
          refine takeK 8 82 (v := ?_) rfl rfl (by kernel_rfl) (by kernel_rfl) (by kernel_rfl) (by kernel_rfl) (fun _ _ _ h => h) (by rfl) ?_ (by assumption) ?_
          rotate_left
          · (intro w hSw; go_simp; first | done | with_reducible rfl)
          simp only [List.setIfInBounds_toArray, List.set_cons_zero, List.set_cons_succ]
          have y0 := HBX.out.cell 0
          have y1 := HBX.out.cell 1
          have y2 := HBX.out.cell 2
          have yf0 := HBX.out.frozen 0
          have yf1 := HBX.out.frozen 1
          have yf2 := HBX.out.frozen 2
          simp only [List.getElem?_cons_succ, List.getElem?_cons_zero] at y0 y1 y2
          refine stepK 10 (by kernel_rfl) rfl (fun K hK => ?_)
          go_simp
          replace HBr := Lib.hid (below_store3 (v0 := .slice none 0 0) (v1 := .slice none 0 0) (v2 := .slice none 0 0) HBr.out hbx)
          clear hHeld y0 y1 y2 yf0 yf1 yf2
          go_wp2_with fail
          refine hK.out _ _ (HS9.out _ HBr.out) (fun hHeld => ?_)
          clear hK K
          try simp only [Act.put, List.setIfInBounds_toArray, List.set_cons_zero, List.set_cons_succ]
          refine takeK 11 20 (v := ?_) rfl rfl (by kernel_rfl) (by kernel_rfl) (by kernel_rfl) (by kernel_rfl) (fun _ _ _ h => h) (by rfl) ?_ (by assumption) ?_
          rotate_left
          · (intro w hSw; go_simp; first | done | with_reducible rfl)
          simp only [List.setIfInBounds_toArray, List.set_cons_zero, List.set_cons_succ]
          refine takeK 12 21 (v := ?_) rfl rfl (by kernel_rfl) (by kernel_rfl) (by kernel_rfl) (by kernel_rfl) (fun _ _ _ h => h) (by rfl) ?_ (by assumption) ?_
          rotate_left
          · (intro w hSw; go_simp; first | done | with_reducible rfl)
          simp only [List.setIfInBounds_toArray, List.set_cons_zero, List.set_cons_succ]
          refine doneK (by kernel_rfl) ?_ _
          clear hHeld
          exact joinQ_normal ⟨_, _, _, _, _, _, _, _, _, _, by first | rfl | (simp only [List.setIfInBounds_toArray, List.set_cons_zero, List.set_cons_succ]; rfl), HBr⟩
      rintro a wa ⟨_, _, _, _, _, _, _, _, _, bx, rfl, HBr⟩
      simp only [List.setIfInBounds_toArray, List.set_cons_zero, List.set_cons_succ]
      have hB := HBr.out
      have m0 := HX.out.c0
      have m1 := HX.out.c1
      have m2 := HX.out.c2
      have m3 := HX.out.c3
      have mlt := HX.out.lt
      replace HB := Lib.hid (HB.out.trans (hB.mono HB.out.size))
      replace HX := Lib.hid (HX.out.below hB)
      replace HC := Lib.hid (HC.out.below hB)
      clear m0 m1 m2 m3 mlt
      have m0 := HX.out.c0
      have m1 := HX.out.c1
      have m2 := HX.out.c2
      have m3 := HX.out.c3
      have mlt := HX.out.lt
      clear hB HBr hwm hwn
      go_wp2_with fail
      refine (bad_any _ _ c wa HC.out hl1 (by omega)).mono ?_
      rintro e wm1 ⟨⟨bi1, rfl, hbc⟩, hB⟩
      have HD := Lib.hid hbc
      replace HB := Lib.hid (HB.out.trans (hB.mono HB.out.size))
      replace HX := Lib.hid (HX.out.below hB)
      replace HC := Lib.hid (HC.out.below hB)
      clear m0 m1 m2 m3 mlt
      have m0 := HX.out.c0
      have m1 := HX.out.c1
      have m2 := HX.out.c2
      have m3 := HX.out.c3
      have mlt := HX.out.lt
      clear hB hbc
      go_wp2_with fail
      refine (callsIn_wide.1 (find_bad _ _ (badC c) 9 10 wm1 HD.out HBO.out.good HBO.out.named HBO.out.dup (HK.out.keep HB.out))).mono ?_
      rintro e wm2 ⟨rfl, hB⟩
      replace HB := Lib.hid (HB.out.trans (hB.mono HB.out.size))
      replace HX := Lib.hid (HX.out.below hB)
      replace HC := Lib.hid (HC.out.below hB)
      clear m0 m1 m2 m3 mlt
      have m0 := HX.out.c0
      have m1 := HX.out.c1
      have m2 := HX.out.c2
      have m3 := HX.out.c3
      have mlt := HX.out.lt
      clear hB HD
      go_wp2_with fail
      obtain ⟨wm3, hw⟩ : ∃ W, wm2.alloc (.cells #[.slice none 0 0, .slice none 0 0, .slice none 0 0] 42) = W := ⟨_, rfl⟩
      have hB : Below wm2.heap.size wm2 wm3 := by rw [← hw]; exact (Below.refl _ _).alloc (Nat.le_refl _) _
      replace HB := Lib.hid (HB.out.trans (hB.mono HB.out.size))
      replace HX := Lib.hid (HX.out.below hB)
      replace HC := Lib.hid (HC.out.below hB)
      clear m0 m1 m2 m3 mlt
      have m0 := HX.out.c0
      have m1 := HX.out.c1
      have m2 := HX.out.c2
      have m3 := HX.out.c3
      have mlt := HX.out.lt
      rw [hw]
      clear hw hB
      refine (bad_any _ _ c wm3 HC.out hl1 (by omega)).mono ?_
      rintro e wm5 ⟨⟨bi3, rfl, hbc⟩, hB⟩
      have HD := Lib.hid hbc
      replace HB := Lib.hid (HB.out.trans (hB.mono HB.out.size))
      replace HX := Lib.hid (HX.out.below hB)
      replace HC := Lib.hid (HC.out.below hB)
      clear m0 m1 m2 m3 mlt
      have m0 := HX.out.c0
      have m1 := HX.out.c1
      have m2 := HX.out.c2
      have m3 := HX.out.c3
      have mlt := HX.out.lt
      clear hB hbc
      go_wp2_with fail
      refine (valid_bad _ _ (badC c) wm5 HD.out HBO.out.good HBO.out.named HBO.out.dup (HK.out.keep HB.out)).mono ?_
      rintro e wm6 ⟨rfl, hB⟩
      replace HB := Lib.hid (HB.out.trans (hB.mono HB.out.size))
      replace HX := Lib.hid (HX.out.below hB)
      replace HC := Lib.hid (HC.out.below hB)
      clear m0 m1 m2 m3 mlt
      have m0 := HX.out.c0
      have m1 := HX.out.c1
      have m2 := HX.out.c2
      have m3 := HX.out.c3
      have mlt := HX.out.lt
      clear hB HD
      go_wp2_with fail
      refine (lives_any _ (HK.out.keep HB.out)).mono ?_
      rintro e wm7 ⟨rfl, hB⟩
      replace HB := Lib.hid (HB.out.trans (hB.mono HB.out.size))
      clear hB
      go_wp2_with fail
      go_ret
      exact ⟨rfl, HB.out⟩
end Go.Proofs.YtfpcgjgkbniofaaGreatDoor
