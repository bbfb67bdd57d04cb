/- the law GainCheck: its walk. -/
import Derived.Test.YtfpcgjgkbniofaaGreatDoorGFine
import Derived.Test.YtfpcgjgkbniofaaGreatDoorGFindU
import Derived.Test.YtfpcgjgkbniofaaGreatDoorGChkR
import Derived.Test.YtfpcgjgkbniofaaGreatDoorGBent
import Derived.Test.YtfpcgjgkbniofaaGreatDoorGRef
import Derived.Test.YtfpcgjgkbniofaaGreatDoorGLives
import Derived.Test.YtfpcgjgkbniofaaGreatDoorRegLast
set_option linter.unusedVariables false
set_option linter.unusedSimpArgs false
namespace Go.Proofs.YtfpcgjgkbniofaaGreatDoor
open Go.RowKit
attribute [local go_sem] Oper.semAt_some

theorem PickIs.below {w w' : World} {v : Value} {pk : Nat → Nat → Nat} (h : PickIs w v pk) (hb : Below w.heap.size w w') : PickIs w' v pk := fun W hB => h W (hb.trans (hB.mono hb.size))
def In64 (z : List Int) : Prop := ∀ i ∈ z, -9223372036854775808 ≤ i ∧ i ≤ 9223372036854775807
theorem In64.bent {z : List Int} (h : In64 z) (a b : Int) : In64 (bentL z a b) := by
  unfold bentL
  split
  · intro i hi; simp at hi
  · intro i hi
    rcases List.mem_or_eq_of_mem_set hi with h1 | h1
    · exact h i h1
    · rw [h1]; exact wrap_in _
theorem In64.nats {s : List Nat} (h : ∀ x ∈ s, x < 1000000) : In64 (s.map (fun i => ((i : Nat) : Int))) := by
  intro i hi
  obtain ⟨k, hk, rfl⟩ := List.mem_map.1 hi
  have := h k hk
  omega
theorem usL_small {c : Cat} {s : List Nat} (hr : c.rules.length ≤ 22) (h : ∀ x ∈ s, x ∈ usL c) : ∀ x ∈ s, x < 1000000 := fun x hx => by
  have := List.mem_range.1 (List.mem_filter.1 (h x hx)).1
  omega
/-- a loop in memory: its three lists -/
structure LoopAt (w : World) (v0 v1 v2 : Value) : Prop where
  some_ : ∃ l0 l1 l2, IntsOf w v0 l0 ∧ IntsOf w v1 l1 ∧ IntsOf w v2 l2 ∧ In64 l0 ∧ l0.length ≤ 1000 ∧ l1.length ≤ 1000 ∧ l2.length ≤ 1000
theorem LoopAt.below {w w' : World} {v0 v1 v2 : Value} (h : LoopAt w v0 v1 v2) (hb : Below w.heap.size w w') : LoopAt w' v0 v1 v2 := by
  obtain ⟨l0, l1, l2, h0, h1, h2, h3⟩ := h.some_
  exact ⟨l0, l1, l2, h0.below hb, h1.below hb, h2.below hb, h3⟩
theorem bent_len (l : List Int) (a b : Int) : (bentL l a b).length = l.length := by
  unfold bentL
  split
  · rename_i h; rw [h]
  · simp
theorem ints_far1 {w : World} {g o : Nat} {t : TypeId} {v u : Value} {l : List Int} {x0 x1 x2 : Option Addr} {n0 n1 n2 c0 c1 c2 : Nat} (h : IntsOf w v l) (hg : BlkC w g t [.slice x0 n0 c0, .slice x1 n1 c1, .slice x2 n2 c2]) : IntsOf (w.setCell ⟨g, o, none⟩ u) v l := by
  obtain ⟨a, cap, hv, h1, h2, hc⟩ := h
  refine ⟨a, cap, hv, h1, h2, fun h0 => ?_⟩
  obtain ⟨b, ha, hlt, hcc⟩ := hc h0
  have hne : b ≠ g := by
    rintro rfl
    obtain ⟨cs, rfl, _, hcl⟩ := hcc 0 h0
    have h3 := hcl 0 (by omega)
    rw [Nat.zero_mul, Nat.zero_add, hg.cell] at h3
    cases h3
  refine ⟨b, ha, by simpa [World.setCell] using hlt, fun j hj => ?_⟩
  obtain ⟨cs, hr, hl, hcl⟩ := hcc j hj
  refine ⟨cs, hr, hl, fun i hi => ?_⟩
  rw [World.cell?_setCell_other _ _ _ _ (by intro e; injection e with e1; exact hne e1.symm)]
  exact hcl i hi
theorem found_check {c : Cat} {R : Sought} (h : FoundOk c R) (hb : soB R = true) : checkZ c (soR R) (soN c R) (soG c R) = true := by
  obtain ⟨h1, h2, h3, h4⟩ := h.2 hb
  unfold checkZ netZ needZ
  rw [if_pos h1, if_pos h1, decide_eq_true h1, h2, h3, h4]
  simp

theorem found_len {c : Cat} {R : Sought} (h : FoundOk c R) (h6 : c.items.length ≤ 6) : (soR R).length ≤ 1000 ∧ (soN c R).length ≤ 1000 ∧ (soG c R).length ≤ 1000 := by
  cases R with
  | found s =>
    have h1 := (h.2 rfl).1
    have h2 : (needL c s).length = c.items.length := by simp [needL]
    have h3 : (netL c s).length = c.items.length := by simp [netL]
    refine ⟨?_, ?_, ?_⟩
    · unfold checkE at h1
      split at h1
      · omega
      · omega
    · show (needL c s).length ≤ 1000; omega
    · show (netL c s).length ≤ 1000; omega
  | nothing => simp [soR, soN, soG]
  | empty => simp [soR, soN, soG]

set_option maxRecDepth 100000 in
set_option maxHeartbeats 8000000 in
theorem gainCheck_any (v1 : Value) (zs : List Int) (n1 : Nat) (v2 : Value) (ys : List Int) (n2 : Nat) (a0 b0 : Int) (bal : Bool) (w : World) (h1 : IntsAt w v1 zs n1) (h2 : IntsAt w v2 ys n2) (ha1 : -9223372036854775808 ≤ a0) (ha2 : a0 ≤ 9223372036854775807) (hb1 : -9223372036854775808 ≤ b0) (hb2 : b0 ≤ 9223372036854775807) (hK : Kinds w) :
    Calls Tryz.prog 5 #[v1, v2, .int .i64 a0, .int .i64 b0, .bool bal] w fun e w' => e = .returned (.bool true) ∧ Below w.heap.size w w' := by
  have HI := Lib.hid h1
  have HV := Lib.hid (pickIs_of h2)
  have HP := Lib.hid (picks_of ys n2)
  have HK := Lib.hid hK
  have HB := Lib.hid (Below.refl w.heap.size w)
  have HA := Lib.hid (And.intro ha1 ha2)
  obtain ⟨pk, hpk⟩ : ∃ pk, pkOf ys n2 = pk := ⟨_, rfl⟩
  rw [hpk] at HV HP
  clear h1 h2 hK hpk ha1 ha2 hb1 hb2
  go_enter Tryz.func5, Tryz.ntmps5
  go_wp2_with fail
  refine (catalog_any _ zs n1 bal _ (HI.out.below (Nat.le_refl _) HB.out)).mono ?_
  rintro e w1 ⟨⟨vi, vr, rfl, hc⟩, hB⟩
  obtain ⟨c, hcc⟩ : ∃ c, genCat (pkOf zs n1) bal = c := ⟨_, rfl⟩
  have hf := genCat_fine (bal := bal) (picks_of zs n1)
  have hr6 := genCat_rules (bal := bal) (picks_of zs n1)
  rw [hcc] at hc hf hr6
  have HF := Lib.hid hf
  replace HB := Lib.hid (HB.out.trans (hB.mono HB.out.size))
  obtain ⟨ai, ci, rfl, hi1, hi2⟩ := hc.items.form
  obtain ⟨ar, cr, rfl, hr1, hr2⟩ := hc.rules.form
  have HC := Lib.hid hc
  have hl1 := hf.good.some_
  have hl6 := hf.good.items
  clear hcc hf hc hB
  unfold catV
  go_wp2_with fail
  obtain ⟨w2, hw⟩ : ∃ w2, w1.alloc (.cells #[.slice ai c.items.length ci, .slice ar c.rules.length cr, .slice none 0 0, .slice none 0 0] 28) = w2 := ⟨_, rfl⟩
  have hB : Below w1.heap.size w1 w2 := by rw [← hw]; exact (Below.refl _ _).alloc (Nat.le_refl _) _
  have HX : Hid (BoxC w2 w1.heap.size (.slice ai c.items.length ci) (.slice ar c.rules.length cr)) := Lib.hid (by rw [← hw]; exact BoxC.new _ _ _)
  replace HB := Lib.hid (HB.out.trans (hB.mono HB.out.size))
  replace HC := Lib.hid (HC.out.below hB)
  rw [hw]
  clear hB hw
  have m0 := HX.out.c0
  have m1 := HX.out.c1
  have m2 := HX.out.c2
  have m3 := HX.out.c3
  have mlt := HX.out.lt
  obtain ⟨R, hRO, -, hRM⟩ := find_uni (.slice ai c.items.length ci) (.slice ar c.rules.length cr) c 3 1000 HF.out hr6 (by omega) (by omega) (by omega) (by omega)
  have HFC := Lib.hid (found_check hRO)
  have HR64 : Hid (In64 (soR R)) := Lib.hid (fun i hi => by have := hRO.1 i hi; omega)
  have hlr := found_len hRO hl6
  have hrm := hRM w2 HC.out (HK.out.keep HB.out)
  obtain ⟨bb, hbb⟩ : ∃ b, soB R = b := ⟨_, rfl⟩
  obtain ⟨ee, hee⟩ : ∃ b, soE R = b := ⟨_, rfl⟩
  obtain ⟨fr, hfr⟩ : ∃ b, soR R = b := ⟨_, rfl⟩
  obtain ⟨fn, hfn⟩ : ∃ b, soN c R = b := ⟨_, rfl⟩
  obtain ⟨fg, hfg⟩ : ∃ b, soG c R = b := ⟨_, rfl⟩
  rw [hbb, hfr, hfn, hfg] at HFC
  rw [hbb, hee, hfr, hfn, hfg] at hrm
  rw [hfr, hfn, hfg] at hlr
  rw [hfr] at HR64
  have HRM := Lib.hid hrm
  clear hRO hRM hrm hbb hee hfr hfn hfg
  refine HRM.out.mono ?_
  rintro e w3 ⟨hB, a1, c1, a2, c2, a3, c3, rfl, g1, g2, g3⟩
  have HF1 := Lib.hid g1
  have HF2 := Lib.hid g2
  have HF3 := Lib.hid g3
  replace HB := Lib.hid (HB.out.trans (hB.mono HB.out.size))
  replace HX := Lib.hid (HX.out.below hB)
  replace HC := Lib.hid (HC.out.below hB)
  clear m0 m1 m2 m3 mlt
  have m0 := HX.out.c0
  have m1 := HX.out.c1
  have m2 := HX.out.c2
  have m3 := HX.out.c3
  have mlt := HX.out.lt
  clear g1 g2 g3 hB HRM
  go_wp2_with fail
  obtain ⟨w4, hw⟩ : ∃ W, w3.alloc (.cells #[.slice a1 fr.length c1, .slice a2 fn.length c2, .slice a3 fg.length c3] 45) = W := ⟨_, rfl⟩
  have hB : Below w3.heap.size w3 w4 := by rw [← hw]; exact (Below.refl _ _).alloc (Nat.le_refl _) _
  have HFd : Hid (BlkC w4 w3.heap.size 45 [.slice a1 fr.length c1, .slice a2 fn.length c2, .slice a3 fg.length c3]) := Lib.hid (by rw [← hw]; exact BlkC.new _ _ _)
  replace HF1 := Lib.hid (HF1.out.below hB)
  replace HF2 := Lib.hid (HF2.out.below hB)
  replace HF3 := Lib.hid (HF3.out.below hB)
  obtain ⟨bf, hbf⟩ : ∃ g, w3.heap.size = g := ⟨_, rfl⟩
  rw [hbf] at HFd
  replace HB := Lib.hid (HB.out.trans (hB.mono HB.out.size))
  replace HX := Lib.hid (HX.out.below hB)
  replace HC := Lib.hid (HC.out.below hB)
  clear m0 m1 m2 m3 mlt
  have m0 := HX.out.c0
  have m1 := HX.out.c1
  have m2 := HX.out.c2
  have m3 := HX.out.c3
  have mlt := HX.out.lt
  rw [hw, hbf]
  clear hw hB hbf
  refine (sequence_any _ _ _ c pk 5 _ HC.out (by omega) HP.out (HV.out.below HB.out) (by omega)).mono ?_
  rintro e w5 ⟨⟨vs, s, rfl, hs, hs20, hsu⟩, hB⟩
  obtain ⟨sa, sc, rfl, hs1, hs2⟩ := hs.form
  have HS := Lib.hid hs
  have HU := Lib.hid (us_of' (by omega) hsu)
  have HS64 : Hid (In64 (s.map (fun i => ((i : Nat) : Int)))) := Lib.hid (In64.nats (usL_small HF.out.good.rules hsu))
  replace HB := Lib.hid (HB.out.trans (hB.mono HB.out.size))
  replace HX := Lib.hid (HX.out.below hB)
  replace HC := Lib.hid (HC.out.below hB)
  clear m0 m1 m2 m3 mlt
  have m0 := HX.out.c0
  have m1 := HX.out.c1
  have m2 := HX.out.c2
  have m3 := HX.out.c3
  have mlt := HX.out.lt
  replace HFd := Lib.hid (HFd.out.below hB HFd.out.lt)
  replace HF1 := Lib.hid (HF1.out.below hB)
  replace HF2 := Lib.hid (HF2.out.below hB)
  replace HF3 := Lib.hid (HF3.out.below hB)
  clear hs hB hsu HV HP
  go_wp2_with fail
  refine (rnet_ok _ _ _ c s w5 HC.out HF.out HS.out HU.out).mono ?_
  rintro e w6 ⟨⟨vn, rfl, hn⟩, hB⟩
  have hnl6 : (netL c s).length ≤ 1000 := by simp [netL]; omega
  obtain ⟨nl, hnl'⟩ : ∃ l, netL c s = l := ⟨_, rfl⟩
  rw [hnl'] at hn hnl6
  obtain ⟨na, nc, rfl, -, -⟩ := hn.form
  have HN := Lib.hid hn
  clear hnl'
  replace HB := Lib.hid (HB.out.trans (hB.mono HB.out.size))
  replace HX := Lib.hid (HX.out.below hB)
  replace HC := Lib.hid (HC.out.below hB)
  clear m0 m1 m2 m3 mlt
  have m0 := HX.out.c0
  have m1 := HX.out.c1
  have m2 := HX.out.c2
  have m3 := HX.out.c3
  have mlt := HX.out.lt
  replace HFd := Lib.hid (HFd.out.below hB HFd.out.lt)
  replace HF1 := Lib.hid (HF1.out.below hB)
  replace HF2 := Lib.hid (HF2.out.below hB)
  replace HF3 := Lib.hid (HF3.out.below hB)
  replace HS := Lib.hid (HS.out.below hB)
  clear hn hB
  go_wp2_with fail
  refine (rneed_ok _ _ _ c s w6 HC.out HF.out HS.out HU.out).mono ?_
  rintro e w7 ⟨⟨vd, rfl, hn⟩, hB⟩
  have hdl6 : (needL c s).length ≤ 1000 := by simp [needL]; omega
  obtain ⟨dl, hdl'⟩ : ∃ l, needL c s = l := ⟨_, rfl⟩
  rw [hdl'] at hn hdl6
  obtain ⟨da, dc, rfl, -, -⟩ := hn.form
  have HD := Lib.hid hn
  clear hdl'
  replace HB := Lib.hid (HB.out.trans (hB.mono HB.out.size))
  replace HX := Lib.hid (HX.out.below hB)
  replace HC := Lib.hid (HC.out.below hB)
  clear m0 m1 m2 m3 mlt
  have m0 := HX.out.c0
  have m1 := HX.out.c1
  have m2 := HX.out.c2
  have m3 := HX.out.c3
  have mlt := HX.out.lt
  replace HFd := Lib.hid (HFd.out.below hB HFd.out.lt)
  replace HF1 := Lib.hid (HF1.out.below hB)
  replace HF2 := Lib.hid (HF2.out.below hB)
  replace HF3 := Lib.hid (HF3.out.below hB)
  replace HS := Lib.hid (HS.out.below hB)
  replace HN := Lib.hid (HN.out.below hB)
  clear hn hB
  have y0 := HFd.out.cell 0
  have y1 := HFd.out.cell 1
  have y2 := HFd.out.cell 2
  simp only [List.getElem?_cons_succ, List.getElem?_cons_zero] at y0 y1 y2
  go_wp2_with fail
  clear y0 y1 y2
  obtain ⟨wl, hwl⟩ : ∃ W, w7.alloc (.cells #[.slice a1 fr.length c1, .slice a2 fn.length c2, .slice a3 fg.length c3, .slice sa s.length sc, .slice da dl.length dc, .slice na nl.length nc] 45) = W := ⟨_, rfl⟩
  have hB : Below w7.heap.size w7 wl := by rw [← hwl]; exact (Below.refl _ _).alloc (Nat.le_refl _) _
  have HAl : Hid (BlkC wl w7.heap.size 45 [.slice a1 fr.length c1, .slice a2 fn.length c2, .slice a3 fg.length c3, .slice sa s.length sc, .slice da dl.length dc, .slice na nl.length nc]) := Lib.hid (by rw [← hwl]; exact BlkC.new _ _ _)
  obtain ⟨g, hg⟩ : ∃ g, w7.heap.size = g := ⟨_, rfl⟩
  rw [hg] at HAl
  have H2A : Hid (∀ k, k < 2 → ∃ v0 v1 v2, ([.slice a1 fr.length c1, .slice a2 fn.length c2, .slice a3 fg.length c3, .slice sa s.length sc, .slice da dl.length dc, .slice na nl.length nc] : List Value)[k * 3]? = some v0 ∧ ([.slice a1 fr.length c1, .slice a2 fn.length c2, .slice a3 fg.length c3, .slice sa s.length sc, .slice da dl.length dc, .slice na nl.length nc] : List Value)[k * 3 + 1]? = some v1 ∧ ([.slice a1 fr.length c1, .slice a2 fn.length c2, .slice a3 fg.length c3, .slice sa s.length sc, .slice da dl.length dc, .slice na nl.length nc] : List Value)[k * 3 + 2]? = some v2 ∧ LoopAt wl v0 v1 v2) := Lib.hid (fun k hk => by
    match k, hk with
    | 0, _ => exact ⟨_, _, _, rfl, rfl, rfl, ⟨_, _, _, HF1.out.below hB, HF2.out.below hB, HF3.out.below hB, HR64.out, hlr.1, hlr.2.1, hlr.2.2⟩⟩
    | 1, _ => exact ⟨_, _, _, rfl, rfl, rfl, ⟨_, _, _, (HS.out.ints).below hB, HD.out.below hB, HN.out.below hB, HS64.out, by simp; omega, by omega, by omega⟩⟩)
  replace HB := Lib.hid (HB.out.trans (hB.mono HB.out.size))
  replace HX := Lib.hid (HX.out.below hB)
  replace HC := Lib.hid (HC.out.below hB)
  clear m0 m1 m2 m3 mlt
  have m0 := HX.out.c0
  have m1 := HX.out.c1
  have m2 := HX.out.c2
  have m3 := HX.out.c3
  have mlt := HX.out.lt
  replace HFd := Lib.hid (HFd.out.below hB HFd.out.lt)
  replace HF1 := Lib.hid (HF1.out.below hB)
  replace HF2 := Lib.hid (HF2.out.below hB)
  replace HF3 := Lib.hid (HF3.out.below hB)
  rw [hwl, hg]
  clear hwl hB hg m0 m1 m2 m3 mlt HS HD HN HU HS64
  go_loopw [21] (fun i wr => ∃ k : Nat, k ≤ 2 ∧ i = .int .i64 k ∧ Hid (Below wl.heap.size wl wr)) (fun i _ => 2 - (intOf i).toNat)
  case atStart => exact ⟨0, by omega, rfl, Lib.hid (Below.refl _ _)⟩
  case round =>
    obtain ⟨k0, hk0, rfl, HBl⟩ := hrel
    have hB := HBl.out
    replace HB := Lib.hid (HB.out.trans (hB.mono HB.out.size))
    replace HX := Lib.hid (HX.out.below hB)
    replace HC := Lib.hid (HC.out.below hB)
    by_cases hlt : k0 < 2
    · obtain ⟨x0, x1, x2, hx0, hx1, hx2, hla⟩ := H2A.out k0 hlt
      obtain ⟨z0, z1, z2, hz0, hz1, hz2, hz64, hzl0, hzl1, hzl2⟩ := (hla.below hB).some_
      obtain ⟨e0, d0, rfl, -, -⟩ := hz0.form
      obtain ⟨e1, d1, rfl, -, -⟩ := hz1.form
      obtain ⟨e2, d2, rfl, -, -⟩ := hz2.form
      have c0' := ((HAl.out.below hB HAl.out.lt).cell (k0 * 3)).trans hx0
      have c1' := ((HAl.out.below hB HAl.out.lt).cell (k0 * 3 + 1)).trans hx1
      have c2' := ((HAl.out.below hB HAl.out.lt).cell (k0 * 3 + 2)).trans hx2
      have HZ0 := Lib.hid hz0
      have HZ1 := Lib.hid hz1
      have HZ2 := Lib.hid hz2
      have HZ64 := Lib.hid hz64
      have q1 : decide ((k0 : Int) < 2) = true := decide_eq_true (by omega)
      have i1 : (0 : Int) ≤ (k0 : Int) := by omega
      have i2 : (k0 : Int) < 2 := by omega
      clear hx0 hx1 hx2 hla hz0 hz1 hz2 hz64 hB
      go_wp2_with fail
      clear q1 i1 i2 c0' c1' c2'
      obtain ⟨wi, hwi⟩ : ∃ W, wr.alloc (.cells #[.slice e0 z0.length d0, .slice e1 z1.length d1, .slice e2 z2.length d2] 45) = W := ⟨_, rfl⟩
      have hB : Below wr.heap.size wr wi := by rw [← hwi]; exact (Below.refl _ _).alloc (Nat.le_refl _) _
      have HXL : Hid (BlkC wi wr.heap.size 45 [.slice e0 z0.length d0, .slice e1 z1.length d1, .slice e2 z2.length d2]) := Lib.hid (by rw [← hwi]; exact BlkC.new _ _ _)
      obtain ⟨bx, hbx⟩ : ∃ g, wr.heap.size = g := ⟨_, rfl⟩
      rw [hbx] at HXL
      replace HB := Lib.hid (HB.out.trans (hB.mono HB.out.size))
      replace HBl := Lib.hid (HBl.out.trans (hB.mono HBl.out.size))
      replace HX := Lib.hid (HX.out.below hB)
      replace HC := Lib.hid (HC.out.below hB)
      replace HZ0 := Lib.hid (HZ0.out.below hB)
      replace HZ1 := Lib.hid (HZ1.out.below hB)
      replace HZ2 := Lib.hid (HZ2.out.below hB)
      rw [hwi, hbx]
      clear hwi hB hbx
      have HBlo := HBl
      clear HBl
      obtain ⟨wro, rfl⟩ : ∃ wo : World, wo = wr := ⟨_, rfl⟩
      go_loopw [23] (fun i wr => ∃ k : Nat, k ≤ 4 ∧ i = .int .i64 k ∧ Hid (Below wi.heap.size wi wr)) (fun i _ => 4 - (intOf i).toNat)
      case atStart => exact ⟨0, by omega, rfl, Lib.hid (Below.refl _ _)⟩
      case round =>
        obtain ⟨k, hk, rfl, HBl⟩ := hrel
        obtain ⟨wo, rfl⟩ : ∃ wo : World, wo = wr := ⟨_, rfl⟩
        have hB := HBl.out
        replace HB := Lib.hid (HB.out.trans (hB.mono HB.out.size))
        replace HX := Lib.hid (HX.out.below hB)
        replace HC := Lib.hid (HC.out.below hB)
        replace HXL := Lib.hid (HXL.out.below hB HXL.out.lt)
        replace HZ0 := Lib.hid (HZ0.out.below hB)
        replace HZ1 := Lib.hid (HZ1.out.below hB)
        replace HZ2 := Lib.hid (HZ2.out.below hB)
        by_cases hlt4 : k < 4
        · obtain ⟨wy, hwy⟩ : ∃ W, wo.alloc (.cells #[.slice e0 z0.length d0, .slice e1 z1.length d1, .slice e2 z2.length d2] 45) = W := ⟨_, rfl⟩
          have hB : Below wo.heap.size wo wy := by rw [← hwy]; exact (Below.refl _ _).alloc (Nat.le_refl _) _
          have HY : Hid (BlkC wy wo.heap.size 45 [.slice e0 z0.length d0, .slice e1 z1.length d1, .slice e2 z2.length d2]) := Lib.hid (by rw [← hwy]; exact BlkC.new _ _ _)
          have HBy := Lib.hid hB
          have x0 := HXL.out.cell 0
          have x1 := HXL.out.cell 1
          have x2 := HXL.out.cell 2
          simp only [List.getElem?_cons_succ, List.getElem?_cons_zero] at x0 x1 x2
          have y0 := HY.out.cell 0
          have y1 := HY.out.cell 1
          have y2 := HY.out.cell 2
          simp only [List.getElem?_cons_succ, List.getElem?_cons_zero] at y0 y1 y2
          have q4 : decide ((k : Int) < 4) = true := decide_eq_true (by omega)
          by_cases h1 : k = 1
          · have r1 : ((k : Int) == 1) = true := by simp; omega
            clear h1 hB
            go_wp2_with fail
            clear x0 x1 x2 y0 y1 y2 hwy
            refine (bent_any _ z1 a0 b0 wy (HZ1.out.below HBy.out) (by omega) HA.out.1 HA.out.2).mono ?_
            rintro e wu ⟨⟨vn, rfl, hv⟩, hB⟩
            obtain ⟨qa, qc, rfl, -, -⟩ := hv.form
            have HBN := Lib.hid hv
            replace HY := Lib.hid (HY.out.below hB HY.out.lt)
            have HBu := Lib.hid (HBy.out.trans (hB.mono HBy.out.size))
            have i0 := HY.out.cell 1
            have f0 := HY.out.frozen 1
            simp only [List.getElem?_cons_succ, List.getElem?_cons_zero] at i0
            clear hv hB
            go_wp2_with fail
            clear i0 f0
            obtain ⟨wz, hwz⟩ : ∃ W, wu.setCell ⟨wo.heap.size, 1, none⟩ (.slice qa (bentL z1 a0 b0).length qc) = W := ⟨_, rfl⟩
            have hB : Below wo.heap.size wo wz := by rw [← hwz]; exact HBu.out.setCell (p := ⟨wo.heap.size, 1, none⟩) (Nat.le_refl _) _
            replace HBN : Hid (IntsOf wz (.slice qa (bentL z1 a0 b0).length qc) (bentL z1 a0 b0)) := Lib.hid (by have h9 := ints_far1 (o := 1) (u := .slice qa (bentL z1 a0 b0).length qc) HBN.out HY.out; rwa [hwz] at h9)
            replace HY : Hid (BlkC wz wo.heap.size 45 [.slice e0 z0.length d0, .slice qa (bentL z1 a0 b0).length qc, .slice e2 z2.length d2]) := Lib.hid (by have h9 := HY.out.set 1 (.slice qa (bentL z1 a0 b0).length qc); rw [hwz] at h9; exact h9)
            rw [hwz]
            clear hwz HBu HBy
            replace HB := Lib.hid (HB.out.trans (hB.mono HB.out.size))
            replace HBl := Lib.hid (HBl.out.trans (hB.mono HBl.out.size))
            replace HX := Lib.hid (HX.out.below hB)
            replace HC := Lib.hid (HC.out.below hB)
            replace HZ0 := Lib.hid (HZ0.out.below hB)
            replace HZ1 := Lib.hid (HZ1.out.below hB)
            replace HZ2 := Lib.hid (HZ2.out.below hB)
            replace HZ1 := HBN
            have hnb := Lib.hid (HZ64.out.bent a0 b0)
            clear hB HBN
            clear hnb
            obtain ⟨wd, hwd⟩ : ∃ X, wz.drew = X := ⟨_, rfl⟩
            obtain ⟨by_, hby⟩ : ∃ g, wo.heap.size = g := ⟨_, rfl⟩
            rw [hby] at HY ⊢
            clear hby
            have hB : Below wz.heap.size wz wd := by rw [← hwd]; exact (Below.refl _ _).drew
            replace HB := Lib.hid (HB.out.trans (hB.mono HB.out.size))
            replace HBl := Lib.hid (HBl.out.trans (hB.mono HBl.out.size))
            replace HX := Lib.hid (HX.out.below hB)
            replace HC := Lib.hid (HC.out.below hB)
            replace HY := Lib.hid (HY.out.below hB HY.out.lt)
            replace HZ0 := Lib.hid (HZ0.out.below hB)
            replace HZ1 := Lib.hid (HZ1.out.below hB)
            replace HZ2 := Lib.hid (HZ2.out.below hB)
            obtain ⟨cz, hcz⟩ : ∃ b, checkZ c (z0) (bentL z1 a0 b0) (z2) = b := ⟨_, rfl⟩
            have HCZ := Lib.hid hcz
            have q9 : (cz != cz) = false := by simp
            clear hcz
            refine startK 99 (fun X => X.cell? ⟨w1.heap.size, 0, none⟩ = some (.slice ai c.items.length ci) ∧ X.cell? ⟨w1.heap.size, 1, none⟩ = some (.slice ar c.rules.length cr) ∧ X.cell? ⟨w1.heap.size, 2, none⟩ = some (.slice none 0 0) ∧ X.cell? ⟨w1.heap.size, 3, none⟩ = some (.slice none 0 0) ∧ X.cell? ⟨by_, 0, none⟩ = some (.slice e0 (z0).length d0) ∧ X.cell? ⟨by_, 1, none⟩ = some (.slice qa (bentL z1 a0 b0).length qc) ∧ X.cell? ⟨by_, 2, none⟩ = some (.slice e2 (z2).length d2)) (by kernel_rfl) (by rw [hwd]; exact ⟨HX.out.c0, HX.out.c1, HX.out.c2, HX.out.c3, HY.out.cell 0, HY.out.cell 1, HY.out.cell 2⟩) (fun hHeld => ?_)
            rw [hwd] at hHeld ⊢
            clear hwd hB
            refine takeK 0 99 (v := ?_) rfl rfl (by kernel_rfl) (by kernel_rfl) (by kernel_rfl) (by kernel_rfl) (fun _ _ _ h => h) (by rfl) ?_ (by assumption) ?_
            rotate_left
            · (intro w hSw; go_simp; first | done | with_reducible rfl)
            simp only [List.setIfInBounds_toArray, List.set_cons_zero, List.set_cons_succ]
            refine takeK 1 100 (v := ?_) rfl rfl (by kernel_rfl) (by kernel_rfl) (by kernel_rfl) (by kernel_rfl) (fun _ _ _ h => h) (by rfl) ?_ (by assumption) ?_
            rotate_left
            · (intro w hSw; go_simp; first | done | with_reducible rfl)
            simp only [List.setIfInBounds_toArray, List.set_cons_zero, List.set_cons_succ]
            refine takeK 2 101 (v := ?_) rfl rfl (by kernel_rfl) (by kernel_rfl) (by kernel_rfl) (by kernel_rfl) (fun _ _ _ h => h) (by rfl) ?_ (by assumption) ?_
            rotate_left
            · (intro w hSw; go_simp; first | done | with_reducible rfl)
            simp only [List.setIfInBounds_toArray, List.set_cons_zero, List.set_cons_succ]
            refine takeK 3 102 (v := ?_) rfl rfl (by kernel_rfl) (by kernel_rfl) (by kernel_rfl) (by kernel_rfl) (fun _ _ _ h => h) (by rfl) ?_ (by assumption) ?_
            rotate_left
            · (intro w hSw; go_simp; first | done | with_reducible rfl)
            simp only [List.setIfInBounds_toArray, List.set_cons_zero, List.set_cons_succ]
            refine takeK 4 103 (v := ?_) rfl rfl (by kernel_rfl) (by kernel_rfl) (by kernel_rfl) (by kernel_rfl) (fun _ _ _ h => h) (by rfl) ?_ (by assumption) ?_
            rotate_left
            · (intro w hSw; go_simp; first | done | with_reducible rfl)
            simp only [List.setIfInBounds_toArray, List.set_cons_zero, List.set_cons_succ]
            refine takeK 5 104 (v := ?_) rfl rfl (by kernel_rfl) (by kernel_rfl) (by kernel_rfl) (by kernel_rfl) (fun _ _ _ h => h) (by rfl) ?_ (by assumption) ?_
            rotate_left
            · (intro w hSw; go_simp; first | done | with_reducible rfl)
            simp only [List.setIfInBounds_toArray, List.set_cons_zero, List.set_cons_succ]
            refine takeK 6 105 (v := ?_) rfl rfl (by kernel_rfl) (by kernel_rfl) (by kernel_rfl) (by kernel_rfl) (fun _ _ _ h => h) (by rfl) ?_ (by assumption) ?_
            rotate_left
            · (intro w hSw; go_simp; first | done | with_reducible rfl)
            simp only [List.setIfInBounds_toArray, List.set_cons_zero, List.set_cons_succ]
            refine takeK 7 106 (v := ?_) rfl rfl (by kernel_rfl) (by kernel_rfl) (by kernel_rfl) (by kernel_rfl) (fun _ _ _ h => h) (by rfl) ?_ (by assumption) ?_
            rotate_left
            · (intro w hSw; go_simp; first | done | with_reducible rfl)
            simp only [List.setIfInBounds_toArray, List.set_cons_zero, List.set_cons_succ]
            refine takeK 9 108 (v := ?_) rfl rfl (by kernel_rfl) (by kernel_rfl) (by kernel_rfl) (by kernel_rfl) (fun _ _ _ h => h) (by rfl) ?_ (by assumption) ?_
            rotate_left
            · (intro w hSw; go_simp; first | done | with_reducible rfl)
            simp only [List.setIfInBounds_toArray, List.set_cons_zero, List.set_cons_succ]
            refine takeK 10 109 (v := ?_) rfl rfl (by kernel_rfl) (by kernel_rfl) (by kernel_rfl) (by kernel_rfl) (fun _ _ _ h => h) (by rfl) ?_ (by assumption) ?_
            rotate_left
            · (intro w hSw; go_simp; first | done | with_reducible rfl)
            simp only [List.setIfInBounds_toArray, List.set_cons_zero, List.set_cons_succ]
            refine stepK 8 (by kernel_rfl) rfl (fun K hK => ?_)
            go_simp
            refine (check_both _ _ _ _ _ c (z0) (bentL z1 a0 b0) (z2) wd HC.out HF.out HZ0.out HZ1.out HZ2.out HZ64.out (HK.out.keep HB.out)).mono ?_
            rintro e we ⟨rfl, hB⟩
            rw [HCZ.out]
            clear hHeld
            replace HB := Lib.hid (HB.out.trans (hB.mono HB.out.size))
            replace HBl := Lib.hid (HBl.out.trans (hB.mono HBl.out.size))
            replace HX := Lib.hid (HX.out.below hB)
            replace HC := Lib.hid (HC.out.below hB)
            replace HY := Lib.hid (HY.out.below hB HY.out.lt)
            replace HZ0 := Lib.hid (HZ0.out.below hB)
            replace HZ1 := Lib.hid (HZ1.out.below hB)
            replace HZ2 := Lib.hid (HZ2.out.below hB)
            clear hB
            go_wp2_with fail
            refine hK.out _ _ (⟨HX.out.c0, HX.out.c1, HX.out.c2, HX.out.c3, HY.out.cell 0, HY.out.cell 1, HY.out.cell 2⟩) (fun hHeld => ?_)
            clear hK K
            try simp only [Act.put, List.setIfInBounds_toArray, List.set_cons_zero, List.set_cons_succ]
            refine stepK 11 (by kernel_rfl) rfl (fun K hK => ?_)
            go_simp
            refine (rcheckl_any _ _ _ _ _ c (z0) (bentL z1 a0 b0) (z2) we HC.out HF.out HZ0.out HZ1.out HZ2.out HZ64.out (HK.out.keep HB.out)).mono ?_
            rintro e wf ⟨rfl, hB⟩
            rw [HCZ.out]
            clear hHeld
            replace HB := Lib.hid (HB.out.trans (hB.mono HB.out.size))
            replace HBl := Lib.hid (HBl.out.trans (hB.mono HBl.out.size))
            replace HX := Lib.hid (HX.out.below hB)
            replace HC := Lib.hid (HC.out.below hB)
            replace HY := Lib.hid (HY.out.below hB HY.out.lt)
            clear hB
            go_wp2_with fail
            refine hK.out _ _ (⟨HX.out.c0, HX.out.c1, HX.out.c2, HX.out.c3, HY.out.cell 0, HY.out.cell 1, HY.out.cell 2⟩) (fun hHeld => ?_)
            clear hK K
            try simp only [Act.put, List.setIfInBounds_toArray, List.set_cons_zero, List.set_cons_succ]
            refine takeK 12 111 (v := ?_) rfl rfl (by kernel_rfl) (by kernel_rfl) (by kernel_rfl) (by kernel_rfl) (fun _ _ _ h => h) (by rfl) ?_ (by assumption) ?_
            rotate_left
            · (intro w hSw; go_simp; first | done | with_reducible rfl)
            simp only [List.setIfInBounds_toArray, List.set_cons_zero, List.set_cons_succ]
            refine doneK (by kernel_rfl) ?_ _
            clear hHeld
            go_wp2_with fail
            go_roundw
            case rel => exact ⟨k + 1, by omega, by go_num, HBl⟩
            case measure => simp [intOf]; omega
          · have r1 : ((k : Int) == 1) = false := by simp; omega
            by_cases h2 : k = 2
            · have r2 : ((k : Int) == 2) = true := by simp; omega
              clear h1 h2 hB
              go_wp2_with fail
              clear x0 x1 x2 y0 y1 y2 hwy
              refine (bent_any _ z2 a0 b0 wy (HZ2.out.below HBy.out) (by omega) HA.out.1 HA.out.2).mono ?_
              rintro e wu ⟨⟨vn, rfl, hv⟩, hB⟩
              obtain ⟨qa, qc, rfl, -, -⟩ := hv.form
              have HBN := Lib.hid hv
              replace HY := Lib.hid (HY.out.below hB HY.out.lt)
              have HBu := Lib.hid (HBy.out.trans (hB.mono HBy.out.size))
              have i0 := HY.out.cell 2
              have f0 := HY.out.frozen 2
              simp only [List.getElem?_cons_succ, List.getElem?_cons_zero] at i0
              clear hv hB
              go_wp2_with fail
              clear i0 f0
              obtain ⟨wz, hwz⟩ : ∃ W, wu.setCell ⟨wo.heap.size, 2, none⟩ (.slice qa (bentL z2 a0 b0).length qc) = W := ⟨_, rfl⟩
              have hB : Below wo.heap.size wo wz := by rw [← hwz]; exact HBu.out.setCell (p := ⟨wo.heap.size, 2, none⟩) (Nat.le_refl _) _
              replace HBN : Hid (IntsOf wz (.slice qa (bentL z2 a0 b0).length qc) (bentL z2 a0 b0)) := Lib.hid (by have h9 := ints_far1 (o := 2) (u := .slice qa (bentL z2 a0 b0).length qc) HBN.out HY.out; rwa [hwz] at h9)
              replace HY : Hid (BlkC wz wo.heap.size 45 [.slice e0 z0.length d0, .slice e1 z1.length d1, .slice qa (bentL z2 a0 b0).length qc]) := Lib.hid (by have h9 := HY.out.set 2 (.slice qa (bentL z2 a0 b0).length qc); rw [hwz] at h9; exact h9)
              rw [hwz]
              clear hwz HBu HBy
              replace HB := Lib.hid (HB.out.trans (hB.mono HB.out.size))
              replace HBl := Lib.hid (HBl.out.trans (hB.mono HBl.out.size))
              replace HX := Lib.hid (HX.out.below hB)
              replace HC := Lib.hid (HC.out.below hB)
              replace HZ0 := Lib.hid (HZ0.out.below hB)
              replace HZ1 := Lib.hid (HZ1.out.below hB)
              replace HZ2 := Lib.hid (HZ2.out.below hB)
              replace HZ2 := HBN
              have hnb := Lib.hid (HZ64.out.bent a0 b0)
              clear hB HBN
              clear hnb
              obtain ⟨wd, hwd⟩ : ∃ X, wz.drew = X := ⟨_, rfl⟩
              obtain ⟨by_, hby⟩ : ∃ g, wo.heap.size = g := ⟨_, rfl⟩
              rw [hby] at HY ⊢
              clear hby
              have hB : Below wz.heap.size wz wd := by rw [← hwd]; exact (Below.refl _ _).drew
              replace HB := Lib.hid (HB.out.trans (hB.mono HB.out.size))
              replace HBl := Lib.hid (HBl.out.trans (hB.mono HBl.out.size))
              replace HX := Lib.hid (HX.out.below hB)
              replace HC := Lib.hid (HC.out.below hB)
              replace HY := Lib.hid (HY.out.below hB HY.out.lt)
              replace HZ0 := Lib.hid (HZ0.out.below hB)
              replace HZ1 := Lib.hid (HZ1.out.below hB)
              replace HZ2 := Lib.hid (HZ2.out.below hB)
              obtain ⟨cz, hcz⟩ : ∃ b, checkZ c (z0) (z1) (bentL z2 a0 b0) = b := ⟨_, rfl⟩
              have HCZ := Lib.hid hcz
              have q9 : (cz != cz) = false := by simp
              clear hcz
              refine startK 99 (fun X => X.cell? ⟨w1.heap.size, 0, none⟩ = some (.slice ai c.items.length ci) ∧ X.cell? ⟨w1.heap.size, 1, none⟩ = some (.slice ar c.rules.length cr) ∧ X.cell? ⟨w1.heap.size, 2, none⟩ = some (.slice none 0 0) ∧ X.cell? ⟨w1.heap.size, 3, none⟩ = some (.slice none 0 0) ∧ X.cell? ⟨by_, 0, none⟩ = some (.slice e0 (z0).length d0) ∧ X.cell? ⟨by_, 1, none⟩ = some (.slice e1 (z1).length d1) ∧ X.cell? ⟨by_, 2, none⟩ = some (.slice qa (bentL z2 a0 b0).length qc)) (by kernel_rfl) (by rw [hwd]; exact ⟨HX.out.c0, HX.out.c1, HX.out.c2, HX.out.c3, HY.out.cell 0, HY.out.cell 1, HY.out.cell 2⟩) (fun hHeld => ?_)
              rw [hwd] at hHeld ⊢
              clear hwd hB
              refine takeK 0 99 (v := ?_) rfl rfl (by kernel_rfl) (by kernel_rfl) (by kernel_rfl) (by kernel_rfl) (fun _ _ _ h => h) (by rfl) ?_ (by assumption) ?_
              rotate_left
              · (intro w hSw; go_simp; first | done | with_reducible rfl)
              simp only [List.setIfInBounds_toArray, List.set_cons_zero, List.set_cons_succ]
              refine takeK 1 100 (v := ?_) rfl rfl (by kernel_rfl) (by kernel_rfl) (by kernel_rfl) (by kernel_rfl) (fun _ _ _ h => h) (by rfl) ?_ (by assumption) ?_
              rotate_left
              · (intro w hSw; go_simp; first | done | with_reducible rfl)
              simp only [List.setIfInBounds_toArray, List.set_cons_zero, List.set_cons_succ]
              refine takeK 2 101 (v := ?_) rfl rfl (by kernel_rfl) (by kernel_rfl) (by kernel_rfl) (by kernel_rfl) (fun _ _ _ h => h) (by rfl) ?_ (by assumption) ?_
              rotate_left
              · (intro w hSw; go_simp; first | done | with_reducible rfl)
              simp only [List.setIfInBounds_toArray, List.set_cons_zero, List.set_cons_succ]
              refine takeK 3 102 (v := ?_) rfl rfl (by kernel_rfl) (by kernel_rfl) (by kernel_rfl) (by kernel_rfl) (fun _ _ _ h => h) (by rfl) ?_ (by assumption) ?_
              rotate_left
              · (intro w hSw; go_simp; first | done | with_reducible rfl)
              simp only [List.setIfInBounds_toArray, List.set_cons_zero, List.set_cons_succ]
              refine takeK 4 103 (v := ?_) rfl rfl (by kernel_rfl) (by kernel_rfl) (by kernel_rfl) (by kernel_rfl) (fun _ _ _ h => h) (by rfl) ?_ (by assumption) ?_
              rotate_left
              · (intro w hSw; go_simp; first | done | with_reducible rfl)
              simp only [List.setIfInBounds_toArray, List.set_cons_zero, List.set_cons_succ]
              refine takeK 5 104 (v := ?_) rfl rfl (by kernel_rfl) (by kernel_rfl) (by kernel_rfl) (by kernel_rfl) (fun _ _ _ h => h) (by rfl) ?_ (by assumption) ?_
              rotate_left
              · (intro w hSw; go_simp; first | done | with_reducible rfl)
              simp only [List.setIfInBounds_toArray, List.set_cons_zero, List.set_cons_succ]
              refine takeK 6 105 (v := ?_) rfl rfl (by kernel_rfl) (by kernel_rfl) (by kernel_rfl) (by kernel_rfl) (fun _ _ _ h => h) (by rfl) ?_ (by assumption) ?_
              rotate_left
              · (intro w hSw; go_simp; first | done | with_reducible rfl)
              simp only [List.setIfInBounds_toArray, List.set_cons_zero, List.set_cons_succ]
              refine takeK 7 106 (v := ?_) rfl rfl (by kernel_rfl) (by kernel_rfl) (by kernel_rfl) (by kernel_rfl) (fun _ _ _ h => h) (by rfl) ?_ (by assumption) ?_
              rotate_left
              · (intro w hSw; go_simp; first | done | with_reducible rfl)
              simp only [List.setIfInBounds_toArray, List.set_cons_zero, List.set_cons_succ]
              refine takeK 9 108 (v := ?_) rfl rfl (by kernel_rfl) (by kernel_rfl) (by kernel_rfl) (by kernel_rfl) (fun _ _ _ h => h) (by rfl) ?_ (by assumption) ?_
              rotate_left
              · (intro w hSw; go_simp; first | done | with_reducible rfl)
              simp only [List.setIfInBounds_toArray, List.set_cons_zero, List.set_cons_succ]
              refine takeK 10 109 (v := ?_) rfl rfl (by kernel_rfl) (by kernel_rfl) (by kernel_rfl) (by kernel_rfl) (fun _ _ _ h => h) (by rfl) ?_ (by assumption) ?_
              rotate_left
              · (intro w hSw; go_simp; first | done | with_reducible rfl)
              simp only [List.setIfInBounds_toArray, List.set_cons_zero, List.set_cons_succ]
              refine stepK 8 (by kernel_rfl) rfl (fun K hK => ?_)
              go_simp
              refine (check_both _ _ _ _ _ c (z0) (z1) (bentL z2 a0 b0) wd HC.out HF.out HZ0.out HZ1.out HZ2.out HZ64.out (HK.out.keep HB.out)).mono ?_
              rintro e we ⟨rfl, hB⟩
              rw [HCZ.out]
              clear hHeld
              replace HB := Lib.hid (HB.out.trans (hB.mono HB.out.size))
              replace HBl := Lib.hid (HBl.out.trans (hB.mono HBl.out.size))
              replace HX := Lib.hid (HX.out.below hB)
              replace HC := Lib.hid (HC.out.below hB)
              replace HY := Lib.hid (HY.out.below hB HY.out.lt)
              replace HZ0 := Lib.hid (HZ0.out.below hB)
              replace HZ1 := Lib.hid (HZ1.out.below hB)
              replace HZ2 := Lib.hid (HZ2.out.below hB)
              clear hB
              go_wp2_with fail
              refine hK.out _ _ (⟨HX.out.c0, HX.out.c1, HX.out.c2, HX.out.c3, HY.out.cell 0, HY.out.cell 1, HY.out.cell 2⟩) (fun hHeld => ?_)
              clear hK K
              try simp only [Act.put, List.setIfInBounds_toArray, List.set_cons_zero, List.set_cons_succ]
              refine stepK 11 (by kernel_rfl) rfl (fun K hK => ?_)
              go_simp
              refine (rcheckl_any _ _ _ _ _ c (z0) (z1) (bentL z2 a0 b0) we HC.out HF.out HZ0.out HZ1.out HZ2.out HZ64.out (HK.out.keep HB.out)).mono ?_
              rintro e wf ⟨rfl, hB⟩
              rw [HCZ.out]
              clear hHeld
              replace HB := Lib.hid (HB.out.trans (hB.mono HB.out.size))
              replace HBl := Lib.hid (HBl.out.trans (hB.mono HBl.out.size))
              replace HX := Lib.hid (HX.out.below hB)
              replace HC := Lib.hid (HC.out.below hB)
              replace HY := Lib.hid (HY.out.below hB HY.out.lt)
              clear hB
              go_wp2_with fail
              refine hK.out _ _ (⟨HX.out.c0, HX.out.c1, HX.out.c2, HX.out.c3, HY.out.cell 0, HY.out.cell 1, HY.out.cell 2⟩) (fun hHeld => ?_)
              clear hK K
              try simp only [Act.put, List.setIfInBounds_toArray, List.set_cons_zero, List.set_cons_succ]
              refine takeK 12 111 (v := ?_) rfl rfl (by kernel_rfl) (by kernel_rfl) (by kernel_rfl) (by kernel_rfl) (fun _ _ _ h => h) (by rfl) ?_ (by assumption) ?_
              rotate_left
              · (intro w hSw; go_simp; first | done | with_reducible rfl)
              simp only [List.setIfInBounds_toArray, List.set_cons_zero, List.set_cons_succ]
              refine doneK (by kernel_rfl) ?_ _
              clear hHeld
              go_wp2_with fail
              go_roundw
              case rel => exact ⟨k + 1, by omega, by go_num, HBl⟩
              case measure => simp [intOf]; omega
            · have r2 : ((k : Int) == 2) = false := by simp; omega
              by_cases h3 : k = 3
              · have r3 : ((k : Int) == 3) = true := by simp; omega
                clear h1 h2 h3 hB
                go_wp2_with fail
                clear x0 x1 x2 y0 y1 y2 hwy
                refine (bent_any _ z0 a0 b0 wy (HZ0.out.below HBy.out) (by omega) HA.out.1 HA.out.2).mono ?_
                rintro e wu ⟨⟨vn, rfl, hv⟩, hB⟩
                obtain ⟨qa, qc, rfl, -, -⟩ := hv.form
                have HBN := Lib.hid hv
                replace HY := Lib.hid (HY.out.below hB HY.out.lt)
                have HBu := Lib.hid (HBy.out.trans (hB.mono HBy.out.size))
                have i0 := HY.out.cell 0
                have f0 := HY.out.frozen 0
                simp only [List.getElem?_cons_succ, List.getElem?_cons_zero] at i0
                clear hv hB
                go_wp2_with fail
                clear i0 f0
                obtain ⟨wz, hwz⟩ : ∃ W, wu.setCell ⟨wo.heap.size, 0, none⟩ (.slice qa (bentL z0 a0 b0).length qc) = W := ⟨_, rfl⟩
                have hB : Below wo.heap.size wo wz := by rw [← hwz]; exact HBu.out.setCell (p := ⟨wo.heap.size, 0, none⟩) (Nat.le_refl _) _
                replace HBN : Hid (IntsOf wz (.slice qa (bentL z0 a0 b0).length qc) (bentL z0 a0 b0)) := Lib.hid (by have h9 := ints_far1 (o := 0) (u := .slice qa (bentL z0 a0 b0).length qc) HBN.out HY.out; rwa [hwz] at h9)
                replace HY : Hid (BlkC wz wo.heap.size 45 [.slice qa (bentL z0 a0 b0).length qc, .slice e1 z1.length d1, .slice e2 z2.length d2]) := Lib.hid (by have h9 := HY.out.set 0 (.slice qa (bentL z0 a0 b0).length qc); rw [hwz] at h9; exact h9)
                rw [hwz]
                clear hwz HBu HBy
                replace HB := Lib.hid (HB.out.trans (hB.mono HB.out.size))
                replace HBl := Lib.hid (HBl.out.trans (hB.mono HBl.out.size))
                replace HX := Lib.hid (HX.out.below hB)
                replace HC := Lib.hid (HC.out.below hB)
                replace HZ0 := Lib.hid (HZ0.out.below hB)
                replace HZ1 := Lib.hid (HZ1.out.below hB)
                replace HZ2 := Lib.hid (HZ2.out.below hB)
                replace HZ0 := HBN
                have hnb := Lib.hid (HZ64.out.bent a0 b0)
                clear hB HBN
                replace HZ64 := hnb
                clear hnb
                obtain ⟨wd, hwd⟩ : ∃ X, wz.drew = X := ⟨_, rfl⟩
                obtain ⟨by_, hby⟩ : ∃ g, wo.heap.size = g := ⟨_, rfl⟩
                rw [hby] at HY ⊢
                clear hby
                have hB : Below wz.heap.size wz wd := by rw [← hwd]; exact (Below.refl _ _).drew
                replace HB := Lib.hid (HB.out.trans (hB.mono HB.out.size))
                replace HBl := Lib.hid (HBl.out.trans (hB.mono HBl.out.size))
                replace HX := Lib.hid (HX.out.below hB)
                replace HC := Lib.hid (HC.out.below hB)
                replace HY := Lib.hid (HY.out.below hB HY.out.lt)
                replace HZ0 := Lib.hid (HZ0.out.below hB)
                replace HZ1 := Lib.hid (HZ1.out.below hB)
                replace HZ2 := Lib.hid (HZ2.out.below hB)
                obtain ⟨cz, hcz⟩ : ∃ b, checkZ c (bentL z0 a0 b0) (z1) (z2) = b := ⟨_, rfl⟩
                have HCZ := Lib.hid hcz
                have q9 : (cz != cz) = false := by simp
                clear hcz
                refine startK 99 (fun X => X.cell? ⟨w1.heap.size, 0, none⟩ = some (.slice ai c.items.length ci) ∧ X.cell? ⟨w1.heap.size, 1, none⟩ = some (.slice ar c.rules.length cr) ∧ X.cell? ⟨w1.heap.size, 2, none⟩ = some (.slice none 0 0) ∧ X.cell? ⟨w1.heap.size, 3, none⟩ = some (.slice none 0 0) ∧ X.cell? ⟨by_, 0, none⟩ = some (.slice qa (bentL z0 a0 b0).length qc) ∧ X.cell? ⟨by_, 1, none⟩ = some (.slice e1 (z1).length d1) ∧ X.cell? ⟨by_, 2, none⟩ = some (.slice e2 (z2).length d2)) (by kernel_rfl) (by rw [hwd]; exact ⟨HX.out.c0, HX.out.c1, HX.out.c2, HX.out.c3, HY.out.cell 0, HY.out.cell 1, HY.out.cell 2⟩) (fun hHeld => ?_)
                rw [hwd] at hHeld ⊢
                clear hwd hB
                refine takeK 0 99 (v := ?_) rfl rfl (by kernel_rfl) (by kernel_rfl) (by kernel_rfl) (by kernel_rfl) (fun _ _ _ h => h) (by rfl) ?_ (by assumption) ?_
                rotate_left
                · (intro w hSw; go_simp; first | done | with_reducible rfl)
                simp only [List.setIfInBounds_toArray, List.set_cons_zero, List.set_cons_succ]
                refine takeK 1 100 (v := ?_) rfl rfl (by kernel_rfl) (by kernel_rfl) (by kernel_rfl) (by kernel_rfl) (fun _ _ _ h => h) (by rfl) ?_ (by assumption) ?_
                rotate_left
                · (intro w hSw; go_simp; first | done | with_reducible rfl)
                simp only [List.setIfInBounds_toArray, List.set_cons_zero, List.set_cons_succ]
                refine takeK 2 101 (v := ?_) rfl rfl (by kernel_rfl) (by kernel_rfl) (by kernel_rfl) (by kernel_rfl) (fun _ _ _ h => h) (by rfl) ?_ (by assumption) ?_
                rotate_left
                · (intro w hSw; go_simp; first | done | with_reducible rfl)
                simp only [List.setIfInBounds_toArray, List.set_cons_zero, List.set_cons_succ]
                refine takeK 3 102 (v := ?_) rfl rfl (by kernel_rfl) (by kernel_rfl) (by kernel_rfl) (by kernel_rfl) (fun _ _ _ h => h) (by rfl) ?_ (by assumption) ?_
                rotate_left
                · (intro w hSw; go_simp; first | done | with_reducible rfl)
                simp only [List.setIfInBounds_toArray, List.set_cons_zero, List.set_cons_succ]
                refine takeK 4 103 (v := ?_) rfl rfl (by kernel_rfl) (by kernel_rfl) (by kernel_rfl) (by kernel_rfl) (fun _ _ _ h => h) (by rfl) ?_ (by assumption) ?_
                rotate_left
                · (intro w hSw; go_simp; first | done | with_reducible rfl)
                simp only [List.setIfInBounds_toArray, List.set_cons_zero, List.set_cons_succ]
                refine takeK 5 104 (v := ?_) rfl rfl (by kernel_rfl) (by kernel_rfl) (by kernel_rfl) (by kernel_rfl) (fun _ _ _ h => h) (by rfl) ?_ (by assumption) ?_
                rotate_left
                · (intro w hSw; go_simp; first | done | with_reducible rfl)
                simp only [List.setIfInBounds_toArray, List.set_cons_zero, List.set_cons_succ]
                refine takeK 6 105 (v := ?_) rfl rfl (by kernel_rfl) (by kernel_rfl) (by kernel_rfl) (by kernel_rfl) (fun _ _ _ h => h) (by rfl) ?_ (by assumption) ?_
                rotate_left
                · (intro w hSw; go_simp; first | done | with_reducible rfl)
                simp only [List.setIfInBounds_toArray, List.set_cons_zero, List.set_cons_succ]
                refine takeK 7 106 (v := ?_) rfl rfl (by kernel_rfl) (by kernel_rfl) (by kernel_rfl) (by kernel_rfl) (fun _ _ _ h => h) (by rfl) ?_ (by assumption) ?_
                rotate_left
                · (intro w hSw; go_simp; first | done | with_reducible rfl)
                simp only [List.setIfInBounds_toArray, List.set_cons_zero, List.set_cons_succ]
                refine takeK 9 108 (v := ?_) rfl rfl (by kernel_rfl) (by kernel_rfl) (by kernel_rfl) (by kernel_rfl) (fun _ _ _ h => h) (by rfl) ?_ (by assumption) ?_
                rotate_left
                · (intro w hSw; go_simp; first | done | with_reducible rfl)
                simp only [List.setIfInBounds_toArray, List.set_cons_zero, List.set_cons_succ]
                refine takeK 10 109 (v := ?_) rfl rfl (by kernel_rfl) (by kernel_rfl) (by kernel_rfl) (by kernel_rfl) (fun _ _ _ h => h) (by rfl) ?_ (by assumption) ?_
                rotate_left
                · (intro w hSw; go_simp; first | done | with_reducible rfl)
                simp only [List.setIfInBounds_toArray, List.set_cons_zero, List.set_cons_succ]
                refine stepK 8 (by kernel_rfl) rfl (fun K hK => ?_)
                go_simp
                refine (check_both _ _ _ _ _ c (bentL z0 a0 b0) (z1) (z2) wd HC.out HF.out HZ0.out HZ1.out HZ2.out HZ64.out (HK.out.keep HB.out)).mono ?_
                rintro e we ⟨rfl, hB⟩
                rw [HCZ.out]
                clear hHeld
                replace HB := Lib.hid (HB.out.trans (hB.mono HB.out.size))
                replace HBl := Lib.hid (HBl.out.trans (hB.mono HBl.out.size))
                replace HX := Lib.hid (HX.out.below hB)
                replace HC := Lib.hid (HC.out.below hB)
                replace HY := Lib.hid (HY.out.below hB HY.out.lt)
                replace HZ0 := Lib.hid (HZ0.out.below hB)
                replace HZ1 := Lib.hid (HZ1.out.below hB)
                replace HZ2 := Lib.hid (HZ2.out.below hB)
                clear hB
                go_wp2_with fail
                refine hK.out _ _ (⟨HX.out.c0, HX.out.c1, HX.out.c2, HX.out.c3, HY.out.cell 0, HY.out.cell 1, HY.out.cell 2⟩) (fun hHeld => ?_)
                clear hK K
                try simp only [Act.put, List.setIfInBounds_toArray, List.set_cons_zero, List.set_cons_succ]
                refine stepK 11 (by kernel_rfl) rfl (fun K hK => ?_)
                go_simp
                refine (rcheckl_any _ _ _ _ _ c (bentL z0 a0 b0) (z1) (z2) we HC.out HF.out HZ0.out HZ1.out HZ2.out HZ64.out (HK.out.keep HB.out)).mono ?_
                rintro e wf ⟨rfl, hB⟩
                rw [HCZ.out]
                clear hHeld
                replace HB := Lib.hid (HB.out.trans (hB.mono HB.out.size))
                replace HBl := Lib.hid (HBl.out.trans (hB.mono HBl.out.size))
                replace HX := Lib.hid (HX.out.below hB)
                replace HC := Lib.hid (HC.out.below hB)
                replace HY := Lib.hid (HY.out.below hB HY.out.lt)
                clear hB
                go_wp2_with fail
                refine hK.out _ _ (⟨HX.out.c0, HX.out.c1, HX.out.c2, HX.out.c3, HY.out.cell 0, HY.out.cell 1, HY.out.cell 2⟩) (fun hHeld => ?_)
                clear hK K
                try simp only [Act.put, List.setIfInBounds_toArray, List.set_cons_zero, List.set_cons_succ]
                refine takeK 12 111 (v := ?_) rfl rfl (by kernel_rfl) (by kernel_rfl) (by kernel_rfl) (by kernel_rfl) (fun _ _ _ h => h) (by rfl) ?_ (by assumption) ?_
                rotate_left
                · (intro w hSw; go_simp; first | done | with_reducible rfl)
                simp only [List.setIfInBounds_toArray, List.set_cons_zero, List.set_cons_succ]
                refine doneK (by kernel_rfl) ?_ _
                clear hHeld
                go_wp2_with fail
                go_roundw
                case rel => exact ⟨k + 1, by omega, by go_num, HBl⟩
                case measure => simp [intOf]; omega
              · have r3 : ((k : Int) == 3) = false := by simp; omega
                clear h1 h2 h3
                go_wp2_with fail
                clear x0 x1 x2 y0 y1 y2 hwy HBy
                replace HB := Lib.hid (HB.out.trans (hB.mono HB.out.size))
                replace HBl := Lib.hid (HBl.out.trans (hB.mono HBl.out.size))
                replace HX := Lib.hid (HX.out.below hB)
                replace HC := Lib.hid (HC.out.below hB)
                replace HZ0 := Lib.hid (HZ0.out.below hB)
                replace HZ1 := Lib.hid (HZ1.out.below hB)
                replace HZ2 := Lib.hid (HZ2.out.below hB)
                clear hB
                obtain ⟨wd, hwd⟩ : ∃ X, wy.drew = X := ⟨_, rfl⟩
                obtain ⟨by_, hby⟩ : ∃ g, wo.heap.size = g := ⟨_, rfl⟩
                rw [hby] at HY ⊢
                clear hby
                have hB : Below wy.heap.size wy wd := by rw [← hwd]; exact (Below.refl _ _).drew
                replace HB := Lib.hid (HB.out.trans (hB.mono HB.out.size))
                replace HBl := Lib.hid (HBl.out.trans (hB.mono HBl.out.size))
                replace HX := Lib.hid (HX.out.below hB)
                replace HC := Lib.hid (HC.out.below hB)
                replace HY := Lib.hid (HY.out.below hB HY.out.lt)
                replace HZ0 := Lib.hid (HZ0.out.below hB)
                replace HZ1 := Lib.hid (HZ1.out.below hB)
                replace HZ2 := Lib.hid (HZ2.out.below hB)
                obtain ⟨cz, hcz⟩ : ∃ b, checkZ c (z0) (z1) (z2) = b := ⟨_, rfl⟩
                have HCZ := Lib.hid hcz
                have q9 : (cz != cz) = false := by simp
                clear hcz
                refine startK 99 (fun X => X.cell? ⟨w1.heap.size, 0, none⟩ = some (.slice ai c.items.length ci) ∧ X.cell? ⟨w1.heap.size, 1, none⟩ = some (.slice ar c.rules.length cr) ∧ X.cell? ⟨w1.heap.size, 2, none⟩ = some (.slice none 0 0) ∧ X.cell? ⟨w1.heap.size, 3, none⟩ = some (.slice none 0 0) ∧ X.cell? ⟨by_, 0, none⟩ = some (.slice e0 (z0).length d0) ∧ X.cell? ⟨by_, 1, none⟩ = some (.slice e1 (z1).length d1) ∧ X.cell? ⟨by_, 2, none⟩ = some (.slice e2 (z2).length d2)) (by kernel_rfl) (by rw [hwd]; exact ⟨HX.out.c0, HX.out.c1, HX.out.c2, HX.out.c3, HY.out.cell 0, HY.out.cell 1, HY.out.cell 2⟩) (fun hHeld => ?_)
                rw [hwd] at hHeld ⊢
                clear hwd hB
                refine takeK 0 99 (v := ?_) rfl rfl (by kernel_rfl) (by kernel_rfl) (by kernel_rfl) (by kernel_rfl) (fun _ _ _ h => h) (by rfl) ?_ (by assumption) ?_
                rotate_left
                · (intro w hSw; go_simp; first | done | with_reducible rfl)
                simp only [List.setIfInBounds_toArray, List.set_cons_zero, List.set_cons_succ]
                refine takeK 1 100 (v := ?_) rfl rfl (by kernel_rfl) (by kernel_rfl) (by kernel_rfl) (by kernel_rfl) (fun _ _ _ h => h) (by rfl) ?_ (by assumption) ?_
                rotate_left
                · (intro w hSw; go_simp; first | done | with_reducible rfl)
                simp only [List.setIfInBounds_toArray, List.set_cons_zero, List.set_cons_succ]
                refine takeK 2 101 (v := ?_) rfl rfl (by kernel_rfl) (by kernel_rfl) (by kernel_rfl) (by kernel_rfl) (fun _ _ _ h => h) (by rfl) ?_ (by assumption) ?_
                rotate_left
                · (intro w hSw; go_simp; first | done | with_reducible rfl)
                simp only [List.setIfInBounds_toArray, List.set_cons_zero, List.set_cons_succ]
                refine takeK 3 102 (v := ?_) rfl rfl (by kernel_rfl) (by kernel_rfl) (by kernel_rfl) (by kernel_rfl) (fun _ _ _ h => h) (by rfl) ?_ (by assumption) ?_
                rotate_left
                · (intro w hSw; go_simp; first | done | with_reducible rfl)
                simp only [List.setIfInBounds_toArray, List.set_cons_zero, List.set_cons_succ]
                refine takeK 4 103 (v := ?_) rfl rfl (by kernel_rfl) (by kernel_rfl) (by kernel_rfl) (by kernel_rfl) (fun _ _ _ h => h) (by rfl) ?_ (by assumption) ?_
                rotate_left
                · (intro w hSw; go_simp; first | done | with_reducible rfl)
                simp only [List.setIfInBounds_toArray, List.set_cons_zero, List.set_cons_succ]
                refine takeK 5 104 (v := ?_) rfl rfl (by kernel_rfl) (by kernel_rfl) (by kernel_rfl) (by kernel_rfl) (fun _ _ _ h => h) (by rfl) ?_ (by assumption) ?_
                rotate_left
                · (intro w hSw; go_simp; first | done | with_reducible rfl)
                simp only [List.setIfInBounds_toArray, List.set_cons_zero, List.set_cons_succ]
                refine takeK 6 105 (v := ?_) rfl rfl (by kernel_rfl) (by kernel_rfl) (by kernel_rfl) (by kernel_rfl) (fun _ _ _ h => h) (by rfl) ?_ (by assumption) ?_
                rotate_left
                · (intro w hSw; go_simp; first | done | with_reducible rfl)
                simp only [List.setIfInBounds_toArray, List.set_cons_zero, List.set_cons_succ]
                refine takeK 7 106 (v := ?_) rfl rfl (by kernel_rfl) (by kernel_rfl) (by kernel_rfl) (by kernel_rfl) (fun _ _ _ h => h) (by rfl) ?_ (by assumption) ?_
                rotate_left
                · (intro w hSw; go_simp; first | done | with_reducible rfl)
                simp only [List.setIfInBounds_toArray, List.set_cons_zero, List.set_cons_succ]
                refine takeK 9 108 (v := ?_) rfl rfl (by kernel_rfl) (by kernel_rfl) (by kernel_rfl) (by kernel_rfl) (fun _ _ _ h => h) (by rfl) ?_ (by assumption) ?_
                rotate_left
                · (intro w hSw; go_simp; first | done | with_reducible rfl)
                simp only [List.setIfInBounds_toArray, List.set_cons_zero, List.set_cons_succ]
                refine takeK 10 109 (v := ?_) rfl rfl (by kernel_rfl) (by kernel_rfl) (by kernel_rfl) (by kernel_rfl) (fun _ _ _ h => h) (by rfl) ?_ (by assumption) ?_
                rotate_left
                · (intro w hSw; go_simp; first | done | with_reducible rfl)
                simp only [List.setIfInBounds_toArray, List.set_cons_zero, List.set_cons_succ]
                refine stepK 8 (by kernel_rfl) rfl (fun K hK => ?_)
                go_simp
                refine (check_both _ _ _ _ _ c (z0) (z1) (z2) wd HC.out HF.out HZ0.out HZ1.out HZ2.out HZ64.out (HK.out.keep HB.out)).mono ?_
                rintro e we ⟨rfl, hB⟩
                rw [HCZ.out]
                clear hHeld
                replace HB := Lib.hid (HB.out.trans (hB.mono HB.out.size))
                replace HBl := Lib.hid (HBl.out.trans (hB.mono HBl.out.size))
                replace HX := Lib.hid (HX.out.below hB)
                replace HC := Lib.hid (HC.out.below hB)
                replace HY := Lib.hid (HY.out.below hB HY.out.lt)
                replace HZ0 := Lib.hid (HZ0.out.below hB)
                replace HZ1 := Lib.hid (HZ1.out.below hB)
                replace HZ2 := Lib.hid (HZ2.out.below hB)
                clear hB
                go_wp2_with fail
                refine hK.out _ _ (⟨HX.out.c0, HX.out.c1, HX.out.c2, HX.out.c3, HY.out.cell 0, HY.out.cell 1, HY.out.cell 2⟩) (fun hHeld => ?_)
                clear hK K
                try simp only [Act.put, List.setIfInBounds_toArray, List.set_cons_zero, List.set_cons_succ]
                refine stepK 11 (by kernel_rfl) rfl (fun K hK => ?_)
                go_simp
                refine (rcheckl_any _ _ _ _ _ c (z0) (z1) (z2) we HC.out HF.out HZ0.out HZ1.out HZ2.out HZ64.out (HK.out.keep HB.out)).mono ?_
                rintro e wf ⟨rfl, hB⟩
                rw [HCZ.out]
                clear hHeld
                replace HB := Lib.hid (HB.out.trans (hB.mono HB.out.size))
                replace HBl := Lib.hid (HBl.out.trans (hB.mono HBl.out.size))
                replace HX := Lib.hid (HX.out.below hB)
                replace HC := Lib.hid (HC.out.below hB)
                replace HY := Lib.hid (HY.out.below hB HY.out.lt)
                clear hB
                go_wp2_with fail
                refine hK.out _ _ (⟨HX.out.c0, HX.out.c1, HX.out.c2, HX.out.c3, HY.out.cell 0, HY.out.cell 1, HY.out.cell 2⟩) (fun hHeld => ?_)
                clear hK K
                try simp only [Act.put, List.setIfInBounds_toArray, List.set_cons_zero, List.set_cons_succ]
                refine takeK 12 111 (v := ?_) rfl rfl (by kernel_rfl) (by kernel_rfl) (by kernel_rfl) (by kernel_rfl) (fun _ _ _ h => h) (by rfl) ?_ (by assumption) ?_
                rotate_left
                · (intro w hSw; go_simp; first | done | with_reducible rfl)
                simp only [List.setIfInBounds_toArray, List.set_cons_zero, List.set_cons_succ]
                refine doneK (by kernel_rfl) ?_ _
                clear hHeld
                go_wp2_with fail
                go_roundw
                case rel => exact ⟨k + 1, by omega, by go_num, HBl⟩
                case measure => simp [intOf]; omega
        · have q4 : decide ((k : Int) < 4) = false := decide_eq_false (by omega)
          replace HBlo := Lib.hid (HBlo.out.trans (HBl.out.mono HBlo.out.size))
          go_wp2_with fail
          go_roundw
          case rel => exact ⟨k0 + 1, by omega, by go_num, HBlo⟩
          case measure => simp [intOf]; omega
    · have q1 : decide ((k0 : Int) < 2) = false := decide_eq_false (by omega)
      replace HFd := Lib.hid (HFd.out.below hB HFd.out.lt)
      replace HF1 := Lib.hid (HF1.out.below hB)
      replace HF2 := Lib.hid (HF2.out.below hB)
      replace HF3 := Lib.hid (HF3.out.below hB)
      have m0 := HX.out.c0
      have m1 := HX.out.c1
      have m2 := HX.out.c2
      have m3 := HX.out.c3
      have mlt := HX.out.lt
      have y0 := HFd.out.cell 0
      have y1 := HFd.out.cell 1
      have y2 := HFd.out.cell 2
      simp only [List.getElem?_cons_succ, List.getElem?_cons_zero] at y0 y1 y2
      clear HBl hB HAl H2A
      cases bb with
      | false =>
        go_wp2_with fail
        refine (lives_any _ (HK.out.keep HB.out)).mono ?_
        rintro e wm7 ⟨rfl, hB⟩
        replace HB := Lib.hid (HB.out.trans (hB.mono HB.out.size))
        clear hB y0 y1 y2
        go_wp2_with fail
        go_ret
        exact ⟨rfl, HB.out⟩
      | true =>
        have HFC' := Lib.hid (HFC.out rfl)
        go_wp2_with fail
        refine (check_both _ _ _ _ _ c fr fn fg wr HC.out HF.out HF1.out HF2.out HF3.out HR64.out (HK.out.keep HB.out)).mono ?_
        rintro e wm6 ⟨rfl, hB⟩
        rw [HFC'.out]
        replace HB := Lib.hid (HB.out.trans (hB.mono HB.out.size))
        clear hB y0 y1 y2 m0 m1 m2 m3 mlt
        go_wp2_with fail
        refine (lives_any _ (HK.out.keep HB.out)).mono ?_
        rintro e wm7 ⟨rfl, hB⟩
        replace HB := Lib.hid (HB.out.trans (hB.mono HB.out.size))
        clear hB
        go_wp2_with fail
        go_ret
        exact ⟨rfl, HB.out⟩
end Go.Proofs.YtfpcgjgkbniofaaGreatDoor
