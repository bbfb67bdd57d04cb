/- the law GainNet: its walk. -/
import Derived.Test.YtfpcgjgkbniofaaGreatDoorGFine
import Derived.Test.YtfpcgjgkbniofaaGreatDoorGRef
import Derived.Test.YtfpcgjgkbniofaaGreatDoorGBoth
import Derived.Test.YtfpcgjgkbniofaaGreatDoorGBad
import Derived.Test.YtfpcgjgkbniofaaGreatDoorGAppI
import Derived.Test.YtfpcgjgkbniofaaGreatDoorGLives
set_option linter.unusedVariables false
set_option linter.unusedSimpArgs false
namespace Go.Proofs.YtfpcgjgkbniofaaGreatDoor
open Go.RowKit
attribute [local go_sem] Oper.semAt_some

theorem PickIs.below {w w' : World} {v : Value} {pk : Nat → Nat → Nat} (h : PickIs w v pk) (hb : Below w.heap.size w w') : PickIs w' v pk := fun W hB => h W (hb.trans (hB.mono hb.size))
/-- an int of Go -/
def In64 (z : List Int) : Prop := ∀ i ∈ z, -9223372036854775808 ≤ i ∧ i ≤ 9223372036854775807
theorem In64.nats {s : List Nat} (h : ∀ x ∈ s, x < 1000000) : In64 (s.map (fun i => ((i : Nat) : Int))) := by
  intro i hi
  obtain ⟨k, hk, rfl⟩ := List.mem_map.1 hi
  have := h k hk
  omega
theorem In64.set {z : List Int} (h : In64 z) (k : Nat) (x : Int) (hx : -9223372036854775808 ≤ x ∧ x ≤ 9223372036854775807) : In64 (z.set k x) := by
  intro i hi
  rcases List.mem_or_eq_of_mem_set hi with h1 | h1
  · exact h i h1
  · rw [h1]; exact hx
theorem usL_small {c : Cat} {s : List Nat} (hr : c.rules.length ≤ 22) (h : ∀ x ∈ s, x ∈ usL c) : ∀ x ∈ s, x < 1000000 := fun x hx => by
  have := List.mem_range.1 (List.mem_filter.1 (h x hx)).1
  omega
theorem three_at {P : Nat → Value → Prop} {v0 v1 v2 : Value} (h0 : P 0 v0) (h1 : P 1 v1) (h2 : P 2 v2) : ∀ k, k < 3 → ∃ v, [v0, v1, v2][k]? = some v ∧ P k v := by
  intro k hk
  match k, hk with
  | 0, _ => exact ⟨v0, rfl, h0⟩
  | 1, _ => exact ⟨v1, rfl, h1⟩
  | 2, _ => exact ⟨v2, rfl, h2⟩

set_option maxRecDepth 100000 in
set_option maxHeartbeats 8000000 in
theorem gainNet_any (v1 : Value) (zs : List Int) (n1 : Nat) (v2 : Value) (ys : List Int) (n2 : Nat) (a0 n0 : Int) (bal : Bool) (w : World) (h1 : IntsAt w v1 zs n1) (h2 : IntsAt w v2 ys n2) (ha1 : -9223372036854775808 ≤ a0) (ha2 : a0 ≤ 9223372036854775807) (hn1 : -9223372036854775808 ≤ n0) (hn2 : n0 ≤ 9223372036854775807) (hK : Kinds w) :
    Calls Tryz.prog 3 #[v1, v2, .int .i64 a0, .int .i64 n0, .bool bal] w fun e w' => e = .returned (.bool true) ∧ Below w.heap.size w w' := by
  have HI := Lib.hid h1
  have HV := Lib.hid (pickIs_of h2)
  have HP := Lib.hid (picks_of ys n2)
  have HK := Lib.hid hK
  have HB := Lib.hid (Below.refl w.heap.size w)
  have HAR := Lib.hid (fun (m : Nat) W (h1 : 1 ≤ (m : Int)) (h2 : (m : Int) ≤ 9223372036854775807) => around_any a0 m W ha1 ha2 h1 h2)
  obtain ⟨pk, hpk⟩ : ∃ pk, pkOf ys n2 = pk := ⟨_, rfl⟩
  rw [hpk] at HV HP
  clear h1 h2 hK hpk ha1 ha2
  go_enter Tryz.func3, Tryz.ntmps3
  go_wp2_with fail
  refine (catalog_any _ zs n1 bal _ (HI.out.below (Nat.le_refl _) HB.out)).mono ?_
  rintro e w1 ⟨⟨vi, vr, rfl, hc⟩, hB⟩
  obtain ⟨c, hcc⟩ : ∃ c, genCat (pkOf zs n1) bal = c := ⟨_, rfl⟩
  have hf := genCat_fine (bal := bal) (picks_of zs n1)
  have hr6 := genCat_rules (bal := bal) (picks_of zs n1)
  have hi5 := genCat_items (bal := bal) (picks_of zs n1)
  have hg5 := (genN_le (picks_of zs n1)).2
  rw [← hi5] at hg5
  rw [hcc] at hc hf hr6 hg5
  have HF := Lib.hid hf
  replace HB := Lib.hid (HB.out.trans (hB.mono HB.out.size))
  obtain ⟨ai, ci, rfl, hi1, hi2⟩ := hc.items.form
  obtain ⟨ar, cr, rfl, hr1, hr2⟩ := hc.rules.form
  have HC := Lib.hid hc
  have hl1 := hf.good.some_
  clear hcc hf hc hB hi5
  unfold catV
  go_wp2_with fail
  obtain ⟨w2, hw⟩ : ∃ w2, w1.alloc (.cells #[.slice ai c.items.length ci, .slice ar c.rules.length cr, .slice none 0 0, .slice none 0 0] 28) = w2 := ⟨_, rfl⟩
  have hB : Below w1.heap.size w1 w2 := by rw [← hw]; exact (Below.refl _ _).alloc (Nat.le_refl _) _
  have HX : Hid (BoxC w2 w1.heap.size (.slice ai c.items.length ci) (.slice ar c.rules.length cr)) := Lib.hid (by rw [← hw]; exact BoxC.new _ _ _)
  replace HB := Lib.hid (HB.out.trans (hB.mono HB.out.size))
  replace HC := Lib.hid (HC.out.below hB)
  rw [hw]
  clear hB hw
  have m0 := HX.out.c0
  have m1 := HX.out.c1
  have m2 := HX.out.c2
  have m3 := HX.out.c3
  have mlt := HX.out.lt
  refine (sequence_any _ _ _ c pk 20 _ HC.out (by omega) HP.out (HV.out.below HB.out) (by omega)).mono ?_
  rintro e w3 ⟨⟨vs, s, rfl, hs, hs20, hsu⟩, hB⟩
  obtain ⟨sa, sc, rfl, hs1, hs2⟩ := hs.form
  have HS := Lib.hid hs
  have HSM := Lib.hid (usL_small HF.out.good.rules hsu)
  replace HB := Lib.hid (HB.out.trans (hB.mono HB.out.size))
  replace HX := Lib.hid (HX.out.below hB)
  replace HC := Lib.hid (HC.out.below hB)
  clear m0 m1 m2 m3 mlt
  have m0 := HX.out.c0
  have m1 := HX.out.c1
  have m2 := HX.out.c2
  have m3 := HX.out.c3
  have mlt := HX.out.lt
  clear hs hB hsu HV HP
  have hB : Below w3.heap.size w3 (w3.alloc (.cells #[.int .i64 0] 3)) := (Below.refl _ _).alloc (Nat.le_refl _) _
  have HO : Hid ((w3.alloc (.cells #[.int .i64 0] 3)).ownsRow w3.heap.size 3 1 (.slice (some ⟨w3.heap.size, 0, none⟩) 1 1) 1 [.int .i64 0]) := Lib.hid (own_full w3 3 [.int .i64 0] (by simp))
  have HI4 := Lib.hid (HS.out.ints.below hB)
  have HBA := Lib.hid hB
  clear hB m0 m1 m2 m3
  go_wp2_with (at_builtin; refine wpList_appI (W0 := w3) (B := w3.heap.size) elemInt rfl _ _ rfl (.slice (some ⟨w3.heap.size, 0, none⟩) 1 1) (.slice sa s.length sc) 1 [.int .i64 0] (s.map (fun i => ((i : Nat) : Int))) rfl rfl HI4.out HO.out HBA.out HBA.out.size (by simp; omega) (by omega) ?_)
  intro v5 w5 HO5 HB5 HO5b
  obtain ⟨zx, hzx⟩ : ∃ zx : List Int, (0 : Int) :: s.map (fun i => ((i : Nat) : Int)) = zx := ⟨_, rfl⟩
  have hxl : zx.length = 1 + s.length := by rw [← hzx]; simp; omega
  have HI64 : Hid (In64 zx) := Lib.hid (by
    rw [← hzx]
    intro i hi
    rcases List.mem_cons.1 hi with rfl | hi
    · omega
    · exact In64.nats HSM.out i hi)
  obtain ⟨xg, xc, rfl, hxb, hx1, hx2, tl, hxt⟩ := own_ints (l := zx) (by rw [← hzx]; simpa [zv] using HO5.out) hxl.symm (by omega)
  have HXT := Lib.hid hxt
  have hx20 : zx.length ≤ 21 := by omega
  have hx01 : 1 ≤ zx.length := by omega
  have har := around_range a0 zx.length (by omega)
  have hcall := HAR.out zx.length w5 (by omega) (by omega)
  obtain ⟨kx, hkx⟩ : ∃ k : Nat, around a0 zx.length = (k : Int) := ⟨(around a0 zx.length).toNat, by omega⟩
  rw [hkx] at har hcall
  have HCALL := Lib.hid hcall
  have HZX := Lib.hid hzx
  have i1 : (0 : Int) ≤ (kx : Int) := by omega
  have i2 : (kx : Int) < (zx.length : Int) := by omega
  have hkx' : kx < zx.length := by omega
  have z0 := hxt.cell kx
  rw [List.getElem?_append_left (by simpa using hkx'), List.getElem?_map, List.getElem?_eq_getElem hkx', Option.map_some] at z0
  have zf := hxt.frozen kx
  clear HI4 HO HBA HO5 HO5b hxt hzx hxl hcall hkx
  go_wp2_with fail
  refine HCALL.out.mono ?_
  rintro e w' ⟨rfl, rfl⟩
  go_wp2_with fail
  obtain ⟨w6, hw⟩ : ∃ W, w5.setCell ⟨xg, kx, none⟩ (.int .i64 n0) = W := ⟨_, rfl⟩
  have hO6 : Only (fun b => b = xg) w5 w6 := by rw [← hw]; exact only_set _ _ _ _
  have hB : Below w3.heap.size w3 w6 := hO6.below HB5.out HB5.out.size (fun k hk => by omega)
  obtain ⟨zy, hzy⟩ : ∃ zy, zx.set kx n0 = zy := ⟨_, rfl⟩
  have hyl : zy.length = zx.length := by rw [← hzy]; simp
  have HXI : Hid (IntsOf w6 (.slice (some ⟨xg, 0, none⟩) zx.length xc) zy) := Lib.hid (by
    have h9 := HXT.out.set kx (.int .i64 n0)
    rw [pre_set' _ _ _ _ hkx', hzy, hw] at h9
    have h8 := ints_of_pre' (cap := xc) h9 (by omega) hx2
    rwa [hyl] at h8)
  have HY64 : Hid (In64 zy) := Lib.hid (by rw [← hzy]; exact HI64.out.set kx n0 ⟨hn1, hn2⟩)
  have HYL := Lib.hid hyl
  have HZ64 : Hid (In64 (s.map (fun i => ((i : Nat) : Int)))) := Lib.hid (In64.nats HSM.out)
  have HSI := Lib.hid (HS.out.below hB).ints
  replace HB := Lib.hid (HB.out.trans (hB.mono HB.out.size))
  replace HX := Lib.hid (HX.out.below hB)
  replace HC := Lib.hid (HC.out.below hB)
  rw [hw]
  have hwz : w3.heap.size ≤ w6.heap.size := hB.size
  clear hzy hyl hO6 hB HB5 HS HI64 HZX HXT HCALL z0 zf i1 i2 hkx' har hw HSM
  have har := around_range a0 10 (by omega)
  have hcall := HAR.out 10 w6 (by omega) (by omega)
  obtain ⟨kl, hkl⟩ : ∃ k : Nat, around a0 10 = (k : Int) := ⟨(around a0 10).toNat, by omega⟩
  rw [show ((10 : Nat) : Int) = 10 from rfl, hkl] at hcall
  rw [hkl] at har
  have HCALL := Lib.hid hcall
  clear hcall hkl HAR
  refine HCALL.out.mono ?_
  rintro e w' ⟨rfl, rfl⟩
  have hw0 : IntKind.i64.wrap (60 + (kl : Int)) = ((60 + kl : Nat) : Int) := by rw [IntWalk.i64_in _ (by omega)]; omega
  have hmk := run_makeZ (60 + kl) (by omega)
  obtain ⟨nl, hnl⟩ : ∃ nl, 60 + kl = nl := ⟨_, rfl⟩
  rw [hnl] at hw0 hmk
  have hnl2 : nl ≤ 69 := by omega
  have hwi : (60 : Int) + (kl : Int) = (nl : Int) := by omega
  clear hnl HCALL har
  go_wp2_with fail
  clear hmk hw0 hwi
  obtain ⟨wa, hwa⟩ : ∃ W, w6.alloc (.cells (bagL nl (fun _ => 0)).toArray 3) = W := ⟨_, rfl⟩
  have hBa : Below w6.heap.size w6 wa := by rw [← hwa]; exact (Below.refl _ _).alloc (Nat.le_refl _) _
  have hsa : wa.heap.size = w6.heap.size + 1 := by rw [← hwa]; simp
  have HLI : Hid (IntsOf wa (.slice (some ⟨w6.heap.size, 0, none⟩) nl nl) ((List.range nl).map (fun _ => 0))) := Lib.hid (by rw [← hwa]; exact ints_of_bag (BlkC.new _ _ _) (by omega))
  obtain ⟨gl, hgl⟩ : ∃ g, w6.heap.size = g := ⟨_, rfl⟩
  rw [hgl] at HLI
  obtain ⟨wl, hwl⟩ : ∃ W, wa.alloc (.cells #[.slice sa s.length sc, .slice (some ⟨xg, 0, none⟩) zx.length xc, .slice (some ⟨gl, 0, none⟩) nl nl] 22) = W := ⟨_, rfl⟩
  have hBl : Below wa.heap.size wa wl := by rw [← hwl]; exact (Below.refl _ _).alloc (Nat.le_refl _) _
  have HAl : Hid (BlkC wl (gl + 1) 22 [.slice sa s.length sc, .slice (some ⟨xg, 0, none⟩) zx.length xc, .slice (some ⟨gl, 0, none⟩) nl nl]) := Lib.hid (by
    have h9 := BlkC.new wa 22 [.slice sa s.length sc, .slice (some ⟨xg, 0, none⟩) zx.length xc, .slice (some ⟨gl, 0, none⟩) nl nl]
    rw [hwl, hsa, hgl] at h9
    exact h9)
  have hB : Below w6.heap.size w6 wl := hBa.trans (hBl.mono hBa.size)
  obtain ⟨g, hg⟩ : ∃ g, gl + 1 = g := ⟨_, rfl⟩
  rw [hg] at HAl
  have hll : ((List.range nl).map (fun _ => (0 : Int))).length = nl := by simp
  have H3A : Hid (∀ k, k < 3 → ∃ v, [Value.slice sa s.length sc, .slice (some ⟨xg, 0, none⟩) zx.length xc, .slice (some ⟨gl, 0, none⟩) nl nl][k]? = some v ∧ ∃ z, IntsOf wl v z ∧ In64 z) := Lib.hid (three_at (P := fun _ v => ∃ z, IntsOf wl v z ∧ In64 z) ⟨_, HSI.out.below hB, HZ64.out⟩ ⟨_, HXI.out.below hB, HY64.out⟩ ⟨_, HLI.out.below hBl, fun i hi => by
    obtain ⟨_, _, rfl⟩ := List.mem_map.1 hi
    omega⟩)
  replace HB := Lib.hid (HB.out.trans (hB.mono HB.out.size))
  replace HX := Lib.hid (HX.out.below hB)
  replace HC := Lib.hid (HC.out.below hB)
  replace HSI := Lib.hid (HSI.out.below hB)
  rw [hwa, hgl, hwl, hg]
  clear hwa hwl hsa hBa hBl hll HLI HXI HY64 HZ64 HYL hB hgl hg
  go_loopw [16] (fun i wr => ∃ k : Nat, k ≤ 3 ∧ i = .int .i64 k ∧ Hid (Below wl.heap.size wl wr)) (fun i _ => 3 - (intOf i).toNat)
  case atStart => exact ⟨0, by omega, rfl, Lib.hid (Below.refl _ _)⟩
  case round =>
    obtain ⟨k, hk, rfl, HBl⟩ := hrel
    have hBl := HBl.out
    replace HB := Lib.hid (HB.out.trans (hBl.mono HB.out.size))
    replace HX := Lib.hid (HX.out.below hBl)
    replace HC := Lib.hid (HC.out.below hBl)
    replace HAl := Lib.hid (HAl.out.below hBl HAl.out.lt)
    by_cases hlt : k < 3
    · obtain ⟨v, hvk, z, hz, hz64⟩ := H3A.out k hlt
      obtain ⟨za, zc, rfl, -, -⟩ := hz.form
      have HZ := Lib.hid (hz.below hBl)
      have HR := Lib.hid hz64
      have HVK := Lib.hid hvk
      obtain ⟨er, her⟩ : ∃ er, checkE c z = er := ⟨_, rfl⟩
      have HER := Lib.hid her
      have q0 : (er != er) = false := by simp
      have q1 : decide ((k : Int) < 3) = true := decide_eq_true (by omega)
      have i1 : (0 : Int) ≤ (k : Int) := by omega
      have i2 : (k : Int) < 3 := by omega
      clear hz hvk hBl hz64 her
      go_wp2_with fail
      clear q1
      obtain ⟨wn1, hwd⟩ : ∃ X, wr.drew = X := ⟨_, rfl⟩
      have hB : Below wr.heap.size wr wn1 := by rw [← hwd]; exact (Below.refl _ _).drew
      replace HB := Lib.hid (HB.out.trans (hB.mono HB.out.size))
      replace HBl := Lib.hid (HBl.out.trans (hB.mono HBl.out.size))
      replace HX := Lib.hid (HX.out.below hB)
      replace HC := Lib.hid (HC.out.below hB)
      replace HAl := Lib.hid (HAl.out.below hB HAl.out.lt)
      replace HZ := Lib.hid (HZ.out.below hB)
      try replace HNa := Lib.hid (HNa.out.below hB)
      try replace HNb := Lib.hid (HNb.out.below hB)
      try replace HNd := Lib.hid (HNd.out.below hB)
      have x0 := HAl.out.cell k
      rw [HVK.out] at x0
      refine startK 99 (fun X => X.cell? ⟨w1.heap.size, 0, none⟩ = some (.slice ai c.items.length ci) ∧ X.cell? ⟨w1.heap.size, 1, none⟩ = some (.slice ar c.rules.length cr) ∧ X.cell? ⟨w1.heap.size, 2, none⟩ = some (.slice none 0 0) ∧ X.cell? ⟨w1.heap.size, 3, none⟩ = some (.slice none 0 0) ∧ X.cell? ⟨g, k, none⟩ = some (.slice za z.length zc)) (by kernel_rfl) (by rw [hwd]; exact ⟨HX.out.c0, HX.out.c1, HX.out.c2, HX.out.c3, x0⟩) (fun hHeld => ?_)
      rw [hwd] at hHeld ⊢
      clear hwd hB x0
      refine takeK 0 58 (v := ?_) rfl rfl (by kernel_rfl) (by kernel_rfl) (by kernel_rfl) (by kernel_rfl) (fun _ _ _ h => h) (by rfl) ?_ (by assumption) ?_
      rotate_left
      · (intro w hSw; go_simp; first | done | with_reducible rfl)
      simp only [List.setIfInBounds_toArray, List.set_cons_zero, List.set_cons_succ]
      refine takeK 1 59 (v := ?_) rfl rfl (by kernel_rfl) (by kernel_rfl) (by kernel_rfl) (by kernel_rfl) (fun _ _ _ h => h) (by rfl) ?_ (by assumption) ?_
      rotate_left
      · (intro w hSw; go_simp; first | done | with_reducible rfl)
      simp only [List.setIfInBounds_toArray, List.set_cons_zero, List.set_cons_succ]
      refine takeK 2 60 (v := ?_) rfl rfl (by kernel_rfl) (by kernel_rfl) (by kernel_rfl) (by kernel_rfl) (fun _ _ _ h => h) (by rfl) ?_ (by assumption) ?_
      rotate_left
      · (intro w hSw; go_simp; first | done | with_reducible rfl)
      simp only [List.setIfInBounds_toArray, List.set_cons_zero, List.set_cons_succ]
      refine takeK 3 61 (v := ?_) rfl rfl (by kernel_rfl) (by kernel_rfl) (by kernel_rfl) (by kernel_rfl) (fun _ _ _ h => h) (by rfl) ?_ (by assumption) ?_
      rotate_left
      · (intro w hSw; go_simp; first | done | with_reducible rfl)
      simp only [List.setIfInBounds_toArray, List.set_cons_zero, List.set_cons_succ]
      refine takeK 4 62 (v := ?_) rfl rfl (by kernel_rfl) (by kernel_rfl) (by kernel_rfl) (by kernel_rfl) (fun _ _ _ h => h) (by rfl) ?_ (by assumption) ?_
      rotate_left
      · (intro w hSw; go_simp; first | done | with_reducible rfl)
      simp only [List.setIfInBounds_toArray, List.set_cons_zero, List.set_cons_succ]
      refine stepK 5 (by kernel_rfl) rfl (fun K hK => ?_)
      go_simp
      refine (net_both _ _ _ c z wn1 HC.out HF.out HZ.out HR.out (HK.out.keep HB.out)).mono ?_
      rintro e wn2 ⟨⟨va, rfl, hv⟩, hB⟩
      rw [HER.out]
      obtain ⟨aa, ca, rfl, -, -⟩ := hv.form
      have HNa := Lib.hid hv
      clear hHeld hv
      replace HB := Lib.hid (HB.out.trans (hB.mono HB.out.size))
      replace HBl := Lib.hid (HBl.out.trans (hB.mono HBl.out.size))
      replace HX := Lib.hid (HX.out.below hB)
      replace HC := Lib.hid (HC.out.below hB)
      replace HAl := Lib.hid (HAl.out.below hB HAl.out.lt)
      replace HZ := Lib.hid (HZ.out.below hB)
      try replace HNa := Lib.hid (HNa.out.below hB)
      try replace HNb := Lib.hid (HNb.out.below hB)
      try replace HNd := Lib.hid (HNd.out.below hB)
      have x0 := HAl.out.cell k
      rw [HVK.out] at x0
      go_wp2_with fail
      refine hK.out _ _ (⟨HX.out.c0, HX.out.c1, HX.out.c2, HX.out.c3, x0⟩) (fun hHeld => ?_)
      clear hK K
      try simp only [Act.put, List.setIfInBounds_toArray, List.set_cons_zero, List.set_cons_succ]
      clear x0
      refine takeK 6 57 (v := ?_) rfl rfl (by kernel_rfl) (by kernel_rfl) (by kernel_rfl) (by kernel_rfl) (fun _ _ _ h => h) (by rfl) ?_ (by assumption) ?_
      rotate_left
      · (intro w hSw; go_simp; first | done | with_reducible rfl)
      simp only [List.setIfInBounds_toArray, List.set_cons_zero, List.set_cons_succ]
      refine takeK 7 64 (v := ?_) rfl rfl (by kernel_rfl) (by kernel_rfl) (by kernel_rfl) (by kernel_rfl) (fun _ _ _ h => h) (by rfl) ?_ (by assumption) ?_
      rotate_left
      · (intro w hSw; go_simp; first | done | with_reducible rfl)
      simp only [List.setIfInBounds_toArray, List.set_cons_zero, List.set_cons_succ]
      refine takeK 8 65 (v := ?_) rfl rfl (by kernel_rfl) (by kernel_rfl) (by kernel_rfl) (by kernel_rfl) (fun _ _ _ h => h) (by rfl) ?_ (by assumption) ?_
      rotate_left
      · (intro w hSw; go_simp; first | done | with_reducible rfl)
      simp only [List.setIfInBounds_toArray, List.set_cons_zero, List.set_cons_succ]
      refine takeK 9 17 (v := ?_) rfl rfl (by kernel_rfl) (by kernel_rfl) (by kernel_rfl) (by kernel_rfl) (fun _ _ _ h => h) (by rfl) ?_ (by assumption) ?_
      rotate_left
      · (intro w hSw; go_simp; first | done | with_reducible rfl)
      simp only [List.setIfInBounds_toArray, List.set_cons_zero, List.set_cons_succ]
      refine takeK 10 18 (v := ?_) rfl rfl (by kernel_rfl) (by kernel_rfl) (by kernel_rfl) (by kernel_rfl) (fun _ _ _ h => h) (by rfl) ?_ (by assumption) ?_
      rotate_left
      · (intro w hSw; go_simp; first | done | with_reducible rfl)
      simp only [List.setIfInBounds_toArray, List.set_cons_zero, List.set_cons_succ]
      refine doneK (by kernel_rfl) ?_ _
      clear hHeld
      go_wp2_with fail
      obtain ⟨wn3, hwd⟩ : ∃ X, wn2.drew = X := ⟨_, rfl⟩
      have hB : Below wn2.heap.size wn2 wn3 := by rw [← hwd]; exact (Below.refl _ _).drew
      replace HB := Lib.hid (HB.out.trans (hB.mono HB.out.size))
      replace HBl := Lib.hid (HBl.out.trans (hB.mono HBl.out.size))
      replace HX := Lib.hid (HX.out.below hB)
      replace HC := Lib.hid (HC.out.below hB)
      replace HAl := Lib.hid (HAl.out.below hB HAl.out.lt)
      replace HZ := Lib.hid (HZ.out.below hB)
      try replace HNa := Lib.hid (HNa.out.below hB)
      try replace HNb := Lib.hid (HNb.out.below hB)
      try replace HNd := Lib.hid (HNd.out.below hB)
      have x0 := HAl.out.cell k
      rw [HVK.out] at x0
      refine startK 99 (fun X => X.cell? ⟨w1.heap.size, 0, none⟩ = some (.slice ai c.items.length ci) ∧ X.cell? ⟨w1.heap.size, 1, none⟩ = some (.slice ar c.rules.length cr) ∧ X.cell? ⟨w1.heap.size, 2, none⟩ = some (.slice none 0 0) ∧ X.cell? ⟨w1.heap.size, 3, none⟩ = some (.slice none 0 0) ∧ X.cell? ⟨g, k, none⟩ = some (.slice za z.length zc)) (by kernel_rfl) (by rw [hwd]; exact ⟨HX.out.c0, HX.out.c1, HX.out.c2, HX.out.c3, x0⟩) (fun hHeld => ?_)
      rw [hwd] at hHeld ⊢
      clear hwd hB x0
      refine takeK 0 67 (v := ?_) rfl rfl (by kernel_rfl) (by kernel_rfl) (by kernel_rfl) (by kernel_rfl) (fun _ _ _ h => h) (by rfl) ?_ (by assumption) ?_
      rotate_left
      · (intro w hSw; go_simp; first | done | with_reducible rfl)
      simp only [List.setIfInBounds_toArray, List.set_cons_zero, List.set_cons_succ]
      refine takeK 1 68 (v := ?_) rfl rfl (by kernel_rfl) (by kernel_rfl) (by kernel_rfl) (by kernel_rfl) (fun _ _ _ h => h) (by rfl) ?_ (by assumption) ?_
      rotate_left
      · (intro w hSw; go_simp; first | done | with_reducible rfl)
      simp only [List.setIfInBounds_toArray, List.set_cons_zero, List.set_cons_succ]
      refine takeK 2 69 (v := ?_) rfl rfl (by kernel_rfl) (by kernel_rfl) (by kernel_rfl) (by kernel_rfl) (fun _ _ _ h => h) (by rfl) ?_ (by assumption) ?_
      rotate_left
      · (intro w hSw; go_simp; first | done | with_reducible rfl)
      simp only [List.setIfInBounds_toArray, List.set_cons_zero, List.set_cons_succ]
      refine takeK 3 70 (v := ?_) rfl rfl (by kernel_rfl) (by kernel_rfl) (by kernel_rfl) (by kernel_rfl) (fun _ _ _ h => h) (by rfl) ?_ (by assumption) ?_
      rotate_left
      · (intro w hSw; go_simp; first | done | with_reducible rfl)
      simp only [List.setIfInBounds_toArray, List.set_cons_zero, List.set_cons_succ]
      refine takeK 4 71 (v := ?_) rfl rfl (by kernel_rfl) (by kernel_rfl) (by kernel_rfl) (by kernel_rfl) (fun _ _ _ h => h) (by rfl) ?_ (by assumption) ?_
      rotate_left
      · (intro w hSw; go_simp; first | done | with_reducible rfl)
      simp only [List.setIfInBounds_toArray, List.set_cons_zero, List.set_cons_succ]
      refine stepK 5 (by kernel_rfl) rfl (fun K hK => ?_)
      go_simp
      refine (rnet_both _ _ _ c z wn3 HC.out HF.out HZ.out HR.out (HK.out.keep HB.out)).mono ?_
      rintro e wn4 ⟨⟨vb, rfl, hv⟩, hB⟩
      rw [HER.out]
      obtain ⟨ab, cb, rfl, -, -⟩ := hv.form
      have HNb := Lib.hid hv
      clear hHeld hv
      replace HB := Lib.hid (HB.out.trans (hB.mono HB.out.size))
      replace HBl := Lib.hid (HBl.out.trans (hB.mono HBl.out.size))
      replace HX := Lib.hid (HX.out.below hB)
      replace HC := Lib.hid (HC.out.below hB)
      replace HAl := Lib.hid (HAl.out.below hB HAl.out.lt)
      replace HZ := Lib.hid (HZ.out.below hB)
      try replace HNa := Lib.hid (HNa.out.below hB)
      try replace HNb := Lib.hid (HNb.out.below hB)
      try replace HNd := Lib.hid (HNd.out.below hB)
      have x0 := HAl.out.cell k
      rw [HVK.out] at x0
      go_wp2_with fail
      refine hK.out _ _ (⟨HX.out.c0, HX.out.c1, HX.out.c2, HX.out.c3, x0⟩) (fun hHeld => ?_)
      clear hK K
      try simp only [Act.put, List.setIfInBounds_toArray, List.set_cons_zero, List.set_cons_succ]
      clear x0
      refine takeK 6 66 (v := ?_) rfl rfl (by kernel_rfl) (by kernel_rfl) (by kernel_rfl) (by kernel_rfl) (fun _ _ _ h => h) (by rfl) ?_ (by assumption) ?_
      rotate_left
      · (intro w hSw; go_simp; first | done | with_reducible rfl)
      simp only [List.setIfInBounds_toArray, List.set_cons_zero, List.set_cons_succ]
      refine takeK 7 73 (v := ?_) rfl rfl (by kernel_rfl) (by kernel_rfl) (by kernel_rfl) (by kernel_rfl) (fun _ _ _ h => h) (by rfl) ?_ (by assumption) ?_
      rotate_left
      · (intro w hSw; go_simp; first | done | with_reducible rfl)
      simp only [List.setIfInBounds_toArray, List.set_cons_zero, List.set_cons_succ]
      refine takeK 8 74 (v := ?_) rfl rfl (by kernel_rfl) (by kernel_rfl) (by kernel_rfl) (by kernel_rfl) (fun _ _ _ h => h) (by rfl) ?_ (by assumption) ?_
      rotate_left
      · (intro w hSw; go_simp; first | done | with_reducible rfl)
      simp only [List.setIfInBounds_toArray, List.set_cons_zero, List.set_cons_succ]
      refine takeK 9 19 (v := ?_) rfl rfl (by kernel_rfl) (by kernel_rfl) (by kernel_rfl) (by kernel_rfl) (fun _ _ _ h => h) (by rfl) ?_ (by assumption) ?_
      rotate_left
      · (intro w hSw; go_simp; first | done | with_reducible rfl)
      simp only [List.setIfInBounds_toArray, List.set_cons_zero, List.set_cons_succ]
      refine takeK 10 20 (v := ?_) rfl rfl (by kernel_rfl) (by kernel_rfl) (by kernel_rfl) (by kernel_rfl) (fun _ _ _ h => h) (by rfl) ?_ (by assumption) ?_
      rotate_left
      · (intro w hSw; go_simp; first | done | with_reducible rfl)
      simp only [List.setIfInBounds_toArray, List.set_cons_zero, List.set_cons_succ]
      refine doneK (by kernel_rfl) ?_ _
      clear hHeld
      go_wp2_with fail
      obtain ⟨wn5, hwd⟩ : ∃ X, wn4.drew = X := ⟨_, rfl⟩
      have hB : Below wn4.heap.size wn4 wn5 := by rw [← hwd]; exact (Below.refl _ _).drew
      replace HB := Lib.hid (HB.out.trans (hB.mono HB.out.size))
      replace HBl := Lib.hid (HBl.out.trans (hB.mono HBl.out.size))
      replace HX := Lib.hid (HX.out.below hB)
      replace HC := Lib.hid (HC.out.below hB)
      replace HAl := Lib.hid (HAl.out.below hB HAl.out.lt)
      replace HZ := Lib.hid (HZ.out.below hB)
      try replace HNa := Lib.hid (HNa.out.below hB)
      try replace HNb := Lib.hid (HNb.out.below hB)
      try replace HNd := Lib.hid (HNd.out.below hB)
      have x0 := HAl.out.cell k
      rw [HVK.out] at x0
      refine startK 99 (fun X => X.cell? ⟨w1.heap.size, 0, none⟩ = some (.slice ai c.items.length ci) ∧ X.cell? ⟨w1.heap.size, 1, none⟩ = some (.slice ar c.rules.length cr) ∧ X.cell? ⟨w1.heap.size, 2, none⟩ = some (.slice none 0 0) ∧ X.cell? ⟨w1.heap.size, 3, none⟩ = some (.slice none 0 0) ∧ X.cell? ⟨g, k, none⟩ = some (.slice za z.length zc)) (by kernel_rfl) (by rw [hwd]; exact ⟨HX.out.c0, HX.out.c1, HX.out.c2, HX.out.c3, x0⟩) (fun hHeld => ?_)
      rw [hwd] at hHeld ⊢
      clear hwd hB x0
      refine takeK 0 76 (v := ?_) rfl rfl (by kernel_rfl) (by kernel_rfl) (by kernel_rfl) (by kernel_rfl) (fun _ _ _ h => h) (by rfl) ?_ (by assumption) ?_
      rotate_left
      · (intro w hSw; go_simp; first | done | with_reducible rfl)
      simp only [List.setIfInBounds_toArray, List.set_cons_zero, List.set_cons_succ]
      refine takeK 1 77 (v := ?_) rfl rfl (by kernel_rfl) (by kernel_rfl) (by kernel_rfl) (by kernel_rfl) (fun _ _ _ h => h) (by rfl) ?_ (by assumption) ?_
      rotate_left
      · (intro w hSw; go_simp; first | done | with_reducible rfl)
      simp only [List.setIfInBounds_toArray, List.set_cons_zero, List.set_cons_succ]
      refine takeK 2 78 (v := ?_) rfl rfl (by kernel_rfl) (by kernel_rfl) (by kernel_rfl) (by kernel_rfl) (fun _ _ _ h => h) (by rfl) ?_ (by assumption) ?_
      rotate_left
      · (intro w hSw; go_simp; first | done | with_reducible rfl)
      simp only [List.setIfInBounds_toArray, List.set_cons_zero, List.set_cons_succ]
      refine takeK 3 79 (v := ?_) rfl rfl (by kernel_rfl) (by kernel_rfl) (by kernel_rfl) (by kernel_rfl) (fun _ _ _ h => h) (by rfl) ?_ (by assumption) ?_
      rotate_left
      · (intro w hSw; go_simp; first | done | with_reducible rfl)
      simp only [List.setIfInBounds_toArray, List.set_cons_zero, List.set_cons_succ]
      refine takeK 4 80 (v := ?_) rfl rfl (by kernel_rfl) (by kernel_rfl) (by kernel_rfl) (by kernel_rfl) (fun _ _ _ h => h) (by rfl) ?_ (by assumption) ?_
      rotate_left
      · (intro w hSw; go_simp; first | done | with_reducible rfl)
      simp only [List.setIfInBounds_toArray, List.set_cons_zero, List.set_cons_succ]
      refine stepK 5 (by kernel_rfl) rfl (fun K hK => ?_)
      go_simp
      refine (need_both _ _ _ c z wn5 HC.out HF.out HZ.out HR.out (HK.out.keep HB.out)).mono ?_
      rintro e wn6 ⟨⟨vd, rfl, hv⟩, hB⟩
      rw [HER.out]
      obtain ⟨ad, cd, rfl, -, -⟩ := hv.form
      have HNd := Lib.hid hv
      clear hHeld hv
      replace HB := Lib.hid (HB.out.trans (hB.mono HB.out.size))
      replace HBl := Lib.hid (HBl.out.trans (hB.mono HBl.out.size))
      replace HX := Lib.hid (HX.out.below hB)
      replace HC := Lib.hid (HC.out.below hB)
      replace HAl := Lib.hid (HAl.out.below hB HAl.out.lt)
      replace HZ := Lib.hid (HZ.out.below hB)
      try replace HNa := Lib.hid (HNa.out.below hB)
      try replace HNb := Lib.hid (HNb.out.below hB)
      try replace HNd := Lib.hid (HNd.out.below hB)
      have x0 := HAl.out.cell k
      rw [HVK.out] at x0
      go_wp2_with fail
      refine hK.out _ _ (⟨HX.out.c0, HX.out.c1, HX.out.c2, HX.out.c3, x0⟩) (fun hHeld => ?_)
      clear hK K
      try simp only [Act.put, List.setIfInBounds_toArray, List.set_cons_zero, List.set_cons_succ]
      clear x0
      refine takeK 6 75 (v := ?_) rfl rfl (by kernel_rfl) (by kernel_rfl) (by kernel_rfl) (by kernel_rfl) (fun _ _ _ h => h) (by rfl) ?_ (by assumption) ?_
      rotate_left
      · (intro w hSw; go_simp; first | done | with_reducible rfl)
      simp only [List.setIfInBounds_toArray, List.set_cons_zero, List.set_cons_succ]
      refine takeK 7 82 (v := ?_) rfl rfl (by kernel_rfl) (by kernel_rfl) (by kernel_rfl) (by kernel_rfl) (fun _ _ _ h => h) (by rfl) ?_ (by assumption) ?_
      rotate_left
      · (intro w hSw; go_simp; first | done | with_reducible rfl)
      simp only [List.setIfInBounds_toArray, List.set_cons_zero, List.set_cons_succ]
      refine takeK 8 83 (v := ?_) rfl rfl (by kernel_rfl) (by kernel_rfl) (by kernel_rfl) (by kernel_rfl) (fun _ _ _ h => h) (by rfl) ?_ (by assumption) ?_
      rotate_left
      · (intro w hSw; go_simp; first | done | with_reducible rfl)
      simp only [List.setIfInBounds_toArray, List.set_cons_zero, List.set_cons_succ]
      refine takeK 9 21 (v := ?_) rfl rfl (by kernel_rfl) (by kernel_rfl) (by kernel_rfl) (by kernel_rfl) (fun _ _ _ h => h) (by rfl) ?_ (by assumption) ?_
      rotate_left
      · (intro w hSw; go_simp; first | done | with_reducible rfl)
      simp only [List.setIfInBounds_toArray, List.set_cons_zero, List.set_cons_succ]
      refine takeK 10 22 (v := ?_) rfl rfl (by kernel_rfl) (by kernel_rfl) (by kernel_rfl) (by kernel_rfl) (fun _ _ _ h => h) (by rfl) ?_ (by assumption) ?_
      rotate_left
      · (intro w hSw; go_simp; first | done | with_reducible rfl)
      simp only [List.setIfInBounds_toArray, List.set_cons_zero, List.set_cons_succ]
      refine doneK (by kernel_rfl) ?_ _
      clear hHeld
      go_wp2_with fail
      obtain ⟨wn7, hwd⟩ : ∃ X, wn6.drew = X := ⟨_, rfl⟩
      have hB : Below wn6.heap.size wn6 wn7 := by rw [← hwd]; exact (Below.refl _ _).drew
      replace HB := Lib.hid (HB.out.trans (hB.mono HB.out.size))
      replace HBl := Lib.hid (HBl.out.trans (hB.mono HBl.out.size))
      replace HX := Lib.hid (HX.out.below hB)
      replace HC := Lib.hid (HC.out.below hB)
      replace HAl := Lib.hid (HAl.out.below hB HAl.out.lt)
      replace HZ := Lib.hid (HZ.out.below hB)
      try replace HNa := Lib.hid (HNa.out.below hB)
      try replace HNb := Lib.hid (HNb.out.below hB)
      try replace HNd := Lib.hid (HNd.out.below hB)
      have x0 := HAl.out.cell k
      rw [HVK.out] at x0
      refine startK 99 (fun X => X.cell? ⟨w1.heap.size, 0, none⟩ = some (.slice ai c.items.length ci) ∧ X.cell? ⟨w1.heap.size, 1, none⟩ = some (.slice ar c.rules.length cr) ∧ X.cell? ⟨w1.heap.size, 2, none⟩ = some (.slice none 0 0) ∧ X.cell? ⟨w1.heap.size, 3, none⟩ = some (.slice none 0 0) ∧ X.cell? ⟨g, k, none⟩ = some (.slice za z.length zc)) (by kernel_rfl) (by rw [hwd]; exact ⟨HX.out.c0, HX.out.c1, HX.out.c2, HX.out.c3, x0⟩) (fun hHeld => ?_)
      rw [hwd] at hHeld ⊢
      clear hwd hB x0
      refine takeK 0 85 (v := ?_) rfl rfl (by kernel_rfl) (by kernel_rfl) (by kernel_rfl) (by kernel_rfl) (fun _ _ _ h => h) (by rfl) ?_ (by assumption) ?_
      rotate_left
      · (intro w hSw; go_simp; first | done | with_reducible rfl)
      simp only [List.setIfInBounds_toArray, List.set_cons_zero, List.set_cons_succ]
      refine takeK 1 86 (v := ?_) rfl rfl (by kernel_rfl) (by kernel_rfl) (by kernel_rfl) (by kernel_rfl) (fun _ _ _ h => h) (by rfl) ?_ (by assumption) ?_
      rotate_left
      · (intro w hSw; go_simp; first | done | with_reducible rfl)
      simp only [List.setIfInBounds_toArray, List.set_cons_zero, List.set_cons_succ]
      refine takeK 2 87 (v := ?_) rfl rfl (by kernel_rfl) (by kernel_rfl) (by kernel_rfl) (by kernel_rfl) (fun _ _ _ h => h) (by rfl) ?_ (by assumption) ?_
      rotate_left
      · (intro w hSw; go_simp; first | done | with_reducible rfl)
      simp only [List.setIfInBounds_toArray, List.set_cons_zero, List.set_cons_succ]
      refine takeK 3 88 (v := ?_) rfl rfl (by kernel_rfl) (by kernel_rfl) (by kernel_rfl) (by kernel_rfl) (fun _ _ _ h => h) (by rfl) ?_ (by assumption) ?_
      rotate_left
      · (intro w hSw; go_simp; first | done | with_reducible rfl)
      simp only [List.setIfInBounds_toArray, List.set_cons_zero, List.set_cons_succ]
      refine takeK 4 89 (v := ?_) rfl rfl (by kernel_rfl) (by kernel_rfl) (by kernel_rfl) (by kernel_rfl) (fun _ _ _ h => h) (by rfl) ?_ (by assumption) ?_
      rotate_left
      · (intro w hSw; go_simp; first | done | with_reducible rfl)
      simp only [List.setIfInBounds_toArray, List.set_cons_zero, List.set_cons_succ]
      refine stepK 5 (by kernel_rfl) rfl (fun K hK => ?_)
      go_simp
      refine (rneed_both _ _ _ c z wn7 HC.out HF.out HZ.out HR.out (HK.out.keep HB.out)).mono ?_
      rintro e wn8 ⟨⟨vh, rfl, hv⟩, hB⟩
      rw [HER.out]
      obtain ⟨ah, ch, rfl, -, -⟩ := hv.form
      have HNh := Lib.hid hv
      clear hHeld hv
      replace HB := Lib.hid (HB.out.trans (hB.mono HB.out.size))
      replace HBl := Lib.hid (HBl.out.trans (hB.mono HBl.out.size))
      replace HX := Lib.hid (HX.out.below hB)
      replace HC := Lib.hid (HC.out.below hB)
      replace HAl := Lib.hid (HAl.out.below hB HAl.out.lt)
      replace HZ := Lib.hid (HZ.out.below hB)
      try replace HNa := Lib.hid (HNa.out.below hB)
      try replace HNb := Lib.hid (HNb.out.below hB)
      try replace HNd := Lib.hid (HNd.out.below hB)
      have x0 := HAl.out.cell k
      rw [HVK.out] at x0
      go_wp2_with fail
      refine hK.out _ _ (⟨HX.out.c0, HX.out.c1, HX.out.c2, HX.out.c3, x0⟩) (fun hHeld => ?_)
      clear hK K
      try simp only [Act.put, List.setIfInBounds_toArray, List.set_cons_zero, List.set_cons_succ]
      clear x0
      refine takeK 6 84 (v := ?_) rfl rfl (by kernel_rfl) (by kernel_rfl) (by kernel_rfl) (by kernel_rfl) (fun _ _ _ h => h) (by rfl) ?_ (by assumption) ?_
      rotate_left
      · (intro w hSw; go_simp; first | done | with_reducible rfl)
      simp only [List.setIfInBounds_toArray, List.set_cons_zero, List.set_cons_succ]
      refine takeK 7 91 (v := ?_) rfl rfl (by kernel_rfl) (by kernel_rfl) (by kernel_rfl) (by kernel_rfl) (fun _ _ _ h => h) (by rfl) ?_ (by assumption) ?_
      rotate_left
      · (intro w hSw; go_simp; first | done | with_reducible rfl)
      simp only [List.setIfInBounds_toArray, List.set_cons_zero, List.set_cons_succ]
      refine takeK 8 92 (v := ?_) rfl rfl (by kernel_rfl) (by kernel_rfl) (by kernel_rfl) (by kernel_rfl) (fun _ _ _ h => h) (by rfl) ?_ (by assumption) ?_
      rotate_left
      · (intro w hSw; go_simp; first | done | with_reducible rfl)
      simp only [List.setIfInBounds_toArray, List.set_cons_zero, List.set_cons_succ]
      refine takeK 9 23 (v := ?_) rfl rfl (by kernel_rfl) (by kernel_rfl) (by kernel_rfl) (by kernel_rfl) (fun _ _ _ h => h) (by rfl) ?_ (by assumption) ?_
      rotate_left
      · (intro w hSw; go_simp; first | done | with_reducible rfl)
      simp only [List.setIfInBounds_toArray, List.set_cons_zero, List.set_cons_succ]
      refine takeK 10 24 (v := ?_) rfl rfl (by kernel_rfl) (by kernel_rfl) (by kernel_rfl) (by kernel_rfl) (fun _ _ _ h => h) (by rfl) ?_ (by assumption) ?_
      rotate_left
      · (intro w hSw; go_simp; first | done | with_reducible rfl)
      simp only [List.setIfInBounds_toArray, List.set_cons_zero, List.set_cons_succ]
      refine doneK (by kernel_rfl) ?_ _
      clear hHeld
      go_wp2_with fail
      refine (sameInts_any _ _ _ _ wn8 HNa.out HNb.out).mono ?_
      simp only [decide_true]
      rintro e wn9 ⟨rfl, hB⟩
      replace HB := Lib.hid (HB.out.trans (hB.mono HB.out.size))
      replace HBl := Lib.hid (HBl.out.trans (hB.mono HBl.out.size))
      replace HX := Lib.hid (HX.out.below hB)
      replace HC := Lib.hid (HC.out.below hB)
      replace HAl := Lib.hid (HAl.out.below hB HAl.out.lt)
      replace HZ := Lib.hid (HZ.out.below hB)
      try replace HNa := Lib.hid (HNa.out.below hB)
      try replace HNb := Lib.hid (HNb.out.below hB)
      try replace HNd := Lib.hid (HNd.out.below hB)
      replace HNh := Lib.hid (HNh.out.below hB)
      clear hB
      go_wp2_with fail
      refine (sameInts_any _ _ _ _ wn9 HNd.out HNh.out).mono ?_
      simp only [decide_true]
      rintro e wn10 ⟨rfl, hB⟩
      replace HBl := Lib.hid (HBl.out.trans (hB.mono HBl.out.size))
      clear hB
      go_wp2_with fail
      go_roundw
      case rel => exact ⟨k + 1, by omega, by go_num, HBl⟩
      case measure => simp [intOf]; omega
    · have hk3 : k = 3 := by omega
      have q1 : decide ((k : Int) < 3) = false := decide_eq_false (by omega)
      have hBl := HBl.out
      replace HSI := Lib.hid (HSI.out.below hBl)
      have HBO := Lib.hid (badC_ok HF.out hg5)
      have m0 := HX.out.c0
      have m1 := HX.out.c1
      have m2 := HX.out.c2
      have m3 := HX.out.c3
      have mlt := HX.out.lt
      clear hBl HBl H3A HAl
      go_wp2_with fail
      clear q1
      refine (bad_any _ _ c wr HC.out hl1 (by omega)).mono ?_
      rintro e wm1 ⟨⟨bi1, rfl, hbc⟩, hB⟩
      have HD := Lib.hid hbc
      replace HB := Lib.hid (HB.out.trans (hB.mono HB.out.size))
      replace HX := Lib.hid (HX.out.below hB)
      replace HC := Lib.hid (HC.out.below hB)
      clear m0 m1 m2 m3 mlt
      have m0 := HX.out.c0
      have m1 := HX.out.c1
      have m2 := HX.out.c2
      have m3 := HX.out.c3
      have mlt := HX.out.lt
      replace HSI := Lib.hid (HSI.out.below hB)
      clear hB hbc
      go_wp2_with fail
      refine (net_bad _ _ _ (badC c) wm1 HD.out HBO.out (HK.out.keep HB.out)).mono ?_
      rintro e wm2 ⟨rfl, hB⟩
      replace HB := Lib.hid (HB.out.trans (hB.mono HB.out.size))
      replace HX := Lib.hid (HX.out.below hB)
      replace HC := Lib.hid (HC.out.below hB)
      clear m0 m1 m2 m3 mlt
      have m0 := HX.out.c0
      have m1 := HX.out.c1
      have m2 := HX.out.c2
      have m3 := HX.out.c3
      have mlt := HX.out.lt
      replace HSI := Lib.hid (HSI.out.below hB)
      clear hB HD
      go_wp2_with fail
      refine (bad_any _ _ c wm2 HC.out hl1 (by omega)).mono ?_
      rintro e wm3 ⟨⟨bi2, rfl, hbc⟩, hB⟩
      have HD := Lib.hid hbc
      replace HB := Lib.hid (HB.out.trans (hB.mono HB.out.size))
      replace HX := Lib.hid (HX.out.below hB)
      replace HC := Lib.hid (HC.out.below hB)
      clear m0 m1 m2 m3 mlt
      have m0 := HX.out.c0
      have m1 := HX.out.c1
      have m2 := HX.out.c2
      have m3 := HX.out.c3
      have mlt := HX.out.lt
      clear hB hbc
      go_wp2_with fail
      refine (need_bad _ _ _ (badC c) wm3 HD.out HBO.out (HK.out.keep HB.out)).mono ?_
      rintro e wm4 ⟨rfl, hB⟩
      replace HB := Lib.hid (HB.out.trans (hB.mono HB.out.size))
      replace HX := Lib.hid (HX.out.below hB)
      replace HC := Lib.hid (HC.out.below hB)
      clear m0 m1 m2 m3 mlt
      have m0 := HX.out.c0
      have m1 := HX.out.c1
      have m2 := HX.out.c2
      have m3 := HX.out.c3
      have mlt := HX.out.lt
      clear hB HD
      go_wp2_with fail
      refine (bad_any _ _ c wm4 HC.out hl1 (by omega)).mono ?_
      rintro e wm5 ⟨⟨bi3, rfl, hbc⟩, hB⟩
      have HD := Lib.hid hbc
      replace HB := Lib.hid (HB.out.trans (hB.mono HB.out.size))
      replace HX := Lib.hid (HX.out.below hB)
      replace HC := Lib.hid (HC.out.below hB)
      clear m0 m1 m2 m3 mlt
      have m0 := HX.out.c0
      have m1 := HX.out.c1
      have m2 := HX.out.c2
      have m3 := HX.out.c3
      have mlt := HX.out.lt
      clear hB hbc
      go_wp2_with fail
      refine (valid_bad _ _ (badC c) wm5 HD.out HBO.out.good HBO.out.named HBO.out.dup (HK.out.keep HB.out)).mono ?_
      rintro e wm6 ⟨rfl, hB⟩
      replace HB := Lib.hid (HB.out.trans (hB.mono HB.out.size))
      replace HX := Lib.hid (HX.out.below hB)
      replace HC := Lib.hid (HC.out.below hB)
      clear m0 m1 m2 m3 mlt
      have m0 := HX.out.c0
      have m1 := HX.out.c1
      have m2 := HX.out.c2
      have m3 := HX.out.c3
      have mlt := HX.out.lt
      clear hB HD
      go_wp2_with fail
      refine (lives_any _ (HK.out.keep HB.out)).mono ?_
      rintro e wm7 ⟨rfl, hB⟩
      replace HB := Lib.hid (HB.out.trans (hB.mono HB.out.size))
      clear hB
      go_wp2_with fail
      go_ret
      exact ⟨rfl, HB.out⟩
end Go.Proofs.YtfpcgjgkbniofaaGreatDoor
