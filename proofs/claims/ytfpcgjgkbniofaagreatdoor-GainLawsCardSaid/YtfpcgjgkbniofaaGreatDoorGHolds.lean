/- laws.Holds. -/
import Derived.Test.YtfpcgjgkbniofaaGreatDoorWCmp
import Derived.Test.YtfpcgjgkbniofaaGreatDoorGPerf
import Derived.Test.YtfpcgjgkbniofaaGreatDoorGRes
import Derived.Test.YtfpcgjgkbniofaaGreatDoorGFindJ
set_option linter.unusedVariables false
set_option linter.unusedSimpArgs false
namespace Go.Proofs.YtfpcgjgkbniofaaGreatDoor
open Go.RowKit
attribute [local go_sem] Oper.semAt_some
open Go.RowKit Go.Shelf

/-- the first k products -/
def sumW (ws ls : List Int) : Nat → Int
  | 0 => 0
  | k + 1 => sumW ws ls k + ws.getD k 0 * ls.getD k 0
def B64 (z : List Int) : Prop := ∀ i ∈ z, -9223372036854775808 ≤ i ∧ i ≤ 9223372036854775807
theorem B64.at_ {z : List Int} (h : B64 z) (k : Nat) (hk : k < z.length) : -9223372036854775808 ≤ z[k] ∧ z[k] ≤ 9223372036854775807 := h _ (List.getElem_mem hk)
theorem prod_le (x y : Int) (hx : -9223372036854775808 ≤ x ∧ x ≤ 9223372036854775807) (hy : -9223372036854775808 ≤ y ∧ y ≤ 9223372036854775807) : (x * y).natAbs ≤ 2 ^ 126 := by
  rw [Int.natAbs_mul]
  have h1 : x.natAbs ≤ 2 ^ 63 := by omega
  have h2 : y.natAbs ≤ 2 ^ 63 := by omega
  exact Nat.le_trans (Nat.mul_le_mul h1 h2) (by decide)
theorem getD_in {z : List Int} (h : B64 z) (k : Nat) : -9223372036854775808 ≤ z.getD k 0 ∧ z.getD k 0 ≤ 9223372036854775807 := by
  rw [List.getD_eq_getElem?_getD]
  rcases Nat.lt_or_ge k z.length with h1 | h1
  · rw [List.getElem?_eq_getElem h1]; exact h.at_ k h1
  · rw [List.getElem?_eq_none h1]; simp
theorem sumW_le {ws ls : List Int} (hw : B64 ws) (hl : B64 ls) : ∀ k, (sumW ws ls k).natAbs ≤ k * 2 ^ 126
  | 0 => by simp [sumW]
  | k + 1 => by
    have ih := sumW_le hw hl k
    have hp := prod_le _ _ (getD_in hw k) (getD_in hl k)
    have h3 : (sumW ws ls (k + 1)).natAbs ≤ (sumW ws ls k).natAbs + (ws.getD k 0 * ls.getD k 0).natAbs := by
      show (sumW ws ls k + _).natAbs ≤ _
      omega
    rw [Nat.succ_mul]
    omega
theorem pow_mono_any (a b c x : Nat) (h : 0 < a) (hbc : b ≤ c) (hx : x ≤ a ^ b) : x ≤ a ^ c := Nat.le_trans hx (Nat.pow_le_pow_right h hbc)
theorem lim_big : 2 ^ 200 ≤ LIM := lim_w2 ▸ pow_mono_any W2 7 512 (2 ^ 200) (by decide) (by decide) (by decide)
theorem sumW_lim {ws ls : List Int} (hw : B64 ws) (hl : B64 ls) (k : Nat) (hk : k ≤ 1000000) : (sumW ws ls k).natAbs < LIM := by
  have h1 := sumW_le hw hl k
  have h2 : k * 2 ^ 126 ≤ 1000000 * 2 ^ 126 := Nat.mul_le_mul_right _ hk
  exact Nat.lt_of_lt_of_le (Nat.lt_of_le_of_lt (Nat.le_trans h1 h2) (by decide)) lim_big
theorem wprod_lim (x y : Int) (hx : -9223372036854775808 ≤ x ∧ x ≤ 9223372036854775807) (hy : -9223372036854775808 ≤ y ∧ y ≤ 9223372036854775807) : (x * y).natAbs < LIM :=
  Nat.lt_of_lt_of_le (Nat.lt_of_le_of_lt (prod_le x y hx hy) (by decide)) lim_big
theorem int_lim (x : Int) (hx : -9223372036854775808 ≤ x ∧ x ≤ 9223372036854775807) : x.natAbs < LIM :=
  Nat.lt_of_lt_of_le (show x.natAbs < 2 ^ 200 from Nat.lt_of_le_of_lt (show x.natAbs ≤ 2 ^ 63 by omega) (by decide)) lim_big
theorem Two.set0 {w : World} {b : Nat} {t : TypeId} {x y : Value} (h : Two w b t x y) (u v : Value) : Two ((w.setCell ⟨b, 0, none⟩ u).setCell ⟨b, 1, none⟩ v) b t u v := by
  unfold Two at h ⊢
  simp [World.setCell, Array.getElem?_modify, h]
theorem Two.farG {w : World} {b : Nat} {t : TypeId} {x y : Value} (h : Two w b t x y) {g : Nat} (hg : b ≠ g) (o : Nat) (u : Value) : Two (w.setCell ⟨g, o, none⟩ u) b t x y := (Below.heap_setCell w ⟨g, o, none⟩ u b hg).trans h

set_option maxRecDepth 100000 in
set_option maxHeartbeats 8000000 in
theorem weighted_any (vw vl : Value) (ws ls : List Int) (w : World) (hw : IntsOf w vw ws) (hl : IntsOf w vl ls) (h1 : B64 ws) (h2 : B64 ls) (hlen : ls.length ≤ ws.length) (hmax : ls.length ≤ 1000000) :
    Calls Tryz.prog 50 #[vw, vl] w fun e w' => (∃ v, e = .returned v ∧ WInt w' v (sumW ws ls ls.length)) ∧ Below w.heap.size w w' := by
  obtain ⟨aw, cw, rfl, -, -⟩ := hw.form
  obtain ⟨al, cl, rfl, -, -⟩ := hl.form
  have HW := Lib.hid hw
  have HL := Lib.hid hl
  have H1 := Lib.hid h1
  have H2 := Lib.hid h2
  clear hw hl h1 h2
  obtain ⟨bs, hbs⟩ : ∃ b, w.heap.size = b := ⟨_, rfl⟩
  go_enter Tryz.func50, Tryz.ntmps50
  go_wp2_with fail
  obtain ⟨w1, hw1⟩ : ∃ W, (w.alloc (.cells #[.bool false, .slice none 0 0] 85)).alloc (.cells #[.bool false, .slice none 0 0] 85) = W := ⟨_, rfl⟩
  have hB1 : Below bs w w1 := by rw [← hw1, ← hbs]; exact ((Below.refl _ _).alloc (Nat.le_refl _) _).alloc (by simp) _
  have HT0 : Hid (Two w1 bs 85 (.bool false) (.slice none 0 0)) := Lib.hid (by rw [← hw1, ← hbs]; exact (Two.new w _ _ _).alloc _)
  have HT1 : Hid (Two w1 (bs + 1) 85 (.bool (decide ((0 : Int) < 0))) (.slice none 0 0)) := Lib.hid (by
    have h9 := Two.new (w.alloc (.cells #[.bool false, .slice none 0 0] 85)) 85 (.bool false) (.slice none 0 0)
    rw [hw1] at h9
    simpa [hbs] using h9)
  have HB1 := Lib.hid hB1
  rw [hw1]
  clear hw1 hB1
  go_loopw [12] (fun i wr => ∃ (k : Nat) (a : Option Addr) (n c : Nat), k ≤ ls.length ∧ i = .int .i64 k ∧ Hid (Below bs w wr) ∧ Hid (Two wr bs 85 (.bool false) (.slice none 0 0)) ∧ Hid (Two wr (bs + 1) 85 (.bool (decide (sumW ws ls k < 0))) (.slice a n c)) ∧ Hid (WInt wr (.agg #[.bool (decide (sumW ws ls k < 0)), .slice a n c]) (sumW ws ls k))) (fun i _ => ls.length - (intOf i).toNat)
  case atStart => exact ⟨0, none, 0, 0, by omega, rfl, HB1, HT0, HT1, Lib.hid (by simpa [sumW] using wint_zero w1)⟩
  case round =>
    clear HB1 HT0 HT1
    obtain ⟨k, sa, sn, sc, hk, rfl, HB, HT0, HT1, HS⟩ := hrel
    by_cases hlt : k < ls.length
    · have hbw : Below w.heap.size w wr := by rw [hbs]; exact HB.out
      obtain ⟨b1, cap1, hv1, hb1, n0⟩ := IntsOf.at_ (HL.out.below hbw) k hlt
      injection hv1 with e1 e2 e3
      subst e1
      clear e2 e3
      obtain ⟨b2, cap2, hv2, hb2, m0⟩ := IntsOf.at_ (HW.out.below hbw) k (by omega)
      injection hv2 with e1 e2 e3
      subst e1
      clear e2 e3
      have hx1 := H2.out.at_ k hlt
      have hy1 := H1.out.at_ k (by omega)
      have HSS : Hid (sumW ws ls (k + 1) = sumW ws ls k + ws[k] * ls[k]) := Lib.hid (by
        show sumW ws ls k + ws.getD k 0 * ls.getD k 0 = _
        rw [List.getD_eq_getElem?_getD, List.getD_eq_getElem?_getD, List.getElem?_eq_getElem hlt, List.getElem?_eq_getElem (show k < ws.length by omega)]
        rfl)
      have HSL := Lib.hid (sumW_lim H1.out H2.out k (by omega))
      have HSL2 := Lib.hid (sumW_lim H1.out H2.out (k + 1) (by omega))
      generalize ls[k] = x at *
      generalize ws[k]'_ = y at *
      have i1 : (0 : Int) ≤ (k : Int) := by omega
      have i2 : (k : Int) < (ls.length : Int) := by omega
      have i3 : (k : Int) < (ws.length : Int) := by omega
      have HPL := Lib.hid (wprod_lim y x hy1 hx1)
      clear hbw
      by_cases hx0 : x = 0
      · have HE : Hid (sumW ws ls (k + 1) = sumW ws ls k) := Lib.hid (by rw [HSS.out, hx0]; simp)
        subst hx0
        go_wp2_with fail
        go_roundw
        case rel => exact ⟨k + 1, sa, sn, sc, by omega, by go_num, HB, HT0, by rw [HE.out]; exact HT1, by rw [HE.out]; exact HS⟩
        case measure => simp [intOf]; omega
      · by_cases hy0 : y = 0
        · have HE : Hid (sumW ws ls (k + 1) = sumW ws ls k) := Lib.hid (by rw [HSS.out, hy0]; simp)
          subst hy0
          have q1 : (x != 0) = true := by simpa using hx0
          go_wp2_with fail
          go_roundw
          case rel => exact ⟨k + 1, sa, sn, sc, by omega, by go_num, HB, HT0, by rw [HE.out]; exact HT1, by rw [HE.out]; exact HS⟩
          case measure => simp [intOf]; omega
        · have q1 : (x != 0) = true := by simpa using hx0
          have q2 : (y != 0) = true := by simpa using hy0
          go_wp2_with fail
          refine (from_any y wr hy1.1 hy1.2).mono ?_
          rintro e w2 ⟨v2, rfl, hI2, hB2⟩
          have HI2 := Lib.hid hI2
          have HBr := Lib.hid hB2
          clear hI2 hB2
          go_wp2_with fail
          refine (from_any x w2 hx1.1 hx1.2).mono ?_
          rintro e w3 ⟨v3, rfl, hI3, hB3⟩
          replace HI2 := Lib.hid (HI2.out.below hB3)
          replace HBr := Lib.hid (HBr.out.trans (hB3.mono HBr.out.size))
          have HI3 := Lib.hid hI3
          clear hI3 hB3
          go_wp2_with fail
          refine (mul_any v2 v3 y x w3 HI2.out HI3.out (int_lim y hy1) (int_lim x hx1)).mono ?_
          rintro e w4 hP
          obtain ⟨pa, pn, pc, rfl, hPm, hB4⟩ := hP.ok HPL.out
          have HP : Hid (WInt w4 (.agg #[.bool (decide (y * x < 0)), .slice pa pn pc]) (y * x)) := Lib.hid ⟨_, rfl, hPm⟩
          replace HBr := Lib.hid (HBr.out.trans (hB4.mono HBr.out.size))
          clear hP hPm hB4 HI2 HI3
          generalize decide (y * x < 0) = sp at *
          obtain ⟨w5, hw5⟩ : ∃ W, w4.alloc (.cells #[.bool sp, .slice pa pn pc] 85) = W := ⟨_, rfl⟩
          have hB5 : Below w4.heap.size w4 w5 := by rw [← hw5]; exact (Below.refl _ _).alloc (Nat.le_refl _) _
          have HT5 : Hid (Two w5 w4.heap.size 85 (.bool sp) (.slice pa pn pc)) := Lib.hid (by rw [← hw5]; exact Two.new _ _ _ _)
          replace HP := Lib.hid (HP.out.below hB5)
          replace HBr := Lib.hid (HBr.out.trans (hB5.mono HBr.out.size))
          have HT15 := Lib.hid (HT1.out.below HBr.out HT1.out.lt)
          have HS5 := Lib.hid (HS.out.below HBr.out)
          generalize hss : decide (sumW ws ls k < 0) = ss at *
          have p0 := HT5.out.cell0
          have p1 := HT5.out.cell1
          have s0 := HT15.out.cell0
          have s1 := HT15.out.cell1
          clear hB5 hss
          go_wp2_with fail
          clear hw5 p0 p1 s0 s1
          refine (add_any _ _ _ _ w5 HS5.out HP.out HSL.out HPL.out).mono ?_
          rintro e w6 hQ
          have hsm := HSL2.out
          rw [HSS.out] at hsm
          obtain ⟨qa, qn, qc, rfl, hQm, hB6⟩ := hQ.ok hsm
          rw [← HSS.out] at hQm ⊢
          have HQ : Hid (WInt w6 (.agg #[.bool (decide (sumW ws ls (k + 1) < 0)), .slice qa qn qc]) (sumW ws ls (k + 1))) := Lib.hid ⟨_, rfl, hQm⟩
          have HB6 := Lib.hid (HBr.out.trans (hB6.mono HBr.out.size))
          have hT16 := HT1.out.below HB6.out HT1.out.lt
          have s0 := hT16.cell0
          have s1 := hT16.cell1
          have f0 := hT16.frozen 0
          have f1 := hT16.frozen 1
          have HT16 := Lib.hid hT16
          have HT06 := Lib.hid (HT0.out.below HB6.out HT0.out.lt)
          generalize hsq : decide (sumW ws ls (k + 1) < 0) = sq at *
          obtain ⟨w7, hw7⟩ : ∃ W, (w6.setCell ⟨bs + 1, 0, none⟩ (.bool sq)).setCell ⟨bs + 1, 1, none⟩ (.slice qa qn qc) = W := ⟨_, rfl⟩
          have HB7 : Hid (Below bs w w7) := Lib.hid (by
            rw [← hw7]
            have h9 := HB.out.trans (HB6.out.mono (by have := HB.out.size; omega))
            exact (h9.setCell (p := ⟨bs + 1, 0, none⟩) (by simp) _).setCell (p := ⟨bs + 1, 1, none⟩) (by simp) _)
          have HT07 : Hid (Two w7 bs 85 (.bool false) (.slice none 0 0)) := Lib.hid (by rw [← hw7]; exact (HT06.out.farG (g := bs + 1) (by omega) 0 _).farG (g := bs + 1) (by omega) 1 _)
          have HT17 : Hid (Two w7 (bs + 1) 85 (.bool sq) (.slice qa qn qc)) := Lib.hid (by rw [← hw7]; exact HT16.out.set0 _ _)
          have HQ7 : Hid (WInt w7 (.agg #[.bool sq, .slice qa qn qc]) (sumW ws ls (k + 1))) := Lib.hid (by
            obtain ⟨vw, hv, hm⟩ := HQ.out
            rw [← hw7]
            exact ⟨vw, hv, RowAt.store_two hm HT16.out (fun _ _ h => by cases h) (fun _ _ h => by cases h) _ _⟩)
          clear hQ hsm hQm hB6 hT16 HSS
          go_wp2_with fail
          clear hw7 s0 s1 f0 f1
          go_roundw
          case rel => exact ⟨k + 1, qa, qn, qc, by omega, by go_num, HB7, HT07, by rw [hsq]; exact HT17, by rw [hsq]; exact HQ7⟩
          case measure => simp [intOf]; omega
    · obtain rfl : k = ls.length := by omega
      generalize hss : decide (sumW ws ls ls.length < 0) = ss at *
      have s0 := HT1.out.cell0
      have s1 := HT1.out.cell1
      have r0 := HT0.out.cell0
      have r1 := HT0.out.cell1
      have f0 := HT0.out.frozen 0
      have f1 := HT0.out.frozen 1
      go_wp2_with fail
      have hTz := HT0.out.set0 (.bool ss) (.slice sa sn sc)
      have hBz : Below w.heap.size w ((wr.setCell ⟨bs, 0, none⟩ (.bool ss)).setCell ⟨bs, 1, none⟩ (.slice sa sn sc)) := by
        rw [hbs]
        exact (HB.out.setCell (p := ⟨bs, 0, none⟩) (Nat.le_refl _) _).setCell (p := ⟨bs, 1, none⟩) (Nat.le_refl _) _
      have hSz : WInt ((wr.setCell ⟨bs, 0, none⟩ (.bool ss)).setCell ⟨bs, 1, none⟩ (.slice sa sn sc)) (.agg #[.bool ss, .slice sa sn sc]) (sumW ws ls ls.length) := by
        obtain ⟨vw, hv, hm⟩ := HS.out
        exact ⟨vw, hv, RowAt.store_two hm HT0.out (fun _ _ h => by cases h) (fun _ _ h => by cases h) _ _⟩
      have z0 := hTz.cell0
      have z1 := hTz.cell1
      exact bodyPost_ret (v := .agg #[.bool ss, .slice sa sn sc]) (by simp [results, Tryz.results50, go_sem, z0, z1]) rfl ⟨⟨_, rfl, hSz⟩, hBz⟩

def effV (n : Nat) (f : Nat → Int) : List Int := (List.range n).map f
theorem effV_len (n : Nat) (f : Nat → Int) : (effV n f).length = n := by simp [effV]
theorem effF_le {n M : Nat} {lt lg : List Amt} (h1 : GoodL n 1000 2 lt) (h2 : GoodL n 1000 2 lg) (i : Nat) : -2000 ≤ effF lt lg i ∧ effF lt lg i ≤ 2000 := by
  have a := ofI_le h1 i
  have b := ofI_le h2 i
  unfold effF
  omega
theorem res_good {c : Cat} (hg : Good c) {x : Nat × (Nat → Int)} (h : x ∈ resL c) : x.1 < c.rules.length ∧ ∀ i, -2000 ≤ x.2 i ∧ x.2 i ≤ 2000 := by
  obtain ⟨r, hr, l, hl, he, hs, h5, h6, h7⟩ := resT_mem c.rules 0 x h
  have hgr := hg.each r hr
  refine ⟨by omega, fun i => ?_⟩
  rw [he]
  unfold outsR at hl
  split at hl
  · simp only [List.mem_cons, List.not_mem_nil, or_false] at hl
    rcases hl with rfl | rfl
    · exact effF_le (M := 0) hgr.take hgr.give i
    · exact effF_le (M := 0) hgr.take hgr.back i
  · simp only [List.mem_cons, List.not_mem_nil, or_false] at hl
    subst hl
    exact effF_le (M := 0) hgr.take hgr.give i
theorem eff_b64 {c : Cat} (hg : Good c) {x : Nat × (Nat → Int)} (h : x ∈ resL c) (n : Nat) : B64 (effV n x.2) := by
  intro i hi
  obtain ⟨q, _, rfl⟩ := List.mem_map.1 hi
  have := (res_good hg h).2 q
  omega
/-- the sum of a result -/
def sumR (ws : List Int) (n : Nat) (f : Nat → Int) : Int := sumW ws (effV n f) (effV n f).length
def holdsB (c : Cat) (ws : List Int) : Bool := decide (ws.length = c.items.length) && (resL c).all (fun x => decide (sumR ws c.items.length x.2 = 0))

structure HoJ (Wb : World) (c : Cat) (ws : List Int) (rb l n0 : Nat) (rec : LoopState → Option Code → Loop) (k : Nat) (W : World) : Prop where
  on : Only (fun b => b = rb ∨ b = l ∨ n0 ≤ b) Wb W
  sz : n0 ≤ W.heap.size
  rd : W.heap[l]? = some (.loop (rec .ready none))
  r : One W rb 4 (.bool false)
  no : ∀ q x, q < k → (resL c)[q]? = some x → sumR ws c.items.length x.2 = 0
theorem HoJ.below {Wb : World} {c : Cat} {ws : List Int} {rb l n0 : Nat} {rec : LoopState → Option Code → Loop} {k : Nat} {W W' : World} (h : HoJ Wb c ws rb l n0 rec k W) (hb : Below n0 W W') (h1 : rb < n0) (h2 : l < n0) : HoJ Wb c ws rb l n0 rec k W' :=
  ⟨h.on.trans ⟨hb.os, hb.tape, hb.output, hb.size, fun k hk hn => hb.block k (by omega)⟩, Nat.le_trans h.sz hb.size, (hb.block _ h2).trans h.rd, h.r.below hb h1, h.no⟩
structure HoX (Wb : World) (c : Cat) (ws : List Int) (rb l n0 : Nat) (rec : LoopState → Option Code → Loop) (W : World) : Prop where
  on : Only (fun b => b = rb ∨ b = l ∨ n0 ≤ b) Wb W
  rd : W.heap[l]? = some (.loop (rec .done (some .ret)))
  r : One W rb 4 (.bool false)
  ex : holdsB c ws = false
theorem cmp3_zero (x : Int) : cmp3 x 0 = 0 ↔ x = 0 := by
  unfold cmp3
  split
  · omega
  · split <;> omega

set_option maxRecDepth 100000 in
set_option maxHeartbeats 8000000 in
theorem holds_any (vi vr vw : Value) (c : Cat) (ws : List Int) (w : World) (hc : CatAt w vi vr c) (hf : Fine c) (hw : IntsOf w vw ws) (h64 : B64 ws) (hK : Kinds w) :
    CallsIn Fence.wide 31 Tryz.prog 25 #[catV vi vr, vw] w fun e w' => e = .returned (.bool (holdsB c ws)) ∧ Below w.heap.size w w' := by
  obtain ⟨ai, ci, rfl, hi1, hi2⟩ := hc.items.form
  obtain ⟨ar, cr, rfl, hr1, hr2⟩ := hc.rules.form
  obtain ⟨aw, cw, rfl, -, -⟩ := hw.form
  have HC := Lib.hid hc
  have HF := Lib.hid hf
  have HK := Lib.hid hK
  have HW := Lib.hid hw
  have H64 := Lib.hid h64
  have hli := hf.good.items
  clear hc hf hK hw h64
  unfold catV
  refine callsIn_of_wp_marks Tryz.func25 rfl trivial ?_ rfl
  simp only [Tryz.ntmps25, List.size_toArray, List.length_cons, List.length_nil, Nat.reduceAdd, Nat.reduceSub, Array.replicate_succ, Array.replicate_zero, List.push_toArray, List.append_toArray, List.nil_append, List.cons_append]
  refine wpIn_wide.2 ?_
  obtain ⟨w1, hw1⟩ : ∃ w1, (((w.alloc (.cells #[.slice ai c.items.length ci, .slice ar c.rules.length cr, .slice none 0 0, .slice none 0 0] 28)).alloc (.cells #[.slice aw ws.length cw] 22)).alloc (.cells #[.bool false] 4)) = w1 := ⟨_, rfl⟩
  have hB : ∀ (X : World) (o : Obj), Below X.heap.size X (X.alloc o) := fun X o => (Below.refl _ _).alloc (Nat.le_refl _) _
  have HB : Hid (Below w.heap.size w w1) := Lib.hid (by rw [← hw1]; exact (((Below.refl _ _).alloc (Nat.le_refl _) _).alloc (by simp) _).alloc (by simp; omega) _)
  have HX : Hid (BoxC w1 w.heap.size (.slice ai c.items.length ci) (.slice ar c.rules.length cr)) := Lib.hid (by rw [← hw1]; exact ((BoxC.new w _ _).below (hB _ _)).below (hB _ _))
  have HWB : Hid (One w1 (w.heap.size + 1) 22 (.slice aw ws.length cw)) := Lib.hid (by
    rw [← hw1]
    have h9 := (One.new (w.alloc (.cells #[.slice ai c.items.length ci, .slice ar c.rules.length cr, .slice none 0 0, .slice none 0 0] 28)) 22 (.slice aw ws.length cw)).alloc (.cells #[.bool false] 4)
    simpa using h9)
  have HRB : Hid (One w1 (w.heap.size + 2) 4 (.bool false)) := Lib.hid (by
    rw [← hw1]
    have h9 := One.new ((w.alloc (.cells #[.slice ai c.items.length ci, .slice ar c.rules.length cr, .slice none 0 0, .slice none 0 0] 28)).alloc (.cells #[.slice aw ws.length cw] 22)) 4 (.bool false)
    simpa using h9)
  have m0 := HX.out.c0
  have m1 := HX.out.c1
  have m2 := HX.out.c2
  have m3 := HX.out.c3
  have mw := HWB.out.cell
  have mr := HRB.out.cell
  have mlt := HX.out.lt
  clear hB
  go_wp2_with fail
  clear hw1
  refine (valid_good _ _ c w1 (HC.out.below HB.out) HF.out.good HF.out.named HF.out.ni HF.out.nr (HK.out.keep HB.out)).mono ?_
  rintro e w2 ⟨rfl, hB⟩
  replace HB := Lib.hid (HB.out.trans (hB.mono HB.out.size))
  replace HX := Lib.hid (HX.out.below hB)
  replace HWB := Lib.hid (HWB.out.below hB HWB.out.lt)
  replace HRB := Lib.hid (HRB.out.below hB HRB.out.lt)
  clear hB m0 m1 m2 m3 mw mr mlt
  have m0 := HX.out.c0
  have m1 := HX.out.c1
  have m2 := HX.out.c2
  have m3 := HX.out.c3
  have mw := HWB.out.cell
  have mr := HRB.out.cell
  have mlt := HX.out.lt
  have mrf := HRB.out.frozen
  by_cases hle : ws.length = c.items.length
  · have q1 : ((ws.length : Int) != (c.items.length : Int)) = false := by simp [hle]
    have q2 : (ws.length != c.items.length) = false := by simp [hle]
    have HLE := Lib.hid hle
    clear hle
    go_wp2_with fail
    clear q1 q2
    clear m0 m1 m2 m3 mw mr mlt mrf
    refine (results_any _ _ _ _ _ _ w2).mono ?_
    rintro e w' ⟨rfl, hw'⟩
    obtain ⟨wq, hwq⟩ : ∃ wq, w' = wq := ⟨_, rfl⟩
    rw [hwq] at hw' ⊢
    clear hwq
    have hBq : Below w2.heap.size w2 wq := by rw [← hw']; exact (Below.refl _ _).alloc (Nat.le_refl _) _
    have hbc : BoxC wq w2.heap.size (.slice ai c.items.length ci) (.slice ar c.rules.length cr) := by rw [← hw']; exact BoxC.new _ _ _
    have hzq : wq.heap.size = w2.heap.size + 1 := by rw [← hw']; simp
    go_wp2_with fail
    refine (wpIn_wide (n := 31)).1 ?_
    refine range_stmt rfl (by omega) (gf := 101) (lb := #[.pointer (some ⟨w2.heap.size, 0, none⟩)]) rfl trivial (enters_of Tryz.func101 (by kernel_rfl) rfl) ?_
    intro fn _
    generalize hrec : recOf fn _ _ _ _ _ = rec
    obtain ⟨Wb, hWb⟩ : ∃ Wb, (wq.alloc (.deferred (some []))).alloc (.loop (rec .ready none)) = Wb := ⟨_, rfl⟩
    rw [hWb]
    obtain ⟨lD, hlD⟩ : ∃ g, wq.heap.size = g := ⟨_, rfl⟩
    have hBb : Below lD wq Wb := by rw [← hWb, ← hlD]; exact ((Below.refl _ _).alloc (Nat.le_refl _) _).alloc (by simp) _
    have hD : Wb.heap[lD]? = some (.deferred (some [])) := by
      rw [← hWb, ← hlD]
      exact (Below.heap_alloc _ _ _ (by simp)).trans (World.alloc_heap_new _ _)
    have hL : Wb.heap[lD + 1]? = some (.loop (rec .ready none)) := by
      have h9 := World.alloc_heap_new (wq.alloc (.deferred (some []))) (.loop (rec .ready none))
      rw [hWb] at h9
      simpa [hlD] using h9
    have hzb : Wb.heap.size = lD + 1 + 1 := by rw [← hWb]; simp [hlD]
    rw [hlD] at hrec ⊢
    obtain ⟨n0, hn0⟩ : ∃ g, lD + 1 + 1 = g := ⟨_, rfl⟩
    obtain ⟨l, hl⟩ : ∃ g, lD + 1 = g := ⟨_, rfl⟩
    obtain ⟨rb, hrb⟩ : ∃ g, w.heap.size + 1 + 1 = g := ⟨_, rfl⟩
    obtain ⟨wb, hwb⟩ : ∃ g, w.heap.size + 1 = g := ⟨_, rfl⟩
    obtain ⟨bc, hbcq⟩ : ∃ g, w2.heap.size = g := ⟨_, rfl⟩
    have hlD2 : lD = bc + 1 := by omega
    have hrw : w.heap.size + 2 = rb := by omega
    rw [hrb, hwb, hbcq] at hrec ⊢
    rw [hl] at hL ⊢
    rw [hrw] at HRB
    rw [hwb] at HWB
    rw [hn0] at hzb
    rw [hbcq] at hbc
    have hrl : rb < bc := by have := HRB.out.lt; omega
    have hB2b : Below bc w2 Wb := by
      have h9 : Below bc w2 wq := by rw [← hbcq]; exact hBq
      exact h9.trans (hBb.mono (by omega))
    have hbelb : Below w.heap.size w Wb := HB.out.trans (hB2b.mono (by have := HB.out.size; omega))
    have hbcb := hbc.below (show Below wq.heap.size wq Wb by rw [hlD]; exact hBb)
    have hRBb : One Wb rb 4 (.bool false) := HRB.out.below hB2b hrl
    have hWBb : One Wb wb 22 (.slice aw ws.length cw) := HWB.out.below hB2b (by omega)
    have HBE := Lib.hid hbelb
    have HBC := Lib.hid hbcb
    have HWBb := Lib.hid hWBb
    have HDb := Lib.hid hD
    have HJ0 : Hid (HoJ Wb c ws rb l n0 rec 0 Wb) := Lib.hid ⟨Only.refl _ _, by omega, hL, hRBb, fun q x hq => by omega⟩
    have HZ := Lib.hid hzb
    clear hBq hbc hw' hzq hWb hBb hD hL hzb hB2b hbelb hbcb hRBb hWBb HX HWB HRB hlD
    have hY : ∀ (k i : Nat) (f : Nat → Int) (W : World), (resL c)[k]? = some (i, f) → HoJ Wb c ws rb l n0 rec k W → BlkC W n0 3 (bagL c.items.length f) → YieldAt Fence.wide 29 Tryz.prog l #[.int .i64 (i : Int), .slice (some ⟨n0, 0, none⟩) c.items.length c.items.length] W fun e W' =>
        ((e = .returned (.bool true) ∧ HoJ Wb c ws rb l n0 rec (k + 1) W') ∨ (e = .returned (.bool false) ∧ HoX Wb c ws rb l n0 rec W')) ∧ KeepsUp n0 W W' := by
      intro k i f W hk hJ hbk
      have hl9 := hJ.rd
      rw [← hrec] at hl9
      refine yield_round trivial hl9 rfl ?_
      rw [hrec] at hl9 ⊢
      have Hrec := Lib.hid hrec
      clear hrec
      obtain ⟨W2, hW2⟩ : ∃ W2, W.putObj l (.loop (rec .busy none)) = W2 := ⟨_, rfl⟩
      have hO2 : Only (fun b => b = l) W W2 := by rw [← hW2]; exact only_putObj _ _ _
      have hll : l < W.heap.size := by have := hJ.sz; omega
      have hl2 : W2.heap[l]? = some (.loop (rec .busy none)) := by rw [← hW2]; exact World.putObj_heap_same hll
      have HJ := Lib.hid hJ
      have HO2 := Lib.hid hO2
      have Hl2 := Lib.hid hl2
      have Hl9 := Lib.hid hl9
      have Hk := Lib.hid hk
      have Hbk := Lib.hid (hbk.only hO2 (by omega))
      have Hr2 := Lib.hid (hO2.one hJ.r (by omega))
      have HW2 := Lib.hid (hO2.one (hJ.on.one HWBb.out (by omega)) (by omega))
      have Hb2 : Hid (Below w.heap.size w W2) := Lib.hid ((hJ.on.trans (hO2.mono (fun b hb => .inr (.inl hb)))).below HBE.out HBE.out.size (fun b hb => by omega))
      have mw := HW2.out.cell
      have hsz := hJ.sz
      clear hl9 hll hJ hk hbk hO2 hl2
      gi_wp2
      refine ⟨Hl9.out, ?_⟩
      clear hW2
      repeat (first | go_values | gi_guarded | gi_step | gi_upon)
      have hmem : (i, f) ∈ resL c := List.mem_of_getElem? Hk.out
      have h64e := eff_b64 HF.out.good hmem c.items.length
      have hel := effV_len c.items.length f
      have hwa := weighted_any (.slice aw ws.length cw) (.slice (some ⟨n0, 0, none⟩) c.items.length c.items.length) ws (effV c.items.length f) W2 (HW.out.below Hb2.out) (ints_of_bag Hbk.out (by omega)) H64.out h64e (by rw [hel, HLE.out]; exact Nat.le_refl _) (by omega)
      have hsl := sumW_lim H64.out h64e (effV c.items.length f).length (by omega)
      obtain ⟨sm, hsm⟩ : ∃ s, sumW ws (effV c.items.length f) (effV c.items.length f).length = s := ⟨_, rfl⟩
      rw [hsm] at hwa hsl
      have HSM : Hid (sumR ws c.items.length f = sm) := Lib.hid hsm
      have HSL := Lib.hid hsl
      refine ⟨trivial, callsRound (hwa.mono ?_)⟩
      clear hwa h64e hel hsl hsm hmem mw
      rintro e W3 ⟨⟨v3, rfl, hI3⟩, hB3⟩
      have HI3 := Lib.hid hI3
      have HB3 := Lib.hid hB3
      clear hI3 hB3
      simp only []
      repeat (first | go_values | gi_guarded | gi_step | gi_upon)
      have hsg := sign_any v3 sm W3 HI3.out HSL.out
      refine ⟨trivial, callsRound (hsg.mono ?_)⟩
      clear hsg
      rintro e W4 ⟨rfl, hB4⟩
      have HB4 := Lib.hid (HB3.out.trans (hB4.mono HB3.out.size))
      clear hB4
      simp only []
      have hr4 := Hr2.out.below HB4.out Hr2.out.lt
      have mr := hr4.cell
      have mf := hr4.frozen
      have HO4 : Hid (Only (fun b => b = l) W W4) := Lib.hid (HO2.out.trans (Only.of_below HB4.out))
      have Hl4 : Hid (W4.heap[l]? = some (.loop (rec .busy none))) := Lib.hid ((HB4.out.block _ (Array.getElem?_eq_some_iff.1 Hl2.out).1).trans Hl2.out)
      have HR4 := Lib.hid hr4
      clear hr4
      by_cases hs0 : sm = 0
      · have q3 : (cmp3 sm 0 != 0) = false := by rw [(cmp3_zero sm).2 hs0]; rfl
        obtain ⟨cm, hcm⟩ : ∃ z, cmp3 sm 0 = z := ⟨_, rfl⟩
        rw [hcm] at q3 ⊢
        clear hcm
        repeat (first | go_values | gi_guarded | gi_step | gi_upon)
        clear mr mf
        refine ⟨Hl4.out, ?_⟩
        have hOY := only_putObj W4 l (.loop (rec .ready none))
        have hrY : (W4.putObj l (.loop (rec .ready none))).heap[l]? = some (.loop (rec .ready none)) := World.putObj_heap_same (Array.getElem?_eq_some_iff.1 Hl4.out).1
        obtain ⟨Y, hY⟩ : ∃ Y, W4.putObj l (.loop (rec .ready none)) = Y := ⟨_, rfl⟩
        rw [hY] at hOY hrY ⊢
        have hS1 : Only (fun b => b = l) W Y := HO4.out.trans hOY
        refine ⟨.inl ⟨rfl, HJ.out.on.trans (hS1.mono (fun b hb => .inr (.inl hb))), Nat.le_trans hsz hS1.size, hrY, hS1.one HJ.out.r (by omega), fun q x hq hx => ?_⟩, keepsUp_of hS1 (fun b hb => by omega)⟩
        rcases Nat.lt_or_ge q k with h | h
        · exact HJ.out.no q x h hx
        · obtain rfl : q = k := by omega
          rw [Hk.out] at hx
          injection hx with hx
          rw [← hx]
          show sumR ws c.items.length f = 0
          rw [HSM.out, hs0]
      · have q3 : (cmp3 sm 0 != 0) = true := by simpa using fun h => hs0 ((cmp3_zero sm).1 h)
        obtain ⟨cm, hcm⟩ : ∃ z, cmp3 sm 0 = z := ⟨_, rfl⟩
        rw [hcm] at q3 ⊢
        clear hcm
        repeat (first | go_values | gi_guarded | gi_step | gi_upon)
        clear mr mf
        obtain ⟨W5, hW5⟩ : ∃ W, W4.setCell ⟨rb, 0, none⟩ (.bool false) = W := ⟨_, rfl⟩
        have hO5 : Only (fun b => b = rb) W4 W5 := by rw [← hW5]; exact (Only.refl (fun b => b = rb) W4).set (p := ⟨rb, 0, none⟩) rfl _
        have hr5 : One W5 rb 4 (.bool false) := by rw [← hW5]; exact HR4.out.set _
        have hl5 : W5.heap[l]? = some (.loop (rec .busy none)) := (hO5.block _ (Array.getElem?_eq_some_iff.1 Hl4.out).1 (by omega)).trans Hl4.out
        rw [hW5]
        refine ⟨hl5, ?_⟩
        have hOY := only_putObj W5 l (.loop (rec .done (some .ret)))
        have hrY : (W5.putObj l (.loop (rec .done (some .ret)))).heap[l]? = some (.loop (rec .done (some .ret))) := World.putObj_heap_same (Array.getElem?_eq_some_iff.1 hl5).1
        obtain ⟨Y, hY⟩ : ∃ Y, W5.putObj l (.loop (rec .done (some .ret))) = Y := ⟨_, rfl⟩
        rw [hY] at hOY hrY ⊢
        have hS1 : Only (fun b => b = rb ∨ b = l) W Y := ((HO4.out.mono (fun b hb => .inr hb)).trans (hO5.mono (fun b hb => .inl hb))).trans (hOY.mono (fun b hb => .inr hb))
        refine ⟨.inr ⟨rfl, HJ.out.on.trans (hS1.mono (fun b hb => by omega)), hrY, hOY.one hr5 (by omega), ?_⟩, keepsUp_of hS1 (fun b hb => by omega)⟩
        have hmem : (i, f) ∈ resL c := List.mem_of_getElem? Hk.out
        unfold holdsB
        rw [Bool.and_eq_false_iff]
        right
        rw [List.all_eq_false]
        exact ⟨(i, f), hmem, by simp only [decide_eq_true_eq]; rw [HSM.out]; exact hs0⟩
    have hE : EnvR n0 l bc w (.slice ai c.items.length ci) (.slice ar c.rules.length cr) c (HoJ Wb c ws rb l n0 rec) (HoX Wb c ws rb l n0 rec) := by
      refine ⟨fun k W W' h hb => h.below hb (by omega) (by omega), HC.out, by have := HBE.out.size; have := HZ.out; omega, fun k W h => ⟨h.sz, ?_, h.on.below HBE.out HBE.out.size (fun b hb => by omega)⟩, by omega, hY⟩
      have hx := HBC.out
      have hnb : ¬ ((fun b => b = rb ∨ b = l ∨ n0 ≤ b) bc) := by simp only []; omega
      exact ⟨Nat.lt_of_lt_of_le hx.lt h.on.size, (h.on.cell (p := ⟨bc, 0, none⟩) hnb hx.lt).trans hx.c0, (h.on.cell (p := ⟨bc, 1, none⟩) hnb hx.lt).trans hx.c1, (h.on.cell (p := ⟨bc, 2, none⟩) hnb hx.lt).trans hx.c2, (h.on.cell (p := ⟨bc, 3, none⟩) hnb hx.lt).trans hx.c3⟩
    have hsq := results1_any (l := l) (bc := bc) Wb (by rw [HZ.out]; exact hE) HF.out.good HJ0.out
    refine (callsIn_wide.2 (by simpa using hsq)).mono ?_
    clear hsq hE hY HJ0
    rintro e W3 ⟨hv, hE⟩
    refine ⟨hv, ?_⟩
    clear hv hrec
    rcases hE with hE | hE
    · refine .inl ⟨hE.rd, ?_⟩
      have HHB : Hid (holdsB c ws = true) := Lib.hid (by
        unfold holdsB
        rw [Bool.and_eq_true, decide_eq_true_eq, List.all_eq_true]
        refine ⟨HLE.out, fun x hx => ?_⟩
        obtain ⟨q, hq, hqe⟩ := List.mem_iff_getElem.1 hx
        rw [decide_eq_true_eq]
        exact hE.no q x hq (by rw [List.getElem?_eq_getElem hq, hqe]))
      have hO4 := only_putObj W3 l (.loop (rec .exhausted none))
      obtain ⟨W4, hW4⟩ : ∃ W4, W3.putObj l (.loop (rec .exhausted none)) = W4 := ⟨_, rfl⟩
      rw [hW4] at hO4 ⊢
      have HO4 := Lib.hid (hE.on.trans (hO4.mono (fun b hb => .inr (.inl hb))))
      have hr4 := hO4.one hE.r (by omega)
      have p3 := hr4.cell
      have g3 := hr4.frozen
      have HR4 := Lib.hid hr4
      clear hW4 hO4 hE hr4
      simp only [Exit.inBlock, Exit.then]
      repeat (first | go_values | go_step)
      clear p3 g3
      obtain ⟨X, hX⟩ : ∃ W, W4.setCell ⟨rb, 0, none⟩ (.bool true) = W := ⟨_, rfl⟩
      have hOX : Only (fun b => b = rb) W4 X := by rw [← hX]; exact (Only.refl (fun b => b = rb) W4).set (p := ⟨rb, 0, none⟩) rfl _
      have hrX : One X rb 4 (.bool true) := by rw [← hX]; exact HR4.out.set _
      rw [hX]
      have hOX2 := HO4.out.trans (hOX.mono (fun b hb => .inl hb))
      have hDX : X.heap[lD]? = some (.deferred (some [])) := (hOX2.block _ (by have := HZ.out; omega) (by omega)).trans HDb.out
      refine ⟨by simp, .inl ⟨_, _, rfl, run_takeDeferred hDX, ?_⟩⟩
      have hO5 := only_putObj X lD (.deferred none)
      obtain ⟨Y, hY⟩ : ∃ Y, X.putObj lD (.deferred none) = Y := ⟨_, rfl⟩
      rw [hY] at hO5 ⊢
      have d3 := (hO5.one hrX (by omega)).cell
      have hBY : Below w.heap.size w Y := by
        have h1 : Only (fun b => b = rb ∨ b = l ∨ n0 ≤ b ∨ b = lD) Wb Y := (hOX2.mono (fun b hb => by omega)).trans (hO5.mono (fun b hb => by omega))
        exact h1.below HBE.out HBE.out.size (fun b hb => by omega)
      refine ⟨.bool true, by simp [results, Tryz.results25, go_sem, d3], ?_, hBY⟩
      rw [HHB.out]
    · refine .inr ⟨hE.rd, ?_⟩
      have hO4 := only_putObj W3 l (.loop (rec .exhausted (some .ret)))
      obtain ⟨W4, hW4⟩ : ∃ W4, W3.putObj l (.loop (rec .exhausted (some .ret))) = W4 := ⟨_, rfl⟩
      rw [hW4] at hO4 ⊢
      have hOX2 := hE.on.trans (hO4.mono (fun b hb => .inr (.inl hb)))
      have hr4 := hO4.one hE.r (by omega)
      simp only [Exit.inBlock, Exit.then]
      have hDX : W4.heap[lD]? = some (.deferred (some [])) := (hOX2.block _ (by have := HZ.out; omega) (by omega)).trans HDb.out
      refine ⟨by simp, .inl ⟨_, _, rfl, run_takeDeferred hDX, ?_⟩⟩
      have hO5 := only_putObj W4 lD (.deferred none)
      obtain ⟨Y, hY⟩ : ∃ Y, W4.putObj lD (.deferred none) = Y := ⟨_, rfl⟩
      rw [hY] at hO5 ⊢
      have d3 := (hO5.one hr4 (by omega)).cell
      have hBY : Below w.heap.size w Y := by
        have h1 : Only (fun b => b = rb ∨ b = l ∨ n0 ≤ b ∨ b = lD) Wb Y := (hOX2.mono (fun b hb => by omega)).trans (hO5.mono (fun b hb => by omega))
        exact h1.below HBE.out HBE.out.size (fun b hb => by omega)
      refine ⟨.bool false, by simp [results, Tryz.results25, go_sem, d3], ?_, hBY⟩
      rw [hE.ex]
  · have q1 : ((ws.length : Int) != (c.items.length : Int)) = true := by simp; omega
    have q2 : (ws.length != c.items.length) = true := by simpa using hle
    have HHB : Hid (holdsB c ws = false) := Lib.hid (by unfold holdsB; rw [decide_eq_false hle]; rfl)
    go_wp2_with fail
    obtain ⟨X, hX⟩ : ∃ W, w2.setCell ⟨w.heap.size + 1 + 1, 0, none⟩ (.bool false) = W := ⟨_, rfl⟩
    have hrX : One X (w.heap.size + 2) 4 (.bool false) := by rw [← hX]; exact HRB.out.set _
    have d3 := hrX.cell
    have hBX : Below w.heap.size w X := by rw [← hX]; exact HB.out.setCell (p := ⟨w.heap.size + 1 + 1, 0, none⟩) (show w.heap.size ≤ w.heap.size + 1 + 1 by omega) _
    rw [hX]
    refine ⟨.bool false, by simp [results, Tryz.results25, go_sem, d3], ?_, hBX⟩
    rw [HHB.out]
end Go.Proofs.YtfpcgjgkbniofaaGreatDoor
