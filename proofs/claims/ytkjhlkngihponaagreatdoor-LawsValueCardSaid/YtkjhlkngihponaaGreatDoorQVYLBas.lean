/- laws.Basis. -/
import Derived.Test.YtkjhlkngihponaaGreatDoorQVGCat
import Derived.Test.YtkjhlkngihponaaGreatDoorQVYEfM
import Derived.Test.YtkjhlkngihponaaGreatDoorQVRefWalks
import Derived.Test.YtkjhlkngihponaaGreatDoorQVGMath
import Derived.LoopIn
set_option linter.unusedVariables false
set_option linter.unusedSimpArgs false
set_option maxHeartbeats 8000000
set_option maxRecDepth 100000
namespace Go.Proofs.YtkjhlkngihponaaGreatDoor
open Go.RowKit
attribute [local go_sem] Oper.semAt_some
open Go.RowKit Go.Shelf
def qBB (ws ls : List Int) : Nat -> Int
 | 0 => 0
 | k + 1 => qBB ws ls k + ws.getD k 0 * ls.getD k 0
def B64 (z : List Int) : Prop := ∀ i ∈ z, -9223372036854775808 <= i /\ i <= 9223372036854775807
theorem B64.at_ {z : List Int} (h : B64 z) (k : Nat) (hk : k < z.length) : -9223372036854775808 <= z[k] /\ z[k] <= 9223372036854775807 := h _ (List.getElem_mem hk)
theorem qLb (x y : Int) (hx : -9223372036854775808 <= x /\ x <= 9223372036854775807) (hy : -9223372036854775808 <= y /\ y <= 9223372036854775807) : (x * y).natAbs <= 2 ^ 126 := by
 rw [Int.natAbs_mul]; have h1 : x.natAbs <= 2 ^ 63 := by omega
 have h2 : y.natAbs <= 2 ^ 63 := by omega
 exact Nat.le_trans (Nat.mul_le_mul h1 h2) (by decide)
theorem qLK {z : List Int} (h : B64 z) (k : Nat) : -9223372036854775808 <= z.getD k 0 /\ z.getD k 0 <= 9223372036854775807 := by
 rw [List.getD_eq_getElem?_getD]; rcases Nat.lt_or_ge k z.length with h1 | h1
 ·rw [List.getElem?_eq_getElem h1]; exact h.at_ k h1
 ·rw [List.getElem?_eq_none h1]; simp
theorem qHX {ws ls : List Int} (hw : B64 ws) (hl : B64 ls) : ∀ k, (qBB ws ls k).natAbs <= k * 2 ^ 126
 | 0 => by simp [qBB]
 | k + 1 => by
  have ih := qHX hw hl k; have hp := qLb _ _ (qLK hw k) (qLK hl k); have h3 : (qBB ws ls (k + 1)).natAbs <= (qBB ws ls k).natAbs + (ws.getD k 0 * ls.getD k 0).natAbs := by
   show (qBB ws ls k + _).natAbs <= _
   omega
  rw [Nat.succ_mul]; omega
theorem qGS (a b c x : Nat) (h : 0 < a) (hbc : b <= c) (hx : x <= a ^ b) : x <= a ^ c := Nat.le_trans hx (Nat.pow_le_pow_right h hbc)
theorem qIh : 2 ^ 200 <= LIM := qJa ▸ qGS W2 7 512 (2 ^ 200) (by decide) (by decide) (by decide)
theorem qDj {ws ls : List Int} (hw : B64 ws) (hl : B64 ls) (k : Nat) (hk : k <= 1000000) : (qBB ws ls k).natAbs < LIM := by
 have h1 := qHX hw hl k; have h2 : k * 2 ^ 126 <= 1000000 * 2 ^ 126 := Nat.mul_le_mul_right _ hk; exact Nat.lt_of_lt_of_le (Nat.lt_of_le_of_lt (Nat.le_trans h1 h2) (by decide)) qIh
theorem qKG (x y : Int) (hx : -9223372036854775808 <= x /\ x <= 9223372036854775807) (hy : -9223372036854775808 <= y /\ y <= 9223372036854775807) : (x * y).natAbs < LIM :=
 Nat.lt_of_lt_of_le (Nat.lt_of_le_of_lt (qLb x y hx hy) (by decide)) qIh
theorem qGh (x : Int) (hx : -9223372036854775808 <= x /\ x <= 9223372036854775807) : x.natAbs < LIM :=
 Nat.lt_of_lt_of_le (show x.natAbs < 2 ^ 200 from Nat.lt_of_le_of_lt (show x.natAbs <= 2 ^ 63 by omega) (by decide)) qIh
theorem Two.set0 {w : World} {b : Nat} {t : TypeId} {x y : Value} (h : Two w b t x y) (u v : Value) : Two ((w.setCell ⟨b, 0, none⟩ u).setCell ⟨b, 1, none⟩ v) b t u v := by
 unfold Two at h ⊢; simp [World.setCell, Array.getElem?_modify, h]
theorem Two.farG {w : World} {b : Nat} {t : TypeId} {x y : Value} (h : Two w b t x y) {g : Nat} (hg : b ≠ g) (o : Nat) (u : Value) : Two (w.setCell ⟨g, o, none⟩ u) b t x y := (Below.heap_setCell w ⟨g, o, none⟩ u b hg).trans h
theorem qCr (vw vl : Value) (ws ls : List Int) (w : World) (hw : qAk w vw ws) (hl : qAk w vl ls) (h1 : B64 ws) (h2 : B64 ls) (hlen : ls.length <= ws.length) (hmax : ls.length <= 1000000) :
 Calls Tryz.prog 47 #[vw, vl] w fun e w' => (∃ v, e = .returned v /\ qAq w' v (qBB ws ls ls.length)) /\ Below w.heap.size w w' := by
 obtain ⟨aw, cw, rfl, -, -⟩ := hw.form; obtain ⟨al, cl, rfl, -, -⟩ := hl.form; have HW := hZ hw; have HL := hZ hl; have H1 := hZ h1; have H2 := hZ h2; clear hw hl h1 h2; obtain ⟨bs, hbs⟩ := eX w.heap.size
 go_enter Tryz.func47, Tryz.ntmps47
 go_wp2_with fail
 obtain ⟨w1, hw1⟩ := eX ((w.alloc (.cells #[.bool false, .slice none 0 0] 73)).alloc (.cells #[.bool false, .slice none 0 0] 73)); have hB1 : Below bs w w1 := by rw [<- hw1, <- hbs]; exact aR.alloc (by simp) _
 have HT0 : Hid (Two w1 bs 73 (.bool false) (.slice none 0 0)) := hZ (by rw [<- hw1, <- hbs]; exact (Two.new w _ _ _).alloc _); have HT1 : Hid (Two w1 (bs + 1) 73 (.bool (decide ((0 : Int) < 0))) (.slice none 0 0)) := hZ (by
  have h9 := Two.new (w.alloc (.cells #[.bool false, .slice none 0 0] 73)) 73 (.bool false) (.slice none 0 0); rw [hw1] at h9; simpa [hbs] using h9)
 have HB1 := hZ hB1; rw [hw1]; clear hw1 hB1
 go_loopw [12] (fun i wr => ∃ (k : Nat) (a : Option Addr) (n c : Nat), k <= ls.length /\ i = .int .i64 k /\ Hid (Below bs w wr) /\ Hid (Two wr bs 73 (.bool false) (.slice none 0 0)) /\ Hid (Two wr (bs + 1) 73 (.bool (decide (qBB ws ls k < 0))) (.slice a n c)) /\ Hid (qAq wr (.agg #[.bool (decide (qBB ws ls k < 0)), .slice a n c]) (qBB ws ls k))) (fun i _ => ls.length - (intOf i).toNat)
 case atStart => exact ⟨0, none, 0, 0, by omega, rfl, HB1, HT0, HT1, hZ (by simpa [qBB] using qAC w1)⟩
 case round =>
  clear HB1 HT0 HT1; obtain ⟨k, sa, sn, sc, hk, rfl, HB, HT0, HT1, HS⟩ := hrel; by_cases hlt : k < ls.length
  ·have hbw : Below w.heap.size w wr := by rw [hbs]; exact HB.o
   obtain ⟨b1, cap1, hv1, hb1, n0⟩ := qAk.at_ (HL.o.below hbw) k hlt; injection hv1 with e1 e2 e3; subst e1; clear e2 e3; obtain ⟨b2, cap2, hv2, hb2, m0⟩ := qAk.at_ (HW.o.below hbw) k (by omega); injection hv2 with e1 e2 e3; subst e1; clear e2 e3; have hx1 := H2.o.at_ k hlt; have hy1 := H1.o.at_ k (by omega); have HSS : Hid (qBB ws ls (k + 1) = qBB ws ls k + ws[k] * ls[k]) := hZ (by
    show qBB ws ls k + ws.getD k 0 * ls.getD k 0 = _
    rw [List.getD_eq_getElem?_getD, List.getD_eq_getElem?_getD, List.getElem?_eq_getElem hlt, List.getElem?_eq_getElem (show k < ws.length by omega)]; rfl)
   have HSL := hZ (qDj H1.o H2.o k (by omega)); have HSL2 := hZ (qDj H1.o H2.o (k + 1) (by omega)); generalize ls[k] = x at *; generalize ws[k]'_ = y at *; have i1 : (0 : Int) <= (k : Int) := by omega
   have i2 : (k : Int) < (ls.length : Int) := by omega
   have i3 : (k : Int) < (ws.length : Int) := by omega
   have HPL := hZ (qKG y x hy1 hx1); clear hbw; by_cases hx0 : x = 0
   ·have HE : Hid (qBB ws ls (k + 1) = qBB ws ls k) := hZ (by rw [HSS.o, hx0]; simp)
    subst hx0
    go_wp2_with fail
    go_roundw
    case rel => exact ⟨k + 1, sa, sn, sc, by omega, by go_num, HB, HT0, by rw [HE.o]; exact HT1, by rw [HE.o]; exact HS⟩
    case measure => simp [intOf]; omega
   ·by_cases hy0 : y = 0
    ·have HE : Hid (qBB ws ls (k + 1) = qBB ws ls k) := hZ (by rw [HSS.o, hy0]; simp)
     subst hy0; have q1 : (x != 0) = true := by simpa using hx0
     go_wp2_with fail
     go_roundw
     case rel => exact ⟨k + 1, sa, sn, sc, by omega, by go_num, HB, HT0, by rw [HE.o]; exact HT1, by rw [HE.o]; exact HS⟩
     case measure => simp [intOf]; omega
    ·have q1 : (x != 0) = true := by simpa using hx0
     have q2 : (y != 0) = true := by simpa using hy0
     go_wp2_with fail
     refine (qGj y wr hy1.1 hy1.2).mono ?_; rintro e w2 ⟨v2, rfl, hI2, hB2⟩; have HI2 := hZ hI2; have HBr := hZ hB2; clear hI2 hB2
     go_wp2_with fail
     refine (qGj x w2 hx1.1 hx1.2).mono ?_; rintro e w3 ⟨v3, rfl, hI3, hB3⟩; replace HI2 := hZ (HI2.o.below hB3); replace HBr := hZ (HBr.o.trans (hB3.mono HBr.o.size)); have HI3 := hZ hI3; clear hI3 hB3
     go_wp2_with fail
     refine (qLn v2 v3 y x w3 HI2.o HI3.o (qGh y hy1) (qGh x hx1)).mono ?_; rintro e w4 hP; obtain ⟨pa, pn, pc, rfl, hPm, hB4⟩ := hP.ok HPL.o; have HP : Hid (qAq w4 (.agg #[.bool (decide (y * x < 0)), .slice pa pn pc]) (y * x)) := hZ ⟨_, rfl, hPm⟩; replace HBr := hZ (HBr.o.trans (hB4.mono HBr.o.size)); clear hP hPm hB4 HI2 HI3; generalize decide (y * x < 0) = sp at *; obtain ⟨w5, hw5⟩ := eX (w4.alloc (.cells #[.bool sp, .slice pa pn pc] 73)); have hB5 : Below w4.heap.size w4 w5 := by rw [<- hw5]; exact aR
     have HT5 : Hid (Two w5 w4.heap.size 73 (.bool sp) (.slice pa pn pc)) := hZ (by rw [<- hw5]; exact Two.new _ _ _ _); replace HP := hZ (HP.o.below hB5); replace HBr := hZ (HBr.o.trans (hB5.mono HBr.o.size)); have HT15 := hZ (HT1.o.below HBr.o HT1.o.lt); have HS5 := hZ (HS.o.below HBr.o); generalize hss : decide (qBB ws ls k < 0) = ss at *; have p0 := HT5.o.cell0; have p1 := HT5.o.cell1; have s0 := HT15.o.cell0; have s1 := HT15.o.cell1; clear hB5 hss
     go_wp2_with fail
     clear hw5 p0 p1 s0 s1; refine (qIK _ _ _ _ w5 HS5.o HP.o HSL.o HPL.o).mono ?_; rintro e w6 hQ; have hsm := HSL2.o; rw [HSS.o] at hsm; obtain ⟨qa, qn, qc, rfl, hQm, hB6⟩ := hQ.ok hsm; rw [<- HSS.o] at hQm ⊢; have HQ : Hid (qAq w6 (.agg #[.bool (decide (qBB ws ls (k + 1) < 0)), .slice qa qn qc]) (qBB ws ls (k + 1))) := hZ ⟨_, rfl, hQm⟩; have HB6 := hZ (HBr.o.trans (hB6.mono HBr.o.size)); have hT16 := HT1.o.below HB6.o HT1.o.lt; have s0 := hT16.cell0; have s1 := hT16.cell1; have f0 := hT16.frozen 0; have f1 := hT16.frozen 1; have HT16 := hZ hT16; have HT06 := hZ (HT0.o.below HB6.o HT0.o.lt); generalize hsq : decide (qBB ws ls (k + 1) < 0) = sq at *; obtain ⟨w7, hw7⟩ := eX ((w6.setCell ⟨bs + 1, 0, none⟩ (.bool sq)).setCell ⟨bs + 1, 1, none⟩ (.slice qa qn qc)); have HB7 : Hid (Below bs w w7) := hZ (by
      rw [<- hw7]; have h9 := HB.o.trans (HB6.o.mono (by have := HB.o.size; omega)); exact (h9.setCell (p := ⟨bs + 1, 0, none⟩) (by simp) _).setCell (p := ⟨bs + 1, 1, none⟩) (by simp) _)
     have HT07 : Hid (Two w7 bs 73 (.bool false) (.slice none 0 0)) := hZ (by rw [<- hw7]; exact (HT06.o.farG (g := bs + 1) (by omega) 0 _).farG (g := bs + 1) (by omega) 1 _); have HT17 : Hid (Two w7 (bs + 1) 73 (.bool sq) (.slice qa qn qc)) := hZ (by rw [<- hw7]; exact HT16.o.set0 _ _); have HQ7 : Hid (qAq w7 (.agg #[.bool sq, .slice qa qn qc]) (qBB ws ls (k + 1))) := hZ (by
      obtain ⟨vw, hv, hm⟩ := HQ.o; rw [<- hw7]; exact ⟨vw, hv, qAb.store_two hm HT16.o (fun _ _ h => by cases h) (fun _ _ h => by cases h) _ _⟩)
     clear hQ hsm hQm hB6 hT16 HSS
     go_wp2_with fail
     clear hw7 s0 s1 f0 f1; go_roundw
     case rel => exact ⟨k + 1, qa, qn, qc, by omega, by go_num, HB7, HT07, by rw [hsq]; exact HT17, by rw [hsq]; exact HQ7⟩
     case measure => simp [intOf]; omega
  ·obtain rfl : k = ls.length := by omega
   generalize hss : decide (qBB ws ls ls.length < 0) = ss at *; have s0 := HT1.o.cell0; have s1 := HT1.o.cell1; have r0 := HT0.o.cell0; have r1 := HT0.o.cell1; have f0 := HT0.o.frozen 0; have f1 := HT0.o.frozen 1
   go_wp2_with fail
   have hTz := HT0.o.set0 (.bool ss) (.slice sa sn sc); have hBz : Below w.heap.size w ((wr.setCell ⟨bs, 0, none⟩ (.bool ss)).setCell ⟨bs, 1, none⟩ (.slice sa sn sc)) := by
    rw [hbs]; exact (HB.o.setCell (p := ⟨bs, 0, none⟩) (Nat.le_refl _) _).setCell (p := ⟨bs, 1, none⟩) (Nat.le_refl _) _
   have hSz : qAq ((wr.setCell ⟨bs, 0, none⟩ (.bool ss)).setCell ⟨bs, 1, none⟩ (.slice sa sn sc)) (.agg #[.bool ss, .slice sa sn sc]) (qBB ws ls ls.length) := by
    obtain ⟨vw, hv, hm⟩ := HS.o; exact ⟨vw, hv, qAb.store_two hm HT0.o (fun _ _ h => by cases h) (fun _ _ h => by cases h) _ _⟩
   have z0 := hTz.cell0; have z1 := hTz.cell1; exact bodyPost_ret (v := .agg #[.bool ss, .slice sa sn sc]) (by simp [results, Tryz.results47, go_sem, z0, z1]) rfl ⟨⟨_, rfl, hSz⟩, hBz⟩
def qKl (n : Nat) (f : Nat -> Int) : List Int := (List.range n).map f
theorem qJn (n : Nat) (f : Nat -> Int) : (qKl n f).length = n := by simp [qKl]
theorem qIw {n M : Nat} {lt lg : List Amt} (h1 : qBD n 1000 2 lt) (h2 : qBD n 1000 2 lg) (i : Nat) : -2000 <= qE8 lt lg i /\ qE8 lt lg i <= 2000 := by
 have a := qCl h1 i; have b := qCl h2 i; unfold qE8; omega
theorem qMB {c : Cat} (hg : qKz c) {x : Nat × (Nat -> Int)} (h : x ∈ qDD c) : x.1 < c.rules.length /\ ∀ i, -2000 <= x.2 i /\ x.2 i <= 2000 := by
 obtain ⟨r, hr, l, hl, he, hs, h5, h6, h7⟩ := qF3 c.rules 0 x h; have hgr := hg.each r hr; refine ⟨by omega, fun i => ?_⟩; rw [he]; unfold qER at hl
 split at hl
 ·simp only [List.mem_cons, List.not_mem_nil, or_false] at hl
  rcases hl with rfl | rfl
  ·exact qIw (M := 0) hgr.take hgr.give i
  ·exact qIw (M := 0) hgr.take hgr.back i
 ·simp only [List.mem_cons, List.not_mem_nil, or_false] at hl
  subst hl; exact qIw (M := 0) hgr.take hgr.give i
theorem qLT {c : Cat} (hg : qKz c) {x : Nat × (Nat -> Int)} (h : x ∈ qDD c) (n : Nat) : B64 (qKl n x.2) := by
 intro i hi; obtain ⟨q, _, rfl⟩ := List.mem_map.1 hi; have := (qMB hg h).2 q; omega
def qFX (ws : List Int) (n : Nat) (f : Nat -> Int) : Int := qBB ws (qKl n f) (qKl n f).length
def qD8 (c : Cat) (ws : List Int) : Bool := decide (ws.length = c.items.length) && (qDD c).all (fun x => decide (qFX ws c.items.length x.2 = 0))
structure HoJ (Wb : World) (c : Cat) (ws : List Int) (rb l n0 : Nat) (rec : LoopState -> Option Code -> Loop) (k : Nat) (W : World) : Prop where
 on : qAc (fun b => b = rb \/ b = l \/ n0 <= b) Wb W
 sz : n0 <= W.heap.size
 rd : W.heap[l]? = some (.loop (rec .ready none))
 r : One W rb 4 (.bool false)
 no : ∀ q x, q < k -> (qDD c)[q]? = some x -> qFX ws c.items.length x.2 = 0
theorem HoJ.below {Wb : World} {c : Cat} {ws : List Int} {rb l n0 : Nat} {rec : LoopState -> Option Code -> Loop} {k : Nat} {W W' : World} (h : HoJ Wb c ws rb l n0 rec k W) (hb : Below n0 W W') (h1 : rb < n0) (h2 : l < n0) : HoJ Wb c ws rb l n0 rec k W' :=
 ⟨h.on.trans ⟨hb.os, hb.tape, hb.output, hb.size, fun k hk hn => hb.block k (by omega)⟩, Nat.le_trans h.sz hb.size, (hb.block _ h2).trans h.rd, h.r.below hb h1, h.no⟩
structure HoX (Wb : World) (c : Cat) (ws : List Int) (rb l n0 : Nat) (rec : LoopState -> Option Code -> Loop) (W : World) : Prop where
 on : qAc (fun b => b = rb \/ b = l \/ n0 <= b) Wb W
 rd : W.heap[l]? = some (.loop (rec .done (some .ret)))
 r : One W rb 4 (.bool false)
 ex : qD8 c ws = false
theorem qDz (x : Int) : qAB x 0 = 0 ↔ x = 0 := by
 unfold qAB
 split
 ·omega
 ·split <;> omega
theorem qLG (vi vr vw : Value) (c : Cat) (ws : List Int) (w : World) (hc : qBF w vi vr c) (hf : qNJ c) (hw : qAk w vw ws) (h64 : B64 ws) (hK : qAY w) :
 CallsIn Fence.wide 31 Tryz.prog 15 #[qDd vi vr, vw] w fun e w' => e = .returned (.bool (qD8 c ws)) /\ Below w.heap.size w w' := by
 obtain ⟨ai, ci, rfl, hi1, hi2⟩ := hc.items.form; obtain ⟨ar, cr, rfl, hr1, hr2⟩ := hc.rules.form; obtain ⟨aw, cw, rfl, -, -⟩ := hw.form; have HC := hZ hc; have HF := hZ hf; have HK := hZ hK; have HW := hZ hw; have H64 := hZ h64; have hli := hf.good.items; clear hc hf hK hw h64; unfold qDd; refine callsIn_of_wp_marks Tryz.func15 rfl trivial ?_ rfl; simp only [Tryz.ntmps15, List.size_toArray, List.length_cons, List.length_nil, Nat.reduceAdd, Nat.reduceSub, Array.replicate_succ, Array.replicate_zero, List.push_toArray, List.append_toArray, List.nil_append, List.cons_append]; refine wpIn_wide.2 ?_; obtain ⟨w1, hw1⟩ := eX ((((w.alloc (.cells #[.slice ai c.items.length ci, .slice ar c.rules.length cr, .slice none 0 0, .slice none 0 0] 28)).alloc (.cells #[.slice aw ws.length cw] 22)).alloc (.cells #[.bool false] 4))); have hB : ∀ (X : World) (o : Obj), Below X.heap.size X (X.alloc o) := fun X o => aR; have HB : Hid (Below w.heap.size w w1) := hZ (by rw [<- hw1]; exact (aR.alloc (by simp) _).alloc (by simp; omega) _); have HX : Hid (qCp w1 w.heap.size (.slice ai c.items.length ci) (.slice ar c.rules.length cr)) := hZ (by rw [<- hw1]; exact ((qCp.new w _ _).below (hB _ _)).below (hB _ _)); have HWB : Hid (One w1 (w.heap.size + 1) 22 (.slice aw ws.length cw)) := hZ (by
  rw [<- hw1]; have h9 := (One.new (w.alloc (.cells #[.slice ai c.items.length ci, .slice ar c.rules.length cr, .slice none 0 0, .slice none 0 0] 28)) 22 (.slice aw ws.length cw)).alloc (.cells #[.bool false] 4); simpa using h9)
 have HRB : Hid (One w1 (w.heap.size + 2) 4 (.bool false)) := hZ (by
  rw [<- hw1]; have h9 := One.new ((w.alloc (.cells #[.slice ai c.items.length ci, .slice ar c.rules.length cr, .slice none 0 0, .slice none 0 0] 28)).alloc (.cells #[.slice aw ws.length cw] 22)) 4 (.bool false); simpa using h9)
 have m0 := HX.o.c0; have m1 := HX.o.c1; have m2 := HX.o.c2; have m3 := HX.o.c3; have mw := HWB.o.cell; have mr := HRB.o.cell; have mlt := HX.o.lt; clear hB
 go_wp2_with fail
 clear hw1; refine (qCE _ _ c w1 (HC.o.below HB.o) HF.o.good HF.o.named HF.o.ni HF.o.nr (HK.o.keep HB.o)).mono ?_; rintro e w2 ⟨rfl, hB⟩; replace HB := bT HB hB; replace HX := hZ (HX.o.below hB); replace HWB := hZ (HWB.o.below hB HWB.o.lt); replace HRB := hZ (HRB.o.below hB HRB.o.lt); clear hB m0 m1 m2 m3 mw mr mlt; have m0 := HX.o.c0; have m1 := HX.o.c1; have m2 := HX.o.c2; have m3 := HX.o.c3; have mw := HWB.o.cell; have mr := HRB.o.cell; have mlt := HX.o.lt; have mrf := HRB.o.frozen; by_cases hle : ws.length = c.items.length
 ·have q1 : ((ws.length : Int) != (c.items.length : Int)) = false := by simp [hle]
  have q2 : (ws.length != c.items.length) = false := by simp [hle]
  have HLE := hZ hle; clear hle
  go_wp2_with fail
  clear q1 q2; clear m0 m1 m2 m3 mw mr mlt mrf; refine (qC4 _ _ _ _ _ _ w2).mono ?_; rintro e w' ⟨rfl, hw'⟩; obtain ⟨wq, hwq⟩ := eX w'; rw [hwq] at hw' ⊢; clear hwq; have hBq : Below w2.heap.size w2 wq := by rw [<- hw']; exact aR
  have hbc : qCp wq w2.heap.size (.slice ai c.items.length ci) (.slice ar c.rules.length cr) := by rw [<- hw']; exact qCp.new _ _ _
  have hzq : wq.heap.size = w2.heap.size + 1 := by rw [<- hw']; simp
  go_wp2_with fail
  refine (wpIn_wide (n := 31)).1 ?_; refine qCI rfl (by omega) (gf := 109) (lb := #[.pointer (some ⟨w2.heap.size, 0, none⟩)]) rfl trivial (enters_of Tryz.func109 (by kernel_rfl) rfl) ?_; intro fn _; generalize hrec : qDN fn _ _ _ _ _ = rec; obtain ⟨Wb, hWb⟩ := eX ((wq.alloc (.deferred (some []))).alloc (.loop (rec .ready none))); rw [hWb]; obtain ⟨lD, hlD⟩ := eX wq.heap.size; have hBb : Below lD wq Wb := by rw [<- hWb, <- hlD]; exact aR.alloc (by simp) _
  have hD : Wb.heap[lD]? = some (.deferred (some [])) := by
   rw [<- hWb, <- hlD]; exact (Below.heap_alloc _ _ _ (by simp)).trans (World.alloc_heap_new _ _)
  have hL : Wb.heap[lD + 1]? = some (.loop (rec .ready none)) := by
   have h9 := World.alloc_heap_new (wq.alloc (.deferred (some []))) (.loop (rec .ready none)); rw [hWb] at h9; simpa [hlD] using h9
  have hzb : Wb.heap.size = lD + 1 + 1 := by rw [<- hWb]; simp [hlD]
  rw [hlD] at hrec ⊢; obtain ⟨n0, hn0⟩ := eX (lD + 1 + 1); obtain ⟨l, hl⟩ := eX (lD + 1); obtain ⟨rb, hrb⟩ := eX (w.heap.size + 1 + 1); obtain ⟨wb, hwb⟩ := eX (w.heap.size + 1); obtain ⟨bc, hbcq⟩ := eX w2.heap.size; have hlD2 : lD = bc + 1 := by omega
  have hrw : w.heap.size + 2 = rb := by omega
  rw [hrb, hwb, hbcq] at hrec ⊢; rw [hl] at hL ⊢; rw [hrw] at HRB; rw [hwb] at HWB; rw [hn0] at hzb; rw [hbcq] at hbc; have hrl : rb < bc := by have := HRB.o.lt; omega
  have hB2b : Below bc w2 Wb := by
   have h9 : Below bc w2 wq := by rw [<- hbcq]; exact hBq
   exact h9.trans (hBb.mono (by omega))
  have hbelb : Below w.heap.size w Wb := HB.o.trans (hB2b.mono (by have := HB.o.size; omega)); have hbcb := hbc.below (show Below wq.heap.size wq Wb by rw [hlD]; exact hBb); have hRBb : One Wb rb 4 (.bool false) := HRB.o.below hB2b hrl; have hWBb : One Wb wb 22 (.slice aw ws.length cw) := HWB.o.below hB2b (by omega); have HBE := hZ hbelb; have HBC := hZ hbcb; have HWBb := hZ hWBb; have HDb := hZ hD; have HJ0 : Hid (HoJ Wb c ws rb l n0 rec 0 Wb) := hZ ⟨qAc.refl _ _, by omega, hL, hRBb, fun q x hq => by omega⟩; have HZ := hZ hzb; clear hBq hbc hw' hzq hWb hBb hD hL hzb hB2b hbelb hbcb hRBb hWBb HX HWB HRB hlD; have hY : ∀ (k i : Nat) (f : Nat -> Int) (W : World), (qDD c)[k]? = some (i, f) -> HoJ Wb c ws rb l n0 rec k W -> qAo W n0 3 (qCT c.items.length f) -> YieldAt Fence.wide 29 Tryz.prog l #[.int .i64 (i : Int), .slice (some ⟨n0, 0, none⟩) c.items.length c.items.length] W fun e W' =>
   ((e = .returned (.bool true) /\ HoJ Wb c ws rb l n0 rec (k + 1) W') \/ (e = .returned (.bool false) /\ HoX Wb c ws rb l n0 rec W')) /\ qBk n0 W W' := by
   intro k i f W hk hJ hbk; have hl9 := hJ.rd; rw [<- hrec] at hl9; refine qBJ trivial hl9 rfl ?_; rw [hrec] at hl9 ⊢; have Hrec := hZ hrec; clear hrec; obtain ⟨W2, hW2⟩ := eX (W.putObj l (.loop (rec .busy none))); have hO2 : qAc (fun b => b = l) W W2 := by rw [<- hW2]; exact qAm _ _ _
   have hll : l < W.heap.size := by have := hJ.sz; omega
   have hl2 : W2.heap[l]? = some (.loop (rec .busy none)) := by rw [<- hW2]; exact World.putObj_heap_same hll
   have HJ := hZ hJ; have HO2 := hZ hO2; have Hl2 := hZ hl2; have Hl9 := hZ hl9; have Hk := hZ hk; have Hbk := hZ (hbk.only hO2 (by omega)); have Hr2 := hZ (hO2.one hJ.r (by omega)); have HW2 := hZ (hO2.one (hJ.on.one HWBb.o (by omega)) (by omega)); have Hb2 : Hid (Below w.heap.size w W2) := hZ ((hJ.on.trans (hO2.mono (fun b hb => .inr (.inl hb)))).below HBE.o HBE.o.size (fun b hb => by omega)); have mw := HW2.o.cell; have hsz := hJ.sz; clear hl9 hll hJ hk hbk hO2 hl2
   gi_wp2
   refine ⟨Hl9.o, ?_⟩; clear hW2
   repeat (first | go_values | gi_guarded | gi_step | gi_upon)
   have hmem : (i, f) ∈ qDD c := List.mem_of_getElem? Hk.o; have h64e := qLT HF.o.good hmem c.items.length; have hel := qJn c.items.length f; have hwa := qCr (.slice aw ws.length cw) (.slice (some ⟨n0, 0, none⟩) c.items.length c.items.length) ws (qKl c.items.length f) W2 (HW.o.below Hb2.o) (qE3 Hbk.o (by omega)) H64.o h64e (by rw [hel, HLE.o]; exact Nat.le_refl _) (by omega); have hsl := qDj H64.o h64e (qKl c.items.length f).length (by omega); obtain ⟨sm, hsm⟩ := eX (qBB ws (qKl c.items.length f) (qKl c.items.length f).length); rw [hsm] at hwa hsl; have HSM : Hid (qFX ws c.items.length f = sm) := hZ hsm; have HSL := hZ hsl; refine ⟨trivial, qBI (hwa.mono ?_)⟩; clear hwa h64e hel hsl hsm hmem mw; rintro e W3 ⟨⟨v3, rfl, hI3⟩, hB3⟩; have HI3 := hZ hI3; have HB3 := hZ hB3; clear hI3 hB3; simp only []
   repeat (first | go_values | gi_guarded | gi_step | gi_upon)
   have hsg := qF0 v3 sm W3 HI3.o HSL.o; refine ⟨trivial, qBI (hsg.mono ?_)⟩; clear hsg; rintro e W4 ⟨rfl, hB4⟩; have HB4 := hZ (HB3.o.trans (hB4.mono HB3.o.size)); clear hB4; simp only []; have hr4 := Hr2.o.below HB4.o Hr2.o.lt; have mr := hr4.cell; have mf := hr4.frozen; have HO4 : Hid (qAc (fun b => b = l) W W4) := hZ (HO2.o.trans (qAc.of_below HB4.o)); have Hl4 : Hid (W4.heap[l]? = some (.loop (rec .busy none))) := hZ ((HB4.o.block _ (Array.getElem?_eq_some_iff.1 Hl2.o).1).trans Hl2.o); have HR4 := hZ hr4; clear hr4; by_cases hs0 : sm = 0
   ·have q3 : (qAB sm 0 != 0) = false := by rw [(qDz sm).2 hs0]; rfl
    obtain ⟨cm, hcm⟩ := eX (qAB sm 0); rw [hcm] at q3 ⊢; clear hcm
    repeat (first | go_values | gi_guarded | gi_step | gi_upon)
    clear mr mf; refine ⟨Hl4.o, ?_⟩; have hOY := qAm W4 l (.loop (rec .ready none)); have hrY : (W4.putObj l (.loop (rec .ready none))).heap[l]? = some (.loop (rec .ready none)) := World.putObj_heap_same (Array.getElem?_eq_some_iff.1 Hl4.o).1; obtain ⟨Y, hY⟩ := eX (W4.putObj l (.loop (rec .ready none))); rw [hY] at hOY hrY ⊢; have hS1 : qAc (fun b => b = l) W Y := HO4.o.trans hOY; refine ⟨.inl ⟨rfl, HJ.o.on.trans (hS1.mono (fun b hb => .inr (.inl hb))), Nat.le_trans hsz hS1.size, hrY, hS1.one HJ.o.r (by omega), fun q x hq hx => ?_⟩, (qBH hS1 (fun b hb => by omega)).keepsT⟩; rcases Nat.lt_or_ge q k with h | h
    ·exact HJ.o.no q x h hx
    ·obtain rfl : q = k := by omega
     rw [Hk.o] at hx; injection hx with hx; rw [<- hx]
     show qFX ws c.items.length f = 0
     rw [HSM.o, hs0]
   ·have q3 : (qAB sm 0 != 0) = true := by simpa using fun h => hs0 ((qDz sm).1 h)
    obtain ⟨cm, hcm⟩ := eX (qAB sm 0); rw [hcm] at q3 ⊢; clear hcm
    repeat (first | go_values | gi_guarded | gi_step | gi_upon)
    clear mr mf; obtain ⟨W5, hW5⟩ := eX (W4.setCell ⟨rb, 0, none⟩ (.bool false)); have hO5 : qAc (fun b => b = rb) W4 W5 := by rw [<- hW5]; exact (qAc.refl (fun b => b = rb) W4).set (p := ⟨rb, 0, none⟩) rfl _
    have hr5 : One W5 rb 4 (.bool false) := by rw [<- hW5]; exact HR4.o.set _
    have hl5 : W5.heap[l]? = some (.loop (rec .busy none)) := (hO5.block _ (Array.getElem?_eq_some_iff.1 Hl4.o).1 (by omega)).trans Hl4.o; rw [hW5]; refine ⟨hl5, ?_⟩; have hOY := qAm W5 l (.loop (rec .done (some .ret))); have hrY : (W5.putObj l (.loop (rec .done (some .ret)))).heap[l]? = some (.loop (rec .done (some .ret))) := World.putObj_heap_same (Array.getElem?_eq_some_iff.1 hl5).1; obtain ⟨Y, hY⟩ := eX (W5.putObj l (.loop (rec .done (some .ret)))); rw [hY] at hOY hrY ⊢; have hS1 : qAc (fun b => b = rb \/ b = l) W Y := ((HO4.o.mono (fun b hb => .inr hb)).trans (hO5.mono (fun b hb => .inl hb))).trans (hOY.mono (fun b hb => .inr hb)); refine ⟨.inr ⟨rfl, HJ.o.on.trans (hS1.mono (fun b hb => by omega)), hrY, hOY.one hr5 (by omega), ?_⟩, (qBH hS1 (fun b hb => by omega)).keepsT⟩; have hmem : (i, f) ∈ qDD c := List.mem_of_getElem? Hk.o; unfold qD8; rw [Bool.and_eq_false_iff]
    right
    rw [List.all_eq_false]; exact ⟨(i, f), hmem, by simp only [decide_eq_true_eq]; rw [HSM.o]; exact hs0⟩
  have hE : qPG n0 l bc w (.slice ai c.items.length ci) (.slice ar c.rules.length cr) c (HoJ Wb c ws rb l n0 rec) (HoX Wb c ws rb l n0 rec) := by
   refine ⟨fun k W W' h hb => h.below (hb.below (Below.refl _ _) h.sz (fun _ hk => Nat.le_of_eq hk.symm)) (by omega) (by omega), HC.o, by have := HBE.o.size; have := HZ.o; omega, fun k W h => ⟨h.sz, ?_, h.on.below HBE.o HBE.o.size (fun b hb => by omega)⟩, by omega, hY⟩; have hx := HBC.o; have hnb : ¬ ((fun b => b = rb \/ b = l \/ n0 <= b) bc) := by simp only []; omega
   exact ⟨Nat.lt_of_lt_of_le hx.lt h.on.size, (h.on.cell (p := ⟨bc, 0, none⟩) hnb hx.lt).trans hx.c0, (h.on.cell (p := ⟨bc, 1, none⟩) hnb hx.lt).trans hx.c1, (h.on.cell (p := ⟨bc, 2, none⟩) hnb hx.lt).trans hx.c2, (h.on.cell (p := ⟨bc, 3, none⟩) hnb hx.lt).trans hx.c3⟩
  have hsq := qCv (l := l) (bc := bc) Wb (by rw [HZ.o]; exact hE) HF.o.good HJ0.o; refine (callsIn_wide.2 (by simpa using hsq)).mono ?_; clear hsq hE hY HJ0; rintro e W3 ⟨hv, hE⟩; refine ⟨hv, ?_⟩; clear hv hrec; rcases hE with hE | hE
  ·refine .inl ⟨hE.rd, ?_⟩
   have HHB : Hid (qD8 c ws = true) := hZ (by
    unfold qD8; rw [Bool.and_eq_true, decide_eq_true_eq, List.all_eq_true]; refine ⟨HLE.o, fun x hx => ?_⟩; obtain ⟨q, hq, hqe⟩ := List.mem_iff_getElem.1 hx; rw [decide_eq_true_eq]; exact hE.no q x hq (by rw [List.getElem?_eq_getElem hq, hqe]))
   have hO4 := qAm W3 l (.loop (rec .exhausted none)); obtain ⟨W4, hW4⟩ := eX (W3.putObj l (.loop (rec .exhausted none))); rw [hW4] at hO4 ⊢; have HO4 := hZ (hE.on.trans (hO4.mono (fun b hb => .inr (.inl hb)))); have hr4 := hO4.one hE.r (by omega); have p3 := hr4.cell; have g3 := hr4.frozen; have HR4 := hZ hr4; clear hW4 hO4 hE hr4; simp only [Exit.inBlock, Exit.then]
   repeat (first | go_values | go_step)
   clear p3 g3; obtain ⟨X, hX⟩ := eX (W4.setCell ⟨rb, 0, none⟩ (.bool true)); have hOX : qAc (fun b => b = rb) W4 X := by rw [<- hX]; exact (qAc.refl (fun b => b = rb) W4).set (p := ⟨rb, 0, none⟩) rfl _
   have hrX : One X rb 4 (.bool true) := by rw [<- hX]; exact HR4.o.set _
   rw [hX]; have hOX2 := HO4.o.trans (hOX.mono (fun b hb => .inl hb)); have hDX : X.heap[lD]? = some (.deferred (some [])) := (hOX2.block _ (by have := HZ.o; omega) (by omega)).trans HDb.o; refine ⟨by simp, .inl ⟨_, _, rfl, run_takeDeferred hDX, ?_⟩⟩; have hO5 := qAm X lD (.deferred none); obtain ⟨Y, hY⟩ := eX (X.putObj lD (.deferred none)); rw [hY] at hO5 ⊢; have d3 := (hO5.one hrX (by omega)).cell; have hBY : Below w.heap.size w Y := by
    have h1 : qAc (fun b => b = rb \/ b = l \/ n0 <= b \/ b = lD) Wb Y := (hOX2.mono (fun b hb => by omega)).trans (hO5.mono (fun b hb => by omega)); exact h1.below HBE.o HBE.o.size (fun b hb => by omega)
   refine ⟨.bool true, by simp [results, Tryz.results15, go_sem, d3], ?_, hBY⟩; rw [HHB.o]
  ·refine .inr ⟨hE.rd, ?_⟩
   have hO4 := qAm W3 l (.loop (rec .exhausted (some .ret))); obtain ⟨W4, hW4⟩ := eX (W3.putObj l (.loop (rec .exhausted (some .ret)))); rw [hW4] at hO4 ⊢; have hOX2 := hE.on.trans (hO4.mono (fun b hb => .inr (.inl hb))); have hr4 := hO4.one hE.r (by omega); simp only [Exit.inBlock, Exit.then]; have hDX : W4.heap[lD]? = some (.deferred (some [])) := (hOX2.block _ (by have := HZ.o; omega) (by omega)).trans HDb.o; refine ⟨by simp, .inl ⟨_, _, rfl, run_takeDeferred hDX, ?_⟩⟩; have hO5 := qAm W4 lD (.deferred none); obtain ⟨Y, hY⟩ := eX (W4.putObj lD (.deferred none)); rw [hY] at hO5 ⊢; have d3 := (hO5.one hr4 (by omega)).cell; have hBY : Below w.heap.size w Y := by
    have h1 : qAc (fun b => b = rb \/ b = l \/ n0 <= b \/ b = lD) Wb Y := (hOX2.mono (fun b hb => by omega)).trans (hO5.mono (fun b hb => by omega)); exact h1.below HBE.o HBE.o.size (fun b hb => by omega)
   refine ⟨.bool false, by simp [results, Tryz.results15, go_sem, d3], ?_, hBY⟩; rw [hE.ex]
 ·have q1 : ((ws.length : Int) != (c.items.length : Int)) = true := by simp; omega
  have q2 : (ws.length != c.items.length) = true := by simpa using hle
  have HHB : Hid (qD8 c ws = false) := hZ (by unfold qD8; rw [decide_eq_false hle]; rfl)
  go_wp2_with fail
  obtain ⟨X, hX⟩ := eX (w2.setCell ⟨w.heap.size + 1 + 1, 0, none⟩ (.bool false)); have hrX : One X (w.heap.size + 2) 4 (.bool false) := by rw [<- hX]; exact HRB.o.set _
  have d3 := hrX.cell; have hBX : Below w.heap.size w X := by rw [<- hX]; exact HB.o.setCell (p := ⟨w.heap.size + 1 + 1, 0, none⟩) (show w.heap.size <= w.heap.size + 1 + 1 by omega) _
  rw [hX]; refine ⟨.bool false, by simp [results, Tryz.results15, go_sem, d3], ?_, hBX⟩; rw [HHB.o]
theorem qF8 (W : World) (g o : Nat) (v : Value) : qAc (fun b => b = g) W (W.setCell ⟨g, o, none⟩ v) := (qAc.refl (fun b => b = g) W).set (p := ⟨g, o, none⟩) rfl v
attribute [local go_sem] Oper.semAt_some
open Go.RowKit Go.Shelf
attribute [local go_sem] Oper.semAt_some
attribute [local go_sem] Oper.semAt_some
structure EfJ (Wb : World) (c : Cat) (R l n0 : Nat) (rec : LoopState -> Option Code -> Loop) (k : Nat) (W : World) : Prop where
 on : qAc (fun b => b = R \/ b = l \/ n0 <= b) Wb W
 sz : n0 <= W.heap.size
 rd : W.heap[l]? = some (.loop (rec .ready none))
 m : ∃ lo : List Yw, lo.length = c.items.length /\ EMt W (n0 + 1) R lo (qFx c.items.length ((qDW c).take k))
theorem EfJ.only {Wb : World} {c : Cat} {R l n0 : Nat} {rec : LoopState -> Option Code -> Loop} {k : Nat} {W W' : World} (h : EfJ Wb c R l n0 rec k W) (ho : qAc (fun b => b = n0) W W') (h1 : R < n0) (h2 : l < n0) : EfJ Wb c R l n0 rec k W' := by
 obtain ⟨lo, hl, hm⟩ := h.m; exact ⟨h.on.trans (ho.mono (fun b hb => .inr (.inr (Nat.le_of_eq hb.symm)))), Nat.le_trans h.sz ho.size, (ho.block _ (Array.getElem?_eq_some_iff.1 h.rd).1 (by omega)).trans h.rd, lo, hl, hm.only ho (by omega) (fun b hb => by omega)⟩
theorem EMt.start {w : World} {B R n : Nat} (h : qAo w R 22 (List.replicate n (.slice none 0 0))) : EMt w B R (List.replicate n (none, 0)) (List.replicate n []) := by
 refine ⟨by simp, ?_, fun i h1 h2 => ?_, fun i j h1 h2 k1 k2 g hn e1 => ?_⟩
 ·have e : List.zipWith xV (List.replicate n (none, 0)) (List.replicate n []) = List.replicate n (.slice none 0 0) := by
   refine List.ext_getElem (by simp) (fun k k1 k2 => ?_); simp [xV]
  rw [e]; exact h
 ·simp only [List.getElem_replicate, List.length_nil, List.map_nil, xV]
  exact World.ownsRow_nil _ _ _ _
 ·simp [xV, Value.ownBlock] at e1
theorem qNj (n : Nat) : qFx n [] = List.replicate n [] := by
 refine List.ext_getElem (by simp [qFx]) (fun k h1 h2 => ?_); simp [qFx]
theorem qOy {c : Cat} {k i : Nat} {f : Nat -> Int} (h : (qDD c)[k]? = some (i, f)) : ∃ hk : k < (qDW c).length, (qDW c)[k] = f := by
 obtain ⟨h1, h2⟩ := List.getElem?_eq_some_iff.1 h; exact ⟨by unfold qDW; rw [List.length_map]; exact h1, by simp only [qDW, List.getElem_map, h2]⟩
theorem qGd (vi vr : Value) (c : Cat) (w : World) (hc : qBF w vi vr c) (hf : qNJ c) (hK : qAY w) :
 CallsIn Fence.wide 31 Tryz.prog 17 #[qDd vi vr] w fun e w' => (∃ u, e = .returned (.tuple #[u, .int .i64 0]) /\ qBa w' u (qFx c.items.length (qDW c))) /\ Below w.heap.size w w' := by
 obtain ⟨ai, ci, rfl, hi1, hi2⟩ := hc.items.form; obtain ⟨ar, cr, rfl, hr1, hr2⟩ := hc.rules.form; have HC := hZ hc; have HF := hZ hf; have HK := hZ hK; have hli := hf.good.items; clear hc hf hK; unfold qDd; refine callsIn_of_wp_marks Tryz.func17 rfl trivial ?_ rfl; simp only [Tryz.ntmps17, List.size_toArray, List.length_cons, List.length_nil, Nat.reduceAdd, Nat.reduceSub, Array.replicate_succ, Array.replicate_zero, List.push_toArray, List.append_toArray, List.nil_append, List.cons_append]; refine wpIn_wide.2 ?_; obtain ⟨w1, hw1⟩ := eX (w.alloc (.cells #[.slice ai c.items.length ci, .slice ar c.rules.length cr, .slice none 0 0, .slice none 0 0] 28)); have HB : Hid (Below w.heap.size w w1) := hZ (by rw [<- hw1]; exact aR); have HX : Hid (qCp w1 w.heap.size (.slice ai c.items.length ci) (.slice ar c.rules.length cr)) := hZ (by rw [<- hw1]; exact qCp.new w _ _); have m0 := HX.o.c0; have m1 := HX.o.c1; have m2 := HX.o.c2; have m3 := HX.o.c3; have mlt := HX.o.lt
 go_wp2_with fail
 clear hw1; refine (qCE _ _ c w1 (HC.o.below HB.o) HF.o.good HF.o.named HF.o.ni HF.o.nr (HK.o.keep HB.o)).mono ?_; rintro e w2 ⟨rfl, hB⟩; replace HB := bT HB hB; replace HX := hZ (HX.o.below hB); clear hB m0 m1 m2 m3 mlt; have m0 := HX.o.c0; have m1 := HX.o.c1; have m2 := HX.o.c2; have m3 := HX.o.c3; have mlt := HX.o.lt
 go_wp2_with (at_make; refine qCq rfl rfl c.items.length rfl rfl rfl rfl (by omega) ?_)
 intro w3 hmk hB hlt3; obtain ⟨R, hR⟩ := eX w2.heap.size; have hBr := hB; rw [hR] at hmk hlt3 hBr ⊢; replace HB := bT HB hB; replace HX := hZ (HX.o.below hB); have HMK := hZ hmk; have HXR : Hid (w.heap.size < R) := hZ (by omega); clear hB hBr hmk m0 m1 m2 m3 mlt; have m0 := HX.o.c0; have m1 := HX.o.c1; have m2 := HX.o.c2; have m3 := HX.o.c3; have mlt := HX.o.lt; obtain ⟨N, hNN⟩ := eX c.items.length; have HNN := hZ hNN; obtain ⟨wm, hwm⟩ := eX (w3.alloc (.cells #[.slice (some ⟨R, 0, none⟩) N N] 30)); obtain ⟨bm, hbm⟩ := eX w3.heap.size; have hMB : One wm bm 30 (.slice (some ⟨R, 0, none⟩) N N) := by rw [<- hwm, <- hbm]; exact One.new w3 _ _
 have hBm : Below w3.heap.size w3 wm := by rw [<- hwm]; exact aR
 rw [hbm] at hlt3; replace HX := hZ (HX.o.below hBm); clear m0 m1 m2 m3 mlt; have m0 := HX.o.c0; have m1 := HX.o.c1; have m2 := HX.o.c2; have m3 := HX.o.c3; have mlt := HX.o.lt; rw [hNN] at hli m0
 go_wp2_with fail
 refine (qC4 _ _ _ _ _ _ _).mono ?_; rintro e w' ⟨rfl, hw'⟩; obtain ⟨wq, hwq⟩ := eX w'; rw [hwq] at hw' ⊢; clear hwq; have hBq : Below wm.heap.size wm wq := by rw [<- hw']; exact aR
 have hbc : qCp wq wm.heap.size (.slice ai N ci) (.slice ar c.rules.length cr) := by rw [<- hw']; exact qCp.new _ _ _
 have hzq : wq.heap.size = wm.heap.size + 1 := by rw [<- hw']; simp
 have hzm : wm.heap.size = bm + 1 := by rw [<- hwm, <- hbm]; simp
 rw [hzm] at hbc hBq hzq; have HMKm := hZ (HMK.o.below hBm (by rw [hbm]; exact hlt3)); replace HB := hZ (HB.o.trans (hBm.mono HB.o.size))
 go_wp2_with fail
 refine (wpIn_wide (n := 31)).1 ?_; refine qCI rfl (by omega) (gf := 109) (lb := #[.pointer (some ⟨bm + 1, 0, none⟩)]) rfl trivial (enters_of Tryz.func109 (by kernel_rfl) rfl) ?_; intro fn _; generalize hrec : qDN fn _ _ _ _ _ = rec; obtain ⟨Wb, hWb⟩ := eX ((wq.alloc (.deferred (some []))).alloc (.loop (rec .ready none))); rw [hWb]; obtain ⟨lD, hlD⟩ := eX wq.heap.size; have hBb : Below lD wq Wb := by rw [<- hWb, <- hlD]; exact aR.alloc (by simp) _
 have hD : Wb.heap[lD]? = some (.deferred (some [])) := by
  rw [<- hWb, <- hlD]; exact (Below.heap_alloc _ _ _ (by simp)).trans (World.alloc_heap_new _ _)
 have hL : Wb.heap[lD + 1]? = some (.loop (rec .ready none)) := by
  have h9 := World.alloc_heap_new (wq.alloc (.deferred (some []))) (.loop (rec .ready none)); rw [hWb] at h9; simpa [hlD] using h9
 have hzb : Wb.heap.size = lD + 1 + 1 := by rw [<- hWb]; simp [hlD]
 rw [hlD] at hrec ⊢; obtain ⟨n0, hn0⟩ := eX (lD + 1 + 1); obtain ⟨l, hl⟩ := eX (lD + 1); obtain ⟨bc, hbcq⟩ := eX (bm + 1); rw [hbcq] at hrec ⊢; rw [hl] at hL ⊢; rw [hn0] at hzb; rw [hbcq] at hbc hzm hzq hBq; have hlD2 : lD = bc + 1 := by omega
 have hB2b : Below bc wm Wb := by
  exact hBq.trans (hBb.mono (by omega))
 have hbelb : Below w.heap.size w Wb := HB.o.trans (hB2b.mono (by have := HB.o.size; omega)); have hbcb := hbc.below (show Below wq.heap.size wq Wb by rw [hlD]; exact hBb); have hMBb : One Wb bm 30 (.slice (some ⟨R, 0, none⟩) N N) := hMB.below hB2b (by omega); have hMKb := HMKm.o.below hB2b (by omega); have HBE := hZ hbelb; have HBC := hZ hbcb; have HMBb := hZ hMBb; have HDb := hZ hD; have hxr := HXR.o; have hbase := HBE.o.size; have HJ0 : Hid (EfJ Wb c R l n0 rec 0 Wb) := hZ ⟨qAc.refl _ _, by omega, hL, List.replicate N (none, 0), by rw [List.length_replicate, hNN], by rw [List.take_zero, qNj, hNN]; exact EMt.start (by rw [<- hNN]; exact hMKb)⟩; have HZ := hZ hzb; clear hBq hbc hw' hzq hWb hBb hD hL hzb hB2b hbelb hbcb hMBb hMKb HMKm HX hMB hBm HMK hwm m0 m1 m2 m3 mlt hlD; have hY : ∀ (k i : Nat) (f : Nat -> Int) (W : World), (qDD c)[k]? = some (i, f) -> EfJ Wb c R l n0 rec k W -> qAo W n0 3 (qCT c.items.length f) -> YieldAt Fence.wide 29 Tryz.prog l #[.int .i64 (i : Int), .slice (some ⟨n0, 0, none⟩) c.items.length c.items.length] W fun e W' =>
  ((e = .returned (.bool true) /\ EfJ Wb c R l n0 rec (k + 1) W') \/ (e = .returned (.bool false) /\ False)) /\ qBk n0 W W' := by
  intro k i f W hk hJ hbk; have hl9 := hJ.rd; rw [<- hrec] at hl9; refine qBJ trivial hl9 rfl ?_; rw [hrec] at hl9 ⊢; have Hrec := hZ hrec; clear hrec; obtain ⟨W2, hW2⟩ := eX (W.putObj l (.loop (rec .busy none))); have hO2 : qAc (fun b => b = l) W W2 := by rw [<- hW2]; exact qAm _ _ _
  have hll : l < W.heap.size := by have := hJ.sz; omega
  have hl2 : W2.heap[l]? = some (.loop (rec .busy none)) := by rw [<- hW2]; exact World.putObj_heap_same hll
  have HJ := hZ hJ; have HO2 := hZ hO2; have Hl2 := hZ hl2; have Hl9 := hZ hl9; have Hk := hZ hk; have Hbk := hZ (hbk.only hO2 (by omega)); have Hb2 : Hid (Below w.heap.size w W2) := hZ ((hJ.on.trans (hO2.mono (fun b hb => .inr (.inl hb)))).below HBE.o HBE.o.size (fun b hb => by omega)); have HMW : Hid (One W2 bm 30 (.slice (some ⟨R, 0, none⟩) N N)) := hZ (hO2.one (hJ.on.one HMBb.o (by omega)) (by omega)); have hsz := hJ.sz; clear hl9 hll hJ hk hbk hO2 hl2
  gi_wp2
  refine ⟨Hl9.o, ?_⟩; clear hW2
  repeat (first | go_values | gi_guarded | gi_step | gi_upon)
  obtain ⟨hkl, hkf⟩ := qOy Hk.o; have HKL := hZ hkl; have HKF := hZ hkf; have HM2 : Hid (∃ lo : List Yw, lo.length = N /\ EMt W2 (n0 + 1) R lo (qFQ N (qDW c) k 0)) := hZ (by
   obtain ⟨lo, h1, h2⟩ := HJ.o.m; rw [hNN] at h1; refine ⟨lo, h1, ?_⟩; rw [qL3, <- hNN]; exact h2.only HO2.o (by omega) (fun b hb => by omega))
  have HKP : Hid (qBk n0 W2 W2) := hZ ⟨Nat.le_refl _, fun _ _ _ _ h _ => h⟩; have HON : Hid (qAc (fun b => b = R \/ n0 <= b) W2 W2) := hZ (qAc.refl _ _); rw [hNN] at Hbk; clear hkf
  gi_loopw [25] (fun iv wr => ∃ j : Nat, j <= N /\ iv = .int .i64 j /\ Hid (qBk n0 W2 wr) /\ Hid (qAc (fun b => b = R \/ n0 <= b) W2 wr) /\ Hid (∃ lo : List Yw, lo.length = N /\ EMt wr (n0 + 1) R lo (qFQ N (qDW c) k j))) (fun iv _ => N - (intOf iv).toNat)
  case atStart => exact ⟨0, by omega, rfl, HKP, HON, HM2⟩
  case round =>
   clear HKP HON HM2; obtain ⟨j, hj, rfl, HKP, HON, HM⟩ := hrel; obtain ⟨wl, rfl⟩ := eY wr; by_cases hlt : j < N
   ·have i1 : (0 : Int) <= (j : Int) := by omega
    have i2 : (j : Int) < (N : Int) := by omega
    have y2 := (HKP.o.2 _ _ _ (Nat.le_refl _) Hbk.o (.inl rfl)).cell j; rw [qFk _ _ _ hlt] at y2; have hMW := HON.o.one HMW.o (by omega); have mw := hMW.cell; obtain ⟨lo, hlo, hm⟩ := HM.o; have hjl : j < lo.length := by omega
    have hjm : j < (qFQ N (qDW c) k j).length := by rw [qJw]; exact hlt
    have hrl := qNi hjm (Nat.le_of_lt HKL.o); have hk44 : k <= 44 := by have := qLU HF.o.good; have := HKL.o; omega
    have hat := hm.at_ j hjl hjm; obtain ⟨⟨ra, rc⟩, hx⟩ : ∃ x, lo[j] = x := ⟨_, rfl⟩; have hxv : xV lo[j] (qFQ N (qDW c) k j)[j] = .slice ra k rc := by rw [hx]; simp only [xV, hrl]
    rw [hxv] at hat; have HXV := hZ hxv; have HRW := hZ (hm.row j hjl hjm); rw [hxv, hrl] at HRW; have HMM := hZ hm; have HRL := hZ hrl; have hwl : n0 < wl.heap.size := by have := Hbk.o.lt; have := HKP.o.1; omega
    obtain ⟨z, hz⟩ := eX (f j); rw [hz] at y2; have HZZ := hZ hz; have HRlt := hZ (hm.blk.lt); have hbml : bm < wl.heap.size := by omega
    clear hx hxv hm hrl hz hMW
    gi_wp2
    repeat (first | go_values | gi_guarded | gi_step | gi_upon)
    clear y2; refine qJR 10 (fun x => x.cell? ⟨bm, 0, none⟩ = some (.slice (some ⟨R, 0, none⟩) N N) /\ x.cell? ⟨R, j, none⟩ = some (.slice ra k rc)) (by kernel_rfl) (by kernel_rfl) (fun _ _ h => h) ⟨mw, hat⟩ (fun hHeld => ?_); refine kU 0 30 ?_; refine kU 1 31 ?_; refine kU 2 32 ?_; refine kU 3 33 ?_; refine kU 4 34 ?_; refine kU 5 35 ?_; refine kU 6 36 ?_; refine qBO 7 (by kernel_rfl) rfl (fun K hK => ?_); go_simp; obtain ⟨w7, hw7⟩ := eX ((wl.alloc (.cells #[.int .i64 z] 3)).drew); have HK7 : Hid (qAo w7 wl.heap.size 3 [.int .i64 z]) := hZ (by rw [<- hw7]; exact (qAo.new wl _ _).drew); have hB7 : Below wl.heap.size wl w7 := by rw [<- hw7]; exact aR.drew
    have hO7 : qAc (fun _ => False) wl w7 := qAc.of_below hB7; have hs7 := hB7.size; have HO7 := hZ hO7
    try rw [hw7]
    clear hw7 hB7 hO7 hHeld; have HS7 : Hid (w7.cell? ⟨bm, 0, none⟩ = some (.slice (some ⟨R, 0, none⟩) N N) /\ w7.cell? ⟨R, j, none⟩ = some (.slice ra k rc)) := hZ ⟨(HO7.o.cell (p := ⟨bm, 0, none⟩) (fun h => h) hbml).trans mw, (HO7.o.cell (p := ⟨R, j, none⟩) (fun h => h) HRlt.o).trans hat⟩
    go_wp2_with fail
    refine hK.out _ _ (HS7.o) (fun hHeld => ?_); clear hK K
    try simp only [Act.put, sX1, sX2, sX3]
    have HRW7 := hZ (HO7.o.own HRW.o (fun _ _ h => h)); refine qBO 8 (by kernel_rfl) rfl (fun K hK => ?_); refine qJQ qE7 rfl _ _ rfl [.int .i64 z] wl.heap.size _ _ _ rfl rfl HK7.o rfl (by simp [Value.oneCell']) HRW7.o (by omega) (by omega) (by omega) ?_; intro g8 cap8 w8 Ho8 Hon8 Hat8; clear hHeld; have HS8 : Hid (w8.cell? ⟨bm, 0, none⟩ = some (.slice (some ⟨R, 0, none⟩) N N) /\ w8.cell? ⟨R, j, none⟩ = some (.slice ra k rc)) := hZ ⟨(Hon8.o.cell (p := ⟨bm, 0, none⟩) (fun h => by have h2 : n0 + 1 <= bm := (HRW7.o.lt _ h).1; omega) (Nat.lt_of_lt_of_le hbml hs7)).trans HS7.o.1, (Hon8.o.cell (p := ⟨R, j, none⟩) (fun h => by have h2 : n0 + 1 <= R := (HRW7.o.lt _ h).1; omega) (Nat.lt_of_lt_of_le HRlt.o hs7)).trans HS7.o.2⟩
    go_wp2_with fail
    refine hK.out _ _ (HS8.o) (fun hHeld => ?_); clear hK K
    try simp only [Act.put, sX1, sX2, sX3]
    refine kU 9 39 ?_; have HM7 := hZ (HMM.o.only HO7.o (fun h => h) (fun _ h => h.elim)); have hM9 := HM7.o.app hjl hjm (g := g8) (cap := cap8) (z := z) (by omega) (by rw [HRL.o]; exact Ho8.o) (by rw [HXV.o]; exact Hon8.o) (by rw [HXV.o]; exact Hat8.o); have hK8 : qBk n0 W2 w8 := HM7.o.keeps (R' := R) (HKP.o.set HO7.o (fun _ _ h => h)) rfl hjl hjm (by rw [HXV.o]; exact Hon8.o); have e3 := ((HM7.o.blk.only (S := fun b => (Value.slice ra k rc).ownBlock = some b) Hon8.o (fun h => by have := (HRW7.o.lt _ h).1; omega))).frozen j; rw [HRL.o] at hM9; obtain ⟨w9, hw9⟩ := eX (w8.setCell ⟨R, j, none⟩ (.slice (some ⟨g8, 0, none⟩) (k + 1) cap8)); have hO9 : qAc (fun b => b = R) w8 w9 := by rw [<- hw9]; exact (qAc.refl (fun b => b = R) w8).set (p := ⟨R, j, none⟩) rfl _
    rw [hw9] at hM9; have HM9 : Hid (∃ lo : List Yw, lo.length = N /\ EMt w9 (n0 + 1) R lo (qFQ N (qDW c) k (j + 1))) := hZ ⟨lo.set j (some ⟨g8, 0, none⟩, cap8), by rw [List.length_set]; exact hlo, by rw [<- qL4 hjm HKL.o, HKF.o, HZZ.o]; exact hM9⟩; have HK9 : Hid (qBk n0 W2 w9) := hZ (hK8.set hO9 (fun b hb => by omega)); have HO9 : Hid (qAc (fun b => b = R \/ n0 <= b) W2 w9) := hZ (((HON.o.trans (HO7.o.mono (fun _ h => h.elim))).trans (Hon8.o.mono (fun b h => by have := (HRW7.o.lt _ h).1; omega))).trans (hO9.mono (fun b h => .inl h))); clear hHeld; have e4 := HS8.o.2; refine qOg (by kernel_rfl) rfl (by kernel_rfl) (fun K hK => ?_); go_simp; refine hK.out _ _ ?_; clear hK K
    try simp only [Act.put, sX1, sX2, sX3]
    clear e3 e4 hM9 hK8 hO9 HM7 HS8 HS7 HRW7 HRW HK7 HKP HON HM HMM hat mw
    try rw [hw9]
    clear hw9
    gi_wp2
    repeat (first | go_values | gi_guarded | gi_step | gi_upon)
    go_roundw
    case rel => exact ⟨j + 1, by omega, by go_num, HK9, HO9, HM9⟩
    case measure => simp [intOf]; omega
   ·have hje : j = N := by omega
    subst hje
    gi_wp2
    repeat (first | go_values | gi_guarded | gi_step | gi_upon)
    have hlw : wl.heap[l]? = some (.loop (rec .busy none)) := (HON.o.block _ (Array.getElem?_eq_some_iff.1 Hl2.o).1 (by omega)).trans Hl2.o; refine ⟨hlw, ?_⟩; have hOY := qAm wl l (.loop (rec .ready none)); have hrY : (wl.putObj l (.loop (rec .ready none))).heap[l]? = some (.loop (rec .ready none)) := World.putObj_heap_same (Array.getElem?_eq_some_iff.1 hlw).1; obtain ⟨Y, hY⟩ := eX (wl.putObj l (.loop (rec .ready none))); rw [hY] at hOY hrY ⊢; have hKY : qBk n0 W Y := (HKP.o.pre HO2.o (fun b hb => by omega)).set hOY (fun b hb => by omega); obtain ⟨lo, hlo, hm⟩ := HM.o; refine ⟨⟨rfl, HJ.o.on.trans (((HO2.o.mono (fun b hb => .inr (.inl hb))).trans (HON.o.mono (fun b hb => by omega))).trans (hOY.mono (fun b hb => .inr (.inl hb)))), Nat.le_trans hsz hKY.1, hrY, lo, by rw [hNN]; exact hlo, ?_⟩, hKY⟩; rw [qL5] at hm; rw [hNN]; exact hm.only hOY (by omega) (fun b hb => by omega)
 have hE : qPG n0 l bc w (.slice ai c.items.length ci) (.slice ar c.rules.length cr) c (EfJ Wb c R l n0 rec) (fun _ => False) := by
  refine ⟨fun k W W' h ho => h.only ho (by omega) (by omega), HC.o, by have := HBE.o.size; have := HZ.o; omega, fun k W h => ⟨h.sz, ?_, h.on.below HBE.o HBE.o.size (fun b hb => by omega)⟩, by omega, hY⟩; have hx := HBC.o; have hnb : ¬ ((fun b => b = R \/ b = l \/ n0 <= b) bc) := by simp only []; omega
  rw [hNN]; exact ⟨Nat.lt_of_lt_of_le hx.lt h.on.size, (h.on.cell (p := ⟨bc, 0, none⟩) hnb hx.lt).trans hx.c0, (h.on.cell (p := ⟨bc, 1, none⟩) hnb hx.lt).trans hx.c1, (h.on.cell (p := ⟨bc, 2, none⟩) hnb hx.lt).trans hx.c2, (h.on.cell (p := ⟨bc, 3, none⟩) hnb hx.lt).trans hx.c3⟩
 have hsq := qCv (l := l) (bc := bc) Wb (by rw [HZ.o]; exact hE) HF.o.good HJ0.o; refine (callsIn_wide.2 (by simpa using hsq)).mono ?_; clear hsq hE hY HJ0; rintro e W3 ⟨hv, hE⟩; refine ⟨hv, ?_⟩; clear hv hrec; refine .inl ⟨hE.rd, ?_⟩; have hO4 := qAm W3 l (.loop (rec .exhausted none)); obtain ⟨W4, hW4⟩ := eX (W3.putObj l (.loop (rec .exhausted none))); rw [hW4] at hO4 ⊢; have HO4 := hZ (hE.on.trans (hO4.mono (fun b hb => .inr (.inl hb)))); obtain ⟨lo, hlo, hm⟩ := hE.m; have hm4 := hm.only hO4 (by omega) (fun b hb => by omega); have hfull : (qDW c).take (qDD c).length = qDW c := by
  rw [List.take_of_length_le]; unfold qDW; rw [List.length_map]; exact Nat.le_refl _
 rw [hfull, hNN] at hm4; rw [hNN] at hlo; have HM4 := hZ hm4; have p3 := (HO4.o.one HMBb.o (by omega)).cell; clear hW4 hO4 hE hm hm4 hfull; simp only [Exit.inBlock, Exit.then]
 repeat (first | go_values | go_step)
 clear p3; have hDX : W4.heap[lD]? = some (.deferred (some [])) := (HO4.o.block _ (by have := HZ.o; omega) (by omega)).trans HDb.o; refine ⟨by simp, .inl ⟨_, _, rfl, run_takeDeferred hDX, ?_⟩⟩; have hO5 := qAm W4 lD (.deferred none); obtain ⟨Y, hY⟩ := eX (W4.putObj lD (.deferred none)); rw [hY] at hO5 ⊢; have hBY : Below w.heap.size w Y := by
  have h1 : qAc (fun b => b = R \/ b = l \/ n0 <= b \/ b = lD) Wb Y := (HO4.o.mono (fun b hb => by omega)).trans (hO5.mono (fun b hb => by omega)); exact h1.below HBE.o HBE.o.size (fun b hb => by omega)
 have hmY := (HM4.o.only hO5 (by omega) (fun b hb => by omega)).mat (by omega); rw [qCO] at hmY; refine ⟨.tuple #[.slice (some ⟨R, 0, none⟩) N N, .int .i64 0], by simp [results, Tryz.results17, go_sem], ⟨_, rfl, ?_⟩, hBY⟩; rw [hNN]; exact hmY
theorem qG4 (vi vr : Value) (c : Cat) (w : World) (hc : qBF w vi vr c) (hf : qNJ c) (hK : qAY w) :
 Calls Tryz.prog 17 #[qDd vi vr] w fun e w' => (∃ u, e = .returned (.tuple #[u, .int .i64 0]) /\ qBa w' u (qFx c.items.length (qDW c))) /\ Below w.heap.size w w' := callsIn_wide.1 (qGd vi vr c w hc hf hK)
def qAr (n : Nat) : Cat := ⟨[[111, 114, 101], [98, 97, 114], [99, 111, 105, 110]], [⟨[115, 109, 101, 108, 116], false, 0, n, [⟨0, 3⟩], [⟨1, 1⟩], []⟩, ⟨[115, 101, 108, 108], false, 0, 1, [⟨1, 1⟩], [⟨2, 6⟩], []⟩]⟩
theorem qAo.newL {w : World} {g : Nat} (h : w.heap.size = g) (t : TypeId) (cs : List Value) : qAo (w.alloc (.cells cs.toArray t)) g t cs := h ▸ qAo.new w t cs
theorem qB4 {w : World} {g : Nat} {t : TypeId} {a : Amt} (h : qAo w g t (qNH a)) : qAE w (.slice (some ⟨g, 0, none⟩) 1 1) [a] := by
 refine qA1 (xs := [a]) (css := [qNH a]) (by simpa using h) (by simp [qNH]) rfl ?_ (by simp) (by simp); intro j h1 h2; obtain rfl : j = 0 := by simp at h1; omega
 rfl
theorem qHF (w : World) : qAE w (.slice none 0 0) [] := qAf.nil _ _ (by omega)
theorem qOt (n : Nat) (w : World) (o0 o4 o7 : Obj) (t1 t2 t3 t5 t6 t8 : TypeId) (g : Nat) (hg : w.heap.size = g) :
 qBF (((((((((w.alloc o0).alloc (.cells #[.string ⟨#[111, 114, 101]⟩, .bool false, .bool false, .bool false, .int .i64 0, .int .i64 0, .int .i64 0, .string ⟨#[98, 97, 114]⟩, .bool false, .bool false, .bool false, .int .i64 0, .int .i64 0, .int .i64 0, .string ⟨#[99, 111, 105, 110]⟩, .bool false, .bool false, .bool false, .int .i64 0, .int .i64 0, .int .i64 0] t1)).alloc
  (.cells #[.int .i64 0, .int .i64 3] t2)).alloc (.cells #[.int .i64 1, .int .i64 1] t3)).alloc o4).alloc (.cells #[.int .i64 1, .int .i64 1] t5)).alloc (.cells #[.int .i64 2, .int .i64 6] t6)).alloc o7).alloc
  (.cells #[.string ⟨#[115, 109, 101, 108, 116]⟩, .bool false, .int .i64 0, .int .i64 0, .int .i64 1, .int .i64 n, .slice (some ⟨g + 1 + 1, 0, none⟩) 1 1, .slice (some ⟨g + 1 + 1 + 1, 0, none⟩) 1 1, .slice none 0 0,
   .string ⟨#[115, 101, 108, 108]⟩, .bool false, .int .i64 0, .int .i64 0, .int .i64 1, .int .i64 1, .slice (some ⟨g + 1 + 1 + 1 + 1 + 1, 0, none⟩) 1 1, .slice (some ⟨g + 1 + 1 + 1 + 1 + 1 + 1, 0, none⟩) 1 1, .slice none 0 0] t8))
 (.slice (some ⟨g + 1, 0, none⟩) 3 3) (.slice (some ⟨g + 1 + 1 + 1 + 1 + 1 + 1 + 1 + 1, 0, none⟩) 2 2) (qAr n) := by
 have h1 := qAo.newL (w := w.alloc o0) (g := g + 1) (by simp [hg]) t1 [.string ⟨#[111, 114, 101]⟩, .bool false, .bool false, .bool false, .int .i64 0, .int .i64 0, .int .i64 0, .string ⟨#[98, 97, 114]⟩, .bool false, .bool false, .bool false, .int .i64 0, .int .i64 0, .int .i64 0, .string ⟨#[99, 111, 105, 110]⟩, .bool false, .bool false, .bool false, .int .i64 0, .int .i64 0, .int .i64 0]; generalize hw1 : (w.alloc o0).alloc _ = w1 at h1; have s1 : w1.heap.size = g + 1 + 1 := by rw [<- hw1]; simp [hg]
 have h2 := qAo.newL (w := w1) s1 t2 (qNH ⟨0, 3⟩); replace h1 := h1.alloc (.cells #[.int .i64 0, .int .i64 3] t2); generalize hw2 : w1.alloc (.cells #[.int .i64 0, .int .i64 3] t2) = w2 at h1; have s2 : w2.heap.size = g + 1 + 1 + 1 := by rw [<- hw2]; simp [s1]
 replace h2 : qAo w2 _ _ _ := hw2 ▸ h2; have h3 := qAo.newL (w := w2) s2 t3 (qNH ⟨1, 1⟩); replace h1 := (h1.alloc (.cells #[.int .i64 1, .int .i64 1] t3)).alloc o4; replace h2 := (h2.alloc (.cells #[.int .i64 1, .int .i64 1] t3)).alloc o4; replace h3 := h3.alloc o4; generalize hw4 : (w2.alloc (.cells #[.int .i64 1, .int .i64 1] t3)).alloc o4 = w4 at h1 h2; replace h3 : qAo w4 _ _ _ := hw4 ▸ h3; have s4 : w4.heap.size = g + 1 + 1 + 1 + 1 + 1 := by rw [<- hw4]; simp [s2]
 have h5 := qAo.newL (w := w4) s4 t5 (qNH ⟨1, 1⟩); replace h1 := h1.alloc (.cells #[.int .i64 1, .int .i64 1] t5); replace h2 := h2.alloc (.cells #[.int .i64 1, .int .i64 1] t5); replace h3 := h3.alloc (.cells #[.int .i64 1, .int .i64 1] t5); generalize hw5 : w4.alloc (.cells #[.int .i64 1, .int .i64 1] t5) = w5 at h1 h2 h3; replace h5 : qAo w5 _ _ _ := hw5 ▸ h5; have s5 : w5.heap.size = g + 1 + 1 + 1 + 1 + 1 + 1 := by rw [<- hw5]; simp [s4]
 have h6 := qAo.newL (w := w5) s5 t6 (qNH ⟨2, 6⟩); replace h1 := (h1.alloc (.cells #[.int .i64 2, .int .i64 6] t6)).alloc o7; replace h2 := (h2.alloc (.cells #[.int .i64 2, .int .i64 6] t6)).alloc o7; replace h3 := (h3.alloc (.cells #[.int .i64 2, .int .i64 6] t6)).alloc o7; replace h5 := (h5.alloc (.cells #[.int .i64 2, .int .i64 6] t6)).alloc o7; replace h6 := h6.alloc o7; generalize hw7 : (w5.alloc (.cells #[.int .i64 2, .int .i64 6] t6)).alloc o7 = w7 at h1 h2 h3 h5; replace h6 : qAo w7 _ _ _ := hw7 ▸ h6; have s7 : w7.heap.size = g + 1 + 1 + 1 + 1 + 1 + 1 + 1 + 1 := by rw [<- hw7]; simp [s5]
 have h8 := qAo.newL (w := w7) s7 t8 (qOQ ⟨[115, 109, 101, 108, 116], false, 0, n, [⟨0, 3⟩], [⟨1, 1⟩], []⟩ (.slice (some ⟨g + 1 + 1, 0, none⟩) 1 1) (.slice (some ⟨g + 1 + 1 + 1, 0, none⟩) 1 1) (.slice none 0 0) ++ qOQ ⟨[115, 101, 108, 108], false, 0, 1, [⟨1, 1⟩], [⟨2, 6⟩], []⟩ (.slice (some ⟨g + 1 + 1 + 1 + 1 + 1, 0, none⟩) 1 1) (.slice (some ⟨g + 1 + 1 + 1 + 1 + 1 + 1, 0, none⟩) 1 1) (.slice none 0 0)); refine ⟨?_, ?_⟩
 ·refine qA1 (xs := (qAr n).items) (css := [qPk [111, 114, 101], qPk [98, 97, 114], qPk [99, 111, 105, 110]]) (h1.alloc _) (by simp [qPk]) rfl ?_ (by simp [qAr]) (by simp)
  intro j h1 h2; have : j = 0 \/ j = 1 \/ j = 2 := by simp [qAr] at h1; omega
  rcases this with rfl | rfl | rfl <;> rfl
 ·refine qA1 (xs := (qAr n).rules) (css := [qOQ ⟨[115, 109, 101, 108, 116], false, 0, n, [⟨0, 3⟩], [⟨1, 1⟩], []⟩ (.slice (some ⟨g + 1 + 1, 0, none⟩) 1 1) (.slice (some ⟨g + 1 + 1 + 1, 0, none⟩) 1 1) (.slice none 0 0), qOQ ⟨[115, 101, 108, 108], false, 0, 1, [⟨1, 1⟩], [⟨2, 6⟩], []⟩ (.slice (some ⟨g + 1 + 1 + 1 + 1 + 1, 0, none⟩) 1 1) (.slice (some ⟨g + 1 + 1 + 1 + 1 + 1 + 1, 0, none⟩) 1 1) (.slice none 0 0)]) h8 (by simp [qOQ]) rfl ?_ (by simp [qAr]) (by simp)
  intro j hj1 hj2; have : j = 0 \/ j = 1 := by simp [qAr] at hj1; omega
  rcases this with rfl | rfl
  ·exact ⟨_, _, _, rfl, qB4 (h2.alloc _), qB4 (h3.alloc _), qHF _⟩
  ·exact ⟨_, _, _, rfl, qB4 (h5.alloc _), qB4 (h6.alloc _), qHF _⟩
theorem qGl (n : Tx) (h : n ∈ [[111, 114, 101], [98, 97, 114], [99, 111, 105, 110], [115, 109, 101, 108, 116], [115, 101, 108, 108]]) : qKv n := by
 simp only [List.mem_cons, List.not_mem_nil, or_false] at h; rcases h with rfl | rfl | rfl | rfl | rfl <;> exact ⟨by decide, by rfl⟩
theorem qD9 {n M K it k : Nat} (h1 : it < n) (h2 : 1 <= k) (h3 : k <= M) (h4 : 1 <= K) : qBD n M K [⟨it, k⟩] := ⟨by simp [qIM], by simp; omega, by simpa⟩
theorem qJe {n M K : Nat} : qBD n M K [] := ⟨by simp [qIM], by simp, by simp⟩
theorem qDv (n : Nat) (h1 : 1 <= n) (h2 : n <= 2) : qNJ (qAr n) := by
 refine ⟨⟨by simp [qAr], by simp [qAr], by simp [qAr], ?_⟩, ⟨?_, ?_⟩, by simp [qAr], by simp [qAr]⟩
 ·intro r hr
  simp only [qAr, List.mem_cons, List.not_mem_nil, or_false] at hr; rcases hr with rfl | rfl
  ·exact ⟨qD9 (by simp [qAr]) (by omega) (by omega) (by omega), qD9 (by simp [qAr]) (by omega) (by omega) (by omega), qJe, by simp <;> omega, by simp <;> omega, by simp <;> omega, by simp <;> omega, by simp <;> omega, by simp <;> omega, by simp <;> omega⟩
  ·exact ⟨qD9 (by simp [qAr]) (by omega) (by omega) (by omega), qD9 (by simp [qAr]) (by omega) (by omega) (by omega), qJe, by simp <;> omega, by simp <;> omega, by simp <;> omega, by simp <;> omega, by simp <;> omega, by simp <;> omega, by simp <;> omega⟩
 ·intro n hn
  simp only [qAr, List.mem_cons, List.not_mem_nil, or_false] at hn; exact qGl n (by simp only [List.mem_cons]; rcases hn with h | h | h <;> simp [h])
 ·intro r hr
  simp only [qAr, List.mem_cons, List.not_mem_nil, or_false] at hr; rcases hr with rfl | rfl
  ·exact qGl _ (by simp)
  ·exact qGl _ (by simp)
theorem qBt (n : Nat) (hn : n <= 100) (w : World) : Calls Tryz.prog 44 #[.int .i64 (n : Int)] w fun e w' => (∃ vi vr, e = .returned (qDd vi vr) /\ qBF w' vi vr (qAr n)) /\ Below w.heap.size w w' := by
 go_enter Tryz.func44, Tryz.ntmps44
 go_wp2_with fail
 refine bodyPost_ret (v := qDd (.slice (some ⟨w.heap.size + 1, 0, none⟩) 3 3) (.slice (some ⟨w.heap.size + 1 + 1 + 1 + 1 + 1 + 1 + 1 + 1, 0, none⟩) 2 2)) (by simp [results, Tryz.results44, go_sem, qDd]) rfl ⟨⟨_, _, rfl, qOt n w _ _ _ _ _ _ _ _ _ _ rfl⟩, ?_⟩
 repeat refine Below.alloc ?_ (by simp <;> omega) _
 exact Below.refl _ _
def SmC (c : Cat) : Prop := ∀ r ∈ c.rules, qBD c.items.length 24 2 r.take /\ qBD c.items.length 24 2 r.give /\ qBD c.items.length 24 2 r.back
theorem qIv {n : Nat} {lt lg : List Amt} (h1 : qBD n 24 2 lt) (h2 : qBD n 24 2 lg) (i : Nat) : (qE8 lt lg i).natAbs <= 60 := by
 have a := qCl h1 i; have b := qCl h2 i; unfold qE8; omega
theorem qO2 {c : Cat} (hg : SmC c) {x : Nat × (Nat -> Int)} (h : x ∈ qDD c) : ∀ i, (x.2 i).natAbs <= 60 := by
 obtain ⟨r, hr, l, hl, he, hs, h5, h6, h7⟩ := qF3 c.rules 0 x h; obtain ⟨ht, hgi, hb⟩ := hg r hr; intro i; rw [he]; unfold qER at hl
 split at hl
 ·simp only [List.mem_cons, List.not_mem_nil, or_false] at hl
  rcases hl with rfl | rfl
  ·exact qIv ht hgi i
  ·exact qIv ht hb i
 ·simp only [List.mem_cons, List.not_mem_nil, or_false] at hl
  subst hl; exact qIv ht hgi i
theorem qNC {c : Cat} (hg : SmC c) : ∀ f ∈ qDW c, ∀ i, (f i).natAbs <= 60 := by
 intro f hf; obtain ⟨x, hx, rfl⟩ := List.mem_map.1 hf; exact qO2 hg hx
theorem qNB (n : Nat) : SmC (qAr n) := by
 intro r hr; simp only [qAr, List.mem_cons, List.not_mem_nil, or_false] at hr; rcases hr with rfl | rfl
 ·exact ⟨qD9 (by simp [qAr]) (by omega) (by omega) (by omega), qD9 (by simp [qAr]) (by omega) (by omega) (by omega), qJe⟩
 ·exact ⟨qD9 (by simp [qAr]) (by omega) (by omega) (by omega), qD9 (by simp [qAr]) (by omega) (by omega) (by omega), qJe⟩
theorem qOk : IsN [[2, 6, 1]] 3 := by
 intro i hi h
 match i, hi with
 | 0, _ => exact ⟨rfl, by (simp only [List.getElem_cons_zero, List.getElem_cons_succ]; decide), by (simp only [List.getElem_cons_zero, List.getElem_cons_succ]; decide), fun k hk => by omega, fun k hk => by omega⟩
theorem qNa : qFx 3 (qDW (qAr 1)) = [[-3, 0], [1, -1], [0, 6]] := by decide
theorem qM9 : qFx 3 (qDW (qAr 2)) = [[-3, -3, 0], [1, 0, -1], [0, 0, 6]] := by decide
theorem qNc : qGx 3 (qDW (qAr 1)) [[2, 6, 1]] := by
 refine ⟨?_, by simp, by simp, by unfold topE; simp⟩; rw [qNa]; refine ⟨qOk.nrm, fun v => ⟨?_, ?_⟩⟩
 ·rintro ⟨q, hq⟩
  have e : ∃ x : Int, ∀ j, v j = x * vec [2, 6, 1] j := by
   match q with
   | [] => exact ⟨0, fun j => by rw [hq]; simp [comb]⟩
   | x :: q => exact ⟨x, fun j => by rw [hq]; cases q <;> simp [comb]⟩
  obtain ⟨x, hv⟩ := e; refine ⟨fun j hj => ?_, fun j => ?_⟩
  ·rw [hv, qAu (by simpa using hj)]; simp
  ·match j with
   | 0 =>
    show v 0 * -3 + (v 1 * 1 + (v 2 * 0 + 0)) = 0
    rw [hv 0, hv 1, hv 2]
    show (x * 2) * -3 + ((x * 6) * 1 + ((x * 1) * 0 + 0)) = 0
    omega
   | 1 =>
    show v 0 * 0 + (v 1 * -1 + (v 2 * 6 + 0)) = 0
    rw [hv 0, hv 1, hv 2]
    show (x * 2) * 0 + ((x * 6) * -1 + ((x * 1) * 6 + 0)) = 0
    omega
   | j + 2 => simp [qA3, vec]
 ·rintro ⟨h1, h2⟩
  have h0 : v 0 * -3 + (v 1 * 1 + (v 2 * 0 + 0)) = 0 := h2 0; have h3 : v 0 * 0 + (v 1 * -1 + (v 2 * 6 + 0)) = 0 := h2 1; refine ⟨[v 2], fun j => ?_⟩
  match j with
  | 0 =>
   show v 0 = v 2 * 2 + 0
   omega
  | 1 =>
   show v 1 = v 2 * 6 + 0
   omega
  | 2 =>
   show v 2 = v 2 * 1 + 0
   omega
  | j + 3 =>
   rw [h1 (j + 3) (by simp)]; simp [comb, vec]
theorem qNb : qGx 3 (qDW (qAr 2)) [] := by
 refine ⟨?_, by simp, by simp, by simp⟩; rw [qM9]; refine ⟨trivial, fun v => ⟨?_, ?_⟩⟩
 ·rintro ⟨q, hq⟩
  have hv : ∀ j, v j = 0 := fun j => by rw [hq]; cases q <;> simp [comb]
  refine ⟨fun j hj => hv j, fun j => ?_⟩; simp [qA3, hv]
 ·rintro ⟨h1, h2⟩
  have h0 : v 0 * -3 + (v 1 * 1 + (v 2 * 0 + 0)) = 0 := h2 0; have h3 : v 0 * -3 + (v 1 * 0 + (v 2 * 0 + 0)) = 0 := h2 1; have h4 : v 0 * 0 + (v 1 * -1 + (v 2 * 6 + 0)) = 0 := h2 2; refine ⟨[], fun j => ?_⟩
  match j with
  | 0 =>
   show v 0 = 0
   omega
  | 1 =>
   show v 1 = 0
   omega
  | 2 =>
   show v 2 = 0
   omega
  | j + 3 => rw [h1 (j + 3) (by simp)]; simp [comb]
theorem qLS {c : Cat} (hg : qKz c) (hs : SmC c) : qBe (qFx c.items.length (qDW c)) = 0 := by
 have h6 := hg.items; have h1 := hg.some_; have h44 := qLU hg; have hx := qJx (n := c.items.length) (X := 60) (fun f hf i _ => qNC hs f hf i); refine qFi.2 ⟨by rw [qCO]; omega, fun r hr => by rw [qEt r hr]; omega, fun r hr => ?_, fun r hr x hx2 => by have := hx r hr x hx2; omega⟩; rw [qEt r hr, List.getElem?_eq_getElem (by rw [qCO]; exact h1)]; exact (qEt _ (List.getElem_mem _)).symm
theorem qOj {c : Cat} (hg : qKz c) (h5 : c.items.length <= 5) (hs : SmC c) {K : List (List Int)} (h : qBA (qFx c.items.length (qDW c)) (K.map vec)) (hr : ∀ r ∈ K, r.length = c.items.length) (hl : K.length <= c.items.length) : qGx c.items.length (qDW c) K :=
 ⟨h, hr, hl, qOh (by rw [qCO]; exact h5) qL6 (qJx (fun f hf i _ => qNC hs f hf i)) h⟩
theorem qFK (vi vr : Value) (c : Cat) (w : World) (hc : qBF w vi vr c) (hf : qNJ c) (h5 : c.items.length <= 5) (hs : SmC c) (hK : qAY w) :
 Calls Tryz.prog 12 #[qDd vi vr] w fun e w' => (∃ u K, e = .returned (.tuple #[u, .int .i64 0]) /\ qBa w' u K /\ qGx c.items.length (qDW c) K) /\ Below w.heap.size w w' := by
 obtain ⟨ai, ci, rfl, hi1, hi2⟩ := hc.items.form; obtain ⟨ar, cr, rfl, hr1, hr2⟩ := hc.rules.form; have HC := hZ hc; have HF := hZ hf; have HS := hZ hs; have HK := hZ hK; clear hc hf hs hK; unfold qDd; obtain ⟨w1, hw1⟩ := eX (w.alloc (.cells #[.slice ai c.items.length ci, .slice ar c.rules.length cr, .slice none 0 0, .slice none 0 0] 28)); have HB : Hid (Below w.heap.size w w1) := hZ (by rw [<- hw1]; exact aR); have HX : Hid (qCp w1 w.heap.size (.slice ai c.items.length ci) (.slice ar c.rules.length cr)) := hZ (by rw [<- hw1]; exact qCp.new w _ _); have m0 := HX.o.c0; have m1 := HX.o.c1; have m2 := HX.o.c2; have m3 := HX.o.c3; have mlt := HX.o.lt
 go_enter Tryz.func12, Tryz.ntmps12
 go_wp2_with fail
 clear hw1; refine (qG4 _ _ c w1 (HC.o.below HB.o) HF.o (HK.o.keep HB.o)).mono ?_; rintro e w2 ⟨⟨u, rfl, hm⟩, hB⟩; replace HB := bT HB hB; have HM := hZ hm; obtain ⟨au, cu, rfl, -, -⟩ := HM.o.form; clear hB hm m0 m1 m2 m3 mlt
 go_wp2_with fail
 refine (qKf w2 _ _ HM.o).mono ?_; rintro e w3 ⟨hB, h9 | ⟨-, H, h1, h2, h3, h4⟩⟩
 ·exact absurd (qLS HF.o.good HS.o) h9.1
 ·have hbas := qOj HF.o.good h5 HS.o h1 (fun r hr => by rw [h2 r hr, qCO]) (by rw [<- qCO (n := c.items.length) (E := qDW c)]; exact h3)
  replace HB := bT HB hB; have HBA := hZ hbas; rcases h4 with ⟨_, r, hr, x, hx, h9⟩ | ⟨u, rfl, hm3, _⟩
  ·exact absurd (show qGy x by have := hbas.top r hr x hx; unfold topE at this; unfold qGy; omega) h9
  ·have HM3 := hZ hm3
   obtain ⟨a3, c3, rfl, -, -⟩ := HM3.o.form; clear hB h1 h2 h3 hm3 hbas
   go_wp2_with fail
   exact bodyPost_ret (v := .tuple #[.slice a3 H.length c3, .int .i64 0]) (by simp [results, Tryz.results12, go_sem]) rfl ⟨⟨_, H, rfl, HM3.o, HBA.o⟩, HB.o⟩
end Go.Proofs.YtkjhlkngihponaaGreatDoor
