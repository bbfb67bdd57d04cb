/- Rows of the reference's integers in memory; append to blocks whose cells are of one sort. -/
import Derived.Test.YtlmbebbdamgfpaaQHR5Lim
import Derived.Test.YtlmbebbdamgfpaaQHR5Of
import Derived.Test.YtlmbebbdamgfpaaQHR5Minus
import Derived.Test.YtlmbebbdamgfpaaQHRegLast
import Derived.Test.YtlmbebbdamgfpaaQHR5Mul
import Derived.Test.YtlmbebbdamgfpaaQHLOwn
set_option linter.unusedVariables false
set_option linter.unusedSimpArgs false
set_option maxHeartbeats 1000000
set_option maxRecDepth 100000
namespace Go.Proofs.Ytlmbebbdamgfpaa
open Go.RowKit
theorem qE9 (A : List Nat) (k : Nat) (h : 0 < k) (hk : k - 1 < A.length) : val T4 (A.drop (k - 1)) = A[k - 1] + 10000 * val T4 (A.drop k) := by
 rw [List.drop_eq_getElem_cons hk, val, show k - 1 + 1 = k by omega]
theorem qGQ (A : List Nat) (k : Nat) : val T4 (A.drop k) <= val T4 A := by
 have h : val T4 A = val T4 (A.take k) + T4 ^ (A.take k).length * val T4 (A.drop k) := by
  conv => lhs; rw [<- List.take_append_drop k A, qAN]
 have h2 : 1 * val T4 (A.drop k) <= T4 ^ (A.take k).length * val T4 (A.drop k) := Nat.mul_le_mul_right _ (Nat.pos_of_ne_zero (by simp)); omega
theorem qLH (z : Int) : sgn (decide (z < 0)) z.natAbs = z := by
 unfold sgn; by_cases h : z < 0
 ·simp [h]; omega
 ·simp [h]; omega
theorem qIg (v : Value) (z : Int) (w : World) (h : qAL w v z) (hl : (qAe T4 z.natAbs).length <= 1048576) :
 Calls Try.prog 55 #[v] w fun e w' => e = .returned (qBd z) /\ Below w.heap.size w w' := by
 obtain ⟨a, n, c, rfl, hd, hn, hc⟩ := h.form; have HR := hZ h; have HD := hZ (qAd.whole hd); have HN := hZ hn.symm; have HLz := hZ hl; rw [<- hn] at hl; clear h hd hn; obtain ⟨s, hs⟩ := eX (decide (z < 0)); rw [hs] at HR ⊢; have Hs := hZ hs; clear hs; have HB0 := hZ ((Below.refl w.heap.size w).alloc (Nat.le_refl _) (.cells #[.bool s, .slice a n c] 61)); have HT0 := hZ (Two.new w 61 (.bool s) (.slice a n c)); obtain ⟨w0, hw0⟩ := eX (w.alloc (.cells #[.bool s, .slice a n c] 61)); obtain ⟨b, hb⟩ := eX w.heap.size; have Hb := hZ hb; rw [hw0] at HB0 HT0; rw [hb] at HB0 HT0; have d0 := HT0.o.cell0; have d1 := HT0.o.cell1; have HBd : Hid (Below b w w0.drew) := hZ ⟨HB0.o.os, HB0.o.tape, HB0.o.output, HB0.o.size, HB0.o.block⟩; have HBz : Hid (b <= w0.drew.heap.size) := hZ (Nat.le_trans (Nat.le_of_eq Hb.o.symm) HB0.o.size); have HTd : Hid (Two w0.drew b 61 (.bool s) (.slice a n c)) := hZ HT0.o; obtain ⟨m1, hm1⟩ := eX (qAK z 9223372036854775807); obtain ⟨m2, hm2⟩ := eX (qAK z (-9223372036854775808)); have p1 := qGw z 9223372036854775807; have p2 := qGx z (-9223372036854775808); rw [hm1] at p1; rw [hm2] at p2; have Hm1 := hZ hm1; have Hm2 := hZ hm2; clear hm1 hm2; by_cases hbig : 9223372036854775807 < z
 ·rw [decide_eq_true hbig] at p1
  have Hsv : Hid (qBd z = .tuple #[.int .i64 0, .bool false]) := hZ (by unfold qBd; rw [if_neg (by omega)]); clear p2 hbig
  go_enter Try.func55, Try.ntmps55
  go_wp2_with fail
  clear hw0; refine qDO 99 (fun w' => w'.cell? ⟨b, 0, none⟩ = some (.bool s) /\ w'.cell? ⟨b, 1, none⟩ = some (.slice a n c)) (by kernel_rfl) (⟨d0, d1⟩) (fun hHeld => ?_); refine kU 0 6 ?_; refine qCp 1 (by kernel_rfl) rfl (fun K hK => ?_); go_simp; clear d0 d1; refine (qEi 9223372036854775807 w0.drew (by omega) (by omega)).mono ?_; rintro e w5 ⟨⟨vr, rfl, hr⟩, hB⟩; have Hr5 := hZ hr; obtain ⟨a5, n5, c5, rfl, -, -, -⟩ := hr.form; have hB5 := hZ hB; clear hr hB; generalize decide ((9223372036854775807 : Int) < 0) = s5 at *; have HT5 := hZ (HTd.o.below hB5.o HTd.o.lt); have HB5 := hZ (HBd.o.trans (hB5.o.mono HBz.o))
  go_wp2_with fail
  refine hK.out _ _ (⟨HT5.o.cell0, HT5.o.cell1⟩) (fun hHeld => ?_); clear hK K
  try simp only [Act.put, List.setIfInBounds_toArray, List.set_cons_zero, List.set_cons_succ]
  refine qCp 2 (by kernel_rfl) rfl (fun K hK => ?_); go_simp; refine (qBm _ _ z 9223372036854775807 w5 (HR.o.below (Nat.le_of_eq Hb.o) HB5.o) Hr5.o HLz.o (Nat.le_trans (qC7 _ (by omega)) (by omega))).mono ?_; rintro e w6 ⟨rfl, hB6⟩; rw [Hm1.o]; have HT6 := hZ (HT5.o.below hB6 HT5.o.lt); have HB6 := hZ (HB5.o.trans (hB6.mono (Nat.le_trans (Nat.le_of_eq Hb.o.symm) HB5.o.size))); clear hB6
  go_wp2_with fail
  refine hK.out _ _ (⟨HT6.o.cell0, HT6.o.cell1⟩) (fun hHeld => ?_); clear hK K
  try simp only [Act.put, List.setIfInBounds_toArray, List.set_cons_zero, List.set_cons_succ]
  refine kU 3 9 ?_; refine kU 4 10 ?_; refine jU 5 11 ?_; refine jU 6 12 ?_; refine jU 7 13 ?_; refine jU 8 14 ?_; refine kU 9 15 ?_; refine qLf (by kernel_rfl) ?_ _; clear hHeld
  go_wp2
  go_ret2
  rw [Hsv.o, Hb.o]; exact ⟨rfl, HB6.o⟩
 ·rw [decide_eq_false hbig] at p1
  by_cases hsm : z < -9223372036854775808
  ·rw [decide_eq_true hsm] at p2
   have Hsv : Hid (qBd z = .tuple #[.int .i64 0, .bool false]) := hZ (by unfold qBd; rw [if_neg (by omega)]); clear hbig hsm
   go_enter Try.func55, Try.ntmps55
   go_wp2_with fail
   clear hw0; refine qDO 99 (fun w' => w'.cell? ⟨b, 0, none⟩ = some (.bool s) /\ w'.cell? ⟨b, 1, none⟩ = some (.slice a n c)) (by kernel_rfl) (⟨d0, d1⟩) (fun hHeld => ?_); refine kU 0 6 ?_; refine qCp 1 (by kernel_rfl) rfl (fun K hK => ?_); go_simp; clear d0 d1; refine (qEi 9223372036854775807 w0.drew (by omega) (by omega)).mono ?_; rintro e w5 ⟨⟨vr, rfl, hr⟩, hB⟩; have Hr5 := hZ hr; obtain ⟨a5, n5, c5, rfl, -, -, -⟩ := hr.form; have hB5 := hZ hB; clear hr hB; generalize decide ((9223372036854775807 : Int) < 0) = s5 at *; have HT5 := hZ (HTd.o.below hB5.o HTd.o.lt); have HB5 := hZ (HBd.o.trans (hB5.o.mono HBz.o))
   go_wp2_with fail
   refine hK.out _ _ (⟨HT5.o.cell0, HT5.o.cell1⟩) (fun hHeld => ?_); clear hK K
   try simp only [Act.put, List.setIfInBounds_toArray, List.set_cons_zero, List.set_cons_succ]
   refine qCp 2 (by kernel_rfl) rfl (fun K hK => ?_); go_simp; refine (qBm _ _ z 9223372036854775807 w5 (HR.o.below (Nat.le_of_eq Hb.o) HB5.o) Hr5.o HLz.o (Nat.le_trans (qC7 _ (by omega)) (by omega))).mono ?_; rintro e w6 ⟨rfl, hB6⟩; rw [Hm1.o]; have HT6 := hZ (HT5.o.below hB6 HT5.o.lt); have HB6 := hZ (HB5.o.trans (hB6.mono (Nat.le_trans (Nat.le_of_eq Hb.o.symm) HB5.o.size))); clear hB6
   go_wp2_with fail
   refine hK.out _ _ (⟨HT6.o.cell0, HT6.o.cell1⟩) (fun hHeld => ?_); clear hK K
   try simp only [Act.put, List.setIfInBounds_toArray, List.set_cons_zero, List.set_cons_succ]
   refine kU 3 9 ?_; refine kU 4 10 ?_; refine kU 5 11 ?_; refine qCp 6 (by kernel_rfl) rfl (fun K hK => ?_); go_simp; refine (qEi (-9223372036854775808) w6 (by omega) (by omega)).mono ?_; rintro e w7 ⟨⟨vr, rfl, hr⟩, hB⟩; have Hr7 := hZ hr; obtain ⟨a7, n7, c7, rfl, -, -, -⟩ := hr.form; have hB7 := hZ hB; clear hr hB; generalize decide ((-9223372036854775808 : Int) < 0) = s7 at *; have HT7 := hZ (HT6.o.below hB7.o HT6.o.lt); have HB7 := hZ (HB6.o.trans (hB7.o.mono (Nat.le_trans (Nat.le_of_eq Hb.o.symm) HB6.o.size)))
   go_wp2_with fail
   refine hK.out _ _ (⟨HT7.o.cell0, HT7.o.cell1⟩) (fun hHeld => ?_); clear hK K
   try simp only [Act.put, List.setIfInBounds_toArray, List.set_cons_zero, List.set_cons_succ]
   refine qCp 7 (by kernel_rfl) rfl (fun K hK => ?_); go_simp; refine (qBm _ _ z (-9223372036854775808) w7 (HR.o.below (Nat.le_of_eq Hb.o) HB7.o) Hr7.o HLz.o (Nat.le_trans (qC7 _ (by omega)) (by omega))).mono ?_; rintro e w8 ⟨rfl, hB8⟩; rw [Hm2.o]; have HT8 := hZ (HT7.o.below hB8 HT7.o.lt); have HB8 := hZ (HB7.o.trans (hB8.mono (Nat.le_trans (Nat.le_of_eq Hb.o.symm) HB7.o.size))); clear hB8
   go_wp2_with fail
   refine hK.out _ _ (⟨HT8.o.cell0, HT8.o.cell1⟩) (fun hHeld => ?_); clear hK K
   try simp only [Act.put, List.setIfInBounds_toArray, List.set_cons_zero, List.set_cons_succ]
   refine kU 8 14 ?_; refine kU 9 15 ?_; refine qLf (by kernel_rfl) ?_ _; clear hHeld
   go_wp2
   go_ret2
   rw [Hsv.o, Hb.o]; exact ⟨rfl, HB8.o⟩
  ·rw [decide_eq_false hsm] at p2
   have Hsv : Hid (qBd z = .tuple #[.int .i64 z, .bool true]) := hZ (by unfold qBd; rw [if_pos (by omega)]); have hab : z.natAbs <= 9223372036854775808 := by omega
   have hab2 : s = false -> z.natAbs <= 9223372036854775807 := fun h => by
    have := Hs.o; rw [h] at this; have := of_decide_eq_false this; omega
   have Hsz := hZ (qLH z); have HVA := hZ (qAi T4 qAn z.natAbs); have HlA := hZ (qAl T4 qAn z.natAbs); rw [Hs.o] at Hsz; obtain ⟨m, hm⟩ := eX z.natAbs; rw [hm] at HD HN hab hab2 Hsz HVA HlA; clear hm; clear hbig hsm
   go_enter Try.func55, Try.ntmps55
   go_wp2_with fail
   clear hw0; refine qDO 99 (fun w' => w'.cell? ⟨b, 0, none⟩ = some (.bool s) /\ w'.cell? ⟨b, 1, none⟩ = some (.slice a n c)) (by kernel_rfl) (⟨d0, d1⟩) (fun hHeld => ?_); refine kU 0 6 ?_; refine qCp 1 (by kernel_rfl) rfl (fun K hK => ?_); go_simp; clear d0 d1; refine (qEi 9223372036854775807 w0.drew (by omega) (by omega)).mono ?_; rintro e w5 ⟨⟨vr, rfl, hr⟩, hB⟩; have Hr5 := hZ hr; obtain ⟨a5, n5, c5, rfl, -, -, -⟩ := hr.form; have hB5 := hZ hB; clear hr hB; generalize decide ((9223372036854775807 : Int) < 0) = s5 at *; have HT5 := hZ (HTd.o.below hB5.o HTd.o.lt); have HB5 := hZ (HBd.o.trans (hB5.o.mono HBz.o))
   go_wp2_with fail
   refine hK.out _ _ (⟨HT5.o.cell0, HT5.o.cell1⟩) (fun hHeld => ?_); clear hK K
   try simp only [Act.put, List.setIfInBounds_toArray, List.set_cons_zero, List.set_cons_succ]
   refine qCp 2 (by kernel_rfl) rfl (fun K hK => ?_); go_simp; refine (qBm _ _ z 9223372036854775807 w5 (HR.o.below (Nat.le_of_eq Hb.o) HB5.o) Hr5.o HLz.o (Nat.le_trans (qC7 _ (by omega)) (by omega))).mono ?_; rintro e w6 ⟨rfl, hB6⟩; rw [Hm1.o]; have HT6 := hZ (HT5.o.below hB6 HT5.o.lt); have HB6 := hZ (HB5.o.trans (hB6.mono (Nat.le_trans (Nat.le_of_eq Hb.o.symm) HB5.o.size))); clear hB6
   go_wp2_with fail
   refine hK.out _ _ (⟨HT6.o.cell0, HT6.o.cell1⟩) (fun hHeld => ?_); clear hK K
   try simp only [Act.put, List.setIfInBounds_toArray, List.set_cons_zero, List.set_cons_succ]
   refine kU 3 9 ?_; refine kU 4 10 ?_; refine kU 5 11 ?_; refine qCp 6 (by kernel_rfl) rfl (fun K hK => ?_); go_simp; refine (qEi (-9223372036854775808) w6 (by omega) (by omega)).mono ?_; rintro e w7 ⟨⟨vr, rfl, hr⟩, hB⟩; have Hr7 := hZ hr; obtain ⟨a7, n7, c7, rfl, -, -, -⟩ := hr.form; have hB7 := hZ hB; clear hr hB; generalize decide ((-9223372036854775808 : Int) < 0) = s7 at *; have HT7 := hZ (HT6.o.below hB7.o HT6.o.lt); have HB7 := hZ (HB6.o.trans (hB7.o.mono (Nat.le_trans (Nat.le_of_eq Hb.o.symm) HB6.o.size)))
   go_wp2_with fail
   refine hK.out _ _ (⟨HT7.o.cell0, HT7.o.cell1⟩) (fun hHeld => ?_); clear hK K
   try simp only [Act.put, List.setIfInBounds_toArray, List.set_cons_zero, List.set_cons_succ]
   refine qCp 7 (by kernel_rfl) rfl (fun K hK => ?_); go_simp; refine (qBm _ _ z (-9223372036854775808) w7 (HR.o.below (Nat.le_of_eq Hb.o) HB7.o) Hr7.o HLz.o (Nat.le_trans (qC7 _ (by omega)) (by omega))).mono ?_; rintro e w8 ⟨rfl, hB8⟩; rw [Hm2.o]; have HT8 := hZ (HT7.o.below hB8 HT7.o.lt); have HB8 := hZ (HB7.o.trans (hB8.mono (Nat.le_trans (Nat.le_of_eq Hb.o.symm) HB7.o.size))); clear hB8
   go_wp2_with fail
   refine hK.out _ _ (⟨HT8.o.cell0, HT8.o.cell1⟩) (fun hHeld => ?_); clear hK K
   try simp only [Act.put, List.setIfInBounds_toArray, List.set_cons_zero, List.set_cons_succ]
   refine kU 8 14 ?_; refine kU 9 15 ?_; refine qLf (by kernel_rfl) ?_ _; clear hHeld; have e0 := HT8.o.cell0; have e1 := HT8.o.cell1; have HN2 := hZ HN.o
   go_wp2_with fail
   go_loop [4, 5] (fun nv iv' => ∃ (k : Nat), k <= n /\ iv' = .int .i64 ((k : Int) - 1) /\ nv = .int .i64 (sgn s (val T4 ((qAe T4 m).drop k)))) (fun _ i => (intOf i + 1).toNat)
   case atStart => exact ⟨n, Nat.le_refl _, by go_num, by rw [List.drop_of_length_le (by rw [HN.o]; exact Nat.le_refl _)]; unfold sgn; cases s <;> rfl⟩
   case round =>
    obtain ⟨k, hk, rfl, rfl⟩ := hrel; by_cases hk0 : k = 0
    ·subst hk0
     have Hv : Hid (sgn s (val T4 ((qAe T4 m).drop 0)) = z) := hZ (by rw [List.drop_zero, HVA.o]; exact Hsz.o); rw [Hv.o]
     go_wp2
     go_ret2
     refine ⟨by rw [Hsv.o]; rfl, ?_⟩
     first | exact HB8.o | (rw [Hb.o]; exact HB8.o)
    ·have hlk : k - 1 < (qAe T4 m).length := by rw [HN.o]; omega
     obtain ⟨xb, xoff, rfl, hxb, hxc⟩ := HD.o (by omega); have cl := (HB8.o.cell (p := ⟨xb, xoff + (k - 1), none⟩) (by show xb < b; rw [<- Hb.o]; exact hxb)).trans (hxc (k - 1) hlk); have hl2 : (qAe T4 m)[k - 1] < 10000 := HlA.o _ (List.getElem_mem hlk); have hst := qE9 (qAe T4 m) k (by omega) hlk; have hle := qGQ (qAe T4 m) (k - 1); rw [HVA.o] at hle; have i0 : (0 : Int) <= (k : Int) - 1 := by omega
     have i1 : (k : Int) - 1 < (n : Int) := by omega
     have i2 : ((k : Int) - 1).toNat = k - 1 := by omega
     obtain ⟨x, hx⟩ := eX ((qAe T4 m)[k - 1]); rw [hx] at cl hl2 hst; have Hst := hZ hst; obtain ⟨V, hV⟩ := eX (val T4 ((qAe T4 m).drop k)); obtain ⟨V', hV'⟩ : ∃ V', val T4 ((qAe T4 m).drop (k - 1)) = V' := ⟨_, rfl⟩; rw [hV, hV'] at Hst hst; rw [hV'] at hle; rw [hV]; have HV' := hZ hV'; clear hxc hx hV hV' hk0; cases s with
     | false =>
      have hab3 := hab2 rfl; rw [show sgn false V = (V : Int) from rfl]; have hbd : (V : Int) * 10000 + (x : Int) <= 9223372036854775807 := by omega
      clear hst
      go_wp2_with fail
      go_round
      case rel => exact ⟨k - 1, by omega, by go_num, by rw [HV'.o, Hst.o]; show Value.int _ _ = Value.int _ ((x + 10000 * V : Nat) : Int); congr 1; omega⟩
      case measure => simp [intOf]; omega
     | true =>
      rw [show sgn true V = -(V : Int) from rfl]; have hbd : -9223372036854775808 <= -(V : Int) * 10000 - (x : Int) := by omega
      clear hst
      go_wp2_with fail
      go_round
      case rel => exact ⟨k - 1, by omega, by go_num, by rw [HV'.o, Hst.o]; show Value.int _ _ = Value.int _ (-((x + 10000 * V : Nat) : Int)); congr 1; omega⟩
      case measure => simp [intOf]; omega
open Go.RowKit
def qFM (Q : Value -> Prop) (w : World) (g : Nat) : Prop := ∀ (o : Nat) (u : Value), w.cell? ⟨g, o, none⟩ = some u -> Q u
def qGI (u : Value) : Prop := (∃ b, u = .bool b) \/ ∃ a n c, u = .slice a n c
def isS (u : Value) : Prop := ∃ a n c, u = .slice a n c
def qBa (w : World) (g : Nat) : Prop := ∀ (o : Nat) (x : Int), w.cell? ⟨g, o, none⟩ ≠ some (.int .i64 x)
theorem qFM.bs {w : World} {g : Nat} (h : qFM qGI w g) : qBa w g := by
 intro o x he; rcases h o _ he with ⟨b, e⟩ | ⟨a, n, c, e⟩ <;> cases e
theorem qFM.s {w : World} {g : Nat} (h : qFM isS w g) : qBa w g := by
 intro o x he; obtain ⟨a, n, c, e⟩ := h o _ he; cases e
theorem qFM.below {Q : Value -> Prop} {w w' : World} {g B : Nat} (h : qFM Q w g) (hb : Below B w w') (hg : g < B) : qFM Q w' g := fun o u he => h o u ((World.cell?_of_block (a := ⟨g, o, none⟩) (hb.block g hg)).symm.trans he)
theorem qFM.only {Q : Value -> Prop} {S : Nat -> Prop} {w w' : World} {g : Nat} (h : qFM Q w g) (ho : qAc S w w') (hg : g < w.heap.size) (hS : ¬ S g) : qFM Q w' g := fun o u he => h o u ((World.cell?_of_block (a := ⟨g, o, none⟩) (ho.block g hg hS)).symm.trans he)
theorem qCI {Q : Value -> Prop} {w : World} {g : Nat} {cs : Array Value} {t : TypeId} {fz : Nat × Nat} (h : w.heap[g]? = some (.cells cs t fz)) (hc : ∀ u ∈ cs, Q u) : qFM Q w g := by
 intro o x he; unfold World.cell? at he; simp only [h] at he; simp only [Option.isSome_none, Bool.false_eq_true, if_false] at he; exact hc _ (Array.mem_of_getElem? he)
theorem qH4 {Q : Value -> Prop} {w : World} {g : Nat} {cs : Array Value} {t : TypeId} {fz : Nat × Nat} (h : w.heap[g]? = some (.cells cs t fz)) (hn : qFM Q w g) : ∀ u ∈ cs, Q u := by
 intro u hu; obtain ⟨i, hi, rfl⟩ := Array.mem_iff_getElem.1 hu; refine hn i _ ?_; unfold World.cell?; simp only [h]; simp [hi]
theorem qE1 {Q : Value -> Prop} {w w' : World} {g : Nat} (h : qFM Q w g) (he : w'.heap[g]? = w.heap[g]?) : qFM Q w' g := fun o u hc => h o u ((World.cell?_of_block (a := ⟨g, o, none⟩) he).symm.trans hc)
section
variable {S : Nat -> Prop} {w w' : World}
theorem qAd.onlyD {v : Value} {L : List Nat} (h : qAd .i64 w v L) (ho : qAc S w w') (hS : ∀ b, S b -> qBa w b) : qAd .i64 w' v L := by
 obtain ⟨a, cap, hv, h1, h2, hc⟩ := h; refine ⟨a, cap, hv, h1, h2, fun h0 => ?_⟩; obtain ⟨b, off, ha, hlt, hcc⟩ := hc h0; have hn : ¬ S b := fun hs => hS b hs _ _ (hcc 0 h0); exact ⟨b, off, ha, Nat.lt_of_lt_of_le hlt ho.size, fun j hj => (ho.cell (p := ⟨b, off + j, none⟩) hn hlt).trans (hcc j hj)⟩
theorem qAL.only {v : Value} {z : Int} (h : qAL w v z) (ho : qAc S w w') (hS : ∀ b, S b -> qBa w b) : qAL w' v z := by
 obtain ⟨vw, hv, hm⟩ := h; exact ⟨vw, hv, qAd.onlyD hm ho hS⟩
theorem qAL.blw {v : Value} {z : Int} (h : qAL w v z) (hb : Below w.heap.size w w') : qAL w' v z := h.below (Nat.le_refl _) hb
instance {v : Value} {z : Int} : Mv w w' (qAL w v z) (qAL w' v z) := ⟨fun hb h => qAL.blw h hb⟩
theorem qCx (w : World) : qAL w (.agg #[.bool false, .slice none 0 0]) 0 := ⟨_, rfl, none, 0, by rw [Int.natAbs_zero]; rfl, Nat.zero_le _, by omega, fun h => by rw [Int.natAbs_zero, (qBM T4 0 qAn).2 rfl] at h; simp at h⟩
def qMM (w : World) (b o : Nat) (z : Int) : Prop := ∃ s a n c, w.cell? ⟨b, o, none⟩ = some (.bool s) /\ w.cell? ⟨b, o + 1, none⟩ = some (.slice a n c) /\ qAL w (.agg #[.bool s, .slice a n c]) z
abbrev Nw := Nat × Nat × Nat
def nrV (n : Nat) (x : Nw) : Value := .slice (some ⟨x.1, x.2.1, none⟩) n x.2.2
structure NRo (w : World) (x : Nw) (zs : List Int) : Prop where
 lt : x.1 < w.heap.size
 bs : qFM qGI w x.1
 fz : ∀ o, w.frozen? ⟨x.1, o, none⟩ = false
 cel : ∀ j (h : j < zs.length), qMM w x.1 (x.2.1 + j * 2) zs[j]
theorem qGh {g : Nat} (h : w'.heap[g]? = w.heap[g]?) (o : Nat) : w'.frozen? ⟨g, o, none⟩ = w.frozen? ⟨g, o, none⟩ := by
 unfold World.frozen?; simp only [h]
theorem NRo.only {x : Nw} {zs : List Int} (h : NRo w x zs) (ho : qAc S w w') (hS : ∀ b, S b -> qBa w b) (hn : ¬ S x.1) : NRo w' x zs := by
 have hb := ho.block _ h.lt hn; refine ⟨Nat.lt_of_lt_of_le h.lt ho.size, qE1 h.bs hb, fun o => (qGh hb o).trans (h.fz o), fun j hj => ?_⟩; obtain ⟨s, a, n, c, h1, h2, h3⟩ := h.cel j hj; exact ⟨s, a, n, c, (World.cell?_of_block (w := w) hb).trans h1, (World.cell?_of_block (w := w) hb).trans h2, h3.only ho hS⟩
theorem NRo.blw {x : Nw} {zs : List Int} (h : NRo w x zs) (hb : Below w.heap.size w w') : NRo w' x zs := h.only (S := fun _ => False) (qAc.of_below hb) (fun _ h => h.elim) (fun h => h)
instance {x : Nw} {zs : List Int} : Mv w w' (NRo w x zs) (NRo w' x zs) := ⟨fun hb h => NRo.blw h hb⟩
theorem NRo.get {x : Nw} {zs : List Int} (h : NRo w x zs) (j : Nat) (hj : j < zs.length) : ∃ s a n c, w.cell? ⟨x.1, x.2.1 + j * 2, none⟩ = some (.bool s) /\ w.cell? ⟨x.1, x.2.1 + j * 2 + 1, none⟩ = some (.slice a n c) /\ qAL w (.agg #[.bool s, .slice a n c]) zs[j] := h.cel j hj
theorem NRo.from_ {x : Nw} {zs : List Int} (h : NRo w x zs) (k : Nat) (c : Nat) : NRo w (x.1, x.2.1 + k * 2, c) (zs.drop k) := by
 refine ⟨h.lt, h.bs, h.fz, fun j hj => ?_⟩; rw [List.length_drop] at hj; have h1 := h.cel (k + j) (by omega); rw [List.getElem_drop]; have e : x.2.1 + k * 2 + j * 2 = x.2.1 + (k + j) * 2 := by omega
 simp only [e]; exact h1
def NLs (w : World) (xs : List Value) (zs : List Int) : Prop := xs.length = zs.length * 2 /\ ∀ j (h : j < zs.length), ∃ s a n c, xs[j * 2]? = some (.bool s) /\ xs[j * 2 + 1]? = some (.slice a n c) /\ qAL w (.agg #[.bool s, .slice a n c]) zs[j]
theorem NLs.nil : NLs w [] [] := ⟨rfl, fun j h => by simp at h⟩
theorem NLs.only {xs : List Value} {zs : List Int} (h : NLs w xs zs) (ho : qAc S w w') (hS : ∀ b, S b -> qBa w b) : NLs w' xs zs := by
 refine ⟨h.1, fun j hj => ?_⟩; obtain ⟨s, a, n, c, h1, h2, h3⟩ := h.2 j hj; exact ⟨s, a, n, c, h1, h2, h3.only ho hS⟩
theorem NLs.blw {xs : List Value} {zs : List Int} (h : NLs w xs zs) (hb : Below w.heap.size w w') : NLs w' xs zs := h.only (S := fun _ => False) (qAc.of_below hb) (fun _ h => h.elim)
instance {xs : List Value} {zs : List Int} : Mv w w' (NLs w xs zs) (NLs w' xs zs) := ⟨fun hb h => NLs.blw h hb⟩
theorem NLs.snoc {xs : List Value} {zs : List Int} {s : Bool} {a : Option Addr} {n c : Nat} {z : Int} (h : NLs w xs zs) (hz : qAL w (.agg #[.bool s, .slice a n c]) z) : NLs w (xs ++ [.bool s, .slice a n c]) (zs ++ [z]) := by
 have hl := h.1; refine ⟨by simp [hl]; omega, fun j hj => ?_⟩; rw [List.length_append, List.length_singleton] at hj; by_cases e : j < zs.length
 ·obtain ⟨s', a', n', c', h1, h2, h3⟩ := h.2 j e
  refine ⟨s', a', n', c', ?_, ?_, ?_⟩
  ·rw [List.getElem?_append_left (by omega)]; exact h1
  ·rw [List.getElem?_append_left (by omega)]; exact h2
  ·rw [List.getElem_append_left e]; exact h3
 ·obtain rfl : j = zs.length := by omega
  refine ⟨s, a, n, c, ?_, ?_, ?_⟩
  ·rw [List.getElem?_append_right (by omega), hl, Nat.sub_self]; rfl
  ·rw [List.getElem?_append_right (by omega), hl, Nat.add_sub_cancel_left]; rfl
  ·rw [List.getElem_append_right (by omega)]; simpa using hz
end
def qBH (Q : Value -> Prop) (w : World) (base : Nat) (e : TypeId) (size : Nat) (v : Value) (n : Nat) (xs : List Value) : Prop := w.ownsRow base e size v n xs /\ ∀ g, v.ownBlock = some g -> qFM Q w g
section
variable {Q : Value -> Prop}
theorem qBH.nil (w : World) (base : Nat) (e : TypeId) (size : Nat) : qBH Q w base e size (.slice none 0 0) 0 [] := ⟨World.ownsRow_nil w base e size, fun g h => by simp [Value.ownBlock] at h⟩
theorem qBH.lt {w : World} {base : Nat} {e : TypeId} {size : Nat} {v : Value} {n : Nat} {xs : List Value} (h : qBH Q w base e size v n xs) : ∀ k, v.ownBlock = some k -> base <= k /\ k < w.heap.size := h.1.lt
theorem qBH.only {w w' : World} {S : Nat -> Prop} {base : Nat} {e : TypeId} {size : Nat} {v : Value} {n : Nat} {xs : List Value} (h : qBH Q w base e size v n xs) (ho : qAc S w w') (hS : ∀ g, v.ownBlock = some g -> ¬ S g) : qBH Q w' base e size v n xs := by
 have hk : ∀ g, v.ownBlock = some g -> w'.heap[g]? = w.heap[g]? := fun g hg => ho.block g (h.1.lt g hg).2 (hS g hg); refine ⟨⟨h.1.1, ?_⟩, fun g hg => qE1 (h.2 g hg) (hk g hg)⟩; rcases h.1.2 with h1 | ⟨g, cap, cur, hv, hb, hh, rest⟩
 ·exact .inl h1
 ·exact .inr ⟨g, cap, cur, hv, hb, (hk g (by rw [hv]; rfl)).trans hh, rest⟩
theorem qBH.blw {w w' : World} {base : Nat} {e : TypeId} {size : Nat} {v : Value} {n : Nat} {xs : List Value} (h : qBH Q w base e size v n xs) (hb : Below w.heap.size w w') : qBH Q w' base e size v n xs := h.only (S := fun _ => False) (qAc.of_below hb) (fun _ _ h => h)
instance {w w' : World} {base : Nat} {e : TypeId} {size : Nat} {v : Value} {n : Nat} {xs : List Value} : Mv w w' (qBH Q w base e size v n xs) (qBH Q w' base e size v n xs) := ⟨fun hb h => qBH.blw h hb⟩
theorem qBH.form {w : World} {base : Nat} {e : TypeId} {size : Nat} {v : Value} {n : Nat} {xs : List Value} (h : qBH Q w base e size v n xs) : ∃ a c, v = .slice a n c /\ n <= c /\ c <= 9223372036854775807 := by
 rcases h.1.2 with ⟨hv, e⟩ | ⟨g, cap, cur, hv, hb, hh, hn, hm, rest⟩
 ·exact ⟨none, 0, by rw [hv, e], by omega, by omega⟩
 ·exact ⟨_, cap, hv, hn, by unfold maxLen at hm; omega⟩
theorem qBH.some_ {w : World} {base : Nat} {e : TypeId} {size : Nat} {v : Value} {n : Nat} {xs : List Value} (h : qBH Q w base e size v n xs) (hn : 0 < n) : ∃ g c, v = .slice (some ⟨g, 0, none⟩) n c /\ n <= c /\ c <= 9223372036854775807 /\ base <= g /\ g < w.heap.size := by
 rcases h.1.2 with ⟨hv, e⟩ | ⟨g, cap, cur, hv, hb, hh, hn, hm, rest⟩
 ·omega
 ·exact ⟨g, cap, hv, hn, by unfold maxLen at hm; omega, hb, (Array.getElem?_eq_some_iff.1 hh).1⟩
theorem qF1 {o : Oper} {a : Act} {w : World} {K : Act -> World -> Prop} {Q' : Exit -> Act -> World -> Prop} (s x : Operand) (t : TypeId)
 (ho : o.op = .call { callee := .builtin .append, args := #[s, x], argTypes := #[t, t] })
 (base : Nat) (e : TypeId) (i : TypeInfo) (z : Value) (size bytes : Nat) (ht : Try.prog.underlying t = some (.slice e)) (hi : Try.prog.info? e = some i) (hz : i.zero = some z)
 (hsize : i.size = size) (hby : i.bytes = bytes) (hzs : z.cells.size = size) (hsz : 0 < size) (hzn : ∀ u ∈ z.cells, Q u)
 (v : Value) (n : Nat) (xs : List Value) (hs : a.eval s = v) (hown : qBH Q w base e size v n xs)
 (ad : Addr) (m c : Nat) (news : List Value) (hx : a.eval x = .slice (some ad) m c) (hl : news.length = m * size) (hnews : ∀ j u, news[j]? = some u -> w.cell? (ad.add j) = some u) (h1 : ∀ u ∈ news, u.oneCell' = true) (hnn : ∀ u ∈ news, Q u) (hm : 0 < m)
 (h63 : n + m <= maxLen) (hbytes : (n + m) * bytes <= 140737488355328) (hbase : base <= w.heap.size)
 (h : ∀ v' w', qBH Q w' base e size v' (n + m) (xs ++ news) -> qAc (fun b => v.ownBlock = some b) w w' -> K (a.put o.dst v') w') : Oper.wp Try.prog o a w K Q' := by
 obtain ⟨v', w', hr, h2, h3, -⟩ := run_append_own (P := Try.prog) w base t o.type e i z size bytes ht hi hz hsize hby hzs hsz v n xs hown.1 ad m c news hl hnews h1 h63 hbytes hbase; have hon : qAc (fun b => v.ownBlock = some b) w w' := ⟨h3.os, h3.tape, h3.output, h3.size, fun k hk hn => h3.block k hk (fun e => hn e.symm)⟩; have hxs : ∀ u ∈ xs, Q u := by
  intro u hu; rcases hown.1.2 with ⟨rfl, rfl⟩ | ⟨g, cap, cur, hv, hb, hh, hn, hm, hs2, ht2⟩
  ·have : xs = [] := List.eq_nil_of_length_eq_zero (by simpa using hown.1.1)
   rw [this] at hu; cases hu
  ·refine qH4 hh (hown.2 g (by rw [hv]; rfl)) u ?_
   rw [<- ht2] at hu; exact Array.mem_toList_iff.1 (List.mem_of_mem_take hu)
 have hzc : ∀ k, ∀ u ∈ Builtin.zeroCells z.cells k, Q u := fun k u hu => hzn u (qCm hu (by omega)); have hbig : ∀ k, ∀ u ∈ xs.toArray ++ news.toArray ++ Builtin.zeroCells z.cells k, Q u := fun k u hu => by
  simp only [Array.mem_append, List.mem_toArray] at hu; rcases hu with (hu | hu) | hu
  ·exact hxs u hu
  ·exact hnn u hu
  ·exact hzc k u hu
 have hN : ∀ g, v'.ownBlock = some g -> qFM Q w' g := by
  subst hsize hby; rcases hown.1.2 with ⟨rfl, rfl⟩ | ⟨g, cap, cur, rfl, hbg, hg, hnc, hcm, hcs, htake⟩
  ·have hx0 : xs = [] := List.eq_nil_of_length_eq_zero (by simpa using hown.1.1)
   subst hx0; have hr2 := run_append_nil (P := Try.prog) w t o.type e i z ht hi hz ad m c news hl hnews hm (by unfold maxLen at h63; omega) (by simp only [Nat.zero_add] at hbytes; omega); rw [hr2] at hr; injection hr with e1 e2; subst e1 e2; intro g hg; simp only [Value.ownBlock, Option.some.injEq] at hg; subst hg; refine qCI (heap_alloc_new w.drew _) ?_; have := hbig (grownCap w m 0 e - m); simpa using this
  ·by_cases hroom : n + m <= cap
   ·have hfit : n * i.size + news.length <= cur.size := by rw [hl, hcs, <- Nat.add_mul]; exact Nat.mul_le_mul_right _ hroom
    have hr2 := run_append_room (P := Try.prog) w t o.type e i ht hi g n cap cur hg ad m c news hl hnews h1 hroom hfit; rw [hr2] at hr; injection hr with e1 e2; subst e1 e2; intro g' hg'; simp only [Value.ownBlock, Option.some.injEq] at hg'; subst hg'; refine qCI (setRow_heap w g cur _ e _ hg) ?_; intro u hu; have hcu := qH4 hg (hown.2 g rfl); simp only [List.mem_toArray, List.mem_append] at hu; rcases hu with (hu | hu) | hu
    ·exact hcu u (Array.mem_toList_iff.1 (List.mem_of_mem_take hu))
    ·exact hnn u hu
    ·exact hcu u (Array.mem_toList_iff.1 (List.mem_of_mem_drop hu))
   ·have holds : ∀ j u, xs[j]? = some u -> w.cell? ((⟨g, 0, none⟩ : Addr).add j) = some u := hown.1.cells (g := g) rfl
    have hr2 := run_append_grow (P := Try.prog) w t o.type e i z ht hi hz ⟨g, 0, none⟩ n cap xs hown.1.1 holds ad m c news hl hnews (by omega) (by unfold maxLen at h63; omega) (growslice_fits (by omega) hbytes); rw [hr2] at hr; injection hr with e1 e2; subst e1 e2; intro g' hg'; simp only [Value.ownBlock, Option.some.injEq] at hg'; subst hg'; exact qCI (heap_alloc_new w.drew _) (hbig _)
 unfold Oper.wp execOp; simp only [ho, resolve, invoke, builtin, Sem.run_bind, Sem.run_pure, Result.andThen_ok, List.map_toArray, List.map_cons, List.map_nil, hs, hx, hr]; exact h v' w' ⟨h2, hN⟩ hon
theorem qA2 {ops : Array Oper} {rest : List Oper} {o : Oper} {a : Act} {w : World} {Q' : Exit -> Act -> World -> Prop} (hgd : o.guard = none) (s x : Operand) (t : TypeId)
 (ho : o.op = .call { callee := .builtin .append, args := #[s, x], argTypes := #[t, t] })
 (base : Nat) (e : TypeId) (i : TypeInfo) (z : Value) (size bytes : Nat) (ht : Try.prog.underlying t = some (.slice e)) (hi : Try.prog.info? e = some i) (hz : i.zero = some z)
 (hsize : i.size = size) (hby : i.bytes = bytes) (hzs : z.cells.size = size) (hsz : 0 < size) (hzn : ∀ u ∈ z.cells, Q u)
 (v : Value) (n : Nat) (xs : List Value) (hs : a.eval s = v) (hown : qBH Q w base e size v n xs)
 (ad : Addr) (m c : Nat) (news : List Value) (hx : a.eval x = .slice (some ad) m c) (hl : news.length = m * size) (hnews : ∀ j u, news[j]? = some u -> w.cell? (ad.add j) = some u) (h1 : ∀ u ∈ news, u.oneCell' = true) (hnn : ∀ u ∈ news, Q u) (hm : 0 < m)
 (h63 : n + m <= maxLen) (hbytes : (n + m) * bytes <= 140737488355328) (hbase : base <= w.heap.size)
 (h : ∀ v' w', qBH Q w' base e size v' (n + m) (xs ++ news) -> qAc (fun b => v.ownBlock = some b) w w' -> wpList Try.prog ops Q' rest (a.put o.dst v') w') : wpList Try.prog ops Q' (o :: rest) a w := 
 wpList_plain hgd fun K hK => qF1 s x t ho base e i z size bytes ht hi hz hsize hby hzs hsz hzn v n xs hs hown ad m c news hx hl hnews h1 hnn hm h63 hbytes hbase (fun v' w' g1 g2 => hK _ _ (h v' w' g1 g2))
theorem qIH {ops : Array Oper} {o : Oper} {a : Act} {w : World} {K : Act -> World -> Prop} {Q' : Exit -> Act -> World -> Prop} {E : Prop} (hgd : o.guard = none) (d : Nat) (hd : o.dst = some d) (s x : Operand) (t : TypeId)
 (ho : o.op = .call { callee := .builtin .append, args := #[s, x], argTypes := #[t, t] })
 (base : Nat) (e : TypeId) (i : TypeInfo) (z : Value) (size bytes : Nat) (ht : Try.prog.underlying t = some (.slice e)) (hi : Try.prog.info? e = some i) (hz : i.zero = some z)
 (hsize : i.size = size) (hby : i.bytes = bytes) (hzs : z.cells.size = size) (hsz : 0 < size) (hzn : ∀ u ∈ z.cells, Q u)
 (v : Value) (n : Nat) (xs : List Value) (hs : a.eval s = v) (hown : qBH Q w base e size v n xs)
 (ad : Addr) (m c : Nat) (news : List Value) (hx : a.eval x = .slice (some ad) m c) (hl : news.length = m * size) (hnews : ∀ j u, news[j]? = some u -> w.cell? (ad.add j) = some u) (h1 : ∀ u ∈ news, u.oneCell' = true) (hnn : ∀ u ∈ news, Q u) (hm : 0 < m)
 (h63 : n + m <= maxLen) (hbytes : (n + m) * bytes <= 140737488355328) (hbase : base <= w.heap.size)
 (h : ∀ v' w', qBH Q w' base e size v' (n + m) (xs ++ news) -> qAc (fun b => v.ownBlock = some b) w w' -> K ⟨a.tmps.setIfInBounds d v', a.defers⟩ w') : if Region.wanted o (yielded ops a.tmps) = true then Oper.wp Try.prog o a w K Q' else E := by
 rw [if_pos (by simp [Region.wanted, hgd])]; exact qF1 s x t ho base e i z size bytes ht hi hz hsize hby hzs hsz hzn v n xs hs hown ad m c news hx hl hnews h1 hnn hm h63 hbytes hbase (fun v' w' g1 g2 => by rw [hd]; exact h v' w' g1 g2)
theorem qBE {w : World} {g j o : Nat} {u u0 : Value} (h : w.cell? ⟨g, j, none⟩ = some u0) : (w.setCell ⟨g, j, none⟩ u).cell? ⟨g, o, none⟩ = if o = j then some u else w.cell? ⟨g, o, none⟩ := by
 by_cases e : o = j
 ·subst e
  rw [if_pos rfl]; exact World.cell?_setCell_same _ _ _ h
 ·rw [if_neg e]
  exact World.cell?_setCell_other _ _ _ _ (fun h => e (by injection h with _ h2; exact h2.symm))
theorem qBH.stored {w : World} {base : Nat} {e : TypeId} {size n cap g : Nat} {xs : List Value} (h : qBH Q w base e size (.slice (some ⟨g, 0, none⟩) n cap) n xs) (j : Nat) (hj : j < xs.length) {u : Value} (hu : Q u) : qBH Q (w.setCell ⟨g, j, none⟩ u) base e size (.slice (some ⟨g, 0, none⟩) n cap) n (xs.set j u) := by
 refine ⟨(h.1.stored j u).1, fun g' hg' o v hc => ?_⟩; simp only [Value.ownBlock, Option.some.injEq] at hg'; subst hg'; have hl := h.1.1; have hcell : w.cell? ⟨g, j, none⟩ = some xs[j] := by rw [h.1.cellAt j (by omega), List.getElem?_eq_getElem hj]
 rw [qBE hcell] at hc
 split at hc
 ·injection hc with hc; rw [<- hc]; exact hu
 ·exact h.2 g rfl o v hc
end
theorem qBH.nro {w : World} {base : Nat} {g n cap : Nat} {xs : List Value} {zs : List Int} {e : TypeId} (h : qBH qGI w base e 2 (.slice (some ⟨g, 0, none⟩) n cap) n xs) (hz : NLs w xs zs) : NRo w (g, 0, cap) zs := by
 have hl := h.1.1; refine ⟨(h.lt g rfl).2, h.2 g rfl, fun o => h.1.frozenAt o, fun j hj => ?_⟩; obtain ⟨s, a, k, c, h1, h2, h3⟩ := hz.2 j hj; have hl2 := hz.1; refine ⟨s, a, k, c, ?_, ?_, h3⟩
 ·show w.cell? ⟨g, 0 + j * 2, none⟩ = _
  rw [Nat.zero_add, h.1.cellAt _ (by omega)]; exact h1
 ·show w.cell? ⟨g, 0 + j * 2 + 1, none⟩ = _
  rw [Nat.zero_add, h.1.cellAt _ (by omega)]; exact h2
end Go.Proofs.Ytlmbebbdamgfpaa
