/- worldmintref10.sum. -/
import Derived.Test.YtkjhlkngihponaaGreatDoorQVR5Comp
import Derived.Test.YtkjhlkngihponaaGreatDoorQVWDivS
import Derived.Laws.AppendOwnNone
import Derived.Test.YtkjhlkngihponaaGreatDoorQVRegLast
import Derived.Deep.LoopGhost
import Derived.Test.YtkjhlkngihponaaGreatDoorQVWDiv
import Derived.Test.YtkjhlkngihponaaGreatDoorQVLOwn
import Derived.Test.YtkjhlkngihponaaGreatDoorQVLDet
import Derived.Test.YtkjhlkngihponaaGreatDoorQVRegFree
import Derived.Test.YtkjhlkngihponaaGreatDoorQVYLBas
set_option linter.unusedVariables false
set_option linter.unusedSimpArgs false
set_option maxHeartbeats 4000000
set_option maxRecDepth 100000
namespace Go.Proofs.YtkjhlkngihponaaGreatDoor
open Go.RowKit
theorem qEP (A B acc : List Nat) (i cy tot : Nat) (hl : acc.length = i) (hv : val T4 acc + T4 ^ i * (cy + val T4 (A.drop i) + val T4 (B.drop i)) = tot) (hA : Low T4 A) (hB : Low T4 B) (hcy : cy <= 1) :
 let x := A.getD i 0 + B.getD i 0 + cy
 x <= 19999 /\ val T4 (acc ++ [x % T4]) + T4 ^ (i + 1) * (x / T4 + val T4 (A.drop (i + 1)) + val T4 (B.drop (i + 1))) = tot := by
 intro x; have hd : ∀ L : List Nat, Low T4 L -> L.getD i 0 < T4 /\ val T4 (L.drop i) = L.getD i 0 + T4 * val T4 (L.drop (i + 1)) := by
  intro L hL; by_cases h : i < L.length
  ·have e : L.getD i 0 = L[i] := by simp [List.getD, h]
   rw [e, List.drop_eq_getElem_cons h]; exact ⟨hL _ (List.getElem_mem h), rfl⟩
  ·have e : L.getD i 0 = 0 := by simp [List.getD, h]
   rw [e, List.drop_of_length_le (by omega), List.drop_of_length_le (by omega)]; exact ⟨by decide, rfl⟩
 obtain ⟨a1, a2⟩ := hd A hA; obtain ⟨b1, b2⟩ := hd B hB; have h10 : T4 = 10000 := rfl; refine ⟨by show A.getD i 0 + B.getD i 0 + cy <= 19999; omega, ?_⟩; rw [a2, b2] at hv; rw [qAF, hl, <- hv, Nat.pow_succ]; have hx : x = T4 * (x / T4) + x % T4 := (Nat.div_add_mod x T4).symm; have hxe : A.getD i 0 + B.getD i 0 + cy = x := rfl; have h1 : val T4 [x % T4] = x % T4 := by simp [val]
 rw [h1]; generalize T4 ^ i = P; generalize val T4 (A.drop (i + 1)) = u at *; generalize val T4 (B.drop (i + 1)) = v at *; generalize A.getD i 0 = p at *; generalize B.getD i 0 = q at *; generalize x / T4 = d at *; generalize x % T4 = r at *; clear hv hd; have : cy + (p + T4 * u) + (q + T4 * v) = r + T4 * (d + u + v) := by rw [Nat.mul_add, Nat.mul_add]; omega
 rw [this]; generalize d + u + v = S; rw [Nat.mul_add P r, Nat.mul_assoc, Nat.add_assoc]
theorem qK6 (va vb : Value) (m n : Nat) (w : World) (ha : qDb w va m) (hb : qDb w vb n) (hl1 : (qAd T4 m).length <= 1048576) (hl2 : (qAd T4 n).length <= 1048576) :
 Calls Tryz.prog 171 #[va, vb] w fun e w' => (∃ v L, e = .returned v /\ qAb .i64 w' v L /\ Low T4 L /\ val T4 L = m + n /\ L.length <= 2097153) /\ Below w.heap.size w w' := by
 obtain ⟨i0, hi, hz0, hz1, hz2⟩ := info_parts qE4; have Hi := hZ hi; have Hz0 := hZ hz0; have Hz1 := hZ hz1; have Hz2 := hZ hz2; clear hi hz0 hz1 hz2; have HA := hZ ha; have HBb := hZ hb; obtain ⟨a, ca, rfl, h1, h2, -⟩ := ha; obtain ⟨b, cb, rfl, h3, h4, -⟩ := hb; have Hat1 := hZ (fun w' (hb : Below w.heap.size w w') i hi => qJF _ (qAd T4 m) w' (qAb.below HA.o (Nat.le_refl _) hb) (by omega) i hi); have Hat2 := hZ (fun w' (hb : Below w.heap.size w w') i hi => qJF _ (qAd T4 n) w' (qAb.below HBb.o (Nat.le_refl _) hb) (by omega) i hi); have HLA := hZ (qAl T4 qAw m); have HLB := hZ (qAl T4 qAw n); have Htot : Hid (val T4 ([] : List Nat) + T4 ^ 0 * (0 + val T4 ((qAd T4 m).drop 0) + val T4 ((qAd T4 n).drop 0)) = m + n) := hZ (by
  rw [List.drop_zero, List.drop_zero, qAj T4 qAw, qAj T4 qAw]
  show 0 + 1 * (0 + m + n) = m + n
  omega)
 generalize qAd T4 m = A at *; generalize qAd T4 n = B at *; generalize hNA : A.length = NA at *; generalize hNB : B.length = NB at *; have HNA := hZ hNA; have HNB := hZ hNB; clear HA HBb hNA hNB
 go_enter Tryz.func171, Tryz.ntmps171
 go_wp2
 go_loopw [5, 6, 7] (fun ov cv iv7 wr => ∃ (acc : List Nat) (i cy : Nat) (ga : Option Addr) (gc : Nat), iv7 = .int .i64 (i : Int) /\ cv = .int .i64 (cy : Int) /\ ov = .slice ga acc.length gc /\ Hid (acc.length = i) /\ cy <= 1 /\ i <= NA + NB + 1 /\ (i <= NA + NB \/ cy = 0) /\ Hid (Low T4 acc) /\ Hid (val T4 acc + T4 ^ i * (cy + val T4 (A.drop i) + val T4 (B.drop i)) = m + n) /\ Hid (wr.ownsRow w.heap.size 3 1 (.slice ga acc.length gc) acc.length (acc.map (iv .i64))) /\ Hid (Below w.heap.size w wr)) (fun _ _ v _ => NA + NB + 2 - (qHK v - 1))
 case atStart => exact ⟨[], 0, 0, none, 0, rfl, rfl, rfl, hZ rfl, by omega, by omega, by omega, hZ (fun x hx => by cases hx), Htot, hZ (World.ownsRow_nil _ _ _ _), hZ (Below.refl _ _)⟩
 case round =>
  obtain ⟨acc, i, cy, ga, gc, rfl, rfl, rfl, hai, hcy, hil, hor, hlow, hval, hown, hB⟩ := hrel; have hal := hai.o; have hgc : gc <= 9223372036854775807 := by
   rcases hown.o.2 with ⟨hv, _⟩ | ⟨_, _, _, hv, _, _, _, h3, _⟩
   ·injection hv with _ _ e; omega
   ·injection hv with _ _ e; unfold maxLen at h3; omega
  have hal2 : acc.length <= 2097153 := by omega
  have hzr := hB.o.size; clear hal; by_cases hmore : i < NA
  ·have Hps := hZ (qEP A B acc i cy (m + n) hai.o hval.o HLA.o HLB.o hcy)
   obtain ⟨x1, hx1⟩ := eX (A.getD i 0); obtain ⟨x2, hx2⟩ := eX (B.getD i 0); have Hc1 := hZ (Hat1.o wr hB.o i (by omega)); have Hc2 := hZ (Hat2.o wr hB.o i (by omega)); rw [hx1] at Hc1 Hps; rw [hx2] at Hc2 Hps; have hx := Hps.o.1; obtain ⟨k, hk⟩ := eX ((x1 + x2 + cy) % T4); obtain ⟨q, hq⟩ := eX ((x1 + x2 + cy) / T4); have hk' : (x1 + x2 + cy) % 10000 = k := hk; have hq' : (x1 + x2 + cy) / 10000 = q := hq; have hkI : ((x1 : Int) + (x2 : Int) + (cy : Int)) % 10000 = (k : Int) := by omega
   have hqI : ((x1 : Int) + (x2 : Int) + (cy : Int)) / 10000 = (q : Int) := by omega
   have hkl : k < 10000 := by omega
   have hq1 : q <= 1 := by omega
   have Hv2 := Hps.o.2; rw [hk, hq] at Hv2; have Hv := hZ Hv2; clear Hv2 hk hq hk' hq' hx1 hx2
   go_wp2_with fail
   refine Hc1.o.mono ?_; rintro e w7 ⟨rfl, rfl⟩
   go_wp2_with fail
   refine Hc2.o.mono ?_; rintro e w8 ⟨rfl, rfl⟩
   go_wp2_with (at_builtin; refine wpList_append_own _ rfl _ _ 22 rfl w.heap.size 3 i0 _ 1 8 Tryz.underlying22 Hi.o Hz0.o Hz1.o Hz2.o rfl (by decide) _ _ _ rfl (hown.o.alloc _) ⟨w8.heap.size, 0, none⟩ 1 1 [iv .i64 k] rfl rfl (cell_one_new _ _ _) (by simp [Value.oneCell', iv]) (by unfold maxLen; omega) (by omega) (by simp; omega) ?_)
   intro v5 w5 hown5 hgrow _; obtain ⟨g5, cap5, hv5, _⟩ := hown5.form (by omega); subst hv5; have Hown5 : Hid (w5.ownsRow w.heap.size 3 1 (.slice (some ⟨g5, 0, none⟩) (acc ++ [k]).length cap5) (acc ++ [k]).length ((acc ++ [k]).map (iv .i64))) := hZ (by rw [List.length_append, List.map_append]; exact hown5); have HB5 := hZ ((hB.o.alloc hB.o.size (.cells #[.int .i64 (k : Int)] 3)).grown hgrow (by simp; have := hB.o.size; omega) (fun k e => (hown.o.lt k e).1)); clear hown5 hgrow
   go_wp2
   go_roundw
   case rel => exact ⟨acc ++ [k], i + 1, q, some ⟨g5, 0, none⟩, cap5, by simp, by rw [hqI], by simp, hZ (by rw [List.length_append, hai.o]; rfl), hq1, by omega, by omega, hZ (fun y hy => by rcases List.mem_append.1 hy with hy | hy; exact hlow.o y hy; rw [List.mem_singleton.1 hy]; exact hkl), Hv, Hown5, HB5⟩
   case measure => simp [qHK]; omega
  ·by_cases hmore2 : i < NB
   ·have Hps := hZ (qEP A B acc i cy (m + n) hai.o hval.o HLA.o HLB.o hcy)
    obtain ⟨x1, hx1⟩ := eX (A.getD i 0); obtain ⟨x2, hx2⟩ := eX (B.getD i 0); have Hc1 := hZ (Hat1.o wr hB.o i (by omega)); have Hc2 := hZ (Hat2.o wr hB.o i (by omega)); rw [hx1] at Hc1 Hps; rw [hx2] at Hc2 Hps; have hx := Hps.o.1; obtain ⟨k, hk⟩ := eX ((x1 + x2 + cy) % T4); obtain ⟨q, hq⟩ := eX ((x1 + x2 + cy) / T4); have hk' : (x1 + x2 + cy) % 10000 = k := hk; have hq' : (x1 + x2 + cy) / 10000 = q := hq; have hkI : ((x1 : Int) + (x2 : Int) + (cy : Int)) % 10000 = (k : Int) := by omega
    have hqI : ((x1 : Int) + (x2 : Int) + (cy : Int)) / 10000 = (q : Int) := by omega
    have hkl : k < 10000 := by omega
    have hq1 : q <= 1 := by omega
    have Hv2 := Hps.o.2; rw [hk, hq] at Hv2; have Hv := hZ Hv2; clear Hv2 hk hq hk' hq' hx1 hx2
    go_wp2_with fail
    refine Hc1.o.mono ?_; rintro e w7 ⟨rfl, rfl⟩
    go_wp2_with fail
    refine Hc2.o.mono ?_; rintro e w8 ⟨rfl, rfl⟩
    go_wp2_with (at_builtin; refine wpList_append_own _ rfl _ _ 22 rfl w.heap.size 3 i0 _ 1 8 Tryz.underlying22 Hi.o Hz0.o Hz1.o Hz2.o rfl (by decide) _ _ _ rfl (hown.o.alloc _) ⟨w8.heap.size, 0, none⟩ 1 1 [iv .i64 k] rfl rfl (cell_one_new _ _ _) (by simp [Value.oneCell', iv]) (by unfold maxLen; omega) (by omega) (by simp; omega) ?_)
    intro v5 w5 hown5 hgrow _; obtain ⟨g5, cap5, hv5, _⟩ := hown5.form (by omega); subst hv5; have Hown5 : Hid (w5.ownsRow w.heap.size 3 1 (.slice (some ⟨g5, 0, none⟩) (acc ++ [k]).length cap5) (acc ++ [k]).length ((acc ++ [k]).map (iv .i64))) := hZ (by rw [List.length_append, List.map_append]; exact hown5); have HB5 := hZ ((hB.o.alloc hB.o.size (.cells #[.int .i64 (k : Int)] 3)).grown hgrow (by simp; have := hB.o.size; omega) (fun k e => (hown.o.lt k e).1)); clear hown5 hgrow
    go_wp2
    go_roundw
    case rel => exact ⟨acc ++ [k], i + 1, q, some ⟨g5, 0, none⟩, cap5, by simp, by rw [hqI], by simp, hZ (by rw [List.length_append, hai.o]; rfl), hq1, by omega, by omega, hZ (fun y hy => by rcases List.mem_append.1 hy with hy | hy; exact hlow.o y hy; rw [List.mem_singleton.1 hy]; exact hkl), Hv, Hown5, HB5⟩
    case measure => simp [qHK]; omega
   ·skip
    by_cases hcy1 : 0 < cy
    ·have Hps := hZ (qEP A B acc i cy (m + n) hai.o hval.o HLA.o HLB.o hcy)
     obtain ⟨x1, hx1⟩ := eX (A.getD i 0); obtain ⟨x2, hx2⟩ := eX (B.getD i 0); have Hc1 := hZ (Hat1.o wr hB.o i (by omega)); have Hc2 := hZ (Hat2.o wr hB.o i (by omega)); rw [hx1] at Hc1 Hps; rw [hx2] at Hc2 Hps; have hx := Hps.o.1; obtain ⟨k, hk⟩ := eX ((x1 + x2 + cy) % T4); obtain ⟨q, hq⟩ := eX ((x1 + x2 + cy) / T4); have hk' : (x1 + x2 + cy) % 10000 = k := hk; have hq' : (x1 + x2 + cy) / 10000 = q := hq; have hkI : ((x1 : Int) + (x2 : Int) + (cy : Int)) % 10000 = (k : Int) := by omega
     have hqI : ((x1 : Int) + (x2 : Int) + (cy : Int)) / 10000 = (q : Int) := by omega
     have hkl : k < 10000 := by omega
     have hq1 : q <= 1 := by omega
     have Hv2 := Hps.o.2; rw [hk, hq] at Hv2; have Hv := hZ Hv2; have hx1z : x1 = 0 := by rw [<- hx1]; simp [List.getD, List.getElem?_eq_none (show A.length <= i by rw [HNA.o]; omega)]
     have hx2z : x2 = 0 := by rw [<- hx2]; simp [List.getD, List.getElem?_eq_none (show B.length <= i by rw [HNB.o]; omega)]
     have hq0 : q = 0 := by omega
     have Hq0 := hZ hq0; clear Hv2 hk hq hk' hq' hx1 hx2 hx1z hx2z hq0
     go_wp2_with fail
     refine Hc1.o.mono ?_; rintro e w7 ⟨rfl, rfl⟩
     go_wp2_with fail
     refine Hc2.o.mono ?_; rintro e w8 ⟨rfl, rfl⟩
     go_wp2_with (at_builtin; refine wpList_append_own _ rfl _ _ 22 rfl w.heap.size 3 i0 _ 1 8 Tryz.underlying22 Hi.o Hz0.o Hz1.o Hz2.o rfl (by decide) _ _ _ rfl (hown.o.alloc _) ⟨w8.heap.size, 0, none⟩ 1 1 [iv .i64 k] rfl rfl (cell_one_new _ _ _) (by simp [Value.oneCell', iv]) (by unfold maxLen; omega) (by omega) (by simp; omega) ?_)
     intro v5 w5 hown5 hgrow _; obtain ⟨g5, cap5, hv5, _⟩ := hown5.form (by omega); subst hv5; have Hown5 : Hid (w5.ownsRow w.heap.size 3 1 (.slice (some ⟨g5, 0, none⟩) (acc ++ [k]).length cap5) (acc ++ [k]).length ((acc ++ [k]).map (iv .i64))) := hZ (by rw [List.length_append, List.map_append]; exact hown5); have HB5 := hZ ((hB.o.alloc hB.o.size (.cells #[.int .i64 (k : Int)] 3)).grown hgrow (by simp; have := hB.o.size; omega) (fun k e => (hown.o.lt k e).1)); clear hown5 hgrow
     go_wp2
     go_roundw
     case rel => exact ⟨acc ++ [k], i + 1, q, some ⟨g5, 0, none⟩, cap5, by simp, by rw [hqI], by simp, hZ (by rw [List.length_append, hai.o]; rfl), hq1, by omega, .inr Hq0.o, hZ (fun y hy => by rcases List.mem_append.1 hy with hy | hy; exact hlow.o y hy; rw [List.mem_singleton.1 hy]; exact hkl), Hv, Hown5, HB5⟩
     case measure => simp [qHK]; omega
    ·obtain rfl : cy = 0 := by omega
     go_wp2
     go_ret; refine ⟨⟨_, rfl, acc, qAb.of_owns hown.o rfl, hlow.o, ?_, by omega⟩, hB.o⟩; have h9 := hval.o; rw [List.drop_of_length_le (by rw [HNA.o]; omega), List.drop_of_length_le (by rw [HNB.o]; omega)] at h9; rw [<- h9]; simp [val]
theorem qJf {b : Nat} (hb : 0 < b) (L : List Nat) (hL : Low b L) (i : Nat) : L.getD i 0 < b := by
 by_cases h : i < L.length
 ·have e : L.getD i 0 = L[i] := by simp [List.getD, h]
  rw [e]; exact hL _ (List.getElem_mem h)
 ·have e : L.getD i 0 = 0 := by simp [List.getD, h]
  rw [e]; exact hb
theorem qDg (b : Nat) (L : List Nat) (i : Nat) : val b (L.take (i + 1)) = val b (L.take i) + L.getD i 0 * b ^ i := by
 by_cases h : i < L.length
 ·have e : L.getD i 0 = L[i] := by simp [List.getD, h]
  rw [e, qAe b L i h]
 ·have e : L.getD i 0 = 0 := by simp [List.getD, h]
  rw [e, List.take_of_length_le (by omega), List.take_of_length_le (by omega)]; omega
theorem qJ6 (A B acc : List Nat) (i br k q : Nat) (hl : acc.length = i) (hv : val T4 acc + val T4 (B.take i) = val T4 (A.take i) + br * T4 ^ i) (hk : k + B.getD i 0 + br = A.getD i 0 + q * 10000) :
 val T4 (acc ++ [k]) + val T4 (B.take (i + 1)) = val T4 (A.take (i + 1)) + q * T4 ^ (i + 1) := by
 rw [qAF, hl, qDg, qDg, Nat.pow_succ]; have h1 : val T4 [k] = k := by simp [val]
 rw [h1]; have hk2 : k + B.getD i 0 + br = A.getD i 0 + q * T4 := hk; generalize T4 ^ i = P at *; generalize val T4 (A.take i) = u at *; generalize val T4 (B.take i) = v at *; generalize A.getD i 0 = p at *; generalize B.getD i 0 = s at *; generalize val T4 acc = x at *; generalize T4 = t at *; clear hl h1 hk; have := congrArg (· * P) hk2; simp only [Nat.add_mul] at this; rw [Nat.mul_comm P t, <- Nat.mul_assoc, Nat.mul_comm P k]; omega
theorem qJ7 (A B acc : List Nat) (br : Nat) (hl : acc.length = A.length) (hlow : Low T4 acc) (hle : val T4 B <= val T4 A) (hBA : B.length <= A.length) (hbr : br <= 1) (hv : val T4 acc + val T4 (B.take A.length) = val T4 (A.take A.length) + br * T4 ^ A.length) :
 val T4 acc = val T4 A - val T4 B := by
 rw [List.take_of_length_le hBA, List.take_of_length_le (Nat.le_refl _)] at hv; have h3 := qBj T4 (by decide) acc hlow; rw [hl] at h3; rcases Nat.eq_zero_or_pos br with h | h
 ·subst h; omega
 ·obtain rfl : br = 1 := by omega
  omega
theorem qJX (va vb : Value) (m n : Nat) (w : World) (ha : qDb w va m) (hb : qDb w vb n) (hnm : n <= m) (hl1 : (qAd T4 m).length <= 2097153) :
 Calls Tryz.prog 173 #[va, vb] w fun e w' => (∃ v L, e = .returned v /\ qAb .i64 w' v L /\ Low T4 L /\ val T4 L = m - n /\ L.length = (qAd T4 m).length /\ ∀ ad l c, v = .slice (some ad) l c -> w.heap.size <= ad.block) /\ Below w.heap.size w w' := by
 obtain ⟨i0, hi, hz0, hz1, hz2⟩ := info_parts qE4; have Hi := hZ hi; have Hz0 := hZ hz0; have Hz1 := hZ hz1; have Hz2 := hZ hz2; clear hi hz0 hz1 hz2; have HA := hZ ha; have HBb := hZ hb; have hl2 := qAU T4 qAw n m hnm; obtain ⟨a, ca, rfl, h1, h2, -⟩ := ha; obtain ⟨b, cb, rfl, h3, h4, -⟩ := hb; have Hat1 := hZ (fun w' (hb : Below w.heap.size w w') i hi => qJF _ (qAd T4 m) w' (qAb.below HA.o (Nat.le_refl _) hb) (by omega) i hi); have Hat2 := hZ (fun w' (hb : Below w.heap.size w w') i hi => qJF _ (qAd T4 n) w' (qAb.below HBb.o (Nat.le_refl _) hb) (by omega) i hi); have HLA := hZ (qAl T4 qAw m); have HLB := hZ (qAl T4 qAw n); have Hvm := hZ (qAj T4 qAw m); have Hvn := hZ (qAj T4 qAw n); generalize qAd T4 m = A at *; generalize qAd T4 n = B at *; generalize hNA : A.length = NA at *; generalize hNB : B.length = NB at *; have HNA := hZ hNA; have HNB := hZ hNB; have Hnm := hZ hnm; clear HA HBb hNA hNB hnm
 go_enter Tryz.func173, Tryz.ntmps173
 go_wp2
 go_loopw [5, 6, 7] (fun ov cv iv7 wr => ∃ (acc : List Nat) (i br : Nat) (ga : Option Addr) (gc : Nat), iv7 = .int .i64 (i : Int) /\ cv = .int .i64 (br : Int) /\ ov = .slice ga acc.length gc /\ Hid (acc.length = i) /\ br <= 1 /\ i <= NA /\ Hid (Low T4 acc) /\ Hid (val T4 acc + val T4 (B.take i) = val T4 (A.take i) + br * T4 ^ i) /\ Hid (wr.ownsRow w.heap.size 3 1 (.slice ga acc.length gc) acc.length (acc.map (iv .i64))) /\ Hid (Below w.heap.size w wr)) (fun _ _ v _ => NA + 2 - (qHK v - 1))
 case atStart => exact ⟨[], 0, 0, none, 0, rfl, rfl, rfl, hZ rfl, by omega, by omega, hZ (fun x hx => by cases hx), hZ (by simp [val]), hZ (World.ownsRow_nil _ _ _ _), hZ (Below.refl _ _)⟩
 case round =>
  obtain ⟨acc, i, br, ga, gc, rfl, rfl, rfl, hai, hbr, hil, hlow, hval, hown, hB⟩ := hrel; have hal := hai.o; have hgc : gc <= 9223372036854775807 := by
   rcases hown.o.2 with ⟨hv, _⟩ | ⟨_, _, _, hv, _, _, _, h3, _⟩
   ·injection hv with _ _ e; omega
   ·injection hv with _ _ e; unfold maxLen at h3; omega
  have hal2 : acc.length <= 2097153 := by omega
  have hzr := hB.o.size; clear hal; by_cases hmore : i < NA
  ·have Hps := hZ (fun k q => qJ6 A B acc i br k q hai.o hval.o)
   have hx1l := qJf (by decide) A HLA.o i; have hx2l := qJf (by decide) B HLB.o i; obtain ⟨x1, hx1⟩ := eX (A.getD i 0); obtain ⟨x2, hx2⟩ := eX (B.getD i 0); have Hc1 := hZ (Hat1.o wr hB.o i (by omega)); have Hc2 := hZ (Hat2.o wr hB.o i (by omega)); rw [hx1] at Hc1 Hps hx1l; rw [hx2] at Hc2 Hps hx2l; have hx1m : x1 < 10000 := hx1l; have hx2m : x2 < 10000 := hx2l; clear hx1 hx2 hx1l hx2l; by_cases hlt : x1 < x2 + br
   ·obtain ⟨k, hk⟩ : ∃ k, k + x2 + br = x1 + 1 * 10000 := ⟨x1 + 10000 - x2 - br, by omega⟩
    have hkI : (x1 : Int) - (x2 : Int) - (br : Int) + 10000 = (k : Int) := by omega
    have hneg : (x1 : Int) - (x2 : Int) - (br : Int) < 0 := by omega
    have hkl : k < 10000 := by omega
    have Hv := hZ (Hps.o k 1 hk); clear hk hlt Hps
    go_wp2_with fail
    refine Hc1.o.mono ?_; rintro e w7 ⟨rfl, rfl⟩
    go_wp2_with fail
    refine Hc2.o.mono ?_; rintro e w8 ⟨rfl, rfl⟩
    go_wp2_with (at_builtin; refine wpList_append_own _ rfl _ _ 22 rfl w.heap.size 3 i0 _ 1 8 Tryz.underlying22 Hi.o Hz0.o Hz1.o Hz2.o rfl (by decide) _ _ _ rfl (hown.o.alloc _) ⟨w8.heap.size, 0, none⟩ 1 1 [iv .i64 k] rfl rfl (cell_one_new _ _ _) (by simp [Value.oneCell', iv]) (by unfold maxLen; omega) (by omega) (by simp; omega) ?_)
    intro v5 w5 hown5 hgrow _; obtain ⟨g5, cap5, hv5, _⟩ := hown5.form (by omega); subst hv5; have Hown5 : Hid (w5.ownsRow w.heap.size 3 1 (.slice (some ⟨g5, 0, none⟩) (acc ++ [k]).length cap5) (acc ++ [k]).length ((acc ++ [k]).map (iv .i64))) := hZ (by rw [List.length_append, List.map_append]; exact hown5); have HB5 := hZ ((hB.o.alloc hB.o.size (.cells #[.int .i64 (k : Int)] 3)).grown hgrow (by simp; have := hB.o.size; omega) (fun k e => (hown.o.lt k e).1)); clear hown5 hgrow
    go_wp2
    go_roundw
    case rel => exact ⟨acc ++ [k], i + 1, 1, some ⟨g5, 0, none⟩, cap5, by simp, rfl, by simp, hZ (by rw [List.length_append, hai.o]; rfl), by omega, by omega, hZ (fun y hy => by rcases List.mem_append.1 hy with hy | hy; exact hlow.o y hy; rw [List.mem_singleton.1 hy]; exact hkl), Hv, Hown5, HB5⟩
    case measure => simp [qHK]; omega
   ·obtain ⟨k, hk⟩ : ∃ k, k + x2 + br = x1 + 0 * 10000 := ⟨x1 - x2 - br, by omega⟩
    have hkI : (x1 : Int) - (x2 : Int) - (br : Int) = (k : Int) := by omega
    have hkl : k < 10000 := by omega
    have Hv := hZ (Hps.o k 0 hk); clear hk hlt Hps
    go_wp2_with fail
    refine Hc1.o.mono ?_; rintro e w7 ⟨rfl, rfl⟩
    go_wp2_with fail
    refine Hc2.o.mono ?_; rintro e w8 ⟨rfl, rfl⟩
    go_wp2_with (at_builtin; refine wpList_append_own _ rfl _ _ 22 rfl w.heap.size 3 i0 _ 1 8 Tryz.underlying22 Hi.o Hz0.o Hz1.o Hz2.o rfl (by decide) _ _ _ rfl (hown.o.alloc _) ⟨w8.heap.size, 0, none⟩ 1 1 [iv .i64 k] rfl rfl (cell_one_new _ _ _) (by simp [Value.oneCell', iv]) (by unfold maxLen; omega) (by omega) (by simp; omega) ?_)
    intro v5 w5 hown5 hgrow _; obtain ⟨g5, cap5, hv5, _⟩ := hown5.form (by omega); subst hv5; have Hown5 : Hid (w5.ownsRow w.heap.size 3 1 (.slice (some ⟨g5, 0, none⟩) (acc ++ [k]).length cap5) (acc ++ [k]).length ((acc ++ [k]).map (iv .i64))) := hZ (by rw [List.length_append, List.map_append]; exact hown5); have HB5 := hZ ((hB.o.alloc hB.o.size (.cells #[.int .i64 (k : Int)] 3)).grown hgrow (by simp; have := hB.o.size; omega) (fun k e => (hown.o.lt k e).1)); clear hown5 hgrow
    go_wp2
    go_roundw
    case rel => exact ⟨acc ++ [k], i + 1, 0, some ⟨g5, 0, none⟩, cap5, by simp, rfl, by simp, hZ (by rw [List.length_append, hai.o]; rfl), by omega, by omega, hZ (fun y hy => by rcases List.mem_append.1 hy with hy | hy; exact hlow.o y hy; rw [List.mem_singleton.1 hy]; exact hkl), Hv, Hown5, HB5⟩
    case measure => simp [qHK]; omega
  ·obtain rfl : i = NA := by omega
   go_wp2
   go_ret; refine ⟨⟨_, acc, rfl, qAb.of_owns hown.o rfl, hlow.o, ?_, hai.o, fun ad l c e => ?_⟩, hB.o⟩; rotate_left
   ·refine (hown.o.lt ad.block ?_).1
    have e' : Value.slice ga acc.length gc = .slice (some ad) l c := e; rw [e']; rfl
   rw [<- Hvm.o, <- Hvn.o]; refine qJ7 A B acc br (by rw [HNA.o]; exact hai.o) hlow.o (by rw [Hvm.o, Hvn.o]; exact Hnm.o) (by rw [HNA.o, HNB.o]; exact hl2) hbr ?_; rw [HNA.o]; exact hval.o
theorem qJY (va vb : Value) (m n : Nat) (w : World) (ha : qDb w va m) (hb : qDb w vb n) (hnm : n <= m) (hl1 : (qAd T4 m).length <= 2097153) :
 Calls Tryz.prog 173 #[va, vb] w fun e w' => (∃ v L, e = .returned v /\ qAb .i64 w' v L /\ Low T4 L /\ val T4 L = m - n /\ L.length = (qAd T4 m).length) /\ Below w.heap.size w w' :=
 (qJX va vb m n w ha hb hnm hl1).mono (by rintro e w' ⟨⟨v, L, rfl, h1, h2, h3, h4, -⟩, hB⟩; exact ⟨⟨v, L, rfl, h1, h2, h3, h4⟩, hB⟩)
def qMl (p : Nat) (w : World) (e : Ending) (w' : World) : Prop := (∃ v L, e = .returned v /\ qAb .i64 w' v L /\ Low T4 L /\ val T4 L = p /\ L.length <= 2097153) /\ Below w.heap.size w w'
def qPA (z : Int) (w : World) (e : Ending) (w' : World) : Prop := (∃ vr, e = .returned vr /\ qBz w' vr z) /\ Below w.heap.size w w'
theorem qJW (va vb : Value) (m n : Nat) (w : World) (ha : qDb w va m) (hb : qDb w vb n) (hl1 : (qAd T4 m).length <= 1048576) (hl2 : (qAd T4 n).length <= 1048576) :
 Calls Tryz.prog 171 #[va, vb] w (qMl (m + n) w) := qK6 va vb m n w ha hb hl1 hl2
theorem qEL (va vb : Value) (m n : Nat) (w : World) (ha : qDb w va m) (hb : qDb w vb n) (hnm : n <= m) (hl1 : (qAd T4 m).length <= 1048576) :
 Calls Tryz.prog 173 #[va, vb] w (qMl (m - n) w) :=
 (qJY va vb m n w ha hb hnm (by omega)).mono (by rintro e w' ⟨⟨v, L, rfl, h1, h2, h3, h4⟩, hB⟩; exact ⟨⟨v, L, rfl, h1, h2, h3, by omega⟩, hB⟩)
theorem qMC (vx vy : Value) (x y : Int) (w : World) (hx : qBz w vx x) (hy : qBz w vy y) (hlx' : (qAd T4 x.natAbs).length <= 1048576) (hly' : (qAd T4 y.natAbs).length <= 1048576) :
 Calls Tryz.prog 133 #[vx, vy] w (qPA (x + y) w) := by
 obtain ⟨ax, nx, cx, rfl, hmx, -, -⟩ := hx.form; obtain ⟨ay, ny, cy, rfl, hmy, -, -⟩ := hy.form; have HX := hZ hmx; have HY := hZ hmy; clear hx hy hmx hmy; obtain ⟨n, hn⟩ := eX w.heap.size; have Hn := hZ hn; obtain ⟨W, hW, t1, t2, t3, hBW, hsW⟩ := qCm w 91 (.bool (decide (x < 0))) (.slice ax nx cx) (.bool (decide (y < 0))) (.slice ay ny cy) (.bool false) (.slice none 0 0) n hn; by_cases hs : decide (x < 0) = decide (y < 0)
 ·have Ht := hZ (fun w' (hb : Below n w w') => qJW (.slice ax nx cx) (.slice ay ny cy) x.natAbs y.natAbs w' (qAb.below HX.o (Nat.le_of_eq hn) hb) (qAb.below HY.o (Nat.le_of_eq hn) hb) (by omega) (by omega))
  have Hz := hZ (qCu x y hs); have hss : (decide (x < 0) == decide (y < 0)) = true := by rw [hs]; simp
  clear HX HY hlx' hly' hs; generalize decide (x < 0) = sx at *; generalize decide (y < 0) = sy at *; generalize x.natAbs + y.natAbs = p at *; have HBW := hZ hBW; have T3 : Hid (Two W.drew (n + 1 + 1) 91 (.bool false) (.slice none 0 0)) := hZ t3; have HS0 : Hid (qBq n (.bool sx) (.slice ax nx cx) (.bool sy) (.slice ay ny cy) W.drew) := hZ ⟨t1.cell0, t1.cell1, t2.cell0, t2.cell1⟩; have hs0 : n + 1 + 1 + 1 <= W.drew.heap.size := by show _ <= W.heap.size; omega
  have d0 := t1.cell0; have d1 := t1.cell1; have d2 := t2.cell0; have d3 := t2.cell1; clear t1 t2 t3 hBW
  go_enter Tryz.func133, Tryz.ntmps133
  go_wp2_with fail
  clear hW
  go_region_held3 (fun w' => w'.cell? ⟨n, 0, none⟩ = some (.bool sx) /\ w'.cell? ⟨n, 1, none⟩ = some (.slice ax nx cx) /\ w'.cell? ⟨n + 1, 0, none⟩ = some (.bool sy) /\ w'.cell? ⟨n + 1, 1, none⟩ = some (.slice ay ny cy))
   (first | (exact HS.o) | (exact qBq.set2 HS.o _ _) | go_keep)
   (first
    | (go_at_call 171; refine (Ht.o _ HBW.o.drew).mono ?_; rintro e w5 ⟨⟨v5, L5, rfl, hm5, hlow5, hval5, hlen5⟩, hB5⟩; have Hm5 := hZ hm5; have HL5 := hZ hlow5; have HV5 := hZ hval5; have HB5 := hZ hB5; have HS5 := hZ (HS0.o.below hB5 hs0); have s5 := HS5.o.2; have HS := hZ HS5.o.1; clear hm5 hB5 hlow5 hval5)
    | (go_at_call 166; refine (qBm _ v5 L5 w5 Hm5.o HL5.o (by omega)).mono ?_; rintro e w6 ⟨⟨v6, rfl, hr6⟩, hB6⟩; rw [HV5.o] at hr6; have Hr6 := hZ hr6; obtain ⟨a6, l6, c6, rfl, -, -, -⟩ := hr6.form; have HB6 := hZ hB6; have HS6 := hZ (HS.o.below hB6 s5); clear HS; have s6 := HS6.o.2; have HS := hZ HS6.o.1; have T6 := (T3.o.below HB5.o (by omega)).below hB6 (by omega); have g0 := T6.cell0; have g1 := T6.cell1; have g2 := T6.frozen 0; have g3 := T6.frozen 1; have T6 := hZ T6; clear hB6 hr6))
  go_wp2
  refine bodyPost_ret (v := .agg #[.bool (decide (sgn (sx) p < 0)), .slice a6 l6 c6]) (by simp [results, Tryz.results133, go_sem, g0, g1]) rfl ⟨⟨_, rfl, by rw [<- Hz.o]; exact Hr6.o.set_two T6.o _ _⟩, ?_⟩; rw [Hn.o]; exact (((HBW.o.drew.trans (HB5.o.mono (by omega))).trans (HB6.o.mono (by omega))).setCell (p := ⟨n + 1 + 1, 0, none⟩) (by show n <= n + 1 + 1; omega) _).setCell (p := ⟨n + 1 + 1, 1, none⟩) (by show n <= n + 1 + 1; omega) _
 ·have hss : (decide (x < 0) == decide (y < 0)) = false := by simpa using hs
  have Hcm := hZ (fun w' (hb : Below n w w') => qCz (.slice ax nx cx) (.slice ay ny cy) x.natAbs y.natAbs w' (qAb.below HX.o (Nat.le_of_eq hn) hb) (qAb.below HY.o (Nat.le_of_eq hn) hb) (by omega) (by omega)); have hcg := qL8 x.natAbs y.natAbs; by_cases hle : y.natAbs <= x.natAbs
  ·have Ht := hZ (fun w' (hb : Below n w w') => qEL (.slice ax nx cx) (.slice ay ny cy) x.natAbs y.natAbs w' (qAb.below HX.o (Nat.le_of_eq hn) hb) (qAb.below HY.o (Nat.le_of_eq hn) hb) hle (by omega))
   have Hz := hZ (qBG x y hs hle); have hcg2 : ¬ qAB (x.natAbs : Int) (y.natAbs : Int) < 0 := by rw [decide_eq_true hle] at hcg; simpa using hcg
   clear HX HY hlx' hly' hs hle hcg; generalize decide (x < 0) = sx at *; generalize decide (y < 0) = sy at *; generalize x.natAbs - y.natAbs = p at *; generalize qAB (x.natAbs : Int) (y.natAbs : Int) = cm at *
   go_enter Tryz.func133, Tryz.ntmps133
   have d0 := t1.cell0; have d1 := t1.cell1; have d2 := t2.cell0; have d3 := t2.cell1
   go_wp2_with fail
   refine (Hcm.o W hBW).mono ?_; rintro e w2 ⟨rfl, d, hw2⟩; clear hW; have t1' : Two w2 n 91 (.bool sx) (.slice ax nx cx) := by rw [hw2]; exact t1
   have t2' : Two w2 (n + 1) 91 (.bool sy) (.slice ay ny cy) := by rw [hw2]; exact t2
   have t3' : Two w2 (n + 1 + 1) 91 (.bool false) (.slice none 0 0) := by rw [hw2]; exact t3
   have hBW2 : Below n w w2 := by rw [hw2]; exact ⟨hBW.os, hBW.tape, hBW.output, hBW.size, hBW.block⟩
   have hsW2 : w2.heap.size = n + 1 + 1 + 1 := by rw [hw2]; exact hsW
   clear t1 t2 t3 hBW hsW hw2 d0 d1 d2 d3; have HBW := hZ hBW2; have T3 : Hid (Two w2.drew (n + 1 + 1) 91 (.bool false) (.slice none 0 0)) := hZ t3'; have HS0 : Hid (qBq n (.bool sx) (.slice ax nx cx) (.bool sy) (.slice ay ny cy) w2.drew) := hZ ⟨t1'.cell0, t1'.cell1, t2'.cell0, t2'.cell1⟩; have hs0 : n + 1 + 1 + 1 <= w2.drew.heap.size := by show _ <= w2.heap.size; omega
   have d0 := t1'.cell0; have d1 := t1'.cell1; have d2 := t2'.cell0; have d3 := t2'.cell1; clear t1' t2' t3' hBW2
   go_wp2_with fail
   go_region_held3 (fun w' => w'.cell? ⟨n, 0, none⟩ = some (.bool sx) /\ w'.cell? ⟨n, 1, none⟩ = some (.slice ax nx cx) /\ w'.cell? ⟨n + 1, 0, none⟩ = some (.bool sy) /\ w'.cell? ⟨n + 1, 1, none⟩ = some (.slice ay ny cy))
    (first | (exact HS.o) | (exact qBq.set2 HS.o _ _) | go_keep)
    (first
     | (go_at_call 173; refine (Ht.o _ HBW.o.drew).mono ?_; rintro e w5 ⟨⟨v5, L5, rfl, hm5, hlow5, hval5, hlen5⟩, hB5⟩; have Hm5 := hZ hm5; have HL5 := hZ hlow5; have HV5 := hZ hval5; have HB5 := hZ hB5; have HS5 := hZ (HS0.o.below hB5 hs0); have s5 := HS5.o.2; have HS := hZ HS5.o.1; clear hm5 hB5 hlow5 hval5)
     | (go_at_call 166; refine (qBm _ v5 L5 w5 Hm5.o HL5.o (by omega)).mono ?_; rintro e w6 ⟨⟨v6, rfl, hr6⟩, hB6⟩; rw [HV5.o] at hr6; have Hr6 := hZ hr6; obtain ⟨a6, l6, c6, rfl, -, -, -⟩ := hr6.form; have HB6 := hZ hB6; have HS6 := hZ (HS.o.below hB6 s5); clear HS; have s6 := HS6.o.2; have HS := hZ HS6.o.1; have T6 := (T3.o.below HB5.o (by omega)).below hB6 (by omega); have g0 := T6.cell0; have g1 := T6.cell1; have g2 := T6.frozen 0; have g3 := T6.frozen 1; have T6 := hZ T6; clear hB6 hr6))
   go_wp2
   refine bodyPost_ret (v := .agg #[.bool (decide (sgn (sx) p < 0)), .slice a6 l6 c6]) (by simp [results, Tryz.results133, go_sem, g0, g1]) rfl ⟨⟨_, rfl, by rw [<- Hz.o]; exact Hr6.o.set_two T6.o _ _⟩, ?_⟩; rw [Hn.o]; exact (((HBW.o.drew.trans (HB5.o.mono (by omega))).trans (HB6.o.mono (by omega))).setCell (p := ⟨n + 1 + 1, 0, none⟩) (by show n <= n + 1 + 1; omega) _).setCell (p := ⟨n + 1 + 1, 1, none⟩) (by show n <= n + 1 + 1; omega) _
  ·have Ht := hZ (fun w' (hb : Below n w w') => qEL (.slice ay ny cy) (.slice ax nx cx) y.natAbs x.natAbs w' (qAb.below HY.o (Nat.le_of_eq hn) hb) (qAb.below HX.o (Nat.le_of_eq hn) hb) (by omega) (by omega))
   have Hz := hZ ((qBG y x (Ne.symm hs) (by omega)).trans (Int.add_comm y x)); have hcg2 : qAB (x.natAbs : Int) (y.natAbs : Int) < 0 := by rw [decide_eq_false hle] at hcg; simpa using hcg
   clear HX HY hlx' hly' hs hle hcg; generalize decide (x < 0) = sx at *; generalize decide (y < 0) = sy at *; generalize y.natAbs - x.natAbs = p at *; generalize qAB (x.natAbs : Int) (y.natAbs : Int) = cm at *
   go_enter Tryz.func133, Tryz.ntmps133
   have d0 := t1.cell0; have d1 := t1.cell1; have d2 := t2.cell0; have d3 := t2.cell1
   go_wp2_with fail
   refine (Hcm.o W hBW).mono ?_; rintro e w2 ⟨rfl, d, hw2⟩; clear hW; have t1' : Two w2 n 91 (.bool sx) (.slice ax nx cx) := by rw [hw2]; exact t1
   have t2' : Two w2 (n + 1) 91 (.bool sy) (.slice ay ny cy) := by rw [hw2]; exact t2
   have t3' : Two w2 (n + 1 + 1) 91 (.bool false) (.slice none 0 0) := by rw [hw2]; exact t3
   have hBW2 : Below n w w2 := by rw [hw2]; exact ⟨hBW.os, hBW.tape, hBW.output, hBW.size, hBW.block⟩
   have hsW2 : w2.heap.size = n + 1 + 1 + 1 := by rw [hw2]; exact hsW
   clear t1 t2 t3 hBW hsW hw2 d0 d1 d2 d3; have HBW := hZ hBW2; have T3 : Hid (Two w2.drew (n + 1 + 1) 91 (.bool false) (.slice none 0 0)) := hZ t3'; have HS0 : Hid (qBq n (.bool sx) (.slice ax nx cx) (.bool sy) (.slice ay ny cy) w2.drew) := hZ ⟨t1'.cell0, t1'.cell1, t2'.cell0, t2'.cell1⟩; have hs0 : n + 1 + 1 + 1 <= w2.drew.heap.size := by show _ <= w2.heap.size; omega
   have d0 := t1'.cell0; have d1 := t1'.cell1; have d2 := t2'.cell0; have d3 := t2'.cell1; clear t1' t2' t3' hBW2
   go_wp2_with fail
   go_region_held3 (fun w' => w'.cell? ⟨n, 0, none⟩ = some (.bool sx) /\ w'.cell? ⟨n, 1, none⟩ = some (.slice ax nx cx) /\ w'.cell? ⟨n + 1, 0, none⟩ = some (.bool sy) /\ w'.cell? ⟨n + 1, 1, none⟩ = some (.slice ay ny cy))
    (first | (exact HS.o) | (exact qBq.set2 HS.o _ _) | go_keep)
    (first
     | (go_at_call 173; refine (Ht.o _ HBW.o.drew).mono ?_; rintro e w5 ⟨⟨v5, L5, rfl, hm5, hlow5, hval5, hlen5⟩, hB5⟩; have Hm5 := hZ hm5; have HL5 := hZ hlow5; have HV5 := hZ hval5; have HB5 := hZ hB5; have HS5 := hZ (HS0.o.below hB5 hs0); have s5 := HS5.o.2; have HS := hZ HS5.o.1; clear hm5 hB5 hlow5 hval5)
     | (go_at_call 166; refine (qBm _ v5 L5 w5 Hm5.o HL5.o (by omega)).mono ?_; rintro e w6 ⟨⟨v6, rfl, hr6⟩, hB6⟩; rw [HV5.o] at hr6; have Hr6 := hZ hr6; obtain ⟨a6, l6, c6, rfl, -, -, -⟩ := hr6.form; have HB6 := hZ hB6; have HS6 := hZ (HS.o.below hB6 s5); clear HS; have s6 := HS6.o.2; have HS := hZ HS6.o.1; have T6 := (T3.o.below HB5.o (by omega)).below hB6 (by omega); have g0 := T6.cell0; have g1 := T6.cell1; have g2 := T6.frozen 0; have g3 := T6.frozen 1; have T6 := hZ T6; clear hB6 hr6))
   go_wp2
   refine bodyPost_ret (v := .agg #[.bool (decide (sgn (sy) p < 0)), .slice a6 l6 c6]) (by simp [results, Tryz.results133, go_sem, g0, g1]) rfl ⟨⟨_, rfl, by rw [<- Hz.o]; exact Hr6.o.set_two T6.o _ _⟩, ?_⟩; rw [Hn.o]; exact (((HBW.o.drew.trans (HB5.o.mono (by omega))).trans (HB6.o.mono (by omega))).setCell (p := ⟨n + 1 + 1, 0, none⟩) (by show n <= n + 1 + 1; omega) _).setCell (p := ⟨n + 1 + 1, 1, none⟩) (by show n <= n + 1 + 1; omega) _
theorem qAb.whole {k : IntKind} {w : World} {a : Option Addr} {n c : Nat} {L : List Nat} (h : qAb k w (.slice a n c) L) :
 0 < L.length -> ∃ b off, a = some ⟨b, off, none⟩ /\ b < w.heap.size /\ ∀ j (h : j < L.length), w.cell? ⟨b, off + j, none⟩ = some (.int k (L[j] : Int)) := by
 obtain ⟨a', c', e, _, _, hc⟩ := h; injection e with e1 e2 e3; subst e1; exact hc
theorem qMg (L : List Nat) (k c x : Nat) (h : k < L.length) : val T4 (L.set k ((c + (x + L[k])) % T4)) + (c + (x + L[k])) / T4 * T4 ^ (k + 1) = val T4 L + (c + x) * T4 ^ k := by
 have h1 := qBw T4 L k ((c + (x + L[k])) % T4) h; have h2 := Nat.div_add_mod (c + (x + L[k])) T4; rw [Nat.pow_succ]; generalize (c + (x + L[k])) % T4 = r at *; generalize hq : (c + (x + L[k])) / T4 = q at *; generalize T4 ^ k = p at *; generalize L[k] = s at *; generalize val T4 L = v at *; generalize val T4 (L.set k r) = v' at *; generalize T4 = B at *
 grind
structure qHH (A B : List Nat) (S k : Nat) (L : List Nat) : Prop where
 len : L.length = S
 low : Low T4 L
 zero : ∀ j (h : j < L.length), k + B.length <= j -> L[j] = 0
 eq : val T4 L = val T4 (A.take k) * val T4 B
structure qFA (A B : List Nat) (S k j c : Nat) (x : Nat) (L : List Nat) : Prop where
 len : L.length = S
 low : Low T4 L
 c1 : c < T4
 zero : ∀ i (h : i < L.length), k + B.length <= i -> L[i] = 0
 eq : val T4 L + c * T4 ^ (k + j) = val T4 (A.take k) * val T4 B + x * val T4 (B.take j) * T4 ^ k
theorem qHH.start (A B : List Nat) (S : Nat) : qHH A B S 0 (List.replicate S 0) :=
 ⟨by simp, fun x hx => by rw [(List.mem_replicate.1 hx).2]; decide, fun j h _ => by simp, by rw [qBL T4 _ (fun x hx => (List.mem_replicate.1 hx).2)]; simp [val]⟩
theorem qHH.inner {A B : List Nat} {S k : Nat} {L : List Nat} (h : qHH A B S k L) (x : Nat) : qFA A B S k 0 0 x L :=
 ⟨h.len, h.low, by decide, h.zero, by rw [h.eq]; simp [val]⟩
theorem qFA.bound {A B : List Nat} {S k j c x : Nat} {L : List Nat} (h : qFA A B S k j c x L) (y : Nat) (hx : x < T4) (hy : y < T4) (i : Nat) (hi : i < L.length) : c + (x * y + L[i]) <= 99999999 := by
 have h1 : x * y <= 9999 * 9999 := Nat.mul_le_mul (Nat.le_of_lt_succ hx) (Nat.le_of_lt_succ hy); have h2 : c < 10000 := h.c1; have h3 : L[i] < 10000 := h.low _ (List.getElem_mem hi); omega
theorem qFA.next {A B : List Nat} {S k j c x : Nat} {L : List Nat} (h : qFA A B S k j c x L) (hj : j < B.length) (hkj : k + j < L.length) (hB : Low T4 B) (hx : x < T4) :
 qFA A B S k (j + 1) ((c + (x * B[j] + L[k + j])) / T4) x (L.set (k + j) ((c + (x * B[j] + L[k + j])) % T4)) := by
 have hb := h.bound B[j] hx (hB _ (List.getElem_mem hj)) (k + j) hkj; refine ⟨by rw [List.length_set]; exact h.len, qAT h.low _ _ (Nat.mod_lt _ (by decide)), ?_, fun i hi hki => ?_, ?_⟩
 ·apply (Nat.div_lt_iff_lt_mul (show 0 < T4 by decide)).2
  show _ < 10000 * 10000
  omega
 ·rw [List.getElem_set_ne (by omega)]
  exact h.zero i (by rw [List.length_set] at hi; exact hi) (by omega)
 ·have e := qMg L (k + j) c (x * B[j]) hkj
  rw [show k + (j + 1) = k + j + 1 by omega, e, qAe T4 B j hj]; have h1 := h.eq; rw [Nat.pow_add] at h1 ⊢; generalize T4 ^ k = p at *; generalize T4 ^ j = q at *; generalize val T4 (B.take j) = v at *; generalize B[j] = y at *
  grind
theorem qFA.done {A B : List Nat} {S k c : Nat} {L : List Nat} (hk : k < A.length) (h : qFA A B S k B.length c A[k] L) (hkj : k + B.length < L.length) : qHH A B S (k + 1) (L.set (k + B.length) c) := by
 refine ⟨by rw [List.length_set]; exact h.len, qAT h.low _ _ h.c1, fun i hi hki => ?_, ?_⟩
 ·rw [List.getElem_set_ne (by omega)]
  exact h.zero i (by rw [List.length_set] at hi; exact hi) (by omega)
 ·have e := qBw T4 L (k + B.length) c hkj
  rw [h.zero _ hkj (Nat.le_refl _)] at e; have h1 := h.eq; rw [List.take_of_length_le (Nat.le_refl _)] at h1; rw [qAe T4 A k hk]; generalize T4 ^ (k + B.length) = P at *; generalize T4 ^ k = p at *; generalize val T4 B = v at *; generalize A[k] = y at *
  grind
theorem qMA (vx vy : Value) (x y : Int) (w : World) (hx : qBz w vx x) (hy : qBz w vy y) (hlx : (qAd T4 x.natAbs).length <= 1048576) (hly : (qAd T4 y.natAbs).length <= 1048576) :
 Calls Tryz.prog 134 #[vx, vy] w (qPA (x * y) w) := by
 obtain ⟨i0, hi, hz0, hz1, hz2⟩ := info_parts qE4; have Hi := hZ hi; have Hz0 := hZ hz0; have Hz1 := hZ hz1; have Hz2 := hZ hz2; clear hi hz0 hz1 hz2; obtain ⟨xa, N, xcap, rfl, hmx, hN, hNc⟩ := hx.form; obtain ⟨ya, M, ycap, rfl, hmy, hM, hMc⟩ := hy.form; have hsm := qH0 x y; have hvx := qAj T4 qAw x.natAbs; have hvy := qAj T4 qAw y.natAbs; have HlA := hZ (qAl T4 qAw x.natAbs); have HlB := hZ (qAl T4 qAw y.natAbs); have Hxc := hZ (qAb.whole hmx); have Hyc := hZ (qAb.whole hmy); generalize qAd T4 x.natAbs = A at *; generalize qAd T4 y.natAbs = B at *; rw [<- hvx, <- hvy] at hsm; have Hsm := hZ hsm; rw [<- hN] at hlx; rw [<- hM] at hly; have HN := hZ hN.symm; have HM := hZ hM.symm; clear hx hy hmx hmy hN hM hvx hvy hsm; obtain ⟨n, hn⟩ := eX w.heap.size; have Hn := hZ hn; obtain ⟨W, hW, t1, t2, t3, hBW, hsW⟩ := qCm w 91 (.bool (decide (x < 0))) (.slice xa N xcap) (.bool (decide (y < 0))) (.slice ya M ycap) (.bool false) (.slice none 0 0) n hn; generalize decide (x < 0) = sx at *; generalize decide (y < 0) = sy at *; have d0 := t1.cell0; have d1 := t1.cell1; have d2 := t2.cell0; have d3 := t2.cell1; have HBW := hZ hBW; have HTX := hZ t1; have HTY := hZ t2; have HTZ := hZ t3; clear t1 t2 t3 hBW
 go_enter Tryz.func134, Tryz.ntmps134
 go_wp2_with (at_make; refine qAt _ rfl _ _ 22 rfl 3 i0 .i64 Tryz.underlying22 Hi.o Hz0.o Hz1.o _ _ _ _ (N + M) rfl rfl (by omega) (by omega) (by rw [Hz2.o]; omega) (by omega) ?_)
 intro w1 hblk hB1 hz1; have Hblk1 := hZ hblk; have HB1 := hZ hB1; obtain ⟨g, hg⟩ := eX (n + 1 + 1 + 1); have Hg := hZ hg; rw [hg] at Hblk1 HB1 hz1 hsW ⊢; have hng : n + 2 < g := by omega
 clear hblk hB1 hg hW d0 d1 d2 d3; have f1 := (HTX.o.below HB1.o (by omega)).cell1
 go_wp2_with fail
 have HI0 := hZ (qHH.start A B (N + M))
 go_loopw [6] (fun i wr => ∃ (k : Nat) (L : List Nat), k <= N /\ i = .int .i64 k /\ Hid (qHH A B (N + M) k L) /\ Hid (Blk wr g 3 .i64 L) /\ Hid (Below g W wr)) (fun i _ => N - (intOf i).toNat)
 case atStart => exact ⟨0, _, by omega, rfl, HI0, Hblk1, HB1⟩
 case round =>
  clear f1; obtain ⟨k, L, hk, rfl, hI, hbl, hB⟩ := hrel; have hgw := hbl.o.lt; have e1 := (HTX.o.below hB.o (by omega)).cell1; have e3 := (HTY.o.below hB.o (by omega)).cell1; by_cases hlt : k < N
  ·have hka : k < A.length := by rw [HN.o]; exact hlt
   obtain ⟨xb, xoff, rfl, hxb, hxcc⟩ := Hxc.o (by omega); have hxg : xb < g := by omega
   have Hcx := hZ (hxcc k hka); have hxl : A[k] < 10000 := HlA.o _ (List.getElem_mem hka); have HJ0 := hZ (hI.o.inner A[k]); obtain ⟨p, hp⟩ := eX (A[k]); have Hp := hZ hp; rw [hp] at Hcx hxl HJ0; clear hp hxcc
   go_wp2_with fail
   obtain ⟨wo, rfl⟩ := eY wr
   go_loopw [7, 8] (fun cv i wr => ∃ (j c : Nat) (L : List Nat), j <= M /\ c < 10000 /\ cv = .int .i64 (c : Int) /\ i = .int .i64 j /\ Hid (qFA A B (N + M) k j c p L) /\ Hid (Blk wr g 3 .i64 L) /\ Hid (Below g W wr)) (fun _ i _ => M - (intOf i).toNat)
   case atStart => exact ⟨0, 0, L, by omega, by omega, rfl, rfl, HJ0, hbl, hB⟩
   case round =>
    clear hI hbl hB HJ0 e1 e3 hgw; obtain ⟨j, c, L2, hj, hc, rfl, rfl, hJ, hbl, hB⟩ := hrel; have hgw := hbl.o.lt; have e1 := (HTX.o.below hB.o (by omega)).cell1; have e3 := (HTY.o.below hB.o (by omega)).cell1; by_cases hjl : j < M
    ·have hjb : j < B.length := by rw [HM.o]; exact hjl
     have hkj : k + j < L2.length := by rw [hJ.o.len]; omega
     obtain ⟨yb, yoff, rfl, hyb, hycc⟩ := Hyc.o (by omega); have cx := (hB.o.cell (p := ⟨xb, xoff + k, none⟩) hxg).trans ((HBW.o.cell (p := ⟨xb, xoff + k, none⟩) (by show xb < n; omega)).trans Hcx.o); have cy := (hB.o.cell (p := ⟨yb, yoff + j, none⟩) (by show yb < g; omega)).trans ((HBW.o.cell (p := ⟨yb, yoff + j, none⟩) (by show yb < n; omega)).trans (hycc j hjb)); have hyl : B[j] < 10000 := HlB.o _ (List.getElem_mem hjb); have hbd := hJ.o.bound B[j] hxl hyl (k + j) hkj; have Hnext := hZ (hJ.o.next hjb hkj HlB.o hxl); have cg := hbl.o.cell (k + j) hkj; have fg := hbl.o.frozen (k + j); have hlo : L2[k + j] < 10000 := hJ.o.low _ (List.getElem_mem hkj); have hcn : (c + (p * B[j] + L2[k + j])) / T4 < T4 := Hnext.o.c1; clear hycc; generalize B[j] = q at *; generalize L2[k + j] = s at *; have hpq : p * q <= 9999 * 9999 := Nat.mul_le_mul (by omega) (by omega); obtain ⟨z, hz⟩ := eX (p * q); have hzI : (p : Int) * (q : Int) = (z : Int) := by rw [<- hz, Int.natCast_mul]
     rw [hz] at Hnext hcn hbd hpq; have hcn2 : (c + (z + s)) / 10000 < 10000 := hcn; obtain ⟨r, hr⟩ := eX ((c + (z + s)) % T4); obtain ⟨u, hu⟩ := eX ((c + (z + s)) / T4); rw [hr, hu] at Hnext; have hr' : (c + (z + s)) % 10000 = r := hr; have hu' : (c + (z + s)) / 10000 = u := hu; have hrI : ((s : Int) + (z : Int) + (c : Int)) % 10000 = (r : Int) := by omega
     have huI : ((s : Int) + (z : Int) + (c : Int)) / 10000 = (u : Int) := by omega
     have hrl : r < 10000 := by omega
     have hul : u < 10000 := by omega
     clear hz hr hu hr' hu' hcn hcn2 hbd
     go_wp2_with fail
     go_quiet (fail)
     go_wp2_with fail
     go_roundw
     case rel => exact ⟨j + 1, u, _, by omega, hul, by rw [huI], by go_num, Hnext, hZ ((hbl.o.drewN nq).set (k + j) _), hZ ((qBu hB.o nq).setCell (p := ⟨g, k + j, none⟩) (Nat.le_refl _) _)⟩
     case measure => simp [intOf]; omega
    ·obtain rfl : j = M := by omega
     clear hjl; have hkj : k + j < L2.length := by rw [hJ.o.len]; omega
     have cg := hbl.o.cell (k + j) hkj; have fg := hbl.o.frozen (k + j); have Hdone : Hid (qHH A B (N + j) (k + 1) (L2.set (k + j) c)) := hZ (by
      have hJ2 := hJ.o; rw [<- Hp.o, <- HM.o] at hJ2; have := qFA.done hka hJ2 (by rw [HM.o]; exact hkj); rw [HM.o] at this; exact this)
     go_wp2_with fail
     go_roundw
     case rel => exact ⟨k + 1, _, by omega, by go_num, Hdone, hZ (hbl.o.set (k + j) _), hZ (hB.o.setCell (p := ⟨g, k + j, none⟩) (Nat.le_refl _) _)⟩
     case measure => simp [intOf]; omega
  ·obtain rfl : k = N := by omega
   clear hlt; have hlen2 := hI.o.len; have hv : val T4 L = val T4 A * val T4 B := by
    have := hI.o.eq; rw [List.take_of_length_le (by rw [HN.o]; exact Nat.le_refl _)] at this; exact this
   have Hno := hZ (qBm (sx != sy) (.slice (some ⟨g, 0, none⟩) (k + M) (k + M)) L wr (by
    have := qAb.of_blk hbl.o (cap := k + M) (by omega) (by omega); rw [hlen2] at this; exact this) hI.o.low (by omega))
   rw [hv, Hsm.o] at Hno; clear hlen2 hv; have e0 := (HTX.o.below hB.o (by omega)).cell0; have e2 := (HTY.o.below hB.o (by omega)).cell0
   go_wp2_with fail
   refine Hno.o.mono ?_; rintro e w5 ⟨⟨vr, rfl, hr⟩, hB5⟩; have Hr := hZ hr; obtain ⟨a5, n5, c5, rfl, -, -, -⟩ := hr.form; have HT5 := hZ ((HTZ.o.below hB.o (by omega)).below hB5 (by omega)); have f0 := HT5.o.cell0; have f1 := HT5.o.cell1; have f2 := HT5.o.frozen 0; have f3 := HT5.o.frozen 1; have HB5 := hZ (HBW.o.trans ((hB.o.trans (hB5.mono (by omega))).mono (by omega))); clear hr hB5 Hno e0 e1 e2 e3
   go_wp2
   refine bodyPost_ret (v := .agg #[.bool (decide (x * y < 0)), .slice a5 n5 c5]) (by simp [results, Tryz.results134, go_sem, f0, f1]) rfl ⟨⟨_, rfl, Hr.o.set_two HT5.o _ _⟩, ?_⟩; rw [Hn.o]; exact (HB5.o.setCell (p := ⟨n + 1 + 1, 0, none⟩) (by show n <= n + 1 + 1; omega) _).setCell (p := ⟨n + 1 + 1, 1, none⟩) (by show n <= n + 1 + 1; omega) _
theorem Two.far2 {w : World} {b g : Nat} {t : TypeId} {x y : Value} (h : Two w b t x y) (hne : b ≠ g) (u u' : Value) : Two ((w.setCell ⟨g, 0, none⟩ u).setCell ⟨g, 1, none⟩ u') b t x y :=
 (Below.heap_setCell _ ⟨g, 1, none⟩ u' b hne).trans ((Below.heap_setCell w ⟨g, 0, none⟩ u b hne).trans h)
theorem Two.put2 {w : World} {b : Nat} {t : TypeId} {x y : Value} (h : Two w b t x y) (u u' : Value) : Two ((w.setCell ⟨b, 0, none⟩ u).setCell ⟨b, 1, none⟩ u') b t u u' := by
 unfold Two at h ⊢; simp [World.setCell, Array.getElem?_modify, h]
theorem qBz.dig {w : World} {b : Bool} {a : Option Addr} {l c : Nat} {z : Int} (h : qBz w (.agg #[.bool b, .slice a l c]) z) : qDb w (.slice a l c) z.natAbs := by
 obtain ⟨vd, hv, hm⟩ := h; injection hv with hv; have hv2 : vd = .slice a l c := by
  have := congrArg (fun a => a[1]?) hv; simpa using this.symm
 rw [hv2] at hm; exact hm
theorem qHt (x y : Int) : decide (0 < qAB x y) = decide (y < x) := by
 unfold qAB; by_cases h1 : x < y
 ·rw [if_pos h1, decide_eq_false (show ¬ y < x by omega)]; rfl
 ·rw [if_neg h1]
  by_cases h2 : y < x
  ·rw [if_pos h2, decide_eq_true h2]; rfl
  ·rw [if_neg h2, decide_eq_false h2]; rfl
theorem qHu (x y : Int) : decide (qAB x y < 0) = decide (x < y) := by
 unfold qAB; by_cases h1 : x < y
 ·rw [if_pos h1, decide_eq_true h1]; rfl
 ·rw [if_neg h1, decide_eq_false h1]
  by_cases h2 : y < x
  ·rw [if_pos h2]; rfl
  ·rw [if_neg h2]; rfl
theorem qFW (A : List Nat) (k : Nat) (h : 0 < k) (hk : k - 1 < A.length) : val T4 (A.drop (k - 1)) = A[k - 1] + 10000 * val T4 (A.drop k) := by
 rw [List.drop_eq_getElem_cons hk, val, show k - 1 + 1 = k by omega]
theorem qHT (A : List Nat) (k : Nat) : val T4 (A.drop k) <= val T4 A := by
 have h : val T4 A = val T4 (A.take k) + T4 ^ (A.take k).length * val T4 (A.drop k) := by
  conv => lhs; rw [<- List.take_append_drop k A, qAF]
 have h2 : 1 * val T4 (A.drop k) <= T4 ^ (A.take k).length * val T4 (A.drop k) := Nat.mul_le_mul_right _ (Nat.pos_of_ne_zero (by simp)); omega
theorem qO0 (z : Int) : sgn (decide (z < 0)) z.natAbs = z := by
 unfold sgn; by_cases h : z < 0
 ·simp [h]; omega
 ·simp [h]; omega
theorem qJ1 (v : Value) (z : Int) (w : World) (h : qBz w v z) (hl : (qAd T4 z.natAbs).length <= 1048576) :
 Calls Tryz.prog 59 #[v] w fun e w' => e = .returned (qA7 z) /\ Below w.heap.size w w' := by
 obtain ⟨a, n, c, rfl, hd, hn, hc⟩ := h.form; have HR := hZ h; have HD := hZ (qAb.whole hd); have HN := hZ hn.symm; have HLz := hZ hl; rw [<- hn] at hl; clear h hd hn; obtain ⟨s, hs⟩ := eX (decide (z < 0)); rw [hs] at HR ⊢; have Hs := hZ hs; clear hs; have HB0 := hZ ((Below.refl w.heap.size w).alloc (Nat.le_refl _) (.cells #[.bool s, .slice a n c] 91)); have HT0 := hZ (Two.new w 91 (.bool s) (.slice a n c)); obtain ⟨w0, hw0⟩ := eX (w.alloc (.cells #[.bool s, .slice a n c] 91)); obtain ⟨b, hb⟩ := eX w.heap.size; have Hb := hZ hb; rw [hw0] at HB0 HT0; rw [hb] at HB0 HT0; have d0 := HT0.o.cell0; have d1 := HT0.o.cell1; have HBd : Hid (Below b w w0.drew) := hZ ⟨HB0.o.os, HB0.o.tape, HB0.o.output, HB0.o.size, HB0.o.block⟩; have HBz : Hid (b <= w0.drew.heap.size) := hZ (Nat.le_trans (Nat.le_of_eq Hb.o.symm) HB0.o.size); have HTd : Hid (Two w0.drew b 91 (.bool s) (.slice a n c)) := hZ HT0.o; obtain ⟨m1, hm1⟩ := eX (qAB z 9223372036854775807); obtain ⟨m2, hm2⟩ := eX (qAB z (-9223372036854775808)); have p1 := qHt z 9223372036854775807; have p2 := qHu z (-9223372036854775808); rw [hm1] at p1; rw [hm2] at p2; have Hm1 := hZ hm1; have Hm2 := hZ hm2; clear hm1 hm2; by_cases hbig : 9223372036854775807 < z
 ·rw [decide_eq_true hbig] at p1
  have Hsv : Hid (qA7 z = .tuple #[.int .i64 0, .bool false]) := hZ (by unfold qA7; rw [if_neg (by omega)]); clear p2 hbig
  go_enter Tryz.func59, Tryz.ntmps59
  go_wp2_with fail
  clear hw0; refine qD5 99 (fun w' => w'.cell? ⟨b, 0, none⟩ = some (.bool s) /\ w'.cell? ⟨b, 1, none⟩ = some (.slice a n c)) (by kernel_rfl) (⟨d0, d1⟩) (fun hHeld => ?_); refine kU 0 6 ?_; refine qBO 1 (by kernel_rfl) rfl (fun K hK => ?_); go_simp; clear d0 d1; refine (qFI 9223372036854775807 w0.drew (by omega) (by omega)).mono ?_; rintro e w5 ⟨⟨vr, rfl, hr⟩, hB⟩; have Hr5 := hZ hr; obtain ⟨a5, n5, c5, rfl, -, -, -⟩ := hr.form; have hB5 := hZ hB; clear hr hB; generalize decide ((9223372036854775807 : Int) < 0) = s5 at *; have HT5 := hZ (HTd.o.below hB5.o HTd.o.lt); have HB5 := hZ (HBd.o.trans (hB5.o.mono HBz.o))
  go_wp2_with fail
  refine hK.out _ _ (⟨HT5.o.cell0, HT5.o.cell1⟩) (fun hHeld => ?_); clear hK K
  try simp only [Act.put, List.setIfInBounds_toArray, List.set_cons_zero, List.set_cons_succ]
  refine qBO 2 (by kernel_rfl) rfl (fun K hK => ?_); go_simp; refine (qBs _ _ z 9223372036854775807 w5 (HR.o.below (Nat.le_of_eq Hb.o) HB5.o) Hr5.o HLz.o (Nat.le_trans (qEB _ (by omega)) (by omega))).mono ?_; rintro e w6 ⟨rfl, hB6⟩; rw [Hm1.o]; have HT6 := hZ (HT5.o.below hB6 HT5.o.lt); have HB6 := hZ (HB5.o.trans (hB6.mono (Nat.le_trans (Nat.le_of_eq Hb.o.symm) HB5.o.size))); clear hB6
  go_wp2_with fail
  refine hK.out _ _ (⟨HT6.o.cell0, HT6.o.cell1⟩) (fun hHeld => ?_); clear hK K
  try simp only [Act.put, List.setIfInBounds_toArray, List.set_cons_zero, List.set_cons_succ]
  refine kU 3 9 ?_; refine kU 4 10 ?_; refine jU 5 11 ?_; refine jU 6 12 ?_; refine jU 7 13 ?_; refine jU 8 14 ?_; refine kU 9 15 ?_; refine qKm (by kernel_rfl) ?_ _; clear hHeld
  go_wp2
  go_ret2
  rw [Hsv.o, Hb.o]; exact ⟨rfl, HB6.o⟩
 ·rw [decide_eq_false hbig] at p1
  by_cases hsm : z < -9223372036854775808
  ·rw [decide_eq_true hsm] at p2
   have Hsv : Hid (qA7 z = .tuple #[.int .i64 0, .bool false]) := hZ (by unfold qA7; rw [if_neg (by omega)]); clear hbig hsm
   go_enter Tryz.func59, Tryz.ntmps59
   go_wp2_with fail
   clear hw0; refine qD5 99 (fun w' => w'.cell? ⟨b, 0, none⟩ = some (.bool s) /\ w'.cell? ⟨b, 1, none⟩ = some (.slice a n c)) (by kernel_rfl) (⟨d0, d1⟩) (fun hHeld => ?_); refine kU 0 6 ?_; refine qBO 1 (by kernel_rfl) rfl (fun K hK => ?_); go_simp; clear d0 d1; refine (qFI 9223372036854775807 w0.drew (by omega) (by omega)).mono ?_; rintro e w5 ⟨⟨vr, rfl, hr⟩, hB⟩; have Hr5 := hZ hr; obtain ⟨a5, n5, c5, rfl, -, -, -⟩ := hr.form; have hB5 := hZ hB; clear hr hB; generalize decide ((9223372036854775807 : Int) < 0) = s5 at *; have HT5 := hZ (HTd.o.below hB5.o HTd.o.lt); have HB5 := hZ (HBd.o.trans (hB5.o.mono HBz.o))
   go_wp2_with fail
   refine hK.out _ _ (⟨HT5.o.cell0, HT5.o.cell1⟩) (fun hHeld => ?_); clear hK K
   try simp only [Act.put, List.setIfInBounds_toArray, List.set_cons_zero, List.set_cons_succ]
   refine qBO 2 (by kernel_rfl) rfl (fun K hK => ?_); go_simp; refine (qBs _ _ z 9223372036854775807 w5 (HR.o.below (Nat.le_of_eq Hb.o) HB5.o) Hr5.o HLz.o (Nat.le_trans (qEB _ (by omega)) (by omega))).mono ?_; rintro e w6 ⟨rfl, hB6⟩; rw [Hm1.o]; have HT6 := hZ (HT5.o.below hB6 HT5.o.lt); have HB6 := hZ (HB5.o.trans (hB6.mono (Nat.le_trans (Nat.le_of_eq Hb.o.symm) HB5.o.size))); clear hB6
   go_wp2_with fail
   refine hK.out _ _ (⟨HT6.o.cell0, HT6.o.cell1⟩) (fun hHeld => ?_); clear hK K
   try simp only [Act.put, List.setIfInBounds_toArray, List.set_cons_zero, List.set_cons_succ]
   refine kU 3 9 ?_; refine kU 4 10 ?_; refine kU 5 11 ?_; refine qBO 6 (by kernel_rfl) rfl (fun K hK => ?_); go_simp; refine (qFI (-9223372036854775808) w6 (by omega) (by omega)).mono ?_; rintro e w7 ⟨⟨vr, rfl, hr⟩, hB⟩; have Hr7 := hZ hr; obtain ⟨a7, n7, c7, rfl, -, -, -⟩ := hr.form; have hB7 := hZ hB; clear hr hB; generalize decide ((-9223372036854775808 : Int) < 0) = s7 at *; have HT7 := hZ (HT6.o.below hB7.o HT6.o.lt); have HB7 := hZ (HB6.o.trans (hB7.o.mono (Nat.le_trans (Nat.le_of_eq Hb.o.symm) HB6.o.size)))
   go_wp2_with fail
   refine hK.out _ _ (⟨HT7.o.cell0, HT7.o.cell1⟩) (fun hHeld => ?_); clear hK K
   try simp only [Act.put, List.setIfInBounds_toArray, List.set_cons_zero, List.set_cons_succ]
   refine qBO 7 (by kernel_rfl) rfl (fun K hK => ?_); go_simp; refine (qBs _ _ z (-9223372036854775808) w7 (HR.o.below (Nat.le_of_eq Hb.o) HB7.o) Hr7.o HLz.o (Nat.le_trans (qEB _ (by omega)) (by omega))).mono ?_; rintro e w8 ⟨rfl, hB8⟩; rw [Hm2.o]; have HT8 := hZ (HT7.o.below hB8 HT7.o.lt); have HB8 := hZ (HB7.o.trans (hB8.mono (Nat.le_trans (Nat.le_of_eq Hb.o.symm) HB7.o.size))); clear hB8
   go_wp2_with fail
   refine hK.out _ _ (⟨HT8.o.cell0, HT8.o.cell1⟩) (fun hHeld => ?_); clear hK K
   try simp only [Act.put, List.setIfInBounds_toArray, List.set_cons_zero, List.set_cons_succ]
   refine kU 8 14 ?_; refine kU 9 15 ?_; refine qKm (by kernel_rfl) ?_ _; clear hHeld
   go_wp2
   go_ret2
   rw [Hsv.o, Hb.o]; exact ⟨rfl, HB8.o⟩
  ·rw [decide_eq_false hsm] at p2
   have Hsv : Hid (qA7 z = .tuple #[.int .i64 z, .bool true]) := hZ (by unfold qA7; rw [if_pos (by omega)]); have hab : z.natAbs <= 9223372036854775808 := by omega
   have hab2 : s = false -> z.natAbs <= 9223372036854775807 := fun h => by
    have := Hs.o; rw [h] at this; have := of_decide_eq_false this; omega
   have Hsz := hZ (qO0 z); have HVA := hZ (qAj T4 qAw z.natAbs); have HlA := hZ (qAl T4 qAw z.natAbs); rw [Hs.o] at Hsz; obtain ⟨m, hm⟩ := eX z.natAbs; rw [hm] at HD HN hab hab2 Hsz HVA HlA; clear hm; clear hbig hsm
   go_enter Tryz.func59, Tryz.ntmps59
   go_wp2_with fail
   clear hw0; refine qD5 99 (fun w' => w'.cell? ⟨b, 0, none⟩ = some (.bool s) /\ w'.cell? ⟨b, 1, none⟩ = some (.slice a n c)) (by kernel_rfl) (⟨d0, d1⟩) (fun hHeld => ?_); refine kU 0 6 ?_; refine qBO 1 (by kernel_rfl) rfl (fun K hK => ?_); go_simp; clear d0 d1; refine (qFI 9223372036854775807 w0.drew (by omega) (by omega)).mono ?_; rintro e w5 ⟨⟨vr, rfl, hr⟩, hB⟩; have Hr5 := hZ hr; obtain ⟨a5, n5, c5, rfl, -, -, -⟩ := hr.form; have hB5 := hZ hB; clear hr hB; generalize decide ((9223372036854775807 : Int) < 0) = s5 at *; have HT5 := hZ (HTd.o.below hB5.o HTd.o.lt); have HB5 := hZ (HBd.o.trans (hB5.o.mono HBz.o))
   go_wp2_with fail
   refine hK.out _ _ (⟨HT5.o.cell0, HT5.o.cell1⟩) (fun hHeld => ?_); clear hK K
   try simp only [Act.put, List.setIfInBounds_toArray, List.set_cons_zero, List.set_cons_succ]
   refine qBO 2 (by kernel_rfl) rfl (fun K hK => ?_); go_simp; refine (qBs _ _ z 9223372036854775807 w5 (HR.o.below (Nat.le_of_eq Hb.o) HB5.o) Hr5.o HLz.o (Nat.le_trans (qEB _ (by omega)) (by omega))).mono ?_; rintro e w6 ⟨rfl, hB6⟩; rw [Hm1.o]; have HT6 := hZ (HT5.o.below hB6 HT5.o.lt); have HB6 := hZ (HB5.o.trans (hB6.mono (Nat.le_trans (Nat.le_of_eq Hb.o.symm) HB5.o.size))); clear hB6
   go_wp2_with fail
   refine hK.out _ _ (⟨HT6.o.cell0, HT6.o.cell1⟩) (fun hHeld => ?_); clear hK K
   try simp only [Act.put, List.setIfInBounds_toArray, List.set_cons_zero, List.set_cons_succ]
   refine kU 3 9 ?_; refine kU 4 10 ?_; refine kU 5 11 ?_; refine qBO 6 (by kernel_rfl) rfl (fun K hK => ?_); go_simp; refine (qFI (-9223372036854775808) w6 (by omega) (by omega)).mono ?_; rintro e w7 ⟨⟨vr, rfl, hr⟩, hB⟩; have Hr7 := hZ hr; obtain ⟨a7, n7, c7, rfl, -, -, -⟩ := hr.form; have hB7 := hZ hB; clear hr hB; generalize decide ((-9223372036854775808 : Int) < 0) = s7 at *; have HT7 := hZ (HT6.o.below hB7.o HT6.o.lt); have HB7 := hZ (HB6.o.trans (hB7.o.mono (Nat.le_trans (Nat.le_of_eq Hb.o.symm) HB6.o.size)))
   go_wp2_with fail
   refine hK.out _ _ (⟨HT7.o.cell0, HT7.o.cell1⟩) (fun hHeld => ?_); clear hK K
   try simp only [Act.put, List.setIfInBounds_toArray, List.set_cons_zero, List.set_cons_succ]
   refine qBO 7 (by kernel_rfl) rfl (fun K hK => ?_); go_simp; refine (qBs _ _ z (-9223372036854775808) w7 (HR.o.below (Nat.le_of_eq Hb.o) HB7.o) Hr7.o HLz.o (Nat.le_trans (qEB _ (by omega)) (by omega))).mono ?_; rintro e w8 ⟨rfl, hB8⟩; rw [Hm2.o]; have HT8 := hZ (HT7.o.below hB8 HT7.o.lt); have HB8 := hZ (HB7.o.trans (hB8.mono (Nat.le_trans (Nat.le_of_eq Hb.o.symm) HB7.o.size))); clear hB8
   go_wp2_with fail
   refine hK.out _ _ (⟨HT8.o.cell0, HT8.o.cell1⟩) (fun hHeld => ?_); clear hK K
   try simp only [Act.put, List.setIfInBounds_toArray, List.set_cons_zero, List.set_cons_succ]
   refine kU 8 14 ?_; refine kU 9 15 ?_; refine qKm (by kernel_rfl) ?_ _; clear hHeld; have e0 := HT8.o.cell0; have e1 := HT8.o.cell1; have HN2 := hZ HN.o
   go_wp2_with fail
   go_loop [4, 5] (fun nv iv' => ∃ (k : Nat), k <= n /\ iv' = .int .i64 ((k : Int) - 1) /\ nv = .int .i64 (sgn s (val T4 ((qAd T4 m).drop k)))) (fun _ i => (intOf i + 1).toNat)
   case atStart => exact ⟨n, Nat.le_refl _, by go_num, by rw [List.drop_of_length_le (by rw [HN.o]; exact Nat.le_refl _)]; unfold sgn; cases s <;> rfl⟩
   case round =>
    obtain ⟨k, hk, rfl, rfl⟩ := hrel; by_cases hk0 : k = 0
    ·subst hk0
     have Hv : Hid (sgn s (val T4 ((qAd T4 m).drop 0)) = z) := hZ (by rw [List.drop_zero, HVA.o]; exact Hsz.o); rw [Hv.o]
     go_wp2
     go_ret2
     refine ⟨by rw [Hsv.o]; rfl, ?_⟩
     first | exact HB8.o | (rw [Hb.o]; exact HB8.o)
    ·have hlk : k - 1 < (qAd T4 m).length := by rw [HN.o]; omega
     obtain ⟨xb, xoff, rfl, hxb, hxc⟩ := HD.o (by omega); have cl := (HB8.o.cell (p := ⟨xb, xoff + (k - 1), none⟩) (by show xb < b; rw [<- Hb.o]; exact hxb)).trans (hxc (k - 1) hlk); have hl2 : (qAd T4 m)[k - 1] < 10000 := HlA.o _ (List.getElem_mem hlk); have hst := qFW (qAd T4 m) k (by omega) hlk; have hle := qHT (qAd T4 m) (k - 1); rw [HVA.o] at hle; have i0 : (0 : Int) <= (k : Int) - 1 := by omega
     have i1 : (k : Int) - 1 < (n : Int) := by omega
     have i2 : ((k : Int) - 1).toNat = k - 1 := by omega
     obtain ⟨x, hx⟩ := eX ((qAd T4 m)[k - 1]); rw [hx] at cl hl2 hst; have Hst := hZ hst; obtain ⟨V, hV⟩ := eX (val T4 ((qAd T4 m).drop k)); obtain ⟨V', hV'⟩ : ∃ V', val T4 ((qAd T4 m).drop (k - 1)) = V' := ⟨_, rfl⟩; rw [hV, hV'] at Hst hst; rw [hV'] at hle; rw [hV]; have HV' := hZ hV'; clear hxc hx hV hV' hk0; cases s with
     | false =>
      have hab3 := hab2 rfl; rw [show sgn false V = (V : Int) from rfl]; have hbd : (V : Int) * 10000 + (x : Int) <= 9223372036854775807 := by omega
      clear hst
      go_wp2_with fail
      go_round
      case rel => exact ⟨k - 1, by omega, by go_num, by rw [HV'.o, Hst.o]; show Value.int _ _ = Value.int _ ((x + 10000 * V : Nat) : Int); congr 1; omega⟩
      case measure => simp [intOf]; omega
     | true =>
      rw [show sgn true V = -(V : Int) from rfl]; have hbd : -9223372036854775808 <= -(V : Int) * 10000 - (x : Int) := by omega
      clear hst
      go_wp2_with fail
      go_round
      case rel => exact ⟨k - 1, by omega, by go_num, by rw [HV'.o, Hst.o]; show Value.int _ _ = Value.int _ (-((x + 10000 * V : Nat) : Int)); congr 1; omega⟩
      case measure => simp [intOf]; omega
def qKE (Q : Value -> Prop) (w : World) (g : Nat) : Prop := ∀ (o : Nat) (u : Value), w.cell? ⟨g, o, none⟩ = some u -> Q u
def qP3 (u : Value) : Prop := (∃ b, u = .bool b) \/ ∃ a n c, u = .slice a n c
def isS (u : Value) : Prop := ∃ a n c, u = .slice a n c
def qEf (w : World) (g : Nat) : Prop := ∀ (o : Nat) (x : Int), w.cell? ⟨g, o, none⟩ ≠ some (.int .i64 x)
theorem qKE.bs {w : World} {g : Nat} (h : qKE qP3 w g) : qEf w g := by
 intro o x he; rcases h o _ he with ⟨b, e⟩ | ⟨a, n, c, e⟩ <;> cases e
theorem qKE.s {w : World} {g : Nat} (h : qKE isS w g) : qEf w g := by
 intro o x he; obtain ⟨a, n, c, e⟩ := h o _ he; cases e
theorem qKE.below {Q : Value -> Prop} {w w' : World} {g B : Nat} (h : qKE Q w g) (hb : Below B w w') (hg : g < B) : qKE Q w' g := fun o u he => h o u ((World.cell?_of_block (a := ⟨g, o, none⟩) (hb.block g hg)).symm.trans he)
theorem qKE.only {Q : Value -> Prop} {S : Nat -> Prop} {w w' : World} {g : Nat} (h : qKE Q w g) (ho : qAc S w w') (hg : g < w.heap.size) (hS : ¬ S g) : qKE Q w' g := fun o u he => h o u ((World.cell?_of_block (a := ⟨g, o, none⟩) (ho.block g hg hS)).symm.trans he)
theorem qKu {Q : Value -> Prop} {w : World} {g : Nat} {cs : Array Value} {t : TypeId} {fz : Nat × Nat} (h : w.heap[g]? = some (.cells cs t fz)) (hc : ∀ u ∈ cs, Q u) : qKE Q w g := by
 intro o x he; unfold World.cell? at he; simp only [h] at he; simp only [Option.isSome_none, Bool.false_eq_true, if_false] at he; exact hc _ (Array.mem_of_getElem? he)
section
variable {S : Nat -> Prop} {w w' : World}
theorem qAb.onlyD {v : Value} {L : List Nat} (h : qAb .i64 w v L) (ho : qAc S w w') (hS : ∀ b, S b -> qEf w b) : qAb .i64 w' v L := by
 obtain ⟨a, cap, hv, h1, h2, hc⟩ := h; refine ⟨a, cap, hv, h1, h2, fun h0 => ?_⟩; obtain ⟨b, off, ha, hlt, hcc⟩ := hc h0; have hn : ¬ S b := fun hs => hS b hs _ _ (hcc 0 h0); exact ⟨b, off, ha, Nat.lt_of_lt_of_le hlt ho.size, fun j hj => (ho.cell (p := ⟨b, off + j, none⟩) hn hlt).trans (hcc j hj)⟩
theorem qBz.only {v : Value} {z : Int} (h : qBz w v z) (ho : qAc S w w') (hS : ∀ b, S b -> qEf w b) : qBz w' v z := by
 obtain ⟨vw, hv, hm⟩ := h; exact ⟨vw, hv, qAb.onlyD hm ho hS⟩
theorem qBz.blw {v : Value} {z : Int} (h : qBz w v z) (hb : Below w.heap.size w w') : qBz w' v z := h.below (Nat.le_refl _) hb
instance {v : Value} {z : Int} : Mv w w' (qBz w v z) (qBz w' v z) := ⟨fun hb h => qBz.blw h hb⟩
theorem qEM (w : World) : qBz w (.agg #[.bool false, .slice none 0 0]) 0 := ⟨_, rfl, none, 0, by rw [Int.natAbs_zero]; rfl, Nat.zero_le _, by omega, fun h => by rw [Int.natAbs_zero, (qA5 T4 0 qAw).2 rfl] at h; simp at h⟩
end
theorem qNX (k : Nat) (n : Nat) (h : n < 2 ^ k) : (qAd T4 n).length <= k / 13 + 1 := by
 refine qAM T4 qAw _ _ (Nat.lt_of_lt_of_le h ?_); have h1 : 2 ^ k <= 2 ^ (13 * (k / 13 + 1)) := Nat.pow_le_pow_right (by omega) (by omega); refine Nat.le_trans h1 ?_; rw [Nat.pow_mul]; exact Nat.pow_le_pow_left (by decide) _
theorem Sz.dig {k : Nat} {z : Int} (h : Sz k z) (hk : k <= 6000000) : (qAd T4 z.natAbs).length <= 500000 := by
 have h1 := qNX k z.natAbs (by unfold Sz at h; exact h); have : k / 13 <= 6000000 / 13 := Nat.div_le_div_right hk; omega
def qPB (z : Int) (w0 : World) (e : Ending) (w' : World) : Prop := ∃ s a n c, e = .returned (.agg #[.bool s, .slice a n c]) /\ qBz w' (.agg #[.bool s, .slice a n c]) z /\ Below w0.heap.size w0 w'
theorem qPN {z : Int} {w0 w' : World} {e : Ending} (h : (∃ vr, e = .returned vr /\ qBz w' vr z) /\ Below w0.heap.size w0 w') : qPB z w0 e w' := by
 obtain ⟨⟨vr, he, hr⟩, hb⟩ := h; obtain ⟨a, n, c, rfl, -⟩ := hr.form; exact ⟨_, a, n, c, he, hr, hb⟩
section
variable {w : World} {vx vy : Value} {x y : Int} {k l : Nat}
theorem qP5 (hx : qBz w vx x) (hy : qBz w vy y) (sx : Sz k x) (sy : Sz l y) (hk : k <= 6000000) (hl : l <= 6000000) : Calls Tryz.prog 134 #[vx, vy] w (qPB (x * y) w) :=
 (qMA vx vy x y w hx hy (Nat.le_trans (sx.dig hk) (by omega)) (Nat.le_trans (sy.dig hl) (by omega))).mono (fun _ _ h => qPN h)
theorem nof (h1 : -9223372036854775808 <= x) (h2 : x <= 9223372036854775807) : Calls Tryz.prog 129 #[.int .i64 x] w (qPB x w) := (qFI x w h1 h2).mono (fun _ _ h => qPN h)
theorem qPa (hx : qBz w vx x) (sx : Sz k x) (hk : k <= 6000000) : Calls Tryz.prog 59 #[vx] w fun e w' => e = .returned (qA7 x) /\ Below w.heap.size w w' :=
 qJ1 vx x w hx (Nat.le_trans (sx.dig hk) (by omega))
end
def eb (b m top : Nat) : Nat := b * 5 ^ min top (m - 1)
attribute [irreducible] eb
def Bn (w : World) (b : Nat) (z : Int) : Prop := ∃ s a n c, Two w b 91 (.bool s) (.slice a n c) /\ qBz w (.agg #[.bool s, .slice a n c]) z
section
variable {w w' : World} {b g : Nat} {z : Int} {o1 o2 : Nat} {s : Bool} {a : Option Addr} {n c : Nat}
theorem Two.allC {t : TypeId} {x y : Value} {Q : Value -> Prop} (h : Two w b t x y) (hx : Q x) (hy : Q y) : qKE Q w b := by
 refine qKu h (fun u hu => ?_); simp at hu; rcases hu with rfl | rfl
 ·exact hx
 ·exact hy
theorem Bn.lt (h : Bn w b z) : b < w.heap.size := by obtain ⟨_, _, _, _, h, _⟩ := h; exact h.lt
theorem Bn.blw (h : Bn w b z) (hb : Below w.heap.size w w') : Bn w' b z := by
 obtain ⟨s, a, n, c, h1, h2⟩ := h; exact ⟨s, a, n, c, h1.below hb h1.lt, h2.blw hb⟩
instance : Mv w w' (Bn w b z) (Bn w' b z) := ⟨fun hb h => Bn.blw h hb⟩
theorem Bn.noInt (h : Bn w b z) : qEf w b := by
 obtain ⟨s, a, n, c, h1, h2⟩ := h; exact (h1.allC (Q := qP3) (.inl ⟨_, rfl⟩) (.inr ⟨_, _, _, rfl⟩)).bs
theorem Bn.new (h : qBz w (.agg #[.bool s, .slice a n c]) z) : Bn (w.alloc (.cells #[.bool s, .slice a n c] 91)) w.heap.size z :=
 ⟨s, a, n, c, Two.new _ _ _ _, h.blw aR⟩
theorem qBz.off {v : Value} (h : qBz w v z) (hn : qEf w g) : qBz (st2 w g o1 o2 s a n c) v z := h.only (S := fun b => b = g) ((qAc.refl _ _).off' (.inl rfl)) (fun b e => e ▸ hn)
theorem Bn.only {S : Nat -> Prop} (h : Bn w b z) (ho : qAc S w w') (hS : ∀ b, S b -> qEf w b) (hn : ¬ S b) : Bn w' b z := by
 obtain ⟨s, a, n, c, h1, h2⟩ := h; exact ⟨s, a, n, c, h1.only ho hn, h2.only ho hS⟩
theorem Bn.off (h : Bn w b z) (hn : qEf w g) (hne : b ≠ g) : Bn (st2 w g o1 o2 s a n c) b z := h.only (S := fun b => b = g) ((qAc.refl _ _).off' (.inl rfl)) (fun b e => e ▸ hn) hne
theorem qBz.offe {v : Value} (h : qBz w v z) (e : st2 w g o1 o2 s a n c = w') (hn : qEf w g) : qBz w' v z := e ▸ h.off hn
theorem Bn.offe (h : Bn w b z) (e : st2 w g o1 o2 s a n c = w') (hn : qEf w g) (hne : b ≠ g) : Bn w' b z := e ▸ h.off hn hne
theorem Bn.put (h : Bn w b z) {y : Int} (hy : qBz w (.agg #[.bool s, .slice a n c]) y) : Bn (st2 w b 0 1 s a n c) b y := by
 have hn := h.noInt; obtain ⟨s', a', n', c', h1, h2⟩ := h; exact ⟨s, a, n, c, h1.put2 _ _, hy.off hn⟩
end
theorem qP6 {w : World} {vx vy : Value} {x y : Int} {k l : Nat} (hx : qBz w vx x) (hy : qBz w vy y) (sx : Sz k x) (sy : Sz l y) (hk : k <= 6000000) (hl : l <= 6000000) : Calls Tryz.prog 133 #[vx, vy] w (qPB (x + y) w) :=
 (qMC vx vy x y w hx hy (Nat.le_trans (sx.dig hk) (by omega)) (Nat.le_trans (sy.dig hl) (by omega))).mono (fun _ _ h => qPN h)
theorem qI0 {x : Int} (h : -9223372036854775808 <= x /\ x <= 9223372036854775807) : Sz 64 x := by
 have e : (2 : Nat) ^ 64 = 18446744073709551616 := by decide
 unfold Sz; rw [e]; omega
theorem qKP {ws ls : List Int} (hw : B64 ws) (hl : B64 ls) (k : Nat) (hk : k <= 1000000) : Sz 200 (qBB ws ls k) := by
 have h1 := qHX hw hl k; have h2 : k * 2 ^ 126 <= 1000000 * 2 ^ 126 := Nat.mul_le_mul_right _ hk; unfold Sz; exact Nat.lt_of_le_of_lt (Nat.le_trans h1 h2) (by decide)
theorem qNY {ws ls : List Int} {k : Nat} (h1 : k < ws.length) (h2 : k < ls.length) : qBB ws ls (k + 1) = qBB ws ls k + ws[k] * ls[k] := by
 show qBB ws ls k + ws.getD k 0 * ls.getD k 0 = _
 rw [List.getD_eq_getElem?_getD, List.getD_eq_getElem?_getD, List.getElem?_eq_getElem h1, List.getElem?_eq_getElem h2]; rfl
theorem qK5 (vw vn : Value) (ws ns : List Int) (w0 : World) (hw : qAk w0 vw ws) (hb : qAk w0 vn ns) (h1 : B64 ws) (h2 : B64 ns) (hle : ns.length <= ws.length) (hl : ns.length <= 1000) :
 Calls Tryz.prog 58 #[vw, vn] w0 (qPB (qBB ws ns ns.length) w0) := by
 have HW := hZ hw; have HV := hZ hb; have H1 := hZ h1; have H2 := hZ h2; obtain ⟨aw, cw, rfl, -, -⟩ := qAf.form hw; obtain ⟨ab, cb, rfl, -, -⟩ := qAf.form hb; clear hw hb h1 h2; obtain ⟨bo, hbo⟩ := eX w0.heap.size; obtain ⟨w1, hw1⟩ := eX ((w0.alloc (.cells #[.bool false, .slice none 0 0] 91)).alloc (.cells #[.bool false, .slice none 0 0] 91)); have HB : Hid (Below w0.heap.size w0 w1) := hZ (by rw [<- hw1]; exact aR.alloc (by simp) _); have F0 : Hid (Bn w1 bo 0) := hZ (by rw [<- hw1, <- hbo]; exact (Bn.new (qEM w0)).blw aR); have F1 : Hid (Bn w1 (bo + 1) (qBB ws ns 0)) := hZ (by
  have h9 := Bn.new (qEM (w0.alloc (.cells #[.bool false, .slice none 0 0] 91))); rw [hw1] at h9; simpa [hbo, qBB] using h9)
 have hlt1 : bo < w1.heap.size := F0.o.lt; have hne : bo ≠ bo + 1 := by omega
 obtain ⟨s_9, a_9, n_9, c_9, t_9, -⟩ := F1.o; have e0 := t_9.cell0; have e1 := t_9.cell1; have e2 := t_9.frozen 0; have e3 := t_9.frozen 1; clear t_9; obtain ⟨w2, hw⟩ := eX ((w1.setCell ⟨bo + 1, 0, none⟩ (.bool false)).setCell ⟨bo + 1, 1, none⟩ (.slice none 0 0)); have hw2 : st2 w1 (bo + 1) 0 1 false none 0 0 = w2 := hw; have hn9 : qEf w1 (bo + 1) := F1.o.noInt; replace F0 : Hid (Bn w2 bo 0) := hZ (by rw [<- hw2]; exact F0.o.off hn9 hne); replace F1 : Hid (Bn w2 (bo + 1) (qBB ws ns 0)) := hZ (by rw [<- hw2]; exact Bn.put F1.o (qEM w1)); replace HB : Hid (Below w0.heap.size w0 w2) := hZ (by rw [<- hw2]; exact qDA HB.o (by omega)); have Hbo := hZ hbo; clear hw2 hn9
 go_enter Tryz.func58, Tryz.ntmps58
 go_wp2_with fail
 clear hw hw1 e0 e1 e2 e3 hlt1 hbo
 go_loopw [6] (fun i wr => ∃ k : Nat, k <= ns.length /\ i = .int .i64 k /\ Hid (Bn wr bo 0) /\ Hid (Bn wr (bo + 1) (qBB ws ns k)) /\ Hid (Below w0.heap.size w0 wr)) (fun i _ => ns.length - (intOf i).toNat)
 case atStart => exact ⟨0, by omega, rfl, F0, F1, HB⟩
 case round =>
  clear F0 F1 HB; obtain ⟨k, hk, rfl, F0, F1, HB⟩ := hrel; obtain ⟨w2, rfl⟩ := eY wr; by_cases hkn : k < ns.length
  ·skip
   have k1 : (0 : Int) <= (k : Int) := by omega
   have k2 : (k : Int) < (ns.length : Int) := by omega
   have k3 : (k : Int) < (ws.length : Int) := by omega
   have hkw : k < ws.length := by omega
   have Ssum : Hid (Sz 200 (qBB ws ns k)) := hZ (qKP H1.o H2.o k (by omega)); have HSS := hZ (qNY hkw hkn); obtain ⟨b1, cap1, hv1, hb1, m0⟩ := HW.o.at_ k hkw; injection hv1 with f1 f2 f3; subst f1; clear f2 f3; obtain ⟨b2, cap2, hv2, hb2, m1⟩ := HV.o.at_ k hkn; injection hv2 with f1 f2 f3; subst f1; clear f2 f3; have hy := H1.o.at_ k hkw; have hx := H2.o.at_ k hkn; generalize ws[k]'_ = y at *; generalize ns[k]'_ = x at *; have Hm := hZ (And.intro m0 m1); clear m0 m1
   go_wp2_with fail
   obtain ⟨w3, hwd⟩ := eX w2.drew; have hB := dB hwd; replace F0 := F0.b hB; replace F1 := F1.b hB; replace HB := bT HB hB; clear hB; have HBr : Hid (qAc (fun b => False) w3 w3) := hZ (qAc.refl _ _); refine qAP [13] (fun w' => qAc (fun b => False) w3 w') (by kernel_rfl) (by rw [hwd]; exact qAc.refl _ _) (fun hHeld => ?_); rw [hwd] at hHeld ⊢; clear hwd; obtain ⟨s_s, a_s, n_s, c_s, t_s, h_s⟩ := F1.o; have d0s := t_s.cell0; have d1s := t_s.cell1; have Vs := hZ h_s; have l0 := t_s.lt; have m0 := (HB.o.cell (p := ⟨b1, k, none⟩) hb1).trans Hm.o.1; have m1 := (HB.o.cell (p := ⟨b2, k, none⟩) hb2).trans Hm.o.2; have l1 := Nat.lt_of_lt_of_le hb1 HB.o.size; have l2 := Nat.lt_of_lt_of_le hb2 HB.o.size; clear t_s h_s; refine tV 0 14 (cF d0s l0) (cF d1s l0) ?_; refine pU 1 15 ?_; refine pU 2 16 ?_; refine pU 3 17 ?_; refine tU 4 18 (cF m0 l1) ?_; refine pU 6 20 ?_; refine pU 7 21 ?_; refine pU 8 22 ?_; refine tU 9 23 (cF m1 l2) ?_; clear d0s d1s l0 m0 m1 l1 l2; refine eU 5 fun K hK => ?_; go_simp; refine (nof (w := w3) hy.1 hy.2).mono ?_; rintro e w4 ⟨s_y, a_y, n_y, c_y, rfl, h_y, hB⟩; have Vy := hZ h_y; replace HBr := oT HBr hB; replace F0 := F0.b hB; replace F1 := F1.b hB; replace Vs := Vs.b hB; replace HB := bT HB hB; clear hB; clear h_y; refine hK.out _ _ HBr.o (fun hHeld => ?_); clear hK K
   try simp only [Act.put, sX1, sX2, sX3]
   refine eU 10 fun K hK => ?_; go_simp; refine (nof (w := w4) hx.1 hx.2).mono ?_; rintro e w5 ⟨s_x, a_x, n_x, c_x, rfl, h_x, hB⟩; have Vx := hZ h_x; replace HBr := oT HBr hB; replace F0 := F0.b hB; replace F1 := F1.b hB; replace Vs := Vs.b hB; replace Vy := Vy.b hB; replace HB := bT HB hB; clear hB; clear h_x; refine hK.out _ _ HBr.o (fun hHeld => ?_); clear hK K
   try simp only [Act.put, sX1, sX2, sX3]
   refine eU 11 fun K hK => ?_; go_simp; refine (qP5 (w := w5) (k := 64) (l := 64) Vy.o Vx.o (qI0 hy) (qI0 hx) (by omega) (by omega)).mono ?_; rintro e w6 ⟨s_p, a_p, n_p, c_p, rfl, h_p, hB⟩; have Vp := hZ h_p; replace HBr := oT HBr hB; replace F0 := F0.b hB; replace F1 := F1.b hB; replace Vs := Vs.b hB; replace Vy := Vy.b hB; replace Vx := Vx.b hB; replace HB := bT HB hB; clear hB; clear h_p; refine hK.out _ _ HBr.o (fun hHeld => ?_); clear hK K
   try simp only [Act.put, sX1, sX2, sX3]
   refine eU 12 fun K hK => ?_; go_simp; refine (qP6 (w := w6) (k := 200) (l := 128) Vs.o Vp.o Ssum.o ((qI0 hy).mul (qI0 hx)) (by omega) (by omega)).mono ?_; rintro e w7 ⟨s_z, a_z, n_z, c_z, rfl, h_z, hB⟩; have Vz := hZ h_z; replace HBr := oT HBr hB; replace F0 := F0.b hB; replace F1 := F1.b hB; replace Vs := Vs.b hB; replace Vy := Vy.b hB; replace Vx := Vx.b hB; replace Vp := Vp.b hB; replace HB := bT HB hB; clear hB; clear h_z; refine hK.out _ _ HBr.o (fun hHeld => ?_); clear hK K
   try simp only [Act.put, sX1, sX2, sX3]
   rw [<- HSS.o] at Vz; clear Vs Vy Vx Vp; obtain ⟨s_9, a_9, n_9, c_9, t_9, -⟩ := F1.o; have e0 := t_9.cell0; have e1 := t_9.cell1; have e2 := t_9.frozen 0; have e3 := t_9.frozen 1; clear t_9; have hn9 : qEf w7 (bo + 1) := F1.o.noInt; obtain ⟨w8, hw⟩ := eX ((w7.setCell ⟨bo + 1, 0, none⟩ (.bool s_z)).setCell ⟨bo + 1, 1, none⟩ (.slice a_z n_z c_z)); have hw2 : st2 w7 (bo + 1) (0) (1) s_z a_z n_z c_z = w8 := hw; replace F1 := hZ (Bn.put F1.o Vz.o); rw [hw2] at F1; replace F0 := hZ (F0.o.off (g := bo + 1) (o1 := 0) (o2 := 1) (s := s_z) (a := a_z) (n := n_z) (c := c_z) hn9 (by omega)); rw [hw2] at F0; replace Vz := hZ (Vz.o.off (g := bo + 1) (o1 := 0) (o2 := 1) (s := s_z) (a := a_z) (n := n_z) (c := c_z) hn9); rw [hw2] at Vz; replace HB := hZ (qDA (g := bo + 1) (o1 := 0) (o2 := 1) (s := s_z) (a := a_z) (n := n_z) (c := c_z) HB.o (by have := Hbo.o; omega)); rw [hw2] at HB; clear hw2 hn9; refine lU 13 fun K hK => ?_; go_simp
   try rw [hw]
   refine hK.out _ _ ?_; clear hK K
   try simp only [Act.put, sX1, sX2, sX3]
   clear hw e0 e1 e2 e3; refine dU ?_; clear hHeld
   go_wp2_with fail
   go_roundw
   case rel => exact ⟨k + 1, by omega, by go_num, F0, F1, HB⟩
   case measure => simp [intOf]; omega
  ·skip
   have hke : k = ns.length := by omega
   have F2 : Hid (Bn w2 (bo + 1) (qBB ws ns ns.length)) := hZ (by have h9 := F1.o; rwa [hke] at h9); have i3 : ¬ (k : Int) < (ns.length : Int) := by omega
   clear hke hkn F1; obtain ⟨s_s, a_s, n_s, c_s, t_s, h_s⟩ := F2.o; have d0 := t_s.cell0; have d1 := t_s.cell1; obtain ⟨s_9, a_9, n_9, c_9, t_9, -⟩ := F0.o; have e0 := t_9.cell0; have e1 := t_9.cell1; have e2 := t_9.frozen 0; have e3 := t_9.frozen 1; obtain ⟨w3, hw⟩ := eX ((w2.setCell ⟨bo, 0, none⟩ (.bool s_s)).setCell ⟨bo, 1, none⟩ (.slice a_s n_s c_s)); have hw2 : st2 w2 bo 0 1 s_s a_s n_s c_s = w3 := hw
   skip
   have HR : Hid (Bn w3 bo (qBB ws ns ns.length)) := hZ (by rw [<- hw2]; exact Bn.put F0.o h_s); have HRI : Hid (qBz w3 (.agg #[.bool s_s, .slice a_s n_s c_s]) (qBB ws ns ns.length)) := hZ (by rw [<- hw2]; exact h_s.off F0.o.noInt); have r0 : w3.cell? ⟨bo, 0, none⟩ = some (.bool s_s) := by rw [<- hw2]; exact (t_9.put2 (.bool s_s) (.slice a_s n_s c_s)).cell0
   have r1 : w3.cell? ⟨bo, 1, none⟩ = some (.slice a_s n_s c_s) := by rw [<- hw2]; exact (t_9.put2 (.bool s_s) (.slice a_s n_s c_s)).cell1
   replace HB : Hid (Below w0.heap.size w0 w3) := hZ (by rw [<- hw2]; exact qDA HB.o (by have := Hbo.o; omega)); clear hw2 t_s t_9 h_s F0 F2
   go_wp2_with fail
   exact bodyPost_ret (v := .agg #[.bool s_s, .slice a_s n_s c_s]) (by simp [results, Tryz.results58, go_sem, r0, r1]) rfl ⟨_, _, _, _, rfl, HRI.o, HB.o⟩
end Go.Proofs.YtkjhlkngihponaaGreatDoor
