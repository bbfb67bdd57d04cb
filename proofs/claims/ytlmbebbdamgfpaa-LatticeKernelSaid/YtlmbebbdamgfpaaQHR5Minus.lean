/- the reference's integers: minus. -/
import Derived.Test.YtlmbebbdamgfpaaQHR5Of
set_option linter.unusedVariables false
set_option linter.unusedSimpArgs false
set_option maxHeartbeats 2000000
set_option maxRecDepth 100000
namespace Go.Proofs.Ytlmbebbdamgfpaa
open Go.RowKit
theorem qMx (v : Value) (L : List Nat) (w : World) (h : qAd .i64 w v L) (_hlen : L.length <= 4611686018427387904) (i : Nat) (hi : i < L.length) :
 Calls Try.prog 97 #[v, .int .i64 (i : Int)] w fun e w' => e = .returned (.int .i64 ((L.getD i 0 : Nat) : Int)) /\ w' = w := by
 obtain ⟨b, off, cap, rfl, hb, hc⟩ := h.at_ hi; have hg : L.getD i 0 = L[i] := by simp [List.getD, hi]
 rw [hg]; generalize L[i] = x at *; have hcap : L.length <= cap /\ cap <= 9223372036854775807 := by obtain ⟨_, _, hv, _, _, _⟩ := h; injection hv with _ _ e; omega
 generalize L.length = N at *; clear h hg
 go_enter Try.func97, Try.ntmps97
 go_wp2
 go_ret; exact ⟨rfl, rfl⟩
theorem qMf (v : Value) (L : List Nat) (w : World) (h : qAd .i64 w v L) (i : Nat) (hi : L.length <= i) (_hi2 : i <= 9223372036854775807) :
 Calls Try.prog 97 #[v, .int .i64 (i : Int)] w fun e w' => e = .returned (.int .i64 ((L.getD i 0 : Nat) : Int)) /\ w' = w := by
 obtain ⟨a, cap, rfl, h1, h2, -⟩ := h; have hg : L.getD i 0 = 0 := by simp [List.getD, hi]
 rw [hg]; generalize L.length = N at *; clear hg
 go_enter Try.func97, Try.ntmps97
 go_wp2
 go_ret; exact ⟨rfl, rfl⟩
theorem qH3 (v : Value) (L : List Nat) (w : World) (h : qAd .i64 w v L) (hlen : L.length <= 4611686018427387904) (i : Nat) (hi2 : i <= 4611686018427387904) :
 Calls Try.prog 97 #[v, .int .i64 (i : Int)] w fun e w' => e = .returned (.int .i64 ((L.getD i 0 : Nat) : Int)) /\ w' = w := by
 rcases Nat.lt_or_ge i L.length with hi | hi
 ·exact qMx v L w h hlen i hi
 ·exact qMf v L w h i hi (by omega)
theorem qJ7 (m n : Nat) (h : (qAe T4 m).length ≠ (qAe T4 n).length) : qAK ((qAe T4 m).length : Int) ((qAe T4 n).length : Int) = qAK (m : Int) (n : Int) := by
 rcases Nat.lt_or_gt_of_ne h with h | h
 ·rw [qBJ (by omega), qBJ (by have := qDe T4 qAn m n h; omega)]
 ·rw [qBB (by omega), qBB (by have := qDe T4 qAn n m h; omega)]
theorem qLk (m n i : Nat) (h1 : i - 1 < (qAe T4 m).length) (h2 : i - 1 < (qAe T4 n).length) (h0 : 0 < i) (hd : (qAe T4 m).drop i = (qAe T4 n).drop i) (hne : (qAe T4 m)[i - 1] ≠ (qAe T4 n)[i - 1]) :
 qAK ((qAe T4 m)[i - 1] : Int) ((qAe T4 n)[i - 1] : Int) = qAK (m : Int) (n : Int) := by
 have e : i - 1 + 1 = i := Nat.sub_add_cancel h0; rcases Nat.lt_or_gt_of_ne hne with h | h
 ·have := qC4 T4 qAn _ _ (qAl T4 qAn m) (i - 1) h1 h2 (by rw [e]; exact hd) h
  rw [qAi T4 qAn, qAi T4 qAn] at this; rw [qBJ (by omega), qBJ (by omega)]
 ·have := qC4 T4 qAn _ _ (qAl T4 qAn n) (i - 1) h2 h1 (by rw [e]; exact hd.symm) h
  rw [qAi T4 qAn, qAi T4 qAn] at this; rw [qBB (by omega), qBB (by omega)]
theorem qB8 (va vb : Value) (m n : Nat) (w : World) (ha : qBG w va m) (hb : qBG w vb n) (hl1 : (qAe T4 m).length <= 4611686018427387904) (_hl2 : (qAe T4 n).length <= 4611686018427387904) :
 Calls Try.prog 80 #[va, vb] w fun e w' => e = .returned (.int .i64 (qAK (m : Int) (n : Int))) /\ ∃ d, w' = w.drewN d := by
 obtain ⟨a, cap, rfl, h1, h2, hc⟩ := ha; obtain ⟨a', cap', rfl, h1', h2', hc'⟩ := hb; have Hc := hZ hc; have Hc' := hZ hc'; clear hc hc'; by_cases hne : (qAe T4 m).length = (qAe T4 n).length
 ·obtain ⟨N, hN⟩ := eX ((qAe T4 m).length)
  have HN := hZ hN; have HM := hZ (hne.symm.trans hN); rw [hne.symm.trans hN] at h1' _hl2 ⊢; rw [hN] at h1 hl1 ⊢; clear hN hne
  go_enter Try.func80, Try.ntmps80
  go_wp2
  go_loopw [5] (fun i wr => ∃ k d : Nat, k <= N /\ i = .int .i64 ((k : Int) - 1) /\ Hid ((qAe T4 m).drop k = (qAe T4 n).drop k) /\ Hid (wr = w.drewN d)) (fun i _ => (intOf i + 1).toNat)
  case atStart => exact ⟨N, 0, Nat.le_refl _, rfl, hZ (by rw [List.drop_of_length_le (by rw [HN.o]; exact Nat.le_refl _), List.drop_of_length_le (by rw [HM.o]; exact Nat.le_refl _)]), hZ rfl⟩
  case round =>
   obtain ⟨k, d, hk, rfl, hd, hw⟩ := hrel; have hw' := hw.o; subst hw'; clear hw; by_cases h0 : k = 0
   ·subst h0
    have he : Hid (qAK (m : Int) (n : Int) = 0) := hZ (by
     have := hd.o; rw [List.drop_zero, List.drop_zero] at this; have h3 : m = n := by rw [<- qAi T4 qAn m, <- qAi T4 qAn n, this]
     rw [h3, qAS])
    go_wp2
    go_ret; exact ⟨by rw [he.o]; rfl, d, rfl⟩
   ·have q1 : k - 1 < (qAe T4 m).length := by rw [HN.o]; omega
    have q2 : k - 1 < (qAe T4 n).length := by rw [HM.o]; omega
    obtain ⟨b, off, rfl, hb, hcc⟩ := Hc.o (by omega); obtain ⟨b', off', rfl, hb', hcc'⟩ := Hc'.o (by omega); have c1 := hcc (k - 1) q1; have c2 := hcc' (k - 1) q2; clear hcc hcc'; have i0 : (0 : Int) <= (k : Int) - 1 := by omega
    have i1 : (k : Int) - 1 < (N : Int) := by omega
    have i2 : ((k : Int) - 1).toNat = k - 1 := by omega
    by_cases he : (qAe T4 m)[k - 1] = (qAe T4 n)[k - 1]
    ·have Hd2 := hZ (qGn q1 q2 (by omega) hd.o he)
     rw [he] at c1; generalize (qAe T4 n)[k - 1] = z at *; clear he
     go_wp2
     go_quiet (fail)
     obtain ⟨W3, hW3⟩ := eX ((w.drewN d).drewN nq); have c3 : W3.cell? ⟨b, off + (k - 1), none⟩ = some (.int .i64 (z : Int)) := by rw [<- hW3]; exact c1
     have c4 : W3.cell? ⟨b', off' + (k - 1), none⟩ = some (.int .i64 (z : Int)) := by rw [<- hW3]; exact c2
     have HW3 := hZ hW3; rw [hW3]; clear hW3 c1 c2
     go_wp2
     go_quiet (fail)
     go_wp2
     go_roundw
     case rel => exact ⟨k - 1, _, by omega, by go_num, Hd2, hZ (by rw [<- HW3.o, World.drewN_drewN, World.drewN_drewN])⟩
     case measure => simp [intOf]; omega
    ·have Hca := hZ (qLk m n k q1 q2 (by omega) hd.o he)
     generalize (qAe T4 n)[k - 1] = z at *; generalize (qAe T4 m)[k - 1] = y at *; rcases Nat.lt_or_gt_of_ne he with hlt | hlt
     ·rw [qBJ (by omega)] at Hca
      have hyz : (y : Int) < (z : Int) := by omega
      clear he
      go_wp2
      go_quiet (fail)
      go_wp2
      go_ret; exact ⟨by rw [<- Hca.o]; rfl, _, by rw [World.drewN_drewN]⟩
     ·rw [qBB (by omega)] at Hca
      have hyz : ¬ (y : Int) < (z : Int) := by omega
      have hzy : (z : Int) < (y : Int) := by omega
      clear he
      go_wp2
      go_quiet (fail)
      obtain ⟨W3, hW3⟩ := eX ((w.drewN d).drewN nq); have c3 : W3.cell? ⟨b, off + (k - 1), none⟩ = some (.int .i64 (y : Int)) := by rw [<- hW3]; exact c1
      have c4 : W3.cell? ⟨b', off' + (k - 1), none⟩ = some (.int .i64 (z : Int)) := by rw [<- hW3]; exact c2
      have HW3 := hZ hW3; rw [hW3]; clear hW3 c1 c2
      go_wp2
      go_quiet (fail)
      go_wp2
      go_ret; exact ⟨by rw [<- Hca.o]; rfl, _, by rw [<- HW3.o, World.drewN_drewN, World.drewN_drewN]⟩
 ·have Hcl := hZ (qJ7 m n hne)
  clear Hc Hc'; generalize (qAe T4 m).length = N at *; generalize (qAe T4 n).length = M at *; rcases Nat.lt_or_gt_of_ne hne with hlt | hlt
  ·have hx : qAK (m : Int) (n : Int) = -1 := by rw [<- Hcl.o, qBJ (by omega)]
   have Hx := hZ hx; clear hx Hcl hne
   go_enter Try.func80, Try.ntmps80
   go_wp2
   go_ret; exact ⟨by rw [Hx.o]; rfl, 0, rfl⟩
  ·have hx : qAK (m : Int) (n : Int) = 1 := by rw [<- Hcl.o, qBB (by omega)]
   have Hx := hZ hx; clear hx Hcl hne
   go_enter Try.func80, Try.ntmps80
   go_wp2
   go_ret; exact ⟨by rw [Hx.o]; rfl, 0, rfl⟩
open Go.RowKit
theorem qHw (v : Value) (z : Int) (w : World) (h : qAL w v z) (hlen : (qAe T4 z.natAbs).length <= 4611686018427387904) :
 Calls Try.prog 56 #[v] w fun e w' => (∃ vr, e = .returned vr /\ qAL w' vr (-z)) /\ Below w.heap.size w w' := by
 obtain ⟨a, n, c, rfl, hd, -, hc⟩ := h.form; have Hno := hZ (fun w' (hb : Below w.heap.size w w') => qAJ (!decide (z < 0)) (.slice a n c) (qAe T4 z.natAbs) w' (qAd.below hd (Nat.le_refl _) hb) (qAl T4 qAn _) hlen); rw [qAi T4 qAn, qGT] at Hno; generalize decide (z < 0) = s at *; have HB0 := hZ (((Below.refl w.heap.size w).alloc (Nat.le_refl _) (.cells #[.bool s, .slice a n c] 61)).alloc (by simp) (.cells #[.bool false, .slice none 0 0] 61)); have HT : Hid (Two ((w.alloc (.cells #[.bool s, .slice a n c] 61)).alloc (.cells #[.bool false, .slice none 0 0] 61)) (w.heap.size + 1) 61 (.bool false) (.slice none 0 0)) := hZ (by
  have h9 := Two.new (w.alloc (.cells #[.bool s, .slice a n c] 61)) 61 (.bool false) (.slice none 0 0); rw [World.size_alloc] at h9; exact h9)
 clear h hd hlen
 go_enter Try.func56, Try.ntmps56
 go_wp2_with fail
 refine (Hno.o _ HB0.o).mono ?_; rintro e w5 ⟨⟨vr, rfl, hr⟩, hB5⟩; have Hr := hZ hr; obtain ⟨a5, n5, c5, rfl, -, -, -⟩ := hr.form; have HT5 := hZ (HT.o.below hB5 (by simp)); have f0 := HT5.o.cell0; have f1 := HT5.o.cell1; have f2 := HT5.o.frozen 0; have f3 := HT5.o.frozen 1; have HB5 := hZ (HB0.o.trans (hB5.mono (by simp; omega))); clear hr hB5 Hno
 go_wp2
 refine bodyPost_ret (v := .agg #[.bool (decide (-z < 0)), .slice a5 n5 c5]) (by simp [results, Try.results56, go_sem, f0, f1]) rfl ⟨⟨_, rfl, Hr.o.set_two HT5.o _ _⟩, (HB5.o.setCell (p := ⟨w.heap.size + 1, 0, none⟩) (by show _ <= w.heap.size + 1; omega) _).setCell (p := ⟨w.heap.size + 1, 1, none⟩) (by show _ <= w.heap.size + 1; omega) _⟩
open Go.RowKit
theorem qBm (vx vy : Value) (x y : Int) (w : World) (hx : qAL w vx x) (hy : qAL w vy y) (hlx' : (qAe T4 x.natAbs).length <= 1048576) (hly' : (qAe T4 y.natAbs).length <= 1048576) :
 Calls Try.prog 60 #[vx, vy] w fun e w' => e = .returned (.int .i64 (qAK x y)) /\ Below w.heap.size w w' := by
 obtain ⟨ax, nx, cx, rfl, hmx, -, hcx⟩ := hx.form; obtain ⟨ay, ny, cy, rfl, hmy, -, hcy⟩ := hy.form; have HX := hZ hmx; have HY := hZ hmy; clear hx hy hmx hmy; have HB := hZ (fun b1 b2 => ((Below.refl w.heap.size w).alloc (Nat.le_refl _) (.cells #[.bool b1, .slice ax nx cx] 61)).alloc (by simp) (.cells #[.bool b2, .slice ay ny cy] 61)); by_cases h1 : x < 0 <;> by_cases h2 : y < 0
 ·have Hc := hZ (fun w' (hb : Below w.heap.size w w') => qB8 (.slice ay ny cy) (.slice ax nx cx) y.natAbs x.natAbs w' (qAd.below HY.o (Nat.le_refl _) hb) (qAd.below HX.o (Nat.le_refl _) hb) (by omega) (by omega))
  rw [qHW x y h1 h2] at Hc; rw [decide_eq_true h1, decide_eq_true h2]; clear h1 h2 HX HY
  go_enter Try.func60, Try.ntmps60
  go_wp2_with fail
  refine (Hc.o _ (HB.o true true)).mono ?_; rintro e w1 ⟨rfl, d, rfl⟩
  go_wp2
  go_ret; exact ⟨rfl, qBF (HB.o true true) d⟩
 ·have Hc := hZ (qBJ (show x < y by omega))
  rw [decide_eq_true h1, decide_eq_false h2]; clear h1 h2 HX HY
  go_enter Try.func60, Try.ntmps60
  go_wp2
  go_ret; exact ⟨by rw [Hc.o]; rfl, HB.o true false⟩
 ·have Hc := hZ (qBB (show y < x by omega))
  rw [decide_eq_false h1, decide_eq_true h2]; clear h1 h2 HX HY
  go_enter Try.func60, Try.ntmps60
  go_wp2
  go_ret; exact ⟨by rw [Hc.o]; rfl, HB.o false true⟩
 ·have Hc := hZ (fun w' (hb : Below w.heap.size w w') => qB8 (.slice ax nx cx) (.slice ay ny cy) x.natAbs y.natAbs w' (qAd.below HX.o (Nat.le_refl _) hb) (qAd.below HY.o (Nat.le_refl _) hb) (by omega) (by omega))
  rw [qHV x y h1 h2] at Hc; rw [decide_eq_false h1, decide_eq_false h2]; clear h1 h2 HX HY
  go_enter Try.func60, Try.ntmps60
  go_wp2_with fail
  refine (Hc.o _ (HB.o false false)).mono ?_; rintro e w1 ⟨rfl, d, rfl⟩
  go_wp2
  go_ret; exact ⟨rfl, qBF (HB.o false false) d⟩
open Go.RowKit
theorem qEg (A B acc : List Nat) (i cy tot : Nat) (hl : acc.length = i) (hv : val T4 acc + T4 ^ i * (cy + val T4 (A.drop i) + val T4 (B.drop i)) = tot) (hA : Low T4 A) (hB : Low T4 B) (hcy : cy <= 1) :
 let x := A.getD i 0 + B.getD i 0 + cy
 x <= 19999 /\ val T4 (acc ++ [x % T4]) + T4 ^ (i + 1) * (x / T4 + val T4 (A.drop (i + 1)) + val T4 (B.drop (i + 1))) = tot := by
 intro x; have hd : ∀ L : List Nat, Low T4 L -> L.getD i 0 < T4 /\ val T4 (L.drop i) = L.getD i 0 + T4 * val T4 (L.drop (i + 1)) := by
  intro L hL; by_cases h : i < L.length
  ·have e : L.getD i 0 = L[i] := by simp [List.getD, h]
   rw [e, List.drop_eq_getElem_cons h]; exact ⟨hL _ (List.getElem_mem h), rfl⟩
  ·have e : L.getD i 0 = 0 := by simp [List.getD, h]
   rw [e, List.drop_of_length_le (by omega), List.drop_of_length_le (by omega)]; exact ⟨by decide, rfl⟩
 obtain ⟨a1, a2⟩ := hd A hA; obtain ⟨b1, b2⟩ := hd B hB; have h10 : T4 = 10000 := rfl; refine ⟨by show A.getD i 0 + B.getD i 0 + cy <= 19999; omega, ?_⟩; rw [a2, b2] at hv; rw [qAN, hl, <- hv, Nat.pow_succ]; have hx : x = T4 * (x / T4) + x % T4 := (Nat.div_add_mod x T4).symm; have hxe : A.getD i 0 + B.getD i 0 + cy = x := rfl; have h1 : val T4 [x % T4] = x % T4 := by simp [val]
 rw [h1]; generalize T4 ^ i = P; generalize val T4 (A.drop (i + 1)) = u at *; generalize val T4 (B.drop (i + 1)) = v at *; generalize A.getD i 0 = p at *; generalize B.getD i 0 = q at *; generalize x / T4 = d at *; generalize x % T4 = r at *; clear hv hd; have : cy + (p + T4 * u) + (q + T4 * v) = r + T4 * (d + u + v) := by rw [Nat.mul_add, Nat.mul_add]; omega
 rw [this]; generalize d + u + v = S; rw [Nat.mul_add P r, Nat.mul_assoc, Nat.add_assoc]
theorem qIO (va vb : Value) (m n : Nat) (w : World) (ha : qBG w va m) (hb : qBG w vb n) (hl1 : (qAe T4 m).length <= 1048576) (hl2 : (qAe T4 n).length <= 1048576) :
 Calls Try.prog 96 #[va, vb] w fun e w' => (∃ v L, e = .returned v /\ qAd .i64 w' v L /\ Low T4 L /\ val T4 L = m + n /\ L.length <= 2097153) /\ Below w.heap.size w w' := by
 obtain ⟨i0, hi, hz0, hz1, hz2⟩ := info_parts qDF; have Hi := hZ hi; have Hz0 := hZ hz0; have Hz1 := hZ hz1; have Hz2 := hZ hz2; clear hi hz0 hz1 hz2; have HA := hZ ha; have HBb := hZ hb; obtain ⟨a, ca, rfl, h1, h2, -⟩ := ha; obtain ⟨b, cb, rfl, h3, h4, -⟩ := hb; have Hat1 := hZ (fun w' (hb : Below w.heap.size w w') i hi => qH3 _ (qAe T4 m) w' (qAd.below HA.o (Nat.le_refl _) hb) (by omega) i hi); have Hat2 := hZ (fun w' (hb : Below w.heap.size w w') i hi => qH3 _ (qAe T4 n) w' (qAd.below HBb.o (Nat.le_refl _) hb) (by omega) i hi); have HLA := hZ (qAl T4 qAn m); have HLB := hZ (qAl T4 qAn n); have Htot : Hid (val T4 ([] : List Nat) + T4 ^ 0 * (0 + val T4 ((qAe T4 m).drop 0) + val T4 ((qAe T4 n).drop 0)) = m + n) := hZ (by
  rw [List.drop_zero, List.drop_zero, qAi T4 qAn, qAi T4 qAn]
  show 0 + 1 * (0 + m + n) = m + n
  omega)
 generalize qAe T4 m = A at *; generalize qAe T4 n = B at *; generalize hNA : A.length = NA at *; generalize hNB : B.length = NB at *; have HNA := hZ hNA; have HNB := hZ hNB; clear HA HBb hNA hNB
 go_enter Try.func96, Try.ntmps96
 go_wp2
 go_loopw [5, 6, 7] (fun ov cv iv7 wr => ∃ (acc : List Nat) (i cy : Nat) (ga : Option Addr) (gc : Nat), iv7 = .int .i64 (i : Int) /\ cv = .int .i64 (cy : Int) /\ ov = .slice ga acc.length gc /\ Hid (acc.length = i) /\ cy <= 1 /\ i <= NA + NB + 1 /\ (i <= NA + NB \/ cy = 0) /\ Hid (Low T4 acc) /\ Hid (val T4 acc + T4 ^ i * (cy + val T4 (A.drop i) + val T4 (B.drop i)) = m + n) /\ Hid (wr.ownsRow w.heap.size 3 1 (.slice ga acc.length gc) acc.length (acc.map (iv .i64))) /\ Hid (Below w.heap.size w wr)) (fun _ _ v _ => NA + NB + 2 - (qIz v - 1))
 case atStart => exact ⟨[], 0, 0, none, 0, rfl, rfl, rfl, hZ rfl, by omega, by omega, by omega, hZ (fun x hx => by cases hx), Htot, hZ (World.ownsRow_nil _ _ _ _), hZ (Below.refl _ _)⟩
 case round =>
  obtain ⟨acc, i, cy, ga, gc, rfl, rfl, rfl, hai, hcy, hil, hor, hlow, hval, hown, hB⟩ := hrel; have hal := hai.o; have hgc : gc <= 9223372036854775807 := by
   rcases hown.o.2 with ⟨hv, _⟩ | ⟨_, _, _, hv, _, _, _, h3, _⟩
   ·injection hv with _ _ e; omega
   ·injection hv with _ _ e; unfold maxLen at h3; omega
  have hal2 : acc.length <= 2097153 := by omega
  have hzr := hB.o.size; clear hal; by_cases hmore : i < NA
  ·have Hps := hZ (qEg A B acc i cy (m + n) hai.o hval.o HLA.o HLB.o hcy)
   obtain ⟨x1, hx1⟩ := eX (A.getD i 0); obtain ⟨x2, hx2⟩ := eX (B.getD i 0); have Hc1 := hZ (Hat1.o wr hB.o i (by omega)); have Hc2 := hZ (Hat2.o wr hB.o i (by omega)); rw [hx1] at Hc1 Hps; rw [hx2] at Hc2 Hps; have hx := Hps.o.1; obtain ⟨k, hk⟩ := eX ((x1 + x2 + cy) % T4); obtain ⟨q, hq⟩ := eX ((x1 + x2 + cy) / T4); have hk' : (x1 + x2 + cy) % 10000 = k := hk; have hq' : (x1 + x2 + cy) / 10000 = q := hq; have hkI : ((x1 : Int) + (x2 : Int) + (cy : Int)) % 10000 = (k : Int) := by omega
   have hqI : ((x1 : Int) + (x2 : Int) + (cy : Int)) / 10000 = (q : Int) := by omega
   have hkl : k < 10000 := by omega
   have hq1 : q <= 1 := by omega
   have Hv2 := Hps.o.2; rw [hk, hq] at Hv2; have Hv := hZ Hv2; clear Hv2 hk hq hk' hq' hx1 hx2
   go_wp2_with fail
   refine Hc1.o.mono ?_; rintro e w7 ⟨rfl, rfl⟩
   go_wp2_with fail
   refine Hc2.o.mono ?_; rintro e w8 ⟨rfl, rfl⟩
   go_wp2_with (at_builtin; refine wpList_append_own _ rfl _ _ 22 rfl w.heap.size 3 i0 _ 1 8 Try.underlying22 Hi.o Hz0.o Hz1.o Hz2.o rfl (by decide) _ _ _ rfl (hown.o.alloc _) ⟨w8.heap.size, 0, none⟩ 1 1 [iv .i64 k] rfl rfl (cell_one_new _ _ _) (by simp [Value.oneCell', iv]) (by unfold maxLen; omega) (by omega) (by simp; omega) ?_)
   intro v5 w5 hown5 hgrow _; obtain ⟨g5, cap5, hv5, _⟩ := hown5.form (by omega); subst hv5; have Hown5 : Hid (w5.ownsRow w.heap.size 3 1 (.slice (some ⟨g5, 0, none⟩) (acc ++ [k]).length cap5) (acc ++ [k]).length ((acc ++ [k]).map (iv .i64))) := hZ (by rw [List.length_append, List.map_append]; exact hown5); have HB5 := hZ ((hB.o.alloc hB.o.size (.cells #[.int .i64 (k : Int)] 3)).grown hgrow (by simp; have := hB.o.size; omega) (fun k e => (hown.o.lt k e).1)); clear hown5 hgrow
   go_wp2
   go_roundw
   case rel => exact ⟨acc ++ [k], i + 1, q, some ⟨g5, 0, none⟩, cap5, by simp, by rw [hqI], by simp, hZ (by rw [List.length_append, hai.o]; rfl), hq1, by omega, by omega, hZ (fun y hy => by rcases List.mem_append.1 hy with hy | hy; exact hlow.o y hy; rw [List.mem_singleton.1 hy]; exact hkl), Hv, Hown5, HB5⟩
   case measure => simp [qIz]; omega
  ·by_cases hmore2 : i < NB
   ·have Hps := hZ (qEg A B acc i cy (m + n) hai.o hval.o HLA.o HLB.o hcy)
    obtain ⟨x1, hx1⟩ := eX (A.getD i 0); obtain ⟨x2, hx2⟩ := eX (B.getD i 0); have Hc1 := hZ (Hat1.o wr hB.o i (by omega)); have Hc2 := hZ (Hat2.o wr hB.o i (by omega)); rw [hx1] at Hc1 Hps; rw [hx2] at Hc2 Hps; have hx := Hps.o.1; obtain ⟨k, hk⟩ := eX ((x1 + x2 + cy) % T4); obtain ⟨q, hq⟩ := eX ((x1 + x2 + cy) / T4); have hk' : (x1 + x2 + cy) % 10000 = k := hk; have hq' : (x1 + x2 + cy) / 10000 = q := hq; have hkI : ((x1 : Int) + (x2 : Int) + (cy : Int)) % 10000 = (k : Int) := by omega
    have hqI : ((x1 : Int) + (x2 : Int) + (cy : Int)) / 10000 = (q : Int) := by omega
    have hkl : k < 10000 := by omega
    have hq1 : q <= 1 := by omega
    have Hv2 := Hps.o.2; rw [hk, hq] at Hv2; have Hv := hZ Hv2; clear Hv2 hk hq hk' hq' hx1 hx2
    go_wp2_with fail
    refine Hc1.o.mono ?_; rintro e w7 ⟨rfl, rfl⟩
    go_wp2_with fail
    refine Hc2.o.mono ?_; rintro e w8 ⟨rfl, rfl⟩
    go_wp2_with (at_builtin; refine wpList_append_own _ rfl _ _ 22 rfl w.heap.size 3 i0 _ 1 8 Try.underlying22 Hi.o Hz0.o Hz1.o Hz2.o rfl (by decide) _ _ _ rfl (hown.o.alloc _) ⟨w8.heap.size, 0, none⟩ 1 1 [iv .i64 k] rfl rfl (cell_one_new _ _ _) (by simp [Value.oneCell', iv]) (by unfold maxLen; omega) (by omega) (by simp; omega) ?_)
    intro v5 w5 hown5 hgrow _; obtain ⟨g5, cap5, hv5, _⟩ := hown5.form (by omega); subst hv5; have Hown5 : Hid (w5.ownsRow w.heap.size 3 1 (.slice (some ⟨g5, 0, none⟩) (acc ++ [k]).length cap5) (acc ++ [k]).length ((acc ++ [k]).map (iv .i64))) := hZ (by rw [List.length_append, List.map_append]; exact hown5); have HB5 := hZ ((hB.o.alloc hB.o.size (.cells #[.int .i64 (k : Int)] 3)).grown hgrow (by simp; have := hB.o.size; omega) (fun k e => (hown.o.lt k e).1)); clear hown5 hgrow
    go_wp2
    go_roundw
    case rel => exact ⟨acc ++ [k], i + 1, q, some ⟨g5, 0, none⟩, cap5, by simp, by rw [hqI], by simp, hZ (by rw [List.length_append, hai.o]; rfl), hq1, by omega, by omega, hZ (fun y hy => by rcases List.mem_append.1 hy with hy | hy; exact hlow.o y hy; rw [List.mem_singleton.1 hy]; exact hkl), Hv, Hown5, HB5⟩
    case measure => simp [qIz]; omega
   ·skip
    by_cases hcy1 : 0 < cy
    ·have Hps := hZ (qEg A B acc i cy (m + n) hai.o hval.o HLA.o HLB.o hcy)
     obtain ⟨x1, hx1⟩ := eX (A.getD i 0); obtain ⟨x2, hx2⟩ := eX (B.getD i 0); have Hc1 := hZ (Hat1.o wr hB.o i (by omega)); have Hc2 := hZ (Hat2.o wr hB.o i (by omega)); rw [hx1] at Hc1 Hps; rw [hx2] at Hc2 Hps; have hx := Hps.o.1; obtain ⟨k, hk⟩ := eX ((x1 + x2 + cy) % T4); obtain ⟨q, hq⟩ := eX ((x1 + x2 + cy) / T4); have hk' : (x1 + x2 + cy) % 10000 = k := hk; have hq' : (x1 + x2 + cy) / 10000 = q := hq; have hkI : ((x1 : Int) + (x2 : Int) + (cy : Int)) % 10000 = (k : Int) := by omega
     have hqI : ((x1 : Int) + (x2 : Int) + (cy : Int)) / 10000 = (q : Int) := by omega
     have hkl : k < 10000 := by omega
     have hq1 : q <= 1 := by omega
     have Hv2 := Hps.o.2; rw [hk, hq] at Hv2; have Hv := hZ Hv2; have hx1z : x1 = 0 := by rw [<- hx1]; simp [List.getD, List.getElem?_eq_none (show A.length <= i by rw [HNA.o]; omega)]
     have hx2z : x2 = 0 := by rw [<- hx2]; simp [List.getD, List.getElem?_eq_none (show B.length <= i by rw [HNB.o]; omega)]
     have hq0 : q = 0 := by omega
     have Hq0 := hZ hq0; clear Hv2 hk hq hk' hq' hx1 hx2 hx1z hx2z hq0
     go_wp2_with fail
     refine Hc1.o.mono ?_; rintro e w7 ⟨rfl, rfl⟩
     go_wp2_with fail
     refine Hc2.o.mono ?_; rintro e w8 ⟨rfl, rfl⟩
     go_wp2_with (at_builtin; refine wpList_append_own _ rfl _ _ 22 rfl w.heap.size 3 i0 _ 1 8 Try.underlying22 Hi.o Hz0.o Hz1.o Hz2.o rfl (by decide) _ _ _ rfl (hown.o.alloc _) ⟨w8.heap.size, 0, none⟩ 1 1 [iv .i64 k] rfl rfl (cell_one_new _ _ _) (by simp [Value.oneCell', iv]) (by unfold maxLen; omega) (by omega) (by simp; omega) ?_)
     intro v5 w5 hown5 hgrow _; obtain ⟨g5, cap5, hv5, _⟩ := hown5.form (by omega); subst hv5; have Hown5 : Hid (w5.ownsRow w.heap.size 3 1 (.slice (some ⟨g5, 0, none⟩) (acc ++ [k]).length cap5) (acc ++ [k]).length ((acc ++ [k]).map (iv .i64))) := hZ (by rw [List.length_append, List.map_append]; exact hown5); have HB5 := hZ ((hB.o.alloc hB.o.size (.cells #[.int .i64 (k : Int)] 3)).grown hgrow (by simp; have := hB.o.size; omega) (fun k e => (hown.o.lt k e).1)); clear hown5 hgrow
     go_wp2
     go_roundw
     case rel => exact ⟨acc ++ [k], i + 1, q, some ⟨g5, 0, none⟩, cap5, by simp, by rw [hqI], by simp, hZ (by rw [List.length_append, hai.o]; rfl), hq1, by omega, .inr Hq0.o, hZ (fun y hy => by rcases List.mem_append.1 hy with hy | hy; exact hlow.o y hy; rw [List.mem_singleton.1 hy]; exact hkl), Hv, Hown5, HB5⟩
     case measure => simp [qIz]; omega
    ·obtain rfl : cy = 0 := by omega
     go_wp2
     go_ret; refine ⟨⟨_, rfl, acc, qAd.of_owns hown.o rfl, hlow.o, ?_, by omega⟩, hB.o⟩; have h9 := hval.o; rw [List.drop_of_length_le (by rw [HNA.o]; omega), List.drop_of_length_le (by rw [HNB.o]; omega)] at h9; rw [<- h9]; simp [val]
open Go.RowKit
theorem qHJ {b : Nat} (hb : 0 < b) (L : List Nat) (hL : Low b L) (i : Nat) : L.getD i 0 < b := by
 by_cases h : i < L.length
 ·have e : L.getD i 0 = L[i] := by simp [List.getD, h]
  rw [e]; exact hL _ (List.getElem_mem h)
 ·have e : L.getD i 0 = 0 := by simp [List.getD, h]
  rw [e]; exact hb
theorem qC3 (b : Nat) (L : List Nat) (i : Nat) : val b (L.take (i + 1)) = val b (L.take i) + L.getD i 0 * b ^ i := by
 by_cases h : i < L.length
 ·have e : L.getD i 0 = L[i] := by simp [List.getD, h]
  rw [e, qAf b L i h]
 ·have e : L.getD i 0 = 0 := by simp [List.getD, h]
  rw [e, List.take_of_length_le (by omega), List.take_of_length_le (by omega)]; omega
theorem qIj (A B acc : List Nat) (i br k q : Nat) (hl : acc.length = i) (hv : val T4 acc + val T4 (B.take i) = val T4 (A.take i) + br * T4 ^ i) (hk : k + B.getD i 0 + br = A.getD i 0 + q * 10000) :
 val T4 (acc ++ [k]) + val T4 (B.take (i + 1)) = val T4 (A.take (i + 1)) + q * T4 ^ (i + 1) := by
 rw [qAN, hl, qC3, qC3, Nat.pow_succ]; have h1 : val T4 [k] = k := by simp [val]
 rw [h1]; have hk2 : k + B.getD i 0 + br = A.getD i 0 + q * T4 := hk; generalize T4 ^ i = P at *; generalize val T4 (A.take i) = u at *; generalize val T4 (B.take i) = v at *; generalize A.getD i 0 = p at *; generalize B.getD i 0 = s at *; generalize val T4 acc = x at *; generalize T4 = t at *; clear hl h1 hk; have := congrArg (· * P) hk2; simp only [Nat.add_mul] at this; rw [Nat.mul_comm P t, <- Nat.mul_assoc, Nat.mul_comm P k]; omega
theorem qIk (A B acc : List Nat) (br : Nat) (hl : acc.length = A.length) (hlow : Low T4 acc) (hle : val T4 B <= val T4 A) (hBA : B.length <= A.length) (hbr : br <= 1) (hv : val T4 acc + val T4 (B.take A.length) = val T4 (A.take A.length) + br * T4 ^ A.length) :
 val T4 acc = val T4 A - val T4 B := by
 rw [List.take_of_length_le hBA, List.take_of_length_le (Nat.le_refl _)] at hv; have h3 := qBk T4 (by decide) acc hlow; rw [hl] at h3; rcases Nat.eq_zero_or_pos br with h | h
 ·subst h; omega
 ·obtain rfl : br = 1 := by omega
  omega
theorem qES (va vb : Value) (m n : Nat) (w : World) (ha : qBG w va m) (hb : qBG w vb n) (hnm : n <= m) (hl1 : (qAe T4 m).length <= 2097153) :
 Calls Try.prog 70 #[va, vb] w fun e w' => (∃ v L, e = .returned v /\ qAd .i64 w' v L /\ Low T4 L /\ val T4 L = m - n /\ L.length = (qAe T4 m).length /\ ∀ ad l c, v = .slice (some ad) l c -> w.heap.size <= ad.block) /\ Below w.heap.size w w' := by
 obtain ⟨i0, hi, hz0, hz1, hz2⟩ := info_parts qDF; have Hi := hZ hi; have Hz0 := hZ hz0; have Hz1 := hZ hz1; have Hz2 := hZ hz2; clear hi hz0 hz1 hz2; have HA := hZ ha; have HBb := hZ hb; have hl2 := qAM T4 qAn n m hnm; obtain ⟨a, ca, rfl, h1, h2, -⟩ := ha; obtain ⟨b, cb, rfl, h3, h4, -⟩ := hb; have Hat1 := hZ (fun w' (hb : Below w.heap.size w w') i hi => qH3 _ (qAe T4 m) w' (qAd.below HA.o (Nat.le_refl _) hb) (by omega) i hi); have Hat2 := hZ (fun w' (hb : Below w.heap.size w w') i hi => qH3 _ (qAe T4 n) w' (qAd.below HBb.o (Nat.le_refl _) hb) (by omega) i hi); have HLA := hZ (qAl T4 qAn m); have HLB := hZ (qAl T4 qAn n); have Hvm := hZ (qAi T4 qAn m); have Hvn := hZ (qAi T4 qAn n); generalize qAe T4 m = A at *; generalize qAe T4 n = B at *; generalize hNA : A.length = NA at *; generalize hNB : B.length = NB at *; have HNA := hZ hNA; have HNB := hZ hNB; have Hnm := hZ hnm; clear HA HBb hNA hNB hnm
 go_enter Try.func70, Try.ntmps70
 go_wp2
 go_loopw [5, 6, 7] (fun ov cv iv7 wr => ∃ (acc : List Nat) (i br : Nat) (ga : Option Addr) (gc : Nat), iv7 = .int .i64 (i : Int) /\ cv = .int .i64 (br : Int) /\ ov = .slice ga acc.length gc /\ Hid (acc.length = i) /\ br <= 1 /\ i <= NA /\ Hid (Low T4 acc) /\ Hid (val T4 acc + val T4 (B.take i) = val T4 (A.take i) + br * T4 ^ i) /\ Hid (wr.ownsRow w.heap.size 3 1 (.slice ga acc.length gc) acc.length (acc.map (iv .i64))) /\ Hid (Below w.heap.size w wr)) (fun _ _ v _ => NA + 2 - (qIz v - 1))
 case atStart => exact ⟨[], 0, 0, none, 0, rfl, rfl, rfl, hZ rfl, by omega, by omega, hZ (fun x hx => by cases hx), hZ (by simp [val]), hZ (World.ownsRow_nil _ _ _ _), hZ (Below.refl _ _)⟩
 case round =>
  obtain ⟨acc, i, br, ga, gc, rfl, rfl, rfl, hai, hbr, hil, hlow, hval, hown, hB⟩ := hrel; have hal := hai.o; have hgc : gc <= 9223372036854775807 := by
   rcases hown.o.2 with ⟨hv, _⟩ | ⟨_, _, _, hv, _, _, _, h3, _⟩
   ·injection hv with _ _ e; omega
   ·injection hv with _ _ e; unfold maxLen at h3; omega
  have hal2 : acc.length <= 2097153 := by omega
  have hzr := hB.o.size; clear hal; by_cases hmore : i < NA
  ·have Hps := hZ (fun k q => qIj A B acc i br k q hai.o hval.o)
   have hx1l := qHJ (by decide) A HLA.o i; have hx2l := qHJ (by decide) B HLB.o i; obtain ⟨x1, hx1⟩ := eX (A.getD i 0); obtain ⟨x2, hx2⟩ := eX (B.getD i 0); have Hc1 := hZ (Hat1.o wr hB.o i (by omega)); have Hc2 := hZ (Hat2.o wr hB.o i (by omega)); rw [hx1] at Hc1 Hps hx1l; rw [hx2] at Hc2 Hps hx2l; have hx1m : x1 < 10000 := hx1l; have hx2m : x2 < 10000 := hx2l; clear hx1 hx2 hx1l hx2l; by_cases hlt : x1 < x2 + br
   ·obtain ⟨k, hk⟩ : ∃ k, k + x2 + br = x1 + 1 * 10000 := ⟨x1 + 10000 - x2 - br, by omega⟩
    have hkI : (x1 : Int) - (x2 : Int) - (br : Int) + 10000 = (k : Int) := by omega
    have hneg : (x1 : Int) - (x2 : Int) - (br : Int) < 0 := by omega
    have hkl : k < 10000 := by omega
    have Hv := hZ (Hps.o k 1 hk); clear hk hlt Hps
    go_wp2_with fail
    refine Hc1.o.mono ?_; rintro e w7 ⟨rfl, rfl⟩
    go_wp2_with fail
    refine Hc2.o.mono ?_; rintro e w8 ⟨rfl, rfl⟩
    go_wp2_with (at_builtin; refine wpList_append_own _ rfl _ _ 22 rfl w.heap.size 3 i0 _ 1 8 Try.underlying22 Hi.o Hz0.o Hz1.o Hz2.o rfl (by decide) _ _ _ rfl (hown.o.alloc _) ⟨w8.heap.size, 0, none⟩ 1 1 [iv .i64 k] rfl rfl (cell_one_new _ _ _) (by simp [Value.oneCell', iv]) (by unfold maxLen; omega) (by omega) (by simp; omega) ?_)
    intro v5 w5 hown5 hgrow _; obtain ⟨g5, cap5, hv5, _⟩ := hown5.form (by omega); subst hv5; have Hown5 : Hid (w5.ownsRow w.heap.size 3 1 (.slice (some ⟨g5, 0, none⟩) (acc ++ [k]).length cap5) (acc ++ [k]).length ((acc ++ [k]).map (iv .i64))) := hZ (by rw [List.length_append, List.map_append]; exact hown5); have HB5 := hZ ((hB.o.alloc hB.o.size (.cells #[.int .i64 (k : Int)] 3)).grown hgrow (by simp; have := hB.o.size; omega) (fun k e => (hown.o.lt k e).1)); clear hown5 hgrow
    go_wp2
    go_roundw
    case rel => exact ⟨acc ++ [k], i + 1, 1, some ⟨g5, 0, none⟩, cap5, by simp, rfl, by simp, hZ (by rw [List.length_append, hai.o]; rfl), by omega, by omega, hZ (fun y hy => by rcases List.mem_append.1 hy with hy | hy; exact hlow.o y hy; rw [List.mem_singleton.1 hy]; exact hkl), Hv, Hown5, HB5⟩
    case measure => simp [qIz]; omega
   ·obtain ⟨k, hk⟩ : ∃ k, k + x2 + br = x1 + 0 * 10000 := ⟨x1 - x2 - br, by omega⟩
    have hkI : (x1 : Int) - (x2 : Int) - (br : Int) = (k : Int) := by omega
    have hkl : k < 10000 := by omega
    have Hv := hZ (Hps.o k 0 hk); clear hk hlt Hps
    go_wp2_with fail
    refine Hc1.o.mono ?_; rintro e w7 ⟨rfl, rfl⟩
    go_wp2_with fail
    refine Hc2.o.mono ?_; rintro e w8 ⟨rfl, rfl⟩
    go_wp2_with (at_builtin; refine wpList_append_own _ rfl _ _ 22 rfl w.heap.size 3 i0 _ 1 8 Try.underlying22 Hi.o Hz0.o Hz1.o Hz2.o rfl (by decide) _ _ _ rfl (hown.o.alloc _) ⟨w8.heap.size, 0, none⟩ 1 1 [iv .i64 k] rfl rfl (cell_one_new _ _ _) (by simp [Value.oneCell', iv]) (by unfold maxLen; omega) (by omega) (by simp; omega) ?_)
    intro v5 w5 hown5 hgrow _; obtain ⟨g5, cap5, hv5, _⟩ := hown5.form (by omega); subst hv5; have Hown5 : Hid (w5.ownsRow w.heap.size 3 1 (.slice (some ⟨g5, 0, none⟩) (acc ++ [k]).length cap5) (acc ++ [k]).length ((acc ++ [k]).map (iv .i64))) := hZ (by rw [List.length_append, List.map_append]; exact hown5); have HB5 := hZ ((hB.o.alloc hB.o.size (.cells #[.int .i64 (k : Int)] 3)).grown hgrow (by simp; have := hB.o.size; omega) (fun k e => (hown.o.lt k e).1)); clear hown5 hgrow
    go_wp2
    go_roundw
    case rel => exact ⟨acc ++ [k], i + 1, 0, some ⟨g5, 0, none⟩, cap5, by simp, rfl, by simp, hZ (by rw [List.length_append, hai.o]; rfl), by omega, by omega, hZ (fun y hy => by rcases List.mem_append.1 hy with hy | hy; exact hlow.o y hy; rw [List.mem_singleton.1 hy]; exact hkl), Hv, Hown5, HB5⟩
    case measure => simp [qIz]; omega
  ·obtain rfl : i = NA := by omega
   go_wp2
   go_ret; refine ⟨⟨_, acc, rfl, qAd.of_owns hown.o rfl, hlow.o, ?_, hai.o, fun ad l c e => ?_⟩, hB.o⟩; rotate_left
   ·refine (hown.o.lt ad.block ?_).1
    have e' : Value.slice ga acc.length gc = .slice (some ad) l c := e; rw [e']; rfl
   rw [<- Hvm.o, <- Hvn.o]; refine qIk A B acc br (by rw [HNA.o]; exact hai.o) hlow.o (by rw [Hvm.o, Hvn.o]; exact Hnm.o) (by rw [HNA.o, HNB.o]; exact hl2) hbr ?_; rw [HNA.o]; exact hval.o
theorem qET (va vb : Value) (m n : Nat) (w : World) (ha : qBG w va m) (hb : qBG w vb n) (hnm : n <= m) (hl1 : (qAe T4 m).length <= 2097153) :
 Calls Try.prog 70 #[va, vb] w fun e w' => (∃ v L, e = .returned v /\ qAd .i64 w' v L /\ Low T4 L /\ val T4 L = m - n /\ L.length = (qAe T4 m).length) /\ Below w.heap.size w w' :=
 (qES va vb m n w ha hb hnm hl1).mono (by rintro e w' ⟨⟨v, L, rfl, h1, h2, h3, h4, -⟩, hB⟩; exact ⟨⟨v, L, rfl, h1, h2, h3, h4⟩, hB⟩)
end Go.Proofs.Ytlmbebbdamgfpaa
