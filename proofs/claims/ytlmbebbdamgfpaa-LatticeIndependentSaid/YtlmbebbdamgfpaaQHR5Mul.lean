/- the reference's integers: Sub, Mul. -/
import Derived.Test.YtlmbebbdamgfpaaQHR5Minus
set_option linter.unusedVariables false
set_option linter.unusedSimpArgs false
set_option maxHeartbeats 4000000
set_option maxRecDepth 100000
namespace Go.Proofs.Ytlmbebbdamgfpaa
open Go.RowKit
def qJt (p : Nat) (w : World) (e : Ending) (w' : World) : Prop := (∃ v L, e = .returned v /\ qAd .i64 w' v L /\ Low T4 L /\ val T4 L = p /\ L.length <= 2097153) /\ Below w.heap.size w w'
def qLr (z : Int) (w : World) (e : Ending) (w' : World) : Prop := (∃ vr, e = .returned vr /\ qAL w' vr z) /\ Below w.heap.size w w'
theorem qIf (va vb : Value) (m n : Nat) (w : World) (ha : qBG w va m) (hb : qBG w vb n) (hl1 : (qAe T4 m).length <= 1048576) (hl2 : (qAe T4 n).length <= 1048576) :
 Calls Try.prog 96 #[va, vb] w (qJt (m + n) w) := qIO va vb m n w ha hb hl1 hl2
theorem qEf (va vb : Value) (m n : Nat) (w : World) (ha : qBG w va m) (hb : qBG w vb n) (hnm : n <= m) (hl1 : (qAe T4 m).length <= 1048576) :
 Calls Try.prog 70 #[va, vb] w (qJt (m - n) w) :=
 (qET va vb m n w ha hb hnm (by omega)).mono (by rintro e w' ⟨⟨v, L, rfl, h1, h2, h3, h4⟩, hB⟩; exact ⟨⟨v, L, rfl, h1, h2, h3, by omega⟩, hB⟩)
theorem qHy (vx vy : Value) (x y : Int) (w : World) (hx : qAL w vx x) (hy : qAL w vy y) (hlx' : (qAe T4 x.natAbs).length <= 1048576) (hly' : (qAe T4 y.natAbs).length <= 1048576) :
 Calls Try.prog 69 #[vx, vy] w (qLr (x + y) w) := by
 obtain ⟨ax, nx, cx, rfl, hmx, -, -⟩ := hx.form; obtain ⟨ay, ny, cy, rfl, hmy, -, -⟩ := hy.form; have HX := hZ hmx; have HY := hZ hmy; clear hx hy hmx hmy; obtain ⟨n, hn⟩ := eX w.heap.size; have Hn := hZ hn; obtain ⟨W, hW, t1, t2, t3, hBW, hsW⟩ := qCi w 61 (.bool (decide (x < 0))) (.slice ax nx cx) (.bool (decide (y < 0))) (.slice ay ny cy) (.bool false) (.slice none 0 0) n hn; by_cases hs : decide (x < 0) = decide (y < 0)
 ·have Ht := hZ (fun w' (hb : Below n w w') => qIf (.slice ax nx cx) (.slice ay ny cy) x.natAbs y.natAbs w' (qAd.below HX.o (Nat.le_of_eq hn) hb) (qAd.below HY.o (Nat.le_of_eq hn) hb) (by omega) (by omega))
  have Hz := hZ (qCw x y hs); have hss : (decide (x < 0) == decide (y < 0)) = true := by rw [hs]; simp
  clear HX HY hlx' hly' hs; generalize decide (x < 0) = sx at *; generalize decide (y < 0) = sy at *; generalize x.natAbs + y.natAbs = p at *; have HBW := hZ hBW; have T3 : Hid (Two W.drew (n + 1 + 1) 61 (.bool false) (.slice none 0 0)) := hZ t3; have HS0 : Hid (qBw n (.bool sx) (.slice ax nx cx) (.bool sy) (.slice ay ny cy) W.drew) := hZ ⟨t1.cell0, t1.cell1, t2.cell0, t2.cell1⟩; have hs0 : n + 1 + 1 + 1 <= W.drew.heap.size := by show _ <= W.heap.size; omega
  have d0 := t1.cell0; have d1 := t1.cell1; have d2 := t2.cell0; have d3 := t2.cell1; clear t1 t2 t3 hBW
  go_enter Try.func69, Try.ntmps69
  go_wp2_with fail
  clear hW
  go_region_held3 (fun w' => w'.cell? ⟨n, 0, none⟩ = some (.bool sx) /\ w'.cell? ⟨n, 1, none⟩ = some (.slice ax nx cx) /\ w'.cell? ⟨n + 1, 0, none⟩ = some (.bool sy) /\ w'.cell? ⟨n + 1, 1, none⟩ = some (.slice ay ny cy))
   (first | (exact HS.o) | (exact qBw.set2 HS.o _ _) | go_keep)
   (first
    | (go_at_call 96; refine (Ht.o _ HBW.o.drew).mono ?_; rintro e w5 ⟨⟨v5, L5, rfl, hm5, hlow5, hval5, hlen5⟩, hB5⟩; have Hm5 := hZ hm5; have HL5 := hZ hlow5; have HV5 := hZ hval5; have HB5 := hZ hB5; have HS5 := hZ (HS0.o.below hB5 hs0); have s5 := HS5.o.2; have HS := hZ HS5.o.1; clear hm5 hB5 hlow5 hval5)
    | (go_at_call 59; refine (qAJ _ v5 L5 w5 Hm5.o HL5.o (by omega)).mono ?_; rintro e w6 ⟨⟨v6, rfl, hr6⟩, hB6⟩; rw [HV5.o] at hr6; have Hr6 := hZ hr6; obtain ⟨a6, l6, c6, rfl, -, -, -⟩ := hr6.form; have HB6 := hZ hB6; have HS6 := hZ (HS.o.below hB6 s5); clear HS; have s6 := HS6.o.2; have HS := hZ HS6.o.1; have T6 := (T3.o.below HB5.o (by omega)).below hB6 (by omega); have g0 := T6.cell0; have g1 := T6.cell1; have g2 := T6.frozen 0; have g3 := T6.frozen 1; have T6 := hZ T6; clear hB6 hr6))
  go_wp2
  refine bodyPost_ret (v := .agg #[.bool (decide (sgn (sx) p < 0)), .slice a6 l6 c6]) (by simp [results, Try.results69, go_sem, g0, g1]) rfl ⟨⟨_, rfl, by rw [<- Hz.o]; exact Hr6.o.set_two T6.o _ _⟩, ?_⟩; rw [Hn.o]; exact (((HBW.o.drew.trans (HB5.o.mono (by omega))).trans (HB6.o.mono (by omega))).setCell (p := ⟨n + 1 + 1, 0, none⟩) (by show n <= n + 1 + 1; omega) _).setCell (p := ⟨n + 1 + 1, 1, none⟩) (by show n <= n + 1 + 1; omega) _
 ·have hss : (decide (x < 0) == decide (y < 0)) = false := by simpa using hs
  have Hcm := hZ (fun w' (hb : Below n w w') => qB8 (.slice ax nx cx) (.slice ay ny cy) x.natAbs y.natAbs w' (qAd.below HX.o (Nat.le_of_eq hn) hb) (qAd.below HY.o (Nat.le_of_eq hn) hb) (by omega) (by omega)); have hcg := qJh x.natAbs y.natAbs; by_cases hle : y.natAbs <= x.natAbs
  ·have Ht := hZ (fun w' (hb : Below n w w') => qEf (.slice ax nx cx) (.slice ay ny cy) x.natAbs y.natAbs w' (qAd.below HX.o (Nat.le_of_eq hn) hb) (qAd.below HY.o (Nat.le_of_eq hn) hb) hle (by omega))
   have Hz := hZ (qBP x y hs hle); have hcg2 : ¬ qAK (x.natAbs : Int) (y.natAbs : Int) < 0 := by rw [decide_eq_true hle] at hcg; simpa using hcg
   clear HX HY hlx' hly' hs hle hcg; generalize decide (x < 0) = sx at *; generalize decide (y < 0) = sy at *; generalize x.natAbs - y.natAbs = p at *; generalize qAK (x.natAbs : Int) (y.natAbs : Int) = cm at *
   go_enter Try.func69, Try.ntmps69
   have d0 := t1.cell0; have d1 := t1.cell1; have d2 := t2.cell0; have d3 := t2.cell1
   go_wp2_with fail
   refine (Hcm.o W hBW).mono ?_; rintro e w2 ⟨rfl, d, hw2⟩; clear hW; have t1' : Two w2 n 61 (.bool sx) (.slice ax nx cx) := by rw [hw2]; exact t1
   have t2' : Two w2 (n + 1) 61 (.bool sy) (.slice ay ny cy) := by rw [hw2]; exact t2
   have t3' : Two w2 (n + 1 + 1) 61 (.bool false) (.slice none 0 0) := by rw [hw2]; exact t3
   have hBW2 : Below n w w2 := by rw [hw2]; exact ⟨hBW.os, hBW.tape, hBW.output, hBW.size, hBW.block⟩
   have hsW2 : w2.heap.size = n + 1 + 1 + 1 := by rw [hw2]; exact hsW
   clear t1 t2 t3 hBW hsW hw2 d0 d1 d2 d3; have HBW := hZ hBW2; have T3 : Hid (Two w2.drew (n + 1 + 1) 61 (.bool false) (.slice none 0 0)) := hZ t3'; have HS0 : Hid (qBw n (.bool sx) (.slice ax nx cx) (.bool sy) (.slice ay ny cy) w2.drew) := hZ ⟨t1'.cell0, t1'.cell1, t2'.cell0, t2'.cell1⟩; have hs0 : n + 1 + 1 + 1 <= w2.drew.heap.size := by show _ <= w2.heap.size; omega
   have d0 := t1'.cell0; have d1 := t1'.cell1; have d2 := t2'.cell0; have d3 := t2'.cell1; clear t1' t2' t3' hBW2
   go_wp2_with fail
   go_region_held3 (fun w' => w'.cell? ⟨n, 0, none⟩ = some (.bool sx) /\ w'.cell? ⟨n, 1, none⟩ = some (.slice ax nx cx) /\ w'.cell? ⟨n + 1, 0, none⟩ = some (.bool sy) /\ w'.cell? ⟨n + 1, 1, none⟩ = some (.slice ay ny cy))
    (first | (exact HS.o) | (exact qBw.set2 HS.o _ _) | go_keep)
    (first
     | (go_at_call 70; refine (Ht.o _ HBW.o.drew).mono ?_; rintro e w5 ⟨⟨v5, L5, rfl, hm5, hlow5, hval5, hlen5⟩, hB5⟩; have Hm5 := hZ hm5; have HL5 := hZ hlow5; have HV5 := hZ hval5; have HB5 := hZ hB5; have HS5 := hZ (HS0.o.below hB5 hs0); have s5 := HS5.o.2; have HS := hZ HS5.o.1; clear hm5 hB5 hlow5 hval5)
     | (go_at_call 59; refine (qAJ _ v5 L5 w5 Hm5.o HL5.o (by omega)).mono ?_; rintro e w6 ⟨⟨v6, rfl, hr6⟩, hB6⟩; rw [HV5.o] at hr6; have Hr6 := hZ hr6; obtain ⟨a6, l6, c6, rfl, -, -, -⟩ := hr6.form; have HB6 := hZ hB6; have HS6 := hZ (HS.o.below hB6 s5); clear HS; have s6 := HS6.o.2; have HS := hZ HS6.o.1; have T6 := (T3.o.below HB5.o (by omega)).below hB6 (by omega); have g0 := T6.cell0; have g1 := T6.cell1; have g2 := T6.frozen 0; have g3 := T6.frozen 1; have T6 := hZ T6; clear hB6 hr6))
   go_wp2
   refine bodyPost_ret (v := .agg #[.bool (decide (sgn (sx) p < 0)), .slice a6 l6 c6]) (by simp [results, Try.results69, go_sem, g0, g1]) rfl ⟨⟨_, rfl, by rw [<- Hz.o]; exact Hr6.o.set_two T6.o _ _⟩, ?_⟩; rw [Hn.o]; exact (((HBW.o.drew.trans (HB5.o.mono (by omega))).trans (HB6.o.mono (by omega))).setCell (p := ⟨n + 1 + 1, 0, none⟩) (by show n <= n + 1 + 1; omega) _).setCell (p := ⟨n + 1 + 1, 1, none⟩) (by show n <= n + 1 + 1; omega) _
  ·have Ht := hZ (fun w' (hb : Below n w w') => qEf (.slice ay ny cy) (.slice ax nx cx) y.natAbs x.natAbs w' (qAd.below HY.o (Nat.le_of_eq hn) hb) (qAd.below HX.o (Nat.le_of_eq hn) hb) (by omega) (by omega))
   have Hz := hZ ((qBP y x (Ne.symm hs) (by omega)).trans (Int.add_comm y x)); have hcg2 : qAK (x.natAbs : Int) (y.natAbs : Int) < 0 := by rw [decide_eq_false hle] at hcg; simpa using hcg
   clear HX HY hlx' hly' hs hle hcg; generalize decide (x < 0) = sx at *; generalize decide (y < 0) = sy at *; generalize y.natAbs - x.natAbs = p at *; generalize qAK (x.natAbs : Int) (y.natAbs : Int) = cm at *
   go_enter Try.func69, Try.ntmps69
   have d0 := t1.cell0; have d1 := t1.cell1; have d2 := t2.cell0; have d3 := t2.cell1
   go_wp2_with fail
   refine (Hcm.o W hBW).mono ?_; rintro e w2 ⟨rfl, d, hw2⟩; clear hW; have t1' : Two w2 n 61 (.bool sx) (.slice ax nx cx) := by rw [hw2]; exact t1
   have t2' : Two w2 (n + 1) 61 (.bool sy) (.slice ay ny cy) := by rw [hw2]; exact t2
   have t3' : Two w2 (n + 1 + 1) 61 (.bool false) (.slice none 0 0) := by rw [hw2]; exact t3
   have hBW2 : Below n w w2 := by rw [hw2]; exact ⟨hBW.os, hBW.tape, hBW.output, hBW.size, hBW.block⟩
   have hsW2 : w2.heap.size = n + 1 + 1 + 1 := by rw [hw2]; exact hsW
   clear t1 t2 t3 hBW hsW hw2 d0 d1 d2 d3; have HBW := hZ hBW2; have T3 : Hid (Two w2.drew (n + 1 + 1) 61 (.bool false) (.slice none 0 0)) := hZ t3'; have HS0 : Hid (qBw n (.bool sx) (.slice ax nx cx) (.bool sy) (.slice ay ny cy) w2.drew) := hZ ⟨t1'.cell0, t1'.cell1, t2'.cell0, t2'.cell1⟩; have hs0 : n + 1 + 1 + 1 <= w2.drew.heap.size := by show _ <= w2.heap.size; omega
   have d0 := t1'.cell0; have d1 := t1'.cell1; have d2 := t2'.cell0; have d3 := t2'.cell1; clear t1' t2' t3' hBW2
   go_wp2_with fail
   go_region_held3 (fun w' => w'.cell? ⟨n, 0, none⟩ = some (.bool sx) /\ w'.cell? ⟨n, 1, none⟩ = some (.slice ax nx cx) /\ w'.cell? ⟨n + 1, 0, none⟩ = some (.bool sy) /\ w'.cell? ⟨n + 1, 1, none⟩ = some (.slice ay ny cy))
    (first | (exact HS.o) | (exact qBw.set2 HS.o _ _) | go_keep)
    (first
     | (go_at_call 70; refine (Ht.o _ HBW.o.drew).mono ?_; rintro e w5 ⟨⟨v5, L5, rfl, hm5, hlow5, hval5, hlen5⟩, hB5⟩; have Hm5 := hZ hm5; have HL5 := hZ hlow5; have HV5 := hZ hval5; have HB5 := hZ hB5; have HS5 := hZ (HS0.o.below hB5 hs0); have s5 := HS5.o.2; have HS := hZ HS5.o.1; clear hm5 hB5 hlow5 hval5)
     | (go_at_call 59; refine (qAJ _ v5 L5 w5 Hm5.o HL5.o (by omega)).mono ?_; rintro e w6 ⟨⟨v6, rfl, hr6⟩, hB6⟩; rw [HV5.o] at hr6; have Hr6 := hZ hr6; obtain ⟨a6, l6, c6, rfl, -, -, -⟩ := hr6.form; have HB6 := hZ hB6; have HS6 := hZ (HS.o.below hB6 s5); clear HS; have s6 := HS6.o.2; have HS := hZ HS6.o.1; have T6 := (T3.o.below HB5.o (by omega)).below hB6 (by omega); have g0 := T6.cell0; have g1 := T6.cell1; have g2 := T6.frozen 0; have g3 := T6.frozen 1; have T6 := hZ T6; clear hB6 hr6))
   go_wp2
   refine bodyPost_ret (v := .agg #[.bool (decide (sgn (sy) p < 0)), .slice a6 l6 c6]) (by simp [results, Try.results69, go_sem, g0, g1]) rfl ⟨⟨_, rfl, by rw [<- Hz.o]; exact Hr6.o.set_two T6.o _ _⟩, ?_⟩; rw [Hn.o]; exact (((HBW.o.drew.trans (HB5.o.mono (by omega))).trans (HB6.o.mono (by omega))).setCell (p := ⟨n + 1 + 1, 0, none⟩) (by show n <= n + 1 + 1; omega) _).setCell (p := ⟨n + 1 + 1, 1, none⟩) (by show n <= n + 1 + 1; omega) _
open Go.RowKit
theorem qJG (vx vy : Value) (x y : Int) (w : World) (hx : qAL w vx x) (hy : qAL w vy y) (hlx : (qAe T4 x.natAbs).length <= 1048576) (hly : (qAe T4 y.natAbs).length <= 1048576) :
 Calls Try.prog 71 #[vx, vy] w (qLr (x - y) w) := by
 have HX0 := hZ hx; have HY0 := hZ hy; obtain ⟨ax, nx, cx, rfl, -, -, -⟩ := hx.form; obtain ⟨ay, ny, cy, rfl, -, -, -⟩ := hy.form; have hly2 : (qAe T4 (-y).natAbs).length <= 1048576 := by rw [Int.natAbs_neg]; exact hly
 clear hx hy; obtain ⟨n, hn⟩ := eX w.heap.size; have Hn := hZ hn; obtain ⟨W, hW, t1, t2, t3, hBW, hsW⟩ := qCi w 61 (.bool (decide (x < 0))) (.slice ax nx cx) (.bool (decide (y < 0))) (.slice ay ny cy) (.bool false) (.slice none 0 0) n hn; have Hs1 := hZ (fun w' (hb : Below n w w') => qHw (.agg #[.bool (decide (y < 0)), .slice ay ny cy]) y w' (HY0.o.below (Nat.le_of_eq hn) hb) (by omega)); have Ha := hZ (fun v w' (hb : Below n w w') (hv : qAL w' v (-y)) => qHy (.agg #[.bool (decide (x < 0)), .slice ax nx cx]) v x (-y) w' (HX0.o.below (Nat.le_of_eq hn) hb) hv hlx hly2); have hxy : x + -y = x - y := by omega
 rw [hxy] at Ha; clear HX0 HY0 hlx hly hly2 hxy; generalize decide (x < 0) = sx at *; generalize decide (y < 0) = sy at *; have HBW := hZ hBW; have T3 : Hid (Two W.drew (n + 1 + 1) 61 (.bool false) (.slice none 0 0)) := hZ t3; have HS0 : Hid (qBw n (.bool sx) (.slice ax nx cx) (.bool sy) (.slice ay ny cy) W.drew) := hZ ⟨t1.cell0, t1.cell1, t2.cell0, t2.cell1⟩; have hs0 : n + 1 + 1 + 1 <= W.drew.heap.size := by show _ <= W.heap.size; omega
 have d0 := t1.cell0; have d1 := t1.cell1; have d2 := t2.cell0; have d3 := t2.cell1; clear t1 t2 t3 hBW
 go_enter Try.func71, Try.ntmps71
 go_wp2_with fail
 clear hW
 go_region_held3 (fun w' => w'.cell? ⟨n, 0, none⟩ = some (.bool sx) /\ w'.cell? ⟨n, 1, none⟩ = some (.slice ax nx cx) /\ w'.cell? ⟨n + 1, 0, none⟩ = some (.bool sy) /\ w'.cell? ⟨n + 1, 1, none⟩ = some (.slice ay ny cy))
  (first | (exact HS.o) | (exact qBw.set2 HS.o _ _) | go_keep)
  (first
   | (go_at_call 56; refine (Hs1.o _ HBW.o.drew).mono ?_; rintro e w5 ⟨⟨v5, rfl, hr5⟩, hB5⟩; have Hr5 := hZ hr5; obtain ⟨a5, l5, c5, rfl, -, -, -⟩ := hr5.form; clear hr5; generalize decide (-y < 0) = sz at *; have HB5 := hZ hB5; have HS5 := hZ (HS0.o.below hB5 hs0); have s5 := HS5.o.2; have HS := hZ HS5.o.1; have HBW5 := hZ (HBW.o.drew.trans (hB5.mono (by omega))); clear hB5)
   | (go_at_call 69; refine (Ha.o _ w5 HBW5.o Hr5.o).mono ?_; rintro e w6 ⟨⟨v6, rfl, hr6⟩, hB6⟩; have Hr6 := hZ hr6; obtain ⟨a6, l6, c6, rfl, -, -, -⟩ := hr6.form; have HB6 := hZ hB6; have HS6 := hZ (HS.o.below hB6 s5); clear HS; have s6 := HS6.o.2; have HS := hZ HS6.o.1; have T6 := (T3.o.below HB5.o (by omega)).below hB6 (by omega); have g0 := T6.cell0; have g1 := T6.cell1; have g2 := T6.frozen 0; have g3 := T6.frozen 1; have T6 := hZ T6; clear hB6 hr6))
 go_wp2
 refine bodyPost_ret (v := .agg #[.bool (decide (x - y < 0)), .slice a6 l6 c6]) (by simp [results, Try.results71, go_sem, g0, g1]) rfl ⟨⟨_, rfl, Hr6.o.set_two T6.o _ _⟩, ?_⟩; rw [Hn.o]; exact ((HBW5.o.trans (HB6.o.mono (by omega))).setCell (p := ⟨n + 1 + 1, 0, none⟩) (by show n <= n + 1 + 1; omega) _).setCell (p := ⟨n + 1 + 1, 1, none⟩) (by show n <= n + 1 + 1; omega) _
theorem qAd.whole {k : IntKind} {w : World} {a : Option Addr} {n c : Nat} {L : List Nat} (h : qAd k w (.slice a n c) L) :
 0 < L.length -> ∃ b off, a = some ⟨b, off, none⟩ /\ b < w.heap.size /\ ∀ j (h : j < L.length), w.cell? ⟨b, off + j, none⟩ = some (.int k (L[j] : Int)) := by
 obtain ⟨a', c', e, _, _, hc⟩ := h; injection e with e1 e2 e3; subst e1; exact hc
theorem qJm (L : List Nat) (k c x : Nat) (h : k < L.length) : val T4 (L.set k ((c + (x + L[k])) % T4)) + (c + (x + L[k])) / T4 * T4 ^ (k + 1) = val T4 L + (c + x) * T4 ^ k := by
 have h1 := qBh T4 L k ((c + (x + L[k])) % T4) h; have h2 := Nat.div_add_mod (c + (x + L[k])) T4; rw [Nat.pow_succ]; generalize (c + (x + L[k])) % T4 = r at *; generalize hq : (c + (x + L[k])) / T4 = q at *; generalize T4 ^ k = p at *; generalize L[k] = s at *; generalize val T4 L = v at *; generalize val T4 (L.set k r) = v' at *; generalize T4 = B at *
 grind
structure qGB (A B : List Nat) (S k : Nat) (L : List Nat) : Prop where
 len : L.length = S
 low : Low T4 L
 zero : ∀ j (h : j < L.length), k + B.length <= j -> L[j] = 0
 eq : val T4 L = val T4 (A.take k) * val T4 B
structure qEJ (A B : List Nat) (S k j c : Nat) (x : Nat) (L : List Nat) : Prop where
 len : L.length = S
 low : Low T4 L
 c1 : c < T4
 zero : ∀ i (h : i < L.length), k + B.length <= i -> L[i] = 0
 eq : val T4 L + c * T4 ^ (k + j) = val T4 (A.take k) * val T4 B + x * val T4 (B.take j) * T4 ^ k
theorem qGB.start (A B : List Nat) (S : Nat) : qGB A B S 0 (List.replicate S 0) :=
 ⟨by simp, fun x hx => by rw [(List.mem_replicate.1 hx).2]; decide, fun j h _ => by simp, by rw [qBo T4 _ (fun x hx => (List.mem_replicate.1 hx).2)]; simp [val]⟩
theorem qGB.inner {A B : List Nat} {S k : Nat} {L : List Nat} (h : qGB A B S k L) (x : Nat) : qEJ A B S k 0 0 x L :=
 ⟨h.len, h.low, by decide, h.zero, by rw [h.eq]; simp [val]⟩
theorem qEJ.bound {A B : List Nat} {S k j c x : Nat} {L : List Nat} (h : qEJ A B S k j c x L) (y : Nat) (hx : x < T4) (hy : y < T4) (i : Nat) (hi : i < L.length) : c + (x * y + L[i]) <= 99999999 := by
 have h1 : x * y <= 9999 * 9999 := Nat.mul_le_mul (Nat.le_of_lt_succ hx) (Nat.le_of_lt_succ hy); have h2 : c < 10000 := h.c1; have h3 : L[i] < 10000 := h.low _ (List.getElem_mem hi); omega
theorem qEJ.next {A B : List Nat} {S k j c x : Nat} {L : List Nat} (h : qEJ A B S k j c x L) (hj : j < B.length) (hkj : k + j < L.length) (hB : Low T4 B) (hx : x < T4) :
 qEJ A B S k (j + 1) ((c + (x * B[j] + L[k + j])) / T4) x (L.set (k + j) ((c + (x * B[j] + L[k + j])) % T4)) := by
 have hb := h.bound B[j] hx (hB _ (List.getElem_mem hj)) (k + j) hkj; refine ⟨by rw [List.length_set]; exact h.len, qAP h.low _ _ (Nat.mod_lt _ (by decide)), ?_, fun i hi hki => ?_, ?_⟩
 ·apply (Nat.div_lt_iff_lt_mul (show 0 < T4 by decide)).2
  show _ < 10000 * 10000
  omega
 ·rw [List.getElem_set_ne (by omega)]
  exact h.zero i (by rw [List.length_set] at hi; exact hi) (by omega)
 ·have e := qJm L (k + j) c (x * B[j]) hkj
  rw [show k + (j + 1) = k + j + 1 by omega, e, qAf T4 B j hj]; have h1 := h.eq; rw [Nat.pow_add] at h1 ⊢; generalize T4 ^ k = p at *; generalize T4 ^ j = q at *; generalize val T4 (B.take j) = v at *; generalize B[j] = y at *
  grind
theorem qEJ.done {A B : List Nat} {S k c : Nat} {L : List Nat} (hk : k < A.length) (h : qEJ A B S k B.length c A[k] L) (hkj : k + B.length < L.length) : qGB A B S (k + 1) (L.set (k + B.length) c) := by
 refine ⟨by rw [List.length_set]; exact h.len, qAP h.low _ _ h.c1, fun i hi hki => ?_, ?_⟩
 ·rw [List.getElem_set_ne (by omega)]
  exact h.zero i (by rw [List.length_set] at hi; exact hi) (by omega)
 ·have e := qBh T4 L (k + B.length) c hkj
  rw [h.zero _ hkj (Nat.le_refl _)] at e; have h1 := h.eq; rw [List.take_of_length_le (Nat.le_refl _)] at h1; rw [qAf T4 A k hk]; generalize T4 ^ (k + B.length) = P at *; generalize T4 ^ k = p at *; generalize val T4 B = v at *; generalize A[k] = y at *
  grind
theorem qHx (vx vy : Value) (x y : Int) (w : World) (hx : qAL w vx x) (hy : qAL w vy y) (hlx : (qAe T4 x.natAbs).length <= 1048576) (hly : (qAe T4 y.natAbs).length <= 1048576) :
 Calls Try.prog 72 #[vx, vy] w (qLr (x * y) w) := by
 obtain ⟨i0, hi, hz0, hz1, hz2⟩ := info_parts qDF; have Hi := hZ hi; have Hz0 := hZ hz0; have Hz1 := hZ hz1; have Hz2 := hZ hz2; clear hi hz0 hz1 hz2; obtain ⟨xa, N, xcap, rfl, hmx, hN, hNc⟩ := hx.form; obtain ⟨ya, M, ycap, rfl, hmy, hM, hMc⟩ := hy.form; have hsm := qGU x y; have hvx := qAi T4 qAn x.natAbs; have hvy := qAi T4 qAn y.natAbs; have HlA := hZ (qAl T4 qAn x.natAbs); have HlB := hZ (qAl T4 qAn y.natAbs); have Hxc := hZ (qAd.whole hmx); have Hyc := hZ (qAd.whole hmy); generalize qAe T4 x.natAbs = A at *; generalize qAe T4 y.natAbs = B at *; rw [<- hvx, <- hvy] at hsm; have Hsm := hZ hsm; rw [<- hN] at hlx; rw [<- hM] at hly; have HN := hZ hN.symm; have HM := hZ hM.symm; clear hx hy hmx hmy hN hM hvx hvy hsm; obtain ⟨n, hn⟩ := eX w.heap.size; have Hn := hZ hn; obtain ⟨W, hW, t1, t2, t3, hBW, hsW⟩ := qCi w 61 (.bool (decide (x < 0))) (.slice xa N xcap) (.bool (decide (y < 0))) (.slice ya M ycap) (.bool false) (.slice none 0 0) n hn; generalize decide (x < 0) = sx at *; generalize decide (y < 0) = sy at *; have d0 := t1.cell0; have d1 := t1.cell1; have d2 := t2.cell0; have d3 := t2.cell1; have HBW := hZ hBW; have HTX := hZ t1; have HTY := hZ t2; have HTZ := hZ t3; clear t1 t2 t3 hBW
 go_enter Try.func72, Try.ntmps72
 go_wp2_with (at_make; refine qAy _ rfl _ _ 22 rfl 3 i0 .i64 Try.underlying22 Hi.o Hz0.o Hz1.o _ _ _ _ (N + M) rfl rfl (by omega) (by omega) (by rw [Hz2.o]; omega) (by omega) ?_)
 intro w1 hblk hB1 hz1; have Hblk1 := hZ hblk; have HB1 := hZ hB1; obtain ⟨g, hg⟩ := eX (n + 1 + 1 + 1); have Hg := hZ hg; rw [hg] at Hblk1 HB1 hz1 hsW ⊢; have hng : n + 2 < g := by omega
 clear hblk hB1 hg hW d0 d1 d2 d3; have f1 := (HTX.o.below HB1.o (by omega)).cell1
 go_wp2_with fail
 have HI0 := hZ (qGB.start A B (N + M))
 go_loopw [6] (fun i wr => ∃ (k : Nat) (L : List Nat), k <= N /\ i = .int .i64 k /\ Hid (qGB A B (N + M) k L) /\ Hid (Blk wr g 3 .i64 L) /\ Hid (Below g W wr)) (fun i _ => N - (intOf i).toNat)
 case atStart => exact ⟨0, _, by omega, rfl, HI0, Hblk1, HB1⟩
 case round =>
  clear f1; obtain ⟨k, L, hk, rfl, hI, hbl, hB⟩ := hrel; have hgw := hbl.o.lt; have e1 := (HTX.o.below hB.o (by omega)).cell1; have e3 := (HTY.o.below hB.o (by omega)).cell1; by_cases hlt : k < N
  ·have hka : k < A.length := by rw [HN.o]; exact hlt
   obtain ⟨xb, xoff, rfl, hxb, hxcc⟩ := Hxc.o (by omega); have hxg : xb < g := by omega
   have Hcx := hZ (hxcc k hka); have hxl : A[k] < 10000 := HlA.o _ (List.getElem_mem hka); have HJ0 := hZ (hI.o.inner A[k]); obtain ⟨p, hp⟩ := eX (A[k]); have Hp := hZ hp; rw [hp] at Hcx hxl HJ0; clear hp hxcc
   go_wp2_with fail
   obtain ⟨wo, rfl⟩ := eY wr
   go_loopw [7, 8] (fun cv i wr => ∃ (j c : Nat) (L : List Nat), j <= M /\ c < 10000 /\ cv = .int .i64 (c : Int) /\ i = .int .i64 j /\ Hid (qEJ A B (N + M) k j c p L) /\ Hid (Blk wr g 3 .i64 L) /\ Hid (Below g W wr)) (fun _ i _ => M - (intOf i).toNat)
   case atStart => exact ⟨0, 0, L, by omega, by omega, rfl, rfl, HJ0, hbl, hB⟩
   case round =>
    clear hI hbl hB HJ0 e1 e3 hgw; obtain ⟨j, c, L2, hj, hc, rfl, rfl, hJ, hbl, hB⟩ := hrel; have hgw := hbl.o.lt; have e1 := (HTX.o.below hB.o (by omega)).cell1; have e3 := (HTY.o.below hB.o (by omega)).cell1; by_cases hjl : j < M
    ·have hjb : j < B.length := by rw [HM.o]; exact hjl
     have hkj : k + j < L2.length := by rw [hJ.o.len]; omega
     obtain ⟨yb, yoff, rfl, hyb, hycc⟩ := Hyc.o (by omega); have cx := (hB.o.cell (p := ⟨xb, xoff + k, none⟩) hxg).trans ((HBW.o.cell (p := ⟨xb, xoff + k, none⟩) (by show xb < n; omega)).trans Hcx.o); have cy := (hB.o.cell (p := ⟨yb, yoff + j, none⟩) (by show yb < g; omega)).trans ((HBW.o.cell (p := ⟨yb, yoff + j, none⟩) (by show yb < n; omega)).trans (hycc j hjb)); have hyl : B[j] < 10000 := HlB.o _ (List.getElem_mem hjb); have hbd := hJ.o.bound B[j] hxl hyl (k + j) hkj; have Hnext := hZ (hJ.o.next hjb hkj HlB.o hxl); have cg := hbl.o.cell (k + j) hkj; have fg := hbl.o.frozen (k + j); have hlo : L2[k + j] < 10000 := hJ.o.low _ (List.getElem_mem hkj); have hcn : (c + (p * B[j] + L2[k + j])) / T4 < T4 := Hnext.o.c1; clear hycc; generalize B[j] = q at *; generalize L2[k + j] = s at *; have hpq : p * q <= 9999 * 9999 := Nat.mul_le_mul (by omega) (by omega); obtain ⟨z, hz⟩ := eX (p * q); have hzI : (p : Int) * (q : Int) = (z : Int) := by rw [<- hz, Int.natCast_mul]
     rw [hz] at Hnext hcn hbd hpq; have hcn2 : (c + (z + s)) / 10000 < 10000 := hcn; obtain ⟨r, hr⟩ := eX ((c + (z + s)) % T4); obtain ⟨u, hu⟩ := eX ((c + (z + s)) / T4); rw [hr, hu] at Hnext; have hr' : (c + (z + s)) % 10000 = r := hr; have hu' : (c + (z + s)) / 10000 = u := hu; have hrI : ((s : Int) + (z : Int) + (c : Int)) % 10000 = (r : Int) := by omega
     have huI : ((s : Int) + (z : Int) + (c : Int)) / 10000 = (u : Int) := by omega
     have hrl : r < 10000 := by omega
     have hul : u < 10000 := by omega
     clear hz hr hu hr' hu' hcn hcn2 hbd
     go_wp2_with fail
     go_quiet (fail)
     go_wp2_with fail
     go_roundw
     case rel => exact ⟨j + 1, u, _, by omega, hul, by rw [huI], by go_num, Hnext, hZ ((hbl.o.drewN nq).set (k + j) _), hZ ((qBF hB.o nq).setCell (p := ⟨g, k + j, none⟩) (Nat.le_refl _) _)⟩
     case measure => simp [intOf]; omega
    ·obtain rfl : j = M := by omega
     clear hjl; have hkj : k + j < L2.length := by rw [hJ.o.len]; omega
     have cg := hbl.o.cell (k + j) hkj; have fg := hbl.o.frozen (k + j); have Hdone : Hid (qGB A B (N + j) (k + 1) (L2.set (k + j) c)) := hZ (by
      have hJ2 := hJ.o; rw [<- Hp.o, <- HM.o] at hJ2; have := qEJ.done hka hJ2 (by rw [HM.o]; exact hkj); rw [HM.o] at this; exact this)
     go_wp2_with fail
     go_roundw
     case rel => exact ⟨k + 1, _, by omega, by go_num, Hdone, hZ (hbl.o.set (k + j) _), hZ (hB.o.setCell (p := ⟨g, k + j, none⟩) (Nat.le_refl _) _)⟩
     case measure => simp [intOf]; omega
  ·obtain rfl : k = N := by omega
   clear hlt; have hlen2 := hI.o.len; have hv : val T4 L = val T4 A * val T4 B := by
    have := hI.o.eq; rw [List.take_of_length_le (by rw [HN.o]; exact Nat.le_refl _)] at this; exact this
   have Hno := hZ (qAJ (sx != sy) (.slice (some ⟨g, 0, none⟩) (k + M) (k + M)) L wr (by
    have := qAd.of_blk hbl.o (cap := k + M) (by omega) (by omega); rw [hlen2] at this; exact this) hI.o.low (by omega))
   rw [hv, Hsm.o] at Hno; clear hlen2 hv; have e0 := (HTX.o.below hB.o (by omega)).cell0; have e2 := (HTY.o.below hB.o (by omega)).cell0
   go_wp2_with fail
   refine Hno.o.mono ?_; rintro e w5 ⟨⟨vr, rfl, hr⟩, hB5⟩; have Hr := hZ hr; obtain ⟨a5, n5, c5, rfl, -, -, -⟩ := hr.form; have HT5 := hZ ((HTZ.o.below hB.o (by omega)).below hB5 (by omega)); have f0 := HT5.o.cell0; have f1 := HT5.o.cell1; have f2 := HT5.o.frozen 0; have f3 := HT5.o.frozen 1; have HB5 := hZ (HBW.o.trans ((hB.o.trans (hB5.mono (by omega))).mono (by omega))); clear hr hB5 Hno e0 e1 e2 e3
   go_wp2
   refine bodyPost_ret (v := .agg #[.bool (decide (x * y < 0)), .slice a5 n5 c5]) (by simp [results, Try.results72, go_sem, f0, f1]) rfl ⟨⟨_, rfl, Hr.o.set_two HT5.o _ _⟩, ?_⟩; rw [Hn.o]; exact (HB5.o.setCell (p := ⟨n + 1 + 1, 0, none⟩) (by show n <= n + 1 + 1; omega) _).setCell (p := ⟨n + 1 + 1, 1, none⟩) (by show n <= n + 1 + 1; omega) _
end Go.Proofs.Ytlmbebbdamgfpaa
