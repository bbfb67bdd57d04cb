/- the reference's integers: Small. -/
import Derived.Test.YtlmbebbdamgfpaaQJR5Minus
import Derived.Test.YtlmbebbdamgfpaaQJWTimes
import Derived.Laws.AppendOwnNone
import Derived.Test.YtlmbebbdamgfpaaQJLSz
import Derived.Deep.LoopGhost
import Derived.Test.YtlmbebbdamgfpaaQJWSubtr
set_option linter.unusedVariables false
set_option linter.unusedSimpArgs false
set_option maxHeartbeats 4000000
set_option maxRecDepth 100000
namespace Go.Proofs.Ytlmbebbdamgfpaa
open Go.RowKit
def qJz (p : Nat) (w : World) (e : Ending) (w' : World) : Prop := (∃ v L, e = .returned v /\ qAd .i64 w' v L /\ Low T4 L /\ val T4 L = p /\ L.length <= 2097153) /\ Below w.heap.size w w'
def qLE (z : Int) (w : World) (e : Ending) (w' : World) : Prop := (∃ vr, e = .returned vr /\ qAH w' vr z) /\ Below w.heap.size w w'
theorem qH4 (va vb : Value) (m n : Nat) (w : World) (ha : qBx w va m) (hb : qBx w vb n) (hl1 : (qAe T4 m).length <= 1048576) (hl2 : (qAe T4 n).length <= 1048576) :
 Calls Try.prog 96 #[va, vb] w (qJz (m + n) w) := qIH va vb m n w ha hb hl1 hl2
theorem qDW (va vb : Value) (m n : Nat) (w : World) (ha : qBx w va m) (hb : qBx w vb n) (hnm : n <= m) (hl1 : (qAe T4 m).length <= 1048576) :
 Calls Try.prog 70 #[va, vb] w (qJz (m - n) w) :=
 (qEA va vb m n w ha hb hnm (by omega)).mono (by rintro e w' ⟨⟨v, L, rfl, h1, h2, h3, h4⟩, hB⟩; exact ⟨⟨v, L, rfl, h1, h2, h3, by omega⟩, hB⟩)
theorem qHg (vx vy : Value) (x y : Int) (w : World) (hx : qAH w vx x) (hy : qAH w vy y) (hlx' : (qAe T4 x.natAbs).length <= 1048576) (hly' : (qAe T4 y.natAbs).length <= 1048576) :
 Calls Try.prog 69 #[vx, vy] w (qLE (x + y) w) := by
 obtain ⟨ax, nx, cx, rfl, hmx, -, -⟩ := hx.form; obtain ⟨ay, ny, cy, rfl, hmy, -, -⟩ := hy.form; have HX := hZ hmx; have HY := hZ hmy; clear hx hy hmx hmy; obtain ⟨n, hn⟩ := eX w.heap.size; have Hn := hZ hn; obtain ⟨W, hW, t1, t2, t3, hBW, hsW⟩ := qCd w 61 (.bool (decide (x < 0))) (.slice ax nx cx) (.bool (decide (y < 0))) (.slice ay ny cy) (.bool false) (.slice none 0 0) n hn; by_cases hs : decide (x < 0) = decide (y < 0)
 ·have Ht := hZ (fun w' (hb : Below n w w') => qH4 (.slice ax nx cx) (.slice ay ny cy) x.natAbs y.natAbs w' (qAd.below HX.o (Nat.le_of_eq hn) hb) (qAd.below HY.o (Nat.le_of_eq hn) hb) (by omega) (by omega))
  have Hz := hZ (qCu x y hs); have hss : (decide (x < 0) == decide (y < 0)) = true := by rw [hs]; simp
  clear HX HY hlx' hly' hs; generalize decide (x < 0) = sx at *; generalize decide (y < 0) = sy at *; generalize x.natAbs + y.natAbs = p at *; have HBW := hZ hBW; have T3 : Hid (Two W.drew (n + 1 + 1) 61 (.bool false) (.slice none 0 0)) := hZ t3; have HS0 : Hid (qBn n (.bool sx) (.slice ax nx cx) (.bool sy) (.slice ay ny cy) W.drew) := hZ ⟨t1.cell0, t1.cell1, t2.cell0, t2.cell1⟩; have hs0 : n + 1 + 1 + 1 <= W.drew.heap.size := by show _ <= W.heap.size; omega
  have d0 := t1.cell0; have d1 := t1.cell1; have d2 := t2.cell0; have d3 := t2.cell1; clear t1 t2 t3 hBW
  go_enter Try.func69, Try.ntmps69
  go_wp2_with fail
  clear hW
  go_region_held3 (fun w' => w'.cell? ⟨n, 0, none⟩ = some (.bool sx) /\ w'.cell? ⟨n, 1, none⟩ = some (.slice ax nx cx) /\ w'.cell? ⟨n + 1, 0, none⟩ = some (.bool sy) /\ w'.cell? ⟨n + 1, 1, none⟩ = some (.slice ay ny cy))
   (first | (exact HS.o) | (exact qBn.set2 HS.o _ _) | go_keep)
   (first
    | (go_at_call 96; refine (Ht.o _ HBW.o.drew).mono ?_; rintro e w5 ⟨⟨v5, L5, rfl, hm5, hlow5, hval5, hlen5⟩, hB5⟩; have Hm5 := hZ hm5; have HL5 := hZ hlow5; have HV5 := hZ hval5; have HB5 := hZ hB5; have HS5 := hZ (HS0.o.below hB5 hs0); have s5 := HS5.o.2; have HS := hZ HS5.o.1; clear hm5 hB5 hlow5 hval5)
    | (go_at_call 59; refine (qAJ _ v5 L5 w5 Hm5.o HL5.o (by omega)).mono ?_; rintro e w6 ⟨⟨v6, rfl, hr6⟩, hB6⟩; rw [HV5.o] at hr6; have Hr6 := hZ hr6; obtain ⟨a6, l6, c6, rfl, -, -, -⟩ := hr6.form; have HB6 := hZ hB6; have HS6 := hZ (HS.o.below hB6 s5); clear HS; have s6 := HS6.o.2; have HS := hZ HS6.o.1; have T6 := (T3.o.below HB5.o (by omega)).below hB6 (by omega); have g0 := T6.cell0; have g1 := T6.cell1; have g2 := T6.frozen 0; have g3 := T6.frozen 1; have T6 := hZ T6; clear hB6 hr6))
  go_wp2
  refine bodyPost_ret (v := .agg #[.bool (decide (sgn (sx) p < 0)), .slice a6 l6 c6]) (by simp [results, Try.results69, go_sem, g0, g1]) rfl ⟨⟨_, rfl, by rw [<- Hz.o]; exact Hr6.o.set_two T6.o _ _⟩, ?_⟩; rw [Hn.o]; exact (((HBW.o.drew.trans (HB5.o.mono (by omega))).trans (HB6.o.mono (by omega))).setCell (p := ⟨n + 1 + 1, 0, none⟩) (by show n <= n + 1 + 1; omega) _).setCell (p := ⟨n + 1 + 1, 1, none⟩) (by show n <= n + 1 + 1; omega) _
 ·have hss : (decide (x < 0) == decide (y < 0)) = false := by simpa using hs
  have Hcm := hZ (fun w' (hb : Below n w w') => qB3 (.slice ax nx cx) (.slice ay ny cy) x.natAbs y.natAbs w' (qAd.below HX.o (Nat.le_of_eq hn) hb) (qAd.below HY.o (Nat.le_of_eq hn) hb) (by omega) (by omega)); have hcg := qJl x.natAbs y.natAbs; by_cases hle : y.natAbs <= x.natAbs
  ·have Ht := hZ (fun w' (hb : Below n w w') => qDW (.slice ax nx cx) (.slice ay ny cy) x.natAbs y.natAbs w' (qAd.below HX.o (Nat.le_of_eq hn) hb) (qAd.below HY.o (Nat.le_of_eq hn) hb) hle (by omega))
   have Hz := hZ (qBE x y hs hle); have hcg2 : ¬ qAK (x.natAbs : Int) (y.natAbs : Int) < 0 := by rw [decide_eq_true hle] at hcg; simpa using hcg
   clear HX HY hlx' hly' hs hle hcg; generalize decide (x < 0) = sx at *; generalize decide (y < 0) = sy at *; generalize x.natAbs - y.natAbs = p at *; generalize qAK (x.natAbs : Int) (y.natAbs : Int) = cm at *
   go_enter Try.func69, Try.ntmps69
   have d0 := t1.cell0; have d1 := t1.cell1; have d2 := t2.cell0; have d3 := t2.cell1
   go_wp2_with fail
   refine (Hcm.o W hBW).mono ?_; rintro e w2 ⟨rfl, d, hw2⟩; clear hW; have t1' : Two w2 n 61 (.bool sx) (.slice ax nx cx) := by rw [hw2]; exact t1
   have t2' : Two w2 (n + 1) 61 (.bool sy) (.slice ay ny cy) := by rw [hw2]; exact t2
   have t3' : Two w2 (n + 1 + 1) 61 (.bool false) (.slice none 0 0) := by rw [hw2]; exact t3
   have hBW2 : Below n w w2 := by rw [hw2]; exact ⟨hBW.os, hBW.tape, hBW.output, hBW.size, hBW.block⟩
   have hsW2 : w2.heap.size = n + 1 + 1 + 1 := by rw [hw2]; exact hsW
   clear t1 t2 t3 hBW hsW hw2 d0 d1 d2 d3; have HBW := hZ hBW2; have T3 : Hid (Two w2.drew (n + 1 + 1) 61 (.bool false) (.slice none 0 0)) := hZ t3'; have HS0 : Hid (qBn n (.bool sx) (.slice ax nx cx) (.bool sy) (.slice ay ny cy) w2.drew) := hZ ⟨t1'.cell0, t1'.cell1, t2'.cell0, t2'.cell1⟩; have hs0 : n + 1 + 1 + 1 <= w2.drew.heap.size := by show _ <= w2.heap.size; omega
   have d0 := t1'.cell0; have d1 := t1'.cell1; have d2 := t2'.cell0; have d3 := t2'.cell1; clear t1' t2' t3' hBW2
   go_wp2_with fail
   go_region_held3 (fun w' => w'.cell? ⟨n, 0, none⟩ = some (.bool sx) /\ w'.cell? ⟨n, 1, none⟩ = some (.slice ax nx cx) /\ w'.cell? ⟨n + 1, 0, none⟩ = some (.bool sy) /\ w'.cell? ⟨n + 1, 1, none⟩ = some (.slice ay ny cy))
    (first | (exact HS.o) | (exact qBn.set2 HS.o _ _) | go_keep)
    (first
     | (go_at_call 70; refine (Ht.o _ HBW.o.drew).mono ?_; rintro e w5 ⟨⟨v5, L5, rfl, hm5, hlow5, hval5, hlen5⟩, hB5⟩; have Hm5 := hZ hm5; have HL5 := hZ hlow5; have HV5 := hZ hval5; have HB5 := hZ hB5; have HS5 := hZ (HS0.o.below hB5 hs0); have s5 := HS5.o.2; have HS := hZ HS5.o.1; clear hm5 hB5 hlow5 hval5)
     | (go_at_call 59; refine (qAJ _ v5 L5 w5 Hm5.o HL5.o (by omega)).mono ?_; rintro e w6 ⟨⟨v6, rfl, hr6⟩, hB6⟩; rw [HV5.o] at hr6; have Hr6 := hZ hr6; obtain ⟨a6, l6, c6, rfl, -, -, -⟩ := hr6.form; have HB6 := hZ hB6; have HS6 := hZ (HS.o.below hB6 s5); clear HS; have s6 := HS6.o.2; have HS := hZ HS6.o.1; have T6 := (T3.o.below HB5.o (by omega)).below hB6 (by omega); have g0 := T6.cell0; have g1 := T6.cell1; have g2 := T6.frozen 0; have g3 := T6.frozen 1; have T6 := hZ T6; clear hB6 hr6))
   go_wp2
   refine bodyPost_ret (v := .agg #[.bool (decide (sgn (sx) p < 0)), .slice a6 l6 c6]) (by simp [results, Try.results69, go_sem, g0, g1]) rfl ⟨⟨_, rfl, by rw [<- Hz.o]; exact Hr6.o.set_two T6.o _ _⟩, ?_⟩; rw [Hn.o]; exact (((HBW.o.drew.trans (HB5.o.mono (by omega))).trans (HB6.o.mono (by omega))).setCell (p := ⟨n + 1 + 1, 0, none⟩) (by show n <= n + 1 + 1; omega) _).setCell (p := ⟨n + 1 + 1, 1, none⟩) (by show n <= n + 1 + 1; omega) _
  ·have Ht := hZ (fun w' (hb : Below n w w') => qDW (.slice ay ny cy) (.slice ax nx cx) y.natAbs x.natAbs w' (qAd.below HY.o (Nat.le_of_eq hn) hb) (qAd.below HX.o (Nat.le_of_eq hn) hb) (by omega) (by omega))
   have Hz := hZ ((qBE y x (Ne.symm hs) (by omega)).trans (Int.add_comm y x)); have hcg2 : qAK (x.natAbs : Int) (y.natAbs : Int) < 0 := by rw [decide_eq_false hle] at hcg; simpa using hcg
   clear HX HY hlx' hly' hs hle hcg; generalize decide (x < 0) = sx at *; generalize decide (y < 0) = sy at *; generalize y.natAbs - x.natAbs = p at *; generalize qAK (x.natAbs : Int) (y.natAbs : Int) = cm at *
   go_enter Try.func69, Try.ntmps69
   have d0 := t1.cell0; have d1 := t1.cell1; have d2 := t2.cell0; have d3 := t2.cell1
   go_wp2_with fail
   refine (Hcm.o W hBW).mono ?_; rintro e w2 ⟨rfl, d, hw2⟩; clear hW; have t1' : Two w2 n 61 (.bool sx) (.slice ax nx cx) := by rw [hw2]; exact t1
   have t2' : Two w2 (n + 1) 61 (.bool sy) (.slice ay ny cy) := by rw [hw2]; exact t2
   have t3' : Two w2 (n + 1 + 1) 61 (.bool false) (.slice none 0 0) := by rw [hw2]; exact t3
   have hBW2 : Below n w w2 := by rw [hw2]; exact ⟨hBW.os, hBW.tape, hBW.output, hBW.size, hBW.block⟩
   have hsW2 : w2.heap.size = n + 1 + 1 + 1 := by rw [hw2]; exact hsW
   clear t1 t2 t3 hBW hsW hw2 d0 d1 d2 d3; have HBW := hZ hBW2; have T3 : Hid (Two w2.drew (n + 1 + 1) 61 (.bool false) (.slice none 0 0)) := hZ t3'; have HS0 : Hid (qBn n (.bool sx) (.slice ax nx cx) (.bool sy) (.slice ay ny cy) w2.drew) := hZ ⟨t1'.cell0, t1'.cell1, t2'.cell0, t2'.cell1⟩; have hs0 : n + 1 + 1 + 1 <= w2.drew.heap.size := by show _ <= w2.heap.size; omega
   have d0 := t1'.cell0; have d1 := t1'.cell1; have d2 := t2'.cell0; have d3 := t2'.cell1; clear t1' t2' t3' hBW2
   go_wp2_with fail
   go_region_held3 (fun w' => w'.cell? ⟨n, 0, none⟩ = some (.bool sx) /\ w'.cell? ⟨n, 1, none⟩ = some (.slice ax nx cx) /\ w'.cell? ⟨n + 1, 0, none⟩ = some (.bool sy) /\ w'.cell? ⟨n + 1, 1, none⟩ = some (.slice ay ny cy))
    (first | (exact HS.o) | (exact qBn.set2 HS.o _ _) | go_keep)
    (first
     | (go_at_call 70; refine (Ht.o _ HBW.o.drew).mono ?_; rintro e w5 ⟨⟨v5, L5, rfl, hm5, hlow5, hval5, hlen5⟩, hB5⟩; have Hm5 := hZ hm5; have HL5 := hZ hlow5; have HV5 := hZ hval5; have HB5 := hZ hB5; have HS5 := hZ (HS0.o.below hB5 hs0); have s5 := HS5.o.2; have HS := hZ HS5.o.1; clear hm5 hB5 hlow5 hval5)
     | (go_at_call 59; refine (qAJ _ v5 L5 w5 Hm5.o HL5.o (by omega)).mono ?_; rintro e w6 ⟨⟨v6, rfl, hr6⟩, hB6⟩; rw [HV5.o] at hr6; have Hr6 := hZ hr6; obtain ⟨a6, l6, c6, rfl, -, -, -⟩ := hr6.form; have HB6 := hZ hB6; have HS6 := hZ (HS.o.below hB6 s5); clear HS; have s6 := HS6.o.2; have HS := hZ HS6.o.1; have T6 := (T3.o.below HB5.o (by omega)).below hB6 (by omega); have g0 := T6.cell0; have g1 := T6.cell1; have g2 := T6.frozen 0; have g3 := T6.frozen 1; have T6 := hZ T6; clear hB6 hr6))
   go_wp2
   refine bodyPost_ret (v := .agg #[.bool (decide (sgn (sy) p < 0)), .slice a6 l6 c6]) (by simp [results, Try.results69, go_sem, g0, g1]) rfl ⟨⟨_, rfl, by rw [<- Hz.o]; exact Hr6.o.set_two T6.o _ _⟩, ?_⟩; rw [Hn.o]; exact (((HBW.o.drew.trans (HB5.o.mono (by omega))).trans (HB6.o.mono (by omega))).setCell (p := ⟨n + 1 + 1, 0, none⟩) (by show n <= n + 1 + 1; omega) _).setCell (p := ⟨n + 1 + 1, 1, none⟩) (by show n <= n + 1 + 1; omega) _
open Go.RowKit
theorem qJK (vx vy : Value) (x y : Int) (w : World) (hx : qAH w vx x) (hy : qAH w vy y) (hlx : (qAe T4 x.natAbs).length <= 1048576) (hly : (qAe T4 y.natAbs).length <= 1048576) :
 Calls Try.prog 71 #[vx, vy] w (qLE (x - y) w) := by
 have HX0 := hZ hx; have HY0 := hZ hy; obtain ⟨ax, nx, cx, rfl, -, -, -⟩ := hx.form; obtain ⟨ay, ny, cy, rfl, -, -, -⟩ := hy.form; have hly2 : (qAe T4 (-y).natAbs).length <= 1048576 := by rw [Int.natAbs_neg]; exact hly
 clear hx hy; obtain ⟨n, hn⟩ := eX w.heap.size; have Hn := hZ hn; obtain ⟨W, hW, t1, t2, t3, hBW, hsW⟩ := qCd w 61 (.bool (decide (x < 0))) (.slice ax nx cx) (.bool (decide (y < 0))) (.slice ay ny cy) (.bool false) (.slice none 0 0) n hn; have Hs1 := hZ (fun w' (hb : Below n w w') => qHe (.agg #[.bool (decide (y < 0)), .slice ay ny cy]) y w' (HY0.o.below (Nat.le_of_eq hn) hb) (by omega)); have Ha := hZ (fun v w' (hb : Below n w w') (hv : qAH w' v (-y)) => qHg (.agg #[.bool (decide (x < 0)), .slice ax nx cx]) v x (-y) w' (HX0.o.below (Nat.le_of_eq hn) hb) hv hlx hly2); have hxy : x + -y = x - y := by omega
 rw [hxy] at Ha; clear HX0 HY0 hlx hly hly2 hxy; generalize decide (x < 0) = sx at *; generalize decide (y < 0) = sy at *; have HBW := hZ hBW; have T3 : Hid (Two W.drew (n + 1 + 1) 61 (.bool false) (.slice none 0 0)) := hZ t3; have HS0 : Hid (qBn n (.bool sx) (.slice ax nx cx) (.bool sy) (.slice ay ny cy) W.drew) := hZ ⟨t1.cell0, t1.cell1, t2.cell0, t2.cell1⟩; have hs0 : n + 1 + 1 + 1 <= W.drew.heap.size := by show _ <= W.heap.size; omega
 have d0 := t1.cell0; have d1 := t1.cell1; have d2 := t2.cell0; have d3 := t2.cell1; clear t1 t2 t3 hBW
 go_enter Try.func71, Try.ntmps71
 go_wp2_with fail
 clear hW
 go_region_held3 (fun w' => w'.cell? ⟨n, 0, none⟩ = some (.bool sx) /\ w'.cell? ⟨n, 1, none⟩ = some (.slice ax nx cx) /\ w'.cell? ⟨n + 1, 0, none⟩ = some (.bool sy) /\ w'.cell? ⟨n + 1, 1, none⟩ = some (.slice ay ny cy))
  (first | (exact HS.o) | (exact qBn.set2 HS.o _ _) | go_keep)
  (first
   | (go_at_call 56; refine (Hs1.o _ HBW.o.drew).mono ?_; rintro e w5 ⟨⟨v5, rfl, hr5⟩, hB5⟩; have Hr5 := hZ hr5; obtain ⟨a5, l5, c5, rfl, -, -, -⟩ := hr5.form; clear hr5; generalize decide (-y < 0) = sz at *; have HB5 := hZ hB5; have HS5 := hZ (HS0.o.below hB5 hs0); have s5 := HS5.o.2; have HS := hZ HS5.o.1; have HBW5 := hZ (HBW.o.drew.trans (hB5.mono (by omega))); clear hB5)
   | (go_at_call 69; refine (Ha.o _ w5 HBW5.o Hr5.o).mono ?_; rintro e w6 ⟨⟨v6, rfl, hr6⟩, hB6⟩; have Hr6 := hZ hr6; obtain ⟨a6, l6, c6, rfl, -, -, -⟩ := hr6.form; have HB6 := hZ hB6; have HS6 := hZ (HS.o.below hB6 s5); clear HS; have s6 := HS6.o.2; have HS := hZ HS6.o.1; have T6 := (T3.o.below HB5.o (by omega)).below hB6 (by omega); have g0 := T6.cell0; have g1 := T6.cell1; have g2 := T6.frozen 0; have g3 := T6.frozen 1; have T6 := hZ T6; clear hB6 hr6))
 go_wp2
 refine bodyPost_ret (v := .agg #[.bool (decide (x - y < 0)), .slice a6 l6 c6]) (by simp [results, Try.results71, go_sem, g0, g1]) rfl ⟨⟨_, rfl, Hr6.o.set_two T6.o _ _⟩, ?_⟩; rw [Hn.o]; exact ((HBW5.o.trans (HB6.o.mono (by omega))).setCell (p := ⟨n + 1 + 1, 0, none⟩) (by show n <= n + 1 + 1; omega) _).setCell (p := ⟨n + 1 + 1, 1, none⟩) (by show n <= n + 1 + 1; omega) _
theorem qAd.whole {k : IntKind} {w : World} {a : Option Addr} {n c : Nat} {L : List Nat} (h : qAd k w (.slice a n c) L) :
 0 < L.length -> ∃ b off, a = some ⟨b, off, none⟩ /\ b < w.heap.size /\ ∀ j (h : j < L.length), w.cell? ⟨b, off + j, none⟩ = some (.int k (L[j] : Int)) := by
 obtain ⟨a', c', e, _, _, hc⟩ := h; injection e with e1 e2 e3; subst e1; exact hc
theorem qJr (L : List Nat) (k c x : Nat) (h : k < L.length) : val T4 (L.set k ((c + (x + L[k])) % T4)) + (c + (x + L[k])) / T4 * T4 ^ (k + 1) = val T4 L + (c + x) * T4 ^ k := by
 have h1 := qBc T4 L k ((c + (x + L[k])) % T4) h; have h2 := Nat.div_add_mod (c + (x + L[k])) T4; rw [Nat.pow_succ]; generalize (c + (x + L[k])) % T4 = r at *; generalize hq : (c + (x + L[k])) / T4 = q at *; generalize T4 ^ k = p at *; generalize L[k] = s at *; generalize val T4 L = v at *; generalize val T4 (L.set k r) = v' at *; generalize T4 = B at *
 grind
structure qGe (A B : List Nat) (S k : Nat) (L : List Nat) : Prop where
 len : L.length = S
 low : Low T4 L
 zero : ∀ j (h : j < L.length), k + B.length <= j -> L[j] = 0
 eq : val T4 L = val T4 (A.take k) * val T4 B
structure qEo (A B : List Nat) (S k j c : Nat) (x : Nat) (L : List Nat) : Prop where
 len : L.length = S
 low : Low T4 L
 c1 : c < T4
 zero : ∀ i (h : i < L.length), k + B.length <= i -> L[i] = 0
 eq : val T4 L + c * T4 ^ (k + j) = val T4 (A.take k) * val T4 B + x * val T4 (B.take j) * T4 ^ k
theorem qGe.start (A B : List Nat) (S : Nat) : qGe A B S 0 (List.replicate S 0) :=
 ⟨by simp, fun x hx => by rw [(List.mem_replicate.1 hx).2]; decide, fun j h _ => by simp, by rw [qBg T4 _ (fun x hx => (List.mem_replicate.1 hx).2)]; simp [val]⟩
theorem qGe.inner {A B : List Nat} {S k : Nat} {L : List Nat} (h : qGe A B S k L) (x : Nat) : qEo A B S k 0 0 x L :=
 ⟨h.len, h.low, by decide, h.zero, by rw [h.eq]; simp [val]⟩
theorem qEo.bound {A B : List Nat} {S k j c x : Nat} {L : List Nat} (h : qEo A B S k j c x L) (y : Nat) (hx : x < T4) (hy : y < T4) (i : Nat) (hi : i < L.length) : c + (x * y + L[i]) <= 99999999 := by
 have h1 : x * y <= 9999 * 9999 := Nat.mul_le_mul (Nat.le_of_lt_succ hx) (Nat.le_of_lt_succ hy); have h2 : c < 10000 := h.c1; have h3 : L[i] < 10000 := h.low _ (List.getElem_mem hi); omega
theorem qEo.next {A B : List Nat} {S k j c x : Nat} {L : List Nat} (h : qEo A B S k j c x L) (hj : j < B.length) (hkj : k + j < L.length) (hB : Low T4 B) (hx : x < T4) :
 qEo A B S k (j + 1) ((c + (x * B[j] + L[k + j])) / T4) x (L.set (k + j) ((c + (x * B[j] + L[k + j])) % T4)) := by
 have hb := h.bound B[j] hx (hB _ (List.getElem_mem hj)) (k + j) hkj; refine ⟨by rw [List.length_set]; exact h.len, qAP h.low _ _ (Nat.mod_lt _ (by decide)), ?_, fun i hi hki => ?_, ?_⟩
 ·apply (Nat.div_lt_iff_lt_mul (show 0 < T4 by decide)).2
  show _ < 10000 * 10000
  omega
 ·rw [List.getElem_set_ne (by omega)]
  exact h.zero i (by rw [List.length_set] at hi; exact hi) (by omega)
 ·have e := qJr L (k + j) c (x * B[j]) hkj
  rw [show k + (j + 1) = k + j + 1 by omega, e, qAf T4 B j hj]; have h1 := h.eq; rw [Nat.pow_add] at h1 ⊢; generalize T4 ^ k = p at *; generalize T4 ^ j = q at *; generalize val T4 (B.take j) = v at *; generalize B[j] = y at *
  grind
theorem qEo.done {A B : List Nat} {S k c : Nat} {L : List Nat} (hk : k < A.length) (h : qEo A B S k B.length c A[k] L) (hkj : k + B.length < L.length) : qGe A B S (k + 1) (L.set (k + B.length) c) := by
 refine ⟨by rw [List.length_set]; exact h.len, qAP h.low _ _ h.c1, fun i hi hki => ?_, ?_⟩
 ·rw [List.getElem_set_ne (by omega)]
  exact h.zero i (by rw [List.length_set] at hi; exact hi) (by omega)
 ·have e := qBc T4 L (k + B.length) c hkj
  rw [h.zero _ hkj (Nat.le_refl _)] at e; have h1 := h.eq; rw [List.take_of_length_le (Nat.le_refl _)] at h1; rw [qAf T4 A k hk]; generalize T4 ^ (k + B.length) = P at *; generalize T4 ^ k = p at *; generalize val T4 B = v at *; generalize A[k] = y at *
  grind
theorem qHf (vx vy : Value) (x y : Int) (w : World) (hx : qAH w vx x) (hy : qAH w vy y) (hlx : (qAe T4 x.natAbs).length <= 1048576) (hly : (qAe T4 y.natAbs).length <= 1048576) :
 Calls Try.prog 72 #[vx, vy] w (qLE (x * y) w) := by
 obtain ⟨i0, hi, hz0, hz1, hz2⟩ := info_parts qDr; have Hi := hZ hi; have Hz0 := hZ hz0; have Hz1 := hZ hz1; have Hz2 := hZ hz2; clear hi hz0 hz1 hz2; obtain ⟨xa, N, xcap, rfl, hmx, hN, hNc⟩ := hx.form; obtain ⟨ya, M, ycap, rfl, hmy, hM, hMc⟩ := hy.form; have hsm := qGx x y; have hvx := qAi T4 qAo x.natAbs; have hvy := qAi T4 qAo y.natAbs; have HlA := hZ (qAk T4 qAo x.natAbs); have HlB := hZ (qAk T4 qAo y.natAbs); have Hxc := hZ (qAd.whole hmx); have Hyc := hZ (qAd.whole hmy); generalize qAe T4 x.natAbs = A at *; generalize qAe T4 y.natAbs = B at *; rw [<- hvx, <- hvy] at hsm; have Hsm := hZ hsm; rw [<- hN] at hlx; rw [<- hM] at hly; have HN := hZ hN.symm; have HM := hZ hM.symm; clear hx hy hmx hmy hN hM hvx hvy hsm; obtain ⟨n, hn⟩ := eX w.heap.size; have Hn := hZ hn; obtain ⟨W, hW, t1, t2, t3, hBW, hsW⟩ := qCd w 61 (.bool (decide (x < 0))) (.slice xa N xcap) (.bool (decide (y < 0))) (.slice ya M ycap) (.bool false) (.slice none 0 0) n hn; generalize decide (x < 0) = sx at *; generalize decide (y < 0) = sy at *; have d0 := t1.cell0; have d1 := t1.cell1; have d2 := t2.cell0; have d3 := t2.cell1; have HBW := hZ hBW; have HTX := hZ t1; have HTY := hZ t2; have HTZ := hZ t3; clear t1 t2 t3 hBW
 go_enter Try.func72, Try.ntmps72
 go_wp2_with (at_make; refine qAv _ rfl _ _ 22 rfl 3 i0 .i64 Try.underlying22 Hi.o Hz0.o Hz1.o _ _ _ _ (N + M) rfl rfl (by omega) (by omega) (by rw [Hz2.o]; omega) (by omega) ?_)
 intro w1 hblk hB1 hz1; have Hblk1 := hZ hblk; have HB1 := hZ hB1; obtain ⟨g, hg⟩ := eX (n + 1 + 1 + 1); have Hg := hZ hg; rw [hg] at Hblk1 HB1 hz1 hsW ⊢; have hng : n + 2 < g := by omega
 clear hblk hB1 hg hW d0 d1 d2 d3; have f1 := (HTX.o.below HB1.o (by omega)).cell1
 go_wp2_with fail
 have HI0 := hZ (qGe.start A B (N + M))
 go_loopw [6] (fun i wr => ∃ (k : Nat) (L : List Nat), k <= N /\ i = .int .i64 k /\ Hid (qGe A B (N + M) k L) /\ Hid (Blk wr g 3 .i64 L) /\ Hid (Below g W wr)) (fun i _ => N - (intOf i).toNat)
 case atStart => exact ⟨0, _, by omega, rfl, HI0, Hblk1, HB1⟩
 case round =>
  clear f1; obtain ⟨k, L, hk, rfl, hI, hbl, hB⟩ := hrel; have hgw := hbl.o.lt; have e1 := (HTX.o.below hB.o (by omega)).cell1; have e3 := (HTY.o.below hB.o (by omega)).cell1; by_cases hlt : k < N
  ·have hka : k < A.length := by rw [HN.o]; exact hlt
   obtain ⟨xb, xoff, rfl, hxb, hxcc⟩ := Hxc.o (by omega); have hxg : xb < g := by omega
   have Hcx := hZ (hxcc k hka); have hxl : A[k] < 10000 := HlA.o _ (List.getElem_mem hka); have HJ0 := hZ (hI.o.inner A[k]); obtain ⟨p, hp⟩ := eX (A[k]); have Hp := hZ hp; rw [hp] at Hcx hxl HJ0; clear hp hxcc
   go_wp2_with fail
   obtain ⟨wo, rfl⟩ := eY wr
   go_loopw [7, 8] (fun cv i wr => ∃ (j c : Nat) (L : List Nat), j <= M /\ c < 10000 /\ cv = .int .i64 (c : Int) /\ i = .int .i64 j /\ Hid (qEo A B (N + M) k j c p L) /\ Hid (Blk wr g 3 .i64 L) /\ Hid (Below g W wr)) (fun _ i _ => M - (intOf i).toNat)
   case atStart => exact ⟨0, 0, L, by omega, by omega, rfl, rfl, HJ0, hbl, hB⟩
   case round =>
    clear hI hbl hB HJ0 e1 e3 hgw; obtain ⟨j, c, L2, hj, hc, rfl, rfl, hJ, hbl, hB⟩ := hrel; have hgw := hbl.o.lt; have e1 := (HTX.o.below hB.o (by omega)).cell1; have e3 := (HTY.o.below hB.o (by omega)).cell1; by_cases hjl : j < M
    ·have hjb : j < B.length := by rw [HM.o]; exact hjl
     have hkj : k + j < L2.length := by rw [hJ.o.len]; omega
     obtain ⟨yb, yoff, rfl, hyb, hycc⟩ := Hyc.o (by omega); have cx := (hB.o.cell (p := ⟨xb, xoff + k, none⟩) hxg).trans ((HBW.o.cell (p := ⟨xb, xoff + k, none⟩) (by show xb < n; omega)).trans Hcx.o); have cy := (hB.o.cell (p := ⟨yb, yoff + j, none⟩) (by show yb < g; omega)).trans ((HBW.o.cell (p := ⟨yb, yoff + j, none⟩) (by show yb < n; omega)).trans (hycc j hjb)); have hyl : B[j] < 10000 := HlB.o _ (List.getElem_mem hjb); have hbd := hJ.o.bound B[j] hxl hyl (k + j) hkj; have Hnext := hZ (hJ.o.next hjb hkj HlB.o hxl); have cg := hbl.o.cell (k + j) hkj; have fg := hbl.o.frozen (k + j); have hlo : L2[k + j] < 10000 := hJ.o.low _ (List.getElem_mem hkj); have hcn : (c + (p * B[j] + L2[k + j])) / T4 < T4 := Hnext.o.c1; clear hycc; generalize B[j] = q at *; generalize L2[k + j] = s at *; have hpq : p * q <= 9999 * 9999 := Nat.mul_le_mul (by omega) (by omega); obtain ⟨z, hz⟩ := eX (p * q); have hzI : (p : Int) * (q : Int) = (z : Int) := by rw [<- hz, Int.natCast_mul]
     rw [hz] at Hnext hcn hbd hpq; have hcn2 : (c + (z + s)) / 10000 < 10000 := hcn; obtain ⟨r, hr⟩ := eX ((c + (z + s)) % T4); obtain ⟨u, hu⟩ := eX ((c + (z + s)) / T4); rw [hr, hu] at Hnext; have hr' : (c + (z + s)) % 10000 = r := hr; have hu' : (c + (z + s)) / 10000 = u := hu; have hrI : ((s : Int) + (z : Int) + (c : Int)) % 10000 = (r : Int) := by omega
     have huI : ((s : Int) + (z : Int) + (c : Int)) / 10000 = (u : Int) := by omega
     have hrl : r < 10000 := by omega
     have hul : u < 10000 := by omega
     clear hz hr hu hr' hu' hcn hcn2 hbd
     go_wp2_with fail
     go_quiet (fail)
     go_wp2_with fail
     go_roundw
     case rel => exact ⟨j + 1, u, _, by omega, hul, by rw [huI], by go_num, Hnext, hZ ((hbl.o.drewN nq).set (k + j) _), hZ ((qBw hB.o nq).setCell (p := ⟨g, k + j, none⟩) (Nat.le_refl _) _)⟩
     case measure => simp [intOf]; omega
    ·obtain rfl : j = M := by omega
     clear hjl; have hkj : k + j < L2.length := by rw [hJ.o.len]; omega
     have cg := hbl.o.cell (k + j) hkj; have fg := hbl.o.frozen (k + j); have Hdone : Hid (qGe A B (N + j) (k + 1) (L2.set (k + j) c)) := hZ (by
      have hJ2 := hJ.o; rw [<- Hp.o, <- HM.o] at hJ2; have := qEo.done hka hJ2 (by rw [HM.o]; exact hkj); rw [HM.o] at this; exact this)
     go_wp2_with fail
     go_roundw
     case rel => exact ⟨k + 1, _, by omega, by go_num, Hdone, hZ (hbl.o.set (k + j) _), hZ (hB.o.setCell (p := ⟨g, k + j, none⟩) (Nat.le_refl _) _)⟩
     case measure => simp [intOf]; omega
  ·obtain rfl : k = N := by omega
   clear hlt; have hlen2 := hI.o.len; have hv : val T4 L = val T4 A * val T4 B := by
    have := hI.o.eq; rw [List.take_of_length_le (by rw [HN.o]; exact Nat.le_refl _)] at this; exact this
   have Hno := hZ (qAJ (sx != sy) (.slice (some ⟨g, 0, none⟩) (k + M) (k + M)) L wr (by
    have := qAd.of_blk hbl.o (cap := k + M) (by omega) (by omega); rw [hlen2] at this; exact this) hI.o.low (by omega))
   rw [hv, Hsm.o] at Hno; clear hlen2 hv; have e0 := (HTX.o.below hB.o (by omega)).cell0; have e2 := (HTY.o.below hB.o (by omega)).cell0
   go_wp2_with fail
   refine Hno.o.mono ?_; rintro e w5 ⟨⟨vr, rfl, hr⟩, hB5⟩; have Hr := hZ hr; obtain ⟨a5, n5, c5, rfl, -, -, -⟩ := hr.form; have HT5 := hZ ((HTZ.o.below hB.o (by omega)).below hB5 (by omega)); have f0 := HT5.o.cell0; have f1 := HT5.o.cell1; have f2 := HT5.o.frozen 0; have f3 := HT5.o.frozen 1; have HB5 := hZ (HBW.o.trans ((hB.o.trans (hB5.mono (by omega))).mono (by omega))); clear hr hB5 Hno e0 e1 e2 e3
   go_wp2
   refine bodyPost_ret (v := .agg #[.bool (decide (x * y < 0)), .slice a5 n5 c5]) (by simp [results, Try.results72, go_sem, f0, f1]) rfl ⟨⟨_, rfl, Hr.o.set_two HT5.o _ _⟩, ?_⟩; rw [Hn.o]; exact (HB5.o.setCell (p := ⟨n + 1 + 1, 0, none⟩) (by show n <= n + 1 + 1; omega) _).setCell (p := ⟨n + 1 + 1, 1, none⟩) (by show n <= n + 1 + 1; omega) _
open Go.RowKit
theorem qCH {P : Program} {w : World} (base : Nat) (t ty e : TypeId) (i : TypeInfo) (size : Nat) (ht : P.underlying t = some (.slice e)) (hi : P.info? e = some i)
 (v : Value) (n : Nat) (xs : List Value) (hown : w.ownsRow base e size v n xs) (c : Nat) :
 (Builtin.append_ #[t, t] ty #[v, .slice none 0 c]).run P w = .ok v w := by
 rcases hown.2 with ⟨rfl, rfl⟩ | ⟨g, cap, cur, rfl, _, _, hnc, _⟩
 ·simp [Builtin.append_, run_underlying ht, sizeOf, typeInfo, hi, Builtin.lenOf, Builtin.firstCells]
 ·simp [Builtin.append_, run_underlying ht, sizeOf, typeInfo, hi, Builtin.lenOf, Builtin.firstCells, hnc, storeCells]
theorem qDi {P : Program} {w : World} {ops : Array Oper} {rest : List Oper} {o : Oper} {a : Act} {Q : Exit -> Act -> World -> Prop} (hgd : o.guard = none) (s x : Operand) (t : TypeId)
 (ho : o.op = .call { callee := .builtin .append, args := #[s, x], argTypes := #[t, t] })
 (base : Nat) (e : TypeId) (i : TypeInfo) (z : Value) (bytes : Nat) (ht : P.underlying t = some (.slice e)) (hi : P.info? e = some i) (hz : i.zero = some z)
 (hsize : i.size = 1) (hby : i.bytes = bytes) (hzs : z.cells.size = 1)
 (v : Value) (n : Nat) (xs : List Value) (hs : a.eval s = v) (hown : w.ownsRow base e 1 v n xs)
 (k : IntKind) (ra : Option Addr) (rl rc : Nat) (L : List Nat) (hx : a.eval x = .slice ra rl rc) (hrow : qAd k w (.slice ra rl rc) L)
 (h63 : n + L.length <= maxLen) (hbytes : (n + L.length) * bytes <= 140737488355328) (hbase : base <= w.heap.size)
 (h : ∀ v' w', w'.ownsRow base e 1 v' (n + L.length) (xs ++ L.map (iv k)) -> w.grownBy w' v.ownBlock -> wpList P ops Q rest (a.put o.dst v') w') : wpList P ops Q (o :: rest) a w := by
 have hl : rl = L.length := by
  obtain ⟨_, _, hv, _⟩ := hrow; injection hv
 subst hl; cases ra with
 | none =>
  have h0 : L.length = 0 := by
   rcases Nat.eq_zero_or_pos L.length with h | h
   ·exact h
   ·obtain ⟨_, ha, _⟩ := hrow.cells h
    cases ha
  rw [h0] at hx; refine wpList_plain hgd fun K hK => ?_; have hrun := qCH (P := P) (w := w) base t o.type e i 1 ht hi v n xs hown rc; unfold Oper.wp; simp [execOp, ho, resolve, invoke, builtin, hs, hx, hrun, Result.andThen]; refine hK _ _ (h v w ?_ (World.grownBy.refl w _)); rw [h0, List.eq_nil_of_length_eq_zero h0]; simpa using hown
 | some ad =>
  refine wpList_append_own w hgd s x t ho base e i z 1 bytes ht hi hz hsize hby hzs (by decide) v n xs hs hown ad L.length rc (L.map (iv k)) hx (by simp) (fun j u hu => ?_) (fun u hu => ?_) h63 hbytes hbase (fun v' w' h1 h2 _ => h v' w' h1 h2)
  ·have h0 : 0 < L.length := by
    rcases Nat.eq_zero_or_pos L.length with h | h
    ·rw [List.eq_nil_of_length_eq_zero h] at hu; simp at hu
    ·exact h
   obtain ⟨ad', ha, hc⟩ := hrow.cells h0; injection ha with ha; subst ha; exact hc j u hu
  ·obtain ⟨y, _, rfl⟩ := List.mem_map.1 hu
   rfl
theorem qH3 (va : Value) (m k : Nat) (w : World) (ha : qBx w va m) (hk : k < 10000) (hl : (qAe T4 m).length <= 1048576) :
 Calls Try.prog 95 #[va, .int .i64 (k : Int)] w fun e w' => (∃ a l c, e = .returned (.slice a l c) /\ qBx w' (.slice a l c) (m * k)) /\ Below w.heap.size w w' := by
 obtain ⟨aa, ca, rfl, h1, h2, h3⟩ := ha; have HA : Hid (qBx w (.slice aa (qAe T4 m).length ca) m) := hZ ⟨aa, ca, rfl, h1, h2, h3⟩; obtain ⟨M, hM⟩ := eX ((qAe T4 m).length); rw [hM] at HA h1 hl ⊢; have HM := hZ hM; clear h3 hM
 go_enter Try.func95, Try.ntmps95
 go_wp2_with fail
 refine (qDZ (k : Int) w (by omega) (by omega)).mono ?_; rintro e w1 ⟨⟨vr, rfl, hr⟩, hB⟩; have Hr1 := hZ hr; obtain ⟨a1, l1, c1, rfl, -, -, -⟩ := hr.form; have HB1 := hZ hB; clear hr hB; have hk0 : decide ((k : Int) < 0) = false := decide_eq_false (by omega); rw [hk0] at Hr1 ⊢; have HN : Hid (qAH w1 (.agg #[.bool false, .slice aa M ca]) (m : Int)) := hZ ⟨_, by rw [decide_eq_false (by omega)], qAd.below HA.o (Nat.le_refl _) HB1.o⟩
 go_wp2_with fail
 refine (qHf _ _ (m : Int) (k : Int) w1 HN.o Hr1.o (by rw [Int.natAbs_natCast, HM.o]; exact hl) (Nat.le_trans (qC1 _ (by omega)) (by omega))).mono ?_; rintro e w2 ⟨⟨vr, rfl, hr⟩, hB⟩; have Hr2 := hZ hr; obtain ⟨a2, l2, c2, rfl, -, -, -⟩ := hr.form; have HB2 := hZ hB; clear hr hB; have hk1 : decide ((m : Int) * (k : Int) < 0) = false := decide_eq_false (by have : (0 : Int) <= (m : Int) * (k : Int) := Int.mul_nonneg (by omega) (by omega); omega); rw [hk1] at Hr2 ⊢; have HB3 := hZ ((HB1.o.trans (HB2.o.mono HB1.o.size)).alloc (Nat.le_trans HB1.o.size HB2.o.size) (.cells #[.bool false, .slice a2 l2 c2] 61))
 go_wp2
 refine bodyPost_ret (v := .slice a2 l2 c2) (by simp [results, Try.results95, go_sem]) rfl ⟨⟨_, _, _, rfl, ?_⟩, HB3.o⟩; obtain ⟨vd, hv, hm⟩ := Hr2.o; injection hv with hv; have hv2 : vd = .slice a2 l2 c2 := (by simpa using hv.symm : 0 <= (m : Int) * (k : Int) /\ vd = .slice a2 l2 c2).2; rw [hv2, Int.natAbs_mul, Int.natAbs_natCast, Int.natAbs_natCast] at hm; exact qAd.below hm (Nat.le_refl _) ((Below.refl _ w2).alloc (Nat.le_refl _) _)
theorem qLe (m k : Nat) (hk : k < 10000) : (qAe T4 (m * k)).length <= (qAe T4 m).length + 1 := by
 have h := qBd T4 (by decide) _ (qAk T4 qAo m); rw [qAi T4 qAo] at h; refine qAO T4 qAo _ _ ?_; rw [Nat.pow_succ]; exact Nat.mul_lt_mul'' h hk
theorem qL6 (m d : Nat) (h : m < d * T4) : (qAe T4 m).length <= (qAe T4 d).length + 1 := by
 have h1 := qBd T4 (by decide) _ (qAk T4 qAo d); rw [qAi T4 qAo] at h1; refine qAO T4 qAo _ _ ?_; rw [Nat.pow_succ]; exact Nat.lt_trans h (Nat.mul_lt_mul_of_pos_right h1 (by decide))
structure qEp (d m : Nat) (A : List Nat) (k R : Nat) (Q : List Nat) : Prop where
 len : Q.length = A.length
 low : Low T4 Q
 zero : ∀ j (h : j < Q.length), j < k -> Q[j] = 0
 rl : R < d
 eq : d * val T4 Q + R * T4 ^ k + val T4 (A.take k) = m
theorem qEp.start (d : Nat) (A : List Nat) (hd : d ≠ 0) : qEp d (val T4 A) A A.length 0 (List.replicate A.length 0) :=
 ⟨by simp, fun x hx => by rw [(List.mem_replicate.1 hx).2]; decide, fun j h _ => by simp, by omega, by rw [qBg T4 _ (fun x hx => (List.mem_replicate.1 hx).2), List.take_length]; simp⟩
theorem qEp.next {d m : Nat} {A : List Nat} {k R : Nat} {Q : List Nat} (h : qEp d m A (k + 1) R Q) (hk : k < A.length) (hq : k < Q.length) (hA : Low T4 A) :
 A[k] + T4 * R < d * T4 /\ qEp d m A k ((A[k] + T4 * R) % d) (Q.set k ((A[k] + T4 * R) / d)) := by
 have ha : A[k] < T4 := hA _ (List.getElem_mem hk); have hrl := h.rl; have h1 : A[k] + T4 * R < d * T4 := by
  have h2 : T4 * (R + 1) <= T4 * d := Nat.mul_le_mul_left _ hrl; rw [Nat.mul_add, Nat.mul_one] at h2; rw [Nat.mul_comm d]; omega
 have hd : 0 < d := by omega
 refine ⟨h1, by rw [List.length_set]; exact h.len, qAP h.low _ _ (Nat.div_lt_of_lt_mul h1), fun j hj hjk => ?_, Nat.mod_lt _ hd, ?_⟩
 ·rw [List.getElem_set_ne (by omega)]
  exact h.zero j (by rw [List.length_set] at hj; exact hj) (by omega)
 ·have e1 := qBc T4 Q k ((A[k] + T4 * R) / d) hq
  rw [h.zero k hq (by omega), Nat.zero_mul, Nat.add_zero] at e1; have e2 := h.eq; rw [qAf T4 A k hk, Nat.pow_succ] at e2; have e3 := Nat.div_add_mod (A[k] + T4 * R) d; rw [e1]; generalize (A[k] + T4 * R) / d = q at *; generalize (A[k] + T4 * R) % d = r at *; generalize T4 ^ k = X at *; generalize val T4 Q = v at *; generalize val T4 (A.take k) = u at *; generalize A[k] = a at *; generalize T4 = B at *; clear h h1 ha e1
  grind
theorem qEp.done {d m : Nat} {A : List Nat} {R : Nat} {Q : List Nat} (h : qEp d m A 0 R Q) : val T4 Q = m / d /\ R = m % d := by
 have h1 := h.eq; have h2 := h.rl; simp only [Nat.pow_zero, Nat.mul_one, List.take_zero, val, Nat.add_zero] at h1; have hp : 0 < d := by omega
 have hq : m / d = val T4 Q /\ m % d = R := (Nat.div_mod_unique hp).2 ⟨by omega, h2⟩; exact ⟨hq.1.symm, hq.2.symm⟩
theorem qFB (va vb : Value) (m d : Nat) (w : World) (ha : qBx w va m) (hb : qBx w vb d) (hd : d ≠ 0) (hl : (qAe T4 m).length <= 500000) (hl2 : (qAe T4 d).length <= 500000) :
 Calls Try.prog 68 #[va, vb] w fun e w' => (∃ vq vr L, e = .returned (.tuple #[vq, vr]) /\ qAd .i64 w' vq L /\ Low T4 L /\ L.length = (qAe T4 m).length /\ val T4 L = m / d /\ qBx w' vr (m % d)) /\ Below w.heap.size w w' := by
 obtain ⟨i0, hi, hz0, hz1, hz2⟩ := info_parts qDr; have Hi := hZ hi; have Hz0 := hZ hz0; have Hz1 := hZ hz1; have Hz2 := hZ hz2; clear hi hz0 hz1 hz2; obtain ⟨aa, ca, rfl, h1, h2, h3⟩ := ha; have HA : Hid (qBx w (.slice aa (qAe T4 m).length ca) m) := hZ ⟨aa, ca, rfl, h1, h2, h3⟩; obtain ⟨ab, cb, rfl, h4, h5, h6⟩ := hb; have HB : Hid (qBx w (.slice ab (qAe T4 d).length cb) d) := hZ ⟨ab, cb, rfl, h4, h5, h6⟩; clear h3 h6; obtain ⟨M, hM⟩ := eX ((qAe T4 m).length); obtain ⟨N, hN⟩ := eX ((qAe T4 d).length); rw [hM] at HA h1 hl ⊢; rw [hN] at HB h4 hl2 ⊢; have HM := hZ hM; have HN := hZ hN; clear hM hN
 go_enter Try.func68, Try.ntmps68
 go_wp2_with (at_make; refine qAv _ rfl _ _ 22 rfl 3 i0 .i64 Try.underlying22 Hi.o Hz0.o Hz1.o _ _ _ _ M rfl rfl rfl rfl (by rw [Hz2.o]; omega) (by omega) ?_)
 intro w1 hblk1 hB1 hz1; obtain ⟨g, hg⟩ := eX w.heap.size; have Hg := hZ hg; rw [hg] at hblk1 hB1 hz1 ⊢; have Hblk1 := hZ hblk1; have HB1 := hZ hB1; clear hg hblk1 hB1; have HI0 : Hid (qEp d m (qAe T4 m) M 0 (List.replicate M 0)) := hZ (by have := qEp.start d (qAe T4 m) hd; rw [qAi T4 qAo, HM.o] at this; exact this)
 go_wp2_with fail
 go_loopg [7, 8] M (fun k rv iv' wr => ∃ (R : Nat) (ra : Option Addr) (rl rc : Nat) (Q : List Nat), k <= M /\ rv = .slice ra rl rc /\ iv' = .int .i64 ((k : Int) - 1) /\ Hid (qEp d m (qAe T4 m) k R Q) /\ Hid (qBx wr (.slice ra rl rc) R) /\ Hid (Blk wr g 3 .i64 Q) /\ Hid (Below g w wr))
 case atStart => exact ⟨0, none, 0, 0, _, Nat.le_refl _, rfl, rfl, HI0, hZ (qAd.nil _ _ (by omega)), Hblk1, HB1⟩
 case round =>
  obtain ⟨R, ra, rl, rc, Q, hk, rfl, rfl, hI, hR, hbQ, hB⟩ := hrel; clear HI0 Hblk1 HB1; cases gk with
  | zero =>
   have e1 : ((0 : Nat) : Int) - 1 = -1 := by omega
   rw [e1]; have hdn := hI.o.done; have hQl : Q.length = M := by rw [hI.o.len]; exact HM.o
   have Hrow := hZ (qAd.of_blk hbQ.o (cap := M) (by omega) (by omega)); rw [hQl] at Hrow; have Hres := hZ (And.intro hI.o.low (And.intro hQl hdn.1)); have HR2 := hZ hdn.2; clear hdn hQl
   go_wp2
   refine bodyPost_ret (v := .tuple #[.slice (some ⟨g, 0, none⟩) M M, .slice ra rl rc]) (by simp [results, Try.results68, go_sem]) rfl ⟨⟨_, _, Q, rfl, Hrow.o, Hres.o.1, Hres.o.2.1, Hres.o.2.2, ?_⟩, ?_⟩
   ·rw [<- HR2.o]; exact hR.o
   ·rw [Hg.o]; exact hB.o
  | succ k =>
   have e1 : ((k + 1 : Nat) : Int) - 1 = (k : Int) := by omega
   rw [e1]; have hkA : k < (qAe T4 m).length := by rw [HM.o]; omega
   have hkQ : k < Q.length := by rw [hI.o.len]; exact hkA
   obtain ⟨b, off, rfl, hbl, hcc⟩ := qAd.whole HA.o (by omega); have ca := (hB.o.cell (p := ⟨b, off + k, none⟩) (by rw [<- Hg.o]; exact hbl)).trans (hcc k hkA); have hak : (qAe T4 m)[k] < 10000 := qAk T4 qAo m _ (List.getElem_mem hkA); have hnx := hI.o.next hkA hkQ (qAk T4 qAo m); have Hlt := hZ hnx.1; have HI2 := hZ hnx.2; generalize (qAe T4 m)[k] = ak at *; obtain ⟨_, _, hv, hrl, hrc, -⟩ := id hR.o; injection hv with e2 e3 e4; subst e2 e3 e4; have HRl := hZ (show (qAe T4 R).length <= N by rw [<- HN.o]; exact qAL T4 qAo _ _ (Nat.le_of_lt hI.o.rl)); have hs1 := hB.o.size; rw [Hg.o] at hs1; have Hown1 : Hid ((wr.alloc (.cells #[.int .i64 (ak : Int)] 3)).ownsRow wr.heap.size 3 1 (.slice (some ⟨wr.heap.size, 0, none⟩) 1 1) 1 [iv .i64 ak]) := hZ (World.ownsRow_lit wr #[.int .i64 (ak : Int)] 1 (Nat.le_refl _) (by unfold maxLen; omega) rfl); have HR1 := hZ (qAd.below hR.o (Nat.le_refl _) ((Below.refl _ wr).alloc (Nat.le_refl _) (.cells #[.int .i64 (ak : Int)] 3))); have HRl2 : Hid (∀ L, L = qAe T4 R -> L.length <= N) := hZ (fun L e => by rw [e]; exact HRl.o); clear hcc hnx hkA; generalize (qAe T4 R).length = rl at *
   go_wp2_with (at_builtin; go_loud (refine qDi rfl _ _ 22 rfl wr.heap.size 3 i0 _ 8 Try.underlying22 Hi.o Hz0.o Hz1.o Hz2.o rfl _ 1 _ rfl Hown1.o .i64 ra rl rc (qAe T4 R) rfl HR1.o (by have := HRl2.o _ rfl; unfold maxLen; omega) (by have := HRl2.o _ rfl; omega) (by simp) ?_))
   intro v2 w2 hown2 hgrow2; obtain ⟨g2, c2, hv2, _⟩ := hown2.form (by omega); subst hv2; have HB2 := hZ (((Below.refl wr.heap.size wr).alloc (Nat.le_refl _) (.cells #[.int .i64 (ak : Int)] 3)).grown hgrow2 (by simp) (fun j e => by
    have e' : wr.heap.size = j := by simpa [Value.ownBlock] using e
    omega))
   have Hrow2 := hZ (qAd.of_owns (k := .i64) (L := ak :: qAe T4 R) (by simpa [iv] using hown2) (by simp; omega)); clear hown2 hgrow2 Hown1 HR1; have Hnorm := hZ (qAJ false _ (ak :: qAe T4 R) w2 Hrow2.o (fun y hy => by
    rcases List.mem_cons.1 hy with rfl | hy
    ·exact hak
    ·exact qAk T4 qAo R y hy) (by have := HRl2.o _ rfl; simp; omega))
   have hvl : val T4 (ak :: qAe T4 R) = ak + T4 * R := by show ak + T4 * val T4 (qAe T4 R) = _; rw [qAi T4 qAo]
   rw [hvl] at Hnorm; clear hvl Hrow2; obtain ⟨V, hV⟩ := eX (ak + T4 * R); rw [hV] at Hnorm Hlt HI2; clear hV; have hs2 := HB2.o.size
   go_wp2_with fail
   refine (Hnorm.o).mono ?_; rintro e w3 ⟨⟨vr, rfl, hr⟩, hB⟩; have Hr3 := hZ hr; obtain ⟨a3, l3, c3, rfl, -, -, -⟩ := hr.form; have HB3 := hZ hB; clear hr hB; have hV0 : decide (sgn false V < 0) = false := decide_eq_false (by show ¬ ((V : Int) < 0); omega); rw [hV0] at Hr3 ⊢; have HV3 : Hid (qBx w3 (.slice a3 l3 c3) V) := hZ (by
    obtain ⟨vd, hv, hm⟩ := Hr3.o; injection hv with hv; have hv2 : vd = .slice a3 l3 c3 := by
     have := congrArg (fun a => a[1]?) hv; simpa using this.symm
    rw [hv2, qAG] at hm; exact hm)
   obtain ⟨w4, hw4⟩ := eX (w3.alloc (.cells #[.bool false, .slice a3 l3 c3] 61)); have HB34 : Hid (Below w3.heap.size w3 w4) := hZ (by rw [<- hw4]; exact (Below.refl _ w3).alloc (Nat.le_refl _) _); have HV4 := hZ (qAd.below HV3.o (Nat.le_refl _) HB34.o); have HB4 := hZ ((HB2.o.trans (HB3.o.mono hs2)).trans (HB34.o.mono (Nat.le_trans hs2 HB3.o.size))); have HbQ4 : Hid (Blk w4 g 3 .i64 Q) := hZ (hbQ.o.below HB4.o hbQ.o.lt); have HBg4 := hZ (hB.o.trans (HB4.o.mono hs1)); have ct : w4.cell? ⟨w3.heap.size, 1, none⟩ = some (.slice a3 l3 c3) := by rw [<- hw4]; exact (Two.new w3 _ _ _).cell1
   clear hV0 Hr3 HV3 HB34 HB3 HB2 Hnorm
   go_wp2_with fail
   clear hw4 ct; have hdp : 0 < d := by omega
   have hql : V / d < 10000 := Nat.div_lt_of_lt_mul Hlt.o; have Hql := hZ hql; have Hd0 := hZ hdp; have Hsm := hZ (fun (w' : World) q (hq : q < 10000) (hb : Below g w w') => qH3 (.slice ab N cb) d q w' (qAd.below HB.o (Nat.le_of_eq Hg.o) hb) hq (by rw [HN.o]; omega)); have HVl := hZ (qL6 V d Hlt.o); have hs4 := HBg4.o.size; rw [Hg.o] at hs4; clear hql
   go_loopg [10, 11] 9999 (fun j lv hv wy => ∃ (lo hi : Nat), lv = .int .i64 (lo : Int) /\ hv = .int .i64 (hi : Int) /\ lo + j = hi /\ hi <= 9999 /\ Hid (lo <= V / d /\ V / d <= hi) /\ Hid (Below w4.heap.size w4 wy))
   case atStart => exact ⟨0, 9999, rfl, rfl, by omega, by omega, hZ ⟨Nat.zero_le _, by have := Hql.o; exact Nat.le_of_lt_succ this⟩, hZ (Below.refl _ _)⟩
   case round =>
    obtain ⟨lo, hi, rfl, rfl, hlh, hhi, hin, hBy⟩ := hrel; obtain ⟨wy, hwy⟩ : ∃ wy, wy = wr := ⟨_, rfl⟩; subst hwy; have HBgy := hZ (HBg4.o.trans (hBy.o.mono hs4)); have HVy := hZ (qAd.below HV4.o (Nat.le_refl _) hBy.o); cases gk with
    | zero =>
     have hlt : ¬ ((lo : Int) < (hi : Int)) := by omega
     have hqe : lo = V / d := by have h9 := hin.o; obtain ⟨ha, hb⟩ := h9; exact Nat.le_antisymm ha (Nat.le_trans hb (by omega))
     have hdl : d * lo <= V := by rw [hqe]; exact Nat.mul_div_le V d
     have hre : V - d * lo = V % d := by rw [hqe]; have := Nat.div_add_mod V d; omega
     have Hdl := hZ hdl; have Hre := hZ hre; rw [<- hqe] at HI2; clear hqe hdl hre
     go_wp2_with fail
     refine (Hsm.o wy lo (by omega) HBgy.o).mono ?_; rintro e w5 ⟨⟨a5, l5, c5, rfl, hm5⟩, hB5⟩; have Hm5 := hZ hm5; have HB5 := hZ hB5; have HV5 := hZ (qAd.below HVy.o (Nat.le_refl _) hB5); clear hm5 hB5
     go_wp2_with fail
     refine (qEz _ _ V (d * lo) w5 HV5.o Hm5.o Hdl.o (by have := HVl.o; rw [HN.o] at this; omega)).mono ?_; rintro e w6 ⟨⟨v6, L6, rfl, hr6, lo6, hv6, hl6, hf6⟩, hB6⟩; rw [Hre.o] at hv6; have HB6 := hZ (HB5.o.trans (hB6.mono HB5.o.size)); have Hnorm := hZ (qFG false v6 L6 w6 hr6 lo6 (by have := HVl.o; rw [HN.o] at this; omega)); have Hv6 := hZ hv6; clear hv6; obtain ⟨a6, c6, hv6, -⟩ := id hr6; subst hv6; have Hf6 := hZ (fun (ad : Addr) (e : a6 = some ad) => hf6 ad L6.length c6 (by rw [e])); clear hr6 lo6 hB6 hl6 hf6; obtain ⟨l6, hl6⟩ := eX L6.length; rw [hl6] at Hnorm ⊢; clear hl6; obtain ⟨R2, hR2⟩ := eX (V % d); rw [hR2] at Hv6 HI2
     go_wp2_with fail
     refine (Hnorm.o).mono ?_; rintro e w7 ⟨⟨a7, c7, b7, l7, hv7, rfl, hr7⟩, hB7⟩; injection hv7 with e7 _ e8; subst e7 e8; rw [Hv6.o] at hr7; have Hr7 := hZ hr7; have HB7 := hZ hB7; obtain ⟨vd7, hvd7, -⟩ := hr7; injection hvd7 with hvd7; have hb7 : b7 = false := by
      have := congrArg (fun a => a[0]?) hvd7; have h9 : decide (sgn false R2 < 0) = false := decide_eq_false (by show ¬ ((R2 : Int) < 0); omega); simpa [h9] using this
     subst hb7; clear hvd7 hB7; have HV7 : Hid (qBx w7 (.slice a6 l7 c6) R2) := hZ (by
      obtain ⟨vd, hv, hm⟩ := Hr7.o; injection hv with hv; have hv2 : vd = .slice a6 l7 c6 := by
       have := congrArg (fun a => a[1]?) hv; simpa using this.symm
      rw [hv2, qAG] at hm; exact hm)
     obtain ⟨w8, hw8⟩ := eX (w7.alloc (.cells #[.bool false, .slice a6 l7 c6] 61)); have HB78 : Hid (Below w7.heap.size w7 w8) := hZ (by rw [<- hw8]; exact (Below.refl _ w7).alloc (Nat.le_refl _) _); have HV8 := hZ (qAd.below HV7.o (Nat.le_refl _) HB78.o); have HB8 := hZ ((HB6.o.trans (HB7.o.mono HB6.o.size)).trans (HB78.o.mono (Nat.le_trans HB6.o.size HB7.o.size))); have HbQ8 : Hid (Blk w8 g 3 .i64 Q) := hZ ((HbQ4.o.below hBy.o HbQ4.o.lt).below HB8.o (HbQ4.o.below hBy.o HbQ4.o.lt).lt); have HBg8 := hZ (HBgy.o.trans (HB8.o.mono (by have := HBgy.o.size; rw [Hg.o] at this; exact this))); have ct : w8.cell? ⟨w7.heap.size, 1, none⟩ = some (.slice a6 l7 c6) := by rw [<- hw8]; exact (Two.new w7 _ _ _).cell1
     have hg7 : g < w7.heap.size := by
      have h1 := (HbQ4.o.below hBy.o HbQ4.o.lt).lt; have h2 := HB6.o.size; have h3 := HB7.o.size; omega
     have cq := HbQ8.o.cell k hkQ; have fq := HbQ8.o.frozen k; have ct2 : (w8.setCell ⟨g, k, none⟩ (.int .i64 (lo : Int))).cell? ⟨w7.heap.size, 1, none⟩ = some (.slice a6 l7 c6) := by
      rw [<- ct]; exact World.cell?_of_block (Below.heap_setCell w8 ⟨g, k, none⟩ _ w7.heap.size (by show w7.heap.size ≠ g; omega))
     clear Hr7 HV7 HB78 HB7 Hnorm ct
     go_wp2_with fail
     go_roundg k
     case measure => omega
     case rel =>
      refine ⟨R2, a6, l7, c6, Q.set k lo, by omega, rfl, by first | rfl | go_num, HI2, hZ ?_, hZ (HbQ8.o.set k lo), hZ (HBg8.o.setCell (p := ⟨g, k, none⟩) (Nat.le_refl _) _)⟩; have hO : qAb (fun j => j = g) w8 (w8.setCell ⟨g, k, none⟩ (.int .i64 (lo : Int))) := (qAb.refl (fun j => j = g) w8).set (p := ⟨g, k, none⟩) rfl _; refine hO.row HV8.o (fun b' off' cap' e => ?_); injection e with e1; have h1 := Hf6.o _ e1; have h2 := HB5.o.size; have h3 := (HbQ4.o.below hBy.o HbQ4.o.lt).lt
      show ¬ b' = g
      have h4 : w5.heap.size <= b' := h1; omega
    | succ j =>
     obtain ⟨mid, hmid⟩ := eX ((lo + hi + 1) / 2); have hm1 : lo < mid := by omega
     have hm2 : mid <= hi := by omega
     have hmI : ((lo : Int) + (hi : Int) + 1) / 2 = (mid : Int) := by omega
     have hlt : (lo : Int) < (hi : Int) := by omega
     clear hmid
     go_wp2_with fail
     refine (Hsm.o wy mid (by omega) HBgy.o).mono ?_; rintro e w5 ⟨⟨a5, l5, c5, rfl, hm5⟩, hB5⟩; have Hm5 := hZ hm5; have HB5 := hZ hB5; have HV5 := hZ (qAd.below HVy.o (Nat.le_refl _) hB5); clear hm5 hB5
     go_wp2_with fail
     refine (qB3 _ _ (d * mid) V w5 Hm5.o HV5.o (by have := qLe d mid (by omega); rw [HN.o] at this; omega) (by have := HVl.o; rw [HN.o] at this; omega)).mono ?_; rintro e w6 ⟨rfl, k6, rfl⟩; have HB6 := hZ (show Below w4.heap.size w4 (w5.drewN k6) from ⟨(hBy.o.trans (HB5.o.mono hBy.o.size)).os, (hBy.o.trans (HB5.o.mono hBy.o.size)).tape, (hBy.o.trans (HB5.o.mono hBy.o.size)).output, (hBy.o.trans (HB5.o.mono hBy.o.size)).size, (hBy.o.trans (HB5.o.mono hBy.o.size)).block⟩); by_cases hc : d * mid <= V
     ·have hc3 : qAK ((d * mid : Nat) : Int) (V : Int) <= 0 := by
       unfold qAK
       split
       ·omega
       ·rw [if_neg (by omega)]; omega
      have Hin : Hid (mid <= V / d /\ V / d <= hi) := hZ ⟨(Nat.le_div_iff_mul_le Hd0.o).2 (by rw [Nat.mul_comm]; exact hc), hin.o.2⟩; generalize qAK ((d * mid : Nat) : Int) (V : Int) = C at *; clear hc
      go_wp2_with fail
      go_roundg (hi - mid)
      case measure => omega
      case rel => exact ⟨mid, hi, rfl, rfl, by omega, hhi, Hin, HB6⟩
     ·have hc3 : ¬ (qAK ((d * mid : Nat) : Int) (V : Int) <= 0) := by
       unfold qAK; rw [if_neg (by omega), if_pos (by omega)]; omega
      have Hin : Hid (lo <= V / d /\ V / d <= mid - 1) := hZ ⟨hin.o.1, Nat.le_sub_one_of_lt ((Nat.div_lt_iff_lt_mul Hd0.o).2 (by rw [Nat.mul_comm]; omega))⟩; generalize qAK ((d * mid : Nat) : Int) (V : Int) = C at *; have hmm : (mid : Int) - 1 = ((mid - 1 : Nat) : Int) := by omega
      clear hc
      go_wp2_with fail
      go_roundg (mid - 1 - lo)
      case measure => omega
      case rel => exact ⟨lo, mid - 1, rfl, by first | rfl | go_num, by omega, by omega, Hin, HB6⟩
open Go.RowKit
theorem Two.far2 {w : World} {b g : Nat} {t : TypeId} {x y : Value} (h : Two w b t x y) (hne : b ≠ g) (u u' : Value) : Two ((w.setCell ⟨g, 0, none⟩ u).setCell ⟨g, 1, none⟩ u') b t x y :=
 (Below.heap_setCell _ ⟨g, 1, none⟩ u' b hne).trans ((Below.heap_setCell w ⟨g, 0, none⟩ u b hne).trans h)
theorem Two.put2 {w : World} {b : Nat} {t : TypeId} {x y : Value} (h : Two w b t x y) (u u' : Value) : Two ((w.setCell ⟨b, 0, none⟩ u).setCell ⟨b, 1, none⟩ u') b t u u' := by
 unfold Two at h ⊢; simp [World.setCell, Array.getElem?_modify, h]
def qGf (w : World) (b : Nat) (z : Int) : Prop := ∃ a l c, Two w b 61 (.bool (decide (z < 0))) (.slice a l c) /\ qAH w (.agg #[.bool (decide (z < 0)), .slice a l c]) z
theorem qGf.below {w w' : World} {b : Nat} {z : Int} (h : qGf w b z) (hb : Below w.heap.size w w') : qGf w' b z := by
 obtain ⟨a, l, c, h1, h2⟩ := h; exact ⟨a, l, c, h1.below hb h1.lt, h2.below (Nat.le_refl _) hb⟩
theorem qGf.lt {w : World} {b : Nat} {z : Int} (h : qGf w b z) : b < w.heap.size := by
 obtain ⟨a, l, c, h1, h2⟩ := h; exact h1.lt
theorem qGf.far {w : World} {b g : Nat} {z y : Int} (h : qGf w b z) (hg : qGf w g y) (hne : b ≠ g) (u u' : Value) : qGf ((w.setCell ⟨g, 0, none⟩ u).setCell ⟨g, 1, none⟩ u') b z := by
 obtain ⟨a, l, c, h1, h2⟩ := h; obtain ⟨a', l', c', h1', h2'⟩ := hg; exact ⟨a, l, c, h1.far2 hne u u', h2.set_two h1' u u'⟩
theorem qGf.put {w : World} {b : Nat} {z y : Int} {a : Option Addr} {l c : Nat} (h : qGf w b y) (hr : qAH w (.agg #[.bool (decide (z < 0)), .slice a l c]) z) : qGf ((w.setCell ⟨b, 0, none⟩ (.bool (decide (z < 0)))).setCell ⟨b, 1, none⟩ (.slice a l c)) b z := by
 obtain ⟨a', l', c', h1, h2⟩ := h; exact ⟨a, l, c, h1.put2 _ _, hr.set_two h1 _ _⟩
theorem qGf.new {w : World} {z : Int} {a : Option Addr} {l c : Nat} (hr : qAH w (.agg #[.bool (decide (z < 0)), .slice a l c]) z) : qGf (w.alloc (.cells #[.bool (decide (z < 0)), .slice a l c] 61)) w.heap.size z :=
 ⟨a, l, c, Two.new w _ _ _, hr.below (Nat.le_refl _) ((Below.refl _ w).alloc (Nat.le_refl _) _)⟩
theorem qGf.alloc {w : World} {b : Nat} {z : Int} (h : qGf w b z) (o : Obj) : qGf (w.alloc o) b z := h.below ((Below.refl _ w).alloc (Nat.le_refl _) _)
open Go.RowKit
def qLF (x y : Int) (w : World) (e : Ending) (w' : World) : Prop :=
 Below w.heap.size w w' /\ ∃ vq vr, e = .returned (.tuple #[vq, vr]) /\ qAH w' vq (qOf x y) /\ qAH w' vr (rOf x y)
theorem qAH.dig {w : World} {b : Bool} {a : Option Addr} {l c : Nat} {z : Int} (h : qAH w (.agg #[.bool b, .slice a l c]) z) : qBx w (.slice a l c) z.natAbs := by
 obtain ⟨vd, hv, hm⟩ := h; injection hv with hv; have hv2 : vd = .slice a l c := by
  have := congrArg (fun a => a[1]?) hv; simpa using this.symm
 rw [hv2] at hm; exact hm
theorem qJM (vx vy : Value) (x y : Int) (w : World) (hx : qAH w vx x) (hy : qAH w vy y) (hy0 : y ≠ 0) (hlx : (qAe T4 x.natAbs).length <= 500000) (hly : (qAe T4 y.natAbs).length <= 500000) :
 Calls Try.prog 47 #[vx, vy] w (qLF x y w) := by
 obtain ⟨ax, nx, cx, rfl, hmx, hnx, hcx⟩ := hx.form; obtain ⟨ay, ny, cy, rfl, hmy, hny, hcy⟩ := hy.form; obtain ⟨n, hn⟩ := eX w.heap.size; have Hn := hZ hn; obtain ⟨W, hW, t1, t2, t3, t4, hBW, hsW⟩ := qKB w 61 (.bool (decide (x < 0))) (.slice ax nx cx) (.bool (decide (y < 0))) (.slice ay ny cy) (.bool false) (.slice none 0 0) (.bool false) (.slice none 0 0) n hn; have Hd := hZ (qFB (.slice ax nx cx) (.slice ay ny cy) x.natAbs y.natAbs W (qAd.below hmx (Nat.le_of_eq hn) hBW) (qAd.below hmy (Nat.le_of_eq hn) hBW) (by omega) hlx hly); have HY := hZ hmy; have HBW := hZ hBW; have T1 := hZ t1; have T2 := hZ t2; have T3 := hZ t3; have T4' := hZ t4; have d1 := t1.cell1; have d3 := t2.cell1; obtain ⟨sx, hsx⟩ := eX (decide (x < 0)); obtain ⟨sy, hsy⟩ := eX (decide (y < 0)); rw [hsx] at hW T1 ⊢; rw [hsy] at hW T2 ⊢; have Hsx := hZ hsx; have Hsy := hZ hsy; clear hmx hmy t1 t2 t3 t4 hBW hnx hny hsx hsy hx hy
 go_enter Try.func47, Try.ntmps47
 go_wp2_with fail
 clear hW d1 d3; refine Hd.o.mono ?_; rintro e w1 ⟨⟨vq, vr, L1, rfl, hrq, loq, hlq, hvq, hr1⟩, hB1⟩; obtain ⟨aq, cq, hvq1, -⟩ := id hrq; subst hvq1; obtain ⟨ar, cr, hvr1, hcr1, hcr2, -⟩ := id hr1; subst hvr1; have HB1 := hZ (HBW.o.trans (hB1.mono (by omega))); have z1 := hB1.size; rw [hsW] at z1; have T11 := hZ (T1.o.below hB1 (by omega)); have T12 := hZ (T2.o.below hB1 (by omega)); have T13 := hZ (T3.o.below hB1 (by omega)); have T14 := hZ (T4'.o.below hB1 (by omega)); have e0 := T11.o.cell0; have e2 := T12.o.cell0; have HNq := hZ (qAJ (sx != sy) _ L1 w1 hrq loq (by omega)); rw [hvq] at HNq; have HR1 := hZ hr1; clear hrq loq hvq hr1 hB1 Hd T1 T2 T3 T4' hcr1; rw [hlq]; rw [hlq] at HNq; clear hlq; obtain ⟨q, hq⟩ := eX (x.natAbs / y.natAbs); obtain ⟨r, hr⟩ := eX (x.natAbs % y.natAbs); have Hq := hZ hq; have Hr := hZ hr; rw [hq] at HNq; rw [hr] at HR1 ⊢; have Hry : Hid (r < y.natAbs) := hZ (by rw [<- hr]; exact Nat.mod_lt _ (by omega)); have Hql : Hid ((qAe T4 q).length <= 500000) := hZ (Nat.le_trans (qAL T4 qAo _ _ (by rw [<- hq]; exact Nat.div_le_self _ _)) hlx); have Hrl : Hid ((qAe T4 r).length <= 500000) := hZ (Nat.le_trans (qAL T4 qAo _ _ (Nat.le_of_lt Hry.o)) hly); obtain ⟨lq, hlq⟩ := eX ((qAe T4 x.natAbs).length); rw [hlq] at HNq ⊢; clear hq hr hlq; have HNr0 : Hid (∀ w' : World, Below w1.heap.size w1 w' -> Calls Try.prog 59 #[.bool false, .slice ar (qAe T4 r).length cr] w' fun e w'' => (∃ vr, e = .returned vr /\ qAH w'' vr (r : Int)) /\ Below w'.heap.size w' w'') := hZ (fun w' hb => by
  have := qAJ false _ (qAe T4 r) w' (qAd.below HR1.o (Nat.le_refl _) hb) (qAk T4 qAo r) (by have := Hrl.o; omega); rw [qAi T4 qAo] at this; exact this)
 obtain ⟨lr, hlr⟩ := eX ((qAe T4 r).length); rw [hlr] at HNr0 ⊢; clear hlr; obtain ⟨s, hs⟩ := eX ((sx != sy)); have hs2 : (!(sx == sy)) = s := hs; have Hs := hZ hs; rw [hs] at HNq; clear hs
 go_wp2_with fail
 refine (HNq.o).mono ?_; rintro e w2 ⟨⟨vr, rfl, hr⟩, hB⟩; have Hr2 := hZ hr; obtain ⟨a2, l2, c2, rfl, -, -, -⟩ := hr.form; have HB2 := hZ hB; clear hr hB; generalize hsq : decide (sgn s q < 0) = sq at *; have Hsq := hZ hsq; clear hsq; obtain ⟨bx, hbx⟩ := eX w2.heap.size; obtain ⟨w3, hw3⟩ := eX (w2.alloc (.cells #[.bool sq, .slice a2 l2 c2] 61)); have hs3 : w3.heap.size = bx + 1 := by rw [<- hw3, World.size_alloc, hbx]
 have HB23 : Hid (Below w2.heap.size w2 w3) := hZ (by rw [<- hw3]; exact (Below.refl _ w2).alloc (Nat.le_refl _) _); have hX3 := Two.new w2 61 (.bool sq) (.slice a2 l2 c2); rw [hw3, hbx] at hX3; have HX3 := hZ hX3; have HR3 := hZ (Hr2.o.below (Nat.le_refl _) HB23.o); have HB13 := hZ (HB2.o.trans (HB23.o.mono HB2.o.size)); have hz2 : w1.heap.size <= bx := by rw [<- hbx]; exact HB2.o.size
 have HNr := hZ (HNr0.o w3 HB13.o); clear HNr0 hX3 HB23 Hr2 HB2 HNq e0 e2
 go_wp2_with fail
 clear hw3; refine HNr.o.mono ?_; rintro e w4 ⟨⟨vr, rfl, hr⟩, hB⟩; have Hr4 := hZ hr; obtain ⟨a4, l4, c4, rfl, -, hl4, hc4⟩ := hr.form; have HB4 := hZ hB; clear hr hB; have hr0 : decide ((r : Int) < 0) = false := decide_eq_false (by omega); rw [hr0] at Hr4 ⊢; obtain ⟨by_, hby⟩ := eX w4.heap.size; obtain ⟨w5, hw5⟩ := eX (w4.alloc (.cells #[.bool false, .slice a4 l4 c4] 61)); have hs5 : w5.heap.size = by_ + 1 := by rw [<- hw5, World.size_alloc, hby]
 have HB45 : Hid (Below w4.heap.size w4 w5) := hZ (by rw [<- hw5]; exact (Below.refl _ w4).alloc (Nat.le_refl _) _); have hY5 := Two.new w4 61 (.bool false) (.slice a4 l4 c4); rw [hw5, hby] at hY5; have HY5 := hZ hY5; have HRY5 := hZ (Hr4.o.below (Nat.le_refl _) HB45.o); have HB35 := hZ (HB4.o.trans (HB45.o.mono HB4.o.size)); have HX5 := hZ (HX3.o.below HB35.o HX3.o.lt); have HRX5 := hZ (HR3.o.below (Nat.le_refl _) HB35.o); have HB15 := hZ (HB13.o.trans (HB35.o.mono HB13.o.size)); have T51 := hZ (T11.o.below HB15.o (by omega)); have T52 := hZ (T12.o.below HB15.o (by omega)); have T53 := hZ (T13.o.below HB15.o (by omega)); have T54 := hZ (T14.o.below HB15.o (by omega)); have HBn5 := hZ (HB1.o.trans (HB15.o.mono (by omega))); have hz4 : bx < by_ := by rw [<- hby]; have := HB4.o.size; omega
 have g1 := hY5.cell1; have g2 := T51.o.cell0; have g3 := T52.o.cell0; have g4 := T52.o.cell1; have Hr0 : Hid (l4 = 0 ↔ r = 0) := hZ (by
  rw [hl4, Int.natAbs_natCast, List.length_eq_zero_iff, qBB T4 _ qAo])
 clear hr0 Hr4 HB4 HB45 hY5 HB35 HX3 HR3 HB13 HB15 T11 T12 T13 T14 HNr hl4; by_cases hcase : sx = true /\ 0 < l4
 ·obtain ⟨rfl, hl0⟩ := hcase
  have Hqr : Hid (qOf x y = sgn s (q + 1) /\ rOf x y = y.natAbs - r) := hZ (by
   have h9 := qGA (x := x) (y := y) ⟨by simpa using Hsx.o, fun h => by rw [Hr.o] at h; have := Hr0.o.2 h; omega⟩; rw [Hsx.o, Hsy.o, Hs.o, Hq.o, Hr.o] at h9; exact h9)
  have hs4 : (!sy) = s := by rw [<- hs2]; cases sy <;> rfl
  obtain ⟨w6, hw6⟩ := eX (w5.alloc (.cells #[.int .i64 1] 3)); have HB56 : Hid (Below w5.heap.size w5 w6) := hZ (by rw [<- hw6]; exact (Below.refl _ w5).alloc (Nat.le_refl _) _); have hs6 : w6.heap.size = by_ + 1 + 1 := by rw [<- hw6, World.size_alloc, hs5]
  have hblk6 : Blk w6 (by_ + 1) 3 .i64 [1] := by rw [<- hw6, <- hs5]; exact heap_alloc_new w5 _
  have HN6 := hZ (qAJ s (.slice (some ⟨by_ + 1, 0, none⟩) 1 1) [1] w6 (qAd.of_blk hblk6 (by simp) (by simp)) (fun z hz => by rw [List.mem_singleton.1 hz]; decide) (by simp)); rw [show val T4 [1] = 1 by simp [val]] at HN6; clear hblk6 hs2
  go_wp2_with fail
  clear hw6 hw5; refine (HN6.o).mono ?_; rintro e w7 ⟨⟨vr, rfl, hr⟩, hB⟩; have Hr7 := hZ hr; obtain ⟨a7, l7, c7, rfl, -, -, -⟩ := hr.form; have HB7 := hZ hB; clear hr hB; generalize hs1q : decide (sgn s 1 < 0) = s1 at *; have HB57 := hZ (HB56.o.trans (HB7.o.mono HB56.o.size)); obtain ⟨bo, hbo⟩ := eX w7.heap.size; obtain ⟨w8, hw8⟩ := eX (w7.alloc (.cells #[.bool s1, .slice a7 l7 c7] 61)); have hs8 : w8.heap.size = bo + 1 := by rw [<- hw8, World.size_alloc, hbo]
  have HB78 : Hid (Below w7.heap.size w7 w8) := hZ (by rw [<- hw8]; exact (Below.refl _ w7).alloc (Nat.le_refl _) _); have hO8 := Two.new w7 61 (.bool s1) (.slice a7 l7 c7); rw [hw8, hbo] at hO8; have HO8 := hZ hO8; have HRO8 := hZ (Hr7.o.below (Nat.le_refl _) HB78.o); have HB58 := hZ (HB57.o.trans (HB78.o.mono HB57.o.size)); have HX8 := hZ (HX5.o.below HB58.o HX5.o.lt); have HRX8 := hZ (HRX5.o.below (Nat.le_refl _) HB58.o); have HY8 := hZ (HY5.o.below HB58.o HY5.o.lt); have HRY8 := hZ (HRY5.o.below (Nat.le_refl _) HB58.o); have T82 := hZ (T52.o.below HB58.o T52.o.lt); have T83 := hZ (T53.o.below HB58.o T53.o.lt); have T84 := hZ (T54.o.below HB58.o T54.o.lt); have HBn8 := hZ (HBn5.o.trans (HB58.o.mono (by omega))); have hz7 : by_ + 1 < bo := by rw [<- hbo]; have := HB7.o.size; omega
  have k1 := HX8.o.cell0; have k2 := HX8.o.cell1; have k3 := HO8.o.cell0; have k4 := HO8.o.cell1; have Hadd := hZ (fun (w' : World) (hb : Below w8.heap.size w8 w') => qHg _ _ (sgn s q) (sgn s 1) w' (HRX8.o.below (Nat.le_refl _) hb) (HRO8.o.below (Nat.le_refl _) hb) (by rw [qAG]; exact Nat.le_trans Hql.o (by omega)) (by rw [qAG]; exact Nat.le_trans (qC1 _ (by omega)) (by omega))); have hadd : sgn s q + sgn s 1 = sgn s (q + 1) := by unfold sgn; cases s <;> simp <;> omega
  rw [hadd] at Hadd; clear hadd hO8 HB56 HB57 HB78 HN6 Hr7 HB7 g1 g2 g3 g4 HX5 HRX5 HY5 HRY5 T51 T52 T53 T54 HBn5 HB58 hs1q
  go_wp2_with fail
  clear hw8; refine (Hadd.o w8 (Below.refl _ _)).mono ?_; rintro e w9 ⟨⟨vr, rfl, hr⟩, hB⟩; have Hr9 := hZ hr; obtain ⟨a9, l9, c9, rfl, -, -, -⟩ := hr.form; have HB9 := hZ hB; clear hr hB; generalize hs9 : decide (sgn s (q + 1) < 0) = s9 at *; have Hs9 := hZ hs9; clear hs9; have HX9 := hZ (HX8.o.below HB9.o HX8.o.lt); have HY9 := hZ (HY8.o.below HB9.o HY8.o.lt); have HRY9 := hZ (HRY8.o.below (Nat.le_refl _) HB9.o); have T92 := hZ (T82.o.below HB9.o T82.o.lt); have T93 := hZ (T83.o.below HB9.o T83.o.lt); have T94 := hZ (T84.o.below HB9.o T84.o.lt); have HBn9 := hZ (HBn8.o.trans (HB9.o.mono (by omega))); have f1 := HX9.o.cell0; have f2 := HX9.o.cell1; have f3 := HX9.o.frozen 0; have f4 := HX9.o.frozen 1; obtain ⟨w10, hw10⟩ := eX ((w9.setCell ⟨bx, 0, none⟩ (.bool s9)).setCell ⟨bx, 1, none⟩ (.slice a9 l9 c9)); have hz9 : bo < w9.heap.size := Nat.lt_of_lt_of_le (by omega) HB9.o.size; have hs10 : w9.heap.size = w10.heap.size := by rw [<- hw10]; simp [World.setCell]
  have HX10 : Hid (Two w10 bx 61 (.bool s9) (.slice a9 l9 c9)) := hZ (by rw [<- hw10]; exact HX9.o.put2 _ _); have HRX10 : Hid (qAH w10 (.agg #[.bool s9, .slice a9 l9 c9]) (sgn s (q + 1))) := hZ (by rw [<- hw10]; exact Hr9.o.set_two HX9.o _ _); have HY10 : Hid (Two w10 by_ 61 (.bool false) (.slice a4 l4 c4)) := hZ (by rw [<- hw10]; exact HY9.o.far2 (by omega) _ _); have HRY10 : Hid (qAH w10 (.agg #[.bool false, .slice a4 l4 c4]) (r : Int)) := hZ (by rw [<- hw10]; exact HRY9.o.set_two HX9.o _ _); have T102 : Hid (Two w10 (n + 1) 61 (.bool sy) (.slice ay ny cy)) := hZ (by rw [<- hw10]; exact T92.o.far2 (by omega) _ _); have T103 : Hid (Two w10 (n + 1 + 1) 61 (.bool false) (.slice none 0 0)) := hZ (by rw [<- hw10]; exact T93.o.far2 (by omega) _ _); have T104 : Hid (Two w10 (n + 1 + 1 + 1) 61 (.bool false) (.slice none 0 0)) := hZ (by rw [<- hw10]; exact T94.o.far2 (by omega) _ _); have HBn10 : Hid (Below n w w10) := hZ (by rw [<- hw10]; exact (HBn9.o.setCell (p := ⟨bx, 0, none⟩) (by show n <= bx; omega) _).setCell (p := ⟨bx, 1, none⟩) (by show n <= bx; omega) _); have m1 := T102.o.cell1; have m2 := HY10.o.cell1; have Hmin := hZ (qEA (.slice ay ny cy) (.slice a4 l4 c4) y.natAbs r w10 (qAd.below HY.o (Nat.le_of_eq Hn.o) HBn10.o) (by have := HRY10.o.dig; rw [Int.natAbs_natCast] at this; exact this) (Nat.le_of_lt Hry.o) (by omega)); clear Hadd k1 k2 k3 k4 HX8 HRX8 HY8 HRY8 T82 T83 T84 HBn8 HB9 Hr9 HO8 HRO8
  go_wp2_with fail
  clear hw10 f1 f2 f3 f4 m1 m2; refine Hmin.o.mono ?_; rintro e w11 ⟨⟨v11, L11, rfl, hr11, lo11, hv11, hl11⟩, hB11⟩; have HN11 := hZ (qAJ false v11 L11 w11 hr11 lo11 (by omega)); rw [hv11] at HN11; obtain ⟨a11, c11, hv11', -⟩ := id hr11; subst hv11'; have HB11 := hZ hB11; clear hr11 lo11 hv11 hl11 hB11 Hmin; obtain ⟨l11, hl11⟩ := eX L11.length; rw [hl11] at HN11 ⊢; clear hl11; obtain ⟨R, hR⟩ := eX (y.natAbs - r); rw [hR] at HN11 Hqr; clear hR
  go_wp2_with fail
  refine (HN11.o).mono ?_; rintro e w12 ⟨⟨vr, rfl, hr⟩, hB⟩; have Hr12 := hZ hr; obtain ⟨a12, l12, c12, rfl, -, -, -⟩ := hr.form; have HB12 := hZ hB; clear hr hB; have hR0 : decide (sgn false R < 0) = false := decide_eq_false (by show ¬ ((R : Int) < 0); omega); rw [hR0] at Hr12 ⊢; have HB1012 := hZ (HB11.o.trans (HB12.o.mono HB11.o.size)); have HX12 := hZ (HX10.o.below HB1012.o HX10.o.lt); have HRX12 := hZ (HRX10.o.below (Nat.le_refl _) HB1012.o); have HY12 := hZ (HY10.o.below HB1012.o HY10.o.lt); have T123 := hZ (T103.o.below HB1012.o T103.o.lt); have T124 := hZ (T104.o.below HB1012.o T104.o.lt); have HBn12 := hZ (HBn10.o.trans (HB1012.o.mono (by omega))); have f1 := HY12.o.cell0; have f2 := HY12.o.cell1; have f3 := HY12.o.frozen 0; have f4 := HY12.o.frozen 1; obtain ⟨w13, hw13⟩ := eX ((w12.setCell ⟨by_, 0, none⟩ (.bool false)).setCell ⟨by_, 1, none⟩ (.slice a12 l12 c12)); have HX13 : Hid (Two w13 bx 61 (.bool s9) (.slice a9 l9 c9)) := hZ (by rw [<- hw13]; exact HX12.o.far2 (by omega) _ _); have HRX13 : Hid (qAH w13 (.agg #[.bool s9, .slice a9 l9 c9]) (sgn s (q + 1))) := hZ (by rw [<- hw13]; exact HRX12.o.set_two HY12.o _ _); have HY13 : Hid (Two w13 by_ 61 (.bool false) (.slice a12 l12 c12)) := hZ (by rw [<- hw13]; exact HY12.o.put2 _ _); have HRY13 : Hid (qAH w13 (.agg #[.bool false, .slice a12 l12 c12]) (R : Int)) := hZ (by rw [<- hw13]; exact Hr12.o.set_two HY12.o _ _); have T133 : Hid (Two w13 (n + 1 + 1) 61 (.bool false) (.slice none 0 0)) := hZ (by rw [<- hw13]; exact T123.o.far2 (by omega) _ _); have T134 : Hid (Two w13 (n + 1 + 1 + 1) 61 (.bool false) (.slice none 0 0)) := hZ (by rw [<- hw13]; exact T124.o.far2 (by omega) _ _); have HBn13 : Hid (Below n w w13) := hZ (by rw [<- hw13]; exact (HBn12.o.setCell (p := ⟨by_, 0, none⟩) (by show n <= by_; omega) _).setCell (p := ⟨by_, 1, none⟩) (by show n <= by_; omega) _); clear hR0 HX12 HRX12 HY12 T123 T124 HBn12 HX10 HRX10 HY10 HRY10 T102 T103 T104 HBn10 HB11 HB12 HB1012 HN11 Hr12 HX9 HY9 HRY9 T92 T93 T94 HBn9; have p1 := HX13.o.cell0; have p2 := HX13.o.cell1; have p3 := HY13.o.cell0; have p4 := HY13.o.cell1; have p5 := T133.o.cell0; have p6 := T133.o.cell1; have p7 := T134.o.cell0; have p8 := T134.o.cell1; have p9 := T133.o.frozen 0; have p10 := T133.o.frozen 1; have p11 := T134.o.frozen 0; have p12 := T134.o.frozen 1
  go_wp2_with fail
  (clear hw13 f1 f2 f3 f4)
  refine qDA 3 (fun w' => w'.cell? ⟨bx, 0, none⟩ = some (.bool s9) /\ w'.cell? ⟨bx, 1, none⟩ = some (.slice a9 l9 c9) /\ w'.cell? ⟨by_, 0, none⟩ = some (.bool false) /\ w'.cell? ⟨by_, 1, none⟩ = some (.slice a12 l12 c12)) (by kernel_rfl) (⟨p1, p2, p3, p4⟩) (fun hHeld => ?_); refine kU 0 52 ?_; refine kU 1 53 ?_; clear p1 p2 p3 p4; refine qCk 2 (by kernel_rfl) rfl (fun K hK => ?_); go_simp; obtain ⟨wz, hwz⟩ := eX (((w13.setCell ⟨n + 1 + 1, 0, none⟩ (.bool s9)).setCell ⟨n + 1 + 1, 1, none⟩ (.slice a9 l9 c9)).drew); have U4 : Hid (Two wz (n + 1 + 1 + 1) 61 (.bool false) (.slice none 0 0)) := hZ (by rw [<- hwz]; exact T134.o.far2 (g := n + 1 + 1) (by omega) (.bool s9) (.slice a9 l9 c9)); have U5 : Hid (Two wz (n + 1 + 1) 61 (.bool s9) (.slice a9 l9 c9)) := hZ (by rw [<- hwz]; exact T133.o.put2 (.bool s9) (.slice a9 l9 c9)); have UX : Hid (Two wz bx 61 (.bool s9) (.slice a9 l9 c9)) := hZ (by rw [<- hwz]; exact HX13.o.far2 (g := n + 1 + 1) (by omega) (.bool s9) (.slice a9 l9 c9)); have UY : Hid (Two wz by_ 61 (.bool false) (.slice a12 l12 c12)) := hZ (by rw [<- hwz]; exact HY13.o.far2 (g := n + 1 + 1) (by omega) (.bool s9) (.slice a9 l9 c9)); have V1 : Hid (qAH wz (.agg #[.bool s9, .slice a9 l9 c9]) (qOf x y)) := hZ (by rw [<- hwz, Hqr.o.1]; exact HRX13.o.set_two T133.o (.bool s9) (.slice a9 l9 c9)); have V2 : Hid (qAH wz (.agg #[.bool false, .slice a12 l12 c12]) (rOf x y)) := hZ (by rw [<- hwz, Hqr.o.2]; exact HRY13.o.set_two T133.o (.bool s9) (.slice a9 l9 c9)); have VB : Hid (Below n w wz) := hZ (by rw [<- hwz]; exact ((HBn13.o.setCell (p := ⟨n + 1 + 1, 0, none⟩) (by show n <= n + 1 + 1; omega) (.bool s9)).setCell (p := ⟨n + 1 + 1, 1, none⟩) (by show n <= n + 1 + 1; omega) (.slice a9 l9 c9)).drew); have q7 := U4.o.cell0; have q8 := U4.o.cell1; have q11 := U4.o.frozen 0; have q12 := U4.o.frozen 1
  try rw [hwz]
  go_wp2_with fail
  refine hK.out _ _ (⟨UX.o.cell0, UX.o.cell1, UY.o.cell0, UY.o.cell1⟩) (fun hHeld => ?_); clear hK K
  try simp only [Act.put, List.setIfInBounds_toArray, List.set_cons_zero, List.set_cons_succ]
  clear hwz p5 p6 p7 p8 p9 p10 p11 p12; refine qI2 (by kernel_rfl) rfl (by kernel_rfl) (fun K hK => ?_); go_simp; refine hK.out _ _ ?_; clear hK K
  try simp only [Act.put, List.setIfInBounds_toArray, List.set_cons_zero, List.set_cons_succ]
  clear hHeld; have r5 := (U5.o.far2 (g := n + 1 + 1 + 1) (by omega) (.bool false) (.slice a12 l12 c12)).cell0; have r6 := (U5.o.far2 (g := n + 1 + 1 + 1) (by omega) (.bool false) (.slice a12 l12 c12)).cell1; have r7 := (U4.o.put2 (.bool false) (.slice a12 l12 c12)).cell0; have r8 := (U4.o.put2 (.bool false) (.slice a12 l12 c12)).cell1
  go_wp2
  refine bodyPost_ret (v := .tuple #[.agg #[.bool s9, .slice a9 l9 c9], .agg #[.bool false, .slice a12 l12 c12]]) (by simp [results, Try.results47, go_sem, r5, r6, r7, r8]) rfl ⟨?_, _, _, rfl, ?_, ?_⟩
  ·rw [Hn.o]
   exact (VB.o.setCell (p := ⟨n + 1 + 1 + 1, 0, none⟩) (by show n <= n + 1 + 1 + 1; omega) _).setCell (p := ⟨n + 1 + 1 + 1, 1, none⟩) (by show n <= n + 1 + 1 + 1; omega) _
  ·exact V1.o.set_two U4.o _ _
  ·exact V2.o.set_two U4.o _ _
 ·have Hqr : Hid (qOf x y = sgn s q /\ rOf x y = r) := hZ (by
   have h9 := qEX (x := x) (y := y) (fun h => hcase ⟨by have := Hsx.o; rw [decide_eq_true h.1] at this; exact this.symm, by
    rcases Nat.eq_zero_or_pos l4 with h0 | h0
    ·exact absurd (by rw [Hr.o]; exact Hr0.o.1 h0) h.2
    ·exact h0⟩)
   rw [Hsx.o, Hsy.o, Hs.o, Hq.o, Hr.o] at h9; exact h9)
  cases sx with
  | false =>
   have p1 := HX5.o.cell0; have p2 := HX5.o.cell1; have p3 := HY5.o.cell0; have p4 := HY5.o.cell1; have p5 := T53.o.cell0; have p6 := T53.o.cell1; have p7 := T54.o.cell0; have p8 := T54.o.cell1; have p9 := T53.o.frozen 0; have p10 := T53.o.frozen 1; have p11 := T54.o.frozen 0; have p12 := T54.o.frozen 1
   go_wp2_with fail
   (clear hw5 g1 g2 g3 g4)
   refine qDA 3 (fun w' => w'.cell? ⟨bx, 0, none⟩ = some (.bool sq) /\ w'.cell? ⟨bx, 1, none⟩ = some (.slice a2 l2 c2) /\ w'.cell? ⟨by_, 0, none⟩ = some (.bool false) /\ w'.cell? ⟨by_, 1, none⟩ = some (.slice a4 l4 c4)) (by kernel_rfl) (⟨p1, p2, p3, p4⟩) (fun hHeld => ?_); refine kU 0 52 ?_; refine kU 1 53 ?_; clear p1 p2 p3 p4; refine qCk 2 (by kernel_rfl) rfl (fun K hK => ?_); go_simp; obtain ⟨wz, hwz⟩ := eX (((w5.setCell ⟨n + 1 + 1, 0, none⟩ (.bool sq)).setCell ⟨n + 1 + 1, 1, none⟩ (.slice a2 l2 c2)).drew); have U4 : Hid (Two wz (n + 1 + 1 + 1) 61 (.bool false) (.slice none 0 0)) := hZ (by rw [<- hwz]; exact T54.o.far2 (g := n + 1 + 1) (by omega) (.bool sq) (.slice a2 l2 c2)); have U5 : Hid (Two wz (n + 1 + 1) 61 (.bool sq) (.slice a2 l2 c2)) := hZ (by rw [<- hwz]; exact T53.o.put2 (.bool sq) (.slice a2 l2 c2)); have UX : Hid (Two wz bx 61 (.bool sq) (.slice a2 l2 c2)) := hZ (by rw [<- hwz]; exact HX5.o.far2 (g := n + 1 + 1) (by omega) (.bool sq) (.slice a2 l2 c2)); have UY : Hid (Two wz by_ 61 (.bool false) (.slice a4 l4 c4)) := hZ (by rw [<- hwz]; exact HY5.o.far2 (g := n + 1 + 1) (by omega) (.bool sq) (.slice a2 l2 c2)); have V1 : Hid (qAH wz (.agg #[.bool sq, .slice a2 l2 c2]) (qOf x y)) := hZ (by rw [<- hwz, Hqr.o.1]; exact HRX5.o.set_two T53.o (.bool sq) (.slice a2 l2 c2)); have V2 : Hid (qAH wz (.agg #[.bool false, .slice a4 l4 c4]) (rOf x y)) := hZ (by rw [<- hwz, Hqr.o.2]; exact HRY5.o.set_two T53.o (.bool sq) (.slice a2 l2 c2)); have VB : Hid (Below n w wz) := hZ (by rw [<- hwz]; exact ((HBn5.o.setCell (p := ⟨n + 1 + 1, 0, none⟩) (by show n <= n + 1 + 1; omega) (.bool sq)).setCell (p := ⟨n + 1 + 1, 1, none⟩) (by show n <= n + 1 + 1; omega) (.slice a2 l2 c2)).drew); have q7 := U4.o.cell0; have q8 := U4.o.cell1; have q11 := U4.o.frozen 0; have q12 := U4.o.frozen 1
   try rw [hwz]
   go_wp2_with fail
   refine hK.out _ _ (⟨UX.o.cell0, UX.o.cell1, UY.o.cell0, UY.o.cell1⟩) (fun hHeld => ?_); clear hK K
   try simp only [Act.put, List.setIfInBounds_toArray, List.set_cons_zero, List.set_cons_succ]
   clear hwz p5 p6 p7 p8 p9 p10 p11 p12; refine qI2 (by kernel_rfl) rfl (by kernel_rfl) (fun K hK => ?_); go_simp; refine hK.out _ _ ?_; clear hK K
   try simp only [Act.put, List.setIfInBounds_toArray, List.set_cons_zero, List.set_cons_succ]
   clear hHeld; have r5 := (U5.o.far2 (g := n + 1 + 1 + 1) (by omega) (.bool false) (.slice a4 l4 c4)).cell0; have r6 := (U5.o.far2 (g := n + 1 + 1 + 1) (by omega) (.bool false) (.slice a4 l4 c4)).cell1; have r7 := (U4.o.put2 (.bool false) (.slice a4 l4 c4)).cell0; have r8 := (U4.o.put2 (.bool false) (.slice a4 l4 c4)).cell1
   go_wp2
   refine bodyPost_ret (v := .tuple #[.agg #[.bool sq, .slice a2 l2 c2], .agg #[.bool false, .slice a4 l4 c4]]) (by simp [results, Try.results47, go_sem, r5, r6, r7, r8]) rfl ⟨?_, _, _, rfl, ?_, ?_⟩
   ·rw [Hn.o]
    exact (VB.o.setCell (p := ⟨n + 1 + 1 + 1, 0, none⟩) (by show n <= n + 1 + 1 + 1; omega) _).setCell (p := ⟨n + 1 + 1 + 1, 1, none⟩) (by show n <= n + 1 + 1 + 1; omega) _
   ·exact V1.o.set_two U4.o _ _
   ·exact V2.o.set_two U4.o _ _
  | true =>
   have hl0 : l4 = 0 := by
    rcases Nat.eq_zero_or_pos l4 with h | h
    ·exact h
    ·exact absurd ⟨rfl, h⟩ hcase
   subst hl0; have p1 := HX5.o.cell0; have p2 := HX5.o.cell1; have p3 := HY5.o.cell0; have p4 := HY5.o.cell1; have p5 := T53.o.cell0; have p6 := T53.o.cell1; have p7 := T54.o.cell0; have p8 := T54.o.cell1; have p9 := T53.o.frozen 0; have p10 := T53.o.frozen 1; have p11 := T54.o.frozen 0; have p12 := T54.o.frozen 1
   go_wp2_with fail
   (clear hw5 g1 g2 g3 g4)
   refine qDA 3 (fun w' => w'.cell? ⟨bx, 0, none⟩ = some (.bool sq) /\ w'.cell? ⟨bx, 1, none⟩ = some (.slice a2 l2 c2) /\ w'.cell? ⟨by_, 0, none⟩ = some (.bool false) /\ w'.cell? ⟨by_, 1, none⟩ = some (.slice a4 0 c4)) (by kernel_rfl) (⟨p1, p2, p3, p4⟩) (fun hHeld => ?_); refine kU 0 52 ?_; refine kU 1 53 ?_; clear p1 p2 p3 p4; refine qCk 2 (by kernel_rfl) rfl (fun K hK => ?_); go_simp; obtain ⟨wz, hwz⟩ := eX (((w5.setCell ⟨n + 1 + 1, 0, none⟩ (.bool sq)).setCell ⟨n + 1 + 1, 1, none⟩ (.slice a2 l2 c2)).drew); have U4 : Hid (Two wz (n + 1 + 1 + 1) 61 (.bool false) (.slice none 0 0)) := hZ (by rw [<- hwz]; exact T54.o.far2 (g := n + 1 + 1) (by omega) (.bool sq) (.slice a2 l2 c2)); have U5 : Hid (Two wz (n + 1 + 1) 61 (.bool sq) (.slice a2 l2 c2)) := hZ (by rw [<- hwz]; exact T53.o.put2 (.bool sq) (.slice a2 l2 c2)); have UX : Hid (Two wz bx 61 (.bool sq) (.slice a2 l2 c2)) := hZ (by rw [<- hwz]; exact HX5.o.far2 (g := n + 1 + 1) (by omega) (.bool sq) (.slice a2 l2 c2)); have UY : Hid (Two wz by_ 61 (.bool false) (.slice a4 0 c4)) := hZ (by rw [<- hwz]; exact HY5.o.far2 (g := n + 1 + 1) (by omega) (.bool sq) (.slice a2 l2 c2)); have V1 : Hid (qAH wz (.agg #[.bool sq, .slice a2 l2 c2]) (qOf x y)) := hZ (by rw [<- hwz, Hqr.o.1]; exact HRX5.o.set_two T53.o (.bool sq) (.slice a2 l2 c2)); have V2 : Hid (qAH wz (.agg #[.bool false, .slice a4 0 c4]) (rOf x y)) := hZ (by rw [<- hwz, Hqr.o.2]; exact HRY5.o.set_two T53.o (.bool sq) (.slice a2 l2 c2)); have VB : Hid (Below n w wz) := hZ (by rw [<- hwz]; exact ((HBn5.o.setCell (p := ⟨n + 1 + 1, 0, none⟩) (by show n <= n + 1 + 1; omega) (.bool sq)).setCell (p := ⟨n + 1 + 1, 1, none⟩) (by show n <= n + 1 + 1; omega) (.slice a2 l2 c2)).drew); have q7 := U4.o.cell0; have q8 := U4.o.cell1; have q11 := U4.o.frozen 0; have q12 := U4.o.frozen 1
   try rw [hwz]
   go_wp2_with fail
   refine hK.out _ _ (⟨UX.o.cell0, UX.o.cell1, UY.o.cell0, UY.o.cell1⟩) (fun hHeld => ?_); clear hK K
   try simp only [Act.put, List.setIfInBounds_toArray, List.set_cons_zero, List.set_cons_succ]
   clear hwz p5 p6 p7 p8 p9 p10 p11 p12; refine qI2 (by kernel_rfl) rfl (by kernel_rfl) (fun K hK => ?_); go_simp; refine hK.out _ _ ?_; clear hK K
   try simp only [Act.put, List.setIfInBounds_toArray, List.set_cons_zero, List.set_cons_succ]
   clear hHeld; have r5 := (U5.o.far2 (g := n + 1 + 1 + 1) (by omega) (.bool false) (.slice a4 0 c4)).cell0; have r6 := (U5.o.far2 (g := n + 1 + 1 + 1) (by omega) (.bool false) (.slice a4 0 c4)).cell1; have r7 := (U4.o.put2 (.bool false) (.slice a4 0 c4)).cell0; have r8 := (U4.o.put2 (.bool false) (.slice a4 0 c4)).cell1
   go_wp2
   refine bodyPost_ret (v := .tuple #[.agg #[.bool sq, .slice a2 l2 c2], .agg #[.bool false, .slice a4 0 c4]]) (by simp [results, Try.results47, go_sem, r5, r6, r7, r8]) rfl ⟨?_, _, _, rfl, ?_, ?_⟩
   ·rw [Hn.o]
    exact (VB.o.setCell (p := ⟨n + 1 + 1 + 1, 0, none⟩) (by show n <= n + 1 + 1 + 1; omega) _).setCell (p := ⟨n + 1 + 1 + 1, 1, none⟩) (by show n <= n + 1 + 1 + 1; omega) _
   ·exact V1.o.set_two U4.o _ _
   ·exact V2.o.set_two U4.o _ _
open Go.RowKit
theorem qAH.form2 {w : World} {v : Value} {z : Int} (h : qAH w v z) : ∃ s a n c, v = .agg #[.bool s, .slice a n c] := by
 obtain ⟨a, n, c, rfl, _⟩ := h.form; exact ⟨_, _, _, _, rfl⟩
theorem qF8 (x y : Int) : decide (0 < qAK x y) = decide (y < x) := by
 unfold qAK; by_cases h1 : x < y
 ·rw [if_pos h1, decide_eq_false (show ¬ y < x by omega)]; rfl
 ·rw [if_neg h1]
  by_cases h2 : y < x
  ·rw [if_pos h2, decide_eq_true h2]; rfl
  ·rw [if_neg h2, decide_eq_false h2]; rfl
theorem qF9 (x y : Int) : decide (qAK x y < 0) = decide (x < y) := by
 unfold qAK; by_cases h1 : x < y
 ·rw [if_pos h1, decide_eq_true h1]; rfl
 ·rw [if_neg h1, decide_eq_false h1]
  by_cases h2 : y < x
  ·rw [if_pos h2]; rfl
  ·rw [if_neg h2]; rfl
open Go.RowKit
theorem qER (A : List Nat) (k : Nat) (h : 0 < k) (hk : k - 1 < A.length) : val T4 (A.drop (k - 1)) = A[k - 1] + 10000 * val T4 (A.drop k) := by
 rw [List.drop_eq_getElem_cons hk, val, show k - 1 + 1 = k by omega]
theorem qGs (A : List Nat) (k : Nat) : val T4 (A.drop k) <= val T4 A := by
 have h : val T4 A = val T4 (A.take k) + T4 ^ (A.take k).length * val T4 (A.drop k) := by
  conv => lhs; rw [<- List.take_append_drop k A, qAN]
 have h2 : 1 * val T4 (A.drop k) <= T4 ^ (A.take k).length * val T4 (A.drop k) := Nat.mul_le_mul_right _ (Nat.pos_of_ne_zero (by simp)); omega
theorem qLV (z : Int) : sgn (decide (z < 0)) z.natAbs = z := by
 unfold sgn; by_cases h : z < 0
 ·simp [h]; omega
 ·simp [h]; omega
theorem qH5 (v : Value) (z : Int) (w : World) (h : qAH w v z) (hl : (qAe T4 z.natAbs).length <= 1048576) :
 Calls Try.prog 55 #[v] w fun e w' => e = .returned (qA7 z) /\ Below w.heap.size w w' := by
 obtain ⟨a, n, c, rfl, hd, hn, hc⟩ := h.form; have HR := hZ h; have HD := hZ (qAd.whole hd); have HN := hZ hn.symm; have HLz := hZ hl; rw [<- hn] at hl; clear h hd hn; obtain ⟨s, hs⟩ := eX (decide (z < 0)); rw [hs] at HR ⊢; have Hs := hZ hs; clear hs; have HB0 := hZ ((Below.refl w.heap.size w).alloc (Nat.le_refl _) (.cells #[.bool s, .slice a n c] 61)); have HT0 := hZ (Two.new w 61 (.bool s) (.slice a n c)); obtain ⟨w0, hw0⟩ := eX (w.alloc (.cells #[.bool s, .slice a n c] 61)); obtain ⟨b, hb⟩ := eX w.heap.size; have Hb := hZ hb; rw [hw0] at HB0 HT0; rw [hb] at HB0 HT0; have d0 := HT0.o.cell0; have d1 := HT0.o.cell1; have HBd : Hid (Below b w w0.drew) := hZ ⟨HB0.o.os, HB0.o.tape, HB0.o.output, HB0.o.size, HB0.o.block⟩; have HBz : Hid (b <= w0.drew.heap.size) := hZ (Nat.le_trans (Nat.le_of_eq Hb.o.symm) HB0.o.size); have HTd : Hid (Two w0.drew b 61 (.bool s) (.slice a n c)) := hZ HT0.o; obtain ⟨m1, hm1⟩ := eX (qAK z 9223372036854775807); obtain ⟨m2, hm2⟩ := eX (qAK z (-9223372036854775808)); have p1 := qF8 z 9223372036854775807; have p2 := qF9 z (-9223372036854775808); rw [hm1] at p1; rw [hm2] at p2; have Hm1 := hZ hm1; have Hm2 := hZ hm2; clear hm1 hm2; by_cases hbig : 9223372036854775807 < z
 ·rw [decide_eq_true hbig] at p1
  have Hsv : Hid (qA7 z = .tuple #[.int .i64 0, .bool false]) := hZ (by unfold qA7; rw [if_neg (by omega)]); clear p2 hbig
  go_enter Try.func55, Try.ntmps55
  go_wp2_with fail
  clear hw0; refine qDA 99 (fun w' => w'.cell? ⟨b, 0, none⟩ = some (.bool s) /\ w'.cell? ⟨b, 1, none⟩ = some (.slice a n c)) (by kernel_rfl) (⟨d0, d1⟩) (fun hHeld => ?_); refine kU 0 6 ?_; refine qCk 1 (by kernel_rfl) rfl (fun K hK => ?_); go_simp; clear d0 d1; refine (qDZ 9223372036854775807 w0.drew (by omega) (by omega)).mono ?_; rintro e w5 ⟨⟨vr, rfl, hr⟩, hB⟩; have Hr5 := hZ hr; obtain ⟨a5, n5, c5, rfl, -, -, -⟩ := hr.form; have hB5 := hZ hB; clear hr hB; generalize decide ((9223372036854775807 : Int) < 0) = s5 at *; have HT5 := hZ (HTd.o.below hB5.o HTd.o.lt); have HB5 := hZ (HBd.o.trans (hB5.o.mono HBz.o))
  go_wp2_with fail
  refine hK.out _ _ (⟨HT5.o.cell0, HT5.o.cell1⟩) (fun hHeld => ?_); clear hK K
  try simp only [Act.put, List.setIfInBounds_toArray, List.set_cons_zero, List.set_cons_succ]
  refine qCk 2 (by kernel_rfl) rfl (fun K hK => ?_); go_simp; refine (qBe _ _ z 9223372036854775807 w5 (HR.o.below (Nat.le_of_eq Hb.o) HB5.o) Hr5.o HLz.o (Nat.le_trans (qC1 _ (by omega)) (by omega))).mono ?_; rintro e w6 ⟨rfl, hB6⟩; rw [Hm1.o]; have HT6 := hZ (HT5.o.below hB6 HT5.o.lt); have HB6 := hZ (HB5.o.trans (hB6.mono (Nat.le_trans (Nat.le_of_eq Hb.o.symm) HB5.o.size))); clear hB6
  go_wp2_with fail
  refine hK.out _ _ (⟨HT6.o.cell0, HT6.o.cell1⟩) (fun hHeld => ?_); clear hK K
  try simp only [Act.put, List.setIfInBounds_toArray, List.set_cons_zero, List.set_cons_succ]
  refine kU 3 9 ?_; refine kU 4 10 ?_; refine jU 5 11 ?_; refine jU 6 12 ?_; refine jU 7 13 ?_; refine jU 8 14 ?_; refine kU 9 15 ?_; refine qLs (by kernel_rfl) ?_ _; clear hHeld
  go_wp2
  go_ret2
  rw [Hsv.o, Hb.o]; exact ⟨rfl, HB6.o⟩
 ·rw [decide_eq_false hbig] at p1
  by_cases hsm : z < -9223372036854775808
  ·rw [decide_eq_true hsm] at p2
   have Hsv : Hid (qA7 z = .tuple #[.int .i64 0, .bool false]) := hZ (by unfold qA7; rw [if_neg (by omega)]); clear hbig hsm
   go_enter Try.func55, Try.ntmps55
   go_wp2_with fail
   clear hw0; refine qDA 99 (fun w' => w'.cell? ⟨b, 0, none⟩ = some (.bool s) /\ w'.cell? ⟨b, 1, none⟩ = some (.slice a n c)) (by kernel_rfl) (⟨d0, d1⟩) (fun hHeld => ?_); refine kU 0 6 ?_; refine qCk 1 (by kernel_rfl) rfl (fun K hK => ?_); go_simp; clear d0 d1; refine (qDZ 9223372036854775807 w0.drew (by omega) (by omega)).mono ?_; rintro e w5 ⟨⟨vr, rfl, hr⟩, hB⟩; have Hr5 := hZ hr; obtain ⟨a5, n5, c5, rfl, -, -, -⟩ := hr.form; have hB5 := hZ hB; clear hr hB; generalize decide ((9223372036854775807 : Int) < 0) = s5 at *; have HT5 := hZ (HTd.o.below hB5.o HTd.o.lt); have HB5 := hZ (HBd.o.trans (hB5.o.mono HBz.o))
   go_wp2_with fail
   refine hK.out _ _ (⟨HT5.o.cell0, HT5.o.cell1⟩) (fun hHeld => ?_); clear hK K
   try simp only [Act.put, List.setIfInBounds_toArray, List.set_cons_zero, List.set_cons_succ]
   refine qCk 2 (by kernel_rfl) rfl (fun K hK => ?_); go_simp; refine (qBe _ _ z 9223372036854775807 w5 (HR.o.below (Nat.le_of_eq Hb.o) HB5.o) Hr5.o HLz.o (Nat.le_trans (qC1 _ (by omega)) (by omega))).mono ?_; rintro e w6 ⟨rfl, hB6⟩; rw [Hm1.o]; have HT6 := hZ (HT5.o.below hB6 HT5.o.lt); have HB6 := hZ (HB5.o.trans (hB6.mono (Nat.le_trans (Nat.le_of_eq Hb.o.symm) HB5.o.size))); clear hB6
   go_wp2_with fail
   refine hK.out _ _ (⟨HT6.o.cell0, HT6.o.cell1⟩) (fun hHeld => ?_); clear hK K
   try simp only [Act.put, List.setIfInBounds_toArray, List.set_cons_zero, List.set_cons_succ]
   refine kU 3 9 ?_; refine kU 4 10 ?_; refine kU 5 11 ?_; refine qCk 6 (by kernel_rfl) rfl (fun K hK => ?_); go_simp; refine (qDZ (-9223372036854775808) w6 (by omega) (by omega)).mono ?_; rintro e w7 ⟨⟨vr, rfl, hr⟩, hB⟩; have Hr7 := hZ hr; obtain ⟨a7, n7, c7, rfl, -, -, -⟩ := hr.form; have hB7 := hZ hB; clear hr hB; generalize decide ((-9223372036854775808 : Int) < 0) = s7 at *; have HT7 := hZ (HT6.o.below hB7.o HT6.o.lt); have HB7 := hZ (HB6.o.trans (hB7.o.mono (Nat.le_trans (Nat.le_of_eq Hb.o.symm) HB6.o.size)))
   go_wp2_with fail
   refine hK.out _ _ (⟨HT7.o.cell0, HT7.o.cell1⟩) (fun hHeld => ?_); clear hK K
   try simp only [Act.put, List.setIfInBounds_toArray, List.set_cons_zero, List.set_cons_succ]
   refine qCk 7 (by kernel_rfl) rfl (fun K hK => ?_); go_simp; refine (qBe _ _ z (-9223372036854775808) w7 (HR.o.below (Nat.le_of_eq Hb.o) HB7.o) Hr7.o HLz.o (Nat.le_trans (qC1 _ (by omega)) (by omega))).mono ?_; rintro e w8 ⟨rfl, hB8⟩; rw [Hm2.o]; have HT8 := hZ (HT7.o.below hB8 HT7.o.lt); have HB8 := hZ (HB7.o.trans (hB8.mono (Nat.le_trans (Nat.le_of_eq Hb.o.symm) HB7.o.size))); clear hB8
   go_wp2_with fail
   refine hK.out _ _ (⟨HT8.o.cell0, HT8.o.cell1⟩) (fun hHeld => ?_); clear hK K
   try simp only [Act.put, List.setIfInBounds_toArray, List.set_cons_zero, List.set_cons_succ]
   refine kU 8 14 ?_; refine kU 9 15 ?_; refine qLs (by kernel_rfl) ?_ _; clear hHeld
   go_wp2
   go_ret2
   rw [Hsv.o, Hb.o]; exact ⟨rfl, HB8.o⟩
  ·rw [decide_eq_false hsm] at p2
   have Hsv : Hid (qA7 z = .tuple #[.int .i64 z, .bool true]) := hZ (by unfold qA7; rw [if_pos (by omega)]); have hab : z.natAbs <= 9223372036854775808 := by omega
   have hab2 : s = false -> z.natAbs <= 9223372036854775807 := fun h => by
    have := Hs.o; rw [h] at this; have := of_decide_eq_false this; omega
   have Hsz := hZ (qLV z); have HVA := hZ (qAi T4 qAo z.natAbs); have HlA := hZ (qAk T4 qAo z.natAbs); rw [Hs.o] at Hsz; obtain ⟨m, hm⟩ := eX z.natAbs; rw [hm] at HD HN hab hab2 Hsz HVA HlA; clear hm; clear hbig hsm
   go_enter Try.func55, Try.ntmps55
   go_wp2_with fail
   clear hw0; refine qDA 99 (fun w' => w'.cell? ⟨b, 0, none⟩ = some (.bool s) /\ w'.cell? ⟨b, 1, none⟩ = some (.slice a n c)) (by kernel_rfl) (⟨d0, d1⟩) (fun hHeld => ?_); refine kU 0 6 ?_; refine qCk 1 (by kernel_rfl) rfl (fun K hK => ?_); go_simp; clear d0 d1; refine (qDZ 9223372036854775807 w0.drew (by omega) (by omega)).mono ?_; rintro e w5 ⟨⟨vr, rfl, hr⟩, hB⟩; have Hr5 := hZ hr; obtain ⟨a5, n5, c5, rfl, -, -, -⟩ := hr.form; have hB5 := hZ hB; clear hr hB; generalize decide ((9223372036854775807 : Int) < 0) = s5 at *; have HT5 := hZ (HTd.o.below hB5.o HTd.o.lt); have HB5 := hZ (HBd.o.trans (hB5.o.mono HBz.o))
   go_wp2_with fail
   refine hK.out _ _ (⟨HT5.o.cell0, HT5.o.cell1⟩) (fun hHeld => ?_); clear hK K
   try simp only [Act.put, List.setIfInBounds_toArray, List.set_cons_zero, List.set_cons_succ]
   refine qCk 2 (by kernel_rfl) rfl (fun K hK => ?_); go_simp; refine (qBe _ _ z 9223372036854775807 w5 (HR.o.below (Nat.le_of_eq Hb.o) HB5.o) Hr5.o HLz.o (Nat.le_trans (qC1 _ (by omega)) (by omega))).mono ?_; rintro e w6 ⟨rfl, hB6⟩; rw [Hm1.o]; have HT6 := hZ (HT5.o.below hB6 HT5.o.lt); have HB6 := hZ (HB5.o.trans (hB6.mono (Nat.le_trans (Nat.le_of_eq Hb.o.symm) HB5.o.size))); clear hB6
   go_wp2_with fail
   refine hK.out _ _ (⟨HT6.o.cell0, HT6.o.cell1⟩) (fun hHeld => ?_); clear hK K
   try simp only [Act.put, List.setIfInBounds_toArray, List.set_cons_zero, List.set_cons_succ]
   refine kU 3 9 ?_; refine kU 4 10 ?_; refine kU 5 11 ?_; refine qCk 6 (by kernel_rfl) rfl (fun K hK => ?_); go_simp; refine (qDZ (-9223372036854775808) w6 (by omega) (by omega)).mono ?_; rintro e w7 ⟨⟨vr, rfl, hr⟩, hB⟩; have Hr7 := hZ hr; obtain ⟨a7, n7, c7, rfl, -, -, -⟩ := hr.form; have hB7 := hZ hB; clear hr hB; generalize decide ((-9223372036854775808 : Int) < 0) = s7 at *; have HT7 := hZ (HT6.o.below hB7.o HT6.o.lt); have HB7 := hZ (HB6.o.trans (hB7.o.mono (Nat.le_trans (Nat.le_of_eq Hb.o.symm) HB6.o.size)))
   go_wp2_with fail
   refine hK.out _ _ (⟨HT7.o.cell0, HT7.o.cell1⟩) (fun hHeld => ?_); clear hK K
   try simp only [Act.put, List.setIfInBounds_toArray, List.set_cons_zero, List.set_cons_succ]
   refine qCk 7 (by kernel_rfl) rfl (fun K hK => ?_); go_simp; refine (qBe _ _ z (-9223372036854775808) w7 (HR.o.below (Nat.le_of_eq Hb.o) HB7.o) Hr7.o HLz.o (Nat.le_trans (qC1 _ (by omega)) (by omega))).mono ?_; rintro e w8 ⟨rfl, hB8⟩; rw [Hm2.o]; have HT8 := hZ (HT7.o.below hB8 HT7.o.lt); have HB8 := hZ (HB7.o.trans (hB8.mono (Nat.le_trans (Nat.le_of_eq Hb.o.symm) HB7.o.size))); clear hB8
   go_wp2_with fail
   refine hK.out _ _ (⟨HT8.o.cell0, HT8.o.cell1⟩) (fun hHeld => ?_); clear hK K
   try simp only [Act.put, List.setIfInBounds_toArray, List.set_cons_zero, List.set_cons_succ]
   refine kU 8 14 ?_; refine kU 9 15 ?_; refine qLs (by kernel_rfl) ?_ _; clear hHeld; have e0 := HT8.o.cell0; have e1 := HT8.o.cell1; have HN2 := hZ HN.o
   go_wp2_with fail
   go_loop [4, 5] (fun nv iv' => ∃ (k : Nat), k <= n /\ iv' = .int .i64 ((k : Int) - 1) /\ nv = .int .i64 (sgn s (val T4 ((qAe T4 m).drop k)))) (fun _ i => (intOf i + 1).toNat)
   case atStart => exact ⟨n, Nat.le_refl _, by go_num, by rw [List.drop_of_length_le (by rw [HN.o]; exact Nat.le_refl _)]; unfold sgn; cases s <;> rfl⟩
   case round =>
    obtain ⟨k, hk, rfl, rfl⟩ := hrel; by_cases hk0 : k = 0
    ·subst hk0
     have Hv : Hid (sgn s (val T4 ((qAe T4 m).drop 0)) = z) := hZ (by rw [List.drop_zero, HVA.o]; exact Hsz.o); rw [Hv.o]
     go_wp2
     go_ret2
     refine ⟨by rw [Hsv.o]; rfl, ?_⟩
     first | exact HB8.o | (rw [Hb.o]; exact HB8.o)
    ·have hlk : k - 1 < (qAe T4 m).length := by rw [HN.o]; omega
     obtain ⟨xb, xoff, rfl, hxb, hxc⟩ := HD.o (by omega); have cl := (HB8.o.cell (p := ⟨xb, xoff + (k - 1), none⟩) (by show xb < b; rw [<- Hb.o]; exact hxb)).trans (hxc (k - 1) hlk); have hl2 : (qAe T4 m)[k - 1] < 10000 := HlA.o _ (List.getElem_mem hlk); have hst := qER (qAe T4 m) k (by omega) hlk; have hle := qGs (qAe T4 m) (k - 1); rw [HVA.o] at hle; have i0 : (0 : Int) <= (k : Int) - 1 := by omega
     have i1 : (k : Int) - 1 < (n : Int) := by omega
     have i2 : ((k : Int) - 1).toNat = k - 1 := by omega
     obtain ⟨x, hx⟩ := eX ((qAe T4 m)[k - 1]); rw [hx] at cl hl2 hst; have Hst := hZ hst; obtain ⟨V, hV⟩ := eX (val T4 ((qAe T4 m).drop k)); obtain ⟨V', hV'⟩ : ∃ V', val T4 ((qAe T4 m).drop (k - 1)) = V' := ⟨_, rfl⟩; rw [hV, hV'] at Hst hst; rw [hV'] at hle; rw [hV]; have HV' := hZ hV'; clear hxc hx hV hV' hk0; cases s with
     | false =>
      have hab3 := hab2 rfl; rw [show sgn false V = (V : Int) from rfl]; have hbd : (V : Int) * 10000 + (x : Int) <= 9223372036854775807 := by omega
      clear hst
      go_wp2_with fail
      go_round
      case rel => exact ⟨k - 1, by omega, by go_num, by rw [HV'.o, Hst.o]; show Value.int _ _ = Value.int _ ((x + 10000 * V : Nat) : Int); congr 1; omega⟩
      case measure => simp [intOf]; omega
     | true =>
      rw [show sgn true V = -(V : Int) from rfl]; have hbd : -9223372036854775808 <= -(V : Int) * 10000 - (x : Int) := by omega
      clear hst
      go_wp2_with fail
      go_round
      case rel => exact ⟨k - 1, by omega, by go_num, by rw [HV'.o, Hst.o]; show Value.int _ _ = Value.int _ (-((x + 10000 * V : Nat) : Int)); congr 1; omega⟩
      case measure => simp [intOf]; omega
end Go.Proofs.Ytlmbebbdamgfpaa
