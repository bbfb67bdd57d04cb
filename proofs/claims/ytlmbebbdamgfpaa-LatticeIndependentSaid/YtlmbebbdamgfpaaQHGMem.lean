/- Slices of structs that read as data; a catalog in memory. -/
import Derived.Test.YtlmbebbdamgfpaaQHWMul
import Derived.Test.YtlmbebbdamgfpaaQHDecimal
set_option linter.unusedVariables false
set_option linter.unusedSimpArgs false
set_option maxHeartbeats 4000000
set_option maxRecDepth 100000
namespace Go.Proofs.Ytlmbebbdamgfpaa
open Go.RowKit
theorem qCB.ok {z : Int} {w w' : World} {e : Ending} (h : qCB z w e w') (hz : z.natAbs < LIM) : ∃ a l cap, e = .returned (.tuple #[.agg #[.bool (decide (z < 0)), .slice a l cap], .int .i64 0]) /\ qAT w' (.slice a l cap) z.natAbs /\ Below w.heap.size w w' := by
 obtain ⟨hB, ⟨_, v, rfl, hW⟩ | ⟨hl, rfl⟩⟩ := h
 ·obtain ⟨a, l, cap, rfl, hm⟩ := hW.form
  exact ⟨a, l, cap, rfl, hm, hB⟩
 ·omega
theorem qCB.big {z : Int} {w w' : World} {e : Ending} (h : qCB z w e w') (hz : LIM <= z.natAbs) : e = .returned (.tuple #[.agg #[.bool false, .slice none 0 0], .int .i64 4]) /\ Below w.heap.size w w' := by
 obtain ⟨hB, ⟨hl, v, rfl, hW⟩ | ⟨hl, rfl⟩⟩ := h
 ·omega
 ·exact ⟨rfl, hB⟩
theorem qGT (y : Int) : sgn (!decide (y < 0)) y.natAbs = -y := by
 unfold sgn; by_cases h : y < 0
 ·simp [h]; omega
 ·simp [h]; omega
theorem qKG (vx vy : Value) (x y : Int) (w : World) (hx : qAz w vx x) (hy : qAz w vy y) (hlx : x.natAbs < LIM) (hly : y.natAbs < LIM) :
 Calls Try.prog 66 #[vx, vy] w (qCB (x - y) w) := by
 have HX0 := hZ hx; obtain ⟨ax, nx, cx, rfl, hmx⟩ := hx.form; obtain ⟨ay, ny, cy, rfl, hmy⟩ := hy.form; have HY := hZ hmy; have hly2 : (-y).natAbs < LIM := by rw [Int.natAbs_neg]; exact hly
 clear hx hy hmx hmy; obtain ⟨n, hn⟩ := eX w.heap.size; have Hn := hZ hn; obtain ⟨W, hW, t1, t2, t3, hBW, hsW⟩ := qCi w 58 (.bool (decide (x < 0))) (.slice ax nx cx) (.bool (decide (y < 0))) (.slice ay ny cy) (.bool false) (.slice none 0 0) n hn; have Hs1 := hZ (fun w' (hb : Below n w w') => qAU (!decide (y < 0)) (.slice ay ny cy) y.natAbs w' (HY.o.below (Nat.le_of_eq hn) hb)); rw [qGT] at Hs1; have Ha := hZ (fun w' (hb : Below n w w') => qJl (.agg #[.bool (decide (x < 0)), .slice ax nx cx]) (.agg #[.bool (decide (-y < 0)), .slice ay ny cy]) x (-y) w' (HX0.o.below' (Nat.le_of_eq hn) hb) ⟨_, rfl, by rw [Int.natAbs_neg]; exact HY.o.below (Nat.le_of_eq hn) hb⟩ hlx hly2); have hxy : x + -y = x - y := by omega
 rw [hxy] at Ha; clear HX0 HY hlx hly hly2 hxy; generalize decide (x < 0) = sx at *; generalize decide (y < 0) = sy at *; generalize decide (-y < 0) = sz at *; have HBW := hZ hBW; have T3 : Hid (Two W.drew (n + 1 + 1) 58 (.bool false) (.slice none 0 0)) := hZ t3; have HS0 : Hid (qBw n (.bool sx) (.slice ax nx cx) (.bool sy) (.slice ay ny cy) W.drew) := hZ ⟨t1.cell0, t1.cell1, t2.cell0, t2.cell1⟩; have hs0 : n + 1 + 1 + 1 <= W.drew.heap.size := by show _ <= W.heap.size; omega
 have d0 := t1.cell0; have d1 := t1.cell1; have d2 := t2.cell0; have d3 := t2.cell1; clear t1 t2 t3 hBW
 go_enter Try.func66, Try.ntmps66
 go_wp2_with fail
 clear hW; by_cases hp : (x - y).natAbs < LIM
 ·go_region_held3 (fun w' => w'.cell? ⟨n, 0, none⟩ = some (.bool sx) /\ w'.cell? ⟨n, 1, none⟩ = some (.slice ax nx cx) /\ w'.cell? ⟨n + 1, 0, none⟩ = some (.bool sy) /\ w'.cell? ⟨n + 1, 1, none⟩ = some (.slice ay ny cy))
   (first | (exact HS.o) | (exact qBw.set2 HS.o _ _) | go_keep)
   (first
    | (go_at_call 57; refine (Hs1.o _ HBW.o.drew).mono ?_; rintro e w5 ⟨rfl, hB5⟩; have HB5 := hZ hB5; have HS5 := hZ (HS0.o.below hB5 hs0); have s5 := HS5.o.2; have HS := hZ HS5.o.1; have HBW5 := hZ (HBW.o.drew.trans (hB5.mono (by omega))); clear hB5)
    | (go_at_call 92; refine (Ha.o w5 HBW5.o).mono ?_; rintro e w6 hL; obtain ⟨a6, l6, c6, rfl, hm6, hB6⟩ := hL.ok hp; have Hm6 := hZ hm6; clear hm6; have HB6 := hZ hB6; have HS6 := hZ (HS.o.below hB6 s5); clear HS; have s6 := HS6.o.2; have HS := hZ HS6.o.1; have T6 := (T3.o.below HB5.o (by omega)).below hB6 (by omega); have g0 := T6.cell0; have g1 := T6.cell1; have g2 := T6.frozen 0; have g3 := T6.frozen 1; have T6 := hZ T6; clear hB6))
  go_wp2
  refine bodyPost_ret (v := .tuple #[.agg #[.bool (decide (x - y < 0)), .slice a6 l6 c6], .int .i64 0]) (by simp [results, Try.results66, go_sem, g0, g1]) rfl ⟨?_, .inl ⟨hp, _, rfl, qAz.mk rfl ?_⟩⟩
  ·rw [Hn.o]
   exact ((HBW5.o.trans (HB6.o.mono (by omega))).setCell (p := ⟨n + 1 + 1, 0, none⟩) (by show n <= n + 1 + 1; omega) _).setCell (p := ⟨n + 1 + 1, 1, none⟩) (by show n <= n + 1 + 1; omega) _
  ·exact qAd.store_two Hm6.o T6.o (fun _ _ h => by cases h) (fun _ _ h => by cases h) _ _
 ·go_region_held3 (fun w' => w'.cell? ⟨n, 0, none⟩ = some (.bool sx) /\ w'.cell? ⟨n, 1, none⟩ = some (.slice ax nx cx) /\ w'.cell? ⟨n + 1, 0, none⟩ = some (.bool sy) /\ w'.cell? ⟨n + 1, 1, none⟩ = some (.slice ay ny cy))
   (first | (exact HS.o) | (exact qBw.set2 HS.o _ _) | go_keep)
   (first
    | (go_at_call 57; refine (Hs1.o _ HBW.o.drew).mono ?_; rintro e w5 ⟨rfl, hB5⟩; have HB5 := hZ hB5; have HS5 := hZ (HS0.o.below hB5 hs0); have s5 := HS5.o.2; have HS := hZ HS5.o.1; have HBW5 := hZ (HBW.o.drew.trans (hB5.mono (by omega))); clear hB5)
    | (go_at_call 92; refine (Ha.o w5 HBW5.o).mono ?_; rintro e w6 hL; obtain ⟨rfl, hB6⟩ := hL.big (Nat.le_of_not_lt hp); have HB6 := hZ hB6; have HS6 := hZ (HS.o.below hB6 s5); clear HS; have s6 := HS6.o.2; have HS := hZ HS6.o.1; have T6 := (T3.o.below HB5.o (by omega)).below hB6 (by omega); have g0 := T6.cell0; have g1 := T6.cell1; have g2 := T6.frozen 0; have g3 := T6.frozen 1; have T6 := hZ T6; clear hB6))
  go_wp2
  refine bodyPost_ret (v := .tuple #[.agg #[.bool false, .slice none 0 0], .int .i64 4]) (by simp [results, Try.results66, go_sem, g0, g1]) rfl ⟨?_, .inr ⟨Nat.le_of_not_lt hp, rfl⟩⟩; rw [Hn.o]; exact ((HBW5.o.trans (HB6.o.mono (by omega))).setCell (p := ⟨n + 1 + 1, 0, none⟩) (by show n <= n + 1 + 1; omega) _).setCell (p := ⟨n + 1 + 1, 1, none⟩) (by show n <= n + 1 + 1; omega) _
theorem qID (m : Nat) (h : m < 18446744073709551616) : val W2 [m % W2, m / W2] = m /\ Low W2 [m % W2, m / W2] := by
 constructor
 ·show m % 4294967296 + 4294967296 * (m / 4294967296 + 4294967296 * 0) = m
  omega
 ·intro x hx
  simp only [List.mem_cons, List.not_mem_nil, or_false] at hx; rcases hx with rfl | rfl
  ·exact Nat.mod_lt _ (by decide)
  ·exact (Nat.div_lt_iff_lt_mul (by decide)).2 (by unfold W2; omega)
theorem qHq (w0 : World) (m : Nat) (hm : m < 18446744073709551616) (g : Nat) (hg : g = w0.heap.size) :
 Calls Try.prog 58 #[.slice (some ⟨g, 0, none⟩) 2 2] (w0.alloc (.cells #[.int .u32 ((m : Int) % 4294967296), .int .u32 ((m : Int) / 4294967296)] 88)) fun e w' =>
  ∃ v', e = .returned v' /\ qAT (w0.alloc (.cells #[.int .u32 ((m : Int) % 4294967296), .int .u32 ((m : Int) / 4294967296)] 88)) v' m /\ (w0.alloc (.cells #[.int .u32 ((m : Int) % 4294967296), .int .u32 ((m : Int) / 4294967296)] 88)) = w' := by
 subst hg; have hb : Blk (w0.alloc (.cells #[.int .u32 ((m : Int) % 4294967296), .int .u32 ((m : Int) / 4294967296)] 88)) w0.heap.size 88 .u32 [m % W2, m / W2] := by
  unfold Blk; rw [heap_alloc_new]; simp only [List.map_cons, List.map_nil, iv, qHX, qHY]
 have h2 := qID m hm; have := qB1 _ _ _ (qAd.of_blk hb (cap := 2) (by simp) (by omega)) h2.2 (by simp); rw [h2.1] at this; exact this
theorem qJ0 (z : Int) (w : World) (h1 : -9223372036854775808 <= z) (h2 : z <= 9223372036854775807) :
 Calls Try.prog 39 #[.int .i64 z] w fun e w' => ∃ v, e = .returned v /\ qAz w' v z /\ Below w.heap.size w w' := by
 by_cases hz : z < 0
 ·obtain ⟨m, hm⟩ : ∃ m : Nat, z = -(m : Int) := ⟨z.natAbs, by omega⟩
  subst hm; have b1 : IntKind.u64.wrap (-(m : Int)) = 18446744073709551616 - (m : Int) := by rw [IntKind.wrap_u64]; omega
  have b2 : IntKind.u64.wrap (-(18446744073709551616 - (m : Int))) = (m : Int) := by rw [IntKind.wrap_u64]; omega
  go_enter Try.func39, Try.ntmps39
  go_wp2_with fail
  clear b1 b2; refine (qHq (w.alloc (.cells #[.bool false, .slice none 0 0] 58)) m (by omega) _ (by simp)).mono ?_; rintro e w1 ⟨v1, rfl, hm1, hw1⟩; have T1 : Two w1 w.heap.size 58 (.bool false) (.slice none 0 0) := by rw [<- hw1]; exact (Two.new w 58 (.bool false) (.slice none 0 0)).alloc _
  have hB1 : Below w.heap.size w w1 := by rw [<- hw1]; exact ((Below.refl _ w).alloc (Nat.le_refl _) _).alloc (by simp) _
  rw [hw1] at hm1; clear hw1; obtain ⟨a1, c1, rfl, hr1⟩ := hm1; have Hm1 : Hid (qAT w1 (.slice a1 (qAe W2 m).length c1) m) := hZ ⟨a1, c1, rfl, hr1⟩; have HT1 := hZ T1; have HB1 := hZ hB1; clear hr1 T1 hB1
  go_wp2_with fail
  refine (qAU true _ m w1 Hm1.o).mono ?_; rintro e w2 ⟨rfl, hB2⟩; have hT2 := HT1.o.below hB2 HT1.o.lt; have g0 := hT2.cell0; have g1 := hT2.cell1; have g2 := hT2.frozen 0; have g3 := hT2.frozen 1; have HT2 := hZ hT2; have Hm2 := hZ (qAd.below Hm1.o (Nat.le_refl _) hB2); have z1 := HB1.o.size; have HB2 := hZ (HB1.o.trans (hB2.mono z1)); clear hT2 hB2
  go_wp2
  refine bodyPost_ret (v := .agg #[.bool (decide (sgn true m < 0)), .slice a1 (qAe W2 m).length c1]) (by simp [results, Try.results39, go_sem, g0, g1]) rfl ⟨_, rfl, qAz.mk ?_ ?_, ?_⟩
  ·rfl
  ·rw [show (-(m : Int) : Int).natAbs = m by omega]
   exact qAd.store_two Hm2.o HT2.o (fun _ _ h => by cases h) (fun _ _ h => by cases h) _ _
  ·exact (HB2.o.setCell (p := ⟨w.heap.size, 0, none⟩) (Nat.le_refl _) _).setCell (p := ⟨w.heap.size, 1, none⟩) (Nat.le_refl _) _
 ·obtain ⟨m, hm⟩ : ∃ m : Nat, z = (m : Int) := ⟨z.natAbs, by omega⟩
  subst hm
  go_enter Try.func39, Try.ntmps39
  go_wp2_with fail
  refine (qHq (w.alloc (.cells #[.bool false, .slice none 0 0] 58)) m (by omega) _ (by simp)).mono ?_; rintro e w1 ⟨v1, rfl, hm1, hw1⟩; have T1 : Two w1 w.heap.size 58 (.bool false) (.slice none 0 0) := by rw [<- hw1]; exact (Two.new w 58 (.bool false) (.slice none 0 0)).alloc _
  have hB1 : Below w.heap.size w w1 := by rw [<- hw1]; exact ((Below.refl _ w).alloc (Nat.le_refl _) _).alloc (by simp) _
  rw [hw1] at hm1; clear hw1; obtain ⟨a1, c1, rfl, hr1⟩ := hm1; have Hm1 : Hid (qAT w1 (.slice a1 (qAe W2 m).length c1) m) := hZ ⟨a1, c1, rfl, hr1⟩; have HT1 := hZ T1; have HB1 := hZ hB1; clear hr1 T1 hB1
  go_wp2_with fail
  refine (qAU false _ m w1 Hm1.o).mono ?_; rintro e w2 ⟨rfl, hB2⟩; have hT2 := HT1.o.below hB2 HT1.o.lt; have g0 := hT2.cell0; have g1 := hT2.cell1; have g2 := hT2.frozen 0; have g3 := hT2.frozen 1; have HT2 := hZ hT2; have Hm2 := hZ (qAd.below Hm1.o (Nat.le_refl _) hB2); have z1 := HB1.o.size; have HB2 := hZ (HB1.o.trans (hB2.mono z1)); clear hT2 hB2
  go_wp2
  refine bodyPost_ret (v := .agg #[.bool (decide (sgn false m < 0)), .slice a1 (qAe W2 m).length c1]) (by simp [results, Try.results39, go_sem, g0, g1]) rfl ⟨_, rfl, qAz.mk ?_ ?_, ?_⟩
  ·rfl
  ·rw [show ((m : Int) : Int).natAbs = m by omega]
   exact qAd.store_two Hm2.o HT2.o (fun _ _ h => by cases h) (fun _ _ h => by cases h) _ _
  ·exact (HB2.o.setCell (p := ⟨w.heap.size, 0, none⟩) (Nat.le_refl _) _).setCell (p := ⟨w.heap.size, 1, none⟩) (Nat.le_refl _) _
open Go.RowKit
theorem qHW (x y : Int) (hx : x < 0) (hy : y < 0) : qAK (y.natAbs : Int) (x.natAbs : Int) = qAK x y := by
 unfold qAK; rw [show ((y.natAbs : Nat) : Int) = -y by omega, show ((x.natAbs : Nat) : Int) = -x by omega]; by_cases h1 : x < y
 ·rw [if_pos h1, if_pos (by omega)]
 ·rw [if_neg h1, if_neg (by omega)]
  by_cases h2 : y < x
  ·rw [if_pos h2, if_pos (by omega)]
  ·rw [if_neg h2, if_neg (by omega)]
theorem qHV (x y : Int) (hx : ¬ x < 0) (hy : ¬ y < 0) : qAK (x.natAbs : Int) (y.natAbs : Int) = qAK x y := by
 rw [show ((y.natAbs : Nat) : Int) = y by omega, show ((x.natAbs : Nat) : Int) = x by omega]
theorem qBF {B : Nat} {w w' : World} (h : Below B w w') (d : Nat) : Below B w (w'.drewN d) := ⟨h.os, h.tape, h.output, h.size, h.block⟩
theorem qFN (vx vy : Value) (x y : Int) (w : World) (hx : qAz w vx x) (hy : qAz w vy y) (hlx : x.natAbs < LIM) (hly : y.natAbs < LIM) :
 Calls Try.prog 65 #[vx, vy] w fun e w' => e = .returned (.int .i64 (qAK x y)) /\ Below w.heap.size w w' := by
 obtain ⟨ax, nx, cx, rfl, hmx⟩ := hx.form; obtain ⟨ay, ny, cy, rfl, hmy⟩ := hy.form; have hlx' := (qA4 _).2 hlx; have hly' := (qA4 _).2 hly; have HX := hZ hmx; have HY := hZ hmy; clear hx hy hmx hmy hlx hly; have HB := hZ (fun b1 b2 => ((Below.refl w.heap.size w).alloc (Nat.le_refl _) (.cells #[.bool b1, .slice ax nx cx] 58)).alloc (by simp) (.cells #[.bool b2, .slice ay ny cy] 58)); by_cases h1 : x < 0 <;> by_cases h2 : y < 0
 ·have Hc := hZ (fun w' (hb : Below w.heap.size w w') => qBY (.slice ay ny cy) (.slice ax nx cx) y.natAbs x.natAbs w' (HY.o.below (Nat.le_refl _) hb) (HX.o.below (Nat.le_refl _) hb) (by omega) (by omega))
  rw [qHW x y h1 h2] at Hc; rw [decide_eq_true h1, decide_eq_true h2]; clear h1 h2 HX HY
  go_enter Try.func65, Try.ntmps65
  go_wp2_with fail
  refine (Hc.o _ (HB.o true true)).mono ?_; rintro e w1 ⟨rfl, d, rfl⟩
  go_wp2
  go_ret; exact ⟨rfl, qBF (HB.o true true) d⟩
 ·have Hc := hZ (qBJ (show x < y by omega))
  rw [decide_eq_true h1, decide_eq_false h2]; clear h1 h2 HX HY
  go_enter Try.func65, Try.ntmps65
  go_wp2
  go_ret; exact ⟨by rw [Hc.o]; rfl, HB.o true false⟩
 ·have Hc := hZ (qBB (show y < x by omega))
  rw [decide_eq_false h1, decide_eq_true h2]; clear h1 h2 HX HY
  go_enter Try.func65, Try.ntmps65
  go_wp2
  go_ret; exact ⟨by rw [Hc.o]; rfl, HB.o false true⟩
 ·have Hc := hZ (fun w' (hb : Below w.heap.size w w') => qBY (.slice ax nx cx) (.slice ay ny cy) x.natAbs y.natAbs w' (HX.o.below (Nat.le_refl _) hb) (HY.o.below (Nat.le_refl _) hb) (by omega) (by omega))
  rw [qHV x y h1 h2] at Hc; rw [decide_eq_false h1, decide_eq_false h2]; clear h1 h2 HX HY
  go_enter Try.func65, Try.ntmps65
  go_wp2_with fail
  refine (Hc.o _ (HB.o false false)).mono ?_; rintro e w1 ⟨rfl, d, rfl⟩
  go_wp2
  go_ret; exact ⟨rfl, qBF (HB.o false false) d⟩
theorem qAv (w : World) : qAz w (.agg #[.bool false, .slice none 0 0]) 0 := ⟨_, rfl, qAd.nil none 0 (by omega)⟩
theorem qGW (a b : Nat) (h : 0 < a) : 0 < a ^ b := Nat.pow_pos h
theorem qKZ : 0 < LIM := qKk ▸ qGW W2 512 (by decide)
theorem qJD (vx : Value) (x : Int) (w : World) (hx : qAz w vx x) (hlx : x.natAbs < LIM) :
 Calls Try.prog 44 #[vx] w fun e w' => e = .returned (.int .i64 (qAK x 0)) /\ Below w.heap.size w w' := by
 have HX := hZ hx; obtain ⟨ax, nx, cx, rfl, _⟩ := hx.form; have HB := hZ ((Below.refl w.heap.size w).alloc (Nat.le_refl _) (.cells #[.bool (decide (x < 0)), .slice ax nx cx] 58)); have Hc := hZ (qFN _ _ x 0 _ (HX.o.below' (Nat.le_refl _) HB.o) (qAv _) hlx qKZ); clear hlx hx; generalize decide (x < 0) = sx at *
 go_enter Try.func44, Try.ntmps44
 go_wp2_with fail
 refine Hc.o.mono ?_; rintro e w1 ⟨rfl, hB1⟩; have HB1 := hZ (HB.o.trans (hB1.mono (by simp))); clear hB1
 go_wp2
 go_ret; exact ⟨rfl, HB1.o⟩
theorem qGz (v : Value) (m : Nat) (w : World) (h : qAT w v m) (hlen : (qAe W2 m).length <= 1048576) :
 Calls Try.prog 82 #[v] w fun e w' => ∃ a l c, e = .returned (.slice a l c) /\ qAT w' (.slice a l c) m /\ Below w.heap.size w w' := by
 refine (qEO v _ w h (by omega)).mono ?_; rintro e w' ⟨rfl, hb, hB⟩; exact ⟨_, _, _, rfl, qAd.of_blk hb (Nat.le_refl _) (by omega), hB⟩
def qGD (n : Nat) (x1 x2 : Value) (w : World) : Prop := w.cell? ⟨n, 0, none⟩ = some x1 /\ w.cell? ⟨n, 1, none⟩ = some x2
theorem qGD.below {n : Nat} {x1 x2 : Value} {w w' : World} (h : qGD n x1 x2 w) (hb : Below w.heap.size w w') (hs : n + 1 + 1 <= w.heap.size) : qGD n x1 x2 w' /\ n + 1 + 1 <= w'.heap.size :=
 ⟨⟨(hb.cell (p := ⟨n, 0, none⟩) (by show n < _; omega)).trans h.1, (hb.cell (p := ⟨n, 1, none⟩) (by show n < _; omega)).trans h.2⟩, by have := hb.size; omega⟩
theorem qGD.set2 {n : Nat} {x1 x2 : Value} {w : World} (h : qGD n x1 x2 w) (u1 u2 : Value) : qGD n x1 x2 ((w.setCell ⟨n + 1, 0, none⟩ u1).setCell ⟨n + 1, 1, none⟩ u2) := by
 have e : ∀ b o, b ≠ n + 1 -> ((w.setCell ⟨n + 1, 0, none⟩ u1).setCell ⟨n + 1, 1, none⟩ u2).cell? ⟨b, o, none⟩ = w.cell? ⟨b, o, none⟩ := fun b o hb => by
  rw [World.cell?_setCell_other _ _ _ _ (by intro e; injection e; omega), World.cell?_setCell_other _ _ _ _ (by intro e; injection e; omega)]
 exact ⟨(e _ _ (by omega)).trans h.1, (e _ _ (by omega)).trans h.2⟩
theorem qKv (w : World) (t : TypeId) (x1 x2 z1 z2 : Value) (n : Nat) (hn : w.heap.size = n) : ∃ W, (w.alloc (.cells #[x1, x2] t)).alloc (.cells #[z1, z2] t) = W /\
 Two W n t x1 x2 /\ Two W (n + 1) t z1 z2 /\ Below n w W /\ W.heap.size = n + 1 + 1 := by
 subst hn; refine ⟨_, rfl, (Two.new w t x1 x2).alloc _, ?_, ((Below.refl w.heap.size w).alloc (Nat.le_refl _) _).alloc (by simp) _, by simp⟩; have := Two.new (w.alloc (.cells #[x1, x2] t)) t z1 z2; rw [World.size_alloc] at this; exact this
theorem qKR (vx : Value) (x : Int) (w : World) (hx : qAz w vx x) (hlx : x.natAbs < LIM) :
 Calls Try.prog 76 #[vx] w fun e w' => ∃ v, e = .returned v /\ qAz w' v (-x) /\ Below w.heap.size w w' := by
 obtain ⟨ax, nx, cx, rfl, hmx⟩ := hx.form; have hlx' := (qA4 _).2 hlx; have HX := hZ hmx; clear hx hmx hlx; obtain ⟨n, hn⟩ := eX w.heap.size; have Hn := hZ hn; obtain ⟨W, hW, t1, t2, hBW, hsW⟩ := qKv w 58 (.bool (decide (x < 0))) (.slice ax nx cx) (.bool false) (.slice none 0 0) n hn; have Hcl := hZ (fun w' (hb : Below n w w') => qGz (.slice ax nx cx) x.natAbs w' (HX.o.below (Nat.le_of_eq hn) hb) (by omega)); have Hsg := hZ (fun vw w' (hm : qAT w' vw x.natAbs) => qAU (!decide (x < 0)) vw x.natAbs w' hm); rw [qGT] at Hsg; clear HX; generalize decide (x < 0) = sx at *; have HBW := hZ hBW; have T2 : Hid (Two W.drew (n + 1) 58 (.bool false) (.slice none 0 0)) := hZ t2; have HS0 : Hid (qGD n (.bool sx) (.slice ax nx cx) W.drew) := hZ ⟨t1.cell0, t1.cell1⟩; have hs0 : n + 1 + 1 <= W.drew.heap.size := by show _ <= W.heap.size; omega
 have d0 := t1.cell0; have d1 := t1.cell1; clear t1 t2 hBW
 go_enter Try.func76, Try.ntmps76
 go_wp2_with fail
 clear hW
 go_region_held3 (fun w' => w'.cell? ⟨n, 0, none⟩ = some (.bool sx) /\ w'.cell? ⟨n, 1, none⟩ = some (.slice ax nx cx))
  (first | (exact HS.o) | (exact qGD.set2 HS.o _ _) | go_keep)
  (first
   | (go_at_call 82; refine (Hcl.o _ HBW.o.drew).mono ?_; rintro e w5 ⟨a5, l5, c5, rfl, hm5, hB5⟩; have Hm5 := hZ hm5; have HB5 := hZ hB5; have HS5 := hZ (HS0.o.below hB5 hs0); have s5 := HS5.o.2; have HS := hZ HS5.o.1; have HBW5 := hZ (HBW.o.drew.trans (hB5.mono (by omega))); clear hB5 hm5)
   | (go_at_call 57; refine (Hsg.o _ w5 Hm5.o).mono ?_; rintro e w6 ⟨rfl, hB6⟩; have Hm6 := hZ (qAd.below Hm5.o (Nat.le_refl _) hB6); have HB6 := hZ hB6; have HS6 := hZ (HS.o.below hB6 s5); clear HS; have s6 := HS6.o.2; have HS := hZ HS6.o.1; have T6 := (T2.o.below HB5.o (by omega)).below hB6 (by omega); have g0 := T6.cell0; have g1 := T6.cell1; have g2 := T6.frozen 0; have g3 := T6.frozen 1; have T6 := hZ T6; clear hB6))
 go_wp2
 refine bodyPost_ret (v := .agg #[.bool (decide (-x < 0)), .slice a5 l5 c5]) (by simp [results, Try.results76, go_sem, g0, g1]) rfl ⟨_, rfl, qAz.mk rfl ?_, ?_⟩
 ·rw [Int.natAbs_neg]
  exact qAd.store_two Hm6.o T6.o (fun _ _ h => by cases h) (fun _ _ h => by cases h) _ _
 ·rw [Hn.o]
  exact ((HBW5.o.trans (HB6.o.mono (by omega))).setCell (p := ⟨n + 1, 0, none⟩) (by show n <= n + 1; omega) _).setCell (p := ⟨n + 1, 1, none⟩) (by show n <= n + 1; omega) _
open Go.RowKit
def qBd (z : Int) : Value := if -9223372036854775808 <= z /\ z <= 9223372036854775807 then .tuple #[.int .i64 z, .bool true] else .tuple #[.int .i64 0, .bool false]
theorem qGX (y : Nat) (hy : y < 4294967296) : bits BinOp.or IntKind.u64 0 (y : Int) = (y : Int) := by
 have h := u64_or_nat 0 y (by omega) (by omega); rw [Nat.zero_or] at h; exact h
theorem qGY (x y : Nat) (hx : x < 4294967296) (hy : y < 4294967296) : bits BinOp.or IntKind.u64 (x : Int) ((y : Int) * 4294967296) = ((x + y * 4294967296 : Nat) : Int) := by
 have h := u64_or_nat x (y * 4294967296) (by omega) (by omega); have e : (((y * 4294967296 : Nat)) : Int) = (y : Int) * 4294967296 := by omega
 rw [e] at h; rw [h]; have h2 : x ||| y * 2 ^ 32 = y * 2 ^ 32 + x := by rw [Nat.or_comm, Nat.mul_comm, <- Nat.two_pow_add_eq_or_of_lt hx]
 have h3 : x ||| y * 4294967296 = x + y * 4294967296 := by rw [Nat.add_comm]; exact h2
 rw [h3]
theorem qFS (vx : Value) (z : Int) (w : World) (hx : qAz w vx z) (hlx : z.natAbs < LIM) :
 Calls Try.prog 52 #[vx] w fun e w' => e = .returned (qBd z) /\ Below w.heap.size w w' := by
 obtain ⟨ax, nx, cx, rfl, hmx⟩ := hx.form; have hlen := (qA4 _).2 hlx; obtain ⟨a', c', hv, q1, q2, hc⟩ := hmx; injection hv with e1 e2 e3; subst e1 e2 e3; have Hc := hZ hc; have Hlow := hZ (qAl W2 qAm z.natAbs); have Hval := hZ (qAi W2 qAm z.natAbs); clear hx hc hlx; have HB := hZ (fun b1 n1 => (Below.refl w.heap.size w).alloc (Nat.le_refl _) (.cells #[.bool b1, .slice ax n1 cx] 58)); obtain ⟨A, hA⟩ := eX (qAe W2 z.natAbs); have HA := hZ hA; rw [hA] at Hc Hlow Hval hlen q1 ⊢; clear hA; obtain ⟨N, hN⟩ := eX A.length; have HN := hZ hN; rw [hN] at hlen q1 ⊢; clear hN; by_cases h2 : 2 < N
 ·have Hbig : Hid (qBd z = .tuple #[.int .i64 0, .bool false]) := hZ (by
   have h3 : W2 ^ 2 <= z.natAbs := by
    rcases Nat.lt_or_ge z.natAbs (W2 ^ 2) with h | h
    ·have := qAO W2 qAm 2 z.natAbs h
     rw [HA.o, HN.o] at this; omega
    ·exact h
   have h4 : W2 ^ 2 = 18446744073709551616 := rfl; unfold qBd; rw [if_neg (by omega)])
  go_enter Try.func52, Try.ntmps52
  go_wp2
  go_ret2
  exact ⟨by rw [Hbig.o]; rfl, HB.o _ _⟩
 ·go_enter Try.func52, Try.ntmps52
  go_wp2_with fail
  go_loopw [4, 14] (fun sv i wr => ∃ (k s : Nat), k <= N /\ i = .int .i64 k /\ sv = .int .u64 (s : Int) /\ Hid (s = val W2 (A.take k)) /\ Hid (w.alloc (.cells #[.bool (decide (z < 0)), .slice ax N cx] 58) = wr)) (fun _ i _ => N - (intOf i).toNat)
  case atStart => exact ⟨0, 0, by omega, rfl, rfl, hZ (by simp [val]), hZ rfl⟩
  case round =>
   obtain ⟨k, s, hk, rfl, rfl, hs, hw⟩ := hrel; by_cases hlt : k < N
   ·have hka : k < A.length := by rw [HN.o]; exact hlt
    obtain ⟨b, off, rfl, hb, hcc⟩ := Hc.o (by omega); have hyl : A[k] < 4294967296 := Hlow.o _ (List.getElem_mem hka); have cy : wr.cell? ⟨b, off + k, none⟩ = some (.int .u32 (A[k] : Int)) := by
     rw [<- hw.o, World.cell?_alloc_lt _ _ _ hb]; exact hcc k hka
    have Hst := hZ (qAf W2 A k hka); clear hcc; generalize A[k] = y at *; have hk2 : k = 0 \/ k = 1 := by omega
    rcases hk2 with rfl | rfl
    ·obtain rfl : s = 0 := by rw [hs.o]; simp [val]
     have hor := qGX y hyl; rw [Nat.add_zero] at cy
     go_wp2_with fail
     refine ⟨⟨1, y, by omega, rfl, rfl, hZ ?_, hw⟩, ?_⟩
     ·have := Hst.o
      rw [Nat.zero_add] at this; rw [this]; simp [val]
     ·simp [intOf]; omega
    ·have hs1 : s < 4294967296 := by
      have h3 := qBk W2 (by decide) (A.take 1) (qDg Hlow.o 1); rw [List.length_take, Nat.min_eq_left (by omega)] at h3; rw [hs.o]; exact h3
     have hor := qGY s y hs1 hyl
     go_wp2_with fail
     refine ⟨⟨2, s + y * 4294967296, by omega, rfl, by go_num, hZ ?_, hw⟩, ?_⟩
     ·have := Hst.o
      rw [show 1 + 1 = 2 from rfl] at this; rw [this, <- hs.o]; rfl
     ·simp [intOf]; omega
   ·obtain rfl : k = N := by omega
    clear hlt; obtain rfl : s = z.natAbs := by
     rw [hs.o, List.take_of_length_le (by rw [HN.o]; exact Nat.le_refl _)]; exact Hval.o
    have hs2 : z.natAbs < 18446744073709551616 := by
     have h3 := qBk W2 (by decide) A Hlow.o; rw [Hval.o, HN.o] at h3; have h4 : W2 ^ k <= W2 ^ 2 := Nat.pow_le_pow_right (by decide) (by omega); have h5 : W2 ^ 2 = 18446744073709551616 := rfl; omega
    have HBw : Hid (Below w.heap.size w wr) := hZ (by rw [<- hw.o]; exact HB.o _ _); have cneg : wr.cell? ⟨w.heap.size, 0, none⟩ = some (.bool (decide (z < 0))) := by
     rw [<- hw.o]; exact (Two.new w 58 _ _).cell0
    clear hw Hc HB hs; by_cases hz : z < 0
    ·rw [decide_eq_true hz] at cneg
     have hza : (z.natAbs : Int) = -z := by omega
     obtain ⟨m, hm⟩ := eX z.natAbs; rw [hm] at hs2 hza ⊢; have hmp : 0 < m := by omega
     by_cases hbig : 9223372036854775808 < m
     ·have Hb : Hid (qBd z = .tuple #[.int .i64 0, .bool false]) := hZ (by unfold qBd; rw [if_neg (by omega)])
      clear hm hza
      go_wp2
      go_ret2
      exact ⟨by rw [Hb.o]; rfl, HBw.o⟩
     ·have Hb : Hid (qBd z = .tuple #[.int .i64 (-(m : Int)), .bool true]) := hZ (by unfold qBd; rw [if_pos (by omega), hza, Int.neg_neg])
      have b1 : IntKind.u64.wrap (-(m : Int)) = 18446744073709551616 - (m : Int) := by rw [IntKind.wrap_u64]; omega
      have b2 : IntKind.i64.wrap (18446744073709551616 - (m : Int)) = -(m : Int) := by rw [IntKind.wrap_i64]; omega
      clear hm hza
      go_wp2
      go_ret2
      exact ⟨by rw [Hb.o]; rfl, HBw.o⟩
    ·rw [decide_eq_false hz] at cneg
     have hza : (z.natAbs : Int) = z := by omega
     obtain ⟨m, hm⟩ := eX z.natAbs; rw [hm] at hs2 hza ⊢; by_cases hbig : 9223372036854775807 < m
     ·have Hb : Hid (qBd z = .tuple #[.int .i64 0, .bool false]) := hZ (by unfold qBd; rw [if_neg (by omega)])
      clear hm hza
      go_wp2
      go_ret2
      exact ⟨by rw [Hb.o]; rfl, HBw.o⟩
     ·have Hb : Hid (qBd z = .tuple #[.int .i64 (m : Int), .bool true]) := hZ (by unfold qBd; rw [if_pos (by omega), hza])
      clear hm hza
      go_wp2
      go_ret2
      exact ⟨by rw [Hb.o]; rfl, HBw.o⟩
def qMC : Value -> Nat
 | .slice _ l _ => l
 | _ => 0
theorem qAd.set_two {k : IntKind} {w : World} {v : Value} {L : List Nat} {b : Nat} {t : TypeId} {x : Bool} {p : Option Addr} {l c : Nat} (h : qAd k w v L) (hT : Two w b t (.bool x) (.slice p l c)) (u u' : Value) :
 qAd k ((w.setCell ⟨b, 0, none⟩ u).setCell ⟨b, 1, none⟩ u') v L := by
 obtain ⟨a, cap, hv, h1, h2, hc⟩ := h; refine ⟨a, cap, hv, h1, h2, fun h0 => ?_⟩; obtain ⟨g, off, ha, hlt, hcc⟩ := hc h0; have hne : g ≠ b := by
  rintro rfl; have h3 := hcc 0 h0; rw [cell_of_row w g (off + 0) _ t (0, 0) hT] at h3
  match off, h3 with
  | 0, h3 => cases h3
  | 1, h3 => cases h3
  | n + 2, h3 => cases h3
 refine ⟨g, off, ha, by simp [World.setCell]; exact hlt, fun j hj => ?_⟩; rw [World.cell?_of_block (w := w) (w' := (w.setCell ⟨b, 0, none⟩ u).setCell ⟨b, 1, none⟩ u')]
 ·exact hcc j hj
 ·exact (Below.heap_setCell _ ⟨b, 1, none⟩ u' g hne).trans (Below.heap_setCell _ ⟨b, 0, none⟩ u g hne)
def qIz : Value -> Nat
 | .int _ i => (i + 1).toNat
 | _ => 0
open Go.RowKit
def sv (t : Tx) : Value := .string ⟨t.toArray⟩
structure Amt where
 item : Nat
 n : Nat
structure Rul where
 name : Tx
 spawn : Bool
 time : Nat
 of_ : Nat
 take : List Amt
 give : List Amt
 back : List Amt
structure Cat where
 items : List Tx
 rules : List Rul
def qLp (l : List Amt) : Prop := l.Pairwise (fun a b => a.item < b.item)
structure qJr (n M K : Nat) (l : List Amt) : Prop where
 sorted : qLp l
 all : ∀ a ∈ l, a.item < n /\ 1 <= a.n /\ a.n <= M
 len : l.length <= K
theorem qJr.mono {n M M' K K' : Nat} {l : List Amt} (h : qJr n M K l) (hM : M <= M') (hK : K <= K') : qJr n M' K' l :=
 ⟨h.sorted, fun a ha => by have := h.all a ha; omega, by have := h.len; omega⟩
theorem qJr.nil (n M K : Nat) : qJr n M K [] := ⟨List.Pairwise.nil, (fun _ h => by cases h), by simp⟩
structure qMz (pk : Nat -> Nat -> Nat) : Prop where
 lt : ∀ i m, 0 < m -> pk i m < m
section
variable {pk : Nat -> Nat -> Nat} {bal : Bool} (hp : qMz pk)
include hp
omit hp in
end
open Go.RowKit
def zv (x : Int) : Value := .int .i64 x
def qAh {α : Type} (k : Nat) (R : World -> α -> List Value -> Prop) (w : World) (v : Value) (xs : List α) : Prop :=
 ∃ a cap, v = .slice a xs.length cap /\ xs.length <= cap /\ cap <= 9223372036854775807 /\ (0 < xs.length -> ∃ b, a = some ⟨b, 0, none⟩ /\ b < w.heap.size /\ ∀ j (h : j < xs.length), ∃ cs, R w xs[j] cs /\ cs.length = k /\ ∀ i, i < k -> w.cell? ⟨b, j * k + i, none⟩ = cs[i]?)
section
variable {α : Type} {k : Nat} {R : World -> α -> List Value -> Prop} {w w' : World} {v : Value} {xs : List α}
theorem qAh.below (h : qAh k R w v xs) (hb : Below w.heap.size w w') (hR : ∀ x cs, R w x cs -> R w' x cs) : qAh k R w' v xs := by
 obtain ⟨a, cap, hv, h1, h2, hc⟩ := h; refine ⟨a, cap, hv, h1, h2, fun h0 => ?_⟩; obtain ⟨b, ha, hlt, hcc⟩ := hc h0; refine ⟨b, ha, Nat.lt_of_lt_of_le hlt hb.size, fun j hj => ?_⟩; obtain ⟨cs, hr, hl, hcl⟩ := hcc j hj; exact ⟨cs, hR _ _ hr, hl, fun i hi => (hb.cell (p := ⟨b, j * k + i, none⟩) hlt).trans (hcl i hi)⟩
theorem qAh.nil (a : Option Addr) (cap : Nat) (hc : cap <= 9223372036854775807) : qAh k R w (.slice a 0 cap) [] := ⟨a, cap, rfl, by simp, hc, fun h => by simp at h⟩
theorem qAh.form (h : qAh k R w v xs) : ∃ a cap, v = .slice a xs.length cap /\ xs.length <= cap /\ cap <= 9223372036854775807 := by
 obtain ⟨a, cap, hv, h1, h2, _⟩ := h; exact ⟨a, cap, hv, h1, h2⟩
theorem qAh.at_ (h : qAh k R w v xs) (j : Nat) (hj : j < xs.length) : ∃ b cap cs, v = .slice (some ⟨b, 0, none⟩) xs.length cap /\ b < w.heap.size /\ R w xs[j] cs /\ cs.length = k /\ ∀ i, i < k -> w.cell? ⟨b, j * k + i, none⟩ = cs[i]? := by
 obtain ⟨a, cap, rfl, h1, h2, hc⟩ := h; obtain ⟨b, rfl, hlt, hcc⟩ := hc (by omega); obtain ⟨cs, hr, hl, hcl⟩ := hcc j hj; exact ⟨b, cap, cs, rfl, hlt, hr, hl, hcl⟩
theorem qAh.take {a : Option Addr} {n cap : Nat} (h : qAh k R w (.slice a n cap) xs) (m : Nat) (hm : m <= xs.length) : qAh k R w (.slice a m cap) (xs.take m) := by
 obtain ⟨a', cap', hv, h1, h2, hc⟩ := h; injection hv with e1 e2 e3; subst e1 e3; have hl : (xs.take m).length = m := by rw [List.length_take]; omega
 refine ⟨a, cap, by rw [hl], by omega, h2, fun h0 => ?_⟩; obtain ⟨b, ha, hlt, hcc⟩ := hc (by omega); refine ⟨b, ha, hlt, fun j hj => ?_⟩; obtain ⟨cs, hr, hx⟩ := hcc j (by omega); exact ⟨cs, by rw [List.getElem_take]; exact hr, hx⟩
theorem qDG : ∀ (css : List (List Value)) (k j i : Nat), (∀ cs ∈ css, cs.length = k) -> (hj : j < css.length) -> i < k -> css.flatten[j * k + i]? = css[j][i]?
 | [], _, _, _, _, hj, _ => by simp at hj
 | cs :: css, k, 0, i, h, _, hi => by
  have := h cs (by simp); rw [List.flatten_cons, List.getElem?_append_left (by omega)]; simp
 | cs :: css, k, j + 1, i, h, hj, hi => by
  have := h cs (by simp); rw [List.flatten_cons, List.getElem?_append_right (by rw [Nat.succ_mul]; omega), show (j + 1) * k + i - cs.length = j * k + i by rw [Nat.succ_mul]; omega, qDG css k j i (fun c hc => h c (by simp [hc])) (by simpa using hj) hi]; simp
theorem qAh.of_own {base : Nat} {e : TypeId} {css : List (List Value)} (h : w.ownsRow base e k v css.length css.flatten) (hk : ∀ cs ∈ css, cs.length = k) (hl : css.length = xs.length)
 (hR : ∀ j (h : j < xs.length) (h' : j < css.length), R w xs[j] css[j]) : qAh k R w v xs := by
 rcases h.2 with ⟨hv, hx⟩ | ⟨g, cap, cur, hv, hb, hh, hn, hm, hs, ht⟩
 ·have : xs = [] := List.eq_nil_of_length_eq_zero (by omega)
  subst this; rw [hv]; exact qAh.nil _ _ (by omega)
 ·rw [hl] at hv hn
  refine ⟨_, cap, hv, hn, by unfold maxLen at hm; exact hm, fun h0 => ⟨g, rfl, (Array.getElem?_eq_some_iff.1 hh).1, fun j hj => ⟨css[j]'(by omega), hR j hj (by omega), hk _ (List.getElem_mem _), fun i hi => ?_⟩⟩⟩; rw [cell_of_row w g (j * k + i) _ e (0, 0) hh, <- qDG css k j i hk (by omega) hi, <- ht]; rw [List.getElem?_take, if_pos, Array.getElem?_toList]; exact Nat.lt_of_lt_of_le (show j * k + i < (j + 1) * k by rw [Nat.succ_mul]; omega) (Nat.mul_le_mul_right _ (by omega))
end
def qMK (a : Amt) : List Value := [zv a.item, zv a.n]
def qE3 (w : World) (v : Value) (l : List Amt) : Prop := qAh 2 (fun _ a cs => cs = qMK a) w v l
def qMJ (n : Tx) : List Value := [.string ⟨n.toArray⟩, .bool false, .bool false, .bool false, zv 0, zv 0, zv 0]
def qFH (w : World) (v : Value) (l : List Tx) : Prop := qAh 7 (fun _ n cs => cs = qMJ n) w v l
def qME (r : Rul) (vt vg vb : Value) : List Value := [.string ⟨r.name.toArray⟩, .bool r.spawn, zv 0, zv r.time, zv 1, zv r.of_, vt, vg, vb]
def qKc (w : World) (r : Rul) (cs : List Value) : Prop := ∃ vt vg vb, cs = qME r vt vg vb /\ qE3 w vt r.take /\ qE3 w vg r.give /\ qE3 w vb r.back
def qFE (w : World) (v : Value) (l : List Rul) : Prop := qAh 9 qKc w v l
def qAo (w : World) (v : Value) (l : List Int) : Prop := qAh 1 (fun _ a cs => cs = [zv a]) w v l
structure qLy (w : World) (vi vr : Value) (c : Cat) : Prop where
 items : qFH w vi c.items
 rules : qFE w vr c.rules
section
variable {w w' : World} {v : Value}
theorem qE3.below {l : List Amt} (h : qE3 w v l) (hb : Below w.heap.size w w') : qE3 w' v l := qAh.below h hb (fun _ _ h => h)
theorem qFH.below {l : List Tx} (h : qFH w v l) (hb : Below w.heap.size w w') : qFH w' v l := qAh.below h hb (fun _ _ h => h)
theorem qAo.below {l : List Int} (h : qAo w v l) (hb : Below w.heap.size w w') : qAo w' v l := qAh.below h hb (fun _ _ h => h)
theorem qKc.below {r : Rul} {cs : List Value} (h : qKc w r cs) (hb : Below w.heap.size w w') : qKc w' r cs := by
 obtain ⟨vt, vg, vb, h1, h2, h3, h4⟩ := h; exact ⟨vt, vg, vb, h1, h2.below hb, h3.below hb, h4.below hb⟩
theorem qFE.below {l : List Rul} (h : qFE w v l) (hb : Below w.heap.size w w') : qFE w' v l := qAh.below h hb (fun _ _ h => h.below hb)
theorem qLy.below {vi vr : Value} {c : Cat} (h : qLy w vi vr c) (hb : Below w.heap.size w w') : qLy w' vi vr c := ⟨h.items.below hb, h.rules.below hb⟩
end
theorem qAo.at_ {w : World} {v : Value} {l : List Int} (h : qAo w v l) (j : Nat) (hj : j < l.length) :
 ∃ b cap, v = .slice (some ⟨b, 0, none⟩) l.length cap /\ b < w.heap.size /\ w.cell? ⟨b, j, none⟩ = some (.int .i64 l[j]) := by
 obtain ⟨b, cap, cs, hv, hb, rfl, _, hc⟩ := qAh.at_ h j hj; have := hc 0 (by omega); rw [Nat.mul_one, Nat.add_zero] at this; exact ⟨b, cap, hv, hb, this⟩
end Go.Proofs.Ytlmbebbdamgfpaa
