/- wide: Mul, Neg, Add, Sub. -/
import Derived.Test.YtlmbebbdamgfpaaQHWTimes
import Derived.Deep.RegionHeld3
set_option linter.unusedVariables false
set_option linter.unusedSimpArgs false
set_option maxHeartbeats 4000000
set_option maxRecDepth 100000
namespace Go.Proofs.Ytlmbebbdamgfpaa
open Go.RowKit
def LIM : Nat := 2 ^ 16384
theorem qKk : W2 ^ 512 = LIM := by decide +kernel
theorem qLU : LIM = 2 ^ 16384 := by unfold LIM; with_reducible rfl
attribute [irreducible] LIM
theorem qA4 (n : Nat) : (qAe W2 n).length <= 512 ↔ n < LIM := by
 rw [<- qKk]; constructor
 ·intro h
  rcases Nat.lt_or_ge n (W2 ^ 512) with h1 | h1
  ·exact h1
  ·have := qEx W2 qAm 512 n h1; omega
 ·exact qAO W2 qAm 512 n
def qAz (w : World) (v : Value) (z : Int) : Prop := ∃ vw, v = .agg #[.bool (decide (z < 0)), vw] /\ qAT w vw z.natAbs
theorem qAz.below {w w' : World} {v : Value} {z : Int} (h : qAz w v z) (hb : Below w.heap.size w w') : qAz w' v z := by
 obtain ⟨vw, hv, hm⟩ := h; exact ⟨vw, hv, hm.below (Nat.le_refl _) hb⟩
theorem qAz.below' {w w' : World} {v : Value} {z : Int} {B : Nat} (h : qAz w v z) (hB : w.heap.size <= B) (hb : Below B w w') : qAz w' v z := by
 obtain ⟨vw, hv, hm⟩ := h; exact ⟨vw, hv, hm.below hB hb⟩
theorem qAz.mk {w : World} {b : Bool} {vw : Value} {z : Int} (hb : decide (z < 0) = b) (hm : qAT w vw z.natAbs) : qAz w (.agg #[.bool b, vw]) z := ⟨vw, by rw [hb], hm⟩
theorem qAz.form {w : World} {v : Value} {z : Int} (h : qAz w v z) : ∃ a n cap, v = .agg #[.bool (decide (z < 0)), .slice a n cap] /\ qAT w (.slice a n cap) z.natAbs := by
 obtain ⟨vw, hv, hm⟩ := h; have hm' := hm; obtain ⟨a, cap, rfl, _⟩ := hm; exact ⟨a, _, cap, hv, hm'⟩
def sgn (neg : Bool) (n : Nat) : Int := if neg then -(n : Int) else n
theorem qAG (neg : Bool) (n : Nat) : (sgn neg n).natAbs = n := by unfold sgn; cases neg <;> simp
theorem qIL (neg : Bool) (n : Nat) : decide (sgn neg n < 0) = (neg && decide (0 < n)) := by
 unfold sgn; cases neg <;> simp
theorem qAU (neg : Bool) (vw : Value) (n : Nat) (w : World) (h : qAT w vw n) :
 Calls Try.prog 57 #[.bool neg, vw] w fun e w' => e = .returned (.agg #[.bool (decide (sgn neg n < 0)), vw]) /\ Below w.heap.size w w' := by
 obtain ⟨a, cap, rfl, h1, h2, hcc⟩ := h; clear hcc; have hpos : decide (0 < (qAe W2 n).length) = decide (0 < n) := by
  by_cases h0 : n = 0
  ·subst h0; rfl
  ·have := List.length_pos_iff.2 (fun h => h0 ((qBM W2 n qAm).1 h))
   simp only [this, decide_true, Nat.pos_of_ne_zero h0]
 rw [qIL]; obtain ⟨N, hN⟩ := eX ((qAe W2 n).length); rw [hN] at hpos h1 ⊢; clear hN; by_cases h0 : 0 < N
 ·have hp : decide (0 < n) = true := by rw [<- hpos]; simpa using h0
  rw [hp, Bool.and_true]; clear hp hpos; cases neg
  all_goals
   go_enter Try.func57, Try.ntmps57
   go_wp2
   exact bodyPost_ret (by simp [results, Try.results57, go_sem]) rfl ⟨rfl, (Below.refl _ _).alloc (Nat.le_refl _) _⟩
 ·obtain rfl : N = 0 := by omega
  have hp : decide (0 < n) = false := by rw [<- hpos]; rfl
  rw [hp, Bool.and_false]; clear hp hpos; cases neg
  all_goals
   go_enter Try.func57, Try.ntmps57
   go_wp2
   exact bodyPost_ret (by simp [results, Try.results57, go_sem]) rfl ⟨rfl, (Below.refl _ _).alloc (Nat.le_refl _) _⟩
def Two (w : World) (b : Nat) (t : TypeId) (x y : Value) : Prop := w.heap[b]? = some (.cells #[x, y] t (0, 0))
section
variable {w w' : World} {b : Nat} {t : TypeId} {x y : Value}
theorem Two.lt (h : Two w b t x y) : b < w.heap.size := by
 rcases Nat.lt_or_ge b w.heap.size with hlt | hge
 ·exact hlt
 ·unfold Two at h; rw [Array.getElem?_eq_none hge] at h; cases h
theorem Two.cell0 (h : Two w b t x y) : w.cell? ⟨b, 0, none⟩ = some x := by rw [cell_of_row w b 0 _ t (0, 0) h]; rfl
theorem Two.cell1 (h : Two w b t x y) : w.cell? ⟨b, 1, none⟩ = some y := by rw [cell_of_row w b 1 _ t (0, 0) h]; rfl
theorem Two.frozen (h : Two w b t x y) (i : Nat) : w.frozen? ⟨b, i, none⟩ = false := by
 unfold Two at h; simp [World.frozen?, h]
theorem Two.below {B : Nat} (h : Two w b t x y) (hb : Below B w w') (hg : b < B) : Two w' b t x y := (hb.block b hg).trans h
theorem Two.new (w : World) (t : TypeId) (x y : Value) : Two (w.alloc (.cells #[x, y] t)) w.heap.size t x y := heap_alloc_new w _
theorem Two.alloc (h : Two w b t x y) (o : Obj) : Two (w.alloc o) b t x y := (Below.heap_alloc w o b h.lt).trans h
end
def qCB (z : Int) (w : World) (e : Ending) (w' : World) : Prop :=
 Below w.heap.size w w' /\ ((z.natAbs < LIM /\ ∃ v, e = .returned (.tuple #[v, .int .i64 0]) /\ qAz w' v z) \/ (LIM <= z.natAbs /\ e = .returned (.tuple #[.agg #[.bool false, .slice none 0 0], .int .i64 4])))
theorem qEq (neg : Bool) (vw : Value) (n : Nat) (w : World) (h : qAT w vw n) (hlen : (qAe W2 n).length <= 4194304) :
 Calls Try.prog 93 #[.bool neg, vw] w (qCB (sgn neg n) w) := by
 have Hm := hZ h; have hlim := qA4 n; have hab := qAG neg n; obtain ⟨a, cap, rfl, h1, h2, hcc⟩ := h; clear hcc; have Hl := hZ (Classical.em (n < LIM)); have Hab := hZ hab; clear hab; by_cases hl : n < LIM
 ·have hle := hlim.2 hl
  have Hl := hZ hl; clear hlim hl; have Hs := hZ (fun w' (hb : Below w.heap.size w w') => qAU neg _ n w' (Hm.o.below (Nat.le_refl _) hb)); have HBa := hZ ((Below.refl w.heap.size w).alloc (Nat.le_refl _) (.cells #[.bool false, .slice none 0 0] 58)); have HT := hZ (Two.new w 58 (.bool false) (.slice none 0 0)); generalize (qAe W2 n).length = N at *
  go_enter Try.func93, Try.ntmps93
  go_wp2_with fail
  refine (Hs.o _ HBa.o).mono ?_; rintro e w1 ⟨rfl, hB⟩; have hT1 := HT.o.below hB (by simp); have c0 := hT1.cell0; have c1 := hT1.cell1; have f0 := hT1.frozen 0; have f1 := hT1.frozen 1; have HB1 := hZ (HBa.o.trans (hB.mono (by simp))); clear hT1 hB
  go_wp2
  refine bodyPost_ret (v := .tuple #[.agg #[.bool (decide (sgn neg n < 0)), .slice a N cap], .int .i64 0]) (by simp [results, Try.results93, go_sem, c0, c1]) rfl ⟨(HB1.o.setCell (p := ⟨w.heap.size, 0, none⟩) (Nat.le_refl _) _).setCell (p := ⟨w.heap.size, 1, none⟩) (Nat.le_refl _) _, .inl ⟨by rw [Hab.o]; exact Hl.o, _, rfl, _, rfl, ?_⟩⟩; rw [Hab.o]; exact Hm.o.below (Nat.le_refl _) ((HB1.o.setCell (p := ⟨w.heap.size, 0, none⟩) (Nat.le_refl _) _).setCell (p := ⟨w.heap.size, 1, none⟩) (Nat.le_refl _) _)
 ·have hgt : ¬ (qAe W2 n).length <= 512 := fun h => hl (hlim.1 h)
  have Hl := hZ hl; clear hl hlim; generalize (qAe W2 n).length = N at *
  go_enter Try.func93, Try.ntmps93
  go_wp2
  refine bodyPost_ret (v := .tuple #[.agg #[.bool false, .slice none 0 0], .int .i64 4]) (by simp [results, Try.results93, go_sem]) rfl ⟨(Below.refl _ _).alloc (Nat.le_refl _) _, .inr ⟨by rw [Hab.o]; exact Nat.le_of_not_lt Hl.o, rfl⟩⟩
theorem qCH (neg : Bool) (vw : Value) (n : Nat) (w : World) (h : qAT w vw n) (hn : n < LIM) :
 Calls Try.prog 93 #[.bool neg, vw] w fun e w' => ∃ a l cap, e = .returned (.tuple #[.agg #[.bool (decide (sgn neg n < 0)), .slice a l cap], .int .i64 0]) /\ qAT w' (.slice a l cap) n /\ Below w.heap.size w w' := by
 have hlen := (qA4 n).2 hn; refine (qEq neg vw n w h (by omega)).mono ?_; rintro e w' ⟨hB, ⟨_, v, rfl, hW⟩ | ⟨hl, rfl⟩⟩
 ·obtain ⟨a, l, cap, rfl, hm⟩ := hW.form
  rw [qAG] at hm; exact ⟨a, l, cap, rfl, hm, hB⟩
 ·rw [qAG] at hl; omega
theorem qCr (neg : Bool) (vw : Value) (n : Nat) (w : World) (h : qAT w vw n) (hn : LIM <= n) (hlen : (qAe W2 n).length <= 4194304) :
 Calls Try.prog 93 #[.bool neg, vw] w fun e w' => e = .returned (.tuple #[.agg #[.bool false, .slice none 0 0], .int .i64 4]) /\ Below w.heap.size w w' := by
 refine (qEq neg vw n w h hlen).mono ?_; rintro e w' ⟨hB, ⟨hl, v, rfl, hW⟩ | ⟨hl, rfl⟩⟩
 ·rw [qAG] at hl; omega
 ·exact ⟨rfl, hB⟩
theorem qCi (w : World) (t : TypeId) (x1 x2 y1 y2 z1 z2 : Value) (n : Nat) (hn : w.heap.size = n) : ∃ W, ((w.alloc (.cells #[x1, x2] t)).alloc (.cells #[y1, y2] t)).alloc (.cells #[z1, z2] t) = W /\
 Two W n t x1 x2 /\ Two W (n + 1) t y1 y2 /\ Two W (n + 1 + 1) t z1 z2 /\ Below n w W /\ W.heap.size = n + 1 + 1 + 1 := by
 subst hn; refine ⟨_, rfl, ((Two.new w t x1 x2).alloc _).alloc _, ?_, ?_, (((Below.refl w.heap.size w).alloc (Nat.le_refl _) _).alloc (by simp) _).alloc (by simp; omega) _, by simp⟩
 ·have := (Two.new (w.alloc (.cells #[x1, x2] t)) t y1 y2).alloc (.cells #[z1, z2] t)
  rw [World.size_alloc] at this; exact this
 ·have := Two.new ((w.alloc (.cells #[x1, x2] t)).alloc (.cells #[y1, y2] t)) t z1 z2
  rw [World.size_alloc, World.size_alloc] at this; exact this
def qBw (n : Nat) (x1 x2 y1 y2 : Value) (w : World) : Prop := w.cell? ⟨n, 0, none⟩ = some x1 /\ w.cell? ⟨n, 1, none⟩ = some x2 /\ w.cell? ⟨n + 1, 0, none⟩ = some y1 /\ w.cell? ⟨n + 1, 1, none⟩ = some y2
theorem qBw.below {n : Nat} {x1 x2 y1 y2 : Value} {w w' : World} (h : qBw n x1 x2 y1 y2 w) (hb : Below w.heap.size w w') (hs : n + 1 + 1 + 1 <= w.heap.size) : qBw n x1 x2 y1 y2 w' /\ n + 1 + 1 + 1 <= w'.heap.size :=
 ⟨⟨(hb.cell (p := ⟨n, 0, none⟩) (by show n < _; omega)).trans h.1, (hb.cell (p := ⟨n, 1, none⟩) (by show n < _; omega)).trans h.2.1, (hb.cell (p := ⟨n + 1, 0, none⟩) (by show n + 1 < _; omega)).trans h.2.2.1, (hb.cell (p := ⟨n + 1, 1, none⟩) (by show n + 1 < _; omega)).trans h.2.2.2⟩, by have := hb.size; omega⟩
theorem qBw.set2 {n : Nat} {x1 x2 y1 y2 : Value} {w : World} (h : qBw n x1 x2 y1 y2 w) (u1 u2 : Value) : qBw n x1 x2 y1 y2 ((w.setCell ⟨n + 1 + 1, 0, none⟩ u1).setCell ⟨n + 1 + 1, 1, none⟩ u2) := by
 have e : ∀ b o, b ≠ n + 1 + 1 -> ((w.setCell ⟨n + 1 + 1, 0, none⟩ u1).setCell ⟨n + 1 + 1, 1, none⟩ u2).cell? ⟨b, o, none⟩ = w.cell? ⟨b, o, none⟩ := fun b o hb => by
  rw [World.cell?_setCell_other _ _ _ _ (by intro e; injection e; omega), World.cell?_setCell_other _ _ _ _ (by intro e; injection e; omega)]
 exact ⟨(e _ _ (by omega)).trans h.1, (e _ _ (by omega)).trans h.2.1, (e _ _ (by omega)).trans h.2.2.1, (e _ _ (by omega)).trans h.2.2.2⟩
theorem qAd.store_two {k : IntKind} {w : World} {v : Value} {L : List Nat} {g : Nat} {t : TypeId} {x y : Value} (h : qAd k w v L) (ht : Two w g t x y) (hx : ∀ k i, x ≠ .int k i) (hy : ∀ k i, y ≠ .int k i) (u1 u2 : Value) :
 qAd k ((w.setCell ⟨g, 0, none⟩ u1).setCell ⟨g, 1, none⟩ u2) v L := by
 obtain ⟨a, cap, hv, h1, h2, hc⟩ := h; refine ⟨a, cap, hv, h1, h2, fun h0 => ?_⟩; obtain ⟨b, off, ha, hlt, hcc⟩ := hc h0; have hne : b ≠ g := by
  rintro rfl; have h3 := hcc 0 h0; rw [cell_of_row w b (off + 0) _ t (0, 0) ht] at h3
  match off, h3 with
  | 0, h3 => simp at h3; exact hx _ _ h3
  | 1, h3 => simp at h3; exact hy _ _ h3
  | o + 2, h3 => simp at h3
 have hsz : ((w.setCell ⟨g, 0, none⟩ u1).setCell ⟨g, 1, none⟩ u2).heap.size = w.heap.size := by simp [World.setCell]
 refine ⟨b, off, ha, by rw [hsz]; exact hlt, fun j hj => ?_⟩; rw [World.cell?_setCell_other _ _ _ _ (by intro e; injection e; omega), World.cell?_setCell_other _ _ _ _ (by intro e; injection e; omega)]; exact hcc j hj
open Go.RowKit
theorem qGU (x y : Int) : sgn (decide (x < 0) != decide (y < 0)) (x.natAbs * y.natAbs) = x * y := by
 unfold sgn; rcases Int.lt_or_le x 0 with hx | hx <;> rcases Int.lt_or_le y 0 with hy | hy
 all_goals
  obtain ⟨a, ha⟩ := Int.eq_ofNat_of_zero_le (show (0 : Int) <= x.natAbs by omega); simp [hx, hy, Int.not_lt.2]
 ·rw [show ((x.natAbs : Nat) : Int) = -x by omega, show ((y.natAbs : Nat) : Int) = -y by omega]; grind
 ·rw [show ((x.natAbs : Nat) : Int) = -x by omega, show ((y.natAbs : Nat) : Int) = y by omega]; grind
 ·rw [show ((x.natAbs : Nat) : Int) = x by omega, show ((y.natAbs : Nat) : Int) = -y by omega]; grind
 ·rw [show ((x.natAbs : Nat) : Int) = x by omega, show ((y.natAbs : Nat) : Int) = y by omega]
theorem qGp (m n a b : Nat) (ha : (qAe W2 m).length <= a) (hb : (qAe W2 n).length <= b) : (qAe W2 (m * n)).length <= a + b := by
 apply qAO W2 qAm; rw [Nat.pow_add]; have h1 := qBk W2 (by decide) _ (qAl W2 qAm m); have h2 := qBk W2 (by decide) _ (qAl W2 qAm n); rw [qAi W2 qAm] at h1 h2; exact Nat.mul_lt_mul'' (Nat.lt_of_lt_of_le h1 (Nat.pow_le_pow_right (by decide) ha)) (Nat.lt_of_lt_of_le h2 (Nat.pow_le_pow_right (by decide) hb))
theorem qKT (vx vy : Value) (x y : Int) (w : World) (hx : qAz w vx x) (hy : qAz w vy y) (hlx : x.natAbs < LIM) (hly : y.natAbs < LIM) :
 Calls Try.prog 67 #[vx, vy] w (qCB (x * y) w) := by
 obtain ⟨ax, nx, cx, rfl, hmx⟩ := hx.form; obtain ⟨ay, ny, cy, rfl, hmy⟩ := hy.form; have hlx' := (qA4 _).2 hlx; have hly' := (qA4 _).2 hly; have HX := hZ hmx; have HY := hZ hmy; have Hsm := hZ (qGU x y); have hprod := qGp x.natAbs y.natAbs 512 512 hlx' hly'; clear hx hy hmx hmy hlx hly; obtain ⟨n, hn⟩ := eX w.heap.size; have Hn := hZ hn; have Ht := hZ (fun w' (hb : Below n w w') => qIF (.slice ax nx cx) (.slice ay ny cy) x.natAbs y.natAbs w' (HX.o.below (Nat.le_of_eq hn) hb) (HY.o.below (Nat.le_of_eq hn) hb) (by omega) (by omega)); have Hneg := hZ (show decide (x * y < 0) = decide (sgn (decide (x < 0) != decide (y < 0)) (x.natAbs * y.natAbs) < 0) by rw [qGU]); have Habs : Hid ((x * y).natAbs = x.natAbs * y.natAbs) := hZ (Int.natAbs_mul x y); clear Hsm HX HY hlx' hly'; obtain ⟨W, hW, t1, t2, t3, hBW, hsW⟩ := qCi w 58 (.bool (decide (x < 0))) (.slice ax nx cx) (.bool (decide (y < 0))) (.slice ay ny cy) (.bool false) (.slice none 0 0) n hn; generalize decide (x < 0) = sx at *; generalize decide (y < 0) = sy at *; generalize x.natAbs * y.natAbs = p at *; have HBW := hZ hBW; have T3 : Hid (Two W.drew (n + 1 + 1) 58 (.bool false) (.slice none 0 0)) := hZ t3; have HS0 : Hid (qBw n (.bool sx) (.slice ax nx cx) (.bool sy) (.slice ay ny cy) W.drew) := hZ ⟨t1.cell0, t1.cell1, t2.cell0, t2.cell1⟩; have hs0 : n + 1 + 1 + 1 <= W.drew.heap.size := by show _ <= W.heap.size; omega
 have d0 := t1.cell0; have d1 := t1.cell1; have d2 := t2.cell0; have d3 := t2.cell1; clear t1 t2 t3 hBW
 go_enter Try.func67, Try.ntmps67
 go_wp2_with fail
 clear hW; by_cases hp : p < LIM
 ·go_region_held3 (fun w' => w'.cell? ⟨n, 0, none⟩ = some (.bool sx) /\ w'.cell? ⟨n, 1, none⟩ = some (.slice ax nx cx) /\ w'.cell? ⟨n + 1, 0, none⟩ = some (.bool sy) /\ w'.cell? ⟨n + 1, 1, none⟩ = some (.slice ay ny cy))
   (first | (exact HS.o) | (exact qBw.set2 HS.o _ _) | go_keep)
   (first
    | (go_at_call 94; refine (Ht.o _ HBW.o.drew).mono ?_; rintro e w5 ⟨v5, rfl, hm5, hB5⟩; have Hm5 := hZ hm5; have HB5 := hZ hB5; have HS5 := hZ (HS0.o.below hB5 hs0); have s5 := HS5.o.2; have HS := hZ HS5.o.1; clear hm5 hB5)
    | (go_at_call 93; refine (qCH _ _ p w5 Hm5.o hp).mono ?_; rintro e w6 ⟨a6, l6, c6, rfl, hm6, hB6⟩; have Hm6 := hZ hm6; clear hm6; have HB6 := hZ hB6; have HS6 := hZ (HS.o.below hB6 s5); clear HS; have s6 := HS6.o.2; have HS := hZ HS6.o.1; have T6 := (T3.o.below HB5.o (by omega)).below hB6 (by omega); have g0 := T6.cell0; have g1 := T6.cell1; have g2 := T6.frozen 0; have g3 := T6.frozen 1; have T6 := hZ T6; clear hB6))
  go_wp2
  refine bodyPost_ret (v := .tuple #[.agg #[.bool (decide (sgn (!sx == sy) p < 0)), .slice a6 l6 c6], .int .i64 0]) (by simp [results, Try.results67, go_sem, g0, g1]) rfl ⟨?_, .inl ⟨by rw [Habs.o]; exact hp, _, rfl, qAz.mk ?_ ?_⟩⟩
  ·rw [Hn.o]
   exact (((HBW.o.drew.trans (HB5.o.mono (by omega))).trans (HB6.o.mono (by omega))).setCell (p := ⟨n + 1 + 1, 0, none⟩) (by show n <= n + 1 + 1; omega) _).setCell (p := ⟨n + 1 + 1, 1, none⟩) (by show n <= n + 1 + 1; omega) _
  ·rw [Hneg.o]; cases sx <;> cases sy <;> rfl
  ·rw [Habs.o]
   exact qAd.store_two Hm6.o T6.o (fun _ _ h => by cases h) (fun _ _ h => by cases h) _ _
 ·go_region_held3 (fun w' => w'.cell? ⟨n, 0, none⟩ = some (.bool sx) /\ w'.cell? ⟨n, 1, none⟩ = some (.slice ax nx cx) /\ w'.cell? ⟨n + 1, 0, none⟩ = some (.bool sy) /\ w'.cell? ⟨n + 1, 1, none⟩ = some (.slice ay ny cy))
   (first | (exact HS.o) | (exact qBw.set2 HS.o _ _) | go_keep)
   (first
    | (go_at_call 94; refine (Ht.o _ HBW.o.drew).mono ?_; rintro e w5 ⟨v5, rfl, hm5, hB5⟩; have Hm5 := hZ hm5; have HB5 := hZ hB5; have HS5 := hZ (HS0.o.below hB5 hs0); have s5 := HS5.o.2; have HS := hZ HS5.o.1; clear hm5 hB5)
    | (go_at_call 93; refine (qCr _ _ p w5 Hm5.o (Nat.le_of_not_lt hp) (by omega)).mono ?_; rintro e w6 ⟨rfl, hB6⟩; have HB6 := hZ hB6; have HS6 := hZ (HS.o.below hB6 s5); clear HS; have s6 := HS6.o.2; have HS := hZ HS6.o.1; have T6 := (T3.o.below HB5.o (by omega)).below hB6 (by omega); have g0 := T6.cell0; have g1 := T6.cell1; have g2 := T6.frozen 0; have g3 := T6.frozen 1; have T6 := hZ T6; clear hB6))
  go_wp2
  refine bodyPost_ret (v := .tuple #[.agg #[.bool false, .slice none 0 0], .int .i64 4]) (by simp [results, Try.results67, go_sem, g0, g1]) rfl ⟨?_, .inr ⟨by rw [Habs.o]; exact Nat.le_of_not_lt hp, rfl⟩⟩
  ·rw [Hn.o]
   exact (((HBW.o.drew.trans (HB5.o.mono (by omega))).trans (HB6.o.mono (by omega))).setCell (p := ⟨n + 1 + 1, 0, none⟩) (by show n <= n + 1 + 1; omega) _).setCell (p := ⟨n + 1 + 1, 1, none⟩) (by show n <= n + 1 + 1; omega) _
theorem qGq (m n a : Nat) (ha : (qAe W2 m).length <= a) (hb : (qAe W2 n).length <= a) : (qAe W2 (m + n)).length <= a + 1 := by
 apply qAO W2 qAm; have h1 := qBk W2 (by decide) _ (qAl W2 qAm m); have h2 := qBk W2 (by decide) _ (qAl W2 qAm n); rw [qAi W2 qAm] at h1 h2; have h3 := Nat.lt_of_lt_of_le h1 (Nat.pow_le_pow_right (by decide) ha); have h4 := Nat.lt_of_lt_of_le h2 (Nat.pow_le_pow_right (by decide) hb); rw [Nat.pow_succ]; have : W2 ^ a * 2 <= W2 ^ a * W2 := Nat.mul_le_mul_left _ (by decide); omega
theorem qCw (x y : Int) (h : decide (x < 0) = decide (y < 0)) : sgn (decide (x < 0)) (x.natAbs + y.natAbs) = x + y := by
 unfold sgn; by_cases hx : x < 0
 ·have hy : y < 0 := by simpa [hx] using h.symm
  simp [hx]; omega
 ·have hy : ¬ y < 0 := by simpa [hx] using h.symm
  simp [hx]; omega
theorem qBP (x y : Int) (h : decide (x < 0) ≠ decide (y < 0)) (hle : y.natAbs <= x.natAbs) : sgn (decide (x < 0)) (x.natAbs - y.natAbs) = x + y := by
 unfold sgn; by_cases hx : x < 0
 ·have hy : ¬ y < 0 := fun hy => h (by simp [hx, hy])
  simp [hx]; omega
 ·have hy : y < 0 := Classical.byContradiction fun hy => h (by simp [hx, hy])
  simp [hx]; omega
theorem qJh (m n : Nat) : decide (0 <= qAK (m : Int) (n : Int)) = decide (n <= m) := by
 unfold qAK; by_cases h1 : (m : Int) < n
 ·rw [if_pos h1]; simp; omega
 ·rw [if_neg h1]
  by_cases h2 : (n : Int) < m
  ·rw [if_pos h2]; simp; omega
  ·rw [if_neg h2]; simp; omega
theorem qJl (vx vy : Value) (x y : Int) (w : World) (hx : qAz w vx x) (hy : qAz w vy y) (hlx : x.natAbs < LIM) (hly : y.natAbs < LIM) :
 Calls Try.prog 92 #[vx, vy] w (qCB (x + y) w) := by
 obtain ⟨ax, nx, cx, rfl, hmx⟩ := hx.form; obtain ⟨ay, ny, cy, rfl, hmy⟩ := hy.form; have hlx' := (qA4 _).2 hlx; have hly' := (qA4 _).2 hly; have HX := hZ hmx; have HY := hZ hmy; clear hx hy hmx hmy hlx hly; obtain ⟨n, hn⟩ := eX w.heap.size; have Hn := hZ hn; obtain ⟨W, hW, t1, t2, t3, hBW, hsW⟩ := qCi w 58 (.bool (decide (x < 0))) (.slice ax nx cx) (.bool (decide (y < 0))) (.slice ay ny cy) (.bool false) (.slice none 0 0) n hn; by_cases hs : decide (x < 0) = decide (y < 0)
 ·have hprod := qGq x.natAbs y.natAbs 512 hlx' hly'
  have Ht := hZ (fun w' (hb : Below n w w') => qHB (.slice ax nx cx) (.slice ay ny cy) x.natAbs y.natAbs w' (HX.o.below (Nat.le_of_eq hn) hb) (HY.o.below (Nat.le_of_eq hn) hb) (by omega) (by omega)); have Hneg := hZ (show decide (x + y < 0) = decide (sgn (decide (x < 0)) (x.natAbs + y.natAbs) < 0) by rw [qCw x y hs]); have Habs : Hid ((x + y).natAbs = x.natAbs + y.natAbs) := hZ (by rw [<- qCw x y hs, qAG]); have hss : (decide (x < 0) == decide (y < 0)) = true := by rw [hs]; simp
  clear HX HY hlx' hly' hs; generalize decide (x < 0) = sx at *; generalize decide (y < 0) = sy at *; generalize x.natAbs + y.natAbs = p at *; have HBW := hZ hBW; have T3 : Hid (Two W.drew (n + 1 + 1) 58 (.bool false) (.slice none 0 0)) := hZ t3; have HS0 : Hid (qBw n (.bool sx) (.slice ax nx cx) (.bool sy) (.slice ay ny cy) W.drew) := hZ ⟨t1.cell0, t1.cell1, t2.cell0, t2.cell1⟩; have hs0 : n + 1 + 1 + 1 <= W.drew.heap.size := by show _ <= W.heap.size; omega
  have d0 := t1.cell0; have d1 := t1.cell1; have d2 := t2.cell0; have d3 := t2.cell1; clear t1 t2 t3 hBW
  go_enter Try.func92, Try.ntmps92
  go_wp2_with fail
  clear hW; by_cases hp : p < LIM
  ·go_region_held3 (fun w' => w'.cell? ⟨n, 0, none⟩ = some (.bool sx) /\ w'.cell? ⟨n, 1, none⟩ = some (.slice ax nx cx) /\ w'.cell? ⟨n + 1, 0, none⟩ = some (.bool sy) /\ w'.cell? ⟨n + 1, 1, none⟩ = some (.slice ay ny cy))
    (first | (exact HS.o) | (exact qBw.set2 HS.o _ _) | go_keep)
    (first
     | (go_at_call 63; refine (Ht.o _ HBW.o.drew).mono ?_; rintro e w5 ⟨v5, rfl, hm5, hB5⟩; have Hm5 := hZ hm5; have HB5 := hZ hB5; have HS5 := hZ (HS0.o.below hB5 hs0); have s5 := HS5.o.2; have HS := hZ HS5.o.1; clear hm5 hB5)
     | (go_at_call 93; refine (qCH _ _ p w5 Hm5.o hp).mono ?_; rintro e w6 ⟨a6, l6, c6, rfl, hm6, hB6⟩; have Hm6 := hZ hm6; clear hm6; have HB6 := hZ hB6; have HS6 := hZ (HS.o.below hB6 s5); clear HS; have s6 := HS6.o.2; have HS := hZ HS6.o.1; have T6 := (T3.o.below HB5.o (by omega)).below hB6 (by omega); have g0 := T6.cell0; have g1 := T6.cell1; have g2 := T6.frozen 0; have g3 := T6.frozen 1; have T6 := hZ T6; clear hB6))
   go_wp2
   refine bodyPost_ret (v := .tuple #[.agg #[.bool (decide (sgn (sx) p < 0)), .slice a6 l6 c6], .int .i64 0]) (by simp [results, Try.results92, go_sem, g0, g1]) rfl ⟨?_, .inl ⟨by rw [Habs.o]; exact hp, _, rfl, qAz.mk ?_ ?_⟩⟩
   ·rw [Hn.o]
    exact (((HBW.o.drew.trans (HB5.o.mono (by omega))).trans (HB6.o.mono (by omega))).setCell (p := ⟨n + 1 + 1, 0, none⟩) (by show n <= n + 1 + 1; omega) _).setCell (p := ⟨n + 1 + 1, 1, none⟩) (by show n <= n + 1 + 1; omega) _
   ·exact Hneg.o
   ·rw [Habs.o]
    exact qAd.store_two Hm6.o T6.o (fun _ _ h => by cases h) (fun _ _ h => by cases h) _ _
  ·go_region_held3 (fun w' => w'.cell? ⟨n, 0, none⟩ = some (.bool sx) /\ w'.cell? ⟨n, 1, none⟩ = some (.slice ax nx cx) /\ w'.cell? ⟨n + 1, 0, none⟩ = some (.bool sy) /\ w'.cell? ⟨n + 1, 1, none⟩ = some (.slice ay ny cy))
    (first | (exact HS.o) | (exact qBw.set2 HS.o _ _) | go_keep)
    (first
     | (go_at_call 63; refine (Ht.o _ HBW.o.drew).mono ?_; rintro e w5 ⟨v5, rfl, hm5, hB5⟩; have Hm5 := hZ hm5; have HB5 := hZ hB5; have HS5 := hZ (HS0.o.below hB5 hs0); have s5 := HS5.o.2; have HS := hZ HS5.o.1; clear hm5 hB5)
     | (go_at_call 93; refine (qCr _ _ p w5 Hm5.o (Nat.le_of_not_lt hp) (by omega)).mono ?_; rintro e w6 ⟨rfl, hB6⟩; have HB6 := hZ hB6; have HS6 := hZ (HS.o.below hB6 s5); clear HS; have s6 := HS6.o.2; have HS := hZ HS6.o.1; have T6 := (T3.o.below HB5.o (by omega)).below hB6 (by omega); have g0 := T6.cell0; have g1 := T6.cell1; have g2 := T6.frozen 0; have g3 := T6.frozen 1; have T6 := hZ T6; clear hB6))
   go_wp2
   refine bodyPost_ret (v := .tuple #[.agg #[.bool false, .slice none 0 0], .int .i64 4]) (by simp [results, Try.results92, go_sem, g0, g1]) rfl ⟨?_, .inr ⟨by rw [Habs.o]; exact Nat.le_of_not_lt hp, rfl⟩⟩
   ·rw [Hn.o]
    exact (((HBW.o.drew.trans (HB5.o.mono (by omega))).trans (HB6.o.mono (by omega))).setCell (p := ⟨n + 1 + 1, 0, none⟩) (by show n <= n + 1 + 1; omega) _).setCell (p := ⟨n + 1 + 1, 1, none⟩) (by show n <= n + 1 + 1; omega) _
 ·have hss : (decide (x < 0) == decide (y < 0)) = false := by simpa using hs
  have Hcm := hZ (fun w' (hb : Below n w w') => qBY (.slice ax nx cx) (.slice ay ny cy) x.natAbs y.natAbs w' (HX.o.below (Nat.le_of_eq hn) hb) (HY.o.below (Nat.le_of_eq hn) hb) (by omega) (by omega)); have hcg := qJh x.natAbs y.natAbs; by_cases hle : y.natAbs <= x.natAbs
  ·have Ht := hZ (fun w' (hb : Below n w w') => qEn (.slice ax nx cx) (.slice ay ny cy) x.natAbs y.natAbs w' (HX.o.below (Nat.le_of_eq hn) hb) (HY.o.below (Nat.le_of_eq hn) hb) hle (by omega))
   have hprod : (qAe W2 (x.natAbs - y.natAbs)).length <= 512 := Nat.le_trans (qAM W2 qAm _ _ (Nat.sub_le _ _)) hlx'; have Hneg := hZ (show decide (x + y < 0) = decide (sgn (decide (x < 0)) (x.natAbs - y.natAbs) < 0) by rw [qBP x y hs hle]); have Habs : Hid ((x + y).natAbs = x.natAbs - y.natAbs) := hZ (by rw [<- qBP x y hs hle, qAG]); rw [decide_eq_true hle] at hcg; clear HX HY hlx' hly' hs hle; generalize decide (x < 0) = sx at *; generalize decide (y < 0) = sy at *; generalize x.natAbs - y.natAbs = p at *; generalize qAK (x.natAbs : Int) (y.natAbs : Int) = cm at *
   go_enter Try.func92, Try.ntmps92
   have d0 := t1.cell0; have d1 := t1.cell1; have d2 := t2.cell0; have d3 := t2.cell1
   go_wp2_with fail
   refine (Hcm.o W hBW).mono ?_; rintro e w2 ⟨rfl, d, hw2⟩; clear hW; have t1' : Two w2 n 58 (.bool sx) (.slice ax nx cx) := by rw [hw2]; exact t1
   have t2' : Two w2 (n + 1) 58 (.bool sy) (.slice ay ny cy) := by rw [hw2]; exact t2
   have t3' : Two w2 (n + 1 + 1) 58 (.bool false) (.slice none 0 0) := by rw [hw2]; exact t3
   have hBW2 : Below n w w2 := by rw [hw2]; exact ⟨hBW.os, hBW.tape, hBW.output, hBW.size, hBW.block⟩
   have hsW2 : w2.heap.size = n + 1 + 1 + 1 := by rw [hw2]; exact hsW
   clear t1 t2 t3 hBW hsW hw2 d0 d1 d2 d3; have d0 := t1'.cell0; have d1 := t1'.cell1; have d2 := t2'.cell0; have d3 := t2'.cell1; have HBW := hZ hBW2; have T3 : Hid (Two w2.drew (n + 1 + 1) 58 (.bool false) (.slice none 0 0)) := hZ t3'; have HS0 : Hid (qBw n (.bool sx) (.slice ax nx cx) (.bool sy) (.slice ay ny cy) w2.drew) := hZ ⟨t1'.cell0, t1'.cell1, t2'.cell0, t2'.cell1⟩; have hs0 : n + 1 + 1 + 1 <= w2.drew.heap.size := by show _ <= w2.heap.size; omega
   clear t1' t2' t3' hBW2
   go_wp2_with fail
   by_cases hp : p < LIM
   ·go_region_held3 (fun w' => w'.cell? ⟨n, 0, none⟩ = some (.bool sx) /\ w'.cell? ⟨n, 1, none⟩ = some (.slice ax nx cx) /\ w'.cell? ⟨n + 1, 0, none⟩ = some (.bool sy) /\ w'.cell? ⟨n + 1, 1, none⟩ = some (.slice ay ny cy))
     (first | (exact HS.o) | (exact qBw.set2 HS.o _ _) | go_keep)
     (first
      | (go_at_call 64; refine (Ht.o _ HBW.o.drew).mono ?_; rintro e w5 ⟨v5, rfl, hm5, hB5⟩; have Hm5 := hZ hm5; have HB5 := hZ hB5; have HS5 := hZ (HS0.o.below hB5 hs0); have s5 := HS5.o.2; have HS := hZ HS5.o.1; clear hm5 hB5)
      | (go_at_call 93; refine (qCH _ _ p w5 Hm5.o hp).mono ?_; rintro e w6 ⟨a6, l6, c6, rfl, hm6, hB6⟩; have Hm6 := hZ hm6; clear hm6; have HB6 := hZ hB6; have HS6 := hZ (HS.o.below hB6 s5); clear HS; have s6 := HS6.o.2; have HS := hZ HS6.o.1; have T6 := (T3.o.below HB5.o (by omega)).below hB6 (by omega); have g0 := T6.cell0; have g1 := T6.cell1; have g2 := T6.frozen 0; have g3 := T6.frozen 1; have T6 := hZ T6; clear hB6))
    go_wp2
    refine bodyPost_ret (v := .tuple #[.agg #[.bool (decide (sgn (sx) p < 0)), .slice a6 l6 c6], .int .i64 0]) (by simp [results, Try.results92, go_sem, g0, g1]) rfl ⟨?_, .inl ⟨by rw [Habs.o]; exact hp, _, rfl, qAz.mk ?_ ?_⟩⟩
    ·rw [Hn.o]
     exact (((HBW.o.drew.trans (HB5.o.mono (by omega))).trans (HB6.o.mono (by omega))).setCell (p := ⟨n + 1 + 1, 0, none⟩) (by show n <= n + 1 + 1; omega) _).setCell (p := ⟨n + 1 + 1, 1, none⟩) (by show n <= n + 1 + 1; omega) _
    ·exact Hneg.o
    ·rw [Habs.o]
     exact qAd.store_two Hm6.o T6.o (fun _ _ h => by cases h) (fun _ _ h => by cases h) _ _
   ·go_region_held3 (fun w' => w'.cell? ⟨n, 0, none⟩ = some (.bool sx) /\ w'.cell? ⟨n, 1, none⟩ = some (.slice ax nx cx) /\ w'.cell? ⟨n + 1, 0, none⟩ = some (.bool sy) /\ w'.cell? ⟨n + 1, 1, none⟩ = some (.slice ay ny cy))
     (first | (exact HS.o) | (exact qBw.set2 HS.o _ _) | go_keep)
     (first
      | (go_at_call 64; refine (Ht.o _ HBW.o.drew).mono ?_; rintro e w5 ⟨v5, rfl, hm5, hB5⟩; have Hm5 := hZ hm5; have HB5 := hZ hB5; have HS5 := hZ (HS0.o.below hB5 hs0); have s5 := HS5.o.2; have HS := hZ HS5.o.1; clear hm5 hB5)
      | (go_at_call 93; refine (qCr _ _ p w5 Hm5.o (Nat.le_of_not_lt hp) (by omega)).mono ?_; rintro e w6 ⟨rfl, hB6⟩; have HB6 := hZ hB6; have HS6 := hZ (HS.o.below hB6 s5); clear HS; have s6 := HS6.o.2; have HS := hZ HS6.o.1; have T6 := (T3.o.below HB5.o (by omega)).below hB6 (by omega); have g0 := T6.cell0; have g1 := T6.cell1; have g2 := T6.frozen 0; have g3 := T6.frozen 1; have T6 := hZ T6; clear hB6))
    go_wp2
    refine bodyPost_ret (v := .tuple #[.agg #[.bool false, .slice none 0 0], .int .i64 4]) (by simp [results, Try.results92, go_sem, g0, g1]) rfl ⟨?_, .inr ⟨by rw [Habs.o]; exact Nat.le_of_not_lt hp, rfl⟩⟩
    ·rw [Hn.o]
     exact (((HBW.o.drew.trans (HB5.o.mono (by omega))).trans (HB6.o.mono (by omega))).setCell (p := ⟨n + 1 + 1, 0, none⟩) (by show n <= n + 1 + 1; omega) _).setCell (p := ⟨n + 1 + 1, 1, none⟩) (by show n <= n + 1 + 1; omega) _
  ·have Ht := hZ (fun w' (hb : Below n w w') => qEn (.slice ay ny cy) (.slice ax nx cx) y.natAbs x.natAbs w' (HY.o.below (Nat.le_of_eq hn) hb) (HX.o.below (Nat.le_of_eq hn) hb) (by omega) (by omega))
   have hprod : (qAe W2 (y.natAbs - x.natAbs)).length <= 512 := Nat.le_trans (qAM W2 qAm _ _ (Nat.sub_le _ _)) hly'; have Hneg := hZ (show decide (x + y < 0) = decide (sgn (decide (y < 0)) (y.natAbs - x.natAbs) < 0) by rw [qBP y x (Ne.symm hs) (by omega), Int.add_comm]); have Habs : Hid ((x + y).natAbs = y.natAbs - x.natAbs) := hZ (by rw [Int.add_comm, <- qBP y x (Ne.symm hs) (by omega), qAG]); rw [decide_eq_false hle] at hcg; clear HX HY hlx' hly' hs hle; generalize decide (x < 0) = sx at *; generalize decide (y < 0) = sy at *; generalize y.natAbs - x.natAbs = p at *; generalize qAK (x.natAbs : Int) (y.natAbs : Int) = cm at *
   go_enter Try.func92, Try.ntmps92
   have d0 := t1.cell0; have d1 := t1.cell1; have d2 := t2.cell0; have d3 := t2.cell1
   go_wp2_with fail
   refine (Hcm.o W hBW).mono ?_; rintro e w2 ⟨rfl, d, hw2⟩; clear hW; have t1' : Two w2 n 58 (.bool sx) (.slice ax nx cx) := by rw [hw2]; exact t1
   have t2' : Two w2 (n + 1) 58 (.bool sy) (.slice ay ny cy) := by rw [hw2]; exact t2
   have t3' : Two w2 (n + 1 + 1) 58 (.bool false) (.slice none 0 0) := by rw [hw2]; exact t3
   have hBW2 : Below n w w2 := by rw [hw2]; exact ⟨hBW.os, hBW.tape, hBW.output, hBW.size, hBW.block⟩
   have hsW2 : w2.heap.size = n + 1 + 1 + 1 := by rw [hw2]; exact hsW
   clear t1 t2 t3 hBW hsW hw2 d0 d1 d2 d3; have d0 := t1'.cell0; have d1 := t1'.cell1; have d2 := t2'.cell0; have d3 := t2'.cell1; have HBW := hZ hBW2; have T3 : Hid (Two w2.drew (n + 1 + 1) 58 (.bool false) (.slice none 0 0)) := hZ t3'; have HS0 : Hid (qBw n (.bool sx) (.slice ax nx cx) (.bool sy) (.slice ay ny cy) w2.drew) := hZ ⟨t1'.cell0, t1'.cell1, t2'.cell0, t2'.cell1⟩; have hs0 : n + 1 + 1 + 1 <= w2.drew.heap.size := by show _ <= w2.heap.size; omega
   clear t1' t2' t3' hBW2
   go_wp2_with fail
   by_cases hp : p < LIM
   ·go_region_held3 (fun w' => w'.cell? ⟨n, 0, none⟩ = some (.bool sx) /\ w'.cell? ⟨n, 1, none⟩ = some (.slice ax nx cx) /\ w'.cell? ⟨n + 1, 0, none⟩ = some (.bool sy) /\ w'.cell? ⟨n + 1, 1, none⟩ = some (.slice ay ny cy))
     (first | (exact HS.o) | (exact qBw.set2 HS.o _ _) | go_keep)
     (first
      | (go_at_call 64; refine (Ht.o _ HBW.o.drew).mono ?_; rintro e w5 ⟨v5, rfl, hm5, hB5⟩; have Hm5 := hZ hm5; have HB5 := hZ hB5; have HS5 := hZ (HS0.o.below hB5 hs0); have s5 := HS5.o.2; have HS := hZ HS5.o.1; clear hm5 hB5)
      | (go_at_call 93; refine (qCH _ _ p w5 Hm5.o hp).mono ?_; rintro e w6 ⟨a6, l6, c6, rfl, hm6, hB6⟩; have Hm6 := hZ hm6; clear hm6; have HB6 := hZ hB6; have HS6 := hZ (HS.o.below hB6 s5); clear HS; have s6 := HS6.o.2; have HS := hZ HS6.o.1; have T6 := (T3.o.below HB5.o (by omega)).below hB6 (by omega); have g0 := T6.cell0; have g1 := T6.cell1; have g2 := T6.frozen 0; have g3 := T6.frozen 1; have T6 := hZ T6; clear hB6))
    go_wp2
    refine bodyPost_ret (v := .tuple #[.agg #[.bool (decide (sgn (sy) p < 0)), .slice a6 l6 c6], .int .i64 0]) (by simp [results, Try.results92, go_sem, g0, g1]) rfl ⟨?_, .inl ⟨by rw [Habs.o]; exact hp, _, rfl, qAz.mk ?_ ?_⟩⟩
    ·rw [Hn.o]
     exact (((HBW.o.drew.trans (HB5.o.mono (by omega))).trans (HB6.o.mono (by omega))).setCell (p := ⟨n + 1 + 1, 0, none⟩) (by show n <= n + 1 + 1; omega) _).setCell (p := ⟨n + 1 + 1, 1, none⟩) (by show n <= n + 1 + 1; omega) _
    ·exact Hneg.o
    ·rw [Habs.o]
     exact qAd.store_two Hm6.o T6.o (fun _ _ h => by cases h) (fun _ _ h => by cases h) _ _
   ·go_region_held3 (fun w' => w'.cell? ⟨n, 0, none⟩ = some (.bool sx) /\ w'.cell? ⟨n, 1, none⟩ = some (.slice ax nx cx) /\ w'.cell? ⟨n + 1, 0, none⟩ = some (.bool sy) /\ w'.cell? ⟨n + 1, 1, none⟩ = some (.slice ay ny cy))
     (first | (exact HS.o) | (exact qBw.set2 HS.o _ _) | go_keep)
     (first
      | (go_at_call 64; refine (Ht.o _ HBW.o.drew).mono ?_; rintro e w5 ⟨v5, rfl, hm5, hB5⟩; have Hm5 := hZ hm5; have HB5 := hZ hB5; have HS5 := hZ (HS0.o.below hB5 hs0); have s5 := HS5.o.2; have HS := hZ HS5.o.1; clear hm5 hB5)
      | (go_at_call 93; refine (qCr _ _ p w5 Hm5.o (Nat.le_of_not_lt hp) (by omega)).mono ?_; rintro e w6 ⟨rfl, hB6⟩; have HB6 := hZ hB6; have HS6 := hZ (HS.o.below hB6 s5); clear HS; have s6 := HS6.o.2; have HS := hZ HS6.o.1; have T6 := (T3.o.below HB5.o (by omega)).below hB6 (by omega); have g0 := T6.cell0; have g1 := T6.cell1; have g2 := T6.frozen 0; have g3 := T6.frozen 1; have T6 := hZ T6; clear hB6))
    go_wp2
    refine bodyPost_ret (v := .tuple #[.agg #[.bool false, .slice none 0 0], .int .i64 4]) (by simp [results, Try.results92, go_sem, g0, g1]) rfl ⟨?_, .inr ⟨by rw [Habs.o]; exact Nat.le_of_not_lt hp, rfl⟩⟩
    ·rw [Hn.o]
     exact (((HBW.o.drew.trans (HB5.o.mono (by omega))).trans (HB6.o.mono (by omega))).setCell (p := ⟨n + 1 + 1, 0, none⟩) (by show n <= n + 1 + 1; omega) _).setCell (p := ⟨n + 1 + 1, 1, none⟩) (by show n <= n + 1 + 1; omega) _
end Go.Proofs.Ytlmbebbdamgfpaa
