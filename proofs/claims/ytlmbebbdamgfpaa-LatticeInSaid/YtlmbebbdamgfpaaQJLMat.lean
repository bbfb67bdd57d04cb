/- Matrices of ints in memory; lattice.check. -/
import Derived.Test.YtlmbebbdamgfpaaQJWTimes
import Derived.Deep.RegionHeld3
import Derived.Test.YtlmbebbdamgfpaaProg
import Derived.Deep.AppendLies
import Derived.WalkKit
import Derived.WalkSpells
import Derived.WalkLawsBesides
set_option linter.unusedVariables false
set_option linter.unusedSimpArgs false
set_option maxHeartbeats 4000000
set_option maxRecDepth 100000
namespace Go.Proofs.Ytlmbebbdamgfpaa
open Go.RowKit
def LIM : Nat := 2 ^ 16384
theorem qKr : W2 ^ 512 = LIM := by decide +kernel
theorem qL5 : LIM = 2 ^ 16384 := by unfold LIM; with_reducible rfl
attribute [irreducible] LIM
theorem qA0 (n : Nat) : (qAe W2 n).length <= 512 ↔ n < LIM := by
 rw [<- qKr]; constructor
 ·intro h
  rcases Nat.lt_or_ge n (W2 ^ 512) with h1 | h1
  ·exact h1
  ·have := qEc W2 qAl 512 n h1; omega
 ·exact qAO W2 qAl 512 n
def qAw (w : World) (v : Value) (z : Int) : Prop := ∃ vw, v = .agg #[.bool (decide (z < 0)), vw] /\ qAT w vw z.natAbs
theorem qAw.below {w w' : World} {v : Value} {z : Int} (h : qAw w v z) (hb : Below w.heap.size w w') : qAw w' v z := by
 obtain ⟨vw, hv, hm⟩ := h; exact ⟨vw, hv, hm.below (Nat.le_refl _) hb⟩
theorem qAw.below' {w w' : World} {v : Value} {z : Int} {B : Nat} (h : qAw w v z) (hB : w.heap.size <= B) (hb : Below B w w') : qAw w' v z := by
 obtain ⟨vw, hv, hm⟩ := h; exact ⟨vw, hv, hm.below hB hb⟩
theorem qAw.mk {w : World} {b : Bool} {vw : Value} {z : Int} (hb : decide (z < 0) = b) (hm : qAT w vw z.natAbs) : qAw w (.agg #[.bool b, vw]) z := ⟨vw, by rw [hb], hm⟩
theorem qAw.form {w : World} {v : Value} {z : Int} (h : qAw w v z) : ∃ a n cap, v = .agg #[.bool (decide (z < 0)), .slice a n cap] /\ qAT w (.slice a n cap) z.natAbs := by
 obtain ⟨vw, hv, hm⟩ := h; have hm' := hm; obtain ⟨a, cap, rfl, _⟩ := hm; exact ⟨a, _, cap, hv, hm'⟩
def sgn (neg : Bool) (n : Nat) : Int := if neg then -(n : Int) else n
theorem qAG (neg : Bool) (n : Nat) : (sgn neg n).natAbs = n := by unfold sgn; cases neg <;> simp
theorem qIE (neg : Bool) (n : Nat) : decide (sgn neg n < 0) = (neg && decide (0 < n)) := by
 unfold sgn; cases neg <;> simp
theorem qAU (neg : Bool) (vw : Value) (n : Nat) (w : World) (h : qAT w vw n) :
 Calls Try.prog 57 #[.bool neg, vw] w fun e w' => e = .returned (.agg #[.bool (decide (sgn neg n < 0)), vw]) /\ Below w.heap.size w w' := by
 obtain ⟨a, cap, rfl, h1, h2, hcc⟩ := h; clear hcc; have hpos : decide (0 < (qAe W2 n).length) = decide (0 < n) := by
  by_cases h0 : n = 0
  ·subst h0; rfl
  ·have := List.length_pos_iff.2 (fun h => h0 ((qBB W2 n qAl).1 h))
   simp only [this, decide_true, Nat.pos_of_ne_zero h0]
 rw [qIE]; obtain ⟨N, hN⟩ := eX ((qAe W2 n).length); rw [hN] at hpos h1 ⊢; clear hN; by_cases h0 : 0 < N
 ·have hp : decide (0 < n) = true := by rw [<- hpos]; simpa using h0
  rw [hp, Bool.and_true]; clear hp hpos; cases neg
  all_goals
   go_enter Try.func57, Try.ntmps57
   go_wp2
   exact bodyPost_ret (by simp [results, Try.results57, go_sem]) rfl ⟨rfl, (Below.refl _ _).alloc (Nat.le_refl _) _⟩
 ·obtain rfl : N = 0 := by omega
  have hp : decide (0 < n) = false := by rw [<- hpos]; rfl
  rw [hp, Bool.and_false]; clear hp hpos; cases neg
  all_goals
   go_enter Try.func57, Try.ntmps57
   go_wp2
   exact bodyPost_ret (by simp [results, Try.results57, go_sem]) rfl ⟨rfl, (Below.refl _ _).alloc (Nat.le_refl _) _⟩
def Two (w : World) (b : Nat) (t : TypeId) (x y : Value) : Prop := w.heap[b]? = some (.cells #[x, y] t (0, 0))
section
variable {w w' : World} {b : Nat} {t : TypeId} {x y : Value}
theorem Two.lt (h : Two w b t x y) : b < w.heap.size := by
 rcases Nat.lt_or_ge b w.heap.size with hlt | hge
 ·exact hlt
 ·unfold Two at h; rw [Array.getElem?_eq_none hge] at h; cases h
theorem Two.cell0 (h : Two w b t x y) : w.cell? ⟨b, 0, none⟩ = some x := by rw [cell_of_row w b 0 _ t (0, 0) h]; rfl
theorem Two.cell1 (h : Two w b t x y) : w.cell? ⟨b, 1, none⟩ = some y := by rw [cell_of_row w b 1 _ t (0, 0) h]; rfl
theorem Two.frozen (h : Two w b t x y) (i : Nat) : w.frozen? ⟨b, i, none⟩ = false := by
 unfold Two at h; simp [World.frozen?, h]
theorem Two.below {B : Nat} (h : Two w b t x y) (hb : Below B w w') (hg : b < B) : Two w' b t x y := (hb.block b hg).trans h
theorem Two.new (w : World) (t : TypeId) (x y : Value) : Two (w.alloc (.cells #[x, y] t)) w.heap.size t x y := heap_alloc_new w _
theorem Two.alloc (h : Two w b t x y) (o : Obj) : Two (w.alloc o) b t x y := (Below.heap_alloc w o b h.lt).trans h
end
def qCA (z : Int) (w : World) (e : Ending) (w' : World) : Prop :=
 Below w.heap.size w w' /\ ((z.natAbs < LIM /\ ∃ v, e = .returned (.tuple #[v, .int .i64 0]) /\ qAw w' v z) \/ (LIM <= z.natAbs /\ e = .returned (.tuple #[.agg #[.bool false, .slice none 0 0], .int .i64 4])))
theorem qD5 (neg : Bool) (vw : Value) (n : Nat) (w : World) (h : qAT w vw n) (hlen : (qAe W2 n).length <= 4194304) :
 Calls Try.prog 93 #[.bool neg, vw] w (qCA (sgn neg n) w) := by
 have Hm := hZ h; have hlim := qA0 n; have hab := qAG neg n; obtain ⟨a, cap, rfl, h1, h2, hcc⟩ := h; clear hcc; have Hl := hZ (Classical.em (n < LIM)); have Hab := hZ hab; clear hab; by_cases hl : n < LIM
 ·have hle := hlim.2 hl
  have Hl := hZ hl; clear hlim hl; have Hs := hZ (fun w' (hb : Below w.heap.size w w') => qAU neg _ n w' (Hm.o.below (Nat.le_refl _) hb)); have HBa := hZ ((Below.refl w.heap.size w).alloc (Nat.le_refl _) (.cells #[.bool false, .slice none 0 0] 58)); have HT := hZ (Two.new w 58 (.bool false) (.slice none 0 0)); generalize (qAe W2 n).length = N at *
  go_enter Try.func93, Try.ntmps93
  go_wp2_with fail
  refine (Hs.o _ HBa.o).mono ?_; rintro e w1 ⟨rfl, hB⟩; have hT1 := HT.o.below hB (by simp); have c0 := hT1.cell0; have c1 := hT1.cell1; have f0 := hT1.frozen 0; have f1 := hT1.frozen 1; have HB1 := hZ (HBa.o.trans (hB.mono (by simp))); clear hT1 hB
  go_wp2
  refine bodyPost_ret (v := .tuple #[.agg #[.bool (decide (sgn neg n < 0)), .slice a N cap], .int .i64 0]) (by simp [results, Try.results93, go_sem, c0, c1]) rfl ⟨(HB1.o.setCell (p := ⟨w.heap.size, 0, none⟩) (Nat.le_refl _) _).setCell (p := ⟨w.heap.size, 1, none⟩) (Nat.le_refl _) _, .inl ⟨by rw [Hab.o]; exact Hl.o, _, rfl, _, rfl, ?_⟩⟩; rw [Hab.o]; exact Hm.o.below (Nat.le_refl _) ((HB1.o.setCell (p := ⟨w.heap.size, 0, none⟩) (Nat.le_refl _) _).setCell (p := ⟨w.heap.size, 1, none⟩) (Nat.le_refl _) _)
 ·have hgt : ¬ (qAe W2 n).length <= 512 := fun h => hl (hlim.1 h)
  have Hl := hZ hl; clear hl hlim; generalize (qAe W2 n).length = N at *
  go_enter Try.func93, Try.ntmps93
  go_wp2
  refine bodyPost_ret (v := .tuple #[.agg #[.bool false, .slice none 0 0], .int .i64 4]) (by simp [results, Try.results93, go_sem]) rfl ⟨(Below.refl _ _).alloc (Nat.le_refl _) _, .inr ⟨by rw [Hab.o]; exact Nat.le_of_not_lt Hl.o, rfl⟩⟩
theorem qCE (neg : Bool) (vw : Value) (n : Nat) (w : World) (h : qAT w vw n) (hn : n < LIM) :
 Calls Try.prog 93 #[.bool neg, vw] w fun e w' => ∃ a l cap, e = .returned (.tuple #[.agg #[.bool (decide (sgn neg n < 0)), .slice a l cap], .int .i64 0]) /\ qAT w' (.slice a l cap) n /\ Below w.heap.size w w' := by
 have hlen := (qA0 n).2 hn; refine (qD5 neg vw n w h (by omega)).mono ?_; rintro e w' ⟨hB, ⟨_, v, rfl, hW⟩ | ⟨hl, rfl⟩⟩
 ·obtain ⟨a, l, cap, rfl, hm⟩ := hW.form
  rw [qAG] at hm; exact ⟨a, l, cap, rfl, hm, hB⟩
 ·rw [qAG] at hl; omega
theorem qCm (neg : Bool) (vw : Value) (n : Nat) (w : World) (h : qAT w vw n) (hn : LIM <= n) (hlen : (qAe W2 n).length <= 4194304) :
 Calls Try.prog 93 #[.bool neg, vw] w fun e w' => e = .returned (.tuple #[.agg #[.bool false, .slice none 0 0], .int .i64 4]) /\ Below w.heap.size w w' := by
 refine (qD5 neg vw n w h hlen).mono ?_; rintro e w' ⟨hB, ⟨hl, v, rfl, hW⟩ | ⟨hl, rfl⟩⟩
 ·rw [qAG] at hl; omega
 ·exact ⟨rfl, hB⟩
theorem qCd (w : World) (t : TypeId) (x1 x2 y1 y2 z1 z2 : Value) (n : Nat) (hn : w.heap.size = n) : ∃ W, ((w.alloc (.cells #[x1, x2] t)).alloc (.cells #[y1, y2] t)).alloc (.cells #[z1, z2] t) = W /\
 Two W n t x1 x2 /\ Two W (n + 1) t y1 y2 /\ Two W (n + 1 + 1) t z1 z2 /\ Below n w W /\ W.heap.size = n + 1 + 1 + 1 := by
 subst hn; refine ⟨_, rfl, ((Two.new w t x1 x2).alloc _).alloc _, ?_, ?_, (((Below.refl w.heap.size w).alloc (Nat.le_refl _) _).alloc (by simp) _).alloc (by simp; omega) _, by simp⟩
 ·have := (Two.new (w.alloc (.cells #[x1, x2] t)) t y1 y2).alloc (.cells #[z1, z2] t)
  rw [World.size_alloc] at this; exact this
 ·have := Two.new ((w.alloc (.cells #[x1, x2] t)).alloc (.cells #[y1, y2] t)) t z1 z2
  rw [World.size_alloc, World.size_alloc] at this; exact this
def qBn (n : Nat) (x1 x2 y1 y2 : Value) (w : World) : Prop := w.cell? ⟨n, 0, none⟩ = some x1 /\ w.cell? ⟨n, 1, none⟩ = some x2 /\ w.cell? ⟨n + 1, 0, none⟩ = some y1 /\ w.cell? ⟨n + 1, 1, none⟩ = some y2
theorem qBn.below {n : Nat} {x1 x2 y1 y2 : Value} {w w' : World} (h : qBn n x1 x2 y1 y2 w) (hb : Below w.heap.size w w') (hs : n + 1 + 1 + 1 <= w.heap.size) : qBn n x1 x2 y1 y2 w' /\ n + 1 + 1 + 1 <= w'.heap.size :=
 ⟨⟨(hb.cell (p := ⟨n, 0, none⟩) (by show n < _; omega)).trans h.1, (hb.cell (p := ⟨n, 1, none⟩) (by show n < _; omega)).trans h.2.1, (hb.cell (p := ⟨n + 1, 0, none⟩) (by show n + 1 < _; omega)).trans h.2.2.1, (hb.cell (p := ⟨n + 1, 1, none⟩) (by show n + 1 < _; omega)).trans h.2.2.2⟩, by have := hb.size; omega⟩
theorem qBn.set2 {n : Nat} {x1 x2 y1 y2 : Value} {w : World} (h : qBn n x1 x2 y1 y2 w) (u1 u2 : Value) : qBn n x1 x2 y1 y2 ((w.setCell ⟨n + 1 + 1, 0, none⟩ u1).setCell ⟨n + 1 + 1, 1, none⟩ u2) := by
 have e : ∀ b o, b ≠ n + 1 + 1 -> ((w.setCell ⟨n + 1 + 1, 0, none⟩ u1).setCell ⟨n + 1 + 1, 1, none⟩ u2).cell? ⟨b, o, none⟩ = w.cell? ⟨b, o, none⟩ := fun b o hb => by
  rw [World.cell?_setCell_other _ _ _ _ (by intro e; injection e; omega), World.cell?_setCell_other _ _ _ _ (by intro e; injection e; omega)]
 exact ⟨(e _ _ (by omega)).trans h.1, (e _ _ (by omega)).trans h.2.1, (e _ _ (by omega)).trans h.2.2.1, (e _ _ (by omega)).trans h.2.2.2⟩
theorem qAd.store_two {k : IntKind} {w : World} {v : Value} {L : List Nat} {g : Nat} {t : TypeId} {x y : Value} (h : qAd k w v L) (ht : Two w g t x y) (hx : ∀ k i, x ≠ .int k i) (hy : ∀ k i, y ≠ .int k i) (u1 u2 : Value) :
 qAd k ((w.setCell ⟨g, 0, none⟩ u1).setCell ⟨g, 1, none⟩ u2) v L := by
 obtain ⟨a, cap, hv, h1, h2, hc⟩ := h; refine ⟨a, cap, hv, h1, h2, fun h0 => ?_⟩; obtain ⟨b, off, ha, hlt, hcc⟩ := hc h0; have hne : b ≠ g := by
  rintro rfl; have h3 := hcc 0 h0; rw [cell_of_row w b (off + 0) _ t (0, 0) ht] at h3
  match off, h3 with
  | 0, h3 => simp at h3; exact hx _ _ h3
  | 1, h3 => simp at h3; exact hy _ _ h3
  | o + 2, h3 => simp at h3
 have hsz : ((w.setCell ⟨g, 0, none⟩ u1).setCell ⟨g, 1, none⟩ u2).heap.size = w.heap.size := by simp [World.setCell]
 refine ⟨b, off, ha, by rw [hsz]; exact hlt, fun j hj => ?_⟩; rw [World.cell?_setCell_other _ _ _ _ (by intro e; injection e; omega), World.cell?_setCell_other _ _ _ _ (by intro e; injection e; omega)]; exact hcc j hj
open Go.RowKit
theorem qGx (x y : Int) : sgn (decide (x < 0) != decide (y < 0)) (x.natAbs * y.natAbs) = x * y := by
 unfold sgn; rcases Int.lt_or_le x 0 with hx | hx <;> rcases Int.lt_or_le y 0 with hy | hy
 all_goals
  obtain ⟨a, ha⟩ := Int.eq_ofNat_of_zero_le (show (0 : Int) <= x.natAbs by omega); simp [hx, hy, Int.not_lt.2]
 ·rw [show ((x.natAbs : Nat) : Int) = -x by omega, show ((y.natAbs : Nat) : Int) = -y by omega]; grind
 ·rw [show ((x.natAbs : Nat) : Int) = -x by omega, show ((y.natAbs : Nat) : Int) = y by omega]; grind
 ·rw [show ((x.natAbs : Nat) : Int) = x by omega, show ((y.natAbs : Nat) : Int) = -y by omega]; grind
 ·rw [show ((x.natAbs : Nat) : Int) = x by omega, show ((y.natAbs : Nat) : Int) = y by omega]
theorem qF1 (m n a b : Nat) (ha : (qAe W2 m).length <= a) (hb : (qAe W2 n).length <= b) : (qAe W2 (m * n)).length <= a + b := by
 apply qAO W2 qAl; rw [Nat.pow_add]; have h1 := qBd W2 (by decide) _ (qAk W2 qAl m); have h2 := qBd W2 (by decide) _ (qAk W2 qAl n); rw [qAi W2 qAl] at h1 h2; exact Nat.mul_lt_mul'' (Nat.lt_of_lt_of_le h1 (Nat.pow_le_pow_right (by decide) ha)) (Nat.lt_of_lt_of_le h2 (Nat.pow_le_pow_right (by decide) hb))
theorem qK7 (vx vy : Value) (x y : Int) (w : World) (hx : qAw w vx x) (hy : qAw w vy y) (hlx : x.natAbs < LIM) (hly : y.natAbs < LIM) :
 Calls Try.prog 67 #[vx, vy] w (qCA (x * y) w) := by
 obtain ⟨ax, nx, cx, rfl, hmx⟩ := hx.form; obtain ⟨ay, ny, cy, rfl, hmy⟩ := hy.form; have hlx' := (qA0 _).2 hlx; have hly' := (qA0 _).2 hly; have HX := hZ hmx; have HY := hZ hmy; have Hsm := hZ (qGx x y); have hprod := qF1 x.natAbs y.natAbs 512 512 hlx' hly'; clear hx hy hmx hmy hlx hly; obtain ⟨n, hn⟩ := eX w.heap.size; have Hn := hZ hn; have Ht := hZ (fun w' (hb : Below n w w') => qIz (.slice ax nx cx) (.slice ay ny cy) x.natAbs y.natAbs w' (HX.o.below (Nat.le_of_eq hn) hb) (HY.o.below (Nat.le_of_eq hn) hb) (by omega) (by omega)); have Hneg := hZ (show decide (x * y < 0) = decide (sgn (decide (x < 0) != decide (y < 0)) (x.natAbs * y.natAbs) < 0) by rw [qGx]); have Habs : Hid ((x * y).natAbs = x.natAbs * y.natAbs) := hZ (Int.natAbs_mul x y); clear Hsm HX HY hlx' hly'; obtain ⟨W, hW, t1, t2, t3, hBW, hsW⟩ := qCd w 58 (.bool (decide (x < 0))) (.slice ax nx cx) (.bool (decide (y < 0))) (.slice ay ny cy) (.bool false) (.slice none 0 0) n hn; generalize decide (x < 0) = sx at *; generalize decide (y < 0) = sy at *; generalize x.natAbs * y.natAbs = p at *; have HBW := hZ hBW; have T3 : Hid (Two W.drew (n + 1 + 1) 58 (.bool false) (.slice none 0 0)) := hZ t3; have HS0 : Hid (qBn n (.bool sx) (.slice ax nx cx) (.bool sy) (.slice ay ny cy) W.drew) := hZ ⟨t1.cell0, t1.cell1, t2.cell0, t2.cell1⟩; have hs0 : n + 1 + 1 + 1 <= W.drew.heap.size := by show _ <= W.heap.size; omega
 have d0 := t1.cell0; have d1 := t1.cell1; have d2 := t2.cell0; have d3 := t2.cell1; clear t1 t2 t3 hBW
 go_enter Try.func67, Try.ntmps67
 go_wp2_with fail
 clear hW; by_cases hp : p < LIM
 ·go_region_held3 (fun w' => w'.cell? ⟨n, 0, none⟩ = some (.bool sx) /\ w'.cell? ⟨n, 1, none⟩ = some (.slice ax nx cx) /\ w'.cell? ⟨n + 1, 0, none⟩ = some (.bool sy) /\ w'.cell? ⟨n + 1, 1, none⟩ = some (.slice ay ny cy))
   (first | (exact HS.o) | (exact qBn.set2 HS.o _ _) | go_keep)
   (first
    | (go_at_call 94; refine (Ht.o _ HBW.o.drew).mono ?_; rintro e w5 ⟨v5, rfl, hm5, hB5⟩; have Hm5 := hZ hm5; have HB5 := hZ hB5; have HS5 := hZ (HS0.o.below hB5 hs0); have s5 := HS5.o.2; have HS := hZ HS5.o.1; clear hm5 hB5)
    | (go_at_call 93; refine (qCE _ _ p w5 Hm5.o hp).mono ?_; rintro e w6 ⟨a6, l6, c6, rfl, hm6, hB6⟩; have Hm6 := hZ hm6; clear hm6; have HB6 := hZ hB6; have HS6 := hZ (HS.o.below hB6 s5); clear HS; have s6 := HS6.o.2; have HS := hZ HS6.o.1; have T6 := (T3.o.below HB5.o (by omega)).below hB6 (by omega); have g0 := T6.cell0; have g1 := T6.cell1; have g2 := T6.frozen 0; have g3 := T6.frozen 1; have T6 := hZ T6; clear hB6))
  go_wp2
  refine bodyPost_ret (v := .tuple #[.agg #[.bool (decide (sgn (!sx == sy) p < 0)), .slice a6 l6 c6], .int .i64 0]) (by simp [results, Try.results67, go_sem, g0, g1]) rfl ⟨?_, .inl ⟨by rw [Habs.o]; exact hp, _, rfl, qAw.mk ?_ ?_⟩⟩
  ·rw [Hn.o]
   exact (((HBW.o.drew.trans (HB5.o.mono (by omega))).trans (HB6.o.mono (by omega))).setCell (p := ⟨n + 1 + 1, 0, none⟩) (by show n <= n + 1 + 1; omega) _).setCell (p := ⟨n + 1 + 1, 1, none⟩) (by show n <= n + 1 + 1; omega) _
  ·rw [Hneg.o]; cases sx <;> cases sy <;> rfl
  ·rw [Habs.o]
   exact qAd.store_two Hm6.o T6.o (fun _ _ h => by cases h) (fun _ _ h => by cases h) _ _
 ·go_region_held3 (fun w' => w'.cell? ⟨n, 0, none⟩ = some (.bool sx) /\ w'.cell? ⟨n, 1, none⟩ = some (.slice ax nx cx) /\ w'.cell? ⟨n + 1, 0, none⟩ = some (.bool sy) /\ w'.cell? ⟨n + 1, 1, none⟩ = some (.slice ay ny cy))
   (first | (exact HS.o) | (exact qBn.set2 HS.o _ _) | go_keep)
   (first
    | (go_at_call 94; refine (Ht.o _ HBW.o.drew).mono ?_; rintro e w5 ⟨v5, rfl, hm5, hB5⟩; have Hm5 := hZ hm5; have HB5 := hZ hB5; have HS5 := hZ (HS0.o.below hB5 hs0); have s5 := HS5.o.2; have HS := hZ HS5.o.1; clear hm5 hB5)
    | (go_at_call 93; refine (qCm _ _ p w5 Hm5.o (Nat.le_of_not_lt hp) (by omega)).mono ?_; rintro e w6 ⟨rfl, hB6⟩; have HB6 := hZ hB6; have HS6 := hZ (HS.o.below hB6 s5); clear HS; have s6 := HS6.o.2; have HS := hZ HS6.o.1; have T6 := (T3.o.below HB5.o (by omega)).below hB6 (by omega); have g0 := T6.cell0; have g1 := T6.cell1; have g2 := T6.frozen 0; have g3 := T6.frozen 1; have T6 := hZ T6; clear hB6))
  go_wp2
  refine bodyPost_ret (v := .tuple #[.agg #[.bool false, .slice none 0 0], .int .i64 4]) (by simp [results, Try.results67, go_sem, g0, g1]) rfl ⟨?_, .inr ⟨by rw [Habs.o]; exact Nat.le_of_not_lt hp, rfl⟩⟩
  ·rw [Hn.o]
   exact (((HBW.o.drew.trans (HB5.o.mono (by omega))).trans (HB6.o.mono (by omega))).setCell (p := ⟨n + 1 + 1, 0, none⟩) (by show n <= n + 1 + 1; omega) _).setCell (p := ⟨n + 1 + 1, 1, none⟩) (by show n <= n + 1 + 1; omega) _
theorem qF2 (m n a : Nat) (ha : (qAe W2 m).length <= a) (hb : (qAe W2 n).length <= a) : (qAe W2 (m + n)).length <= a + 1 := by
 apply qAO W2 qAl; have h1 := qBd W2 (by decide) _ (qAk W2 qAl m); have h2 := qBd W2 (by decide) _ (qAk W2 qAl n); rw [qAi W2 qAl] at h1 h2; have h3 := Nat.lt_of_lt_of_le h1 (Nat.pow_le_pow_right (by decide) ha); have h4 := Nat.lt_of_lt_of_le h2 (Nat.pow_le_pow_right (by decide) hb); rw [Nat.pow_succ]; have : W2 ^ a * 2 <= W2 ^ a * W2 := Nat.mul_le_mul_left _ (by decide); omega
theorem qCu (x y : Int) (h : decide (x < 0) = decide (y < 0)) : sgn (decide (x < 0)) (x.natAbs + y.natAbs) = x + y := by
 unfold sgn; by_cases hx : x < 0
 ·have hy : y < 0 := by simpa [hx] using h.symm
  simp [hx]; omega
 ·have hy : ¬ y < 0 := by simpa [hx] using h.symm
  simp [hx]; omega
theorem qBE (x y : Int) (h : decide (x < 0) ≠ decide (y < 0)) (hle : y.natAbs <= x.natAbs) : sgn (decide (x < 0)) (x.natAbs - y.natAbs) = x + y := by
 unfold sgn; by_cases hx : x < 0
 ·have hy : ¬ y < 0 := fun hy => h (by simp [hx, hy])
  simp [hx]; omega
 ·have hy : y < 0 := Classical.byContradiction fun hy => h (by simp [hx, hy])
  simp [hx]; omega
theorem qJl (m n : Nat) : decide (0 <= qAK (m : Int) (n : Int)) = decide (n <= m) := by
 unfold qAK; by_cases h1 : (m : Int) < n
 ·rw [if_pos h1]; simp; omega
 ·rw [if_neg h1]
  by_cases h2 : (n : Int) < m
  ·rw [if_pos h2]; simp; omega
  ·rw [if_neg h2]; simp; omega
theorem qJq (vx vy : Value) (x y : Int) (w : World) (hx : qAw w vx x) (hy : qAw w vy y) (hlx : x.natAbs < LIM) (hly : y.natAbs < LIM) :
 Calls Try.prog 92 #[vx, vy] w (qCA (x + y) w) := by
 obtain ⟨ax, nx, cx, rfl, hmx⟩ := hx.form; obtain ⟨ay, ny, cy, rfl, hmy⟩ := hy.form; have hlx' := (qA0 _).2 hlx; have hly' := (qA0 _).2 hly; have HX := hZ hmx; have HY := hZ hmy; clear hx hy hmx hmy hlx hly; obtain ⟨n, hn⟩ := eX w.heap.size; have Hn := hZ hn; obtain ⟨W, hW, t1, t2, t3, hBW, hsW⟩ := qCd w 58 (.bool (decide (x < 0))) (.slice ax nx cx) (.bool (decide (y < 0))) (.slice ay ny cy) (.bool false) (.slice none 0 0) n hn; by_cases hs : decide (x < 0) = decide (y < 0)
 ·have hprod := qF2 x.natAbs y.natAbs 512 hlx' hly'
  have Ht := hZ (fun w' (hb : Below n w w') => qHj (.slice ax nx cx) (.slice ay ny cy) x.natAbs y.natAbs w' (HX.o.below (Nat.le_of_eq hn) hb) (HY.o.below (Nat.le_of_eq hn) hb) (by omega) (by omega)); have Hneg := hZ (show decide (x + y < 0) = decide (sgn (decide (x < 0)) (x.natAbs + y.natAbs) < 0) by rw [qCu x y hs]); have Habs : Hid ((x + y).natAbs = x.natAbs + y.natAbs) := hZ (by rw [<- qCu x y hs, qAG]); have hss : (decide (x < 0) == decide (y < 0)) = true := by rw [hs]; simp
  clear HX HY hlx' hly' hs; generalize decide (x < 0) = sx at *; generalize decide (y < 0) = sy at *; generalize x.natAbs + y.natAbs = p at *; have HBW := hZ hBW; have T3 : Hid (Two W.drew (n + 1 + 1) 58 (.bool false) (.slice none 0 0)) := hZ t3; have HS0 : Hid (qBn n (.bool sx) (.slice ax nx cx) (.bool sy) (.slice ay ny cy) W.drew) := hZ ⟨t1.cell0, t1.cell1, t2.cell0, t2.cell1⟩; have hs0 : n + 1 + 1 + 1 <= W.drew.heap.size := by show _ <= W.heap.size; omega
  have d0 := t1.cell0; have d1 := t1.cell1; have d2 := t2.cell0; have d3 := t2.cell1; clear t1 t2 t3 hBW
  go_enter Try.func92, Try.ntmps92
  go_wp2_with fail
  clear hW; by_cases hp : p < LIM
  ·go_region_held3 (fun w' => w'.cell? ⟨n, 0, none⟩ = some (.bool sx) /\ w'.cell? ⟨n, 1, none⟩ = some (.slice ax nx cx) /\ w'.cell? ⟨n + 1, 0, none⟩ = some (.bool sy) /\ w'.cell? ⟨n + 1, 1, none⟩ = some (.slice ay ny cy))
    (first | (exact HS.o) | (exact qBn.set2 HS.o _ _) | go_keep)
    (first
     | (go_at_call 63; refine (Ht.o _ HBW.o.drew).mono ?_; rintro e w5 ⟨v5, rfl, hm5, hB5⟩; have Hm5 := hZ hm5; have HB5 := hZ hB5; have HS5 := hZ (HS0.o.below hB5 hs0); have s5 := HS5.o.2; have HS := hZ HS5.o.1; clear hm5 hB5)
     | (go_at_call 93; refine (qCE _ _ p w5 Hm5.o hp).mono ?_; rintro e w6 ⟨a6, l6, c6, rfl, hm6, hB6⟩; have Hm6 := hZ hm6; clear hm6; have HB6 := hZ hB6; have HS6 := hZ (HS.o.below hB6 s5); clear HS; have s6 := HS6.o.2; have HS := hZ HS6.o.1; have T6 := (T3.o.below HB5.o (by omega)).below hB6 (by omega); have g0 := T6.cell0; have g1 := T6.cell1; have g2 := T6.frozen 0; have g3 := T6.frozen 1; have T6 := hZ T6; clear hB6))
   go_wp2
   refine bodyPost_ret (v := .tuple #[.agg #[.bool (decide (sgn (sx) p < 0)), .slice a6 l6 c6], .int .i64 0]) (by simp [results, Try.results92, go_sem, g0, g1]) rfl ⟨?_, .inl ⟨by rw [Habs.o]; exact hp, _, rfl, qAw.mk ?_ ?_⟩⟩
   ·rw [Hn.o]
    exact (((HBW.o.drew.trans (HB5.o.mono (by omega))).trans (HB6.o.mono (by omega))).setCell (p := ⟨n + 1 + 1, 0, none⟩) (by show n <= n + 1 + 1; omega) _).setCell (p := ⟨n + 1 + 1, 1, none⟩) (by show n <= n + 1 + 1; omega) _
   ·exact Hneg.o
   ·rw [Habs.o]
    exact qAd.store_two Hm6.o T6.o (fun _ _ h => by cases h) (fun _ _ h => by cases h) _ _
  ·go_region_held3 (fun w' => w'.cell? ⟨n, 0, none⟩ = some (.bool sx) /\ w'.cell? ⟨n, 1, none⟩ = some (.slice ax nx cx) /\ w'.cell? ⟨n + 1, 0, none⟩ = some (.bool sy) /\ w'.cell? ⟨n + 1, 1, none⟩ = some (.slice ay ny cy))
    (first | (exact HS.o) | (exact qBn.set2 HS.o _ _) | go_keep)
    (first
     | (go_at_call 63; refine (Ht.o _ HBW.o.drew).mono ?_; rintro e w5 ⟨v5, rfl, hm5, hB5⟩; have Hm5 := hZ hm5; have HB5 := hZ hB5; have HS5 := hZ (HS0.o.below hB5 hs0); have s5 := HS5.o.2; have HS := hZ HS5.o.1; clear hm5 hB5)
     | (go_at_call 93; refine (qCm _ _ p w5 Hm5.o (Nat.le_of_not_lt hp) (by omega)).mono ?_; rintro e w6 ⟨rfl, hB6⟩; have HB6 := hZ hB6; have HS6 := hZ (HS.o.below hB6 s5); clear HS; have s6 := HS6.o.2; have HS := hZ HS6.o.1; have T6 := (T3.o.below HB5.o (by omega)).below hB6 (by omega); have g0 := T6.cell0; have g1 := T6.cell1; have g2 := T6.frozen 0; have g3 := T6.frozen 1; have T6 := hZ T6; clear hB6))
   go_wp2
   refine bodyPost_ret (v := .tuple #[.agg #[.bool false, .slice none 0 0], .int .i64 4]) (by simp [results, Try.results92, go_sem, g0, g1]) rfl ⟨?_, .inr ⟨by rw [Habs.o]; exact Nat.le_of_not_lt hp, rfl⟩⟩
   ·rw [Hn.o]
    exact (((HBW.o.drew.trans (HB5.o.mono (by omega))).trans (HB6.o.mono (by omega))).setCell (p := ⟨n + 1 + 1, 0, none⟩) (by show n <= n + 1 + 1; omega) _).setCell (p := ⟨n + 1 + 1, 1, none⟩) (by show n <= n + 1 + 1; omega) _
 ·have hss : (decide (x < 0) == decide (y < 0)) = false := by simpa using hs
  have Hcm := hZ (fun w' (hb : Below n w w') => qBP (.slice ax nx cx) (.slice ay ny cy) x.natAbs y.natAbs w' (HX.o.below (Nat.le_of_eq hn) hb) (HY.o.below (Nat.le_of_eq hn) hb) (by omega) (by omega)); have hcg := qJl x.natAbs y.natAbs; by_cases hle : y.natAbs <= x.natAbs
  ·have Ht := hZ (fun w' (hb : Below n w w') => qD2 (.slice ax nx cx) (.slice ay ny cy) x.natAbs y.natAbs w' (HX.o.below (Nat.le_of_eq hn) hb) (HY.o.below (Nat.le_of_eq hn) hb) hle (by omega))
   have hprod : (qAe W2 (x.natAbs - y.natAbs)).length <= 512 := Nat.le_trans (qAL W2 qAl _ _ (Nat.sub_le _ _)) hlx'; have Hneg := hZ (show decide (x + y < 0) = decide (sgn (decide (x < 0)) (x.natAbs - y.natAbs) < 0) by rw [qBE x y hs hle]); have Habs : Hid ((x + y).natAbs = x.natAbs - y.natAbs) := hZ (by rw [<- qBE x y hs hle, qAG]); rw [decide_eq_true hle] at hcg; clear HX HY hlx' hly' hs hle; generalize decide (x < 0) = sx at *; generalize decide (y < 0) = sy at *; generalize x.natAbs - y.natAbs = p at *; generalize qAK (x.natAbs : Int) (y.natAbs : Int) = cm at *
   go_enter Try.func92, Try.ntmps92
   have d0 := t1.cell0; have d1 := t1.cell1; have d2 := t2.cell0; have d3 := t2.cell1
   go_wp2_with fail
   refine (Hcm.o W hBW).mono ?_; rintro e w2 ⟨rfl, d, hw2⟩; clear hW; have t1' : Two w2 n 58 (.bool sx) (.slice ax nx cx) := by rw [hw2]; exact t1
   have t2' : Two w2 (n + 1) 58 (.bool sy) (.slice ay ny cy) := by rw [hw2]; exact t2
   have t3' : Two w2 (n + 1 + 1) 58 (.bool false) (.slice none 0 0) := by rw [hw2]; exact t3
   have hBW2 : Below n w w2 := by rw [hw2]; exact ⟨hBW.os, hBW.tape, hBW.output, hBW.size, hBW.block⟩
   have hsW2 : w2.heap.size = n + 1 + 1 + 1 := by rw [hw2]; exact hsW
   clear t1 t2 t3 hBW hsW hw2 d0 d1 d2 d3; have d0 := t1'.cell0; have d1 := t1'.cell1; have d2 := t2'.cell0; have d3 := t2'.cell1; have HBW := hZ hBW2; have T3 : Hid (Two w2.drew (n + 1 + 1) 58 (.bool false) (.slice none 0 0)) := hZ t3'; have HS0 : Hid (qBn n (.bool sx) (.slice ax nx cx) (.bool sy) (.slice ay ny cy) w2.drew) := hZ ⟨t1'.cell0, t1'.cell1, t2'.cell0, t2'.cell1⟩; have hs0 : n + 1 + 1 + 1 <= w2.drew.heap.size := by show _ <= w2.heap.size; omega
   clear t1' t2' t3' hBW2
   go_wp2_with fail
   by_cases hp : p < LIM
   ·go_region_held3 (fun w' => w'.cell? ⟨n, 0, none⟩ = some (.bool sx) /\ w'.cell? ⟨n, 1, none⟩ = some (.slice ax nx cx) /\ w'.cell? ⟨n + 1, 0, none⟩ = some (.bool sy) /\ w'.cell? ⟨n + 1, 1, none⟩ = some (.slice ay ny cy))
     (first | (exact HS.o) | (exact qBn.set2 HS.o _ _) | go_keep)
     (first
      | (go_at_call 64; refine (Ht.o _ HBW.o.drew).mono ?_; rintro e w5 ⟨v5, rfl, hm5, hB5⟩; have Hm5 := hZ hm5; have HB5 := hZ hB5; have HS5 := hZ (HS0.o.below hB5 hs0); have s5 := HS5.o.2; have HS := hZ HS5.o.1; clear hm5 hB5)
      | (go_at_call 93; refine (qCE _ _ p w5 Hm5.o hp).mono ?_; rintro e w6 ⟨a6, l6, c6, rfl, hm6, hB6⟩; have Hm6 := hZ hm6; clear hm6; have HB6 := hZ hB6; have HS6 := hZ (HS.o.below hB6 s5); clear HS; have s6 := HS6.o.2; have HS := hZ HS6.o.1; have T6 := (T3.o.below HB5.o (by omega)).below hB6 (by omega); have g0 := T6.cell0; have g1 := T6.cell1; have g2 := T6.frozen 0; have g3 := T6.frozen 1; have T6 := hZ T6; clear hB6))
    go_wp2
    refine bodyPost_ret (v := .tuple #[.agg #[.bool (decide (sgn (sx) p < 0)), .slice a6 l6 c6], .int .i64 0]) (by simp [results, Try.results92, go_sem, g0, g1]) rfl ⟨?_, .inl ⟨by rw [Habs.o]; exact hp, _, rfl, qAw.mk ?_ ?_⟩⟩
    ·rw [Hn.o]
     exact (((HBW.o.drew.trans (HB5.o.mono (by omega))).trans (HB6.o.mono (by omega))).setCell (p := ⟨n + 1 + 1, 0, none⟩) (by show n <= n + 1 + 1; omega) _).setCell (p := ⟨n + 1 + 1, 1, none⟩) (by show n <= n + 1 + 1; omega) _
    ·exact Hneg.o
    ·rw [Habs.o]
     exact qAd.store_two Hm6.o T6.o (fun _ _ h => by cases h) (fun _ _ h => by cases h) _ _
   ·go_region_held3 (fun w' => w'.cell? ⟨n, 0, none⟩ = some (.bool sx) /\ w'.cell? ⟨n, 1, none⟩ = some (.slice ax nx cx) /\ w'.cell? ⟨n + 1, 0, none⟩ = some (.bool sy) /\ w'.cell? ⟨n + 1, 1, none⟩ = some (.slice ay ny cy))
     (first | (exact HS.o) | (exact qBn.set2 HS.o _ _) | go_keep)
     (first
      | (go_at_call 64; refine (Ht.o _ HBW.o.drew).mono ?_; rintro e w5 ⟨v5, rfl, hm5, hB5⟩; have Hm5 := hZ hm5; have HB5 := hZ hB5; have HS5 := hZ (HS0.o.below hB5 hs0); have s5 := HS5.o.2; have HS := hZ HS5.o.1; clear hm5 hB5)
      | (go_at_call 93; refine (qCm _ _ p w5 Hm5.o (Nat.le_of_not_lt hp) (by omega)).mono ?_; rintro e w6 ⟨rfl, hB6⟩; have HB6 := hZ hB6; have HS6 := hZ (HS.o.below hB6 s5); clear HS; have s6 := HS6.o.2; have HS := hZ HS6.o.1; have T6 := (T3.o.below HB5.o (by omega)).below hB6 (by omega); have g0 := T6.cell0; have g1 := T6.cell1; have g2 := T6.frozen 0; have g3 := T6.frozen 1; have T6 := hZ T6; clear hB6))
    go_wp2
    refine bodyPost_ret (v := .tuple #[.agg #[.bool false, .slice none 0 0], .int .i64 4]) (by simp [results, Try.results92, go_sem, g0, g1]) rfl ⟨?_, .inr ⟨by rw [Habs.o]; exact Nat.le_of_not_lt hp, rfl⟩⟩
    ·rw [Hn.o]
     exact (((HBW.o.drew.trans (HB5.o.mono (by omega))).trans (HB6.o.mono (by omega))).setCell (p := ⟨n + 1 + 1, 0, none⟩) (by show n <= n + 1 + 1; omega) _).setCell (p := ⟨n + 1 + 1, 1, none⟩) (by show n <= n + 1 + 1; omega) _
  ·have Ht := hZ (fun w' (hb : Below n w w') => qD2 (.slice ay ny cy) (.slice ax nx cx) y.natAbs x.natAbs w' (HY.o.below (Nat.le_of_eq hn) hb) (HX.o.below (Nat.le_of_eq hn) hb) (by omega) (by omega))
   have hprod : (qAe W2 (y.natAbs - x.natAbs)).length <= 512 := Nat.le_trans (qAL W2 qAl _ _ (Nat.sub_le _ _)) hly'; have Hneg := hZ (show decide (x + y < 0) = decide (sgn (decide (y < 0)) (y.natAbs - x.natAbs) < 0) by rw [qBE y x (Ne.symm hs) (by omega), Int.add_comm]); have Habs : Hid ((x + y).natAbs = y.natAbs - x.natAbs) := hZ (by rw [Int.add_comm, <- qBE y x (Ne.symm hs) (by omega), qAG]); rw [decide_eq_false hle] at hcg; clear HX HY hlx' hly' hs hle; generalize decide (x < 0) = sx at *; generalize decide (y < 0) = sy at *; generalize y.natAbs - x.natAbs = p at *; generalize qAK (x.natAbs : Int) (y.natAbs : Int) = cm at *
   go_enter Try.func92, Try.ntmps92
   have d0 := t1.cell0; have d1 := t1.cell1; have d2 := t2.cell0; have d3 := t2.cell1
   go_wp2_with fail
   refine (Hcm.o W hBW).mono ?_; rintro e w2 ⟨rfl, d, hw2⟩; clear hW; have t1' : Two w2 n 58 (.bool sx) (.slice ax nx cx) := by rw [hw2]; exact t1
   have t2' : Two w2 (n + 1) 58 (.bool sy) (.slice ay ny cy) := by rw [hw2]; exact t2
   have t3' : Two w2 (n + 1 + 1) 58 (.bool false) (.slice none 0 0) := by rw [hw2]; exact t3
   have hBW2 : Below n w w2 := by rw [hw2]; exact ⟨hBW.os, hBW.tape, hBW.output, hBW.size, hBW.block⟩
   have hsW2 : w2.heap.size = n + 1 + 1 + 1 := by rw [hw2]; exact hsW
   clear t1 t2 t3 hBW hsW hw2 d0 d1 d2 d3; have d0 := t1'.cell0; have d1 := t1'.cell1; have d2 := t2'.cell0; have d3 := t2'.cell1; have HBW := hZ hBW2; have T3 : Hid (Two w2.drew (n + 1 + 1) 58 (.bool false) (.slice none 0 0)) := hZ t3'; have HS0 : Hid (qBn n (.bool sx) (.slice ax nx cx) (.bool sy) (.slice ay ny cy) w2.drew) := hZ ⟨t1'.cell0, t1'.cell1, t2'.cell0, t2'.cell1⟩; have hs0 : n + 1 + 1 + 1 <= w2.drew.heap.size := by show _ <= w2.heap.size; omega
   clear t1' t2' t3' hBW2
   go_wp2_with fail
   by_cases hp : p < LIM
   ·go_region_held3 (fun w' => w'.cell? ⟨n, 0, none⟩ = some (.bool sx) /\ w'.cell? ⟨n, 1, none⟩ = some (.slice ax nx cx) /\ w'.cell? ⟨n + 1, 0, none⟩ = some (.bool sy) /\ w'.cell? ⟨n + 1, 1, none⟩ = some (.slice ay ny cy))
     (first | (exact HS.o) | (exact qBn.set2 HS.o _ _) | go_keep)
     (first
      | (go_at_call 64; refine (Ht.o _ HBW.o.drew).mono ?_; rintro e w5 ⟨v5, rfl, hm5, hB5⟩; have Hm5 := hZ hm5; have HB5 := hZ hB5; have HS5 := hZ (HS0.o.below hB5 hs0); have s5 := HS5.o.2; have HS := hZ HS5.o.1; clear hm5 hB5)
      | (go_at_call 93; refine (qCE _ _ p w5 Hm5.o hp).mono ?_; rintro e w6 ⟨a6, l6, c6, rfl, hm6, hB6⟩; have Hm6 := hZ hm6; clear hm6; have HB6 := hZ hB6; have HS6 := hZ (HS.o.below hB6 s5); clear HS; have s6 := HS6.o.2; have HS := hZ HS6.o.1; have T6 := (T3.o.below HB5.o (by omega)).below hB6 (by omega); have g0 := T6.cell0; have g1 := T6.cell1; have g2 := T6.frozen 0; have g3 := T6.frozen 1; have T6 := hZ T6; clear hB6))
    go_wp2
    refine bodyPost_ret (v := .tuple #[.agg #[.bool (decide (sgn (sy) p < 0)), .slice a6 l6 c6], .int .i64 0]) (by simp [results, Try.results92, go_sem, g0, g1]) rfl ⟨?_, .inl ⟨by rw [Habs.o]; exact hp, _, rfl, qAw.mk ?_ ?_⟩⟩
    ·rw [Hn.o]
     exact (((HBW.o.drew.trans (HB5.o.mono (by omega))).trans (HB6.o.mono (by omega))).setCell (p := ⟨n + 1 + 1, 0, none⟩) (by show n <= n + 1 + 1; omega) _).setCell (p := ⟨n + 1 + 1, 1, none⟩) (by show n <= n + 1 + 1; omega) _
    ·exact Hneg.o
    ·rw [Habs.o]
     exact qAd.store_two Hm6.o T6.o (fun _ _ h => by cases h) (fun _ _ h => by cases h) _ _
   ·go_region_held3 (fun w' => w'.cell? ⟨n, 0, none⟩ = some (.bool sx) /\ w'.cell? ⟨n, 1, none⟩ = some (.slice ax nx cx) /\ w'.cell? ⟨n + 1, 0, none⟩ = some (.bool sy) /\ w'.cell? ⟨n + 1, 1, none⟩ = some (.slice ay ny cy))
     (first | (exact HS.o) | (exact qBn.set2 HS.o _ _) | go_keep)
     (first
      | (go_at_call 64; refine (Ht.o _ HBW.o.drew).mono ?_; rintro e w5 ⟨v5, rfl, hm5, hB5⟩; have Hm5 := hZ hm5; have HB5 := hZ hB5; have HS5 := hZ (HS0.o.below hB5 hs0); have s5 := HS5.o.2; have HS := hZ HS5.o.1; clear hm5 hB5)
      | (go_at_call 93; refine (qCm _ _ p w5 Hm5.o (Nat.le_of_not_lt hp) (by omega)).mono ?_; rintro e w6 ⟨rfl, hB6⟩; have HB6 := hZ hB6; have HS6 := hZ (HS.o.below hB6 s5); clear HS; have s6 := HS6.o.2; have HS := hZ HS6.o.1; have T6 := (T3.o.below HB5.o (by omega)).below hB6 (by omega); have g0 := T6.cell0; have g1 := T6.cell1; have g2 := T6.frozen 0; have g3 := T6.frozen 1; have T6 := hZ T6; clear hB6))
    go_wp2
    refine bodyPost_ret (v := .tuple #[.agg #[.bool false, .slice none 0 0], .int .i64 4]) (by simp [results, Try.results92, go_sem, g0, g1]) rfl ⟨?_, .inr ⟨by rw [Habs.o]; exact Nat.le_of_not_lt hp, rfl⟩⟩
    ·rw [Hn.o]
     exact (((HBW.o.drew.trans (HB5.o.mono (by omega))).trans (HB6.o.mono (by omega))).setCell (p := ⟨n + 1 + 1, 0, none⟩) (by show n <= n + 1 + 1; omega) _).setCell (p := ⟨n + 1 + 1, 1, none⟩) (by show n <= n + 1 + 1; omega) _
open Go.RowKit
theorem qCA.ok {z : Int} {w w' : World} {e : Ending} (h : qCA z w e w') (hz : z.natAbs < LIM) : ∃ a l cap, e = .returned (.tuple #[.agg #[.bool (decide (z < 0)), .slice a l cap], .int .i64 0]) /\ qAT w' (.slice a l cap) z.natAbs /\ Below w.heap.size w w' := by
 obtain ⟨hB, ⟨_, v, rfl, hW⟩ | ⟨hl, rfl⟩⟩ := h
 ·obtain ⟨a, l, cap, rfl, hm⟩ := hW.form
  exact ⟨a, l, cap, rfl, hm, hB⟩
 ·omega
theorem qCA.big {z : Int} {w w' : World} {e : Ending} (h : qCA z w e w') (hz : LIM <= z.natAbs) : e = .returned (.tuple #[.agg #[.bool false, .slice none 0 0], .int .i64 4]) /\ Below w.heap.size w w' := by
 obtain ⟨hB, ⟨hl, v, rfl, hW⟩ | ⟨hl, rfl⟩⟩ := h
 ·omega
 ·exact ⟨rfl, hB⟩
theorem qGw (y : Int) : sgn (!decide (y < 0)) y.natAbs = -y := by
 unfold sgn; by_cases h : y < 0
 ·simp [h]; omega
 ·simp [h]; omega
theorem qKP (vx vy : Value) (x y : Int) (w : World) (hx : qAw w vx x) (hy : qAw w vy y) (hlx : x.natAbs < LIM) (hly : y.natAbs < LIM) :
 Calls Try.prog 66 #[vx, vy] w (qCA (x - y) w) := by
 have HX0 := hZ hx; obtain ⟨ax, nx, cx, rfl, hmx⟩ := hx.form; obtain ⟨ay, ny, cy, rfl, hmy⟩ := hy.form; have HY := hZ hmy; have hly2 : (-y).natAbs < LIM := by rw [Int.natAbs_neg]; exact hly
 clear hx hy hmx hmy; obtain ⟨n, hn⟩ := eX w.heap.size; have Hn := hZ hn; obtain ⟨W, hW, t1, t2, t3, hBW, hsW⟩ := qCd w 58 (.bool (decide (x < 0))) (.slice ax nx cx) (.bool (decide (y < 0))) (.slice ay ny cy) (.bool false) (.slice none 0 0) n hn; have Hs1 := hZ (fun w' (hb : Below n w w') => qAU (!decide (y < 0)) (.slice ay ny cy) y.natAbs w' (HY.o.below (Nat.le_of_eq hn) hb)); rw [qGw] at Hs1; have Ha := hZ (fun w' (hb : Below n w w') => qJq (.agg #[.bool (decide (x < 0)), .slice ax nx cx]) (.agg #[.bool (decide (-y < 0)), .slice ay ny cy]) x (-y) w' (HX0.o.below' (Nat.le_of_eq hn) hb) ⟨_, rfl, by rw [Int.natAbs_neg]; exact HY.o.below (Nat.le_of_eq hn) hb⟩ hlx hly2); have hxy : x + -y = x - y := by omega
 rw [hxy] at Ha; clear HX0 HY hlx hly hly2 hxy; generalize decide (x < 0) = sx at *; generalize decide (y < 0) = sy at *; generalize decide (-y < 0) = sz at *; have HBW := hZ hBW; have T3 : Hid (Two W.drew (n + 1 + 1) 58 (.bool false) (.slice none 0 0)) := hZ t3; have HS0 : Hid (qBn n (.bool sx) (.slice ax nx cx) (.bool sy) (.slice ay ny cy) W.drew) := hZ ⟨t1.cell0, t1.cell1, t2.cell0, t2.cell1⟩; have hs0 : n + 1 + 1 + 1 <= W.drew.heap.size := by show _ <= W.heap.size; omega
 have d0 := t1.cell0; have d1 := t1.cell1; have d2 := t2.cell0; have d3 := t2.cell1; clear t1 t2 t3 hBW
 go_enter Try.func66, Try.ntmps66
 go_wp2_with fail
 clear hW; by_cases hp : (x - y).natAbs < LIM
 ·go_region_held3 (fun w' => w'.cell? ⟨n, 0, none⟩ = some (.bool sx) /\ w'.cell? ⟨n, 1, none⟩ = some (.slice ax nx cx) /\ w'.cell? ⟨n + 1, 0, none⟩ = some (.bool sy) /\ w'.cell? ⟨n + 1, 1, none⟩ = some (.slice ay ny cy))
   (first | (exact HS.o) | (exact qBn.set2 HS.o _ _) | go_keep)
   (first
    | (go_at_call 57; refine (Hs1.o _ HBW.o.drew).mono ?_; rintro e w5 ⟨rfl, hB5⟩; have HB5 := hZ hB5; have HS5 := hZ (HS0.o.below hB5 hs0); have s5 := HS5.o.2; have HS := hZ HS5.o.1; have HBW5 := hZ (HBW.o.drew.trans (hB5.mono (by omega))); clear hB5)
    | (go_at_call 92; refine (Ha.o w5 HBW5.o).mono ?_; rintro e w6 hL; obtain ⟨a6, l6, c6, rfl, hm6, hB6⟩ := hL.ok hp; have Hm6 := hZ hm6; clear hm6; have HB6 := hZ hB6; have HS6 := hZ (HS.o.below hB6 s5); clear HS; have s6 := HS6.o.2; have HS := hZ HS6.o.1; have T6 := (T3.o.below HB5.o (by omega)).below hB6 (by omega); have g0 := T6.cell0; have g1 := T6.cell1; have g2 := T6.frozen 0; have g3 := T6.frozen 1; have T6 := hZ T6; clear hB6))
  go_wp2
  refine bodyPost_ret (v := .tuple #[.agg #[.bool (decide (x - y < 0)), .slice a6 l6 c6], .int .i64 0]) (by simp [results, Try.results66, go_sem, g0, g1]) rfl ⟨?_, .inl ⟨hp, _, rfl, qAw.mk rfl ?_⟩⟩
  ·rw [Hn.o]
   exact ((HBW5.o.trans (HB6.o.mono (by omega))).setCell (p := ⟨n + 1 + 1, 0, none⟩) (by show n <= n + 1 + 1; omega) _).setCell (p := ⟨n + 1 + 1, 1, none⟩) (by show n <= n + 1 + 1; omega) _
  ·exact qAd.store_two Hm6.o T6.o (fun _ _ h => by cases h) (fun _ _ h => by cases h) _ _
 ·go_region_held3 (fun w' => w'.cell? ⟨n, 0, none⟩ = some (.bool sx) /\ w'.cell? ⟨n, 1, none⟩ = some (.slice ax nx cx) /\ w'.cell? ⟨n + 1, 0, none⟩ = some (.bool sy) /\ w'.cell? ⟨n + 1, 1, none⟩ = some (.slice ay ny cy))
   (first | (exact HS.o) | (exact qBn.set2 HS.o _ _) | go_keep)
   (first
    | (go_at_call 57; refine (Hs1.o _ HBW.o.drew).mono ?_; rintro e w5 ⟨rfl, hB5⟩; have HB5 := hZ hB5; have HS5 := hZ (HS0.o.below hB5 hs0); have s5 := HS5.o.2; have HS := hZ HS5.o.1; have HBW5 := hZ (HBW.o.drew.trans (hB5.mono (by omega))); clear hB5)
    | (go_at_call 92; refine (Ha.o w5 HBW5.o).mono ?_; rintro e w6 hL; obtain ⟨rfl, hB6⟩ := hL.big (Nat.le_of_not_lt hp); have HB6 := hZ hB6; have HS6 := hZ (HS.o.below hB6 s5); clear HS; have s6 := HS6.o.2; have HS := hZ HS6.o.1; have T6 := (T3.o.below HB5.o (by omega)).below hB6 (by omega); have g0 := T6.cell0; have g1 := T6.cell1; have g2 := T6.frozen 0; have g3 := T6.frozen 1; have T6 := hZ T6; clear hB6))
  go_wp2
  refine bodyPost_ret (v := .tuple #[.agg #[.bool false, .slice none 0 0], .int .i64 4]) (by simp [results, Try.results66, go_sem, g0, g1]) rfl ⟨?_, .inr ⟨Nat.le_of_not_lt hp, rfl⟩⟩; rw [Hn.o]; exact ((HBW5.o.trans (HB6.o.mono (by omega))).setCell (p := ⟨n + 1 + 1, 0, none⟩) (by show n <= n + 1 + 1; omega) _).setCell (p := ⟨n + 1 + 1, 1, none⟩) (by show n <= n + 1 + 1; omega) _
theorem qIx (m : Nat) (h : m < 18446744073709551616) : val W2 [m % W2, m / W2] = m /\ Low W2 [m % W2, m / W2] := by
 constructor
 ·show m % 4294967296 + 4294967296 * (m / 4294967296 + 4294967296 * 0) = m
  omega
 ·intro x hx
  simp only [List.mem_cons, List.not_mem_nil, or_false] at hx; rcases hx with rfl | rfl
  ·exact Nat.mod_lt _ (by decide)
  ·exact (Nat.div_lt_iff_lt_mul (by decide)).2 (by unfold W2; omega)
theorem qG6 (w0 : World) (m : Nat) (hm : m < 18446744073709551616) (g : Nat) (hg : g = w0.heap.size) :
 Calls Try.prog 58 #[.slice (some ⟨g, 0, none⟩) 2 2] (w0.alloc (.cells #[.int .u32 ((m : Int) % 4294967296), .int .u32 ((m : Int) / 4294967296)] 88)) fun e w' =>
  ∃ v', e = .returned v' /\ qAT (w0.alloc (.cells #[.int .u32 ((m : Int) % 4294967296), .int .u32 ((m : Int) / 4294967296)] 88)) v' m /\ (w0.alloc (.cells #[.int .u32 ((m : Int) % 4294967296), .int .u32 ((m : Int) / 4294967296)] 88)) = w' := by
 subst hg; have hb : Blk (w0.alloc (.cells #[.int .u32 ((m : Int) % 4294967296), .int .u32 ((m : Int) / 4294967296)] 88)) w0.heap.size 88 .u32 [m % W2, m / W2] := by
  unfold Blk; rw [heap_alloc_new]; simp only [List.map_cons, List.map_nil, iv, qHJ, qHK]
 have h2 := qIx m hm; have := qBV _ _ _ (qAd.of_blk hb (cap := 2) (by simp) (by omega)) h2.2 (by simp); rw [h2.1] at this; exact this
theorem qJ5 (z : Int) (w : World) (h1 : -9223372036854775808 <= z) (h2 : z <= 9223372036854775807) :
 Calls Try.prog 39 #[.int .i64 z] w fun e w' => ∃ v, e = .returned v /\ qAw w' v z /\ Below w.heap.size w w' := by
 by_cases hz : z < 0
 ·obtain ⟨m, hm⟩ : ∃ m : Nat, z = -(m : Int) := ⟨z.natAbs, by omega⟩
  subst hm; have b1 : IntKind.u64.wrap (-(m : Int)) = 18446744073709551616 - (m : Int) := by rw [IntKind.wrap_u64]; omega
  have b2 : IntKind.u64.wrap (-(18446744073709551616 - (m : Int))) = (m : Int) := by rw [IntKind.wrap_u64]; omega
  go_enter Try.func39, Try.ntmps39
  go_wp2_with fail
  clear b1 b2; refine (qG6 (w.alloc (.cells #[.bool false, .slice none 0 0] 58)) m (by omega) _ (by simp)).mono ?_; rintro e w1 ⟨v1, rfl, hm1, hw1⟩; have T1 : Two w1 w.heap.size 58 (.bool false) (.slice none 0 0) := by rw [<- hw1]; exact (Two.new w 58 (.bool false) (.slice none 0 0)).alloc _
  have hB1 : Below w.heap.size w w1 := by rw [<- hw1]; exact ((Below.refl _ w).alloc (Nat.le_refl _) _).alloc (by simp) _
  rw [hw1] at hm1; clear hw1; obtain ⟨a1, c1, rfl, hr1⟩ := hm1; have Hm1 : Hid (qAT w1 (.slice a1 (qAe W2 m).length c1) m) := hZ ⟨a1, c1, rfl, hr1⟩; have HT1 := hZ T1; have HB1 := hZ hB1; clear hr1 T1 hB1
  go_wp2_with fail
  refine (qAU true _ m w1 Hm1.o).mono ?_; rintro e w2 ⟨rfl, hB2⟩; have hT2 := HT1.o.below hB2 HT1.o.lt; have g0 := hT2.cell0; have g1 := hT2.cell1; have g2 := hT2.frozen 0; have g3 := hT2.frozen 1; have HT2 := hZ hT2; have Hm2 := hZ (qAd.below Hm1.o (Nat.le_refl _) hB2); have z1 := HB1.o.size; have HB2 := hZ (HB1.o.trans (hB2.mono z1)); clear hT2 hB2
  go_wp2
  refine bodyPost_ret (v := .agg #[.bool (decide (sgn true m < 0)), .slice a1 (qAe W2 m).length c1]) (by simp [results, Try.results39, go_sem, g0, g1]) rfl ⟨_, rfl, qAw.mk ?_ ?_, ?_⟩
  ·rfl
  ·rw [show (-(m : Int) : Int).natAbs = m by omega]
   exact qAd.store_two Hm2.o HT2.o (fun _ _ h => by cases h) (fun _ _ h => by cases h) _ _
  ·exact (HB2.o.setCell (p := ⟨w.heap.size, 0, none⟩) (Nat.le_refl _) _).setCell (p := ⟨w.heap.size, 1, none⟩) (Nat.le_refl _) _
 ·obtain ⟨m, hm⟩ : ∃ m : Nat, z = (m : Int) := ⟨z.natAbs, by omega⟩
  subst hm
  go_enter Try.func39, Try.ntmps39
  go_wp2_with fail
  refine (qG6 (w.alloc (.cells #[.bool false, .slice none 0 0] 58)) m (by omega) _ (by simp)).mono ?_; rintro e w1 ⟨v1, rfl, hm1, hw1⟩; have T1 : Two w1 w.heap.size 58 (.bool false) (.slice none 0 0) := by rw [<- hw1]; exact (Two.new w 58 (.bool false) (.slice none 0 0)).alloc _
  have hB1 : Below w.heap.size w w1 := by rw [<- hw1]; exact ((Below.refl _ w).alloc (Nat.le_refl _) _).alloc (by simp) _
  rw [hw1] at hm1; clear hw1; obtain ⟨a1, c1, rfl, hr1⟩ := hm1; have Hm1 : Hid (qAT w1 (.slice a1 (qAe W2 m).length c1) m) := hZ ⟨a1, c1, rfl, hr1⟩; have HT1 := hZ T1; have HB1 := hZ hB1; clear hr1 T1 hB1
  go_wp2_with fail
  refine (qAU false _ m w1 Hm1.o).mono ?_; rintro e w2 ⟨rfl, hB2⟩; have hT2 := HT1.o.below hB2 HT1.o.lt; have g0 := hT2.cell0; have g1 := hT2.cell1; have g2 := hT2.frozen 0; have g3 := hT2.frozen 1; have HT2 := hZ hT2; have Hm2 := hZ (qAd.below Hm1.o (Nat.le_refl _) hB2); have z1 := HB1.o.size; have HB2 := hZ (HB1.o.trans (hB2.mono z1)); clear hT2 hB2
  go_wp2
  refine bodyPost_ret (v := .agg #[.bool (decide (sgn false m < 0)), .slice a1 (qAe W2 m).length c1]) (by simp [results, Try.results39, go_sem, g0, g1]) rfl ⟨_, rfl, qAw.mk ?_ ?_, ?_⟩
  ·rfl
  ·rw [show ((m : Int) : Int).natAbs = m by omega]
   exact qAd.store_two Hm2.o HT2.o (fun _ _ h => by cases h) (fun _ _ h => by cases h) _ _
  ·exact (HB2.o.setCell (p := ⟨w.heap.size, 0, none⟩) (Nat.le_refl _) _).setCell (p := ⟨w.heap.size, 1, none⟩) (Nat.le_refl _) _
open Go.RowKit
theorem qHI (x y : Int) (hx : x < 0) (hy : y < 0) : qAK (y.natAbs : Int) (x.natAbs : Int) = qAK x y := by
 unfold qAK; rw [show ((y.natAbs : Nat) : Int) = -y by omega, show ((x.natAbs : Nat) : Int) = -x by omega]; by_cases h1 : x < y
 ·rw [if_pos h1, if_pos (by omega)]
 ·rw [if_neg h1, if_neg (by omega)]
  by_cases h2 : y < x
  ·rw [if_pos h2, if_pos (by omega)]
  ·rw [if_neg h2, if_neg (by omega)]
theorem qHH (x y : Int) (hx : ¬ x < 0) (hy : ¬ y < 0) : qAK (x.natAbs : Int) (y.natAbs : Int) = qAK x y := by
 rw [show ((y.natAbs : Nat) : Int) = y by omega, show ((x.natAbs : Nat) : Int) = x by omega]
theorem qBw {B : Nat} {w w' : World} (h : Below B w w') (d : Nat) : Below B w (w'.drewN d) := ⟨h.os, h.tape, h.output, h.size, h.block⟩
theorem qFq (vx vy : Value) (x y : Int) (w : World) (hx : qAw w vx x) (hy : qAw w vy y) (hlx : x.natAbs < LIM) (hly : y.natAbs < LIM) :
 Calls Try.prog 65 #[vx, vy] w fun e w' => e = .returned (.int .i64 (qAK x y)) /\ Below w.heap.size w w' := by
 obtain ⟨ax, nx, cx, rfl, hmx⟩ := hx.form; obtain ⟨ay, ny, cy, rfl, hmy⟩ := hy.form; have hlx' := (qA0 _).2 hlx; have hly' := (qA0 _).2 hly; have HX := hZ hmx; have HY := hZ hmy; clear hx hy hmx hmy hlx hly; have HB := hZ (fun b1 b2 => ((Below.refl w.heap.size w).alloc (Nat.le_refl _) (.cells #[.bool b1, .slice ax nx cx] 58)).alloc (by simp) (.cells #[.bool b2, .slice ay ny cy] 58)); by_cases h1 : x < 0 <;> by_cases h2 : y < 0
 ·have Hc := hZ (fun w' (hb : Below w.heap.size w w') => qBP (.slice ay ny cy) (.slice ax nx cx) y.natAbs x.natAbs w' (HY.o.below (Nat.le_refl _) hb) (HX.o.below (Nat.le_refl _) hb) (by omega) (by omega))
  rw [qHI x y h1 h2] at Hc; rw [decide_eq_true h1, decide_eq_true h2]; clear h1 h2 HX HY
  go_enter Try.func65, Try.ntmps65
  go_wp2_with fail
  refine (Hc.o _ (HB.o true true)).mono ?_; rintro e w1 ⟨rfl, d, rfl⟩
  go_wp2
  go_ret; exact ⟨rfl, qBw (HB.o true true) d⟩
 ·have Hc := hZ (qBz (show x < y by omega))
  rw [decide_eq_true h1, decide_eq_false h2]; clear h1 h2 HX HY
  go_enter Try.func65, Try.ntmps65
  go_wp2
  go_ret; exact ⟨by rw [Hc.o]; rfl, HB.o true false⟩
 ·have Hc := hZ (qBr (show y < x by omega))
  rw [decide_eq_false h1, decide_eq_true h2]; clear h1 h2 HX HY
  go_enter Try.func65, Try.ntmps65
  go_wp2
  go_ret; exact ⟨by rw [Hc.o]; rfl, HB.o false true⟩
 ·have Hc := hZ (fun w' (hb : Below w.heap.size w w') => qBP (.slice ax nx cx) (.slice ay ny cy) x.natAbs y.natAbs w' (HX.o.below (Nat.le_refl _) hb) (HY.o.below (Nat.le_refl _) hb) (by omega) (by omega))
  rw [qHH x y h1 h2] at Hc; rw [decide_eq_false h1, decide_eq_false h2]; clear h1 h2 HX HY
  go_enter Try.func65, Try.ntmps65
  go_wp2_with fail
  refine (Hc.o _ (HB.o false false)).mono ?_; rintro e w1 ⟨rfl, d, rfl⟩
  go_wp2
  go_ret; exact ⟨rfl, qBw (HB.o false false) d⟩
theorem qAu (w : World) : qAw w (.agg #[.bool false, .slice none 0 0]) 0 := ⟨_, rfl, qAd.nil none 0 (by omega)⟩
theorem qGB (a b : Nat) (h : 0 < a) : 0 < a ^ b := Nat.pow_pos h
theorem qLd : 0 < LIM := qKr ▸ qGB W2 512 (by decide)
theorem qJH (vx : Value) (x : Int) (w : World) (hx : qAw w vx x) (hlx : x.natAbs < LIM) :
 Calls Try.prog 44 #[vx] w fun e w' => e = .returned (.int .i64 (qAK x 0)) /\ Below w.heap.size w w' := by
 have HX := hZ hx; obtain ⟨ax, nx, cx, rfl, _⟩ := hx.form; have HB := hZ ((Below.refl w.heap.size w).alloc (Nat.le_refl _) (.cells #[.bool (decide (x < 0)), .slice ax nx cx] 58)); have Hc := hZ (qFq _ _ x 0 _ (HX.o.below' (Nat.le_refl _) HB.o) (qAu _) hlx qLd); clear hlx hx; generalize decide (x < 0) = sx at *
 go_enter Try.func44, Try.ntmps44
 go_wp2_with fail
 refine Hc.o.mono ?_; rintro e w1 ⟨rfl, hB1⟩; have HB1 := hZ (HB.o.trans (hB1.mono (by simp))); clear hB1
 go_wp2
 go_ret; exact ⟨rfl, HB1.o⟩
theorem qGb (v : Value) (m : Nat) (w : World) (h : qAT w v m) (hlen : (qAe W2 m).length <= 1048576) :
 Calls Try.prog 82 #[v] w fun e w' => ∃ a l c, e = .returned (.slice a l c) /\ qAT w' (.slice a l c) m /\ Below w.heap.size w w' := by
 refine (qEt v _ w h (by omega)).mono ?_; rintro e w' ⟨rfl, hb, hB⟩; exact ⟨_, _, _, rfl, qAd.of_blk hb (Nat.le_refl _) (by omega), hB⟩
def qGg (n : Nat) (x1 x2 : Value) (w : World) : Prop := w.cell? ⟨n, 0, none⟩ = some x1 /\ w.cell? ⟨n, 1, none⟩ = some x2
theorem qGg.below {n : Nat} {x1 x2 : Value} {w w' : World} (h : qGg n x1 x2 w) (hb : Below w.heap.size w w') (hs : n + 1 + 1 <= w.heap.size) : qGg n x1 x2 w' /\ n + 1 + 1 <= w'.heap.size :=
 ⟨⟨(hb.cell (p := ⟨n, 0, none⟩) (by show n < _; omega)).trans h.1, (hb.cell (p := ⟨n, 1, none⟩) (by show n < _; omega)).trans h.2⟩, by have := hb.size; omega⟩
theorem qGg.set2 {n : Nat} {x1 x2 : Value} {w : World} (h : qGg n x1 x2 w) (u1 u2 : Value) : qGg n x1 x2 ((w.setCell ⟨n + 1, 0, none⟩ u1).setCell ⟨n + 1, 1, none⟩ u2) := by
 have e : ∀ b o, b ≠ n + 1 -> ((w.setCell ⟨n + 1, 0, none⟩ u1).setCell ⟨n + 1, 1, none⟩ u2).cell? ⟨b, o, none⟩ = w.cell? ⟨b, o, none⟩ := fun b o hb => by
  rw [World.cell?_setCell_other _ _ _ _ (by intro e; injection e; omega), World.cell?_setCell_other _ _ _ _ (by intro e; injection e; omega)]
 exact ⟨(e _ _ (by omega)).trans h.1, (e _ _ (by omega)).trans h.2⟩
theorem qKC (w : World) (t : TypeId) (x1 x2 z1 z2 : Value) (n : Nat) (hn : w.heap.size = n) : ∃ W, (w.alloc (.cells #[x1, x2] t)).alloc (.cells #[z1, z2] t) = W /\
 Two W n t x1 x2 /\ Two W (n + 1) t z1 z2 /\ Below n w W /\ W.heap.size = n + 1 + 1 := by
 subst hn; refine ⟨_, rfl, (Two.new w t x1 x2).alloc _, ?_, ((Below.refl w.heap.size w).alloc (Nat.le_refl _) _).alloc (by simp) _, by simp⟩; have := Two.new (w.alloc (.cells #[x1, x2] t)) t z1 z2; rw [World.size_alloc] at this; exact this
theorem qK5 (vx : Value) (x : Int) (w : World) (hx : qAw w vx x) (hlx : x.natAbs < LIM) :
 Calls Try.prog 76 #[vx] w fun e w' => ∃ v, e = .returned v /\ qAw w' v (-x) /\ Below w.heap.size w w' := by
 obtain ⟨ax, nx, cx, rfl, hmx⟩ := hx.form; have hlx' := (qA0 _).2 hlx; have HX := hZ hmx; clear hx hmx hlx; obtain ⟨n, hn⟩ := eX w.heap.size; have Hn := hZ hn; obtain ⟨W, hW, t1, t2, hBW, hsW⟩ := qKC w 58 (.bool (decide (x < 0))) (.slice ax nx cx) (.bool false) (.slice none 0 0) n hn; have Hcl := hZ (fun w' (hb : Below n w w') => qGb (.slice ax nx cx) x.natAbs w' (HX.o.below (Nat.le_of_eq hn) hb) (by omega)); have Hsg := hZ (fun vw w' (hm : qAT w' vw x.natAbs) => qAU (!decide (x < 0)) vw x.natAbs w' hm); rw [qGw] at Hsg; clear HX; generalize decide (x < 0) = sx at *; have HBW := hZ hBW; have T2 : Hid (Two W.drew (n + 1) 58 (.bool false) (.slice none 0 0)) := hZ t2; have HS0 : Hid (qGg n (.bool sx) (.slice ax nx cx) W.drew) := hZ ⟨t1.cell0, t1.cell1⟩; have hs0 : n + 1 + 1 <= W.drew.heap.size := by show _ <= W.heap.size; omega
 have d0 := t1.cell0; have d1 := t1.cell1; clear t1 t2 hBW
 go_enter Try.func76, Try.ntmps76
 go_wp2_with fail
 clear hW
 go_region_held3 (fun w' => w'.cell? ⟨n, 0, none⟩ = some (.bool sx) /\ w'.cell? ⟨n, 1, none⟩ = some (.slice ax nx cx))
  (first | (exact HS.o) | (exact qGg.set2 HS.o _ _) | go_keep)
  (first
   | (go_at_call 82; refine (Hcl.o _ HBW.o.drew).mono ?_; rintro e w5 ⟨a5, l5, c5, rfl, hm5, hB5⟩; have Hm5 := hZ hm5; have HB5 := hZ hB5; have HS5 := hZ (HS0.o.below hB5 hs0); have s5 := HS5.o.2; have HS := hZ HS5.o.1; have HBW5 := hZ (HBW.o.drew.trans (hB5.mono (by omega))); clear hB5 hm5)
   | (go_at_call 57; refine (Hsg.o _ w5 Hm5.o).mono ?_; rintro e w6 ⟨rfl, hB6⟩; have Hm6 := hZ (qAd.below Hm5.o (Nat.le_refl _) hB6); have HB6 := hZ hB6; have HS6 := hZ (HS.o.below hB6 s5); clear HS; have s6 := HS6.o.2; have HS := hZ HS6.o.1; have T6 := (T2.o.below HB5.o (by omega)).below hB6 (by omega); have g0 := T6.cell0; have g1 := T6.cell1; have g2 := T6.frozen 0; have g3 := T6.frozen 1; have T6 := hZ T6; clear hB6))
 go_wp2
 refine bodyPost_ret (v := .agg #[.bool (decide (-x < 0)), .slice a5 l5 c5]) (by simp [results, Try.results76, go_sem, g0, g1]) rfl ⟨_, rfl, qAw.mk rfl ?_, ?_⟩
 ·rw [Int.natAbs_neg]
  exact qAd.store_two Hm6.o T6.o (fun _ _ h => by cases h) (fun _ _ h => by cases h) _ _
 ·rw [Hn.o]
  exact ((HBW5.o.trans (HB6.o.mono (by omega))).setCell (p := ⟨n + 1, 0, none⟩) (by show n <= n + 1; omega) _).setCell (p := ⟨n + 1, 1, none⟩) (by show n <= n + 1; omega) _
open Go.RowKit
def qA7 (z : Int) : Value := if -9223372036854775808 <= z /\ z <= 9223372036854775807 then .tuple #[.int .i64 z, .bool true] else .tuple #[.int .i64 0, .bool false]
theorem qGC (y : Nat) (hy : y < 4294967296) : bits BinOp.or IntKind.u64 0 (y : Int) = (y : Int) := by
 have h := u64_or_nat 0 y (by omega) (by omega); rw [Nat.zero_or] at h; exact h
theorem qGD (x y : Nat) (hx : x < 4294967296) (hy : y < 4294967296) : bits BinOp.or IntKind.u64 (x : Int) ((y : Int) * 4294967296) = ((x + y * 4294967296 : Nat) : Int) := by
 have h := u64_or_nat x (y * 4294967296) (by omega) (by omega); have e : (((y * 4294967296 : Nat)) : Int) = (y : Int) * 4294967296 := by omega
 rw [e] at h; rw [h]; have h2 : x ||| y * 2 ^ 32 = y * 2 ^ 32 + x := by rw [Nat.or_comm, Nat.mul_comm, <- Nat.two_pow_add_eq_or_of_lt hx]
 have h3 : x ||| y * 4294967296 = x + y * 4294967296 := by rw [Nat.add_comm]; exact h2
 rw [h3]
theorem qFu (vx : Value) (z : Int) (w : World) (hx : qAw w vx z) (hlx : z.natAbs < LIM) :
 Calls Try.prog 52 #[vx] w fun e w' => e = .returned (qA7 z) /\ Below w.heap.size w w' := by
 obtain ⟨ax, nx, cx, rfl, hmx⟩ := hx.form; have hlen := (qA0 _).2 hlx; obtain ⟨a', c', hv, q1, q2, hc⟩ := hmx; injection hv with e1 e2 e3; subst e1 e2 e3; have Hc := hZ hc; have Hlow := hZ (qAk W2 qAl z.natAbs); have Hval := hZ (qAi W2 qAl z.natAbs); clear hx hc hlx; have HB := hZ (fun b1 n1 => (Below.refl w.heap.size w).alloc (Nat.le_refl _) (.cells #[.bool b1, .slice ax n1 cx] 58)); obtain ⟨A, hA⟩ := eX (qAe W2 z.natAbs); have HA := hZ hA; rw [hA] at Hc Hlow Hval hlen q1 ⊢; clear hA; obtain ⟨N, hN⟩ := eX A.length; have HN := hZ hN; rw [hN] at hlen q1 ⊢; clear hN; by_cases h2 : 2 < N
 ·have Hbig : Hid (qA7 z = .tuple #[.int .i64 0, .bool false]) := hZ (by
   have h3 : W2 ^ 2 <= z.natAbs := by
    rcases Nat.lt_or_ge z.natAbs (W2 ^ 2) with h | h
    ·have := qAO W2 qAl 2 z.natAbs h
     rw [HA.o, HN.o] at this; omega
    ·exact h
   have h4 : W2 ^ 2 = 18446744073709551616 := rfl; unfold qA7; rw [if_neg (by omega)])
  go_enter Try.func52, Try.ntmps52
  go_wp2
  go_ret2
  exact ⟨by rw [Hbig.o]; rfl, HB.o _ _⟩
 ·go_enter Try.func52, Try.ntmps52
  go_wp2_with fail
  go_loopw [4, 14] (fun sv i wr => ∃ (k s : Nat), k <= N /\ i = .int .i64 k /\ sv = .int .u64 (s : Int) /\ Hid (s = val W2 (A.take k)) /\ Hid (w.alloc (.cells #[.bool (decide (z < 0)), .slice ax N cx] 58) = wr)) (fun _ i _ => N - (intOf i).toNat)
  case atStart => exact ⟨0, 0, by omega, rfl, rfl, hZ (by simp [val]), hZ rfl⟩
  case round =>
   obtain ⟨k, s, hk, rfl, rfl, hs, hw⟩ := hrel; by_cases hlt : k < N
   ·have hka : k < A.length := by rw [HN.o]; exact hlt
    obtain ⟨b, off, rfl, hb, hcc⟩ := Hc.o (by omega); have hyl : A[k] < 4294967296 := Hlow.o _ (List.getElem_mem hka); have cy : wr.cell? ⟨b, off + k, none⟩ = some (.int .u32 (A[k] : Int)) := by
     rw [<- hw.o, World.cell?_alloc_lt _ _ _ hb]; exact hcc k hka
    have Hst := hZ (qAf W2 A k hka); clear hcc; generalize A[k] = y at *; have hk2 : k = 0 \/ k = 1 := by omega
    rcases hk2 with rfl | rfl
    ·obtain rfl : s = 0 := by rw [hs.o]; simp [val]
     have hor := qGC y hyl; rw [Nat.add_zero] at cy
     go_wp2_with fail
     refine ⟨⟨1, y, by omega, rfl, rfl, hZ ?_, hw⟩, ?_⟩
     ·have := Hst.o
      rw [Nat.zero_add] at this; rw [this]; simp [val]
     ·simp [intOf]; omega
    ·have hs1 : s < 4294967296 := by
      have h3 := qBd W2 (by decide) (A.take 1) (qDa Hlow.o 1); rw [List.length_take, Nat.min_eq_left (by omega)] at h3; rw [hs.o]; exact h3
     have hor := qGD s y hs1 hyl
     go_wp2_with fail
     refine ⟨⟨2, s + y * 4294967296, by omega, rfl, by go_num, hZ ?_, hw⟩, ?_⟩
     ·have := Hst.o
      rw [show 1 + 1 = 2 from rfl] at this; rw [this, <- hs.o]; rfl
     ·simp [intOf]; omega
   ·obtain rfl : k = N := by omega
    clear hlt; obtain rfl : s = z.natAbs := by
     rw [hs.o, List.take_of_length_le (by rw [HN.o]; exact Nat.le_refl _)]; exact Hval.o
    have hs2 : z.natAbs < 18446744073709551616 := by
     have h3 := qBd W2 (by decide) A Hlow.o; rw [Hval.o, HN.o] at h3; have h4 : W2 ^ k <= W2 ^ 2 := Nat.pow_le_pow_right (by decide) (by omega); have h5 : W2 ^ 2 = 18446744073709551616 := rfl; omega
    have HBw : Hid (Below w.heap.size w wr) := hZ (by rw [<- hw.o]; exact HB.o _ _); have cneg : wr.cell? ⟨w.heap.size, 0, none⟩ = some (.bool (decide (z < 0))) := by
     rw [<- hw.o]; exact (Two.new w 58 _ _).cell0
    clear hw Hc HB hs; by_cases hz : z < 0
    ·rw [decide_eq_true hz] at cneg
     have hza : (z.natAbs : Int) = -z := by omega
     obtain ⟨m, hm⟩ := eX z.natAbs; rw [hm] at hs2 hza ⊢; have hmp : 0 < m := by omega
     by_cases hbig : 9223372036854775808 < m
     ·have Hb : Hid (qA7 z = .tuple #[.int .i64 0, .bool false]) := hZ (by unfold qA7; rw [if_neg (by omega)])
      clear hm hza
      go_wp2
      go_ret2
      exact ⟨by rw [Hb.o]; rfl, HBw.o⟩
     ·have Hb : Hid (qA7 z = .tuple #[.int .i64 (-(m : Int)), .bool true]) := hZ (by unfold qA7; rw [if_pos (by omega), hza, Int.neg_neg])
      have b1 : IntKind.u64.wrap (-(m : Int)) = 18446744073709551616 - (m : Int) := by rw [IntKind.wrap_u64]; omega
      have b2 : IntKind.i64.wrap (18446744073709551616 - (m : Int)) = -(m : Int) := by rw [IntKind.wrap_i64]; omega
      clear hm hza
      go_wp2
      go_ret2
      exact ⟨by rw [Hb.o]; rfl, HBw.o⟩
    ·rw [decide_eq_false hz] at cneg
     have hza : (z.natAbs : Int) = z := by omega
     obtain ⟨m, hm⟩ := eX z.natAbs; rw [hm] at hs2 hza ⊢; by_cases hbig : 9223372036854775807 < m
     ·have Hb : Hid (qA7 z = .tuple #[.int .i64 0, .bool false]) := hZ (by unfold qA7; rw [if_neg (by omega)])
      clear hm hza
      go_wp2
      go_ret2
      exact ⟨by rw [Hb.o]; rfl, HBw.o⟩
     ·have Hb : Hid (qA7 z = .tuple #[.int .i64 (m : Int), .bool true]) := hZ (by unfold qA7; rw [if_pos (by omega), hza])
      clear hm hza
      go_wp2
      go_ret2
      exact ⟨by rw [Hb.o]; rfl, HBw.o⟩
def qMK : Value -> Nat
 | .slice _ l _ => l
 | _ => 0
theorem qAd.set_two {k : IntKind} {w : World} {v : Value} {L : List Nat} {b : Nat} {t : TypeId} {x : Bool} {p : Option Addr} {l c : Nat} (h : qAd k w v L) (hT : Two w b t (.bool x) (.slice p l c)) (u u' : Value) :
 qAd k ((w.setCell ⟨b, 0, none⟩ u).setCell ⟨b, 1, none⟩ u') v L := by
 obtain ⟨a, cap, hv, h1, h2, hc⟩ := h; refine ⟨a, cap, hv, h1, h2, fun h0 => ?_⟩; obtain ⟨g, off, ha, hlt, hcc⟩ := hc h0; have hne : g ≠ b := by
  rintro rfl; have h3 := hcc 0 h0; rw [cell_of_row w g (off + 0) _ t (0, 0) hT] at h3
  match off, h3 with
  | 0, h3 => cases h3
  | 1, h3 => cases h3
  | n + 2, h3 => cases h3
 refine ⟨g, off, ha, by simp [World.setCell]; exact hlt, fun j hj => ?_⟩; rw [World.cell?_of_block (w := w) (w' := (w.setCell ⟨b, 0, none⟩ u).setCell ⟨b, 1, none⟩ u')]
 ·exact hcc j hj
 ·exact (Below.heap_setCell _ ⟨b, 1, none⟩ u' g hne).trans (Below.heap_setCell _ ⟨b, 0, none⟩ u g hne)
def qIs : Value -> Nat
 | .int _ i => (i + 1).toNat
 | _ => 0
open Go.RowKit
def sv (t : Tx) : Value := .string ⟨t.toArray⟩
structure Amt where
 item : Nat
 n : Nat
structure Rul where
 name : Tx
 spawn : Bool
 time : Nat
 of_ : Nat
 take : List Amt
 give : List Amt
 back : List Amt
structure Cat where
 items : List Tx
 rules : List Rul
def qLC (l : List Amt) : Prop := l.Pairwise (fun a b => a.item < b.item)
structure qJw (n M K : Nat) (l : List Amt) : Prop where
 sorted : qLC l
 all : ∀ a ∈ l, a.item < n /\ 1 <= a.n /\ a.n <= M
 len : l.length <= K
theorem qJw.mono {n M M' K K' : Nat} {l : List Amt} (h : qJw n M K l) (hM : M <= M') (hK : K <= K') : qJw n M' K' l :=
 ⟨h.sorted, fun a ha => by have := h.all a ha; omega, by have := h.len; omega⟩
theorem qJw.nil (n M K : Nat) : qJw n M K [] := ⟨List.Pairwise.nil, (fun _ h => by cases h), by simp⟩
structure qMI (pk : Nat -> Nat -> Nat) : Prop where
 lt : ∀ i m, 0 < m -> pk i m < m
section
variable {pk : Nat -> Nat -> Nat} {bal : Bool} (hp : qMI pk)
include hp
omit hp in
end
open Go.RowKit
def zv (x : Int) : Value := .int .i64 x
def qAh {α : Type} (k : Nat) (R : World -> α -> List Value -> Prop) (w : World) (v : Value) (xs : List α) : Prop :=
 ∃ a cap, v = .slice a xs.length cap /\ xs.length <= cap /\ cap <= 9223372036854775807 /\ (0 < xs.length -> ∃ b, a = some ⟨b, 0, none⟩ /\ b < w.heap.size /\ ∀ j (h : j < xs.length), ∃ cs, R w xs[j] cs /\ cs.length = k /\ ∀ i, i < k -> w.cell? ⟨b, j * k + i, none⟩ = cs[i]?)
section
variable {α : Type} {k : Nat} {R : World -> α -> List Value -> Prop} {w w' : World} {v : Value} {xs : List α}
theorem qAh.below (h : qAh k R w v xs) (hb : Below w.heap.size w w') (hR : ∀ x cs, R w x cs -> R w' x cs) : qAh k R w' v xs := by
 obtain ⟨a, cap, hv, h1, h2, hc⟩ := h; refine ⟨a, cap, hv, h1, h2, fun h0 => ?_⟩; obtain ⟨b, ha, hlt, hcc⟩ := hc h0; refine ⟨b, ha, Nat.lt_of_lt_of_le hlt hb.size, fun j hj => ?_⟩; obtain ⟨cs, hr, hl, hcl⟩ := hcc j hj; exact ⟨cs, hR _ _ hr, hl, fun i hi => (hb.cell (p := ⟨b, j * k + i, none⟩) hlt).trans (hcl i hi)⟩
theorem qAh.nil (a : Option Addr) (cap : Nat) (hc : cap <= 9223372036854775807) : qAh k R w (.slice a 0 cap) [] := ⟨a, cap, rfl, by simp, hc, fun h => by simp at h⟩
theorem qAh.form (h : qAh k R w v xs) : ∃ a cap, v = .slice a xs.length cap /\ xs.length <= cap /\ cap <= 9223372036854775807 := by
 obtain ⟨a, cap, hv, h1, h2, _⟩ := h; exact ⟨a, cap, hv, h1, h2⟩
theorem qAh.at_ (h : qAh k R w v xs) (j : Nat) (hj : j < xs.length) : ∃ b cap cs, v = .slice (some ⟨b, 0, none⟩) xs.length cap /\ b < w.heap.size /\ R w xs[j] cs /\ cs.length = k /\ ∀ i, i < k -> w.cell? ⟨b, j * k + i, none⟩ = cs[i]? := by
 obtain ⟨a, cap, rfl, h1, h2, hc⟩ := h; obtain ⟨b, rfl, hlt, hcc⟩ := hc (by omega); obtain ⟨cs, hr, hl, hcl⟩ := hcc j hj; exact ⟨b, cap, cs, rfl, hlt, hr, hl, hcl⟩
theorem qAh.take {a : Option Addr} {n cap : Nat} (h : qAh k R w (.slice a n cap) xs) (m : Nat) (hm : m <= xs.length) : qAh k R w (.slice a m cap) (xs.take m) := by
 obtain ⟨a', cap', hv, h1, h2, hc⟩ := h; injection hv with e1 e2 e3; subst e1 e3; have hl : (xs.take m).length = m := by rw [List.length_take]; omega
 refine ⟨a, cap, by rw [hl], by omega, h2, fun h0 => ?_⟩; obtain ⟨b, ha, hlt, hcc⟩ := hc (by omega); refine ⟨b, ha, hlt, fun j hj => ?_⟩; obtain ⟨cs, hr, hx⟩ := hcc j (by omega); exact ⟨cs, by rw [List.getElem_take]; exact hr, hx⟩
theorem qDs : ∀ (css : List (List Value)) (k j i : Nat), (∀ cs ∈ css, cs.length = k) -> (hj : j < css.length) -> i < k -> css.flatten[j * k + i]? = css[j][i]?
 | [], _, _, _, _, hj, _ => by simp at hj
 | cs :: css, k, 0, i, h, _, hi => by
  have := h cs (by simp); rw [List.flatten_cons, List.getElem?_append_left (by omega)]; simp
 | cs :: css, k, j + 1, i, h, hj, hi => by
  have := h cs (by simp); rw [List.flatten_cons, List.getElem?_append_right (by rw [Nat.succ_mul]; omega), show (j + 1) * k + i - cs.length = j * k + i by rw [Nat.succ_mul]; omega, qDs css k j i (fun c hc => h c (by simp [hc])) (by simpa using hj) hi]; simp
theorem qAh.of_own {base : Nat} {e : TypeId} {css : List (List Value)} (h : w.ownsRow base e k v css.length css.flatten) (hk : ∀ cs ∈ css, cs.length = k) (hl : css.length = xs.length)
 (hR : ∀ j (h : j < xs.length) (h' : j < css.length), R w xs[j] css[j]) : qAh k R w v xs := by
 rcases h.2 with ⟨hv, hx⟩ | ⟨g, cap, cur, hv, hb, hh, hn, hm, hs, ht⟩
 ·have : xs = [] := List.eq_nil_of_length_eq_zero (by omega)
  subst this; rw [hv]; exact qAh.nil _ _ (by omega)
 ·rw [hl] at hv hn
  refine ⟨_, cap, hv, hn, by unfold maxLen at hm; exact hm, fun h0 => ⟨g, rfl, (Array.getElem?_eq_some_iff.1 hh).1, fun j hj => ⟨css[j]'(by omega), hR j hj (by omega), hk _ (List.getElem_mem _), fun i hi => ?_⟩⟩⟩; rw [cell_of_row w g (j * k + i) _ e (0, 0) hh, <- qDs css k j i hk (by omega) hi, <- ht]; rw [List.getElem?_take, if_pos, Array.getElem?_toList]; exact Nat.lt_of_lt_of_le (show j * k + i < (j + 1) * k by rw [Nat.succ_mul]; omega) (Nat.mul_le_mul_right _ (by omega))
end
def qMS (a : Amt) : List Value := [zv a.item, zv a.n]
def qEL (w : World) (v : Value) (l : List Amt) : Prop := qAh 2 (fun _ a cs => cs = qMS a) w v l
def qMR (n : Tx) : List Value := [.string ⟨n.toArray⟩, .bool false, .bool false, .bool false, zv 0, zv 0, zv 0]
def qFl (w : World) (v : Value) (l : List Tx) : Prop := qAh 7 (fun _ n cs => cs = qMR n) w v l
def qMM (r : Rul) (vt vg vb : Value) : List Value := [.string ⟨r.name.toArray⟩, .bool r.spawn, zv 0, zv r.time, zv 1, zv r.of_, vt, vg, vb]
def qKj (w : World) (r : Rul) (cs : List Value) : Prop := ∃ vt vg vb, cs = qMM r vt vg vb /\ qEL w vt r.take /\ qEL w vg r.give /\ qEL w vb r.back
def qFj (w : World) (v : Value) (l : List Rul) : Prop := qAh 9 qKj w v l
def qAm (w : World) (v : Value) (l : List Int) : Prop := qAh 1 (fun _ a cs => cs = [zv a]) w v l
structure qLM (w : World) (vi vr : Value) (c : Cat) : Prop where
 items : qFl w vi c.items
 rules : qFj w vr c.rules
section
variable {w w' : World} {v : Value}
theorem qEL.below {l : List Amt} (h : qEL w v l) (hb : Below w.heap.size w w') : qEL w' v l := qAh.below h hb (fun _ _ h => h)
theorem qFl.below {l : List Tx} (h : qFl w v l) (hb : Below w.heap.size w w') : qFl w' v l := qAh.below h hb (fun _ _ h => h)
theorem qAm.below {l : List Int} (h : qAm w v l) (hb : Below w.heap.size w w') : qAm w' v l := qAh.below h hb (fun _ _ h => h)
theorem qKj.below {r : Rul} {cs : List Value} (h : qKj w r cs) (hb : Below w.heap.size w w') : qKj w' r cs := by
 obtain ⟨vt, vg, vb, h1, h2, h3, h4⟩ := h; exact ⟨vt, vg, vb, h1, h2.below hb, h3.below hb, h4.below hb⟩
theorem qFj.below {l : List Rul} (h : qFj w v l) (hb : Below w.heap.size w w') : qFj w' v l := qAh.below h hb (fun _ _ h => h.below hb)
theorem qLM.below {vi vr : Value} {c : Cat} (h : qLM w vi vr c) (hb : Below w.heap.size w w') : qLM w' vi vr c := ⟨h.items.below hb, h.rules.below hb⟩
end
theorem qAm.at_ {w : World} {v : Value} {l : List Int} (h : qAm w v l) (j : Nat) (hj : j < l.length) :
 ∃ b cap, v = .slice (some ⟨b, 0, none⟩) l.length cap /\ b < w.heap.size /\ w.cell? ⟨b, j, none⟩ = some (.int .i64 l[j]) := by
 obtain ⟨b, cap, cs, hv, hb, rfl, _, hc⟩ := qAh.at_ h j hj; have := hc 0 (by omega); rw [Nat.mul_one, Nat.add_zero] at this; exact ⟨b, cap, hv, hb, this⟩
open Go.RowKit
def qIq (P : Program) (t e : TypeId) (k bytes : Nat) : Prop :=
 P.underlying t = some (.slice e) /\ ∃ i z, P.info? e = some i /\ i.zero = some z /\ i.size = k /\ i.bytes = bytes /\ z.cells.size = k /\ 0 < k
theorem qIq.mk {P : Program} {t e : TypeId} {k bytes : Nat} {z : Value} (h1 : P.underlying t = some (.slice e)) (h2 : (P.info? e).map (fun i => (i.zero, i.size, i.bytes)) = some (some z, k, bytes)) (h3 : z.cells.size = k) (h4 : 0 < k) : qIq P t e k bytes := by
 obtain ⟨i, hi, hz0, hz1, hz2⟩ := info_parts h2; exact ⟨h1, i, z, hi, hz0, hz1, hz2, h3, h4⟩
theorem qC4 {w w' : World} {row : Option Nat} (h : w.grownBy w' row) : qAb (fun b => row = some b) w w' :=
 ⟨h.os, h.tape, h.output, h.size, fun k hk hn => h.block k hk (fun e => hn e.symm)⟩
theorem qAb.own {S : Nat -> Prop} {w w' : World} (h : qAb S w w') {base e k n : Nat} {v : Value} {xs : List Value} (ho : w.ownsRow base e k v n xs) (hS : ∀ b, v.ownBlock = some b -> ¬ S b) : w'.ownsRow base e k v n xs := by
 obtain ⟨hl, ho⟩ := ho; refine ⟨hl, ?_⟩; rcases ho with ho | ⟨g, cap, cur, hv, hb, hh, hr⟩
 ·exact .inl ho
 ·refine .inr ⟨g, cap, cur, hv, hb, ?_, hr⟩
  rw [h.block g (Array.getElem?_eq_some_iff.1 hh).1 (hS g (by rw [hv]; rfl))]; exact hh
theorem qBH {P : Program} {W0 w : World} {ops : Array Oper} {rest : List Oper} {o : Oper} {a : Act} {Q : Exit -> Act -> World -> Prop} {B k bytes : Nat} {t e : TypeId} (hE : qIq P t e k bytes) (hgd : o.guard = none) (s x : Operand)
 (ho : o.op = .call { callee := .builtin .append, args := #[s, x], argTypes := #[t, t] }) (cs : List Value) (te : TypeId)
 (v : Value) (n : Nat) (xs : List Value) (hs : a.eval s = v) (hx : a.eval x = .slice (some ⟨w.heap.size, 0, none⟩) 1 1) (hcs : cs.length = k) (h1 : ∀ u ∈ cs, u.oneCell' = true)
 (hown : w.ownsRow B e k v n xs) (hB : Below B W0 w) (hle : B <= w.heap.size) (hn : n <= 1000000000) (hby : bytes <= 1000)
 (h : ∀ g cap w', Hid (w'.ownsRow B e k (.slice (some ⟨g, 0, none⟩) (n + 1) cap) (n + 1) (xs ++ cs)) -> Hid (Below B W0 w') -> Hid (qAb (fun b => v.ownBlock = some b) w w') -> cap <= 9223372036854775807 -> Hid (v.ownBlock = some g \/ w.heap.size <= g) -> wpList P ops Q rest (a.put o.dst (.slice (some ⟨g, 0, none⟩) (n + 1) cap)) w') : wpList P ops Q (o :: rest) a (w.alloc (.cells cs.toArray te)) := by
 obtain ⟨ht, i, z, hi, hz, hsize, hbyt, hzs, hk⟩ := hE; have hcap : (n + 1) * bytes <= 140737488355328 := Nat.le_trans (Nat.mul_le_mul (show n + 1 <= 1000000001 by omega) hby) (by decide); refine wpList_append_lies (w.alloc (.cells cs.toArray te)) hgd s x t ho B e i z k bytes ht hi hz hsize hbyt hzs hk v n xs hs (hown.alloc _) ⟨w.heap.size, 0, none⟩ 1 1 cs hx (by rw [Nat.one_mul]; exact hcs) ?_ h1 (by omega) (by unfold maxLen; omega) hcap (by simp; omega) (w.heap.size + 1) (by simp) ?_
 ·intro j u hu
  have hadd : (⟨w.heap.size, 0, none⟩ : Addr).add j = ⟨w.heap.size, j, none⟩ := by unfold Addr.add; split <;> simp_all
  rw [hadd, cell_of_row _ w.heap.size j _ te (0, 0) (heap_alloc_new w _)]; simpa using hu
 ·intro g cap w' ho' hg hat hlt
  have hO : qAb (fun b => v.ownBlock = some b) w w' := (qC4 hg) |> fun h2 => ⟨h2.os, h2.tape, h2.output, Nat.le_trans (by simp) h2.size, fun k hk hn => (h2.block k (by simp; omega) hn).trans (Below.heap_alloc w _ k hk)⟩
  refine h g cap w' (hZ ho') (hZ (hO.below hB hle (fun k e => (hown.lt k e).1))) (hZ hO) ?_ (hZ ?_)
  ·rcases ho'.2 with ⟨hv, _⟩ | ⟨_, _, _, hv, _, _, _, h3, _⟩
   ·cases hv
   ·injection hv with _ _ e
    unfold maxLen at h3; omega
  ·rcases hat with hat | hat
   ·exact .inl hat
   ·exact .inr (by omega)
theorem qDL {P : Program} {W0 w : World} {ops : Array Oper} {rest : List Oper} {o : Oper} {a : Act} {Q : Exit -> Act -> World -> Prop} {B k bytes : Nat} {t e : TypeId} (hE : qIq P t e k bytes) (hgd : o.guard = none) (s x : Operand)
 (ho : o.op = .call { callee := .builtin .append, args := #[s, x], argTypes := #[t, t] }) 
 (v : Value) (n : Nat) (xs : List Value) (hs : a.eval s = v) (ad : Addr) (m c : Nat) (cs : List Value) (hx : a.eval x = .slice (some ad) m c) (hcs : cs.length = m * k) (hnews : ∀ j u, cs[j]? = some u -> w.cell? (ad.add j) = some u) (h1 : ∀ u ∈ cs, u.oneCell' = true)
 (hown : w.ownsRow B e k v n xs) (hB : Below B W0 w) (hle : B <= w.heap.size) (hn : n + m <= 1000000000) (hby : bytes <= 1000)
 (h : ∀ v' w', Hid (w'.ownsRow B e k v' (n + m) (xs ++ cs)) -> Hid (Below B W0 w') -> Hid (qAb (fun b => v.ownBlock = some b) w w') -> wpList P ops Q rest (a.put o.dst v') w') : wpList P ops Q (o :: rest) a w := by
 obtain ⟨ht, i, z, hi, hz, hsize, hbyt, hzs, hk⟩ := hE; have hcap : (n + m) * bytes <= 140737488355328 := Nat.le_trans (Nat.mul_le_mul hn hby) (by decide); refine wpList_append_own w hgd s x t ho B e i z k bytes ht hi hz hsize hbyt hzs hk v n xs hs hown ad m c cs hx hcs hnews h1 (by unfold maxLen; omega) hcap hle ?_; intro v' w' ho' hg _; have hO := qC4 hg; exact h v' w' (hZ ho') (hZ (hO.below hB hle (fun k e => (hown.lt k e).1))) (hZ hO)
def qAy (w : World) (g : Nat) (t : TypeId) (cs : List Value) : Prop := w.heap[g]? = some (.cells cs.toArray t (0, 0))
section
variable {w w' : World} {g : Nat} {t : TypeId} {cs : List Value}
theorem qAy.lt (h : qAy w g t cs) : g < w.heap.size := (Array.getElem?_eq_some_iff.1 h).1
theorem qAy.cell (h : qAy w g t cs) (i : Nat) : w.cell? ⟨g, i, none⟩ = cs[i]? := by
 rw [cell_of_row w g i _ t (0, 0) h]; simp
theorem qAy.frozen (h : qAy w g t cs) (i : Nat) : w.frozen? ⟨g, i, none⟩ = false := by
 unfold qAy at h; simp [World.frozen?, h]
theorem qAy.below {B : Nat} (h : qAy w g t cs) (hb : Below B w w') (hg : g < B) : qAy w' g t cs := (hb.block g hg).trans h
theorem qAy.set (h : qAy w g t cs) (i : Nat) (u : Value) : qAy (w.setCell ⟨g, i, none⟩ u) g t (cs.set i u) := by
 unfold qAy at h ⊢; simp [World.setCell, Array.getElem?_modify, h]
theorem qAy.far (h : qAy w g t cs) {p : Addr} (hp : g ≠ p.block) (u : Value) : qAy (w.setCell p u) g t cs := (Below.heap_setCell w p u g hp).trans h
theorem qAy.drewN (h : qAy w g t cs) (n : Nat) : qAy (w.drewN n) g t cs := h
theorem qAy.drew (h : qAy w g t cs) : qAy w.drew g t cs := h
theorem qAy.alloc (h : qAy w g t cs) (o : Obj) : qAy (w.alloc o) g t cs := (Below.heap_alloc w o g h.lt).trans h
theorem qAy.new (w : World) (t : TypeId) (cs : List Value) : qAy (w.alloc (.cells cs.toArray t)) w.heap.size t cs := heap_alloc_new w _
theorem qAy.only {S : Nat -> Prop} (h : qAy w g t cs) (ho : qAb S w w') (hS : ¬ S g) : qAy w' g t cs := (ho.block g h.lt hS).trans h
theorem qAy.of_own {base k n : Nat} {a : Option Addr} {cap : Nat} (h : w.ownsRow base t k (.slice (some ⟨g, 0, none⟩) n cap) n cs) (hc : cap = n) : qAy w g t cs := by
 obtain ⟨hl, ho⟩ := h; rcases ho with ⟨hv, _⟩ | ⟨g', cap', cur, hv, hb, hh, hn, hm, hs, ht⟩
 ·cases hv
 ·injection hv with e1 e2 e3
  injection e1 with e1; injection e1 with e1; subst e1 e3; unfold qAy; rw [hh, <- ht, List.take_of_length_le (by simp [hs, hc])]
end
theorem qFv {α : Type} {k : Nat} {R : World -> α -> List Value -> Prop} {w : World} {xs : List α} {g : Nat} {t : TypeId} {css : List (List Value)} (h : qAy w g t css.flatten) (hk : ∀ cs ∈ css, cs.length = k) (hl : css.length = xs.length)
 (hR : ∀ j (h : j < xs.length) (h' : j < css.length), R w xs[j] css[j]) {cap : Nat} (hc : xs.length <= cap) (hc2 : cap <= 9223372036854775807) : qAh k R w (.slice (some ⟨g, 0, none⟩) xs.length cap) xs := by
 refine ⟨_, cap, rfl, hc, hc2, fun h0 => ⟨g, rfl, h.lt, fun j hj => ⟨css[j]'(by omega), hR j hj (by omega), hk _ (List.getElem_mem _), fun i hi => ?_⟩⟩⟩; rw [h.cell, qDs css k j i hk (by omega) hi]
theorem qBq {α : Type} (f : α -> Value) (l : List α) : (l.map (fun a => [f a])).flatten = l.map f := by
 induction l with
 | nil => rfl
 | cons x r ih => simp [ih]
theorem qCo {w : World} {g : Nat} {t : TypeId} {l : List Int} (h : qAy w g t (l.map zv)) {cap : Nat} (hc : l.length <= cap) (hc2 : cap <= 9223372036854775807) : qAm w (.slice (some ⟨g, 0, none⟩) l.length cap) l := by
 refine qFv (css := l.map (fun a => [zv a])) (by rw [qBq]; exact h) (by simp) (by simp) ?_ hc hc2; intro j h1 h2; simp
theorem qD7 {w : World} {base : Nat} {e : TypeId} {v : Value} {l : List Int} (h : w.ownsRow base e 1 v l.length (l.map zv)) : qAm w v l := by
 refine qAh.of_own (css := l.map (fun a => [zv a])) (base := base) (e := e) (by rw [qBq, List.length_map]; exact h) (by simp) (by simp) ?_; intro j h1 h2; simp
theorem qFa : qIq Try.prog 22 3 1 8 := qIq.mk (z := .int .i64 0) Try.underlying22 (by kernel_rfl) rfl (by decide)
open Go.RowKit
def qAg (w : World) (g : Nat) : Prop := ∀ (o : Nat) (x : Int), w.cell? ⟨g, o, none⟩ ≠ some (.int .u32 x)
theorem qAd.far {w : World} {v : Value} {L : List Nat} {g : Nat} (h : qAd .u32 w v L) (hg : qAg w g) (o : Nat) (u : Value) : qAd .u32 (w.setCell ⟨g, o, none⟩ u) v L := by
 obtain ⟨a, cap, hv, h1, h2, hc⟩ := h; refine ⟨a, cap, hv, h1, h2, fun h0 => ?_⟩; obtain ⟨b, off, ha, hlt, hcc⟩ := hc h0; have hne : b ≠ g := by
  rintro rfl; exact hg _ _ (hcc 0 h0)
 refine ⟨b, off, ha, by simpa [World.setCell] using hlt, fun j hj => ?_⟩; rw [World.cell?_setCell_other _ _ _ _ (by intro e; injection e with e1; exact hne e1.symm)]; exact hcc j hj
theorem qAw.far {w : World} {v : Value} {z : Int} {g : Nat} (h : qAw w v z) (hg : qAg w g) (o : Nat) (u : Value) : qAw (w.setCell ⟨g, o, none⟩ u) v z := by
 obtain ⟨vw, hv, hm⟩ := h; exact ⟨vw, hv, hm.far hg o u⟩
theorem qAy.noInt {w : World} {g : Nat} {t : TypeId} {cs : List Value} (h : qAy w g t cs) (hc : ∀ u ∈ cs, ∀ x, u ≠ .int .u32 x) : qAg w g := by
 intro o x he; rw [h.cell] at he; exact hc _ (List.mem_of_getElem? he) x rfl
def WCs (w : World) (cs : List Value) (zs : List Int) : Prop :=
 zs.length * 2 <= cs.length /\ (∀ u ∈ cs, ∀ x, u ≠ .int .u32 x) /\ ∀ j (h : j < zs.length), ∃ a n c, cs[j * 2]? = some (.bool (decide (zs[j] < 0))) /\ cs[j * 2 + 1]? = some (.slice a n c) /\ qAw w (.agg #[.bool (decide (zs[j] < 0)), .slice a n c]) zs[j]
theorem WCs.noInt {w : World} {cs : List Value} {zs : List Int} (h : WCs w cs zs) : ∀ u ∈ cs, ∀ x, u ≠ .int .u32 x := h.2.1
theorem WCs.below {w w' : World} {cs : List Value} {zs : List Int} (h : WCs w cs zs) (hb : Below w.heap.size w w') : WCs w' cs zs := by
 refine ⟨h.1, h.2.1, fun j hj => ?_⟩; obtain ⟨a, n, c, h1, h2, h3⟩ := h.2.2 j hj; exact ⟨a, n, c, h1, h2, h3.below hb⟩
theorem WCs.far {w : World} {cs : List Value} {zs : List Int} {g : Nat} (h : WCs w cs zs) (hg : qAg w g) (o : Nat) (u : Value) : WCs (w.setCell ⟨g, o, none⟩ u) cs zs := by
 refine ⟨h.1, h.2.1, fun j hj => ?_⟩; obtain ⟨a, n, c, h1, h2, h3⟩ := h.2.2 j hj; exact ⟨a, n, c, h1, h2, h3.far hg o u⟩
def qAE (w : World) (g : Nat) (zs : List Int) : Prop := ∃ cs, qAy w g 58 cs /\ WCs w cs zs
section
variable {w w' : World} {g : Nat} {zs : List Int}
theorem qAE.lt (h : qAE w g zs) : g < w.heap.size := by obtain ⟨cs, h1, _⟩ := h; exact h1.lt
theorem qAE.noInt (h : qAE w g zs) : qAg w g := by obtain ⟨cs, h1, h2⟩ := h; exact h1.noInt h2.noInt
theorem qAE.frozen (h : qAE w g zs) (o : Nat) : w.frozen? ⟨g, o, none⟩ = false := by obtain ⟨cs, h1, h2⟩ := h; exact h1.frozen o
theorem qAE.at_ (h : qAE w g zs) (j : Nat) (hj : j < zs.length) : ∃ a n c, w.cell? ⟨g, j * 2, none⟩ = some (.bool (decide (zs[j] < 0))) /\ w.cell? ⟨g, j * 2 + 1, none⟩ = some (.slice a n c) /\ qAw w (.agg #[.bool (decide (zs[j] < 0)), .slice a n c]) zs[j] := by
 obtain ⟨cs, h1, h2⟩ := h; obtain ⟨a, n, c, e1, e2, e3⟩ := h2.2.2 j hj; exact ⟨a, n, c, (h1.cell _).trans e1, (h1.cell _).trans e2, e3⟩
theorem qAE.below (h : qAE w g zs) (hb : Below w.heap.size w w') : qAE w' g zs := by
 obtain ⟨cs, h1, h2⟩ := h; exact ⟨cs, h1.below hb h1.lt, h2.below hb⟩
theorem qAE.far {g' : Nat} (h : qAE w g zs) (hne : g ≠ g') (hg : qAg w g') (o : Nat) (u : Value) : qAE (w.setCell ⟨g', o, none⟩ u) g zs := by
 obtain ⟨cs, h1, h2⟩ := h; exact ⟨cs, h1.far hne u, h2.far hg o u⟩
theorem qAE.put (h : qAE w g zs) (j : Nat) (hj : j < zs.length) {z : Int} {a : Option Addr} {n c : Nat} (hz : qAw w (.agg #[.bool (decide (z < 0)), .slice a n c]) z) :
 qAE ((w.setCell ⟨g, j * 2, none⟩ (.bool (decide (z < 0)))).setCell ⟨g, j * 2 + 1, none⟩ (.slice a n c)) g (zs.set j z) := by
 have hn := h.noInt; obtain ⟨cs, h1, h2⟩ := h; have h3 := h1.set (j * 2) (.bool (decide (z < 0))); have hn2 : qAg (w.setCell ⟨g, j * 2, none⟩ (.bool (decide (z < 0)))) g := h3.noInt (fun u hu x => by
  rcases List.mem_or_eq_of_mem_set hu with h | h
  ·exact h2.noInt u h x
  ·rw [h]; intro e; cases e)
 have h4 := (h2.far hn (j * 2) (.bool (decide (z < 0)))).far hn2 (j * 2 + 1) (.slice a n c); refine ⟨_, h3.set (j * 2 + 1) (.slice a n c), by simpa using h2.1, ?_, fun q hq => ?_⟩
 ·intro u hu x
  rcases List.mem_or_eq_of_mem_set hu with h | h
  ·rcases List.mem_or_eq_of_mem_set h with h | h
   ·exact h2.noInt u h x
   ·rw [h]; intro e; cases e
  ·rw [h]; intro e; cases e
 rw [List.length_set] at hq; by_cases e : q = j
 ·subst e
  have hl := h2.1; refine ⟨a, n, c, ?_, ?_, ?_⟩
  ·rw [List.getElem?_set_ne (by omega), List.getElem?_set_self (by omega), List.getElem_set_self]
  ·rw [List.getElem?_set_self (by simp; omega)]
  ·rw [List.getElem_set_self]
   exact (hz.far hn _ _).far hn2 _ _
 ·obtain ⟨a', n', c', e1, e2, e3⟩ := h4.2.2 q hq
  refine ⟨a', n', c', ?_, ?_, ?_⟩
  ·rw [List.getElem?_set_ne (by omega), List.getElem?_set_ne (by omega), List.getElem_set_ne (Ne.symm e)]; exact e1
  ·rw [List.getElem?_set_ne (by omega), List.getElem?_set_ne (by omega)]; exact e2
  ·rw [List.getElem_set_ne (Ne.symm e)]; exact e3
end
open Go.RowKit
def qAD (w : World) (v : Value) (m : List (List Int)) : Prop := qAh 1 (fun W r cs => ∃ u, cs = [u] /\ qAm W u r) w v m
theorem qAD.below {w w' : World} {v : Value} {m : List (List Int)} (h : qAD w v m) (hb : Below w.heap.size w w') : qAD w' v m :=
 qAh.below h hb (fun _ _ ⟨u, e, hu⟩ => ⟨u, e, hu.below hb⟩)
theorem qAD.form {w : World} {v : Value} {m : List (List Int)} (h : qAD w v m) : ∃ a cap, v = .slice a m.length cap /\ m.length <= cap /\ cap <= 9223372036854775807 := qAh.form h
theorem qAD.at_ {w : World} {v : Value} {m : List (List Int)} (h : qAD w v m) (j : Nat) (hj : j < m.length) :
 ∃ b cap a c, v = .slice (some ⟨b, 0, none⟩) m.length cap /\ b < w.heap.size /\ w.cell? ⟨b, j, none⟩ = some (.slice a m[j].length c) /\ qAm w (.slice a m[j].length c) m[j] /\ m[j].length <= c /\ c <= 9223372036854775807 := by
 obtain ⟨b, cap, cs, hv, hb, ⟨u, rfl, hu⟩, hcell⟩ := qAh.at_ h j hj; obtain ⟨a, c, rfl, h1, h2⟩ := hu.form; have h0 := hcell.2 0 (by omega); exact ⟨b, cap, a, c, hv, hb, by simpa using h0, hu, h1, h2⟩
def qAF (m : List (List Int)) : Int :=
 if 64 < m.length then 4 else if m.any (fun r => decide (128 < r.length)) then 4
 else if m.any (fun r => decide (r.length ≠ (m[0]?.getD []).length)) then 1
 else if m.any (fun r => r.any (fun x => decide (x < -1099511627776 \/ 1099511627776 < x))) then 5 else 0
theorem qEf {m : List (List Int)} (h : 64 < m.length) : qAF m = 4 := by simp [qAF, h]
theorem qEg {m : List (List Int)} (h : m.length <= 64) {r : List Int} (hr : r ∈ m) (h2 : 128 < r.length) : qAF m = 4 := by
 rw [qAF, if_neg (by omega), if_pos (List.any_eq_true.2 ⟨r, hr, by simpa using h2⟩)]
theorem qEG {m : List (List Int)} (h : m.length <= 64) (h2 : ∀ r ∈ m, r.length <= 128) (h0 : 0 < m.length) {r : List Int} (hr : r ∈ m) (h3 : r.length ≠ m[0].length) : qAF m = 1 := by
 rw [qAF, if_neg (by omega), if_neg (by rw [List.any_eq_true]; rintro ⟨x, hx, e⟩; have := h2 x hx; simp at e; omega), if_pos (List.any_eq_true.2 ⟨r, hr, by simpa [List.getElem?_eq_getElem h0] using h3⟩)]
theorem qEH {m : List (List Int)} (h : m.length <= 64) (h2 : ∀ r ∈ m, r.length <= 128) (h0 : 0 < m.length) (h3 : ∀ r ∈ m, r.length = m[0].length) {r : List Int} (hr : r ∈ m) {x : Int} (hx : x ∈ r) (h4 : x < -1099511627776 \/ 1099511627776 < x) : qAF m = 5 := by
 rw [qAF, if_neg (by omega), if_neg (by rw [List.any_eq_true]; rintro ⟨x, hx, e⟩; have := h2 x hx; simp at e; omega), if_neg (by rw [List.any_eq_true]; rintro ⟨x, hx, e⟩; have := h3 x hx; simp [List.getElem?_eq_getElem h0] at e; omega),
  if_pos (List.any_eq_true.2 ⟨r, hr, List.any_eq_true.2 ⟨x, hx, by simpa using h4⟩⟩)]
structure qBT (m : List (List Int)) : Prop where
 rows : m.length <= 64
 cols : ∀ r ∈ m, r.length <= 128
 even : ∀ r ∈ m, r.length = (m[0]?.getD []).length
 small : ∀ r ∈ m, ∀ x ∈ r, -1099511627776 <= x /\ x <= 1099511627776
theorem qCy {m : List (List Int)} : qAF m = 0 ↔ qBT m := by
 unfold qAF; constructor
 ·intro h
  split at h
  ·simp at h
  ·rename_i h1
   split at h
   ·simp at h
   ·rename_i h2
    split at h
    ·simp at h
    ·rename_i h3
     split at h
     ·simp at h
     ·rename_i h4
      simp only [List.any_eq_true, decide_eq_true_eq, not_exists, not_and] at h2 h3 h4; refine ⟨by omega, fun r hr => by have := h2 r hr; omega, fun r hr => by have := h3 r hr; omega, fun r hr x hx => by have := h4 r hr x hx; omega⟩
 ·intro h
  rw [if_neg (by have := h.rows; omega), if_neg, if_neg, if_neg]
  ·rw [List.any_eq_true]; rintro ⟨r, hr, e⟩
   rw [List.any_eq_true] at e; obtain ⟨x, hx, e⟩ := e; have := h.small r hr x hx; simp at e; omega
  ·rw [List.any_eq_true]; rintro ⟨r, hr, e⟩
   have := h.even r hr; simp at e; exact e this
  ·rw [List.any_eq_true]; rintro ⟨r, hr, e⟩
   have := h.cols r hr; simp at e; omega
end Go.Proofs.Ytlmbebbdamgfpaa
