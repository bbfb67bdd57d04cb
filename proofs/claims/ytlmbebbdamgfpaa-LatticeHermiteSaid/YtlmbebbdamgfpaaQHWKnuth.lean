/- Long division by words: the plain steps. -/
import Derived.Test.YtlmbebbdamgfpaaQHGMem
import Derived.Test.YtlmbebbdamgfpaaQHWDivF
import Derived.Maps.AppendAt
import Derived.Scope
import Derived.Test.YtlmbebbdamgfpaaQHLMat
set_option linter.unusedVariables false
set_option linter.unusedSimpArgs false
set_option maxHeartbeats 4000000
set_option maxRecDepth 100000
namespace Go.Proofs.Ytlmbebbdamgfpaa
open Go.RowKit
def qHm (m d : Nat) (w : World) (e : Ending) (w' : World) : Prop :=
 Below w.heap.size w w' /\ ∃ vq vr, e = .returned (.tuple #[vq, vr]) /\ qAT w' vq (m / d) /\ qAT w' vr (m % d)
theorem qGo (va vb : Value) (m d : Nat) (w : World) (ha : qAT w va m) (hb : qAT w vb d) (hd0 : d ≠ 0) (hm : m < LIM) (hd : m < d \/ d < W2) (hd2 : d < LIM) :
 Calls Try.prog 62 #[va, vb] w (qHm m d w) := by
 have Ha := hZ ha; have Hb := hZ hb; have hla := (qA4 m).2 hm; have hlb := (qA4 d).2 hd2; have Hcmp := hZ (qBY va vb m d w ha hb (by omega) (by omega)); obtain ⟨aa, ca, rfl, h1, h2, h3⟩ := ha; obtain ⟨ab, cb, rfl, h4, h5, h6⟩ := hb; have Hla := hZ hla; have Hlb := hZ hlb; have H6 := hZ h6; clear h3 h6 hm hd2 hla hlb; by_cases hlt : m < d
 ·have hc3 : qAK (m : Int) (d : Int) = -1 := by unfold qAK; rw [if_pos (by omega)]
  rw [hc3] at Hcmp; have Hlt := hZ hlt; have Hcl := hZ (fun n => qGz _ m (w.drewN n) Ha.o (by have := Hla.o; omega)); clear hlt hd hc3 H6; generalize (qAe W2 m).length = M at *; generalize (qAe W2 d).length = N at *
  go_enter Try.func62, Try.ntmps62
  go_wp2_with fail
  refine wp_scope_straight ?_
  go_wp2_with fail
  refine Hcmp.o.mono ?_; rintro e w' ⟨rfl, k, rfl⟩
  go_wp2_with fail
  refine (Hcl.o k).mono ?_; rintro e w1 ⟨a1, l1, c1, rfl, hm1, hB⟩; have HB := hZ (Below.trans (show Below w.heap.size w (w.drewN k) from ⟨rfl, rfl, rfl, Nat.le_refl _, fun _ _ => rfl⟩) hB); have Hm1 := hZ hm1; clear hB hm1 Hcl Hcmp
  go_wp2
  refine bodyPost_ret (v := .tuple #[.slice none 0 0, .slice a1 l1 c1]) (by simp [results, Try.results62, go_sem]) rfl ⟨HB.o, _, _, rfl, ?_, ?_⟩
  ·rw [Nat.div_eq_of_lt Hlt.o]
   unfold qAT; rw [qBf]; exact qAd.nil _ _ (by omega)
  ·rw [Nat.mod_eq_of_lt Hlt.o]; exact Hm1.o
 ·have hd4 := hd.resolve_left hlt
  have hdl : qAe W2 d = [d] := by
   rw [qBs W2 d qAm hd0, Nat.div_eq_of_lt hd4, qBf, Nat.mod_eq_of_lt hd4]
  have Hdf := hZ (fun n => qJ5 _ m d (w.drewN n) Ha.o (by omega) (by omega) (by have := Hla.o; omega)); have hc3 : ¬ (qAK (m : Int) (d : Int) < 0) := by
   unfold qAK; rw [if_neg (by omega)]
   split <;> simp
  generalize qAK (m : Int) (d : Int) = C at *; obtain ⟨b, off, rfl, hbl, hcell⟩ := H6.o (by rw [hdl]; simp); have hcd : ∀ n, (w.drewN n).cell? ⟨b, off, none⟩ = some (.int .u32 (d : Int)) := fun n => by
   have h7 := hcell 0 (by rw [hdl]; simp); rw [Nat.add_zero] at h7
   show w.cell? _ = _
   rw [h7]; simp [hdl]
  have hdl1 : (qAe W2 d).length = 1 := by rw [hdl]; rfl
  rw [hdl1] at Hb Hcmp Hlb h4 ⊢; have Hcd := hZ hcd; have Hd4 := hZ hd4; have Hd0 := hZ hd0; clear hcd hcell H6 hdl hdl1 hd hlt hd4 hd0; generalize (qAe W2 m).length = M at *
  go_enter Try.func62, Try.ntmps62
  go_wp2_with fail
  refine wp_scope_straight ?_
  go_wp2_with fail
  refine Hcmp.o.mono ?_; rintro e w' ⟨rfl, k, rfl⟩; have hcd := Hcd.o k
  go_wp2_with fail
  refine (Hdf.o k).mono ?_; rintro e w1 ⟨QL, qc, rfl, hm1, hB⟩; have HB := hZ (Below.trans (show Below w.heap.size w (w.drewN k) from ⟨rfl, rfl, rfl, Nat.le_refl _, fun _ _ => rfl⟩) hB); have Hm1 := hZ hm1; have z1 := HB.o.size; obtain ⟨r, hr⟩ := eX (m % d); have hrl : r < 4294967296 := by rw [<- hr]; exact Nat.lt_trans (Nat.mod_lt _ (Nat.pos_of_ne_zero Hd0.o)) Hd4.o
  have Hr := hZ hr; rw [hr]; clear hB hm1 Hdf Hcmp hcd hr
  go_wp2_with fail
  have hblk : Blk (w1.alloc (.cells #[.int .u32 (r : Int)] 88)) w1.heap.size 88 .u32 [r] := heap_alloc_new w1 _; refine (qB1 (.slice (some ⟨w1.heap.size, 0, none⟩) 1 1) [r] _ (qAd.of_blk hblk (by simp) (by simp)) (fun x hx => by rw [List.mem_singleton.1 hx]; exact hrl) (by simp)).mono ?_; rintro e w2 ⟨v2, rfl, hr2, rfl⟩; have hv1 : val W2 [r] = r := by simp [val]
  rw [hv1] at hr2; have Hr2 := hZ hr2; obtain ⟨a2, c2, rfl, _, _, _⟩ := hr2; clear hblk hv1
  go_wp2
  refine bodyPost_ret (v := .tuple #[.slice (some ⟨w.heap.size, 0, none⟩) QL qc, .slice a2 (qAe W2 r).length c2]) (by simp [results, Try.results62, go_sem]) rfl ⟨HB.o.alloc z1 _, _, _, rfl, ?_, ?_⟩
  ·exact qAd.below Hm1.o (Nat.le_refl _) ((Below.refl _ _).alloc (Nat.le_refl _) _)
  ·rw [Hr.o]; exact Hr2.o
open Go.RowKit
def qLx (m d : Nat) : Prop := ∀ (w : World) (va vb : Value), qAT w va m -> qAT w vb d -> Calls Try.prog 62 #[va, vb] w (qHm m d w)
theorem qHf {m d : Nat} (hd0 : d ≠ 0) (hm : m < LIM) (hd : m < d \/ d < W2) (hd2 : d < LIM) : qLx m d := fun w va vb ha hb => qGo va vb m d w ha hb hd0 hm hd hd2
def qOf (x y : Int) : Int := if x < 0 /\ x.natAbs % y.natAbs ≠ 0 then sgn (decide (x < 0) != decide (y < 0)) (x.natAbs / y.natAbs + 1) else sgn (decide (x < 0) != decide (y < 0)) (x.natAbs / y.natAbs)
def rOf (x y : Int) : Nat := if x < 0 /\ x.natAbs % y.natAbs ≠ 0 then y.natAbs - x.natAbs % y.natAbs else x.natAbs % y.natAbs
def qKy (x y : Int) (w : World) (e : Ending) (w' : World) : Prop :=
 Below w.heap.size w w' /\ ∃ vq vr, e = .returned (.tuple #[vq, vr, .int .i64 0]) /\ qAz w' vq (qOf x y) /\ qAz w' vr (rOf x y)
theorem Two.far {w : World} {b : Nat} {t : TypeId} {x y : Value} (h : Two w b t x y) {p : Addr} (hp : b ≠ p.block) (u : Value) : Two (w.setCell p u) b t x y := (Below.heap_setCell w p u b hp).trans h
theorem qKu (w : World) (t : TypeId) (x1 x2 y1 y2 z1 z2 u1 u2 : Value) (n : Nat) (hn : w.heap.size = n) : ∃ W, (((w.alloc (.cells #[x1, x2] t)).alloc (.cells #[y1, y2] t)).alloc (.cells #[z1, z2] t)).alloc (.cells #[u1, u2] t) = W /\
 Two W n t x1 x2 /\ Two W (n + 1) t y1 y2 /\ Two W (n + 1 + 1) t z1 z2 /\ Two W (n + 1 + 1 + 1) t u1 u2 /\ Below n w W /\ W.heap.size = n + 1 + 1 + 1 + 1 := by
 obtain ⟨V, hV, t1, t2, t3, hB, hs⟩ := qCi w t x1 x2 y1 y2 z1 z2 n hn; rw [hV]; refine ⟨_, rfl, t1.alloc _, t2.alloc _, t3.alloc _, ?_, hB.alloc (by omega) _, by simp [hs]⟩; have := Two.new V t u1 u2; rw [hs] at this; exact this
theorem qCF {w : World} {v : Value} {n : Nat} (h : qAT w v n) : ∃ a l c, v = .slice a l c /\ qAT w (.slice a l c) n /\ l = (qAe W2 n).length /\ l <= c /\ c <= 9223372036854775807 := by
 obtain ⟨a, c, rfl, h1, h2, h3⟩ := h; exact ⟨a, _, c, rfl, ⟨a, c, rfl, h1, h2, h3⟩, rfl, h1, h2⟩
theorem qG3 {n : Nat} : 0 < (qAe W2 n).length ↔ n ≠ 0 := by
 rw [List.length_pos_iff, ne_eq, qBM W2 n qAm]
theorem qFf {x y : Int} (h : ¬ (x < 0 /\ x.natAbs % y.natAbs ≠ 0)) : qOf x y = sgn (decide (x < 0) != decide (y < 0)) (x.natAbs / y.natAbs) /\ rOf x y = x.natAbs % y.natAbs := by
 unfold qOf rOf; rw [if_neg h, if_neg h]; exact ⟨rfl, rfl⟩
theorem qGV {x y : Int} (h : x < 0 /\ x.natAbs % y.natAbs ≠ 0) : qOf x y = sgn (decide (x < 0) != decide (y < 0)) (x.natAbs / y.natAbs + 1) /\ rOf x y = y.natAbs - x.natAbs % y.natAbs := by
 unfold qOf rOf; rw [if_pos h, if_pos h]; exact ⟨rfl, rfl⟩
theorem qHi (vx vy : Value) (x y : Int) (w : World) (hx : qAz w vx x) (hy : qAz w vy y) (hy0 : y ≠ 0) (hlx : x.natAbs < LIM) (hly : y.natAbs < LIM) (hok : qLx x.natAbs y.natAbs) :
 Calls Try.prog 43 #[vx, vy] w (qKy x y w) := by
 obtain ⟨vwx, rfl, hmx⟩ := hx; obtain ⟨vwy, rfl, hmy⟩ := hy; obtain ⟨ax, nx, cx, rfl, hmx, hnx, hcx⟩ := qCF hmx; obtain ⟨ay, ny, cy, rfl, hmy, hny, hcy⟩ := qCF hmy; have hypos : 0 < ny := by rw [hny, qG3]; omega
 have hy1 : ((ny : Int) == 0) = false := by simp; omega
 obtain ⟨n, hn⟩ := eX w.heap.size; have Hn := hZ hn; obtain ⟨W, hW, t1, t2, t3, t4, hBW, hsW⟩ := qKu w 58 (.bool (decide (x < 0))) (.slice ax nx cx) (.bool (decide (y < 0))) (.slice ay ny cy) (.bool false) (.slice none 0 0) (.bool false) (.slice none 0 0) n hn; have Hd := hZ (hok W (.slice ax nx cx) (.slice ay ny cy) (hmx.below (Nat.le_of_eq hn) hBW) (hmy.below (Nat.le_of_eq hn) hBW)); have HY := hZ hmy; have hle := (qA4 y.natAbs).2 hly; have hlex := (qA4 x.natAbs).2 hlx; have Hlex := hZ hlex; have Hlx := hZ hlx; have Hle := hZ hle; have Hmod := hZ (Nat.mod_lt x.natAbs (show 0 < y.natAbs by omega)); have HBW := hZ hBW; have T1 := hZ t1; have T2 := hZ t2; have T3 := hZ t3; have T4 := hZ t4; have d1 := t1.cell1; have d3 := t2.cell1; obtain ⟨sx, hsx⟩ := eX (decide (x < 0)); obtain ⟨sy, hsy⟩ := eX (decide (y < 0)); rw [hsx] at hW T1 ⊢; rw [hsy] at hW T2 ⊢; have Hsx := hZ hsx; have Hsy := hZ hsy; clear hok hmx hmy t1 t2 t3 t4 hBW hnx hny hle hlex hlx hly hy0 hsx hsy
 go_enter Try.func43, Try.ntmps43
 go_wp2_with fail
 clear hW hy1; refine Hd.o.mono ?_; rintro e w1 ⟨hB1, vq, vr, rfl, hq, hr⟩; obtain ⟨aq, lq, cq, rfl, hq, hlq, hcq⟩ := qCF hq; obtain ⟨ar, lr, cr, rfl, hr, hlr, hcr⟩ := qCF hr; have Hq := hZ hq; have Hr := hZ hr; have Hlr := hZ hlr; have HB1 := hZ (HBW.o.trans (hB1.mono (by omega))); have z1 := hB1.size; rw [hsW] at z1; have T11 := hZ (T1.o.below hB1 (by omega)); have T12 := hZ (T2.o.below hB1 (by omega)); have T13 := hZ (T3.o.below hB1 (by omega)); have T14 := hZ (T4.o.below hB1 (by omega)); have e0 := T11.o.cell0; have e2 := T12.o.cell0; have e3 := T12.o.cell1; have Hor := hZ (show lr = 0 ↔ x.natAbs % y.natAbs = 0 by
  have := qG3 (n := x.natAbs % y.natAbs); rw [<- hlr] at this; omega)
 clear hq hr hlr hlq hB1 Hd T1 T2 T3 T4 d1 d3; by_cases hcase : sx = true /\ 0 < lr
 ·obtain ⟨rfl, hlr0⟩ := hcase
  have Hqr : Hid (qOf x y = sgn (!sy) (x.natAbs / y.natAbs + 1) /\ rOf x y = y.natAbs - x.natAbs % y.natAbs) := hZ (by
   have h9 := qGV (x := x) (y := y) ⟨by simpa using Hsx.o, fun h => by have := Hor.o.2 h; omega⟩; rw [Hsx.o, Hsy.o] at h9; refine ⟨h9.1.trans ?_, h9.2⟩; cases sy <;> rfl)
  obtain ⟨wa, hwa⟩ := eX (w1.alloc (.cells #[.int .u32 1] 88)); have hBa : Below w1.heap.size w1 wa := by rw [<- hwa]; exact (Below.refl _ _).alloc (Nat.le_refl _) _
  have hza : wa.heap.size = w1.heap.size + 1 := by rw [<- hwa]; simp
  have hblk : Blk wa w1.heap.size 88 .u32 [1] := by rw [<- hwa]; exact heap_alloc_new w1 _
  have hone : qAT wa (.slice (some ⟨w1.heap.size, 0, none⟩) 1 1) 1 := by
   have hd1 : qAe W2 1 = [1] := by rw [qBs W2 1 qAm (by omega), show 1 / W2 = 0 from rfl, qBf]; rfl
   unfold qAT; rw [hd1]; exact qAd.of_blk hblk (by simp) (by simp)
  have Hlq : Hid ((qAe W2 (x.natAbs / y.natAbs)).length <= 512) := hZ ((qA4 _).2 (Nat.lt_of_le_of_lt (Nat.div_le_self _ _) Hlx.o)); have Hpl := hZ (qHB _ _ _ 1 wa (qAd.below Hq.o (Nat.le_refl _) hBa) hone (by have := Hlq.o; omega) (by rw [show qAe W2 1 = [1] by rw [qBs W2 1 qAm (by omega), show 1 / W2 = 0 from rfl, qBf]; rfl]; simp)); have HBa := hZ hBa; clear hBa hblk hone
  go_wp2_with fail
  refine Hpl.o.mono ?_; rintro e w2 ⟨v2, rfl, hm2, hB2⟩; obtain ⟨a3, l3, c3, rfl, hm2, -, hc3⟩ := qCF hm2; have Hm2 := hZ hm2; have HB2 := hZ (HBa.o.trans (hB2.mono (by omega))); have z2 := HB2.o.size; have HT2y := hZ (T12.o.below HB2.o (by omega)); have e3' := HT2y.o.cell1; have Hmin := hZ (qEn (.slice ay ny cy) (.slice ar lr cr) y.natAbs (x.natAbs % y.natAbs) w2 (HY.o.below (Nat.le_of_eq hn) (HB1.o.trans (HB2.o.mono (by omega)))) (qAd.below Hr.o (Nat.le_refl _) HB2.o) (Nat.le_of_lt Hmod.o) (by have := Hle.o; omega)); clear hm2 hB2 Hpl
  go_wp2_with fail
  refine Hmin.o.mono ?_; rintro e w3 ⟨v3, rfl, hm3, hB3⟩; obtain ⟨a4, l4, c4, rfl, hm3, -, hc4⟩ := qCF hm3; have Hr3 := hZ hm3; have Hq3 := hZ (qAd.below Hm2.o (Nat.le_refl _) hB3); have HB23 := hZ (HB2.o.trans (hB3.mono (by omega))); have z3 := HB23.o.size; have HB3 := hZ (HB1.o.trans (HB23.o.mono (by omega))); have T31 := hZ (T11.o.below HB23.o (by omega)); have T32 := hZ (T12.o.below HB23.o (by omega)); have T33 := hZ (T13.o.below HB23.o (by omega)); have T34 := hZ (T14.o.below HB23.o (by omega)); have k0 := T31.o.cell0; have k2 := T32.o.cell0; clear hm3 hB3 Hmin; obtain ⟨Q1, hQ1⟩ := eX (x.natAbs / y.natAbs + 1); obtain ⟨R1, hR1⟩ := eX (y.natAbs - x.natAbs % y.natAbs); have HQM : Hid (qAT w3 (.slice a3 l3 c3) Q1) := hZ (by rw [<- hQ1]; exact Hq3.o); have HRM : Hid (qAT w3 (.slice a4 l4 c4) R1) := hZ (by rw [<- hR1]; exact Hr3.o); rw [hQ1, hR1] at Hqr; clear hQ1 hR1 Hq3 Hr3 Hm2
  go_wp2_with fail
  refine (qAU _ _ _ w3 HQM.o).mono ?_; rintro e w7 ⟨rfl, hB7⟩; have HB7 := hZ hB7; have z7 := hB7.size; clear hB7
  go_wp2_with fail
  refine (qAU _ _ _ w7 (qAd.below HRM.o (Nat.le_refl _) HB7.o)).mono ?_; rintro e w8 ⟨rfl, hB8⟩; have HB8 := hZ (HB7.o.trans (hB8.mono z7)); have z8 := HB8.o.size; have HT3 := hZ (T33.o.below HB8.o (by omega)); have HT4 := hZ (T34.o.below HB8.o (by omega)); have HQ8 := hZ (qAd.below HQM.o (Nat.le_refl _) HB8.o); have HR8 := hZ (qAd.below HRM.o (Nat.le_refl _) HB8.o); have HBall := hZ (HB3.o.trans (HB8.o.mono (by omega))); have g0 := HT3.o.cell0; have g1 := HT3.o.cell1; have g2 := HT3.o.frozen 0; have g3 := HT3.o.frozen 1; have g4 := HT4.o.cell0; have g5 := HT4.o.cell1; have g6 := HT4.o.frozen 0; have g7 := HT4.o.frozen 1; clear hB8
  go_wp2
  refine bodyPost_ret (v := .tuple #[.agg #[.bool (decide (sgn (!sy) Q1 < 0)), .slice a3 l3 c3], .agg #[.bool (decide (sgn false R1 < 0)), .slice a4 l4 c4], .int .i64 0]) (by simp [results, Try.results43, go_sem, g0, g1, g4, g5]) rfl ?_; refine ⟨?_, _, _, rfl, qAz.mk ?_ ?_, qAz.mk ?_ ?_⟩
  ·rw [Hn.o]
   exact (((HBall.o.setCell (p := ⟨n + 1 + 1, 0, none⟩) (by show n <= n + 1 + 1; omega) _).setCell (p := ⟨n + 1 + 1, 1, none⟩) (by show n <= n + 1 + 1; omega) _).setCell (p := ⟨n + 1 + 1 + 1, 0, none⟩) (by show n <= n + 1 + 1 + 1; omega) _).setCell (p := ⟨n + 1 + 1 + 1, 1, none⟩) (by show n <= n + 1 + 1 + 1; omega) _
  ·rw [Hqr.o.1]
  ·rw [Hqr.o.1, qAG]
   exact qAd.store_two (qAd.store_two HQ8.o HT3.o (fun _ _ h => by cases h) (fun _ _ h => by cases h) _ _) ((HT4.o.far (by show n + 1 + 1 + 1 ≠ n + 1 + 1; omega) _).far (by show n + 1 + 1 + 1 ≠ n + 1 + 1; omega) _) (fun _ _ h => by cases h) (fun _ _ h => by cases h) _ _
  ·rw [Hqr.o.2]; rfl
  ·rw [Hqr.o.2]
   exact qAd.store_two (qAd.store_two HR8.o HT3.o (fun _ _ h => by cases h) (fun _ _ h => by cases h) _ _) ((HT4.o.far (by show n + 1 + 1 + 1 ≠ n + 1 + 1; omega) _).far (by show n + 1 + 1 + 1 ≠ n + 1 + 1; omega) _) (fun _ _ h => by cases h) (fun _ _ h => by cases h) _ _
 ·cases sx with
  | false =>
   have Hqr : Hid (qOf x y = sgn sy (x.natAbs / y.natAbs) /\ rOf x y = x.natAbs % y.natAbs) := hZ (by
    have h9 := qFf (x := x) (y := y) (fun h => by have h8 := Hsx.o; rw [decide_eq_true h.1] at h8; cases h8); rw [Hsx.o, Hsy.o] at h9; refine ⟨h9.1.trans ?_, h9.2⟩; cases sy <;> rfl)
   clear hcase
   go_wp2_with fail
   refine (qAU _ _ _ w1 Hq.o).mono ?_; rintro e w7 ⟨rfl, hB7⟩; have HB7 := hZ hB7; have z7 := hB7.size; clear hB7
   go_wp2_with fail
   refine (qAU _ _ _ w7 (qAd.below Hr.o (Nat.le_refl _) HB7.o)).mono ?_; rintro e w8 ⟨rfl, hB8⟩; have HB8 := hZ (HB7.o.trans (hB8.mono z7)); have z8 := HB8.o.size; have HT3 := hZ (T13.o.below HB8.o (by omega)); have HT4 := hZ (T14.o.below HB8.o (by omega)); have HQ8 := hZ (qAd.below Hq.o (Nat.le_refl _) HB8.o); have HR8 := hZ (qAd.below Hr.o (Nat.le_refl _) HB8.o); have HBall := hZ (HB1.o.trans (HB8.o.mono (by omega))); have g0 := HT3.o.cell0; have g1 := HT3.o.cell1; have g2 := HT3.o.frozen 0; have g3 := HT3.o.frozen 1; have g4 := HT4.o.cell0; have g5 := HT4.o.cell1; have g6 := HT4.o.frozen 0; have g7 := HT4.o.frozen 1; clear hB8
   go_wp2
   refine bodyPost_ret (v := .tuple #[.agg #[.bool (decide (sgn sy (x.natAbs / y.natAbs) < 0)), .slice aq lq cq], .agg #[.bool (decide (sgn false (x.natAbs % y.natAbs) < 0)), .slice ar lr cr], .int .i64 0]) (by simp [results, Try.results43, go_sem, g0, g1, g4, g5]) rfl ?_; refine ⟨?_, _, _, rfl, qAz.mk ?_ ?_, qAz.mk ?_ ?_⟩
   ·rw [Hn.o]
    exact (((HBall.o.setCell (p := ⟨n + 1 + 1, 0, none⟩) (by show n <= n + 1 + 1; omega) _).setCell (p := ⟨n + 1 + 1, 1, none⟩) (by show n <= n + 1 + 1; omega) _).setCell (p := ⟨n + 1 + 1 + 1, 0, none⟩) (by show n <= n + 1 + 1 + 1; omega) _).setCell (p := ⟨n + 1 + 1 + 1, 1, none⟩) (by show n <= n + 1 + 1 + 1; omega) _
   ·rw [Hqr.o.1]
   ·rw [Hqr.o.1, qAG]
    exact qAd.store_two (qAd.store_two HQ8.o HT3.o (fun _ _ h => by cases h) (fun _ _ h => by cases h) _ _) ((HT4.o.far (by show n + 1 + 1 + 1 ≠ n + 1 + 1; omega) _).far (by show n + 1 + 1 + 1 ≠ n + 1 + 1; omega) _) (fun _ _ h => by cases h) (fun _ _ h => by cases h) _ _
   ·rw [Hqr.o.2]; rfl
   ·rw [Hqr.o.2]
    exact qAd.store_two (qAd.store_two HR8.o HT3.o (fun _ _ h => by cases h) (fun _ _ h => by cases h) _ _) ((HT4.o.far (by show n + 1 + 1 + 1 ≠ n + 1 + 1; omega) _).far (by show n + 1 + 1 + 1 ≠ n + 1 + 1; omega) _) (fun _ _ h => by cases h) (fun _ _ h => by cases h) _ _
  | true =>
   obtain rfl : lr = 0 := by simp at hcase; omega
   have Hqr : Hid (qOf x y = sgn (!sy) (x.natAbs / y.natAbs) /\ rOf x y = x.natAbs % y.natAbs) := hZ (by
    have h9 := qFf (x := x) (y := y) (fun h => h.2 (Hor.o.1 rfl)); rw [Hsx.o, Hsy.o] at h9; refine ⟨h9.1.trans ?_, h9.2⟩; cases sy <;> rfl)
   clear hcase
   go_wp2_with fail
   refine (qAU _ _ _ w1 Hq.o).mono ?_; rintro e w7 ⟨rfl, hB7⟩; have HB7 := hZ hB7; have z7 := hB7.size; clear hB7
   go_wp2_with fail
   refine (qAU _ _ _ w7 (qAd.below Hr.o (Nat.le_refl _) HB7.o)).mono ?_; rintro e w8 ⟨rfl, hB8⟩; have HB8 := hZ (HB7.o.trans (hB8.mono z7)); have z8 := HB8.o.size; have HT3 := hZ (T13.o.below HB8.o (by omega)); have HT4 := hZ (T14.o.below HB8.o (by omega)); have HQ8 := hZ (qAd.below Hq.o (Nat.le_refl _) HB8.o); have HR8 := hZ (qAd.below Hr.o (Nat.le_refl _) HB8.o); have HBall := hZ (HB1.o.trans (HB8.o.mono (by omega))); have g0 := HT3.o.cell0; have g1 := HT3.o.cell1; have g2 := HT3.o.frozen 0; have g3 := HT3.o.frozen 1; have g4 := HT4.o.cell0; have g5 := HT4.o.cell1; have g6 := HT4.o.frozen 0; have g7 := HT4.o.frozen 1; clear hB8
   go_wp2
   refine bodyPost_ret (v := .tuple #[.agg #[.bool (decide (sgn (!sy) (x.natAbs / y.natAbs) < 0)), .slice aq lq cq], .agg #[.bool (decide (sgn false (x.natAbs % y.natAbs) < 0)), .slice ar 0 cr], .int .i64 0]) (by simp [results, Try.results43, go_sem, g0, g1, g4, g5]) rfl ?_; refine ⟨?_, _, _, rfl, qAz.mk ?_ ?_, qAz.mk ?_ ?_⟩
   ·rw [Hn.o]
    exact (((HBall.o.setCell (p := ⟨n + 1 + 1, 0, none⟩) (by show n <= n + 1 + 1; omega) _).setCell (p := ⟨n + 1 + 1, 1, none⟩) (by show n <= n + 1 + 1; omega) _).setCell (p := ⟨n + 1 + 1 + 1, 0, none⟩) (by show n <= n + 1 + 1 + 1; omega) _).setCell (p := ⟨n + 1 + 1 + 1, 1, none⟩) (by show n <= n + 1 + 1 + 1; omega) _
   ·rw [Hqr.o.1]
   ·rw [Hqr.o.1, qAG]
    exact qAd.store_two (qAd.store_two HQ8.o HT3.o (fun _ _ h => by cases h) (fun _ _ h => by cases h) _ _) ((HT4.o.far (by show n + 1 + 1 + 1 ≠ n + 1 + 1; omega) _).far (by show n + 1 + 1 + 1 ≠ n + 1 + 1; omega) _) (fun _ _ h => by cases h) (fun _ _ h => by cases h) _ _
   ·rw [Hqr.o.2]; rfl
   ·rw [Hqr.o.2]
    exact qAd.store_two (qAd.store_two HR8.o HT3.o (fun _ _ h => by cases h) (fun _ _ h => by cases h) _ _) ((HT4.o.far (by show n + 1 + 1 + 1 ≠ n + 1 + 1; omega) _).far (by show n + 1 + 1 + 1 ≠ n + 1 + 1; omega) _) (fun _ _ h => by cases h) (fun _ _ h => by cases h) _ _
open Go.RowKit
def qKw (z : Int) (w : World) (e : Ending) (w' : World) : Prop :=
 ∃ a n c, e = .returned (.agg #[.bool (decide (z < 0)), .slice a n c]) /\ qAz w' (.agg #[.bool (decide (z < 0)), .slice a n c]) z /\ Below w.heap.size w w'
theorem Two.setB {w : World} {b : Nat} {t : TypeId} {x y : Value} (h : Two w b t x y) (u v : Value) : Two ((w.setCell ⟨b, 0, none⟩ u).setCell ⟨b, 1, none⟩ v) b t u v := by
 unfold Two at h ⊢; simp [World.setCell, Array.getElem?_modify, h]
theorem qDo {P : Program} {f : Func} {z : Int} {w w2 w3 : World} {n : Nat} {sp : Bool} {pa : Option Addr} {pn pc : Nat} {a : Act} (h2 : Below n w w2) (h3 : Below w2.heap.size w2 w3) (hs : n + 1 + 1 + 1 <= w2.heap.size)
 (ht : Two w3 (n + 1 + 1) 58 (.bool false) (.slice none 0 0)) (hm : qAT w2 (.slice pa pn pc) z.natAbs) (hz : decide (z < 0) = sp) (hn : w.heap.size = n)
 (hr : ∀ W : World, W.cell? ⟨n + 1 + 1, 0, none⟩ = some (.bool sp) -> W.cell? ⟨n + 1 + 1, 1, none⟩ = some (.slice pa pn pc) -> (results f a.tmps).run P W = .ok (Value.agg #[.bool sp, .slice pa pn pc]) W) (hd : a.defers = []) :
 bodyPost P f (qKw z w) .ret a ((w3.setCell ⟨n + 1 + 1, 0, none⟩ (.bool sp)).setCell ⟨n + 1 + 1, 1, none⟩ (.slice pa pn pc)) := by
 have hz2 := (ht.setB (.bool sp) (.slice pa pn pc)); refine bodyPost_ret (v := .agg #[.bool sp, .slice pa pn pc]) (hr _ hz2.cell0 hz2.cell1) hd ⟨pa, pn, pc, by rw [hz], ?_, ?_⟩
 ·rw [hz]
  have h5 : qAd .u32 w3 _ _ := qAd.below hm (Nat.le_refl _) h3; exact ⟨_, by rw [hz], qAd.store_two h5 ht (fun _ _ h => by cases h) (fun _ _ h => by cases h) _ _⟩
 ·rw [hn]
  exact ((h2.trans (h3.mono (by omega))).setCell (p := ⟨n + 1 + 1, 0, none⟩) (by show n <= n + 1 + 1; omega) _).setCell (p := ⟨n + 1 + 1, 1, none⟩) (by show n <= n + 1 + 1; omega) _
theorem qIm (vx vy : Value) (x y : Int) (w : World) (hx : qAz w vx x) (hy : qAz w vy y) (hlx : x.natAbs < LIM) (hly : y.natAbs < LIM) (hl : (x * y).natAbs < LIM) :
 Calls Try.prog 46 #[vx, vy] w (qKw (x * y) w) := by
 obtain ⟨ax, nx, cx, rfl, hmx⟩ := hx.form; obtain ⟨ay, ny, cy, rfl, hmy⟩ := hy.form; obtain ⟨n, hn⟩ := eX w.heap.size; have Hn := hZ hn; obtain ⟨W, hW, t1, t2, t3, hBW, hsW⟩ := qCi w 58 (.bool (decide (x < 0))) (.slice ax nx cx) (.bool (decide (y < 0))) (.slice ay ny cy) (.bool false) (.slice none 0 0) n hn; have Hm := hZ (qKT _ _ x y W (hx.below' (Nat.le_of_eq hn) hBW) (hy.below' (Nat.le_of_eq hn) hBW) hlx hly); clear hx hy hmx hmy hlx hly; generalize decide (x < 0) = sx at *; generalize decide (y < 0) = sy at *; have HBW := hZ hBW; have T3 := hZ t3; have d0 := t1.cell0; have d1 := t1.cell1; have d2 := t2.cell0; have d3 := t2.cell1; clear t1 t2 t3 hBW
 go_enter Try.func46, Try.ntmps46
 go_wp2_with fail
 clear hW; refine Hm.o.mono ?_; rintro e w2 hP; obtain ⟨pa, pn, pc, rfl, hPm, hB2⟩ := hP.ok hl; have HB2 := hZ (HBW.o.trans (hB2.mono (by omega))); have T32 := T3.o.below hB2 (by omega); have HT3 := hZ T32; have HP := hZ hPm; have HS2 := hZ (show n + 1 + 1 + 1 <= w2.heap.size by have := hB2.size; omega); generalize hsp : decide (x * y < 0) = sp at *; obtain ⟨w3, hw3⟩ := eX (w2.alloc (.cells #[.bool sp, .slice pa pn pc] 58)); have HB3 : Hid (Below w2.heap.size w2 w3) := hZ (by rw [<- hw3]; exact (Below.refl _ _).alloc (Nat.le_refl _) _); have T5 : Two w3 w2.heap.size 58 (.bool sp) (.slice pa pn pc) := by rw [<- hw3]; exact Two.new _ _ _ _
 have p0 := T5.cell0; have p1 := T5.cell1; have T33 := T32.below HB3.o (by have := HS2.o; omega); have g0 := T33.cell0; have g1 := T33.cell1; have f0 := T33.frozen 0; have f1 := T33.frozen 1; have HT33 := hZ T33; clear hP hPm hB2 T32 T5 T33 d0 d1 d2 d3 T3
 go_wp2_with fail
 exact qDo HB2.o HB3.o HS2.o HT33.o HP.o hsp Hn.o (by intro W2 h0 h1; simp [results, Try.results46, go_sem, h0, h1]) rfl
theorem qIY (vx vy : Value) (x y : Int) (w : World) (hx : qAz w vx x) (hy : qAz w vy y) (hlx : x.natAbs < LIM) (hly : y.natAbs < LIM) (hl : (x + y).natAbs < LIM) :
 Calls Try.prog 79 #[vx, vy] w (qKw (x + y) w) := by
 obtain ⟨ax, nx, cx, rfl, hmx⟩ := hx.form; obtain ⟨ay, ny, cy, rfl, hmy⟩ := hy.form; obtain ⟨n, hn⟩ := eX w.heap.size; have Hn := hZ hn; obtain ⟨W, hW, t1, t2, t3, hBW, hsW⟩ := qCi w 58 (.bool (decide (x < 0))) (.slice ax nx cx) (.bool (decide (y < 0))) (.slice ay ny cy) (.bool false) (.slice none 0 0) n hn; have Hm := hZ (qJl _ _ x y W (hx.below' (Nat.le_of_eq hn) hBW) (hy.below' (Nat.le_of_eq hn) hBW) hlx hly); clear hx hy hmx hmy hlx hly; generalize decide (x < 0) = sx at *; generalize decide (y < 0) = sy at *; have HBW := hZ hBW; have T3 := hZ t3; have d0 := t1.cell0; have d1 := t1.cell1; have d2 := t2.cell0; have d3 := t2.cell1; clear t1 t2 t3 hBW
 go_enter Try.func79, Try.ntmps79
 go_wp2_with fail
 clear hW; refine Hm.o.mono ?_; rintro e w2 hP; obtain ⟨pa, pn, pc, rfl, hPm, hB2⟩ := hP.ok hl; have HB2 := hZ (HBW.o.trans (hB2.mono (by omega))); have T32 := T3.o.below hB2 (by omega); have HT3 := hZ T32; have HP := hZ hPm; have HS2 := hZ (show n + 1 + 1 + 1 <= w2.heap.size by have := hB2.size; omega); generalize hsp : decide (x + y < 0) = sp at *; obtain ⟨w3, hw3⟩ := eX (w2.alloc (.cells #[.bool sp, .slice pa pn pc] 58)); have HB3 : Hid (Below w2.heap.size w2 w3) := hZ (by rw [<- hw3]; exact (Below.refl _ _).alloc (Nat.le_refl _) _); have T5 : Two w3 w2.heap.size 58 (.bool sp) (.slice pa pn pc) := by rw [<- hw3]; exact Two.new _ _ _ _
 have p0 := T5.cell0; have p1 := T5.cell1; have T33 := T32.below HB3.o (by have := HS2.o; omega); have g0 := T33.cell0; have g1 := T33.cell1; have f0 := T33.frozen 0; have f1 := T33.frozen 1; have HT33 := hZ T33; clear hP hPm hB2 T32 T5 T33 d0 d1 d2 d3 T3
 go_wp2_with fail
 exact qDo HB2.o HB3.o HS2.o HT33.o HP.o hsp Hn.o (by intro W2 h0 h1; simp [results, Try.results79, go_sem, h0, h1]) rfl
theorem qIo (vx vy : Value) (x y : Int) (w : World) (hx : qAz w vx x) (hy : qAz w vy y) (hlx : x.natAbs < LIM) (hly : y.natAbs < LIM) (hl : (x - y).natAbs < LIM) :
 Calls Try.prog 45 #[vx, vy] w (qKw (x - y) w) := by
 obtain ⟨ax, nx, cx, rfl, hmx⟩ := hx.form; obtain ⟨ay, ny, cy, rfl, hmy⟩ := hy.form; obtain ⟨n, hn⟩ := eX w.heap.size; have Hn := hZ hn; obtain ⟨W, hW, t1, t2, t3, hBW, hsW⟩ := qCi w 58 (.bool (decide (x < 0))) (.slice ax nx cx) (.bool (decide (y < 0))) (.slice ay ny cy) (.bool false) (.slice none 0 0) n hn; have Hm := hZ (qKG _ _ x y W (hx.below' (Nat.le_of_eq hn) hBW) (hy.below' (Nat.le_of_eq hn) hBW) hlx hly); clear hx hy hmx hmy hlx hly; generalize decide (x < 0) = sx at *; generalize decide (y < 0) = sy at *; have HBW := hZ hBW; have T3 := hZ t3; have d0 := t1.cell0; have d1 := t1.cell1; have d2 := t2.cell0; have d3 := t2.cell1; clear t1 t2 t3 hBW
 go_enter Try.func45, Try.ntmps45
 go_wp2_with fail
 clear hW; refine Hm.o.mono ?_; rintro e w2 hP; obtain ⟨pa, pn, pc, rfl, hPm, hB2⟩ := hP.ok hl; have HB2 := hZ (HBW.o.trans (hB2.mono (by omega))); have T32 := T3.o.below hB2 (by omega); have HT3 := hZ T32; have HP := hZ hPm; have HS2 := hZ (show n + 1 + 1 + 1 <= w2.heap.size by have := hB2.size; omega); generalize hsp : decide (x - y < 0) = sp at *; obtain ⟨w3, hw3⟩ := eX (w2.alloc (.cells #[.bool sp, .slice pa pn pc] 58)); have HB3 : Hid (Below w2.heap.size w2 w3) := hZ (by rw [<- hw3]; exact (Below.refl _ _).alloc (Nat.le_refl _) _); have T5 : Two w3 w2.heap.size 58 (.bool sp) (.slice pa pn pc) := by rw [<- hw3]; exact Two.new _ _ _ _
 have p0 := T5.cell0; have p1 := T5.cell1; have T33 := T32.below HB3.o (by have := HS2.o; omega); have g0 := T33.cell0; have g1 := T33.cell1; have f0 := T33.frozen 0; have f1 := T33.frozen 1; have HT33 := hZ T33; clear hP hPm hB2 T32 T5 T33 d0 d1 d2 d3 T3
 go_wp2_with fail
 exact qDo HB2.o HB3.o HS2.o HT33.o HP.o hsp Hn.o (by intro W2 h0 h1; simp [results, Try.results45, go_sem, h0, h1]) rfl
theorem qJd (q X x P p b : Nat) (h : q * (X * b + x) <= P * b + p) (hp : p < b) : q * X <= P := by
 have h1 : q * (X * b) <= q * (X * b + x) := Nat.mul_le_mul_left _ (by omega); have h2 : q * X * b < (P + 1) * b := by
  rw [Nat.mul_assoc, Nat.add_mul, Nat.one_mul]; omega
 have := Nat.lt_of_mul_lt_mul_right h2; omega
structure Est (high d2 top p2 q : Nat) : Prop where
 h31 : 2147483648 <= high
 h32 : high < W2
 d2l : d2 < W2
 p2l : p2 < W2
 topl : top < high * W2 + W2
 q0 : q < W2
 q1 : q * high <= top
 q2 : q * (high * W2 + d2) <= top * W2 + p2
structure qMl (high d2 top p2 q digit rest : Nat) : Prop where
 eq : digit * high + rest = top
 ge : q <= digit
 dl : digit <= W2 + 1
 rl : rest < W2
theorem Est.start {high d2 top p2 q : Nat} (h : Est high d2 top p2 q) : qMl high d2 top p2 q (top / high) (top % high) := by
 have hp : 0 < high := by have := h.h31; omega
 have h1 := Nat.div_add_mod top high; refine ⟨by rw [Nat.mul_comm]; exact h1, (Nat.le_div_iff_mul_le hp).2 h.q1, ?_, Nat.lt_trans (Nat.mod_lt _ hp) h.h32⟩; have h2 : top < high * (W2 + 2) := by
  have h3 := h.topl; have h4 := h.h31; rw [Nat.mul_add]; unfold W2 at *; omega
 have := (Nat.div_lt_iff_lt_mul hp).2 (by rw [Nat.mul_comm]; exact h2); omega
theorem qMl.less {high d2 top p2 q digit rest : Nat} (h : Est high d2 top p2 q) (hi : qMl high d2 top p2 q digit rest) (hc : W2 <= digit \/ (digit < W2 /\ rest * W2 + p2 < digit * d2)) :
 0 < digit /\ q <= digit - 1 /\ (digit - 1) * high + (rest + high) = top := by
 have hq : q < digit := by
  rcases hc with hc | ⟨-, hc⟩
  ·exact Nat.lt_of_lt_of_le h.q0 hc
  ·rcases Nat.lt_or_ge q digit with h1 | h1
   ·exact h1
   ·have e : q = digit := Nat.le_antisymm hi.ge h1
    have h2 := h.q2; rw [e, <- hi.eq, Nat.mul_add, Nat.add_mul, <- Nat.mul_assoc] at h2; omega
 refine ⟨by omega, by omega, ?_⟩; have h1 := hi.eq; obtain ⟨d, rfl⟩ : ∃ d, digit = d + 1 := ⟨digit - 1, by omega⟩; rw [Nat.add_sub_cancel]; rw [Nat.add_mul, Nat.one_mul] at h1; omega
theorem Est.over {high d2 top p2 q digit rest : Nat} (h : Est high d2 top p2 q) (he : digit * high + rest = top) (hr : W2 <= rest) : digit < W2 := by
 rcases Nat.lt_or_ge digit W2 with h1 | h1
 ·exact h1
 ·have h2 : W2 * high <= digit * high := Nat.mul_le_mul_right _ h1
  have h3 := h.topl; rw [Nat.mul_comm high W2] at h3; omega
structure qKb (P D : List Nat) (Q i c b : Nat) (L : List Nat) : Prop where
 len : L.length = P.length
 low : Low W2 L
 cl : c < W2
 bl : b <= 1
 rest : L.drop i = P.drop i
 eq : val W2 (L.take i) + Q * val W2 (D.take i) = val W2 (P.take i) + (b + c) * W2 ^ i
theorem qKb.start (P D : List Nat) (Q : Nat) (hP : Low W2 P) : qKb P D Q 0 0 0 P :=
 ⟨rfl, hP, by decide, by omega, rfl, by simp [val]⟩
theorem qC6 (L : List Nat) (i x : Nat) (h : i < L.length) : val W2 ((L.set i x).take (i + 1)) = val W2 (L.take i) + x * W2 ^ i := by
 have hl : i < (L.set i x).length := by rw [List.length_set]; exact h
 rw [qAf W2 _ i hl, List.getElem_set_self, List.take_set_of_le (Nat.le_refl i)]
theorem qKb.next {P D : List Nat} {Q i c b : Nat} {L : List Nat} (h : qKb P D Q i c b L) (hi : i < L.length) (hd : i < D.length) (hQ : Q < W2) (hD : Low W2 D) (hP : i < P.length) :
 qKb P D Q (i + 1) ((c + Q * D[i]) / W2) (brw P[i] ((c + Q * D[i]) % W2) b) (L.set i (dif P[i] ((c + Q * D[i]) % W2) b)) /\ L[i] = P[i] /\ c + Q * D[i] < 18446744073709551616 := by
 have hLi : L[i] = P[i] := by
  have h1 := h.rest; rw [List.drop_eq_getElem_cons hi, List.drop_eq_getElem_cons hP] at h1; exact (List.cons.inj h1).1
 have hw : D[i] < W2 := hD _ (List.getElem_mem hd); have hm : Q * D[i] <= 4294967295 * 4294967295 := Nat.mul_le_mul (by unfold W2 at hQ; omega) (by unfold W2 at hw; omega); have hcl := h.cl; have hPl : P[i] < W2 := by rw [<- hLi]; exact h.low _ (List.getElem_mem hi)
 have ht : c + Q * D[i] < 18446744073709551616 := by unfold W2 at hcl; omega
 have hlo : (c + Q * D[i]) % W2 < W2 := Nat.mod_lt _ (by decide); have hdm := Nat.div_add_mod (c + Q * D[i]) W2; have hde := qJe P[i] ((c + Q * D[i]) % W2) b hlo h.bl; refine ⟨⟨by rw [List.length_set]; exact h.len, qAP h.low _ _ (qHQ _ _ _ hPl h.bl), ?_, qH1 _ _ _, ?_, ?_⟩, hLi, ht⟩
 ·refine (Nat.div_lt_iff_lt_mul (by decide)).2 ?_
  show _ < 4294967296 * 4294967296
  omega
 ·rw [List.drop_set_of_lt (by omega)]
  have h1 := h.rest; rw [List.drop_eq_getElem_cons hi, List.drop_eq_getElem_cons hP] at h1; exact (List.cons.inj h1).2
 ·rw [qC6 L i _ hi, qAf W2 D i hd, qAf W2 P i hP, Nat.pow_succ]
  have h1 := h.eq; generalize dif P[i] ((c + Q * D[i]) % W2) b = p' at *; generalize brw P[i] ((c + Q * D[i]) % W2) b = b' at *; generalize (c + Q * D[i]) % W2 = lo at *; generalize (c + Q * D[i]) / W2 = c' at *; generalize W2 ^ i = X at *; generalize val W2 (L.take i) = l at *; generalize val W2 (D.take i) = d at *; generalize val W2 (P.take i) = p at *; generalize D[i] = w at *; generalize P[i] = u at *; generalize W2 = B at *
  grind
theorem qKb.last {P D : List Nat} {Q n c b : Nat} {L : List Nat} (h : qKb P D Q n c b L) (hD : D.length = n) (hP : P.length = n + 1) (hn : n < P.length) (x f : Nat) (hx : x + (c + b) = P[n] + f * W2) :
 val W2 (L.set n x) + Q * val W2 D = val W2 P + f * W2 ^ (n + 1) := by
 have hln : n < L.length := by rw [h.len]; exact hn
 have h1 := h.eq; rw [List.take_of_length_le (l := D) (by omega)] at h1; have h2 : val W2 (L.set n x) = val W2 (L.take n) + x * W2 ^ n := by
  rw [<- qC6 L n x hln, List.take_of_length_le (by rw [List.length_set, h.len]; omega)]
 have h3 : val W2 P = val W2 (P.take n) + P[n] * W2 ^ n := by
  rw [<- qAf W2 P n hn, List.take_of_length_le (by omega)]
 rw [h2, h3, Nat.pow_succ]; generalize W2 ^ n = X at *; generalize val W2 (L.take n) = l at *; generalize val W2 D = d at *; generalize val W2 (P.take n) = p at *; generalize P[n] = u at *; generalize W2 = B at *
 grind
end Go.Proofs.Ytlmbebbdamgfpaa
