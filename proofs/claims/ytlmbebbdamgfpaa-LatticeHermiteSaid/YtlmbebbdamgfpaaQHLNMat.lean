/- Lists of rows of the reference's integers in memory. -/
import Derived.Test.YtlmbebbdamgfpaaQHLNMem
set_option linter.unusedVariables false
set_option linter.unusedSimpArgs false
set_option maxHeartbeats 8000000
set_option maxRecDepth 100000
namespace Go.Proofs.Ytlmbebbdamgfpaa
open Go.RowKit
theorem qKE (k : Nat) (n : Nat) (h : n < 2 ^ k) : (qAe T4 n).length <= k / 13 + 1 := by
 refine qAO T4 qAn _ _ (Nat.lt_of_lt_of_le h ?_); have h1 : 2 ^ k <= 2 ^ (13 * (k / 13 + 1)) := Nat.pow_le_pow_right (by omega) (by omega); refine Nat.le_trans h1 ?_; rw [Nat.pow_mul]; exact Nat.pow_le_pow_left (by decide) _
theorem Sz.dig {k : Nat} {z : Int} (h : Sz k z) (hk : k <= 6000000) : (qAe T4 z.natAbs).length <= 500000 := by
 have h1 := qKE k z.natAbs (by unfold Sz at h; exact h); have : k / 13 <= 6000000 / 13 := Nat.div_le_div_right hk; omega
def qLz (z : Int) (w0 : World) (e : Ending) (w' : World) : Prop := ∃ s a n c, e = .returned (.agg #[.bool s, .slice a n c]) /\ qAL w' (.agg #[.bool s, .slice a n c]) z /\ Below w0.heap.size w0 w'
theorem qMk {z : Int} {w0 w' : World} {e : Ending} (h : (∃ vr, e = .returned vr /\ qAL w' vr z) /\ Below w0.heap.size w0 w') : qLz z w0 e w' := by
 obtain ⟨⟨vr, he, hr⟩, hb⟩ := h; obtain ⟨a, n, c, rfl, -⟩ := hr.form; exact ⟨_, a, n, c, he, hr, hb⟩
section
variable {w : World} {vx vy : Value} {x y : Int} {k l : Nat}
theorem qMG (hx : qAL w vx x) (hy : qAL w vy y) (sx : Sz k x) (sy : Sz l y) (hk : k <= 6000000) (hl : l <= 6000000) : Calls Try.prog 72 #[vx, vy] w (qLz (x * y) w) :=
 (qHx vx vy x y w hx hy (Nat.le_trans (sx.dig hk) (by omega)) (Nat.le_trans (sy.dig hl) (by omega))).mono (fun _ _ h => qMk h)
theorem qMF (hx : qAL w vx x) (hy : qAL w vy y) (sx : Sz k x) (sy : Sz l y) (hk : k <= 6000000) (hl : l <= 6000000) : Calls Try.prog 71 #[vx, vy] w (qLz (x - y) w) :=
 (qJG vx vy x y w hx hy (Nat.le_trans (sx.dig hk) (by omega)) (Nat.le_trans (sy.dig hl) (by omega))).mono (fun _ _ h => qMk h)
theorem qMA (hx : qAL w vx x) (sx : Sz k x) (hk : k <= 6000000) : Calls Try.prog 56 #[vx] w (qLz (-x) w) :=
 (qHw vx x w hx (Nat.le_trans (sx.dig hk) (by omega))).mono (fun _ _ h => qMk h)
theorem nof (h1 : -9223372036854775808 <= x) (h2 : x <= 9223372036854775807) : Calls Try.prog 40 #[.int .i64 x] w (qLz x w) := (qEi x w h1 h2).mono (fun _ _ h => qMk h)
theorem qMH (hx : qAL w vx x) (hy : qAL w vy y) (sx : Sz k x) (sy : Sz l y) (hk : k <= 6000000) (hl : l <= 6000000) : Calls Try.prog 60 #[vx, vy] w fun e w' => e = .returned (.int .i64 (qAK x y)) /\ Below w.heap.size w w' :=
 qBm vx vy x y w hx hy (Nat.le_trans (sx.dig hk) (by omega)) (Nat.le_trans (sy.dig hl) (by omega))
theorem qLQ (hx : qAL w vx x) (sx : Sz k x) (hk : k <= 6000000) : Calls Try.prog 55 #[vx] w fun e w' => e = .returned (qBd x) /\ Below w.heap.size w w' :=
 qIg vx x w hx (Nat.le_trans (sx.dig hk) (by omega))
def qML (x y : Int) (w0 : World) (e : Ending) (w' : World) : Prop := ∃ s a n c s' a' n' c', e = .returned (.tuple #[.agg #[.bool s, .slice a n c], .agg #[.bool s', .slice a' n' c']]) /\ qAL w' (.agg #[.bool s, .slice a n c]) (x / y) /\ qAL w' (.agg #[.bool s', .slice a' n' c']) (x % y) /\ Below w0.heap.size w0 w'
theorem qMB (hx : qAL w vx x) (hy : qAL w vy y) (hy0 : y ≠ 0) (sx : Sz k x) (sy : Sz l y) (hk : k <= 6000000) (hl : l <= 6000000) : Calls Try.prog 47 #[vx, vy] w (qML x y w) := by
 refine (qJH vx vy x y w hx hy hy0 (sx.dig hk) (sy.dig hl)).mono ?_; rintro e w' ⟨hb, vq, vr, rfl, hq, hr⟩; obtain ⟨h1, h2⟩ := qF0 x y hy0; rw [h1] at hq; rw [h2] at hr; obtain ⟨a, n, c, rfl, -⟩ := hq.form; obtain ⟨a', n', c', rfl, -⟩ := hr.form; exact ⟨_, a, n, c, _, a', n', c', rfl, hq, hr, hb⟩
end
theorem qFd {w : World} {s : Bool} {a : Option Addr} {n c : Nat} {z : Int} (h : qAL w (.agg #[.bool s, .slice a n c]) z) : (n = 0 ↔ z = 0) /\ n <= c /\ c <= 9223372036854775807 /\ s = decide (z < 0) := by
 obtain ⟨a', n', c', e, -, h1, h2, h3⟩ := h.form; injection e with e; have e1 := congrArg (fun x => x[0]?) e; have e2 := congrArg (fun x => x[1]?) e; simp only [List.getElem?_toArray, List.getElem?_cons_succ, List.getElem?_cons_zero, Option.some.injEq] at e1 e2; injection e1 with e1; injection e2 with e2 e3 e4; subst e1 e2 e3 e4; refine ⟨?_, h2, h3, rfl⟩; rw [h1, List.length_eq_zero_iff, qBM T4 _ qAn]; omega
theorem qLP (w : World) (s : Bool) (a : Option Addr) (n c : Nat) (z : Int) (h : qAL w (.agg #[.bool s, .slice a n c]) z) :
 Calls Try.prog 49 #[.agg #[.bool s, .slice a n c]] w fun e w' => e = .returned (.bool (decide (z = 0))) /\ Below w.heap.size w w' := by
 obtain ⟨h1, h2, h3, -⟩ := qFd h; clear h; obtain ⟨b, hb⟩ := eX w.heap.size; obtain ⟨w1, hw⟩ := eX (w.alloc (.cells #[.bool s, .slice a n c] 61)); have HB : Hid (Below w.heap.size w w1) := hZ (by rw [<- hw]; exact (Below.refl _ _).alloc (Nat.le_refl _) _); have t1 := Two.new w 61 (.bool s) (.slice a n c); rw [hw, hb] at t1; have d0 := t1.cell0; have d1 := t1.cell1; clear t1; have hn : ((n : Int) == 0) = decide (z = 0) := by
  by_cases e : n = 0
  ·rw [decide_eq_true (h1.1 e), e]; rfl
  ·rw [decide_eq_false (fun h => e (h1.2 h))]
   simpa using e
 generalize decide (z = 0) = t at *; clear h1
 go_enter Try.func49, Try.ntmps49
 go_wp2_with fail
 go_ret; exact ⟨rfl, HB.o⟩
theorem qF8 (z : Int) : (z.natAbs : Int) = if z < 0 then -z else z := by split <;> omega
theorem qLR (w : World) (s : Bool) (a : Option Addr) (n c : Nat) (z : Int) (k : Nat) (h : qAL w (.agg #[.bool s, .slice a n c]) z) (hs : Sz k z) (hk : k <= 6000000) :
 Calls Try.prog 61 #[.agg #[.bool s, .slice a n c]] w (qLz (z.natAbs : Nat) w) := by
 obtain ⟨-, -, -, rfl⟩ := qFd h; obtain ⟨b, hb⟩ := eX w.heap.size; have Hb := hZ hb; obtain ⟨W, hW, t1, t2, hBW, hsW⟩ := qKv w 61 (.bool (decide (z < 0))) (.slice a n c) (.bool false) (.slice none 0 0) b hb; have HR : Hid (qAL W (.agg #[.bool (decide (z < 0)), .slice a n c]) z) := hZ (h.below (Nat.le_of_eq hb) hBW); have HB := hZ hBW; have T2 := hZ t2; have HS := hZ hs; have d0 := t1.cell0; have d1 := t1.cell1; have T1 := hZ t1; clear h hBW t1 t2 hs; by_cases hz : z < 0
 ·rw [decide_eq_true hz] at *
  go_enter Try.func61, Try.ntmps61
  go_wp2_with fail
  refine (qMA HR.o HS.o hk).mono ?_; rintro e w1 ⟨s1, a1, n1, c1, rfl, h1, hB⟩; have V1 := hZ h1; replace T2 := hZ (T2.o.below hB T2.o.lt); replace HB := hZ (HB.o.trans (hB.mono (by have := hsW; omega))); have g2 := T2.o.frozen 0; have g3 := T2.o.frozen 1; have g0 := T2.o.cell0; have g1 := T2.o.cell1; clear h1 hB
  go_wp2
  refine bodyPost_ret (v := .agg #[.bool s1, .slice a1 n1 c1]) (by simp [results, Try.results61, go_sem, g0, g1]) rfl ⟨s1, a1, n1, c1, rfl, ?_, ?_⟩
  ·rw [qF8, if_pos hz]
   exact V1.o.set_two T2.o _ _
  ·rw [Hb.o]
   exact (HB.o.setCell (p := ⟨b + 1, 0, none⟩) (by show b <= b + 1; omega) _).setCell (p := ⟨b + 1, 1, none⟩) (by show b <= b + 1; omega) _
 ·have Hz := hZ hz
  rw [decide_eq_false hz] at *; have g2 := T2.o.frozen 0; have g3 := T2.o.frozen 1; have g0 := T2.o.cell0; have g1 := T2.o.cell1
  go_enter Try.func61, Try.ntmps61
  go_wp2
  refine bodyPost_ret (v := .agg #[.bool false, .slice a n c]) (by simp [results, Try.results61, go_sem, g0, g1]) rfl ⟨false, a, n, c, rfl, ?_, ?_⟩
  ·rw [qF8, if_neg (by have := Hz.o; omega)]
   exact HR.o.set_two T2.o _ _
  ·rw [Hb.o]
   exact (HB.o.setCell (p := ⟨b + 1, 0, none⟩) (by show b <= b + 1; omega) _).setCell (p := ⟨b + 1, 1, none⟩) (by show b <= b + 1; omega) _
open Go.RowKit
theorem qK4 : (Try.prog.info? 61).map (fun i => (i.zero, i.size, i.bytes)) = some (some (.agg #[.bool false, .slice none 0 0]), 2, 32) := by kernel_rfl
theorem qDW {w : World} {g : Nat} {t : TypeId} {u v : Value} (h : Two w g t u v) : ∀ j x, ([u, v] : List Value)[j]? = some x -> w.cell? ((⟨g, 0, none⟩ : Addr).add j) = some x := by
 intro j x hx
 match j, hx with
 | 0, hx => simp at hx; subst hx; exact h.cell0
 | 1, hx => simp at hx; subst hx; exact h.cell1
 | j + 2, hx => simp at hx
theorem qH0 {s : Bool} {a : Option Addr} {n c : Nat} : ∀ u ∈ ([.bool s, .slice a n c] : List Value), qGI u := by
 intro u hu; simp at hu; rcases hu with rfl | rfl
 ·exact .inl ⟨_, rfl⟩
 ·exact .inr ⟨_, _, _, rfl⟩
theorem qFi {s : Bool} {a : Option Addr} {n c : Nat} : ∀ u ∈ ([.bool s, .slice a n c] : List Value), u.oneCell' = true := by
 intro u hu; simp at hu; rcases hu with rfl | rfl <;> rfl
theorem qFB : ∀ u ∈ (Value.agg #[.bool false, .slice none 0 0]).cells, qGI u := by
 intro u hu; simp [Value.cells] at hu; rcases hu with rfl | rfl
 ·exact .inl ⟨_, rfl⟩
 ·exact .inr ⟨_, _, _, rfl⟩
theorem qBH.digs {w : World} {base : Nat} {e : TypeId} {size : Nat} {v : Value} {n : Nat} {xs : List Value} (h : qBH qGI w base e size v n xs) : ∀ b, v.ownBlock = some b -> qBa w b := fun b hb => (h.2 b hb).bs
theorem qC5 {L : List Int} {j : Nat} (h : j < L.length) {z : Int} (hz : z = L[j]) : L.take (j + 1) = L.take j ++ [z] := by rw [hz, List.take_succ_eq_append_getElem h]
theorem qMr (w0 : World) (v : Value) (r : List Int) (h : qAo w0 v r) (hr : ∀ x ∈ r, -9223372036854775808 <= x /\ x <= 9223372036854775807) (hl : r.length <= 1000) :
 Calls Try.prog 35 #[v] w0 fun e w' => ∃ u xs, e = .returned u /\ qBH qGI w' w0.heap.size 61 2 u r.length xs /\ NLs w' xs r /\ Below w0.heap.size w0 w' := by
 obtain ⟨i0, hi, hz0, hz1, hz2⟩ := info_parts qK4; have Hi := hZ hi; have Hz0 := hZ hz0; have Hz1 := hZ hz1; have Hz2 := hZ hz2; clear hi hz0 hz1 hz2; obtain ⟨av, cv, rfl, q1, q2⟩ := qAh.form h; have H := hZ h; have HB := hZ (Below.refl w0.heap.size w0); have HR := hZ hr; clear h hr
 go_enter Try.func35, Try.ntmps35
 go_wp2_with fail
 go_loopw [4, 3] (fun i vr wr => ∃ (j : Nat) (ga : Option Addr) (gc : Nat) (xs : List Value), j <= r.length /\ i = .int .i64 j /\ vr = .slice ga j gc /\ Hid (qBH qGI wr w0.heap.size 61 2 (.slice ga j gc) j xs) /\ Hid (NLs wr xs (r.take j)) /\ Hid (Below w0.heap.size w0 wr)) (fun i _ _ => r.length - (intOf i).toNat)
 case atStart => exact ⟨0, none, 0, [], by omega, rfl, rfl, hZ (qBH.nil _ _ _ _), hZ NLs.nil, HB⟩
 case round =>
  clear HB; obtain ⟨j, ga, gc, xs, hj, rfl, rfl, Wp, Nl, HB⟩ := hrel; obtain ⟨w1, rfl⟩ := eY wr; by_cases hlt : j < r.length
  ·skip
   have j1 : (0 : Int) <= (j : Int) := by omega
   have j2 : (j : Int) < (r.length : Int) := by omega
   obtain ⟨b0, cap0, hv, hb0, c1⟩ := (H.o.below HB.o).at_ j hlt; injection hv with f1 f2 f3; subst f1; clear f2 f3; obtain ⟨z, hz⟩ := eX (r[j]'hlt); rw [hz] at c1; have Hz := hZ hz; have hzr := HR.o z (hz ▸ List.getElem_mem _); clear hz
   go_wp2_with fail
   clear c1; refine (nof (w := w1) hzr.1 hzr.2).mono ?_; rintro e w2 ⟨s_z, a_z, n_z, c_z, rfl, h_z, hB⟩; have Vz := hZ h_z; replace Wp := Wp.b hB; replace Nl := Nl.b hB; replace HB := bT HB hB; clear hB; clear h_z
   go_wp2_with (at_builtin; refine qA2 rfl _ _ 51 rfl w0.heap.size 61 i0 _ 2 32 Try.underlying51 Hi.o Hz0.o Hz1.o Hz2.o rfl (by decide) qFB _ j _ rfl (Wp.o.blw ((Below.refl _ _).alloc (Nat.le_refl _) _)) ⟨w2.heap.size, 0, none⟩ 1 1 [.bool s_z, .slice a_z n_z c_z] rfl rfl (qDW (Two.new _ _ _ _)) qFi qH0 (by decide) (by unfold maxLen; omega) (by omega) (by simp; have := HB.o.size; omega) ?_)
   intro v5 w5' hown hon; obtain ⟨w3, hw⟩ := eX (w2.alloc (.cells #[.bool s_z, .slice a_z n_z c_z] 61)); have hB := aB hw; replace hon : qAc (fun b => (Value.slice ga j gc).ownBlock = some b) w3 w5' := by rw [<- hw]; exact hon
   clear hw; replace Wp := Wp.b hB; replace Nl := Nl.b hB; replace Vz := Vz.b hB; replace HB := bT HB hB; clear hB; have hN : ∀ b, (Value.slice ga j gc).ownBlock = some b -> qBa w3 b := Wp.o.digs; obtain ⟨w4, rfl⟩ := eY w5'; have Nl' := hZ ((Nl.o.snoc Vz.o).only hon hN); replace HB := hZ (qAj HB.o hon (fun b e => (Wp.o.lt b e).1) HB.o.size); replace Wp := hZ hown; clear hon hown hN Vz
   go_wp2_with fail
   go_roundw
   case rel => obtain ⟨a9, c9, rfl, -, -⟩ := Wp.o.form; exact ⟨j + 1, a9, c9, _, by omega, by go_num, rfl, Wp, hZ (by rw [qC5 hlt Hz.o.symm]; exact Nl'.o), HB⟩
   case measure => simp [intOf]; omega
  ·skip
   obtain rfl : j = r.length := by omega
   go_wp2_with fail
   go_ret; exact ⟨_, xs, rfl, Wp.o, by have := Nl.o; rwa [List.take_length] at this, HB.o⟩
theorem qLS (w0 : World) (gx ox cx gy oy cy n k : Nat) (sq : Bool) (aq : Option Addr) (nq cq : Nat) (q : Int) (A B : List Int) (hx : NRo w0 (gx, ox, cx) A) (hy : NRo w0 (gy, oy, cy) B) (hA : A.length = n) (hB : B.length = n) (hn0 : 0 < n) (hn : n <= 1000)
 (hq : qAL w0 (.agg #[.bool sq, .slice aq nq cq]) q) (SA : ∀ z ∈ A, Sz k z) (SB : ∀ z ∈ B, Sz k z) (Sq : Sz k q) (hk : k <= 2000000) :
 Calls Try.prog 48 #[.slice (some ⟨gx, ox, none⟩) n cx, .slice (some ⟨gy, oy, none⟩) n cy, .agg #[.bool sq, .slice aq nq cq]] w0 fun e w' => ∃ g cap, e = .returned (.slice (some ⟨g, 0, none⟩) n cap) /\ NRo w' (g, 0, cap) (qCK A B q) /\ w0.heap.size <= g /\ n <= cap /\ cap <= 9223372036854775807 /\ Below w0.heap.size w0 w' := by
 obtain ⟨i0, hi, hz0, hz1, hz2⟩ := info_parts qK4; have Hi := hZ hi; have Hz0 := hZ hz0; have Hz1 := hZ hz1; have Hz2 := hZ hz2; clear hi hz0 hz1 hz2; obtain ⟨L, hL⟩ := eX (qCK A B q); have HL : Hid (L.length = n /\ ∀ j (h : j < L.length) (h1 : j < A.length) (h2 : j < B.length), L[j] = A[j] - q * B[j]) := hZ (by subst hL; exact ⟨by rw [qBr, hA], fun j h h1 h2 => by rw [qFn j h1, qAk h1, qAk h2]⟩); rw [hL]; have HA := hZ hA; have HBl := hZ hB; have HSA := hZ SA; have HSB := hZ SB; have HSq := hZ Sq; obtain ⟨b0, hb⟩ := eX w0.heap.size; have Hb0 := hZ hb; obtain ⟨w1, hw⟩ := eX (w0.alloc (.cells #[.bool sq, .slice aq nq cq] 61)); have HB : Hid (Below w0.heap.size w0 w1) := hZ (by rw [<- hw]; exact (Below.refl _ _).alloc (Nat.le_refl _) _); have t1 := Two.new w0 61 (.bool sq) (.slice aq nq cq); rw [hw, hb] at t1; have Tq := hZ t1; have Vq := hZ (hq.blw HB.o); have RX := hZ (hx.blw HB.o); have RY := hZ (hy.blw HB.o); have d0 := t1.cell0; have d1 := t1.cell1; clear hx hy hA hB SA SB Sq hq t1 hL
 go_enter Try.func48, Try.ntmps48
 go_wp2_with fail
 clear hw d0 d1; have HB1 : Hid (Below w1.heap.size w1 w1) := hZ (Below.refl _ _)
 go_loopw [8, 7] (fun i vr wr => ∃ (j : Nat) (ga : Option Addr) (gc : Nat) (xs : List Value), j <= n /\ i = .int .i64 j /\ vr = .slice ga j gc /\ Hid (qBH qGI wr w1.heap.size 61 2 (.slice ga j gc) j xs) /\ Hid (NLs wr xs (L.take j)) /\ Hid (Below w1.heap.size w1 wr)) (fun i _ _ => n - (intOf i).toNat)
 case atStart => exact ⟨0, none, 0, [], by omega, rfl, rfl, hZ (qBH.nil _ _ _ _), hZ NLs.nil, HB1⟩
 case round =>
  clear HB1; obtain ⟨j, ga, gc, xs, hj, rfl, rfl, Wp, Nl, HB1⟩ := hrel; obtain ⟨w2, rfl⟩ := eY wr; by_cases hlt : j < n
  ·skip
   have j1 : (0 : Int) <= (j : Int) := by omega
   have j2 : (j : Int) < (n : Int) := by omega
   have Hja : Hid (j < A.length) := hZ (by rw [HA.o]; exact hlt); have Hjb : Hid (j < B.length) := hZ (by rw [HBl.o]; exact hlt); have Hjl : Hid (j < L.length) := hZ (by rw [HL.o.1]; exact hlt); obtain ⟨x, hx⟩ := eX (A[j]'Hja.o); obtain ⟨y, hy⟩ := eX (B[j]'Hjb.o); have Hz : Hid (L[j]'Hjl.o = x - q * y) := hZ (by rw [HL.o.2 j Hjl.o Hja.o Hjb.o, hx, hy]); have Sx : Hid (Sz k x) := hZ (HSA.o x (hx ▸ List.getElem_mem _)); have Sy : Hid (Sz k y) := hZ (HSB.o y (hy ▸ List.getElem_mem _)); have Hxy := hZ (And.intro hx hy); clear hx hy
   go_wp2_with fail
   obtain ⟨w3, hwd⟩ := eX w2.drew; have hB := dB hwd; replace Wp := Wp.b hB; replace Nl := Nl.b hB; replace HB1 := bT HB1 hB; clear hB; have HBr : Hid (qAc (fun b => False) w3 w3) := hZ (qAc.refl _ _); refine qAx [13, 14] (fun w' => qAc (fun b => False) w3 w') (by kernel_rfl) (by rw [hwd]; exact qAc.refl _ _) (fun hHeld => ?_); rw [hwd] at hHeld ⊢; clear hwd; obtain ⟨s_x, a_x, n_x, c_x, d0x, d1x, h_x⟩ := (RX.o.blw HB1.o).get j Hja.o; simp only [] at d0x d1x; rw [Hxy.o.1] at h_x; obtain ⟨s_y, a_y, n_y, c_y, d0y, d1y, h_y⟩ := (RY.o.blw HB1.o).get j Hjb.o; simp only [] at d0y d1y; rw [Hxy.o.2] at h_y; have Vx := hZ h_x; have Vy := hZ h_y; have hlx := (RX.o.blw HB1.o).lt; have hly := (RY.o.blw HB1.o).lt; have Tq9 := Tq.o.below HB1.o Tq.o.lt; have d0q := Tq9.cell0; have d1q := Tq9.cell1; have hlq := Tq9.lt; have Vq9 : Hid (qAL w3 (.agg #[.bool sq, .slice aq nq cq]) q) := hZ (Vq.o.blw HB1.o); clear h_x h_y Tq9; refine pU 0 15 ?_; refine pU 1 16 ?_; refine pU 2 17 ?_; refine pU 3 18 ?_; refine tV 4 19 (cF d0x hlx) (cF d1x hlx) ?_; refine tV 5 20 (cF d0q hlq) (cF d1q hlq) ?_; refine pU 6 21 ?_; refine pU 7 22 ?_; refine pU 8 23 ?_; refine tV 9 24 (cF d0y hly) (cF d1y hly) ?_; clear d0x d1x d0y d1y d0q d1q hlx hly hlq; refine eU 10 fun K hK => ?_; go_simp; refine (qMG (w := w3) Vq9.o Vy.o HSq.o Sy.o (by omega) (by omega)).mono ?_; rintro e w4 ⟨s_p, a_p, n_p, c_p, rfl, h_p, hB⟩; have Vp := hZ h_p; replace HBr := oT HBr hB; replace Wp := Wp.b hB; replace Nl := Nl.b hB; replace Vx := Vx.b hB; replace Vy := Vy.b hB; replace Vq9 := Vq9.b hB; replace HB1 := bT HB1 hB; clear hB; clear h_p; refine hK.out _ _ HBr.o (fun hHeld => ?_); clear hK K
   try simp only [Act.put, sX1, sX2, sX3]
   refine eU 11 fun K hK => ?_; go_simp; refine (qMF (w := w4) Vx.o Vp.o Sx.o (HSq.o.mul Sy.o) (by omega) (by omega)).mono ?_; rintro e w5 ⟨s_z, a_z, n_z, c_z, rfl, h_z, hB⟩; have Vz := hZ h_z; replace HBr := oT HBr hB; replace Wp := Wp.b hB; replace Nl := Nl.b hB; replace Vx := Vx.b hB; replace Vy := Vy.b hB; replace Vq9 := Vq9.b hB; replace Vp := Vp.b hB; replace HB1 := bT HB1 hB; clear hB; clear h_z; refine hK.out _ _ HBr.o (fun hHeld => ?_); clear hK K
   try simp only [Act.put, sX1, sX2, sX3]
   clear Vx Vy Vq9 Vp; refine eU 12 fun K hK => ?_; go_simp; obtain ⟨w6, hw⟩ := eX (w5.alloc (.cells #[.bool s_z, .slice a_z n_z c_z] 61)); have hB := aB hw; obtain ⟨g9, hg9⟩ := eX w5.heap.size; have Tn' : Hid (Two w6 g9 61 (.bool s_z) (.slice a_z n_z c_z)) := hZ (by rw [<- hw, <- hg9]; exact Two.new _ _ _ _); replace HBr := oT HBr hB
   try rw [hw]
   try rw [hg9]
   replace Wp := Wp.b hB; replace Nl := Nl.b hB; replace Vz := Vz.b hB; replace HB1 := bT HB1 hB; clear hB; have Tn := Tn'; clear Tn' hw hg9; refine hK.out _ _ HBr.o (fun hHeld => ?_); clear hK K
   try simp only [Act.put, sX1, sX2, sX3]
   refine lU 13 fun K hK => ?_; refine qIH rfl 28 rfl _ _ 51 rfl w1.heap.size 61 i0 _ 2 32 Try.underlying51 Hi.o Hz0.o Hz1.o Hz2.o rfl (by decide) qFB _ j _ rfl Wp.o ⟨g9, 0, none⟩ 1 1 [.bool s_z, .slice a_z n_z c_z] rfl rfl (qDW Tn.o) qFi qH0 (by decide) (by unfold maxLen; omega) (by omega) HB1.o.size ?_; intro v5 w5' hown hon; have hN : ∀ b, (Value.slice ga j gc).ownBlock = some b -> qBa w6 b := Wp.o.digs; obtain ⟨w7, rfl⟩ := eY w5'; have Nl' := hZ ((Nl.o.snoc Vz.o).only hon hN); replace HB1 := hZ (qAj HB1.o hon (fun b e => (Wp.o.lt b e).1) HB1.o.size); replace Wp := hZ hown; clear hon hown hN Tn Vz; refine hK.out _ _ ?_; clear hK K
   try simp only [Act.put, sX1, sX2, sX3]
   refine pU 14 7 ?_; refine dU ?_; clear hHeld
   go_wp2_with fail
   go_roundw
   case rel => obtain ⟨a9, c9, rfl, -, -⟩ := Wp.o.form; exact ⟨j + 1, a9, c9, _, by omega, by go_num, rfl, Wp, hZ (by rw [qC5 Hjl.o Hz.o.symm]; exact Nl'.o), HB1⟩
   case measure => simp [intOf]; omega
  ·skip
   obtain rfl : j = n := by omega
   obtain ⟨g, cg, e9, h1, h2, h3, h4⟩ := Wp.o.some_ hn0; injection e9 with f1 f2 f3; subst f1 f3; clear f2
   go_wp2_with fail
   have HLl := HL.o.1; go_ret; exact ⟨g, _, rfl, Wp.o.nro (by have := Nl.o; rwa [List.take_of_length_le (by omega)] at this), Nat.le_trans HB.o.size h3, h1, h2, HB.o.trans (HB1.o.mono HB.o.size)⟩
open Go.RowKit
theorem qFo {n : Nat} {x : Nw} : isS (nrV n x) := ⟨_, _, _, rfl⟩
structure NMt (w : World) (B0 R cR m : Nat) (l : List Nw) (n : Nat) (M : List (List Int)) : Prop where
 own : qBH isS w B0 51 1 (.slice (some ⟨R, 0, none⟩) m cR) m (l.map (nrV n))
 lenl : l.length = m
 len : M.length = m
 row : ∀ i (h : i < l.length) (h' : i < M.length), NRo w l[i] M[i] /\ M[i].length = n
 nodup : ∀ i j (h : i < l.length) (h' : j < l.length), i ≠ j -> l[i].1 ≠ l[j].1
 apart : ∀ i (h : i < l.length), l[i].1 ≠ R
 cap : ∀ i (h : i < l.length), n <= l[i].2.2 /\ l[i].2.2 <= 9223372036854775807
section
variable {w w' : World} {B0 R cR m n : Nat} {l : List Nw} {M : List (List Int)}
theorem NMt.only {S : Nat -> Prop} (h : NMt w B0 R cR m l n M) (ho : qAc S w w') (hS : ∀ b, S b -> qBa w b) (hR : ¬ S R) (hr : ∀ i (hi : i < l.length), ¬ S l[i].1) : NMt w' B0 R cR m l n M :=
 ⟨h.own.only ho (fun g hg => by simp only [Value.ownBlock, Option.some.injEq] at hg; subst hg; exact hR), h.lenl, h.len, fun i hi hi' => ⟨(h.row i hi hi').1.only ho hS (hr i hi), (h.row i hi hi').2⟩, h.nodup, h.apart, h.cap⟩
theorem NMt.blw (h : NMt w B0 R cR m l n M) (hb : Below w.heap.size w w') : NMt w' B0 R cR m l n M := h.only (S := fun _ => False) (qAc.of_below hb) (fun _ h => h.elim) (fun h => h) (fun _ _ h => h)
instance : Mv w w' (NMt w B0 R cR m l n M) (NMt w' B0 R cR m l n M) := ⟨fun hb h => NMt.blw h hb⟩
theorem NMt.lt (h : NMt w B0 R cR m l n M) : R < w.heap.size := (h.own.lt R rfl).2
theorem NMt.base (h : NMt w B0 R cR m l n M) : B0 <= R := (h.own.lt R rfl).1
theorem NMt.noDig (h : NMt w B0 R cR m l n M) : qBa w R := (h.own.2 R rfl).s
theorem NMt.row_lt (h : NMt w B0 R cR m l n M) (i : Nat) (hi : i < l.length) : l[i].1 < w.heap.size := (h.row i hi (by rw [h.len, <- h.lenl]; exact hi)).1.lt
theorem NMt.get (h : NMt w B0 R cR m l n M) (i : Nat) (hi : i < l.length) : w.cell? ⟨R, i, none⟩ = some (.slice (some ⟨l[i].1, l[i].2.1, none⟩) n l[i].2.2) := by
 have := h.lenl; rw [h.own.1.cellAt i (by omega), List.getElem?_map, List.getElem?_eq_getElem hi]; rfl
theorem NMt.frozen (h : NMt w B0 R cR m l n M) (i : Nat) : w.frozen? ⟨R, i, none⟩ = false := h.own.1.frozenAt i
theorem NMt.ent (h : NMt w B0 R cR m l n M) (i c : Nat) (hi : i < l.length) (hc : c < n) : ∃ s a k cc, w.cell? ⟨l[i].1, l[i].2.1 + c * 2, none⟩ = some (.bool s) /\ w.cell? ⟨l[i].1, l[i].2.1 + c * 2 + 1, none⟩ = some (.slice a k cc) /\ qAL w (.agg #[.bool s, .slice a k cc]) (Go.Proofs.Ytlmbebbdamgfpaa.ent M i c) := by
 have hi' : i < M.length := by rw [h.len, <- h.lenl]; exact hi
 obtain ⟨h1, h2⟩ := h.row i hi hi'; have h3 := h1.get c (by omega)
 rwa [<- qHO hi' (by omega)] at h3
theorem qJC {α β : Type} (f : α -> β) (l : List α) (a b : Nat) (ha : a < l.length) (hb : b < l.length) : (qAu l a b ha hb).map f = ((l.map f).set a (f l[b])).set b (f l[a]) := by
 unfold qAu; rw [List.map_set, List.map_set]
theorem qB6 (w : World) (R i : Nat) (u : Value) : qAc (fun g => g = R) w (w.setCell ⟨R, i, none⟩ u) := (qAc.refl (fun g => g = R) w).set (p := ⟨R, i, none⟩) rfl u
theorem NMt.swap (h : NMt w B0 R cR m l n M) {a b : Nat} (ha : a < l.length) (hb : b < l.length) (ha' : a < M.length) (hb' : b < M.length) :
 NMt ((w.setCell ⟨R, a, none⟩ (.slice (some ⟨l[b].1, l[b].2.1, none⟩) n l[b].2.2)).setCell ⟨R, b, none⟩ (.slice (some ⟨l[a].1, l[a].2.1, none⟩) n l[a].2.2)) B0 R cR m (qAu l a b ha hb) n (qAu M a b ha' hb') := by
 have ho : qAc (fun g => g = R) w ((w.setCell ⟨R, a, none⟩ (.slice (some ⟨l[b].1, l[b].2.1, none⟩) n l[b].2.2)).setCell ⟨R, b, none⟩ (.slice (some ⟨l[a].1, l[a].2.1, none⟩) n l[a].2.2)) := (qB6 w R a _).trans (qB6 _ R b _); have hS : ∀ g, g = R -> qBa w g := fun g e => e ▸ h.noDig; have sA : ∀ i (hi : i < l.length), (qAu l a b ha hb)[i]'(by rw [qAb]; exact hi) = if i = b then l[a] else if i = a then l[b] else l[i] := fun i hi => qAq i hi; have inj : ∀ i j (hi : i < l.length) (hj : j < l.length), (qAu l a b ha hb)[i]'(by rw [qAb]; exact hi) = l[sw a b i]'(qCb ha hb hi) := fun i j hi hj => by
  rw [sA i hi]; unfold sw
  split
  ·rfl
  ·split <;> rfl
 refine ⟨?_, by rw [qAb, h.lenl], by rw [qAb, h.len], fun i hi hi' => ?_, fun i j hi hj hij => ?_, fun i hi => ?_, fun i hi => ?_⟩
 ·have h1 := (h.own.stored a (by rw [List.length_map]; exact ha) (qFo (n := n) (x := l[b]))).stored b (by rw [List.length_set, List.length_map]; exact hb) (qFo (n := n) (x := l[a]))
  rw [qJC]; exact h1
 ·rw [qAb] at hi hi'
  rw [inj i i hi hi]; have e2 : (qAu M a b ha' hb')[i]'(by rw [qAb]; exact hi') = M[sw a b i]'(qCb ha' hb' hi') := by
   rw [qAq i hi']; unfold sw
   split
   ·rfl
   ·split <;> rfl
  rw [e2]; obtain ⟨h1, h2⟩ := h.row _ (qCb ha hb hi) (qCb ha' hb' hi'); exact ⟨h1.only ho hS (h.apart _ _), h2⟩
 ·rw [qAb] at hi hj
  rw [inj i i hi hi, inj j j hj hj]; exact h.nodup _ _ _ _ (fun e => hij (qFQ e))
 ·rw [qAb] at hi
  rw [inj i i hi hi]; exact h.apart _ _
 ·rw [qAb] at hi
  rw [inj i i hi hi]; exact h.cap _ _
theorem NMt.put (h : NMt w B0 R cR m l n M) {i g c : Nat} (hi : i < l.length) {zs : List Int} (hr : NRo w (g, 0, c) zs) (hz : zs.length = n) (hg : ∀ k (hk : k < l.length), l[k].1 ≠ g) (hgR : g ≠ R) (hc : n <= c) (hc2 : c <= 9223372036854775807) :
 NMt (w.setCell ⟨R, i, none⟩ (.slice (some ⟨g, 0, none⟩) n c)) B0 R cR m (l.set i (g, 0, c)) n (M.set i zs) := by
 have ho := qB6 w R i (.slice (some ⟨g, 0, none⟩) n c); have hS : ∀ g, g = R -> qBa w g := fun g e => e ▸ h.noDig; refine ⟨?_, by rw [List.length_set, h.lenl], by rw [List.length_set, h.len], fun k hk hk' => ?_, fun k j hk hj hkj => ?_, fun k hk => ?_, fun k hk => ?_⟩
 ·have h1 := h.own.stored i (by rw [List.length_map]; exact hi) (qFo (n := n) (x := (g, 0, c)))
  rw [List.map_set]; exact h1
 ·rw [List.length_set] at hk hk'
  rw [List.getElem_set, List.getElem_set]
  split
  ·exact ⟨hr.only ho hS hgR, hz⟩
  ·exact ⟨(h.row k hk hk').1.only ho hS (h.apart k hk), (h.row k hk hk').2⟩
 ·rw [List.length_set] at hk hj
  rw [List.getElem_set, List.getElem_set]
  split <;> split
  ·omega
  ·exact fun e => hg j hj e.symm
  ·exact hg k hk
  ·exact h.nodup k j hk hj hkj
 ·rw [List.length_set] at hk
  rw [List.getElem_set]
  split
  ·exact hgR
  ·exact h.apart k hk
 ·rw [List.length_set] at hk
  rw [List.getElem_set]
  split
  ·exact ⟨hc, hc2⟩
  ·exact h.cap k hk
end
def qH7 (N0 : Nat) (l0 l : List Nw) : Prop := ∀ x ∈ l, (∃ y ∈ l0, x.1 = y.1) \/ N0 <= x.1
theorem qH7.refl {N0 : Nat} {l : List Nw} : qH7 N0 l l := fun x hx => .inl ⟨x, hx, rfl⟩
theorem qH7.swap {N0 : Nat} {l0 l : List Nw} (h : qH7 N0 l0 l) {a b : Nat} (ha : a < l.length) (hb : b < l.length) : qH7 N0 l0 (qAu l a b ha hb) := fun x hx => h x (qBb x hx)
theorem qH7.set {N0 : Nat} {l0 l : List Nw} (h : qH7 N0 l0 l) {i : Nat} {x : Nw} (hx : N0 <= x.1) : qH7 N0 l0 (l.set i x) := fun y hy => by
 rcases List.mem_or_eq_of_mem_set hy with h1 | h1
 ·exact h y h1
 ·rw [h1]; exact .inr hx
def qDp (M : List (List Int)) (top c b b' left g : Nat) : Prop :=
 (2 <= left /\ 0 < g /\ qGE M top c b b' /\ (qCv M top c -> ∃ k, top <= k /\ k < M.length /\ Go.Proofs.Ytlmbebbdamgfpaa.ent M k c ≠ 0 /\ (Go.Proofs.Ytlmbebbdamgfpaa.ent M k c).natAbs < g)) \/
 (left = 0 /\ (∀ k, top <= k -> k < M.length -> Go.Proofs.Ytlmbebbdamgfpaa.ent M k c = 0) /\ ∀ r ∈ M, ∀ x ∈ r, Sz b x) \/
 (left = 1 /\ Go.Proofs.Ytlmbebbdamgfpaa.ent M top c ≠ 0 /\ (∀ k, top < k -> k < M.length -> Go.Proofs.Ytlmbebbdamgfpaa.ent M k c = 0) /\ ∀ r ∈ M, ∀ x ∈ r, Sz b' x)
theorem qDp.start {M : List (List Int)} {top c b b' : Nat} (h : qGE M top c b b') : ∃ g, qDp M top c b b' 2 g := by
 by_cases ht : qCv M top c
 ·obtain ⟨k, k', a1, a2, a3, a4, a5⟩ := ht
  exact ⟨(ent M k c).natAbs + 1, .inl ⟨by omega, by omega, h, fun _ => ⟨k, a1, by omega, a4, by omega⟩⟩⟩
 ·exact ⟨1, .inl ⟨by omega, by omega, h, fun h2 => absurd h2 ht⟩⟩
section
variable {M : List (List Int)} {top c b b' left left' least g : Nat}
theorem qGF.least_lt (h : qGF M top c M.length left least) (ht : top < M.length) : top <= least /\ least < M.length := by
 rcases Nat.eq_zero_or_pos left with h0 | h0
 ·have := (h.none h0).1; omega
 ·have := h.some h0; omega
theorem qDp.end0 (h : qDp M top c b b' left' g) (hl : 2 <= left') (hc : qGF M top c M.length left least) (h0 : left = 0) (ht : top < M.length) (hlt : least < M.length) : qDp (qAu M top least ht hlt) top c b b' left 0 := by
 obtain ⟨e, hz⟩ := hc.none h0; subst e; rcases h with ⟨-, -, hcol, -⟩ | ⟨h1, -⟩ | ⟨h1, -⟩
 ·refine .inr (.inl ⟨h0, fun k h1 h2 => ?_, fun r hr => hcol.nz (.inl hz) r (qBb r hr)⟩)
  rw [qAb] at h2; rw [qCM]; exact hz _ (qDv (Nat.le_refl _) (Nat.le_refl _) h1) (qCb ht hlt h2)
 ·omega
 ·omega
theorem qDp.end1 (h : qDp M top c b b' left' g) (hl : 2 <= left') (hc : qGF M top c M.length left least) (h1 : left = 1) (ht : top < M.length) (hlt : least < M.length) : qDp (qAu M top least ht hlt) top c b b' left 0 := by
 obtain ⟨a1, a2, a3, a4⟩ := hc.some (by omega); have ho := hc.one h1; rcases h with ⟨-, -, hcol, -⟩ | ⟨h1, -⟩ | ⟨h1, -⟩
 ·refine .inr (.inr ⟨h1, ?_, fun k h2 h3 => ?_, fun r hr => hcol.fin r (qBb r hr)⟩)
  ·rw [qFu]
   split
   ·next e => rw [e]; exact a3
   ·rw [if_pos rfl]; exact a3
  ·rw [qAb] at h3
   rw [qCM]; refine ho _ (qDv (Nat.le_refl _) a1 (by omega)) (qCb ht hlt h3) (fun e => ?_); have : sw top least k = sw top least top := by rw [e]; unfold sw; split; omega; rw [if_pos rfl]
   have := qFQ this; omega
 ·omega
 ·omega
structure qLt (M : List (List Int)) (top c b b' gk : Nat) : Prop where
 col : qGE M top c b b'
 nz : ent M top c ≠ 0
 least : ∀ k, top <= k -> k < M.length -> ent M k c ≠ 0 -> (ent M top c).natAbs <= (ent M k c).natAbs
 two : qCv M top c
 lt : (ent M top c).natAbs < gk
theorem qDp.piv (h : qDp M top c b b' left' g) (hl : 2 <= left') (hc : qGF M top c M.length left least) (h2 : 2 <= left) (ht : top < M.length) (hlt : least < M.length) : qLt (qAu M top least ht hlt) top c b b' g := by
 obtain ⟨a1, a2, a3, a4⟩ := hc.some (by omega); obtain ⟨k, b1, b2, b3, b4⟩ := hc.two h2; have htw : qCv M top c := qCv.of_ne b1 a1 b3 b2 hlt b4 a3; have hpt : ent (qAu M top least ht hlt) top c = ent M least c := by
  rw [qFu]
  split
  ·next e => rw [e]
  ·rw [if_pos rfl]
 rcases h with ⟨-, hg, hcol, hgk⟩ | ⟨h1, -⟩ | ⟨h1, -⟩
 ·refine ⟨hcol.swap ht hlt (Nat.le_refl _) a1, by rw [hpt]; exact a3, fun k h3 h4 h5 => ?_, ?_, ?_⟩
  ·rw [qAb] at h4
   rw [hpt, qCM]; rw [qCM] at h5; exact a4 _ (qDv (Nat.le_refl _) a1 h3) (qCb ht hlt h4) h5
  ·refine qCv.of_ne (k := sw top least k) (k' := sw top least least) (qDv (Nat.le_refl _) a1 b1) (qDv (Nat.le_refl _) a1 a1) (fun e => b3 (qFQ e)) (by rw [qAb]; exact qCb ht hlt b2) (by rw [qAb]; exact qCb ht hlt hlt) (by rw [qCX]; exact b4) (by rw [qCX]; exact a3)
  ·obtain ⟨k', c1, c2, c3, c4⟩ := hgk htw
   have := a4 k' c1 c2 c3; rw [hpt]; omega
 ·omega
 ·omega
theorem qLt.red {M' : List (List Int)} {n gk : Nat} (h : qLt M top c b b' gk) (hr : ∀ r ∈ M, r.length = n) (ht : top < M.length) (hd : qDs M top c M.length M') (h2 : 2 <= left) : qDp M' top c b b' left (ent M top c).natAbs := by
 obtain ⟨h1, h3, h4⟩ := h.col.red hr ht h.nz h.least h.two hd; exact .inl ⟨h2, by have := h.nz; omega, h1, h4⟩
theorem qLt.fin {M' : List (List Int)} {n gk i : Nat} (h : qLt M top c b b' gk) (hr : ∀ r ∈ M, r.length = n) (ht : top < M.length) (hd : qDs M top c i M') : ∀ r ∈ M', ∀ x ∈ r, Sz b' x := h.col.red_fin hr ht h.nz h.least h.two hd
end
def eb (b m top : Nat) : Nat := b * 5 ^ min top (m - 1)
theorem qJ4 (b m : Nat) : eb b m 0 = b := by simp [eb]
theorem qLd (b m top : Nat) : eb b m top <= eb b m (top + 1) := Nat.mul_le_mul_left _ (Nat.pow_le_pow_right (by omega) (by omega))
theorem qLe (b m top : Nat) (h : top + 1 < m) : 5 * eb b m top <= eb b m (top + 1) := by
 unfold eb; rw [Nat.min_eq_left (by omega), Nat.min_eq_left (by omega), Nat.pow_succ]
 grind
theorem qL6 (b m top : Nat) (h : 5 <= b) : 5 <= eb b m top := by
 have : b * 1 <= eb b m top := Nat.mul_le_mul_left _ (Nat.pow_pos (by omega)); omega
theorem qL5 (b m top : Nat) : eb b m top <= b * 5 ^ (m - 1) := Nat.mul_le_mul_left _ (Nat.pow_le_pow_right (by omega) (by omega))
attribute [irreducible] eb
theorem qGE.ech {M0 M : List (List Int)} {n c top b m : Nat} (h : qCC M0 M n c top) (hm : M.length = m) (hb : 5 <= b) (hS : ∀ r ∈ M, ∀ x ∈ r, Sz (eb b m top) x) : qGE M top c (eb b m top) (eb b m (top + 1)) :=
 qGE.start hS (fun h1 => ⟨qLe b m top (by omega), qL6 b m top hb⟩) (qLd b m top)
end Go.Proofs.Ytlmbebbdamgfpaa
