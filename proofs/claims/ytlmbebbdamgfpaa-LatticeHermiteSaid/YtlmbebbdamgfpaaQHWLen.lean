/- math/bits: Len32, LeadingZeros32. -/
import Derived.Test.YtlmbebbdamgfpaaQHWKnuth
import Derived.IntWalk
import Derived.Lib.BitFns
import Derived.Lib.Walk
set_option linter.unusedVariables false
set_option linter.unusedSimpArgs false
set_option maxHeartbeats 4000000
set_option maxRecDepth 100000
namespace Go.Proofs.Ytlmbebbdamgfpaa
open Go.RowKit
theorem qDZ (n : Nat) (h : 1 <= n) : W2 ^ n = W2 * W2 ^ (n - 1) := by
 obtain ⟨m, rfl⟩ : ∃ m, n = m + 1 := ⟨n - 1, by omega⟩; rw [Nat.add_sub_cancel, Nat.pow_succ, Nat.mul_comm]
theorem qJz (P : List Nat) (n : Nat) (hP : P.length = n + 1) (hn : 1 <= n) (h0 : n < P.length) (h1 : n - 1 < P.length) : val W2 P = (P[n] * W2 + P[n - 1]) * W2 ^ (n - 1) + val W2 (P.take (n - 1)) := by
 have e1 : val W2 P = val W2 (P.take n) + P[n] * W2 ^ n := by rw [<- qAf W2 P n h0, List.take_of_length_le (by omega)]
 have e2 := qAf W2 P (n - 1) h1; rw [show n - 1 + 1 = n by omega] at e2; rw [e1, e2, qDZ n hn]; generalize W2 ^ (n - 1) = X; generalize P[n] = a; generalize P[n - 1] = b; generalize val W2 (P.take (n - 1)) = c; generalize W2 = B
 grind
theorem qE8 (D : List Nat) (n : Nat) (hD : D.length = n) (hn : 1 <= n) (h1 : n - 1 < D.length) : val W2 D = D[n - 1] * W2 ^ (n - 1) + val W2 (D.take (n - 1)) := by
 have e2 := qAf W2 D (n - 1) h1; rw [show n - 1 + 1 = n by omega, List.take_of_length_le (by omega)] at e2; rw [e2]; omega
theorem qBU (P : List Nat) (k : Nat) (hP : Low W2 P) (hk : k <= P.length) : val W2 (P.take k) < W2 ^ k := by
 have := qBk W2 (by decide) (P.take k) (qDg hP k)
 rwa [List.length_take, Nat.min_eq_left hk] at this
theorem qL4 (P D : List Nat) (n : Nat) (hP : P.length = n + 1) (hD : D.length = n) (hn : 2 <= n) (lP : Low W2 P) (lD : Low W2 D) (i0 : n < P.length) (i1 : n - 1 < P.length) (i2 : n - 2 < P.length) (j1 : n - 1 < D.length) (j2 : n - 2 < D.length)
 (h31 : 2147483648 <= D[n - 1]) (hlt : val W2 P < val W2 D * W2) :
 Est D[n - 1] D[n - 2] (P[n] * W2 + P[n - 1]) P[n - 2] (val W2 P / val W2 D) := by
 have eP := qJz P n hP (by omega) i0 i1; have eD := qE8 D n hD (by omega) j1; have tP := qBU P (n - 1) lP (by omega); have tD := qBU D (n - 1) lD (by omega); have tP2 := qBU P (n - 2) lP (by omega); have hh : D[n - 1] < W2 := lD _ (List.getElem_mem _); have hq := Nat.div_mul_le_self (val W2 P) (val W2 D); have sP := qAf W2 P (n - 2) i2; have sD := qAf W2 D (n - 2) j2; rw [show n - 2 + 1 = n - 1 by omega] at sP sD; have hX : W2 ^ (n - 1) = W2 * W2 ^ (n - 2) := by rw [qDZ (n - 1) (by omega), Nat.sub_sub]
 have hXp : 0 < W2 ^ (n - 1) := Nat.pow_pos (by decide); refine ⟨h31, hh, lD _ (List.getElem_mem _), lP _ (List.getElem_mem _), ?_, ?_, ?_, ?_⟩
 ·have h1 : (P[n] * W2 + P[n - 1]) * W2 ^ (n - 1) < (D[n - 1] * W2 + W2) * W2 ^ (n - 1) := by
   have h2 : val W2 D < (D[n - 1] + 1) * W2 ^ (n - 1) := by rw [eD, Nat.add_mul, Nat.one_mul]; omega
   have h3 : val W2 D * W2 < (D[n - 1] + 1) * W2 ^ (n - 1) * W2 := Nat.mul_lt_mul_of_pos_right h2 (by decide); have h4 : (D[n - 1] + 1) * W2 ^ (n - 1) * W2 = (D[n - 1] * W2 + W2) * W2 ^ (n - 1) := by
    generalize W2 ^ (n - 1) = X; generalize D[n - 1] = d; generalize W2 = B
    grind
   omega
  exact Nat.lt_of_mul_lt_mul_right h1
 ·refine Nat.div_lt_of_lt_mul ?_
  exact hlt
 ·exact qJd _ _ (val W2 (D.take (n - 1))) _ (val W2 (P.take (n - 1))) (W2 ^ (n - 1)) (by rw [<- eD, <- eP]; exact hq) tP
 ·refine qJd _ _ (val W2 (D.take (n - 2))) _ (val W2 (P.take (n - 2))) (W2 ^ (n - 2)) ?_ tP2
  have f1 : (D[n - 1] * W2 + D[n - 2]) * W2 ^ (n - 2) + val W2 (D.take (n - 2)) = val W2 D := by
   rw [eD, sD, hX]; generalize W2 ^ (n - 2) = X; generalize D[n - 1] = d; generalize D[n - 2] = d'; generalize W2 = B
   grind
  have f2 : ((P[n] * W2 + P[n - 1]) * W2 + P[n - 2]) * W2 ^ (n - 2) + val W2 (P.take (n - 2)) = val W2 P := by
   rw [eP, sP, hX]; generalize W2 ^ (n - 2) = X; generalize P[n] = a; generalize P[n - 1] = b; generalize P[n - 2] = c; generalize W2 = B
   grind
  rw [f1, f2]; exact hq
theorem qJ2 (pb poff pc db doff dc n : Nat) (pn pn1 pn2 dn1 dn2 q : Nat) (w : World) (hn : 2 <= n) (hn2 : n <= 1048576) (hpc : n + 1 <= pc) (hpc2 : pc <= 9223372036854775807) (hdc : n <= dc) (hdc2 : dc <= 9223372036854775807)
 (c1 : w.cell? ⟨pb, poff + n, none⟩ = some (.int .u32 (pn : Int))) (c2 : w.cell? ⟨pb, poff + (n - 1), none⟩ = some (.int .u32 (pn1 : Int))) (c3 : w.cell? ⟨pb, poff + (n - 2), none⟩ = some (.int .u32 (pn2 : Int)))
 (c4 : w.cell? ⟨db, doff + (n - 1), none⟩ = some (.int .u32 (dn1 : Int))) (c5 : w.cell? ⟨db, doff + (n - 2), none⟩ = some (.int .u32 (dn2 : Int)))
 (l1 : pn < 4294967296) (l2 : pn1 < 4294967296) (hE : Est dn1 dn2 (pn * W2 + pn1) pn2 q) :
 Calls Try.prog 86 #[.slice (some ⟨pb, poff, none⟩) (n + 1) pc, .slice (some ⟨db, doff, none⟩) n dc] w fun e w' => ∃ Q d, e = .returned (.int .u64 (Q : Nat)) /\ q <= Q /\ Q < W2 /\ w' = w.drewN d := by
 have HE := hZ hE; have l3 := hE.h32; have l4 := hE.h31; have l5 := hE.d2l; have l6 := hE.p2l; unfold W2 at l3 l5 l6; have hor := qIV pn pn1 l1 l2; obtain ⟨top, ht⟩ := eX (pn * 4294967296 + pn1); rw [ht] at hor; have htl : top < 18446744073709551616 := by omega
 have Ht := hZ ht; have hne : ((dn1 : Int) == 0) = false := by simp; omega
 have i1 : (0 : Int) <= (n : Int) - 1 := by omega
 have i2 : (n : Int) - 1 < (n : Int) := by omega
 have i3 : ((n : Int) - 1).toNat = n - 1 := by omega
 have hw1 : IntKind.i64.wrap ((n : Int) - 1) = (n : Int) - 1 := IntWalk.i64_in _ (by omega); clear hE
 go_enter Try.func86, Try.ntmps86
 go_wp2_with fail
 go_quiet (fail)
 go_wp2_with fail
 obtain ⟨W1, hW1⟩ := eX (w.drewN nq); have e1 : W1.cell? ⟨pb, poff + (n - 2), none⟩ = some (.int .u32 (pn2 : Int)) := by rw [<- hW1]; exact c3
 have e2 : W1.cell? ⟨db, doff + (n - 2), none⟩ = some (.int .u32 (dn2 : Int)) := by rw [<- hW1]; exact c5
 have HW1 := hZ hW1; rw [hW1]; clear hW1 c1 c2 c3 c4 c5 hw1 i1 i2 i3 hor; have HI0 := hZ HE.o.start; rw [show pn * W2 + pn1 = top from Ht.o] at HI0 HE; obtain ⟨D0, hD0⟩ := eX (top / dn1); obtain ⟨R0, hR0⟩ := eX (top % dn1); rw [hD0, hR0] at HI0; have q1 : (top : Int) / (dn1 : Int) = (D0 : Int) := by rw [<- hD0, Int.natCast_ediv]
 have q2 : (top : Int) % (dn1 : Int) = (R0 : Int) := by rw [<- hR0, Int.natCast_emod]
 have q3 : (top : Int).tdiv (dn1 : Int) = (D0 : Int) := by rw [Int.tdiv_eq_ediv_of_nonneg (by omega), q1]
 have q4 : (top : Int).tmod (dn1 : Int) = (R0 : Int) := by rw [Int.tmod_eq_emod_of_nonneg (by omega), q2]
 have q5 : D0 <= 4294967297 := HI0.o.dl; have q6 : R0 < 4294967296 := HI0.o.rl; have q7 : IntKind.u64.wrap (D0 : Int) = (D0 : Int) := by rw [IntKind.wrap_u64]; omega
 clear hD0 hR0 ht
 go_quiet (fail)
 go_wp2_with fail
 clear q1 q2 q3 q4 q5 q6 q7
 go_loopw [8, 9] (fun dv rv wr => ∃ (D R d : Nat), dv = .int .u64 (D : Int) /\ rv = .int .u64 (R : Int) /\ Hid (qMl dn1 dn2 top pn2 q D R) /\ Hid (wr = W1.drewN d)) (fun dv _ _ => qIz dv)
 case atStart => exact ⟨D0, R0, nq, rfl, rfl, HI0, hZ rfl⟩
 case round =>
  obtain ⟨D, R, d, rfl, rfl, hI, hw⟩ := hrel; have e3 : wr.cell? ⟨pb, poff + (n - 2), none⟩ = some (.int .u32 (pn2 : Int)) := by rw [hw.o]; exact e1
  have e4 : wr.cell? ⟨db, doff + (n - 2), none⟩ = some (.int .u32 (dn2 : Int)) := by rw [hw.o]; exact e2
  have dl : D <= 4294967297 := hI.o.dl; have rl : R < 4294967296 := hI.o.rl; have i1 : (0 : Int) <= (n : Int) - 2 := by omega
  have i2 : (n : Int) - 2 < (n : Int) := by omega
  have i2' : (n : Int) - 2 < (n : Int) + 1 := by omega
  have i3 : ((n : Int) - 2).toNat = n - 2 := by omega
  have hw1 : IntKind.i64.wrap ((n : Int) - 2) = (n : Int) - 2 := IntWalk.i64_in _ (by omega); have hret : ∀ Q : Nat, q <= Q -> Q < 4294967296 -> ∀ d2, ∃ Q' d', Ending.returned (Value.int .u64 (Q : Int)) = .returned (.int .u64 ((Q' : Nat) : Int)) /\ q <= Q' /\ Q' < W2 /\ wr.drewN d2 = w.drewN d' := fun Q a b d2 =>
   ⟨Q, _, rfl, a, b, by rw [hw.o, <- HW1.o, World.drewN_drewN, World.drewN_drewN]⟩
  have Hret := hZ hret; clear hret; by_cases hbig : 4294967296 <= D
  ·have hl := hI.o.less HE.o (.inl hbig)
   have hg : decide (4294967295 < (D : Int)) = true := decide_eq_true (by omega); have Hl := hZ hl; have hDp := hl.1; clear hl; obtain ⟨D1, hD1⟩ := eX (D - 1); have hDI : (D : Int) - 1 = (D1 : Int) := by omega
   have hD1l : D1 < D := by omega
   have hD1m : D1 <= 4294967297 := by omega
   rw [hD1] at Hl; clear hD1; by_cases hov : R + dn1 <= 4294967295
   ·go_wp2_with fail
    go_quiet (fail)
    go_wp2_with fail
    go_roundw
    case rel => exact ⟨D1, R + dn1, _, rfl, by go_num, hZ ⟨Hl.o.2.2, Hl.o.2.1, hD1m, by unfold W2; omega⟩, hZ (by rw [hw.o, World.drewN_drewN])⟩
    case measure => simp [qIz]; omega
   ·have Hov := hZ (HE.o.over Hl.o.2.2 (by unfold W2; omega))
    go_wp2_with fail
    go_quiet (fail)
    go_wp2
    go_ret; exact Hret.o D1 Hl.o.2.1 Hov.o _
  ·have hg : decide (4294967295 < (D : Int)) = false := decide_eq_false (by omega)
   have hmm : D * dn2 <= 4294967295 * 4294967295 := Nat.mul_le_mul (by omega) (by omega); obtain ⟨M, hM⟩ := eX (D * dn2); have hMI : (D : Int) * (dn2 : Int) = (M : Int) := by rw [<- hM, Int.natCast_mul]
   rw [hM] at hmm; have hMw : IntKind.u64.wrap (M : Int) = (M : Int) := by rw [IntKind.wrap_u64]; omega
   have hor := qIV R pn2 rl l6; obtain ⟨N, hN⟩ := eX (R * 4294967296 + pn2); rw [hN] at hor; have hrw : IntKind.u64.wrap ((R : Int) * 4294967296) = (R : Int) * 4294967296 := by rw [IntKind.wrap_u64]; omega
   have hNl : N < 18446744073709551616 := by omega
   by_cases hgt : N < M
   ·have hl := hI.o.less HE.o (.inr ⟨by unfold W2; omega, by rw [hM]; unfold W2; omega⟩)
    have hgM : decide ((N : Int) < (M : Int)) = true := decide_eq_true (by omega); clear hN hM; have Hl := hZ hl; have hDp := hl.1; clear hl; obtain ⟨D1, hD1⟩ := eX (D - 1); have hDI : (D : Int) - 1 = (D1 : Int) := by omega
    have hD1l : D1 < D := by omega
    have hD1m : D1 <= 4294967297 := by omega
    rw [hD1] at Hl; clear hD1; by_cases hov : R + dn1 <= 4294967295
    ·go_wp2_with fail
     go_quiet (fail)
     go_wp2_with fail
     go_roundw
     case rel => exact ⟨D1, R + dn1, _, rfl, by go_num, hZ ⟨Hl.o.2.2, Hl.o.2.1, hD1m, by unfold W2; omega⟩, hZ (by rw [hw.o, World.drewN_drewN])⟩
     case measure => simp [qIz]; omega
    ·have Hov := hZ (HE.o.over Hl.o.2.2 (by unfold W2; omega))
     go_wp2_with fail
     go_quiet (fail)
     go_wp2
     go_ret; exact Hret.o D1 Hl.o.2.1 Hov.o _
   ·have hgM : decide ((N : Int) < (M : Int)) = false := decide_eq_false (by omega)
    have Hge := hZ hI.o.ge; clear hN hM
    go_wp2_with fail
    go_quiet (fail)
    go_wp2
    go_ret; exact Hret.o D Hge.o (by omega) _
theorem qLa (vp vd : Value) (P D : List Nat) (n : Nat) (w : World) (hp : qAd .u32 w vp P) (hd : qAd .u32 w vd D) (hP : P.length = n + 1) (hD : D.length = n) (hn : 2 <= n) (hn2 : n <= 1048576) (lP : Low W2 P) (lD : Low W2 D)
 (j1 : n - 1 < D.length) (h31 : 2147483648 <= D[n - 1]) (hlt : val W2 P < val W2 D * W2) :
 Calls Try.prog 86 #[vp, vd] w fun e w' => ∃ Q d, e = .returned (.int .u64 (Q : Nat)) /\ val W2 P / val W2 D <= Q /\ Q < W2 /\ w' = w.drewN d := by
 obtain ⟨pa, pc, rfl, p1, p2, hpc⟩ := hp; obtain ⟨da, dc, rfl, d1, d2, hdc⟩ := hd; obtain ⟨pb, poff, rfl, _, hpcc⟩ := hpc (by omega); obtain ⟨db, doff, rfl, _, hdcc⟩ := hdc (by omega); have i0 : n < P.length := by omega
 have i1 : n - 1 < P.length := by omega
 have i2 : n - 2 < P.length := by omega
 have j2 : n - 2 < D.length := by omega
 have hE := qL4 P D n hP hD hn lP lD i0 i1 i2 j1 j2 h31 hlt; have key := qJ2 pb poff pc db doff dc n P[n] P[n - 1] P[n - 2] D[n - 1] D[n - 2] (val W2 P / val W2 D) w hn hn2 (by omega) p2 (by omega) d2 (hpcc n i0) (hpcc (n - 1) i1) (hpcc (n - 2) i2) (hdcc (n - 1) j1) (hdcc (n - 2) j2) (lP _ (List.getElem_mem _)) (lP _ (List.getElem_mem _)) hE; rw [<- hP] at key; rw [hD] at *; exact key
open Go.RowKit
theorem qKV (A P C : List Nat) (i : Nat) (h : i < P.length) (h' : A.length + i < (A ++ P ++ C).length) : (A ++ P ++ C)[A.length + i] = P[i] := by
 rw [List.getElem_append_left (by rw [List.length_append]; omega), List.getElem_append_right (by omega)]
 congr 1
 omega
theorem qKU (A P C : List Nat) (i x : Nat) (h : i < P.length) : (A ++ P ++ C).set (A.length + i) x = A ++ P.set i x ++ C := by
 rw [List.set_append_left _ _ (by rw [List.length_append]; omega), List.set_append_right _ _ (by omega), Nat.add_sub_cancel_left]
section
variable {w : World} {g : Nat} {A P C : List Nat}
theorem Blk.mid (h : Blk w g 88 .u32 (A ++ P ++ C)) (i : Nat) (hi : i < P.length) : w.cell? ⟨g, A.length + i, none⟩ = some (.int .u32 (P[i] : Int)) := by
 have hl : A.length + i < (A ++ P ++ C).length := by rw [List.length_append, List.length_append]; omega
 have := h.cell (A.length + i) hl; rw [qKV A P C i hi hl] at this; exact this
theorem Blk.midset (h : Blk w g 88 .u32 (A ++ P ++ C)) (i x : Nat) (hi : i < P.length) : Blk (w.setCell ⟨g, A.length + i, none⟩ (.int .u32 (x : Int))) g 88 .u32 (A ++ P.set i x ++ C) := by
 have := h.set (A.length + i) x; rw [qKU A P C i x hi] at this; exact this
end
theorem qJ9 (t : Nat) (h : t < 18446744073709551616) : bits BinOp.and IntKind.u64 (t : Int) 4294967295 = ((t % 4294967296 : Nat) : Int) := by
 have h1 := u64_and_nat t 4294967295 h (by omega); have h2 : t &&& 4294967295 = t % 4294967296 := Nat.and_two_pow_sub_one_eq_mod t 32; rw [h2] at h1; exact h1
theorem qHt (p lo b : Nat) (hp : p < 4294967296) (hlo : lo < 4294967296) (hb : b <= 1) (T D : Int) (hT : T = ((p : Int) - lo) % 18446744073709551616) (hD : D = (T - b) % 18446744073709551616) :
 D % 4294967296 = (dif p lo b : Int) /\ D / 9223372036854775808 = (brw p lo b : Int) := qHP p lo b hp hlo hb T D hT hD
def qJn (g n Q : Nat) (A Pt C D : List Nat) (w : World) (e : Ending) (w' : World) : Prop :=
 ∃ Pt' f, e = .returned (.bool (decide (f = 1))) /\ Blk w' g 88 .u32 (A ++ Pt' ++ C) /\ Pt'.length = n + 1 /\ Low W2 Pt' /\ f <= 1 /\ val W2 Pt' + Q * val W2 D = val W2 Pt + f * W2 ^ (n + 1) /\ qAc (fun k => k = g) w w'
theorem qFa (g at_ pc db doff dc n Q : Nat) (A Pt C D : List Nat) (w : World) (hA : A.length = at_) (hP : Pt.length = n + 1) (hD : D.length = n) (hn2 : n <= 1048576) (hat : at_ <= 1048576) (hpc : n + 1 <= pc) (hpc2 : pc <= 9223372036854775807) (hdc : n <= dc) (hdc2 : dc <= 9223372036854775807) (hQ : Q < 4294967296)
 (hblk : Blk w g 88 .u32 (A ++ Pt ++ C)) (lP : Low W2 Pt) (lD : Low W2 D) (hdg : db ≠ g) (hdb : db < w.heap.size) (hdcc : ∀ j (h : j < D.length), w.cell? ⟨db, doff + j, none⟩ = some (.int .u32 (D[j] : Int))) :
 Calls Try.prog 87 #[.slice (some ⟨g, at_, none⟩) (n + 1) pc, .slice (some ⟨db, doff, none⟩) n dc, .int .u64 (Q : Int)] w (qJn g n Q A Pt C D w) := by
 have HB := hZ hblk; have HlD := hZ lD; have Hdc := hZ hdcc; have HA := hZ hA; have HP := hZ hP; have HD := hZ hD; have HI0 := hZ (qKb.start Pt D Q lP); clear hblk lP lD hdcc hA hP hD
 go_enter Try.func87, Try.ntmps87
 go_wp2_with fail
 go_loopw [8, 9, 18] (fun cv bv iv' wr => ∃ (i c b : Nat) (L : List Nat), i <= n /\ cv = .int .u64 (c : Int) /\ bv = .int .u64 (b : Int) /\ iv' = .int .i64 (i : Int) /\ Hid (qKb Pt D Q i c b L) /\ Hid (Blk wr g 88 .u32 (A ++ L ++ C)) /\ Hid (qAc (fun k => k = g) w wr)) (fun _ _ v _ => n - (intOf v).toNat)
 case atStart => exact ⟨0, 0, 0, Pt, by omega, rfl, rfl, rfl, HI0, HB, hZ (qAc.refl _ _)⟩
 case round =>
  obtain ⟨i, c, b, L, hi, rfl, rfl, rfl, hI, hbl, hO⟩ := hrel; have cl : c < 4294967296 := hI.o.cl; have bl : b <= 1 := hI.o.bl; have hLl : L.length = n + 1 := by rw [hI.o.len, HP.o]
  by_cases hlt : i < n
  ·have hd : i < D.length := by rw [HD.o]; exact hlt
   have hp : i < Pt.length := by rw [HP.o]; omega
   have hl : i < L.length := by omega
   obtain ⟨hN, hLi, ht⟩ := hI.o.next hl hd hQ HlD.o hp; have HN := hZ hN; have c1 := (hO.o.cell (p := ⟨db, doff + i, none⟩) hdg hdb).trans (Hdc.o i hd); have c2 := hbl.o.mid i hl; rw [HA.o, hLi] at c2; have f2 := hbl.o.frozen (at_ + i); have hwl : D[i] < 4294967296 := HlD.o _ (List.getElem_mem hd); have hpl : Pt[i] < 4294967296 := by rw [<- hLi]; exact hI.o.low _ (List.getElem_mem hl)
   have Hset := hZ (fun (W : World) (x : Nat) (hW : Blk W g 88 .u32 (A ++ L ++ C)) => hW.midset i x hl); rw [HA.o] at Hset; generalize D[i] = wd at *; generalize Pt[i] = pp at *; have hmm : Q * wd <= 4294967295 * 4294967295 := Nat.mul_le_mul (by omega) (by omega); obtain ⟨M, hM⟩ := eX (Q * wd); have hMI : (Q : Int) * (wd : Int) = (M : Int) := by rw [<- hM, Int.natCast_mul]
   rw [hM] at hmm ht HN; obtain ⟨t, htt⟩ := eX (c + M); rw [htt] at ht HN; have htI : (c : Int) + (M : Int) = (t : Int) := by omega
   have hand := qJ9 t ht; obtain ⟨lo, hlo⟩ := eX (t % 4294967296); have hlo' : t % W2 = lo := hlo; rw [hlo] at hand; rw [hlo'] at HN; have hlol : lo < 4294967296 := by omega
   obtain ⟨c', hc'⟩ : ∃ c', t / 4294967296 = c' := ⟨_, rfl⟩; have hc'' : t / W2 = c' := hc'; rw [hc''] at HN; have hcI : (t : Int) / 4294967296 = (c' : Int) := by omega
   obtain ⟨T, hT⟩ : ∃ T : Int, T = ((pp : Int) - lo) % 18446744073709551616 := ⟨_, rfl⟩; obtain ⟨E, hE⟩ : ∃ E : Int, E = (T - b) % 18446744073709551616 := ⟨_, rfl⟩; have hdw := hZ (qHt pp lo b hpl hlol bl T E hT hE); have b1 : IntKind.u64.wrap ((pp : Int) - lo) = T := by rw [hT, IntKind.wrap_u64]
   have b2 : IntKind.u64.wrap (T - b) = E := by rw [hE, IntKind.wrap_u64]
   have hT0 : 0 <= T := by omega
   have hT1 : T <= 18446744073709551615 := by omega
   have hE0 : 0 <= E := by omega
   have hE1 : E <= 18446744073709551615 := by omega
   clear hT hE hM htt hlo hlo' hc' hc'' hN hLi
   go_wp2_with fail
   go_roundw
   case rel =>
    rw [hdw.o.1, hdw.o.2]; exact ⟨i + 1, c', brw pp lo b, L.set i (dif pp lo b), by omega, rfl, rfl, by go_num, HN, hZ (Hset.o wr _ hbl.o), hZ (hO.o.set (p := ⟨g, at_ + i, none⟩) rfl _)⟩
   case measure => simp [intOf]; omega
  ·obtain rfl : i = n := by omega
   have hp : i < Pt.length := by rw [HP.o]; omega
   have hl : i < L.length := by omega
   have hLi : L[i] = Pt[i] := by
    have h1 := hI.o.rest; rw [List.drop_eq_getElem_cons hl, List.drop_eq_getElem_cons hp] at h1; exact (List.cons.inj h1).1
   have c2 := hbl.o.mid i hl; rw [HA.o, hLi] at c2; have f2 := hbl.o.frozen (at_ + i); have hpl : Pt[i] < 4294967296 := by rw [<- hLi]; exact hI.o.low _ (List.getElem_mem hl)
   have Hset := hZ (fun (W : World) (x : Nat) (hW : Blk W g 88 .u32 (A ++ L ++ C)) => hW.midset i x hl); rw [HA.o] at Hset; have Hlast := hZ (fun x f hx => hI.o.last HD.o HP.o hp x f hx); have Hlow := hZ hI.o.low; generalize Pt[i] = pp at *; obtain ⟨T, hT⟩ : ∃ T : Int, T = ((pp : Int) - c) % 18446744073709551616 := ⟨_, rfl⟩; obtain ⟨E, hE⟩ : ∃ E : Int, E = (T - b) % 18446744073709551616 := ⟨_, rfl⟩; have hdw0 := qHt pp c b hpl cl bl T E hT hE; have b1 : IntKind.u64.wrap ((pp : Int) - c) = T := by rw [hT, IntKind.wrap_u64]
   have b2 : IntKind.u64.wrap (T - b) = E := by rw [hE, IntKind.wrap_u64]
   have hT0 : 0 <= T := by omega
   have hT1 : T <= 18446744073709551615 := by omega
   have hE0 : 0 <= E := by omega
   have hE1 : E <= 18446744073709551615 := by omega
   have hfe := qJe pp c b cl bl; have hdl : dif pp c b < W2 := qHQ pp c b hpl bl; have hf1 := qH1 pp c b; obtain ⟨f, hf⟩ := eX (brw pp c b); obtain ⟨x, hx⟩ := eX (dif pp c b); rw [hf, hx] at hdw0; rw [hx] at hdl hfe; rw [hf] at hf1 hfe; have hq1 := hdw0.1; have hq2 := hdw0.2; have Hv := hZ (Hlast.o x f (by omega)); have hres : ∀ W : World, W = wr.setCell ⟨g, at_ + i, none⟩ (.int .u32 (x : Int)) -> qJn g i Q A Pt C D w (.returned (.bool (decide (f = 1)))) W := by
    rintro W rfl; exact ⟨L.set i x, f, rfl, Hset.o wr x hbl.o, by rw [List.length_set]; exact hLl, qAP Hlow.o _ _ hdl, hf1, Hv.o, hO.o.set (p := ⟨g, at_ + i, none⟩) rfl _⟩
   have Hres := hZ hres; clear hT hE hf hx hfe hdw0 hLi hres; rcases (show f = 0 \/ f = 1 by omega) with rfl | rfl
   ·have hq3 : E / 9223372036854775808 = 0 := hq2
    clear hq2
    go_wp2_with fail
    go_ret; exact Hres.o _ rfl
   ·have hq3 : E / 9223372036854775808 = 1 := hq2
    clear hq2
    go_wp2_with fail
    go_ret; exact Hres.o _ rfl
open Go.RowKit
theorem qFX (i n at_ g cb sb c x pc : Nat) (A P C : List Nat) (w : World) (hA : A.length = at_) (hP : P.length = n + 1) (hi : i < P.length) (hn : n <= 1048576) (hat : at_ <= 1048576) (hpc : n + 1 <= pc) (hpc2 : pc <= 9223372036854775807) (hblk : Blk w g 88 .u32 (A ++ P ++ C)) (hcb : One w cb 85 (.int .u64 (c : Int))) (hsb : One w sb 56 (.slice (some ⟨g, at_, none⟩) (n + 1) pc))
 (h1 : cb ≠ g) (h2 : sb ≠ g) (h3 : sb ≠ cb) (hc : c <= 1) (hx : x < 4294967296) (hlow : Low W2 P) :
 Calls Try.prog 103 #[.int .i64 (i : Int), .int .u32 (x : Int), .pointer (some ⟨cb, 0, none⟩), .pointer (some ⟨sb, 0, none⟩)] w fun e w' => (∃ v, e = .returned v) /\
  Blk w' g 88 .u32 (A ++ P.set i ((c + (P[i] + x)) % W2) ++ C) /\ One w' cb 85 (.int .u64 (((c + (P[i] + x)) / W2 : Nat) : Int)) /\ One w' sb 56 (.slice (some ⟨g, at_, none⟩) (n + 1) pc) /\ qAc (fun k => k = g \/ k = cb) w w' := by
 have Hblk := hZ hblk; have Hcb := hZ hcb; have Hsb := hZ hsb; have e1 := hblk.mid i hi; rw [hA] at e1; have e2 := hblk.frozen (at_ + i); have e3 := hcb.cell; have e4 := hcb.frozen; have e5 := hsb.cell; have hs : P[i] < 4294967296 := hlow _ (List.getElem_mem hi); have Hset := hZ (fun (W : World) (y : Nat) (hW : Blk W g 88 .u32 (A ++ P ++ C)) => hW.midset i y hi); rw [hA] at Hset; have hi2 : i < n + 1 := by omega
 clear hblk hcb hsb hlow hA hP; generalize hS : P[i] = s at *; clear hS; have b1 : IntKind.u64.wrap ((s : Int) + x) = (s : Int) + x := IntWalk.u64_in _ (by omega); have b2 : IntKind.u64.wrap ((c : Int) + ((s : Int) + x)) = (c : Int) + ((s : Int) + x) := IntWalk.u64_in _ (by omega)
 go_enter Try.func103, Try.ntmps103
 go_wp2
 go_region
 go_wp2
 go_end0
 have hr : (((c + (s + x)) % W2 : Nat) : Int) = ((c : Int) + ((s : Int) + x)) % 4294967296 := by simp
 have hq : (((c + (s + x)) / W2 : Nat) : Int) = ((c : Int) + ((s : Int) + x)) / 4294967296 := by simp
 rw [<- hr, <- hq]; refine ⟨⟨_, rfl⟩, ?_, ?_, ?_, ?_⟩
 ·first | exact ((Hset.o _ ((c + (s + x)) % W2) (Hblk.o.far (p := ⟨cb, 0, none⟩) (Ne.symm h1) _)).far (p := ⟨cb, 0, none⟩) (Ne.symm h1) _).drew | (rw [<- List.append_assoc]; exact ((Hset.o _ ((c + (s + x)) % W2) (Hblk.o.far (p := ⟨cb, 0, none⟩) (Ne.symm h1) _)).far (p := ⟨cb, 0, none⟩) (Ne.symm h1) _).drew)
 ·exact ((((Hcb.o.set _).far (p := ⟨g, at_ + i, none⟩) h1 _).set _)).drew
 ·exact (((Hsb.o.far (p := ⟨cb, 0, none⟩) h3 _).far (p := ⟨g, at_ + i, none⟩) h2 _).far (p := ⟨cb, 0, none⟩) h3 _).drew
 ·exact ((((qAc.refl _ w).set (p := ⟨cb, 0, none⟩) (Or.inr rfl) _).set (p := ⟨g, at_ + i, none⟩) (Or.inl rfl) _).set (p := ⟨cb, 0, none⟩) (Or.inr rfl) _).drew
structure qFF (P D : List Nat) (i c : Nat) (L : List Nat) : Prop where
 len : L.length = P.length
 low : Low W2 L
 cl : c <= 1
 eq : val W2 L + c * W2 ^ i = val W2 P + val W2 (D.take i)
theorem qFF.start (P D : List Nat) (hP : Low W2 P) : qFF P D 0 0 P := ⟨rfl, hP, by omega, by simp [val]⟩
theorem qHZ (c s x : Nat) (hc : c <= 1) (hs : s < W2) (hx : x < W2) : (c + (s + x)) / W2 <= 1 := by
 have : (c + (s + x)) / W2 < 2 := (Nat.div_lt_iff_lt_mul (by decide)).2 (by unfold W2 at *; omega); omega
theorem qFF.next {P D : List Nat} {i c : Nat} {L : List Nat} (h : qFF P D i c L) (hl : i < L.length) (hd : i < D.length) (lD : Low W2 D) :
 qFF P D (i + 1) ((c + (L[i] + D[i])) / W2) (L.set i ((c + (L[i] + D[i])) % W2)) := by
 refine ⟨by rw [List.length_set]; exact h.len, qAP h.low _ _ (Nat.mod_lt _ (by decide)), qHZ _ _ _ h.cl (h.low _ (List.getElem_mem hl)) (lD _ (List.getElem_mem hd)), ?_⟩; rw [qCy L i c D[i] hl, qAf W2 D i hd, Nat.add_mul]; have := h.eq; omega
theorem qFF.last {P D : List Nat} {n c : Nat} {L : List Nat} (h : qFF P D n c L) (hl : n < L.length) (hD : D.length = n) :
 val W2 (L.set n ((c + (L[n] + 0)) % W2)) + (c + (L[n] + 0)) / W2 * W2 ^ (n + 1) = val W2 P + val W2 D := by
 rw [qCy L n c 0 hl, Nat.add_zero]; have := h.eq; rw [List.take_of_length_le (by omega)] at this; exact this
def qKd (g n : Nat) (A Pt C D : List Nat) (w : World) (e : Ending) (w' : World) : Prop :=
 ∃ Pt' f, e = .returned (.bool (decide (f = 1))) /\ Blk w' g 88 .u32 (A ++ Pt' ++ C) /\ Pt'.length = n + 1 /\ Low W2 Pt' /\ f <= 1 /\ val W2 Pt' + f * W2 ^ (n + 1) = val W2 Pt + val W2 D /\ qAc (fun k => k = g) w w'
theorem qFY (g at_ pc db doff dc n : Nat) (A Pt C D : List Nat) (w : World) (hA : A.length = at_) (hP : Pt.length = n + 1) (hD : D.length = n) (hn2 : n <= 1048576) (hat : at_ <= 1048576) (hpc : n + 1 <= pc) (hpc2 : pc <= 9223372036854775807) (hdc : n <= dc) (hdc2 : dc <= 9223372036854775807)
 (hblk : Blk w g 88 .u32 (A ++ Pt ++ C)) (lP : Low W2 Pt) (lD : Low W2 D) (hdg : db ≠ g) (hdb : db < w.heap.size) (hdcc : ∀ j (h : j < D.length), w.cell? ⟨db, doff + j, none⟩ = some (.int .u32 (D[j] : Int))) :
 Calls Try.prog 88 #[.slice (some ⟨g, at_, none⟩) (n + 1) pc, .slice (some ⟨db, doff, none⟩) n dc] w (qKd g n A Pt C D w) := by
 have HB := hZ hblk; have HlD := hZ lD; have Hdc := hZ hdcc; have HA := hZ hA; have HP := hZ hP; have HD := hZ hD; have HI0 := hZ (qFF.start Pt D lP); have hgl := hblk.lt; clear hblk lP lD hdcc hA hP hD; obtain ⟨sb, hsb⟩ := eX w.heap.size; have Hsb := hZ hsb; obtain ⟨w4, hw4⟩ := eX ((w.alloc (.cells #[.slice (some ⟨g, at_, none⟩) (n + 1) pc] 56)).alloc (.cells #[.int .u64 0] 85)); have hcb0 := One.new (w.alloc (.cells #[.slice (some ⟨g, at_, none⟩) (n + 1) pc] 56)) 85 (.int .u64 0); have hsb0 := (One.new w 56 (.slice (some ⟨g, at_, none⟩) (n + 1) pc)).alloc (.cells #[.int .u64 0] 85); rw [World.size_alloc, hsb, hw4] at hcb0; rw [hsb, hw4] at hsb0; have Hb4 := hZ ((HB.o.alloc (.cells #[.slice (some ⟨g, at_, none⟩) (n + 1) pc] 56)).alloc (.cells #[.int .u64 0] 85)); have HO4 : Hid (qAc (fun k => k = g \/ k = sb + 1) w w4) := hZ (by rw [<- hw4]; exact qAc.of_below (((Below.refl w.heap.size w).alloc (Nat.le_refl _) _).alloc (by simp) _)); rw [hw4] at Hb4; have Hcb4 := hZ hcb0; have Hsb4 := hZ hsb0; have hgs : g < sb := by omega
 have hds : db < sb := by omega
 clear hcb0 hsb0
 go_enter Try.func88, Try.ntmps88
 go_wp2_with fail
 clear hw4 hsb
 go_loopw [15] (fun i wr => ∃ (k c : Nat) (L : List Nat), k <= n /\ i = .int .i64 k /\ Hid (qFF Pt D k c L) /\ Hid (Blk wr g 88 .u32 (A ++ L ++ C)) /\ Hid (One wr (sb + 1) 85 (.int .u64 (c : Int))) /\ Hid (One wr sb 56 (.slice (some ⟨g, at_, none⟩) (n + 1) pc)) /\ Hid (qAc (fun k => k = g \/ k = sb + 1) w wr)) (fun i _ => n - (intOf i).toNat)
 case atStart => exact ⟨0, 0, Pt, by omega, rfl, HI0, Hb4, Hcb4, Hsb4, HO4⟩
 case round =>
  obtain ⟨k, c, L, hk, rfl, hI, hbl, hcb, hsb, hO⟩ := hrel; have hLl : L.length = n + 1 := by rw [hI.o.len, HP.o]
  have hc1 := hI.o.cl; by_cases hlt : k < n
  ·have hd : k < D.length := by rw [HD.o]; exact hlt
   have hl : k < L.length := by omega
   have c1 := (hO.o.cell (p := ⟨db, doff + k, none⟩) (by show ¬ (db = g \/ db = sb + 1); omega) (by show db < w.heap.size; exact hdb)).trans (Hdc.o k hd); have hyl : D[k] < 4294967296 := HlD.o _ (List.getElem_mem hd); have Hnext := hZ (hI.o.next hl hd HlD.o); have Hp := hZ (qFX k n at_ g (sb + 1) sb c D[k] pc A L C wr HA.o hLl hl hn2 hat hpc hpc2 hbl.o hcb.o hsb.o (by omega) (by omega) (by omega) hc1 hyl hI.o.low); generalize D[k] = y at *
   go_wp2_with (go_at_call 103; refine Hp.o.mono ?_; rintro e w5 ⟨⟨v5, rfl⟩, q1, q2, q3, q4⟩; have Q1 := hZ q1; have Q2 := hZ q2; have Q3 := hZ q3; have Q4 := hZ q4; clear q1 q2 q3 q4)
   go_roundw
   case rel => exact ⟨k + 1, _, _, by omega, by go_num, Hnext, Q1, Q2, Q3, hZ (hO.o.trans Q4.o)⟩
   case measure => simp [intOf]; omega
  ·obtain rfl : k = n := by omega
   have hl : k < L.length := by omega
   have Hlast := hZ (hI.o.last hl HD.o); have Hp := hZ (qFX k k at_ g (sb + 1) sb c 0 pc A L C wr HA.o hLl hl hn2 hat hpc hpc2 hbl.o hcb.o hsb.o (by omega) (by omega) (by omega) hc1 (by omega) hI.o.low); have Hcl := hZ (qHZ c L[k] 0 hc1 (hI.o.low _ (List.getElem_mem hl)) (by decide)); have Hlow := hZ (qAP hI.o.low k ((c + (L[k] + 0)) % W2) (Nat.mod_lt _ (by decide))); clear hlt; obtain ⟨f, hf⟩ := eX ((c + (L[k] + 0)) / W2); obtain ⟨x, hx⟩ := eX ((c + (L[k] + 0)) % W2); rw [hf, hx] at Hlast Hp; rw [hf] at Hcl; rw [hx] at Hlow; clear hf hx
   go_wp2_with (go_at_call 103; refine Hp.o.mono ?_; rintro e w5 ⟨⟨v5, rfl⟩, q1, q2, q3, q4⟩; have Q1 := hZ q1; have Q2 := hZ q2; have Q3 := hZ q3; have Q4 := hZ q4; have qc := q2.cell; clear q1 q2 q3 q4)
   go_ret; have hf1 := Hcl.o; refine ⟨L.set k x, f, ?_, Q1.o, by rw [List.length_set]; exact hLl, Hlow.o, hf1, Hlast.o, ?_⟩
   ·have : decide (0 < f) = decide (f = 1) := decide_eq_decide.2 (by omega)
    rw [<- this]; rfl
   ·have hO2 := hO.o.trans Q4.o
    exact ⟨hO2.os, hO2.tape, hO2.output, hO2.size, fun b hb hne => hO2.block b hb (fun h => by
     rcases h with h | h
     ·exact hne h
     ·have := Hsb.o; omega)⟩
open Go.RowKit
theorem qHs (y : Nat) (h : y < 256) : ∀ h', (Lib.len8tab[y]'h').toNat = Lib.bitLen y := by
 intro h'; have e := Lib.len8_eq ⟨y, h⟩; unfold Lib.len8 at e; simp only [Int.toNat_natCast] at e; have e2 : Lib.len8tab[y]? = some (Lib.len8tab[y]'h') := by simp [h']
 rw [e2] at e; exact Int.ofNat.inj e
theorem qJB : Lib.len8tab.size = 256 := by decide +kernel
theorem qI3 (x : Nat) (w : World) (h1 : x < 4294967296) :
 Calls Try.prog 102 #[.int .u32 (x : Int)] w fun e w' => e = .returned (.int .i64 (Lib.bitLen x)) /\ w' = w := by
 have hs := qJB; by_cases h2 : x < 65536
 ·have g2 : ¬ (65536 <= (x : Int)) := by omega
  by_cases h3 : x < 256
  ·have g3 : ¬ (256 <= (x : Int)) := by omega
   have hy : x < 256 := h3; have Hb : Hid True := hZ trivial; have hyl : Lib.bitLen x <= 8 := Lib.bitLen_le8 ⟨x, hy⟩; have htab := qHs x hy; generalize Lib.bitLen x = L at *
   go_enter Try.func102, Try.ntmps102
   go_wp2
   go_ret; refine ⟨?_, rfl⟩
   first | rfl | (rw [Hb.o]; rfl)
  ·have g3 : 256 <= (x : Int) := by omega
   obtain ⟨y, hyx⟩ := eX (x / 256); have Hb : Hid (Lib.bitLen x = 8 + Lib.bitLen y) := hZ (by rw [<- hyx]; exact Lib.bitLen_shift8 x (by omega) (by omega)); have hy : y < 256 := by omega
   have hq : (x : Int) / 256 = (y : Int) := by omega
   clear hyx; have hyl : Lib.bitLen y <= 8 := Lib.bitLen_le8 ⟨y, hy⟩; have htab := qHs y hy; generalize Lib.bitLen y = L at *
   go_enter Try.func102, Try.ntmps102
   go_wp2
   go_ret; refine ⟨?_, rfl⟩
   first | rfl | (rw [Hb.o]; rfl)
 ·have g2 : 65536 <= (x : Int) := by omega
  obtain ⟨u, hu⟩ := eX (x / 65536); have hqu : (x : Int) / 65536 = (u : Int) := by omega
  have hul : u < 65536 := by omega
  have hb16 := Lib.bitLen_shift16 x (by omega) (by omega); rw [hu] at hb16; by_cases h3 : u < 256
  ·have g3 : ¬ (256 <= (u : Int)) := by omega
   have Hb : Hid (Lib.bitLen x = 16 + Lib.bitLen u) := hZ hb16; have hy : u < 256 := h3; clear hu hb16; have hyl : Lib.bitLen u <= 8 := Lib.bitLen_le8 ⟨u, hy⟩; have htab := qHs u hy; generalize Lib.bitLen u = L at *
   go_enter Try.func102, Try.ntmps102
   go_wp2
   go_ret; refine ⟨?_, rfl⟩
   first | rfl | (rw [Hb.o]; rfl)
  ·have g3 : 256 <= (u : Int) := by omega
   obtain ⟨y, hyx⟩ := eX (u / 256); have hb8 := Lib.bitLen_shift8 u (by omega) (by omega); rw [hyx] at hb8; have Hb : Hid (Lib.bitLen x = 24 + Lib.bitLen y) := hZ (by omega); have hy : y < 256 := by omega
   have hq : (u : Int) / 256 = (y : Int) := by omega
   clear hyx hu hb16 hb8; have hyl : Lib.bitLen y <= 8 := Lib.bitLen_le8 ⟨y, hy⟩; have htab := qHs y hy; generalize Lib.bitLen y = L at *
   go_enter Try.func102, Try.ntmps102
   go_wp2
   go_ret; refine ⟨?_, rfl⟩
   first | rfl | (rw [Hb.o]; rfl)
theorem qH2 (x : Nat) (h : x < 4294967296) : Lib.bitLen x <= 32 := Lib.bitLen_le x 32 (by omega) h
theorem qJQ (x : Nat) (w : World) (h1 : x < 4294967296) :
 Calls Try.prog 84 #[.int .u32 (x : Int)] w fun e w' => e = .returned (.int .i64 ((32 - Lib.bitLen x : Nat) : Int)) /\ w' = w := by
 have hl := qH2 x h1; have H := hZ (qI3 x w h1); generalize Lib.bitLen x = L at *
 go_enter Try.func84, Try.ntmps84
 go_wp2_with fail
 refine H.o.mono ?_; rintro e w' ⟨rfl, rfl⟩
 go_wp2
 go_ret; refine ⟨?_, rfl⟩; have e : (32 : Int) - (L : Int) = ((32 - L : Nat) : Int) := by omega
 rw [<- e]; rfl
end Go.Proofs.Ytlmbebbdamgfpaa
