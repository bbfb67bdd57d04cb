/- wide: estimate. -/
import Derived.Test.YtgfgjnkndfgdiaaDoorWKnuth
import Derived.IntWalk
set_option linter.unusedVariables false
set_option linter.unusedSimpArgs false
namespace Go.Proofs.YtgfgjnkndfgdiaaDoor
open Go.RowKit

theorem pow_pred (n : Nat) (h : 1 ≤ n) : W2 ^ n = W2 * W2 ^ (n - 1) := by
  obtain ⟨m, rfl⟩ : ∃ m, n = m + 1 := ⟨n - 1, by omega⟩
  rw [Nat.add_sub_cancel, Nat.pow_succ, Nat.mul_comm]

theorem val_top2 (P : List Nat) (n : Nat) (hP : P.length = n + 1) (hn : 1 ≤ n) (h0 : n < P.length) (h1 : n - 1 < P.length) : val W2 P = (P[n] * W2 + P[n - 1]) * W2 ^ (n - 1) + val W2 (P.take (n - 1)) := by
  have e1 : val W2 P = val W2 (P.take n) + P[n] * W2 ^ n := by rw [← val_take_succ W2 P n h0, List.take_of_length_le (by omega)]
  have e2 := val_take_succ W2 P (n - 1) h1
  rw [show n - 1 + 1 = n by omega] at e2
  rw [e1, e2, pow_pred n hn]
  generalize W2 ^ (n - 1) = X
  generalize P[n] = a
  generalize P[n - 1] = b
  generalize val W2 (P.take (n - 1)) = c
  generalize W2 = B
  grind

theorem val_top1 (D : List Nat) (n : Nat) (hD : D.length = n) (hn : 1 ≤ n) (h1 : n - 1 < D.length) : val W2 D = D[n - 1] * W2 ^ (n - 1) + val W2 (D.take (n - 1)) := by
  have e2 := val_take_succ W2 D (n - 1) h1
  rw [show n - 1 + 1 = n by omega, List.take_of_length_le (by omega)] at e2
  rw [e2]
  omega

theorem take_val_lt (P : List Nat) (k : Nat) (hP : Low W2 P) (hk : k ≤ P.length) : val W2 (P.take k) < W2 ^ k := by
  have := val_lt W2 (by decide) (P.take k) (low_take hP k)
  rwa [List.length_take, Nat.min_eq_left hk] at this

theorem est_of (P D : List Nat) (n : Nat) (hP : P.length = n + 1) (hD : D.length = n) (hn : 2 ≤ n) (lP : Low W2 P) (lD : Low W2 D) (i0 : n < P.length) (i1 : n - 1 < P.length) (i2 : n - 2 < P.length) (j1 : n - 1 < D.length) (j2 : n - 2 < D.length)
    (h31 : 2147483648 ≤ D[n - 1]) (hlt : val W2 P < val W2 D * W2) :
    Est D[n - 1] D[n - 2] (P[n] * W2 + P[n - 1]) P[n - 2] (val W2 P / val W2 D) := by
  have eP := val_top2 P n hP (by omega) i0 i1
  have eD := val_top1 D n hD (by omega) j1
  have tP := take_val_lt P (n - 1) lP (by omega)
  have tD := take_val_lt D (n - 1) lD (by omega)
  have tP2 := take_val_lt P (n - 2) lP (by omega)
  have hh : D[n - 1] < W2 := lD _ (List.getElem_mem _)
  have hq := Nat.div_mul_le_self (val W2 P) (val W2 D)
  have sP := val_take_succ W2 P (n - 2) i2
  have sD := val_take_succ W2 D (n - 2) j2
  rw [show n - 2 + 1 = n - 1 by omega] at sP sD
  have hX : W2 ^ (n - 1) = W2 * W2 ^ (n - 2) := by rw [pow_pred (n - 1) (by omega), Nat.sub_sub]
  have hXp : 0 < W2 ^ (n - 1) := Nat.pow_pos (by decide)
  refine ⟨h31, hh, lD _ (List.getElem_mem _), lP _ (List.getElem_mem _), ?_, ?_, ?_, ?_⟩
  · have h1 : (P[n] * W2 + P[n - 1]) * W2 ^ (n - 1) < (D[n - 1] * W2 + W2) * W2 ^ (n - 1) := by
      have h2 : val W2 D < (D[n - 1] + 1) * W2 ^ (n - 1) := by rw [eD, Nat.add_mul, Nat.one_mul]; omega
      have h3 : val W2 D * W2 < (D[n - 1] + 1) * W2 ^ (n - 1) * W2 := Nat.mul_lt_mul_of_pos_right h2 (by decide)
      have h4 : (D[n - 1] + 1) * W2 ^ (n - 1) * W2 = (D[n - 1] * W2 + W2) * W2 ^ (n - 1) := by
        generalize W2 ^ (n - 1) = X
        generalize D[n - 1] = d
        generalize W2 = B
        grind
      omega
    exact Nat.lt_of_mul_lt_mul_right h1
  · refine Nat.div_lt_of_lt_mul ?_
    exact hlt
  · exact div_low _ _ (val W2 (D.take (n - 1))) _ (val W2 (P.take (n - 1))) (W2 ^ (n - 1)) (by rw [← eD, ← eP]; exact hq) tP
  · refine div_low _ _ (val W2 (D.take (n - 2))) _ (val W2 (P.take (n - 2))) (W2 ^ (n - 2)) ?_ tP2
    have f1 : (D[n - 1] * W2 + D[n - 2]) * W2 ^ (n - 2) + val W2 (D.take (n - 2)) = val W2 D := by
      rw [eD, sD, hX]
      generalize W2 ^ (n - 2) = X
      generalize D[n - 1] = d
      generalize D[n - 2] = d'
      generalize W2 = B
      grind
    have f2 : ((P[n] * W2 + P[n - 1]) * W2 + P[n - 2]) * W2 ^ (n - 2) + val W2 (P.take (n - 2)) = val W2 P := by
      rw [eP, sP, hX]
      generalize W2 ^ (n - 2) = X
      generalize P[n] = a
      generalize P[n - 1] = b
      generalize P[n - 2] = c
      generalize W2 = B
      grind
    rw [f1, f2]
    exact hq

set_option maxRecDepth 100000 in
set_option maxHeartbeats 2000000 in
theorem est_core (pb poff pc db doff dc n : Nat) (pn pn1 pn2 dn1 dn2 q : Nat) (w : World) (hn : 2 ≤ n) (hn2 : n ≤ 1048576) (hpc : n + 1 ≤ pc) (hpc2 : pc ≤ 9223372036854775807) (hdc : n ≤ dc) (hdc2 : dc ≤ 9223372036854775807)
    (c1 : w.cell? ⟨pb, poff + n, none⟩ = some (.int .u32 (pn : Int))) (c2 : w.cell? ⟨pb, poff + (n - 1), none⟩ = some (.int .u32 (pn1 : Int))) (c3 : w.cell? ⟨pb, poff + (n - 2), none⟩ = some (.int .u32 (pn2 : Int)))
    (c4 : w.cell? ⟨db, doff + (n - 1), none⟩ = some (.int .u32 (dn1 : Int))) (c5 : w.cell? ⟨db, doff + (n - 2), none⟩ = some (.int .u32 (dn2 : Int)))
    (l1 : pn < 4294967296) (l2 : pn1 < 4294967296) (hE : Est dn1 dn2 (pn * W2 + pn1) pn2 q) :
    Calls Tryd.prog 79 #[.slice (some ⟨pb, poff, none⟩) (n + 1) pc, .slice (some ⟨db, doff, none⟩) n dc] w fun e w' => ∃ Q d, e = .returned (.int .u64 (Q : Nat)) ∧ q ≤ Q ∧ Q < W2 ∧ w' = w.drewN d := by
  have HE := Lib.hid hE
  have l3 := hE.h32
  have l4 := hE.h31
  have l5 := hE.d2l
  have l6 := hE.p2l
  unfold W2 at l3 l5 l6
  have hor := or_u64 pn pn1 l1 l2
  obtain ⟨top, ht⟩ : ∃ top, pn * 4294967296 + pn1 = top := ⟨_, rfl⟩
  rw [ht] at hor
  have htl : top < 18446744073709551616 := by omega
  have Ht := Lib.hid ht
  have hne : ((dn1 : Int) == 0) = false := by simp; omega
  have i1 : (0 : Int) ≤ (n : Int) - 1 := by omega
  have i2 : (n : Int) - 1 < (n : Int) := by omega
  have i3 : ((n : Int) - 1).toNat = n - 1 := by omega
  have hw1 : IntKind.i64.wrap ((n : Int) - 1) = (n : Int) - 1 := IntWalk.i64_in _ (by omega)
  clear hE
  go_enter Tryd.func79, Tryd.ntmps79
  go_wp2_with fail
  go_quiet (fail)
  go_wp2_with fail
  obtain ⟨W1, hW1⟩ : ∃ W1, w.drewN nq = W1 := ⟨_, rfl⟩
  have e1 : W1.cell? ⟨pb, poff + (n - 2), none⟩ = some (.int .u32 (pn2 : Int)) := by rw [← hW1]; exact c3
  have e2 : W1.cell? ⟨db, doff + (n - 2), none⟩ = some (.int .u32 (dn2 : Int)) := by rw [← hW1]; exact c5
  have HW1 := Lib.hid hW1
  rw [hW1]
  clear hW1 c1 c2 c3 c4 c5 hw1 i1 i2 i3 hor
  have HI0 := Lib.hid HE.out.start
  rw [show pn * W2 + pn1 = top from Ht.out] at HI0 HE
  obtain ⟨D0, hD0⟩ : ∃ d, top / dn1 = d := ⟨_, rfl⟩
  obtain ⟨R0, hR0⟩ : ∃ r, top % dn1 = r := ⟨_, rfl⟩
  rw [hD0, hR0] at HI0
  have q1 : (top : Int) / (dn1 : Int) = (D0 : Int) := by rw [← hD0, Int.natCast_ediv]
  have q2 : (top : Int) % (dn1 : Int) = (R0 : Int) := by rw [← hR0, Int.natCast_emod]
  have q3 : (top : Int).tdiv (dn1 : Int) = (D0 : Int) := by rw [Int.tdiv_eq_ediv_of_nonneg (by omega), q1]
  have q4 : (top : Int).tmod (dn1 : Int) = (R0 : Int) := by rw [Int.tmod_eq_emod_of_nonneg (by omega), q2]
  have q5 : D0 ≤ 4294967297 := HI0.out.dl
  have q6 : R0 < 4294967296 := HI0.out.rl
  have q7 : IntKind.u64.wrap (D0 : Int) = (D0 : Int) := by rw [IntKind.wrap_u64]; omega
  clear hD0 hR0 ht
  go_quiet (fail)
  go_wp2_with fail
  clear q1 q2 q3 q4 q5 q6 q7
  go_loopw [8, 9] (fun dv rv wr => ∃ (D R d : Nat), dv = .int .u64 (D : Int) ∧ rv = .int .u64 (R : Int) ∧ Hid (EstI dn1 dn2 top pn2 q D R) ∧ Hid (wr = W1.drewN d)) (fun dv _ _ => cntV dv)
  case atStart => exact ⟨D0, R0, nq, rfl, rfl, HI0, Lib.hid rfl⟩
  case round =>
    obtain ⟨D, R, d, rfl, rfl, hI, hw⟩ := hrel
    have e3 : wr.cell? ⟨pb, poff + (n - 2), none⟩ = some (.int .u32 (pn2 : Int)) := by rw [hw.out]; exact e1
    have e4 : wr.cell? ⟨db, doff + (n - 2), none⟩ = some (.int .u32 (dn2 : Int)) := by rw [hw.out]; exact e2
    have dl : D ≤ 4294967297 := hI.out.dl
    have rl : R < 4294967296 := hI.out.rl
    have i1 : (0 : Int) ≤ (n : Int) - 2 := by omega
    have i2 : (n : Int) - 2 < (n : Int) := by omega
    have i2' : (n : Int) - 2 < (n : Int) + 1 := by omega
    have i3 : ((n : Int) - 2).toNat = n - 2 := by omega
    have hw1 : IntKind.i64.wrap ((n : Int) - 2) = (n : Int) - 2 := IntWalk.i64_in _ (by omega)
    have hret : ∀ Q : Nat, q ≤ Q → Q < 4294967296 → ∀ d2, ∃ Q' d', Ending.returned (Value.int .u64 (Q : Int)) = .returned (.int .u64 ((Q' : Nat) : Int)) ∧ q ≤ Q' ∧ Q' < W2 ∧ wr.drewN d2 = w.drewN d' := fun Q a b d2 =>
      ⟨Q, _, rfl, a, b, by rw [hw.out, ← HW1.out, World.drewN_drewN, World.drewN_drewN]⟩
    have Hret := Lib.hid hret
    clear hret
    by_cases hbig : 4294967296 ≤ D
    · have hl := hI.out.less HE.out (.inl hbig)
      have hg : decide (4294967295 < (D : Int)) = true := decide_eq_true (by omega)
      have Hl := Lib.hid hl
      have hDp := hl.1
      clear hl
      obtain ⟨D1, hD1⟩ : ∃ D1, D - 1 = D1 := ⟨_, rfl⟩
      have hDI : (D : Int) - 1 = (D1 : Int) := by omega
      have hD1l : D1 < D := by omega
      have hD1m : D1 ≤ 4294967297 := by omega
      rw [hD1] at Hl
      clear hD1
      by_cases hov : R + dn1 ≤ 4294967295
      · go_wp2_with fail
        go_quiet (fail)
        go_wp2_with fail
        go_roundw
        case rel => exact ⟨D1, R + dn1, _, rfl, by go_num, Lib.hid ⟨Hl.out.2.2, Hl.out.2.1, hD1m, by unfold W2; omega⟩, Lib.hid (by rw [hw.out, World.drewN_drewN])⟩
        case measure => simp [cntV]; omega
      · have Hov := Lib.hid (HE.out.over Hl.out.2.2 (by unfold W2; omega))
        go_wp2_with fail
        go_quiet (fail)
        go_wp2
        go_ret
        exact Hret.out D1 Hl.out.2.1 Hov.out _
    · have hg : decide (4294967295 < (D : Int)) = false := decide_eq_false (by omega)
      have hmm : D * dn2 ≤ 4294967295 * 4294967295 := Nat.mul_le_mul (by omega) (by omega)
      obtain ⟨M, hM⟩ : ∃ M, D * dn2 = M := ⟨_, rfl⟩
      have hMI : (D : Int) * (dn2 : Int) = (M : Int) := by rw [← hM, Int.natCast_mul]
      rw [hM] at hmm
      have hMw : IntKind.u64.wrap (M : Int) = (M : Int) := by rw [IntKind.wrap_u64]; omega
      have hor := or_u64 R pn2 rl l6
      obtain ⟨N, hN⟩ : ∃ N, R * 4294967296 + pn2 = N := ⟨_, rfl⟩
      rw [hN] at hor
      have hrw : IntKind.u64.wrap ((R : Int) * 4294967296) = (R : Int) * 4294967296 := by rw [IntKind.wrap_u64]; omega
      have hNl : N < 18446744073709551616 := by omega
      by_cases hgt : N < M
      · have hl := hI.out.less HE.out (.inr ⟨by unfold W2; omega, by rw [hM]; unfold W2; omega⟩)
        have hgM : decide ((N : Int) < (M : Int)) = true := decide_eq_true (by omega)
        clear hN hM
        have Hl := Lib.hid hl
        have hDp := hl.1
        clear hl
        obtain ⟨D1, hD1⟩ : ∃ D1, D - 1 = D1 := ⟨_, rfl⟩
        have hDI : (D : Int) - 1 = (D1 : Int) := by omega
        have hD1l : D1 < D := by omega
        have hD1m : D1 ≤ 4294967297 := by omega
        rw [hD1] at Hl
        clear hD1
        by_cases hov : R + dn1 ≤ 4294967295
        · go_wp2_with fail
          go_quiet (fail)
          go_wp2_with fail
          go_roundw
          case rel => exact ⟨D1, R + dn1, _, rfl, by go_num, Lib.hid ⟨Hl.out.2.2, Hl.out.2.1, hD1m, by unfold W2; omega⟩, Lib.hid (by rw [hw.out, World.drewN_drewN])⟩
          case measure => simp [cntV]; omega
        · have Hov := Lib.hid (HE.out.over Hl.out.2.2 (by unfold W2; omega))
          go_wp2_with fail
          go_quiet (fail)
          go_wp2
          go_ret
          exact Hret.out D1 Hl.out.2.1 Hov.out _
      · have hgM : decide ((N : Int) < (M : Int)) = false := decide_eq_false (by omega)
        have Hge := Lib.hid hI.out.ge
        clear hN hM
        go_wp2_with fail
        go_quiet (fail)
        go_wp2
        go_ret
        exact Hret.out D Hge.out (by omega) _

theorem est_any (vp vd : Value) (P D : List Nat) (n : Nat) (w : World) (hp : RowAt .u32 w vp P) (hd : RowAt .u32 w vd D) (hP : P.length = n + 1) (hD : D.length = n) (hn : 2 ≤ n) (hn2 : n ≤ 1048576) (lP : Low W2 P) (lD : Low W2 D)
    (j1 : n - 1 < D.length) (h31 : 2147483648 ≤ D[n - 1]) (hlt : val W2 P < val W2 D * W2) :
    Calls Tryd.prog 79 #[vp, vd] w fun e w' => ∃ Q d, e = .returned (.int .u64 (Q : Nat)) ∧ val W2 P / val W2 D ≤ Q ∧ Q < W2 ∧ w' = w.drewN d := by
  obtain ⟨pa, pc, rfl, p1, p2, hpc⟩ := hp
  obtain ⟨da, dc, rfl, d1, d2, hdc⟩ := hd
  obtain ⟨pb, poff, rfl, _, hpcc⟩ := hpc (by omega)
  obtain ⟨db, doff, rfl, _, hdcc⟩ := hdc (by omega)
  have i0 : n < P.length := by omega
  have i1 : n - 1 < P.length := by omega
  have i2 : n - 2 < P.length := by omega
  have j2 : n - 2 < D.length := by omega
  have hE := est_of P D n hP hD hn lP lD i0 i1 i2 j1 j2 h31 hlt
  have key := est_core pb poff pc db doff dc n P[n] P[n - 1] P[n - 2] D[n - 1] D[n - 2] (val W2 P / val W2 D) w hn hn2 (by omega) p2 (by omega) d2 (hpcc n i0) (hpcc (n - 1) i1) (hpcc (n - 2) i2) (hdcc (n - 1) j1) (hdcc (n - 2) j2) (lP _ (List.getElem_mem _)) (lP _ (List.getElem_mem _)) hE
  rw [← hP] at key
  rw [hD] at *
  exact key

end Go.Proofs.YtgfgjnkndfgdiaaDoor
