/- wide: estimate. -/
import Derived.Test.YtlmbebbdamgfpaaQUWDiv
import Derived.IntWalk
set_option linter.unusedVariables false
set_option linter.unusedSimpArgs false
namespace Go.Proofs.Ytlmbebbdamgfpaa

theorem div_low (q X x P p b : Nat) (h : q * (X * b + x) ≤ P * b + p) (hp : p < b) : q * X ≤ P := by
 have h1 : q * (X * b) ≤ q * (X * b + x) := Nat.mul_le_mul_left _ (by omega)
 have h2 : q * X * b < (P + 1) * b := by
  rw [Nat.mul_assoc, Nat.add_mul, Nat.one_mul]
  omega
 have := Nat.lt_of_mul_lt_mul_right h2
 omega

/-- what the two first words of part and divisor say -/
structure Est (high d2 top p2 q : Nat) : Prop where
 h31 : 2147483648 ≤ high
 h32 : high < W2
 d2l : d2 < W2
 p2l : p2 < W2
 topl : top < high * W2 + W2
 q0 : q < W2
 q1 : q * high ≤ top
 q2 : q * (high * W2 + d2) ≤ top * W2 + p2

/-- between two rounds of estimate -/
structure EstI (high d2 top p2 q digit rest : Nat) : Prop where
 eq : digit * high + rest = top
 ge : q ≤ digit
 dl : digit ≤ W2 + 1
 rl : rest < W2

theorem Est.start {high d2 top p2 q : Nat} (h : Est high d2 top p2 q) : EstI high d2 top p2 q (top / high) (top % high) := by
 have hp : 0 < high := by have := h.h31; omega
 have h1 := Nat.div_add_mod top high
 refine ⟨by rw [Nat.mul_comm]; exact h1, (Nat.le_div_iff_mul_le hp).2 h.q1, ?_, Nat.lt_trans (Nat.mod_lt _ hp) h.h32⟩
 have h2 : top < high * (W2 + 2) := by
  have h3 := h.topl
  have h4 := h.h31
  rw [Nat.mul_add]
  unfold W2 at *
  omega
 have := (Nat.div_lt_iff_lt_mul hp).2 (by rw [Nat.mul_comm]; exact h2)
 omega

/-- the digit is too great: one less -/
theorem EstI.less {high d2 top p2 q digit rest : Nat} (h : Est high d2 top p2 q) (hi : EstI high d2 top p2 q digit rest) (hc : W2 ≤ digit ∨ (digit < W2 ∧ rest * W2 + p2 < digit * d2)) :
 0 < digit ∧ q ≤ digit - 1 ∧ (digit - 1) * high + (rest + high) = top := by
 have hq : q < digit := by
  rcases hc with hc | ⟨-, hc⟩
  ·exact Nat.lt_of_lt_of_le h.q0 hc
  ·rcases Nat.lt_or_ge q digit with h1 | h1
   ·exact h1
   ·have e : q = digit := Nat.le_antisymm hi.ge h1
    have h2 := h.q2
    rw [e, ← hi.eq, Nat.mul_add, Nat.add_mul, ← Nat.mul_assoc] at h2
    omega
 refine ⟨by omega, by omega, ?_⟩
 have h1 := hi.eq
 obtain ⟨d, rfl⟩ : ∃ d, digit = d + 1 := ⟨digit - 1, by omega⟩
 rw [Nat.add_sub_cancel]
 rw [Nat.add_mul, Nat.one_mul] at h1
 omega

/-- the rest has grown beyond a word: the digit is one -/
theorem Est.over {high d2 top p2 q digit rest : Nat} (h : Est high d2 top p2 q) (he : digit * high + rest = top) (hr : W2 ≤ rest) : digit < W2 := by
 rcases Nat.lt_or_ge digit W2 with h1 | h1
 ·exact h1
 ·have h2 : W2 * high ≤ digit * high := Nat.mul_le_mul_right _ h1
  have h3 := h.topl
  rw [Nat.mul_comm high W2] at h3
  omega

/-- after i words of subtract -/
structure SubI (P D : List Nat) (Q i c b : Nat) (L : List Nat) : Prop where
 len : L.length = P.length
 low : Low W2 L
 cl : c < W2
 bl : b ≤ 1
 rest : L.drop i = P.drop i
 eq : val W2 (L.take i) + Q * val W2 (D.take i) = val W2 (P.take i) + (b + c) * W2 ^ i

theorem SubI.start (P D : List Nat) (Q : Nat) (hP : Low W2 P) : SubI P D Q 0 0 0 P :=
 ⟨rfl, hP, by decide, by omega, rfl, by simp [val]⟩

theorem take_set_succ (L : List Nat) (i x : Nat) (h : i < L.length) : val W2 ((L.set i x).take (i + 1)) = val W2 (L.take i) + x * W2 ^ i := by
 have hl : i < (L.set i x).length := by rw [List.length_set]; exact h
 rw [val_take_succ W2 _ i hl, List.getElem_set_self, List.take_set_of_le (Nat.le_refl i)]

theorem SubI.next {P D : List Nat} {Q i c b : Nat} {L : List Nat} (h : SubI P D Q i c b L) (hi : i < L.length) (hd : i < D.length) (hQ : Q < W2) (hD : Low W2 D) (hP : i < P.length) :
 SubI P D Q (i + 1) ((c + Q * D[i]) / W2) (brw P[i] ((c + Q * D[i]) % W2) b) (L.set i (dif P[i] ((c + Q * D[i]) % W2) b)) ∧ L[i] = P[i] ∧ c + Q * D[i] < 18446744073709551616 := by
 have hLi : L[i] = P[i] := by
  have h1 := h.rest
  rw [List.drop_eq_getElem_cons hi, List.drop_eq_getElem_cons hP] at h1
  exact (List.cons.inj h1).1
 have hw : D[i] < W2 := hD _ (List.getElem_mem hd)
 have hm : Q * D[i] ≤ 4294967295 * 4294967295 := Nat.mul_le_mul (by unfold W2 at hQ; omega) (by unfold W2 at hw; omega)
 have hcl := h.cl
 have hPl : P[i] < W2 := by rw [← hLi]; exact h.low _ (List.getElem_mem hi)
 have ht : c + Q * D[i] < 18446744073709551616 := by unfold W2 at hcl; omega
 have hlo : (c + Q * D[i]) % W2 < W2 := Nat.mod_lt _ (by decide)
 have hdm := Nat.div_add_mod (c + Q * D[i]) W2
 have hde := dif_eq P[i] ((c + Q * D[i]) % W2) b hlo h.bl
 refine ⟨⟨by rw [List.length_set]; exact h.len, low_set h.low _ _ (dif_lt _ _ _ hPl h.bl), ?_, brw_le _ _ _, ?_, ?_⟩, hLi, ht⟩
 ·refine (Nat.div_lt_iff_lt_mul (by decide)).2 ?_
  show _ < 4294967296 * 4294967296
  omega
 ·rw [List.drop_set_of_lt (by omega)]
  have h1 := h.rest
  rw [List.drop_eq_getElem_cons hi, List.drop_eq_getElem_cons hP] at h1
  exact (List.cons.inj h1).2
 ·rw [take_set_succ L i _ hi, val_take_succ W2 D i hd, val_take_succ W2 P i hP, Nat.pow_succ]
  have h1 := h.eq
  generalize dif P[i] ((c + Q * D[i]) % W2) b = p' at *
  generalize brw P[i] ((c + Q * D[i]) % W2) b = b' at *
  generalize (c + Q * D[i]) % W2 = lo at *
  generalize (c + Q * D[i]) / W2 = c' at *
  generalize W2 ^ i = X at *
  generalize val W2 (L.take i) = l at *
  generalize val W2 (D.take i) = d at *
  generalize val W2 (P.take i) = p at *
  generalize D[i] = w at *
  generalize P[i] = u at *
  generalize W2 = B at *
  grind

theorem SubI.last {P D : List Nat} {Q n c b : Nat} {L : List Nat} (h : SubI P D Q n c b L) (hD : D.length = n) (hP : P.length = n + 1) (hn : n < P.length) (x f : Nat) (hx : x + (c + b) = P[n] + f * W2) :
 val W2 (L.set n x) + Q * val W2 D = val W2 P + f * W2 ^ (n + 1) := by
 have hln : n < L.length := by rw [h.len]; exact hn
 have h1 := h.eq
 rw [List.take_of_length_le (l := D) (by omega)] at h1
 have h2 : val W2 (L.set n x) = val W2 (L.take n) + x * W2 ^ n := by
  rw [← take_set_succ L n x hln, List.take_of_length_le (by rw [List.length_set, h.len]; omega)]
 have h3 : val W2 P = val W2 (P.take n) + P[n] * W2 ^ n := by
  rw [← val_take_succ W2 P n hn, List.take_of_length_le (by omega)]
 rw [h2, h3, Nat.pow_succ]
 generalize W2 ^ n = X at *
 generalize val W2 (L.take n) = l at *
 generalize val W2 D = d at *
 generalize val W2 (P.take n) = p at *
 generalize P[n] = u at *
 generalize W2 = B at *
 grind

end Go.Proofs.Ytlmbebbdamgfpaa
set_option linter.unusedVariables false
set_option linter.unusedSimpArgs false
namespace Go.Proofs.Ytlmbebbdamgfpaa
open Go.RowKit

theorem pow_pred (n : Nat) (h : 1 ≤ n) : W2 ^ n = W2 * W2 ^ (n - 1) := by
 obtain ⟨m, rfl⟩ : ∃ m, n = m + 1 := ⟨n - 1, by omega⟩
 rw [Nat.add_sub_cancel, Nat.pow_succ, Nat.mul_comm]

theorem val_top2 (P : List Nat) (n : Nat) (hP : P.length = n + 1) (hn : 1 ≤ n) (h0 : n < P.length) (h1 : n - 1 < P.length) : val W2 P = (P[n] * W2 + P[n - 1]) * W2 ^ (n - 1) + val W2 (P.take (n - 1)) := by
 have e1 : val W2 P = val W2 (P.take n) + P[n] * W2 ^ n := by rw [← val_take_succ W2 P n h0, List.take_of_length_le (by omega)]
 have e2 := val_take_succ W2 P (n - 1) h1
 rw [show n - 1 + 1 = n by omega] at e2
 rw [e1, e2, pow_pred n hn]
 generalize W2 ^ (n - 1) = X
 generalize P[n] = a
 generalize P[n - 1] = b
 generalize val W2 (P.take (n - 1)) = c
 generalize W2 = B
 grind

theorem val_top1 (D : List Nat) (n : Nat) (hD : D.length = n) (hn : 1 ≤ n) (h1 : n - 1 < D.length) : val W2 D = D[n - 1] * W2 ^ (n - 1) + val W2 (D.take (n - 1)) := by
 have e2 := val_take_succ W2 D (n - 1) h1
 rw [show n - 1 + 1 = n by omega, List.take_of_length_le (by omega)] at e2
 rw [e2]
 omega

theorem take_val_lt (P : List Nat) (k : Nat) (hP : Low W2 P) (hk : k ≤ P.length) : val W2 (P.take k) < W2 ^ k := by
 have := val_lt W2 (by decide) (P.take k) (low_take hP k)
 rwa [List.length_take, Nat.min_eq_left hk] at this

theorem est_of (P D : List Nat) (n : Nat) (hP : P.length = n + 1) (hD : D.length = n) (hn : 2 ≤ n) (lP : Low W2 P) (lD : Low W2 D) (i0 : n < P.length) (i1 : n - 1 < P.length) (i2 : n - 2 < P.length) (j1 : n - 1 < D.length) (j2 : n - 2 < D.length)
 (h31 : 2147483648 ≤ D[n - 1]) (hlt : val W2 P < val W2 D * W2) :
 Est D[n - 1] D[n - 2] (P[n] * W2 + P[n - 1]) P[n - 2] (val W2 P / val W2 D) := by
 have eP := val_top2 P n hP (by omega) i0 i1
 have eD := val_top1 D n hD (by omega) j1
 have tP := take_val_lt P (n - 1) lP (by omega)
 have tD := take_val_lt D (n - 1) lD (by omega)
 have tP2 := take_val_lt P (n - 2) lP (by omega)
 have hh : D[n - 1] < W2 := lD _ (List.getElem_mem _)
 have hq := Nat.div_mul_le_self (val W2 P) (val W2 D)
 have sP := val_take_succ W2 P (n - 2) i2
 have sD := val_take_succ W2 D (n - 2) j2
 rw [show n - 2 + 1 = n - 1 by omega] at sP sD
 have hX : W2 ^ (n - 1) = W2 * W2 ^ (n - 2) := by rw [pow_pred (n - 1) (by omega), Nat.sub_sub]
 have hXp : 0 < W2 ^ (n - 1) := Nat.pow_pos (by decide)
 refine ⟨h31, hh, lD _ (List.getElem_mem _), lP _ (List.getElem_mem _), ?_, ?_, ?_, ?_⟩
 ·have h1 : (P[n] * W2 + P[n - 1]) * W2 ^ (n - 1) < (D[n - 1] * W2 + W2) * W2 ^ (n - 1) := by
   have h2 : val W2 D < (D[n - 1] + 1) * W2 ^ (n - 1) := by rw [eD, Nat.add_mul, Nat.one_mul]; omega
   have h3 : val W2 D * W2 < (D[n - 1] + 1) * W2 ^ (n - 1) * W2 := Nat.mul_lt_mul_of_pos_right h2 (by decide)
   have h4 : (D[n - 1] + 1) * W2 ^ (n - 1) * W2 = (D[n - 1] * W2 + W2) * W2 ^ (n - 1) := by
    generalize W2 ^ (n - 1) = X
    generalize D[n - 1] = d
    generalize W2 = B
    grind
   omega
  exact Nat.lt_of_mul_lt_mul_right h1
 ·refine Nat.div_lt_of_lt_mul ?_
  exact hlt
 ·exact div_low _ _ (val W2 (D.take (n - 1))) _ (val W2 (P.take (n - 1))) (W2 ^ (n - 1)) (by rw [← eD, ← eP]; exact hq) tP
 ·refine div_low _ _ (val W2 (D.take (n - 2))) _ (val W2 (P.take (n - 2))) (W2 ^ (n - 2)) ?_ tP2
  have f1 : (D[n - 1] * W2 + D[n - 2]) * W2 ^ (n - 2) + val W2 (D.take (n - 2)) = val W2 D := by
   rw [eD, sD, hX]
   generalize W2 ^ (n - 2) = X
   generalize D[n - 1] = d
   generalize D[n - 2] = d'
   generalize W2 = B
   grind
  have f2 : ((P[n] * W2 + P[n - 1]) * W2 + P[n - 2]) * W2 ^ (n - 2) + val W2 (P.take (n - 2)) = val W2 P := by
   rw [eP, sP, hX]
   generalize W2 ^ (n - 2) = X
   generalize P[n] = a
   generalize P[n - 1] = b
   generalize P[n - 2] = c
   generalize W2 = B
   grind
  rw [f1, f2]
  exact hq

set_option maxRecDepth 100000 in
set_option maxHeartbeats 2000000 in
theorem est_core (pb poff pc db doff dc n : Nat) (pn pn1 pn2 dn1 dn2 q : Nat) (w : World) (hn : 2 ≤ n) (hn2 : n ≤ 1048576) (hpc : n + 1 ≤ pc) (hpc2 : pc ≤ 9223372036854775807) (hdc : n ≤ dc) (hdc2 : dc ≤ 9223372036854775807)
 (c1 : w.cell? ⟨pb, poff + n, none⟩ = some (.int .u32 (pn : Int))) (c2 : w.cell? ⟨pb, poff + (n - 1), none⟩ = some (.int .u32 (pn1 : Int))) (c3 : w.cell? ⟨pb, poff + (n - 2), none⟩ = some (.int .u32 (pn2 : Int)))
 (c4 : w.cell? ⟨db, doff + (n - 1), none⟩ = some (.int .u32 (dn1 : Int))) (c5 : w.cell? ⟨db, doff + (n - 2), none⟩ = some (.int .u32 (dn2 : Int)))
 (l1 : pn < 4294967296) (l2 : pn1 < 4294967296) (hE : Est dn1 dn2 (pn * W2 + pn1) pn2 q) :
 Calls Try.prog 86 #[.slice (some ⟨pb, poff, none⟩) (n + 1) pc, .slice (some ⟨db, doff, none⟩) n dc] w fun e w' => ∃ Q d, e = .returned (.int .u64 (Q : Nat)) ∧ q ≤ Q ∧ Q < W2 ∧ w' = w.drewN d := by
 have HE := Lib.hid hE
 have l3 := hE.h32
 have l4 := hE.h31
 have l5 := hE.d2l
 have l6 := hE.p2l
 unfold W2 at l3 l5 l6
 have hor := or_u64 pn pn1 l1 l2
 obtain ⟨top, ht⟩ : ∃ top, pn * 4294967296 + pn1 = top := ⟨_, rfl⟩
 rw [ht] at hor
 have htl : top < 18446744073709551616 := by omega
 have Ht := Lib.hid ht
 have hne : ((dn1 : Int) == 0) = false := by simp; omega
 have i1 : (0 : Int) ≤ (n : Int) - 1 := by omega
 have i2 : (n : Int) - 1 < (n : Int) := by omega
 have i3 : ((n : Int) - 1).toNat = n - 1 := by omega
 have hw1 : IntKind.i64.wrap ((n : Int) - 1) = (n : Int) - 1 := IntWalk.i64_in _ (by omega)
 clear hE
 go_enter Try.func86, Try.ntmps86
 go_wp2_with fail
 go_quiet (fail)
 go_wp2_with fail
 obtain ⟨W1, hW1⟩ : ∃ W1, w.drewN nq = W1 := ⟨_, rfl⟩
 have e1 : W1.cell? ⟨pb, poff + (n - 2), none⟩ = some (.int .u32 (pn2 : Int)) := by rw [← hW1]; exact c3
 have e2 : W1.cell? ⟨db, doff + (n - 2), none⟩ = some (.int .u32 (dn2 : Int)) := by rw [← hW1]; exact c5
 have HW1 := Lib.hid hW1
 rw [hW1]
 clear hW1 c1 c2 c3 c4 c5 hw1 i1 i2 i3 hor
 have HI0 := Lib.hid HE.out.start
 rw [show pn * W2 + pn1 = top from Ht.out] at HI0 HE
 obtain ⟨D0, hD0⟩ : ∃ d, top / dn1 = d := ⟨_, rfl⟩
 obtain ⟨R0, hR0⟩ : ∃ r, top % dn1 = r := ⟨_, rfl⟩
 rw [hD0, hR0] at HI0
 have q1 : (top : Int) / (dn1 : Int) = (D0 : Int) := by rw [← hD0, Int.natCast_ediv]
 have q2 : (top : Int) % (dn1 : Int) = (R0 : Int) := by rw [← hR0, Int.natCast_emod]
 have q3 : (top : Int).tdiv (dn1 : Int) = (D0 : Int) := by rw [Int.tdiv_eq_ediv_of_nonneg (by omega), q1]
 have q4 : (top : Int).tmod (dn1 : Int) = (R0 : Int) := by rw [Int.tmod_eq_emod_of_nonneg (by omega), q2]
 have q5 : D0 ≤ 4294967297 := HI0.out.dl
 have q6 : R0 < 4294967296 := HI0.out.rl
 have q7 : IntKind.u64.wrap (D0 : Int) = (D0 : Int) := by rw [IntKind.wrap_u64]; omega
 clear hD0 hR0 ht
 go_quiet (fail)
 go_wp2_with fail
 clear q1 q2 q3 q4 q5 q6 q7
 go_loopw [8, 9] (fun dv rv wr => ∃ (D R d : Nat), dv = .int .u64 (D : Int) ∧ rv = .int .u64 (R : Int) ∧ Hid (EstI dn1 dn2 top pn2 q D R) ∧ Hid (wr = W1.drewN d)) (fun dv _ _ => cntV dv)
 case atStart => exact ⟨D0, R0, nq, rfl, rfl, HI0, Lib.hid rfl⟩
 case round =>
  obtain ⟨D, R, d, rfl, rfl, hI, hw⟩ := hrel
  have e3 : wr.cell? ⟨pb, poff + (n - 2), none⟩ = some (.int .u32 (pn2 : Int)) := by rw [hw.out]; exact e1
  have e4 : wr.cell? ⟨db, doff + (n - 2), none⟩ = some (.int .u32 (dn2 : Int)) := by rw [hw.out]; exact e2
  have dl : D ≤ 4294967297 := hI.out.dl
  have rl : R < 4294967296 := hI.out.rl
  have i1 : (0 : Int) ≤ (n : Int) - 2 := by omega
  have i2 : (n : Int) - 2 < (n : Int) := by omega
  have i2' : (n : Int) - 2 < (n : Int) + 1 := by omega
  have i3 : ((n : Int) - 2).toNat = n - 2 := by omega
  have hw1 : IntKind.i64.wrap ((n : Int) - 2) = (n : Int) - 2 := IntWalk.i64_in _ (by omega)
  have hret : ∀ Q : Nat, q ≤ Q → Q < 4294967296 → ∀ d2, ∃ Q' d', Ending.returned (Value.int .u64 (Q : Int)) = .returned (.int .u64 ((Q' : Nat) : Int)) ∧ q ≤ Q' ∧ Q' < W2 ∧ wr.drewN d2 = w.drewN d' := fun Q a b d2 =>
   ⟨Q, _, rfl, a, b, by rw [hw.out, ← HW1.out, World.drewN_drewN, World.drewN_drewN]⟩
  have Hret := Lib.hid hret
  clear hret
  by_cases hbig : 4294967296 ≤ D
  ·have hl := hI.out.less HE.out (.inl hbig)
   have hg : decide (4294967295 < (D : Int)) = true := decide_eq_true (by omega)
   have Hl := Lib.hid hl
   have hDp := hl.1
   clear hl
   obtain ⟨D1, hD1⟩ : ∃ D1, D - 1 = D1 := ⟨_, rfl⟩
   have hDI : (D : Int) - 1 = (D1 : Int) := by omega
   have hD1l : D1 < D := by omega
   have hD1m : D1 ≤ 4294967297 := by omega
   rw [hD1] at Hl
   clear hD1
   by_cases hov : R + dn1 ≤ 4294967295
   ·go_wp2_with fail
    go_quiet (fail)
    go_wp2_with fail
    go_roundw
    case rel => exact ⟨D1, R + dn1, _, rfl, by go_num, Lib.hid ⟨Hl.out.2.2, Hl.out.2.1, hD1m, by unfold W2; omega⟩, Lib.hid (by rw [hw.out, World.drewN_drewN])⟩
    case measure => simp [cntV]; omega
   ·have Hov := Lib.hid (HE.out.over Hl.out.2.2 (by unfold W2; omega))
    go_wp2_with fail
    go_quiet (fail)
    go_wp2
    go_ret
    exact Hret.out D1 Hl.out.2.1 Hov.out _
  ·have hg : decide (4294967295 < (D : Int)) = false := decide_eq_false (by omega)
   have hmm : D * dn2 ≤ 4294967295 * 4294967295 := Nat.mul_le_mul (by omega) (by omega)
   obtain ⟨M, hM⟩ : ∃ M, D * dn2 = M := ⟨_, rfl⟩
   have hMI : (D : Int) * (dn2 : Int) = (M : Int) := by rw [← hM, Int.natCast_mul]
   rw [hM] at hmm
   have hMw : IntKind.u64.wrap (M : Int) = (M : Int) := by rw [IntKind.wrap_u64]; omega
   have hor := or_u64 R pn2 rl l6
   obtain ⟨N, hN⟩ : ∃ N, R * 4294967296 + pn2 = N := ⟨_, rfl⟩
   rw [hN] at hor
   have hrw : IntKind.u64.wrap ((R : Int) * 4294967296) = (R : Int) * 4294967296 := by rw [IntKind.wrap_u64]; omega
   have hNl : N < 18446744073709551616 := by omega
   by_cases hgt : N < M
   ·have hl := hI.out.less HE.out (.inr ⟨by unfold W2; omega, by rw [hM]; unfold W2; omega⟩)
    have hgM : decide ((N : Int) < (M : Int)) = true := decide_eq_true (by omega)
    clear hN hM
    have Hl := Lib.hid hl
    have hDp := hl.1
    clear hl
    obtain ⟨D1, hD1⟩ : ∃ D1, D - 1 = D1 := ⟨_, rfl⟩
    have hDI : (D : Int) - 1 = (D1 : Int) := by omega
    have hD1l : D1 < D := by omega
    have hD1m : D1 ≤ 4294967297 := by omega
    rw [hD1] at Hl
    clear hD1
    by_cases hov : R + dn1 ≤ 4294967295
    ·go_wp2_with fail
     go_quiet (fail)
     go_wp2_with fail
     go_roundw
     case rel => exact ⟨D1, R + dn1, _, rfl, by go_num, Lib.hid ⟨Hl.out.2.2, Hl.out.2.1, hD1m, by unfold W2; omega⟩, Lib.hid (by rw [hw.out, World.drewN_drewN])⟩
     case measure => simp [cntV]; omega
    ·have Hov := Lib.hid (HE.out.over Hl.out.2.2 (by unfold W2; omega))
     go_wp2_with fail
     go_quiet (fail)
     go_wp2
     go_ret
     exact Hret.out D1 Hl.out.2.1 Hov.out _
   ·have hgM : decide ((N : Int) < (M : Int)) = false := decide_eq_false (by omega)
    have Hge := Lib.hid hI.out.ge
    clear hN hM
    go_wp2_with fail
    go_quiet (fail)
    go_wp2
    go_ret
    exact Hret.out D Hge.out (by omega) _

theorem est_any (vp vd : Value) (P D : List Nat) (n : Nat) (w : World) (hp : RowAt .u32 w vp P) (hd : RowAt .u32 w vd D) (hP : P.length = n + 1) (hD : D.length = n) (hn : 2 ≤ n) (hn2 : n ≤ 1048576) (lP : Low W2 P) (lD : Low W2 D)
 (j1 : n - 1 < D.length) (h31 : 2147483648 ≤ D[n - 1]) (hlt : val W2 P < val W2 D * W2) :
 Calls Try.prog 86 #[vp, vd] w fun e w' => ∃ Q d, e = .returned (.int .u64 (Q : Nat)) ∧ val W2 P / val W2 D ≤ Q ∧ Q < W2 ∧ w' = w.drewN d := by
 obtain ⟨pa, pc, rfl, p1, p2, hpc⟩ := hp
 obtain ⟨da, dc, rfl, d1, d2, hdc⟩ := hd
 obtain ⟨pb, poff, rfl, _, hpcc⟩ := hpc (by omega)
 obtain ⟨db, doff, rfl, _, hdcc⟩ := hdc (by omega)
 have i0 : n < P.length := by omega
 have i1 : n - 1 < P.length := by omega
 have i2 : n - 2 < P.length := by omega
 have j2 : n - 2 < D.length := by omega
 have hE := est_of P D n hP hD hn lP lD i0 i1 i2 j1 j2 h31 hlt
 have key := est_core pb poff pc db doff dc n P[n] P[n - 1] P[n - 2] D[n - 1] D[n - 2] (val W2 P / val W2 D) w hn hn2 (by omega) p2 (by omega) d2 (hpcc n i0) (hpcc (n - 1) i1) (hpcc (n - 2) i2) (hdcc (n - 1) j1) (hdcc (n - 2) j2) (lP _ (List.getElem_mem _)) (lP _ (List.getElem_mem _)) hE
 rw [← hP] at key
 rw [hD] at *
 exact key

end Go.Proofs.Ytlmbebbdamgfpaa
