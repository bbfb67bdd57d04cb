/- Long division by words: the plain steps. -/
import Derived.Test.YtgfgjnkndfgdiaaDoorWDiv
namespace Go.Proofs.YtgfgjnkndfgdiaaDoor

theorem div_low (q X x P p b : Nat) (h : q * (X * b + x) ≤ P * b + p) (hp : p < b) : q * X ≤ P := by
  have h1 : q * (X * b) ≤ q * (X * b + x) := Nat.mul_le_mul_left _ (by omega)
  have h2 : q * X * b < (P + 1) * b := by
    rw [Nat.mul_assoc, Nat.add_mul, Nat.one_mul]
    omega
  have := Nat.lt_of_mul_lt_mul_right h2
  omega

/-- what the two first words of part and divisor say -/
structure Est (high d2 top p2 q : Nat) : Prop where
  h31 : 2147483648 ≤ high
  h32 : high < W2
  d2l : d2 < W2
  p2l : p2 < W2
  topl : top < high * W2 + W2
  q0 : q < W2
  q1 : q * high ≤ top
  q2 : q * (high * W2 + d2) ≤ top * W2 + p2

/-- between two rounds of estimate -/
structure EstI (high d2 top p2 q digit rest : Nat) : Prop where
  eq : digit * high + rest = top
  ge : q ≤ digit
  dl : digit ≤ W2 + 1
  rl : rest < W2

theorem Est.start {high d2 top p2 q : Nat} (h : Est high d2 top p2 q) : EstI high d2 top p2 q (top / high) (top % high) := by
  have hp : 0 < high := by have := h.h31; omega
  have h1 := Nat.div_add_mod top high
  refine ⟨by rw [Nat.mul_comm]; exact h1, (Nat.le_div_iff_mul_le hp).2 h.q1, ?_, Nat.lt_trans (Nat.mod_lt _ hp) h.h32⟩
  have h2 : top < high * (W2 + 2) := by
    have h3 := h.topl
    have h4 := h.h31
    rw [Nat.mul_add]
    unfold W2 at *
    omega
  have := (Nat.div_lt_iff_lt_mul hp).2 (by rw [Nat.mul_comm]; exact h2)
  omega

/-- the digit is too great: one less -/
theorem EstI.less {high d2 top p2 q digit rest : Nat} (h : Est high d2 top p2 q) (hi : EstI high d2 top p2 q digit rest) (hc : W2 ≤ digit ∨ (digit < W2 ∧ rest * W2 + p2 < digit * d2)) :
    0 < digit ∧ q ≤ digit - 1 ∧ (digit - 1) * high + (rest + high) = top := by
  have hq : q < digit := by
    rcases hc with hc | ⟨-, hc⟩
    · exact Nat.lt_of_lt_of_le h.q0 hc
    · rcases Nat.lt_or_ge q digit with h1 | h1
      · exact h1
      · have e : q = digit := Nat.le_antisymm hi.ge h1
        have h2 := h.q2
        rw [e, ← hi.eq, Nat.mul_add, Nat.add_mul, ← Nat.mul_assoc] at h2
        omega
  refine ⟨by omega, by omega, ?_⟩
  have h1 := hi.eq
  obtain ⟨d, rfl⟩ : ∃ d, digit = d + 1 := ⟨digit - 1, by omega⟩
  rw [Nat.add_sub_cancel]
  rw [Nat.add_mul, Nat.one_mul] at h1
  omega

/-- the rest has grown beyond a word: the digit is one -/
theorem Est.over {high d2 top p2 q digit rest : Nat} (h : Est high d2 top p2 q) (he : digit * high + rest = top) (hr : W2 ≤ rest) : digit < W2 := by
  rcases Nat.lt_or_ge digit W2 with h1 | h1
  · exact h1
  · have h2 : W2 * high ≤ digit * high := Nat.mul_le_mul_right _ h1
    have h3 := h.topl
    rw [Nat.mul_comm high W2] at h3
    omega

/-- after i words of subtract -/
structure SubI (P D : List Nat) (Q i c b : Nat) (L : List Nat) : Prop where
  len : L.length = P.length
  low : Low W2 L
  cl : c < W2
  bl : b ≤ 1
  rest : L.drop i = P.drop i
  eq : val W2 (L.take i) + Q * val W2 (D.take i) = val W2 (P.take i) + (b + c) * W2 ^ i

theorem SubI.start (P D : List Nat) (Q : Nat) (hP : Low W2 P) : SubI P D Q 0 0 0 P :=
  ⟨rfl, hP, by decide, by omega, rfl, by simp [val]⟩

theorem take_set_succ (L : List Nat) (i x : Nat) (h : i < L.length) : val W2 ((L.set i x).take (i + 1)) = val W2 (L.take i) + x * W2 ^ i := by
  have hl : i < (L.set i x).length := by rw [List.length_set]; exact h
  rw [val_take_succ W2 _ i hl, List.getElem_set_self, List.take_set_of_le (Nat.le_refl i)]

theorem SubI.next {P D : List Nat} {Q i c b : Nat} {L : List Nat} (h : SubI P D Q i c b L) (hi : i < L.length) (hd : i < D.length) (hQ : Q < W2) (hD : Low W2 D) (hP : i < P.length) :
    SubI P D Q (i + 1) ((c + Q * D[i]) / W2) (brw P[i] ((c + Q * D[i]) % W2) b) (L.set i (dif P[i] ((c + Q * D[i]) % W2) b)) ∧ L[i] = P[i] ∧ c + Q * D[i] < 18446744073709551616 := by
  have hLi : L[i] = P[i] := by
    have h1 := h.rest
    rw [List.drop_eq_getElem_cons hi, List.drop_eq_getElem_cons hP] at h1
    exact (List.cons.inj h1).1
  have hw : D[i] < W2 := hD _ (List.getElem_mem hd)
  have hm : Q * D[i] ≤ 4294967295 * 4294967295 := Nat.mul_le_mul (by unfold W2 at hQ; omega) (by unfold W2 at hw; omega)
  have hcl := h.cl
  have hPl : P[i] < W2 := by rw [← hLi]; exact h.low _ (List.getElem_mem hi)
  have ht : c + Q * D[i] < 18446744073709551616 := by unfold W2 at hcl; omega
  have hlo : (c + Q * D[i]) % W2 < W2 := Nat.mod_lt _ (by decide)
  have hdm := Nat.div_add_mod (c + Q * D[i]) W2
  have hde := dif_eq P[i] ((c + Q * D[i]) % W2) b hlo h.bl
  refine ⟨⟨by rw [List.length_set]; exact h.len, low_set h.low _ _ (dif_lt _ _ _ hPl h.bl), ?_, brw_le _ _ _, ?_, ?_⟩, hLi, ht⟩
  · refine (Nat.div_lt_iff_lt_mul (by decide)).2 ?_
    show _ < 4294967296 * 4294967296
    omega
  · rw [List.drop_set_of_lt (by omega)]
    have h1 := h.rest
    rw [List.drop_eq_getElem_cons hi, List.drop_eq_getElem_cons hP] at h1
    exact (List.cons.inj h1).2
  · rw [take_set_succ L i _ hi, val_take_succ W2 D i hd, val_take_succ W2 P i hP, Nat.pow_succ]
    have h1 := h.eq
    generalize dif P[i] ((c + Q * D[i]) % W2) b = p' at *
    generalize brw P[i] ((c + Q * D[i]) % W2) b = b' at *
    generalize (c + Q * D[i]) % W2 = lo at *
    generalize (c + Q * D[i]) / W2 = c' at *
    generalize W2 ^ i = X at *
    generalize val W2 (L.take i) = l at *
    generalize val W2 (D.take i) = d at *
    generalize val W2 (P.take i) = p at *
    generalize D[i] = w at *
    generalize P[i] = u at *
    generalize W2 = B at *
    grind

theorem SubI.last {P D : List Nat} {Q n c b : Nat} {L : List Nat} (h : SubI P D Q n c b L) (hD : D.length = n) (hP : P.length = n + 1) (hn : n < P.length) (x f : Nat) (hx : x + (c + b) = P[n] + f * W2) :
    val W2 (L.set n x) + Q * val W2 D = val W2 P + f * W2 ^ (n + 1) := by
  have hln : n < L.length := by rw [h.len]; exact hn
  have h1 := h.eq
  rw [List.take_of_length_le (l := D) (by omega)] at h1
  have h2 : val W2 (L.set n x) = val W2 (L.take n) + x * W2 ^ n := by
    rw [← take_set_succ L n x hln, List.take_of_length_le (by rw [List.length_set, h.len]; omega)]
  have h3 : val W2 P = val W2 (P.take n) + P[n] * W2 ^ n := by
    rw [← val_take_succ W2 P n hn, List.take_of_length_le (by omega)]
  rw [h2, h3, Nat.pow_succ]
  generalize W2 ^ n = X at *
  generalize val W2 (L.take n) = l at *
  generalize val W2 D = d at *
  generalize val W2 (P.take n) = p at *
  generalize P[n] = u at *
  generalize W2 = B at *
  grind

end Go.Proofs.YtgfgjnkndfgdiaaDoor
