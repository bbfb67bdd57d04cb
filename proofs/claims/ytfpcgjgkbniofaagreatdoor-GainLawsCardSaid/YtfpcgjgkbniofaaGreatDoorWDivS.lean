/- wide: divideShort. -/
import Derived.Test.YtfpcgjgkbniofaaGreatDoorWMinus
import Derived.Laws.BitsAllLaws
import Derived.Laws.BitsLemmas
namespace Go.Proofs.YtfpcgjgkbniofaaGreatDoor
open Go.RowKit

theorem cast_mod (t : Nat) : ((t % W2 : Nat) : Int) = (t : Int) % 4294967296 := by unfold W2; omega
theorem cast_div (t : Nat) : ((t / W2 : Nat) : Int) = (t : Int) / 4294967296 := by unfold W2; omega
theorem cast_cyf (c y f : Nat) : ((c + y * f : Nat) : Int) = (c : Int) + (y : Int) * (f : Int) := by rw [Int.natCast_add, Int.natCast_mul]

theorem set_step (L : List Nat) (k t : Nat) (h : k < L.length) (hz : L[k] = 0) : val W2 (L.set k (t % W2)) + t / W2 * W2 ^ (k + 1) = val W2 L + t * W2 ^ k := by
  have h1 := val_set W2 L k (t % W2) h
  have h2 := Nat.div_add_mod t W2
  rw [hz] at h1
  rw [Nat.pow_succ]
  generalize t % W2 = r at *
  generalize t / W2 = q at *
  generalize W2 ^ k = p at *
  generalize val W2 L = v at *
  generalize val W2 (L.set k r) = v' at *
  generalize W2 = B at *
  grind

theorem mul_lt_w2 (x y : Nat) (hx : x < W2) (hy : y < W2) : x * y ≤ 18446744065119617025 := by
  have : x * y ≤ 4294967295 * 4294967295 := Nat.mul_le_mul (by unfold W2 at hx; omega) (by unfold W2 at hy; omega)
  omega

/-- between two rounds of scale -/
structure ScaleI (A : List Nat) (f s N k c : Nat) (L : List Nat) : Prop where
  len : L.length = N + 1
  low : Low W2 L
  c1 : c < W2
  zero : ∀ j (h : j < L.length), k ≤ j → L[j] = 0
  eq : val W2 L + c * W2 ^ k = val W2 (A.take k) * f + s

theorem ScaleI.start (A : List Nat) (f s N : Nat) (hs : s < W2) : ScaleI A f s N 0 s (List.replicate (N + 1) 0) :=
  ⟨by simp, fun x hx => by rw [(List.mem_replicate.1 hx).2]; decide, hs, fun j h _ => by simp, by rw [val_zeros W2 _ (fun x hx => (List.mem_replicate.1 hx).2)]; simp [val]⟩

theorem ScaleI.carry {A : List Nat} {f s N k c : Nat} {L : List Nat} (h : ScaleI A f s N k c L) (y : Nat) (hy : y < W2) (hf : f < W2) : (c + y * f) / W2 < W2 := by
  have h1 := mul_lt_w2 y f hy hf
  have h2 := h.c1
  apply (Nat.div_lt_iff_lt_mul (show 0 < W2 by decide)).2
  unfold W2 at *
  omega

theorem ScaleI.next {A : List Nat} {f s N k c : Nat} {L : List Nat} (h : ScaleI A f s N k c L) (hk : k < L.length) (ha : k < A.length) (hA : Low W2 A) (hf : f < W2) :
    ScaleI A f s N (k + 1) ((c + A[k] * f) / W2) (L.set k ((c + A[k] * f) % W2)) := by
  refine ⟨by rw [List.length_set]; exact h.len, low_set h.low _ _ (Nat.mod_lt _ (by decide)), h.carry _ (hA _ (List.getElem_mem ha)) hf, fun j hj hkj => ?_, ?_⟩
  · rw [List.getElem_set_ne (by omega)]
    exact h.zero j (by rw [List.length_set] at hj; exact hj) (by omega)
  · rw [set_step L k _ hk (h.zero k hk (Nat.le_refl _)), val_take_succ W2 A k ha]
    have := h.eq
    generalize W2 ^ k = p at *
    generalize val W2 (A.take k) = v at *
    generalize A[k] = y at *
    grind

theorem ScaleI.done {A : List Nat} {f s N c : Nat} {L : List Nat} (h : ScaleI A f s N N c L) (hN : A.length = N) : val W2 (L.set N c) = val W2 A * f + s ∧ Low W2 (L.set N c) := by
  have hl : N < L.length := by rw [h.len]; omega
  have h1 := val_set W2 L N c hl
  rw [h.zero N hl (Nat.le_refl _)] at h1
  have h2 := h.eq
  rw [List.take_of_length_le (by omega)] at h2
  exact ⟨by omega, low_set h.low _ _ h.c1⟩

theorem or_u64 (x y : Nat) (hx : x < 4294967296) (hy : y < 4294967296) : bits BinOp.or IntKind.u64 ((x : Int) * 4294967296) (y : Int) = ((x * 4294967296 + y : Nat) : Int) := by
  have h := u64_or_nat (x * 4294967296) y (by omega) (by omega)
  have e : (((x * 4294967296 : Nat)) : Int) = (x : Int) * 4294967296 := by omega
  rw [e] at h
  rw [h]
  have h2 : x * 2 ^ 32 ||| y = x * 2 ^ 32 + y := by rw [Nat.mul_comm, ← Nat.two_pow_add_eq_or_of_lt hy]
  exact congrArg Int.ofNat h2

theorem drop_set_at (L : List Nat) (k x : Nat) (h : k < L.length) : (L.set k x).drop k = x :: L.drop (k + 1) := by
  rw [List.drop_eq_getElem_cons (by rw [List.length_set]; exact h), List.getElem_set_self, List.drop_set_of_lt (by omega)]

/-- between two rounds of divideShort: the digits from k on are done -/
structure DivI (A : List Nat) (d N k r : Nat) (L : List Nat) : Prop where
  len : L.length = N
  low : Low W2 L
  r1 : r < d
  eq : val W2 (A.drop k) = d * val W2 (L.drop k) + r

theorem DivI.start (A : List Nat) (d N : Nat) (hN : A.length = N) (hd : 0 < d) : DivI A d N N 0 (List.replicate N 0) :=
  ⟨by simp, fun x hx => by rw [(List.mem_replicate.1 hx).2]; decide, hd, by rw [List.drop_of_length_le (by omega), List.drop_of_length_le (by simp)]; simp [val]⟩

theorem DivI.quo {A : List Nat} {d N k r : Nat} {L : List Nat} (h : DivI A d N k r L) (y : Nat) (hy : y < W2) : (r * W2 + y) / d < W2 := by
  have h1 := h.r1
  apply (Nat.div_lt_iff_lt_mul (by omega)).2
  have : (r + 1) * W2 ≤ d * W2 := Nat.mul_le_mul_right _ h1
  rw [Nat.add_mul, Nat.one_mul] at this
  rw [Nat.mul_comm W2 d]
  omega

theorem DivI.next {A : List Nat} {d N k r : Nat} {L : List Nat} (h : DivI A d N k r L) (hk : 0 < k) (h1 : k - 1 < L.length) (h2 : k - 1 < A.length) (hA : Low W2 A) :
    DivI A d N (k - 1) ((r * W2 + A[k - 1]) % d) (L.set (k - 1) ((r * W2 + A[k - 1]) / d)) := by
  refine ⟨by rw [List.length_set]; exact h.len, low_set h.low _ _ (h.quo _ (hA _ (List.getElem_mem h2))), Nat.mod_lt _ (by have := h.r1; omega), ?_⟩
  rw [drop_set_at L (k - 1) _ h1, List.drop_eq_getElem_cons h2, Nat.sub_add_cancel hk, val, val, h.eq]
  have := Nat.div_add_mod (r * W2 + A[k - 1]) d
  generalize (r * W2 + A[k - 1]) / d = q at *
  generalize (r * W2 + A[k - 1]) % d = m at *
  generalize A[k - 1] = y at *
  generalize val W2 (L.drop k) = v at *
  generalize W2 = B at *
  grind

theorem DivI.done {A : List Nat} {d N r : Nat} {L : List Nat} (h : DivI A d N 0 r L) : val W2 L = val W2 A / d ∧ r = val W2 A % d := by
  have h1 := h.eq
  have h2 := h.r1
  rw [List.drop_zero, List.drop_zero] at h1
  rw [h1]
  constructor
  · rw [Nat.mul_add_div (by omega), Nat.div_eq_of_lt h2, Nat.add_zero]
  · rw [Nat.mul_add_mod, Nat.mod_eq_of_lt h2]

end Go.Proofs.YtfpcgjgkbniofaaGreatDoor
