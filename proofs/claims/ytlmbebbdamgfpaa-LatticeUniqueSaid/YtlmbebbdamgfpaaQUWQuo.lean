/- wide: Div at all numbers; the divisor 0; the law of the quotient. -/
import Derived.Test.YtlmbebbdamgfpaaQUWDivL
import Derived.Test.YtlmbebbdamgfpaaQUWSmall
import Derived.Test.YtlmbebbdamgfpaaQUWDiv
set_option linter.unusedVariables false
set_option linter.unusedSimpArgs false
set_option linter.unusedVariables false
set_option linter.unusedSimpArgs false
namespace Go.Proofs.Ytlmbebbdamgfpaa
open Go.RowKit

theorem divok_all {m d : Nat} (hd0 : d ≠ 0) (hm : m < LIM) (hd2 : d < LIM) : DivOk m d := by
 by_cases h : m < d ∨ d < W2
 ·exact divok_short hd0 hm h hd2
 ·exact fun w va vb ha hb => divide_long va vb m d w ha hb hm (by omega) (by omega)

theorem wdiv_any (vx vy : Value) (x y : Int) (w : World) (hx : WInt w vx x) (hy : WInt w vy y) (hy0 : y ≠ 0) (hlx : x.natAbs < LIM) (hly : y.natAbs < LIM) :
 Calls Try.prog 43 #[vx, vy] w (DivRet x y w) := div_any vx vy x y w hx hy hy0 hlx hly (divok_all (by omega) hlx hly)

theorem div_law (x y : Int) (hy : y ≠ 0) : qOf x y * y + (rOf x y : Int) = x ∧ rOf x y < y.natAbs := by
 have hp : 0 < y.natAbs := by omega
 have h1 := Nat.div_add_mod x.natAbs y.natAbs
 have h2 := Nat.mod_lt x.natAbs hp
 have hym : ∀ (s : Bool) (k : Nat), sgn (s != decide (y < 0)) k * y = sgn s (y.natAbs * k) := by
  intro s k
  have e : ((y.natAbs * k : Nat) : Int) = (y.natAbs : Int) * (k : Int) := Int.natCast_mul _ _
  unfold sgn
  rw [e]
  by_cases h : y < 0
  ·have hy2 : y = -(y.natAbs : Int) := by omega
   rw [decide_eq_true h]
   generalize (y.natAbs : Int) = a at *
   subst hy2
   cases s <;> simp [Int.mul_comm, Int.mul_neg, Int.neg_mul]
  ·have hy2 : y = (y.natAbs : Int) := by omega
   rw [decide_eq_false h]
   generalize (y.natAbs : Int) = a at *
   subst hy2
   cases s <;> simp [Int.mul_comm, Int.mul_neg, Int.neg_mul]
 by_cases h : x < 0 ∧ x.natAbs % y.natAbs ≠ 0
 ·obtain ⟨hq, hr⟩ := qOf_neg h
  rw [hq, hr, hym, decide_eq_true h.1]
  refine ⟨?_, by omega⟩
  unfold sgn
  rw [if_pos rfl, Nat.mul_add, Nat.mul_one]
  have := h.1
  omega
 ·obtain ⟨hq, hr⟩ := qOf_pos h
  rw [hq, hr, hym]
  refine ⟨?_, h2⟩
  by_cases hx : x < 0
  ·rw [decide_eq_true hx]
   have h0 : x.natAbs % y.natAbs = 0 := by
    rcases Nat.eq_zero_or_pos (x.natAbs % y.natAbs) with h3 | h3
    ·exact h3
    ·exact absurd ⟨hx, by omega⟩ h
   unfold sgn
   rw [if_pos rfl, h0]
   rw [h0] at h1
   omega
  ·rw [decide_eq_false hx]
   unfold sgn
   rw [if_neg (by simp)]
   omega

end Go.Proofs.Ytlmbebbdamgfpaa
