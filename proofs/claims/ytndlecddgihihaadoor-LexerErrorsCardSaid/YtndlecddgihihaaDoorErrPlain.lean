/- LexerErrors in plain Lean: the line's start; the text cut at the error and at the end of its line. -/
import Derived.Test.YtndlecddgihihaaDoorLexApart
import Derived.Test.YtndlecddgihihaaDoorClean
namespace Go.Proofs.YtndlecddgihihaaDoor

theorem line_start (s : ByteArray) : ∀ n, coN s (n + 1 - coN s n) = 1 ∧ lnN s (n + 1 - coN s n) = lnN s n
  | 0 => ⟨rfl, rfl⟩
  | n + 1 => by
    have ih := line_start s n
    have hc := coN_le s n
    by_cases h : nl s n = true
    · have e1 : coN s (n + 1) = 1 := by rw [coN, if_pos h]
      have e2 : n + 1 + 1 - coN s (n + 1) = n + 1 := by omega
      rw [e2]
      exact ⟨e1, rfl⟩
    · have e1 : coN s (n + 1) = coN s n + 1 := by rw [coN, if_neg h]
      have e2 : n + 1 + 1 - coN s (n + 1) = n + 1 - coN s n := by omega
      have e3 : lnN s (n + 1) = lnN s n := by rw [lnN, if_neg h]
      rw [e2, e3]
      exact ih

theorem cut_same (l : Bs) (k : Nat) (e : Int) (h : lx l.length l = .error (k, e)) (E : Nat) (hkE : k ≤ E) (hE : E < l.length) (h10 : l[E] = 10) :
    lx (l.take E).length (l.take E) = .error (k, e) := by
  have hl : l = l.take E ++ 10 :: l.drop (E + 1) := by
    conv => lhs; rw [← List.take_append_drop E l, List.drop_eq_getElem_cons hE, h10]
  have hsp := lxo_split 10 (.inl (by decide)) (l.drop (E + 1)) (l.take E).length 0 false (l.take E) (Nat.le_refl _)
  rw [← hl, lxo_zero, lxo_zero, h] at hsp
  cases hx : lx (l.take E).length (l.take E) with
  | error e' => rw [hx] at hsp; exact hsp.symm
  | ok ts =>
    rw [hx] at hsp
    have htl : (l.take E).length = E := by rw [List.length_take]; omega
    cases hy : lxo (0 + (l.take E).length + 1) (nc ((l.take E).foldl nc false) 10) (l.drop (E + 1)) with
    | ok us => rw [hy] at hsp; cases hsp
    | error e' =>
      rw [hy] at hsp
      have he : e' = (k, e) := by cases hsp; rfl
      rw [he] at hy
      unfold lxo at hy
      have hsl := sk_len (nc ((l.take E).foldl nc false) 10) (l.drop (E + 1))
      have := (lx_err _ _ _ k e (Nat.le_refl _) hy).2 (by omega)
      omega

theorem cut_ok (l : Bs) (k : Nat) (e : Int) (h : lx l.length l = .error (k, e)) : k < l.length ∧ ∃ ts, lx (l.take k).length (l.take k) = .ok ts := by
  obtain ⟨_, hk, hok⟩ := prefix_ok l.length l.length l k e (Nat.le_refl _) (Nat.le_refl _) h
  refine ⟨hk, ok_of ?_⟩
  rw [Nat.sub_self, Nat.sub_zero] at hok
  have htl : (l.take k).length = k := by rw [List.length_take]; omega
  have hs := lx_shift (l.take k).length (l.length - k) _ (l.take k) (Nat.le_refl _) (Nat.le_refl _)
  rw [show (l.take k).length + (l.length - k) = l.length by omega] at hs
  rw [hs, okE_shift] at hok
  exact hok

end Go.Proofs.YtndlecddgihihaaDoor
