/- LexerApart in plain Lean: separators, lengths, the same tokens. -/
import Derived.Test.YtndlecddgihihaaDoorLexApart
import Derived.Test.YtndlecddgihihaaDoorClean
import Derived.Test.YtndlecddgihihaaDoorPick
namespace Go.Proofs.YtndlecddgihihaaDoor

def sepA : List Bs := [[32], [10], [32, 9], [35, 120, 10]]
def sepAt (hs : List Int) (len i : Nat) : Bs := sepA.getD (pickN hs len i 4).toNat []

theorem sepA_is (q : Int) (h0 : 0 ≤ q) (h1 : q < 4) : IsSep (sepA.getD q.toNat []) := by
  have hq : q = 0 ∨ q = 1 ∨ q = 2 ∨ q = 3 := by omega
  rcases hq with rfl | rfl | rfl | rfl
  · exact .inl rfl
  · exact .inr (.inl rfl)
  · exact .inr (.inr (.inl rfl))
  · exact .inr (.inr (.inr rfl))

theorem sepAt_is (hs : List Int) (len i : Nat) : IsSep (sepAt hs len i) := by
  have h := pickN_range hs len i 4 (by omega)
  exact sepA_is _ h.1 h.2

theorem IsSep.len {l : Bs} (h : IsSep l) : l.length ≤ 3 := by
  rcases h with rfl | rfl | rfl | rfl <;> decide

theorem SameToks.of_sameK {xs ys : List Tok} (h : SameK xs ys) : SameToks false xs ys := by
  unfold SameK at h
  have hl : xs.length = ys.length := by simpa using congrArg List.length h
  refine ⟨hl, fun i h1 h2 => ?_⟩
  have he : (xs.map (fun t => (t.kind, t.text, t.n)))[i]'(by simpa using h1) = (ys.map (fun t => (t.kind, t.text, t.n)))[i]'(by simpa using h2) := by
    simp only [h]
  simp only [List.getElem_map, Prod.mk.injEq] at he
  exact ⟨he.1, he.2.1, he.2.2, fun h => by cases h⟩

theorem lx_lens (N : Nat) : ∀ (n : Nat) (l : Bs) (ts : List Tok), l.length ≤ n → lx N l = .ok ts → (ts.map fun t => t.text.length).sum ≤ l.length ∧ ts.length ≤ l.length
  | 0, l, ts, hl, h => by
    have : l = [] := List.eq_nil_of_length_eq_zero (by omega)
    subst this
    rw [lx_eq] at h
    cases h
    simp
  | n + 1, l, ts, hl, h => by
    rw [lx_eq] at h
    have hk := sk_len false l
    cases hs : sk false l with
    | nil => rw [hs] at h; cases h; simp
    | cons c r =>
      rw [hs] at h hk
      simp only [] at h
      cases hx : nx (N - (c :: r).length) (c :: r) with
      | error e => rw [hx] at h; cases h
      | ok t' =>
        rw [hx] at h
        simp only [] at h
        obtain ⟨h0, htx, hat⟩ := nx_ok hx
        have htl := tl_le (c :: r)
        cases hy : lx N ((c :: r).drop (tl (c :: r))) with
        | error e => rw [hy] at h; cases h
        | ok us' =>
          rw [hy] at h
          have hd : ((c :: r).drop (tl (c :: r))).length = (c :: r).length - tl (c :: r) := List.length_drop
          have ih := lx_lens N n _ us' (by omega) hy
          have htt : t'.text.length = tl (c :: r) := by rw [htx, List.length_take]; omega
          have h' : ts = t' :: us' := by cases h; rfl
          subst h'
          rw [List.map_cons, List.sum_cons, List.length_cons]
          omega

theorem apartTo_len (sep : Nat → Bs) (ts : List Tok) (hsep : ∀ i, IsSep (sep i)) : ∀ i, i ≤ ts.length → (apartTo sep ts i).length ≤ 3 * i + ((ts.take i).map fun t => t.text.length).sum
  | 0, _ => by simp [apartTo]
  | i + 1, hi => by
    have ih := apartTo_len sep ts hsep i (by omega)
    have hit : i < ts.length := by omega
    have hs := (hsep i).len
    have htext : (ts[i]?.map Tok.text).getD [] = ts[i].text := by rw [List.getElem?_eq_getElem hit]; rfl
    have htake : ts.take (i + 1) = ts.take i ++ [ts[i]] := by rw [List.take_succ_eq_append_getElem hit]
    rw [apartTo, htext, htake, List.map_append, List.sum_append, List.length_append, List.length_append, List.map_cons, List.map_nil, List.sum_cons, List.sum_nil]
    omega

theorem sum_take_le : ∀ (xs : List Nat) (i : Nat), (xs.take i).sum ≤ xs.sum
  | [], i => by simp
  | x :: xs, 0 => by simp
  | x :: xs, i + 1 => by
    have := sum_take_le xs i
    simp
    omega

theorem apartTo_bound (sep : Nat → Bs) (ts : List Tok) (hsep : ∀ i, IsSep (sep i)) (N : Nat) (l : Bs) (hl : l.length ≤ 456) (h : lx N l = .ok ts) (i : Nat) (hi : i ≤ ts.length) : (apartTo sep ts i).length ≤ 1824 := by
  have h1 := apartTo_len sep ts hsep i hi
  have h2 := lx_lens N l.length l ts (Nat.le_refl _) h
  have h3 := sum_take_le (ts.map fun t => t.text.length) i
  rw [← List.map_take] at h3
  omega

end Go.Proofs.YtndlecddgihihaaDoor
