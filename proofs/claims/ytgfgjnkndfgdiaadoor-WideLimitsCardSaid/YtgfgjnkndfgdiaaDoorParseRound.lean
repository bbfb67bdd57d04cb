/- What Parse reads is what String writes: plain Lean. -/
import Derived.Test.YtgfgjnkndfgdiaaDoorR5Parse
namespace Go.Proofs.YtgfgjnkndfgdiaaDoor

theorem dch_of (c : UInt8) (h : IsDig c) : dch (c.toNat - 48) = c := by
  unfold dch
  unfold IsDig at h
  apply UInt8.toNat_inj.1
  rw [UInt8.toNat_ofNat']
  omega

theorem decP_dvT : ∀ (n : Nat) (ds : Tx), ds.length = n → (∀ c ∈ ds, IsDig c) → ds ≠ [] → ds.head? ≠ some 48 → decP (dvT 0 ds) = ds ∧ dvT 0 ds ≠ 0
  | 0, ds, hl, _, hne, _ => absurd (List.eq_nil_of_length_eq_zero hl) hne
  | n + 1, ds, hl, hd, hne, hh => by
    have e : ds.dropLast ++ [ds.getLast hne] = ds := List.dropLast_concat_getLast hne
    obtain ⟨c, hc⟩ : ∃ c, ds.getLast hne = c := ⟨_, rfl⟩
    obtain ⟨l, hll⟩ : ∃ l, ds.dropLast = l := ⟨_, rfl⟩
    rw [hc, hll] at e
    subst e
    have hcd : IsDig c := hd c (by simp)
    have hcd' := hcd
    unfold IsDig at hcd'
    have hs : dvT 0 (l ++ [c]) = 10 * dvT 0 l + (c.toNat - 48) := dvT_snoc l c
    rcases l with _ | ⟨x, l⟩
    · have h0 : dvT 0 ([] : Tx) = 0 := rfl
      rw [h0] at hs
      have hc48 : c ≠ 48 := fun e => hh (by rw [e]; rfl)
      have hn : c.toNat ≠ 48 := fun e => hc48 (UInt8.toNat_inj.1 (by rw [e]; rfl))
      have hne2 : dvT 0 ([] ++ [c]) ≠ 0 := by rw [hs]; omega
      refine ⟨?_, hne2⟩
      rw [decP_pos _ hne2, hs, show (10 * 0 + (c.toNat - 48)) / 10 = 0 by omega, decP_zero, show (10 * 0 + (c.toNat - 48)) % 10 = c.toNat - 48 by omega, dch_of c hcd]
    · have ih := decP_dvT n (x :: l) (by simp at hl ⊢; omega) (fun y hy => hd y (List.mem_append_left _ hy)) (by simp) (by simpa using hh)
      have hne2 : dvT 0 (x :: l ++ [c]) ≠ 0 := by rw [hs]; have := ih.2; omega
      refine ⟨?_, hne2⟩
      rw [decP_pos _ hne2, hs, show (10 * dvT 0 (x :: l) + (c.toNat - 48)) / 10 = dvT 0 (x :: l) by omega, ih.1, show (10 * dvT 0 (x :: l) + (c.toNat - 48)) % 10 = c.toNat - 48 by omega, dch_of c hcd]

theorem parseD_ok {neg : Bool} {ds : Tx} {z : Int} (h : parseD neg ds = .ok z) : ¬ badHead neg ds ∧ (∀ c ∈ ds, IsDig c) ∧ z = sgn neg (dvT 0 ds) := by
  unfold parseD at h
  by_cases h1 : ds = [] ∨ (ds.head? = some 48 ∧ (neg = true ∨ 1 < ds.length))
  · rw [if_pos h1] at h; cases h
  · rw [if_neg h1] at h
    by_cases h2 : ∀ c ∈ ds, 48 ≤ c.toNat ∧ c.toNat ≤ 57
    · rw [if_pos h2] at h
      by_cases h3 : dvT 0 ds < LIM
      · rw [if_pos h3] at h
        injection h with h
        exact ⟨h1, h2, h.symm⟩
      · rw [if_neg h3] at h; cases h
    · rw [if_neg h2] at h; cases h

theorem parse_round (s : Tx) (z : Int) (h : parseS s = .ok z) : decZ z = s := by
  by_cases hlong : 5000 < s.length
  · unfold parseS at h; rw [if_pos hlong] at h; cases h
  rcases s with _ | ⟨c, t⟩
  · have : parseS [] = .error 2 := by unfold parseS; simp
    rw [this] at h; cases h
  have hl : ¬ 5000 < t.length + 1 := by simpa using hlong
  by_cases hc : c = 45
  · subst hc
    rw [parseS_neg t hl] at h
    obtain ⟨h1, h2, rfl⟩ := parseD_ok h
    have hne : t ≠ [] := fun e => h1 (.inl e)
    have hh : t.head? ≠ some 48 := fun e => h1 (.inr ⟨e, .inl rfl⟩)
    obtain ⟨i1, i2⟩ := decP_dvT t.length t rfl h2 hne hh
    have hz : sgn true (dvT 0 t) < 0 := by show -((dvT 0 t : Nat) : Int) < 0; omega
    unfold decZ
    rw [if_pos hz, sgn_natAbs]
    unfold dec
    rw [if_neg i2, i1]
  · rw [parseS_pos c t hc hl] at h
    obtain ⟨h1, h2, rfl⟩ := parseD_ok h
    have hz : ¬ sgn false (dvT 0 (c :: t)) < 0 := by show ¬ ((dvT 0 (c :: t) : Nat) : Int) < 0; omega
    unfold decZ
    rw [if_neg hz, sgn_natAbs]
    by_cases h48 : c = 48
    · subst h48
      have ht : t = [] := by
        rcases t with _ | ⟨x, t⟩
        · rfl
        · exact absurd (.inr ⟨rfl, .inr (by simp)⟩) h1
      subst ht
      rfl
    · obtain ⟨i1, i2⟩ := decP_dvT (c :: t).length (c :: t) rfl h2 (by simp) (by simpa using h48)
      unfold dec
      rw [if_neg i2, i1]

theorem parseD_cases (neg : Bool) (ds : Tx) : parseD neg ds = .error 2 ∨ parseD neg ds = .error 4 ∨ ∃ z, parseD neg ds = .ok z ∧ z.natAbs < LIM := by
  unfold parseD
  by_cases h1 : ds = [] ∨ (ds.head? = some 48 ∧ (neg = true ∨ 1 < ds.length))
  · rw [if_pos h1]; exact .inl rfl
  · rw [if_neg h1]
    by_cases h2 : ∀ c ∈ ds, 48 ≤ c.toNat ∧ c.toNat ≤ 57
    · rw [if_pos h2]
      by_cases h3 : dvT 0 ds < LIM
      · rw [if_pos h3]
        exact .inr (.inr ⟨_, rfl, by split <;> simpa using h3⟩)
      · rw [if_neg h3]; exact .inr (.inl rfl)
    · rw [if_neg h2]; exact .inl rfl
/-- an error of Parse is ErrForm or ErrLimit -/
theorem parse_cases (s : Tx) : parseS s = .error 2 ∨ parseS s = .error 4 ∨ ∃ z, parseS s = .ok z ∧ z.natAbs < LIM := by
  by_cases hlong : 5000 < s.length
  · unfold parseS; rw [if_pos hlong]; exact .inr (.inl rfl)
  · rw [parseS_cut s hlong]
    exact parseD_cases _ _

end Go.Proofs.YtgfgjnkndfgdiaaDoor
