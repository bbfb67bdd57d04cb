/- Clean texts are read without an error; tokens stand in the text. -/
import Derived.Test.YtndlecddgihihaaDoorTexts
import Derived.Test.YtndlecddgihihaaDoorLexLaws
namespace Go.Proofs.YtndlecddgihihaaDoor

theorem parts_ok : ∀ (i : Fin 29) (cm : Bool), okE (lxo 0 cm (partS i.1)) = true ∧ okE (lxo 0 cm (9 :: partS i.1)) = true := by decide +kernel
theorem none_ok : ∀ cm : Bool, okE (lxo 0 cm []) = true ∧ okE (lxo 0 cm [9]) = true := by decide +kernel

def Piece (pt : Bs) : Prop := pt = [] ∨ ∃ i, i < 29 ∧ pt = partS i

theorem piece_ok {pt : Bs} (h : Piece pt) (cm : Bool) : okE (lxo 0 cm pt) = true ∧ okE (lxo 0 cm (9 :: pt)) = true := by
  rcases h with rfl | ⟨i, hi, rfl⟩
  · exact none_ok cm
  · exact parts_ok ⟨i, hi⟩ cm

theorem sepOf_cases (z : Int) : sepOf z = [32] ∨ sepOf z = [10] ∨ sepOf z = [10, 9] := by
  unfold sepOf
  have h := around_range (z.tdiv 29) 3 (by omega)
  generalize around (z.tdiv 29) 3 = q at *
  have hq : q = 0 ∨ q = 1 ∨ q = 2 := by omega
  rcases hq with rfl | rfl | rfl
  · exact .inl rfl
  · exact .inr (.inl rfl)
  · exact .inr (.inr rfl)

theorem ender_32 : Ender 32 := .inl (by decide)
theorem ender_10 : Ender 10 := .inl (by decide)

theorem clean_ok (zs : List Int) : ∀ (k a : Nat) (cm : Bool) (pt : Bs), Piece pt → okE (lxo a cm (textTo cleanOf zs k ++ pt)) = true
  | 0, a, cm, pt, h => by
    show okE (lxo a cm pt) = true
    rw [okE_lxo]; exact (piece_ok h cm).1
  | k + 1, a, cm, pt, h => by
    have hr := around_range (zs[k]?.getD 0) 29 (by omega)
    have ih := clean_ok zs k a cm (partS (around (zs[k]?.getD 0) 29).toNat) (.inr ⟨_, by omega, rfl⟩)
    show okE (lxo a cm ((textTo cleanOf zs k ++ (partS (around (zs[k]?.getD 0) 29).toNat ++ sepOf (zs[k]?.getD 0))) ++ pt)) = true
    rw [← List.append_assoc (textTo cleanOf zs k), List.append_assoc (textTo cleanOf zs k ++ _)]
    rcases sepOf_cases (zs[k]?.getD 0) with e | e | e
    · rw [e]; exact okE_split 32 ender_32 a cm _ pt ih (fun cm => (piece_ok h cm).1)
    · rw [e]; exact okE_split 10 ender_10 a cm _ pt ih (fun cm => (piece_ok h cm).1)
    · rw [e]; exact okE_split 10 ender_10 a cm _ (9 :: pt) ih (fun cm => (piece_ok h cm).2)

theorem lxo_zero (l : Bs) : lxo 0 false l = lx l.length l := by unfold lxo; rw [lx_skip, Nat.zero_add]

theorem ok_of {x : Except (Nat × Int) (List Tok)} (h : okE x = true) : ∃ ts, x = .ok ts := by
  cases x with
  | error e => cases h
  | ok ts => exact ⟨ts, rfl⟩

theorem cleanText_ok (zs : List Int) (len : Nat) : ∃ ts, lxs ⟨(cleanText zs len).toArray⟩ = .ok ts := by
  have h := clean_ok zs (min len 24) 0 false [] (.inl rfl)
  rw [List.append_nil, lxo_zero] at h
  obtain ⟨ts, ht⟩ := ok_of h
  have hl := cleanText_len zs len
  refine ⟨ts, ?_⟩
  unfold lxs
  have hz : (⟨(cleanText zs len).toArray⟩ : ByteArray).size = (cleanText zs len).length := rfl
  rw [if_neg (by omega), hz]
  exact ht

/-- one step through the tokens of a text: the gap ahead of the first one, and the token -/
theorem place_step (s : ByteArray) (k : Nat) (t : Tok) (us : List Tok) (hk : k ≤ s.size) (h : lx s.size (s.data.toList.drop k) = .ok (t :: us)) :
    k ≤ t.at_ ∧ t.at_ + t.text.length ≤ s.size ∧ 0 < t.text.length ∧ lx s.size (s.data.toList.drop (t.at_ + t.text.length)) = .ok us ∧
      s.extract t.at_ (t.at_ + t.text.length) = ⟨t.text.toArray⟩ ∧ (∀ M, lx M (s.extract k t.at_).data.toList = .ok []) := by
  have hl : s.data.toList.length = s.size := by simp
  rw [lx_eq] at h
  cases hs : sk false (s.data.toList.drop k) with
  | nil => rw [hs] at h; cases h
  | cons c r =>
    rw [hs] at h
    simp only [] at h
    cases hx : nx (s.size - (c :: r).length) (c :: r) with
    | error e => rw [hx] at h; cases h
    | ok t' =>
      rw [hx] at h
      simp only [] at h
      cases hy : lx s.size ((c :: r).drop (tl (c :: r))) with
      | error e => rw [hy] at h; cases h
      | ok us' =>
        rw [hy] at h
        have h' : t' :: us' = t :: us := by cases h; rfl
        obtain ⟨rfl, rfl⟩ : t' = t ∧ us' = us := by simpa using h'
        obtain ⟨h0, htx, hat⟩ := nx_ok hx
        have hA : skAt s false k = t'.at_ := by unfold skAt; rw [hs, hat]
        have hD : s.data.toList.drop t'.at_ = c :: r := by rw [← hA, skAt_drop, hs]
        have htl : t'.text.length = tl (c :: r) := by
          rw [htx, List.length_take]; have := tl_le (c :: r); omega
        have hle : (c :: r).length ≤ s.size - k := by
          have := sk_len false (s.data.toList.drop k)
          rw [hs, List.length_drop, hl] at this; exact this
        have htl2 := tl_le (c :: r)
        refine ⟨by omega, by omega, by omega, ?_, ?_, ?_⟩
        · rw [htl, ← List.drop_drop, hD]; exact hy
        · rw [extract_text, hD, htl, ← htx]
        · intro M
          have he : (s.extract k t'.at_).data.toList = (s.data.toList.drop k).take ((s.data.toList.drop k).length - (sk false (s.data.toList.drop k)).length) := by
            rw [hs, List.length_drop, hl, hat]
            have e1 : s.size - (c :: r).length = k + (s.size - k - (c :: r).length) := by omega
            rw [e1, extract_text]
          rw [he, lx_eq, sk_gap]

theorem place_end (s : ByteArray) (k : Nat) (hk : k ≤ s.size) (h : lx s.size (s.data.toList.drop k) = .ok []) : ∀ M, lx M (s.extract k s.size).data.toList = .ok [] := by
  intro M
  have he : (s.extract k s.size).data.toList = s.data.toList.drop k := by
    have e1 : s.size = k + (s.size - k) := by omega
    conv => lhs; rw [e1, extract_text]
    have hl : s.data.toList.length = s.size := by simp
    show (s.data.toList.drop k).take (s.size - k) = _
    rw [List.take_of_length_le (by rw [List.length_drop]; omega)]
  rw [he]
  rw [lx_eq] at h ⊢
  cases hs : sk false (s.data.toList.drop k) with
  | nil => rfl
  | cons c r =>
    rw [hs] at h
    simp only [] at h
    cases hx : nx (s.size - (c :: r).length) (c :: r) with
    | error e => rw [hx] at h; cases h
    | ok t =>
      rw [hx] at h
      simp only [] at h
      cases hy : lx s.size ((c :: r).drop (tl (c :: r))) with
      | error e => rw [hy] at h; cases h
      | ok us => rw [hy] at h; cases h

end Go.Proofs.YtndlecddgihihaaDoor
