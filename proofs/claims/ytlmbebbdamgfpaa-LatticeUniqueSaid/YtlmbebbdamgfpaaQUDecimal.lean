/- Decimal texts: plain Lean. -/

set_option linter.unusedVariables false
set_option linter.unusedSimpArgs false
/- Numbers as lists of digits, the least one first, in any base: plain Lean. -/
namespace Go.Proofs.Ytlmbebbdamgfpaa

def val (b : Nat) : List Nat → Nat
 | [] => 0
 | x :: xs => x + b * val b xs

def digsF (b : Nat) : Nat → Nat → List Nat
 | 0, _ => []
 | f + 1, n => if n = 0 then [] else n % b :: digsF b f (n / b)

def digs (b n : Nat) : List Nat := digsF b n n

def Low (b : Nat) (l : List Nat) : Prop := ∀ x ∈ l, x < b

theorem digsF_fuel (b : Nat) (hb : 2 ≤ b) : ∀ (f g n : Nat), n ≤ f → n ≤ g → digsF b f n = digsF b g n
 | 0, 0, _, _, _ => rfl
 | 0, g + 1, n, hf, _ => by
  have : n = 0 := by omega
  subst this
  simp [digsF]
 | f + 1, 0, n, _, hg => by
  have : n = 0 := by omega
  subst this
  simp [digsF]
 | f + 1, g + 1, n, hf, hg => by
  unfold digsF
  by_cases h : n = 0
  ·rw [if_pos h, if_pos h]
  ·rw [if_neg h, if_neg h]
   have h2 : n / b < n := Nat.div_lt_self (by omega) (by omega)
   rw [digsF_fuel b hb f g (n / b) (by omega) (by omega)]

theorem digs_zero (b : Nat) : digs b 0 = [] := rfl

theorem digs_pos (b n : Nat) (hb : 2 ≤ b) (hn : n ≠ 0) : digs b n = n % b :: digs b (n / b) := by
 unfold digs
 cases n with
 | zero => exact absurd rfl hn
 | succ m =>
  have h2 : (m + 1) / b < m + 1 := Nat.div_lt_self (by omega) (by omega)
  conv => lhs; unfold digsF
  rw [if_neg hn, digsF_fuel b hb m ((m + 1) / b) _ (by omega) (Nat.le_refl _)]

theorem val_digs (b : Nat) (hb : 2 ≤ b) (n : Nat) : val b (digs b n) = n := by
 induction n using Nat.strongRecOn with
 | _ n ih =>
  by_cases h : n = 0
  ·subst h; rfl
  ·rw [digs_pos b n hb h, val, ih (n / b) (Nat.div_lt_self (by omega) (by omega))]
   have := Nat.div_add_mod n b
   omega

theorem digs_low (b : Nat) (hb : 2 ≤ b) (n : Nat) : Low b (digs b n) := by
 induction n using Nat.strongRecOn with
 | _ n ih =>
  by_cases h : n = 0
  ·subst h; intro x hx; cases hx
  ·rw [digs_pos b n hb h]
   intro x hx
   rcases List.mem_cons.1 hx with rfl | hx
   ·exact Nat.mod_lt _ (by omega)
   ·exact ih (n / b) (Nat.div_lt_self (by omega) (by omega)) x hx

theorem digs_nil (b n : Nat) (hb : 2 ≤ b) : digs b n = [] ↔ n = 0 := by
 constructor
 ·intro h
  have := val_digs b hb n
  rw [h] at this
  exact this.symm
 ·rintro rfl; rfl

theorem digs_last (b : Nat) (hb : 2 ≤ b) (n : Nat) : (digs b n).getLast? ≠ some 0 := by
 induction n using Nat.strongRecOn with
 | _ n ih =>
  by_cases h : n = 0
  ·subst h; intro h; cases h
  ·rw [digs_pos b n hb h]
   have hlt := Nat.div_lt_self (n := n) (k := b) (by omega) (by omega)
   by_cases h2 : n / b = 0
   ·rw [h2, digs_zero]
    intro h3
    simp at h3
    have := Nat.div_add_mod n b
    rw [h2] at this
    simp at this
    omega
   ·have := ih (n / b) hlt
    have hne : digs b (n / b) ≠ [] := fun h => h2 ((digs_nil b _ hb).1 h)
    rw [List.getLast?_cons]
    cases hd : digs b (n / b) with
    | nil => exact absurd hd hne
    | cons y ys =>
     rw [hd] at this
     rw [List.getLast?_eq_some_getLast (by simp)] at this ⊢
     simpa using this

theorem norm_digs (b : Nat) (hb : 2 ≤ b) : ∀ l : List Nat, Low b l → l.getLast? ≠ some 0 → digs b (val b l) = l
 | [], _, _ => rfl
 | x :: xs, hl, hlast => by
  have hx : x < b := hl x (List.mem_cons_self ..)
  have hxs : Low b xs := fun y hy => hl y (List.mem_cons_of_mem _ hy)
  cases xs with
  | nil =>
   have hx0 : x ≠ 0 := by rintro rfl; exact hlast rfl
   show digs b (x + b * 0) = [x]
   rw [Nat.mul_zero, Nat.add_zero, digs_pos b x hb hx0, Nat.mod_eq_of_lt hx, Nat.div_eq_of_lt hx, digs_zero]
  | cons y ys =>
   have h1 : (y :: ys).getLast? ≠ some 0 := by
    rw [List.getLast?_cons_cons] at hlast; exact hlast
   have ih := norm_digs b hb (y :: ys) hxs h1
   have hv : val b (y :: ys) ≠ 0 := by
    intro h; rw [h] at ih; cases ih
   show digs b (x + b * val b (y :: ys)) = x :: y :: ys
   have hne : x + b * val b (y :: ys) ≠ 0 := by
    have := Nat.mul_pos (show 0 < b by omega) (Nat.pos_of_ne_zero hv)
    omega
   rw [digs_pos b _ hb hne, Nat.add_mul_mod_self_left, Nat.mod_eq_of_lt hx, Nat.add_mul_div_left _ _ (by omega), Nat.div_eq_of_lt hx, Nat.zero_add, ih]

theorem val_append (b : Nat) : ∀ l m : List Nat, val b (l ++ m) = val b l + b ^ l.length * val b m
 | [], m => by simp [val]
 | x :: xs, m => by
  rw [List.cons_append, val, val, val_append b xs m, List.length_cons, Nat.pow_succ]
  grind

theorem val_lt (b : Nat) (hb : 0 < b) : ∀ l : List Nat, Low b l → val b l < b ^ l.length
 | [], _ => by simp [val]
 | x :: xs, hl => by
  have hx : x < b := hl x (List.mem_cons_self ..)
  have ih := val_lt b hb xs (fun y hy => hl y (List.mem_cons_of_mem _ hy))
  rw [val, List.length_cons, Nat.pow_succ]
  have h1 : b * (val b xs + 1) ≤ b * b ^ xs.length := Nat.mul_le_mul_left _ ih
  rw [Nat.mul_add, Nat.mul_one] at h1
  rw [Nat.mul_comm (b ^ xs.length) b]
  omega

theorem val_zeros (b : Nat) : ∀ l : List Nat, (∀ x ∈ l, x = 0) → val b l = 0
 | [], _ => rfl
 | x :: xs, h => by
  rw [val, val_zeros b xs (fun y hy => h y (List.mem_cons_of_mem _ hy)), h x (List.mem_cons_self ..)]
  simp

theorem val_set (b : Nat) : ∀ (l : List Nat) (k x : Nat) (h : k < l.length), val b (l.set k x) + l[k] * b ^ k = val b l + x * b ^ k
 | [], _, _, h => by simp at h
 | y :: ys, 0, x, _ => by simp [val]; omega
 | y :: ys, k + 1, x, h => by
  have ih := val_set b ys k x (by simpa using h)
  rw [List.set_cons_succ, val, val, List.getElem_cons_succ, Nat.pow_succ]
  grind

theorem val_take_succ (b : Nat) (l : List Nat) (k : Nat) (h : k < l.length) : val b (l.take (k + 1)) = val b (l.take k) + l[k] * b ^ k := by
 rw [List.take_succ_eq_append_getElem h, val_append, List.length_take, Nat.min_eq_left (by omega)]
 simp [val, Nat.mul_comm]

theorem val_take_zeros (b : Nat) (l : List Nat) (n : Nat) (hz : ∀ j (h : j < l.length), n ≤ j → l[j] = 0) : val b l = val b (l.take n) := by
 conv => lhs; rw [← List.take_append_drop n l]
 rw [val_append, val_zeros b (l.drop n), Nat.mul_zero, Nat.add_zero]
 intro x hx
 obtain ⟨i, hi, rfl⟩ := List.getElem_of_mem hx
 rw [List.getElem_drop]
 exact hz _ _ (by omega)

/-- what trim leaves -/
theorem take_digs (b : Nat) (hb : 2 ≤ b) (l : List Nat) (hl : Low b l) (n : Nat) (hn : n ≤ l.length) (hz : ∀ j (h : j < l.length), n ≤ j → l[j] = 0) (hlast : ∀ h : n - 1 < l.length, n = 0 ∨ l[n - 1] ≠ 0) : l.take n = digs b (val b l) := by
 rw [val_take_zeros b l n hz, norm_digs b hb]
 ·intro x hx; exact hl x (List.mem_of_mem_take hx)
 ·intro h
  cases n with
  | zero => simp at h
  | succ n =>
   have hlt : n < l.length := by omega
   rw [List.take_succ_eq_append_getElem hlt, List.getLast?_concat] at h
   have := hlast (by simpa using hlt)
   simp at this h
   exact this h

theorem digs_len_le (b : Nat) (hb : 2 ≤ b) : ∀ (k n : Nat), n < b ^ k → (digs b n).length ≤ k
 | 0, n, h => by
  have : n = 0 := by simpa using h
  subst this; simp [digs_zero]
 | k + 1, n, h => by
  by_cases h0 : n = 0
  ·subst h0; simp [digs_zero]
  ·rw [digs_pos b n hb h0, List.length_cons]
   have := digs_len_le b hb k (n / b) (by rw [Nat.div_lt_iff_lt_mul (by omega)]; rw [Nat.pow_succ] at h; exact h)
   omega

theorem digs_len_ge (b : Nat) (hb : 2 ≤ b) (k n : Nat) (h : b ^ k ≤ n) : k < (digs b n).length := by
 have h1 := val_lt b (by omega) (digs b n) (digs_low b hb n)
 rw [val_digs b hb] at h1
 exact (Nat.pow_lt_pow_iff_right (by omega)).1 (Nat.lt_of_le_of_lt h h1)

theorem digs_len_mono (b : Nat) (hb : 2 ≤ b) (m n : Nat) (h : m ≤ n) : (digs b m).length ≤ (digs b n).length := by
 apply digs_len_le b hb
 have h1 := val_lt b (by omega) (digs b n) (digs_low b hb n)
 rw [val_digs b hb] at h1
 omega

theorem lt_of_len (b : Nat) (hb : 2 ≤ b) (m n : Nat) (h : (digs b m).length < (digs b n).length) : m < n := by
 rcases Nat.lt_or_ge m n with h1 | h1
 ·exact h1
 ·have := digs_len_mono b hb n m h1; omega

/-- two numbers whose digits agree above one place -/
theorem val_lt_at (b : Nat) (hb : 2 ≤ b) (l m : List Nat) (hl : Low b l) (i : Nat) (h1 : i < l.length) (h2 : i < m.length) (hd : l.drop (i + 1) = m.drop (i + 1)) (hlt : l[i] < m[i]) : val b l < val b m := by
 have e1 : val b l = val b (l.take (i + 1)) + b ^ (i + 1) * val b (l.drop (i + 1)) := by
  conv => lhs; rw [← List.take_append_drop (i + 1) l, val_append, List.length_take, Nat.min_eq_left (by omega)]
 have e2 : val b m = val b (m.take (i + 1)) + b ^ (i + 1) * val b (m.drop (i + 1)) := by
  conv => lhs; rw [← List.take_append_drop (i + 1) m, val_append, List.length_take, Nat.min_eq_left (by omega)]
 rw [e1, e2, hd, val_take_succ b l i h1, val_take_succ b m i h2]
 have h3 := val_lt b (by omega) (l.take i) (fun x hx => hl x (List.mem_of_mem_take hx))
 rw [List.length_take, Nat.min_eq_left (by omega)] at h3
 have h4 : (l[i] + 1) * b ^ i ≤ m[i] * b ^ i := Nat.mul_le_mul_right _ hlt
 rw [Nat.add_mul, Nat.one_mul] at h4
 omega

theorem low_set {b : Nat} {l : List Nat} (hl : Low b l) (k x : Nat) (hx : x < b) : Low b (l.set k x) := by
 intro y hy
 rcases List.mem_or_eq_of_mem_set hy with h | rfl
 ·exact hl y h
 ·exact hx

theorem low_append {b : Nat} {l m : List Nat} (hl : Low b l) (hm : Low b m) : Low b (l ++ m) := by
 intro y hy
 rcases List.mem_append.1 hy with h | h
 ·exact hl y h
 ·exact hm y h

theorem low_take {b : Nat} {l : List Nat} (hl : Low b l) (n : Nat) : Low b (l.take n) := fun x hx => hl x (List.mem_of_mem_take hx)

end Go.Proofs.Ytlmbebbdamgfpaa
namespace Go.Proofs.Ytlmbebbdamgfpaa
abbrev Tx := List UInt8

end Go.Proofs.Ytlmbebbdamgfpaa
