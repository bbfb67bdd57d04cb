/- Tokens of joined texts: plain laws. -/
import Derived.Test.YtndlecddgihihaaDoorLexPlain
namespace Go.Proofs.YtndlecddgihihaaDoor

theorem sk_append_nil : ∀ (p : Bs) (cm : Bool) (r : Bs), sk cm p = [] → sk cm (p ++ r) = sk (p.foldl nc cm) r
  | [], _, _, _ => rfl
  | c :: p, cm, r, h => by
    rw [sk_cons] at h
    rw [List.cons_append, sk_cons, List.foldl_cons]
    by_cases hs : nc cm c = false ∧ cl c ≠ 0
    · rw [if_pos hs] at h; cases h
    · rw [if_neg hs] at h; rw [if_neg hs]; exact sk_append_nil p _ r h

theorem sk_append_cons : ∀ (p : Bs) (cm : Bool) (r : Bs) (c : UInt8) (p' : Bs), sk cm p = c :: p' → sk cm (p ++ r) = c :: (p' ++ r)
  | [], _, _, _, _, h => by cases h
  | d :: p, cm, r, c, p', h => by
    rw [sk_cons] at h
    rw [List.cons_append, sk_cons]
    by_cases hs : nc cm d = false ∧ cl d ≠ 0
    · rw [if_pos hs] at h; rw [if_pos hs]; cases h; rfl
    · rw [if_neg hs] at h; rw [if_neg hs]; exact sk_append_cons p _ r c p' h

theorem takeWhile_stop (f : UInt8 → Bool) : ∀ (l : Bs) (b : UInt8) (q : Bs), f b = false → (l ++ b :: q).takeWhile f = l.takeWhile f
  | [], b, q, h => by simp [h]
  | c :: l, b, q, h => by
    rw [List.cons_append, List.takeWhile_cons, List.takeWhile_cons, takeWhile_stop f l b q h]

/-- a byte that ends every token -/
def Ender (b : UInt8) : Prop := cl b = 0 ∨ cl b = 5

theorem ender_wb {b : UInt8} (h : Ender b) : wb b = false := by
  unfold wb; rcases h with h | h <;> simp [h]
theorem ender_db {b : UInt8} (h : Ender b) : db b = false := by
  unfold db; rcases h with h | h <;> simp [h]
theorem ender_62 {b : UInt8} (h : Ender b) : b ≠ 62 := by
  intro e; subst e; revert h; unfold Ender; decide

theorem tl_stop (c : UInt8) (p : Bs) (b : UInt8) (q : Bs) (hb : Ender b) : tl (c :: (p ++ b :: q)) = tl (c :: p) := by
  rw [tl, tl, takeWhile_stop wb p b q (ender_wb hb), takeWhile_stop db p b q (ender_db hb)]
  have hh : ((p ++ b :: q).head? = some 62) ↔ (p.head? = some 62) := by
    cases p with
    | nil => simp; exact ender_62 hb
    | cons d p => simp
  by_cases h : p.head? = some 62
  · rw [if_pos h, if_pos (hh.2 h)]
  · rw [if_neg h, if_neg (fun e => h (hh.1 e))]

theorem nx_stop (a : Nat) (c : UInt8) (p : Bs) (b : UInt8) (q : Bs) (hb : Ender b) : nx a (c :: (p ++ b :: q)) = nx a (c :: p) := by
  have h1 := tl_stop c p b q hb
  have h2 : (c :: (p ++ b :: q)).take (tl (c :: p)) = (c :: p).take (tl (c :: p)) := by
    have := tl_le (c :: p)
    rw [← List.cons_append, List.take_append_of_le_length this]
  unfold nx
  simp only [h1, h2]

/-- bytes that leave the state 'no comment' as it is -/
theorem nc_plain {c : UInt8} (h0 : cl c ≠ 0) (h5 : cl c ≠ 5) (cm : Bool) : nc cm c = cm := by
  have h35 : ¬ c.toNat = 35 := fun e => h5 ((cl_hash c).1.2 e)
  have h10 : ¬ c.toNat = 10 := fun e => h0 ((cl_hash c).2.2.1 e)
  simp [nc, h35, h10]

theorem takeWhile_all (f : UInt8 → Bool) (l : Bs) : ∀ x ∈ l.takeWhile f, f x = true := by
  induction l with
  | nil => simp
  | cons c l ih =>
    intro x hx
    rw [List.takeWhile_cons] at hx
    by_cases h : f c = true
    · rw [if_pos h] at hx
      rcases List.mem_cons.1 hx with rfl | hx
      · exact h
      · exact ih x hx
    · rw [if_neg h] at hx; cases hx

theorem take_takeWhile (f : UInt8 → Bool) (l : Bs) : l.take (l.takeWhile f).length = l.takeWhile f := by
  induction l with
  | nil => rfl
  | cons c l ih =>
    rw [List.takeWhile_cons]
    by_cases h : f c = true
    · rw [if_pos h, List.length_cons, List.take_succ_cons, ih]
    · rw [if_neg h]; rfl

theorem tok_plain (c : UInt8) (p : Bs) : ∀ x ∈ (c :: p).take (tl (c :: p)), cl x ≠ 0 ∧ cl x ≠ 5 := by
  intro x hx
  have hw : ∀ y, wb y = true → cl y ≠ 0 ∧ cl y ≠ 5 := by intro y hy; simp [wb] at hy; omega
  have hd : ∀ y, db y = true → cl y ≠ 0 ∧ cl y ≠ 5 := by intro y hy; simp [db] at hy; omega
  rw [tl] at hx
  by_cases a1 : cl c = 1
  · rw [if_pos a1, Nat.add_comm, List.take_succ_cons, take_takeWhile] at hx
    rcases List.mem_cons.1 hx with rfl | hx
    · omega
    · exact hw x (takeWhile_all wb p x hx)
  · by_cases a2 : cl c = 2
    · rw [if_neg a1, if_pos a2, Nat.add_comm, List.take_succ_cons, take_takeWhile] at hx
      rcases List.mem_cons.1 hx with rfl | hx
      · omega
      · exact hd x (takeWhile_all db p x hx)
    · by_cases a4 : cl c = 4
      · rw [if_neg a1, if_neg a2, if_pos a4] at hx
        simp at hx; subst hx; omega
      · by_cases a6 : cl c = 6
        · rw [if_neg a1, if_neg a2, if_neg a4, if_pos a6] at hx
          by_cases h : p.head? = some 62
          · rw [if_pos h] at hx
            cases p with
            | nil => simp at h
            | cons d p =>
              simp at h; subst h
              simp at hx
              rcases hx with rfl | rfl
              · omega
              · decide
          · rw [if_neg h] at hx; simp at hx
        · rw [if_neg a1, if_neg a2, if_neg a4, if_neg a6] at hx; simp at hx

theorem fold_plain : ∀ (l : Bs) (cm : Bool), (∀ x ∈ l, cl x ≠ 0 ∧ cl x ≠ 5) → l.foldl nc cm = cm
  | [], _, _ => rfl
  | c :: l, cm, h => by
    rw [List.foldl_cons, nc_plain (h c (List.mem_cons_self ..)).1 (h c (List.mem_cons_self ..)).2]
    exact fold_plain l cm fun x hx => h x (List.mem_cons_of_mem _ hx)

/-- the state where a token stands -/
theorem fold_sk : ∀ (p : Bs) (cm : Bool) (c : UInt8) (r : Bs), sk cm p = c :: r → p.foldl nc cm = (c :: r).foldl nc false
  | [], _, _, _, h => by cases h
  | d :: p, cm, c, r, h => by
    rw [sk_cons] at h
    by_cases hs : nc cm d = false ∧ cl d ≠ 0
    · rw [if_pos hs] at h
      obtain ⟨rfl, rfl⟩ : d = c ∧ p = r := by simpa using h
      have h5 : cl d ≠ 5 := by
        intro e
        have h35 := (cl_hash d).1.1 e
        have := hs.1
        simp [nc, h35] at this
      rw [List.foldl_cons, List.foldl_cons, hs.1, nc_plain hs.2 h5]
    · rw [if_neg hs] at h
      rw [List.foldl_cons]
      exact fold_sk p _ c r h

/-- tokens from a state, at an offset -/
def lxo (a : Nat) (cm : Bool) (l : Bs) : Except (Nat × Int) (List Tok) := lx (a + l.length) (sk cm l)

def joinE (x y : Except (Nat × Int) (List Tok)) : Except (Nat × Int) (List Tok) :=
  match x with
  | .error e => .error e
  | .ok ts => match y with
    | .error e => .error e
    | .ok us => .ok (ts ++ us)

theorem joinE_nil (y : Except (Nat × Int) (List Tok)) : joinE (.ok []) y = y := by cases y <;> rfl

theorem lxo_split (b : UInt8) (hb : Ender b) (q : Bs) : ∀ (n a : Nat) (cm : Bool) (p : Bs), p.length ≤ n →
    lxo a cm (p ++ b :: q) = joinE (lxo a cm p) (lxo (a + p.length + 1) (nc (p.foldl nc cm) b) q) := by
  intro n
  induction n with
  | zero =>
    intro a cm p hp
    obtain rfl : p = [] := List.length_eq_zero_iff.1 (by omega)
    have hns : ¬ (nc cm b = false ∧ cl b ≠ 0) := by
      rcases hb with h | h
      · simp [h]
      · have h35 := (cl_hash b).1.1 h
        simp [nc, h35]
    have e1 : lxo a cm [] = .ok [] := by unfold lxo; rw [lx_eq]; rfl
    rw [e1, joinE_nil]
    unfold lxo
    rw [List.nil_append, sk_cons, if_neg hns]
    simp only [List.length_cons, List.length_nil, List.foldl_nil]
    rw [show a + (q.length + 1) = a + 0 + 1 + q.length by omega]
  | succ n ih =>
    intro a cm p hp
    cases hs : sk cm p with
    | nil =>
      have hns : ¬ (nc (p.foldl nc cm) b = false ∧ cl b ≠ 0) := by
        rcases hb with h | h
        · simp [h]
        · have h35 := (cl_hash b).1.1 h
          simp [nc, h35]
      have e1 : lxo a cm p = .ok [] := by unfold lxo; rw [hs, lx_eq]; rfl
      rw [e1, joinE_nil]
      unfold lxo
      rw [sk_append_nil p cm _ hs, sk_cons, if_neg hns, List.length_append, List.length_cons]
      rw [show a + (p.length + (q.length + 1)) = a + p.length + 1 + q.length by omega]
    | cons c r =>
      have hlen : (c :: r).length ≤ p.length := by rw [← hs]; exact sk_len _ _
      have hskA := sk_append_cons p cm (b :: q) c r hs
      have h1 : lxo a cm (p ++ b :: q) = match nx (a + p.length - (c :: r).length) (c :: r) with
          | .error e => .error (a + p.length - (c :: r).length, e)
          | .ok t => match lx (a + (p ++ b :: q).length) ((c :: r).drop (tl (c :: r)) ++ b :: q) with
            | .error x => .error x
            | .ok ts => .ok (t :: ts) := by
        unfold lxo
        rw [lx_sk, hskA]
        simp only []
        have e1 : a + (p ++ b :: q).length - (c :: (r ++ b :: q)).length = a + p.length - (c :: r).length := by
          simp only [List.length_append, List.length_cons] at hlen ⊢; omega
        have e2 : (c :: (r ++ b :: q)).drop (tl (c :: (r ++ b :: q))) = (c :: r).drop (tl (c :: r)) ++ b :: q := by
          rw [tl_stop c r b q hb, ← List.cons_append, List.drop_append_of_le_length (tl_le _)]
        rw [e1, nx_stop _ c r b q hb, e2]
        rfl
      have h2 : lxo a cm p = match nx (a + p.length - (c :: r).length) (c :: r) with
          | .error e => .error (a + p.length - (c :: r).length, e)
          | .ok t => match lx (a + p.length) ((c :: r).drop (tl (c :: r))) with
            | .error x => .error x
            | .ok ts => .ok (t :: ts) := by
        unfold lxo
        rw [lx_sk, hs]
        rfl
      rw [h1, h2]
      cases hn : nx (a + p.length - (c :: r).length) (c :: r) with
      | error e => rfl
      | ok t =>
        simp only []
        have h0 := (nx_ok hn).1
        obtain ⟨p2, hp2⟩ : ∃ p2, (c :: r).drop (tl (c :: r)) = p2 := ⟨_, rfl⟩
        have hl2 : p2.length = (c :: r).length - tl (c :: r) := by rw [← hp2, List.length_drop]
        have hlt : p2.length < p.length := by
          have : 0 < (c :: r).length := by simp
          omega
        rw [hp2]
        have hfold : p2.foldl nc false = p.foldl nc cm := by
          rw [fold_sk p cm c r hs, ← List.take_append_drop (tl (c :: r)) (c :: r), List.foldl_append, fold_plain _ _ (tok_plain c r), hp2]
        have hih := ih (a + p.length - p2.length) false p2 (by omega)
        unfold lxo at hih
        rw [lx_skip, lx_skip, hfold] at hih
        have e3 : a + p.length - p2.length + (p2 ++ b :: q).length = a + (p ++ b :: q).length := by simp only [List.length_append]; omega
        have e4 : a + p.length - p2.length + p2.length = a + p.length := by omega
        rw [e3, e4] at hih
        rw [hih]
        unfold lxo
        cases lx (a + p.length) p2 with
        | error x => rfl
        | ok ts =>
          simp only [joinE]
          cases lx (a + p.length + 1 + q.length) (sk (nc (p.foldl nc cm) b) q) with
          | error x => rfl
          | ok us => rfl

end Go.Proofs.YtndlecddgihihaaDoor
