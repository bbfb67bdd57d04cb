/- Plain functions of the lexer's proofs: classes of bytes, skipping, the token at an offset, the tokens of a text, over lists of bytes; no program in sight. -/
namespace Go.Proofs.YtfpcgjgkbniofaaGreatDoor

abbrev Bs := List UInt8

/-- the reference's class of a byte -/
def cls (c : Int) : Int :=
  if c == 32 then 0 else if c == 9 then 0 else if c == 10 then 0 else if c == 95 then 3 else
  if c == 58 then 4 else if c == 59 then 4 else if c == 44 then 4 else if c == 40 then 4 else if c == 41 then 4 else
  if c == 123 then 4 else if c == 125 then 4 else if c == 61 then 4 else if c == 60 then 4 else if c == 62 then 4 else
  if c == 43 then 4 else if c == 46 then 4 else if c == 35 then 5 else if c == 45 then 6 else
  if 97 ≤ c ∧ c ≤ 122 then 1 else if 48 ≤ c ∧ c ≤ 57 then 2 else 7

def cl (c : UInt8) : Int := cls c.toNat

def kindsL : List Int := [0,0,0,0,0,0,0,0,0,1,1,0,0,0,0,0,0,0,0,0,0,0,0,0,0,0,0,0,0,0,0,0,1,0,0,2,0,0,0,0,7,7,0,7,7,6,7,0,4,4,4,4,4,4,4,4,4,4,7,7,7,7,7,0,0,0,0,0,0,0,0,0,0,0,0,0,0,0,0,0,0,0,0,0,0,0,0,0,0,0,0,0,0,0,0,5,0,3,3,3,3,3,3,3,3,3,3,3,3,3,3,3,3,3,3,3,3,3,3,3,3,3,3,7,0,7,0,0]

/-- the program's kind of a byte -/
def kd (c : UInt8) : Int := if c.toNat < 128 then kindsL.getD c.toNat 0 else 0

/-- how the two number the classes -/
def toKd (n : Int) : Int := if n = 0 then 1 else if n = 1 then 3 else if n = 2 then 4 else if n = 3 then 5 else if n = 4 then 7 else if n = 5 then 2 else if n = 6 then 6 else 0

theorem kd_cl_all : ∀ n : Fin 256, kd (UInt8.ofNat n.1) = toKd (cl (UInt8.ofNat n.1)) := by decide +kernel

theorem kd_cl (c : UInt8) : kd c = toKd (cl c) := by
  have h := kd_cl_all ⟨c.toNat, UInt8.toNat_lt c⟩
  simpa using h

theorem cl_range_all : ∀ n : Fin 256, 0 ≤ cl (UInt8.ofNat n.1) ∧ cl (UInt8.ofNat n.1) ≤ 7 := by decide +kernel
theorem cl_range (c : UInt8) : 0 ≤ cl c ∧ cl c ≤ 7 := by
  have h := cl_range_all ⟨c.toNat, UInt8.toNat_lt c⟩
  simpa using h

theorem cl_hash_all : ∀ n : Fin 256, (cl (UInt8.ofNat n.1) = 5 ↔ n.1 = 35) ∧ (cl (UInt8.ofNat n.1) = 6 ↔ n.1 = 45) ∧ (n.1 = 10 → cl (UInt8.ofNat n.1) = 0) ∧ (cl (UInt8.ofNat n.1) = 2 ↔ (48 ≤ n.1 ∧ n.1 ≤ 57)) := by decide +kernel
theorem cl_hash (c : UInt8) : (cl c = 5 ↔ c.toNat = 35) ∧ (cl c = 6 ↔ c.toNat = 45) ∧ (c.toNat = 10 → cl c = 0) ∧ (cl c = 2 ↔ (48 ≤ c.toNat ∧ c.toNat ≤ 57)) := by
  have h := cl_hash_all ⟨c.toNat, UInt8.toNat_lt c⟩
  simpa using h

/-- in a comment behind the byte c? -/
def nc (cm : Bool) (c : UInt8) : Bool := if c.toNat = 10 then false else if c.toNat = 35 then true else cm

/-- skip: blanks and comments -/
def sk : Bool → Bs → Bs
  | _, [] => []
  | cm, c :: l => if nc cm c = false ∧ cl c ≠ 0 then c :: l else sk (nc cm c) l

theorem sk_cons (cm : Bool) (c : UInt8) (l : Bs) : sk cm (c :: l) = if nc cm c = false ∧ cl c ≠ 0 then c :: l else sk (nc cm c) l := rfl

theorem sk_suffix : ∀ (cm : Bool) (l : Bs), sk cm l <:+ l
  | _, [] => by simp [sk]
  | cm, c :: l => by
    rw [sk_cons]
    split
    · exact List.suffix_refl _
    · exact (sk_suffix _ l).trans (List.suffix_cons c l)

theorem sk_drop (cm : Bool) (l : Bs) : l.drop (l.length - (sk cm l).length) = sk cm l := by
  obtain ⟨p, hp⟩ := sk_suffix cm l
  have h1 : l.length - (sk cm l).length = p.length := by
    have := congrArg List.length hp
    simp at this
    omega
  rw [h1]
  conv => lhs; arg 2; rw [← hp]
  simp

theorem sk_len (cm : Bool) (l : Bs) : (sk cm l).length ≤ l.length := (sk_suffix cm l).length_le

/-- after skipping nothing is skipped -/
theorem sk_idem : ∀ (cm : Bool) (l : Bs), sk false (sk cm l) = sk cm l
  | _, [] => rfl
  | cm, c :: l => by
    rw [sk_cons]
    split
    · rename_i h
      obtain ⟨h1, h2⟩ := h
      have h3 : nc false c = false := by
        unfold nc at h1 ⊢
        by_cases h10 : c.toNat = 10
        · simp [h10]
        · by_cases h35 : c.toNat = 35
          · simp [h35] at h1
          · simp [h35]
      rw [sk_cons, if_pos ⟨h3, h2⟩]
    · exact sk_idem _ l

/-- in a comment: on to the line's end -/
theorem sk_comment : ∀ l : Bs, sk true l = sk false (l.dropWhile (fun c => c != 10))
  | [] => rfl
  | c :: l => by
    by_cases h : c = 10
    · subst h; simp [sk, nc]
    · have h10 : ¬ c.toNat = 10 := fun e => h (by rw [← UInt8.toNat_inj]; exact e)
      have hb : (c != 10) = true := by simpa using h
      have h1 : nc true c = true := by simp [nc, h10]
      rw [List.dropWhile_cons]
      simp only [hb, if_true]
      rw [sk_cons, h1, if_neg (by simp), sk_comment l]

theorem sk_blank (c : UInt8) (l : Bs) (h : cl c = 0) : sk false (c :: l) = sk false l := by
  have h35 : ¬ c.toNat = 35 := fun e => by have := (cl_hash c).1.2 e; omega
  have h1 : nc false c = false := by simp [nc, h35]
  rw [sk_cons, h1, if_neg (by simp [h])]

theorem sk_hash (c : UInt8) (l : Bs) (h : cl c = 5) : sk false (c :: l) = sk true l := by
  have h35 : c.toNat = 35 := (cl_hash c).1.1 h
  have h1 : nc false c = true := by simp [nc, h35]
  rw [sk_cons, h1, if_neg (by simp)]

theorem sk_stop (c : UInt8) (l : Bs) (h0 : cl c ≠ 0) (h5 : cl c ≠ 5) : sk false (c :: l) = c :: l := by
  have h35 : ¬ c.toNat = 35 := fun e => h5 ((cl_hash c).1.2 e)
  have h1 : nc false c = false := by simp [nc, h35]
  rw [sk_cons, if_pos ⟨h1, h0⟩]

theorem sk_head (cm : Bool) (l : Bs) : ∀ c r, sk cm l = c :: r → cl c ≠ 0 ∧ cl c ≠ 5 := by
  intro c r h
  have h1 := sk_idem cm l
  rw [h] at h1
  constructor
  · intro h0
    rw [sk_blank c r h0] at h1
    have := sk_len false r
    rw [h1] at this; simp at this; omega
  · intro h5
    rw [sk_hash c r h5] at h1
    have := sk_len true r
    rw [h1] at this; simp at this; omega

/-- bytes of a word -/
def wb (c : UInt8) : Bool := decide (1 ≤ cl c) && decide (cl c ≤ 3)
/-- digits -/
def db (c : UInt8) : Bool := decide (cl c = 2)

/-- the length of the token at the head; 0: there is none -/
def tl : Bs → Nat
  | [] => 0
  | c :: l =>
    if cl c = 1 then 1 + (l.takeWhile wb).length
    else if cl c = 2 then 1 + (l.takeWhile db).length
    else if cl c = 4 then 1
    else if cl c = 6 then (if l.head? = some 62 then 2 else 0)
    else 0

/-- the value of a digit -/
def dg (c : UInt8) : Nat := c.toNat - 48
theorem dg_eq (c : UInt8) : dg c = c.toNat - 48 := rfl
attribute [irreducible] dg

/-- the value of digits -/
def dv : Nat → Bs → Nat
  | n, [] => n
  | n, c :: l => dv (10 * n + dg c) l

theorem dv_cons (n : Nat) (c : UInt8) (l : Bs) : dv n (c :: l) = dv (10 * n + dg c) l := by rw [dv]

theorem dv_snoc (l : Bs) (c : UInt8) : ∀ n : Nat, dv n (l ++ [c]) = 10 * dv n l + dg c := by
  induction l with
  | nil => intro n; rfl
  | cons d l ih => intro n; rw [List.cons_append, dv_cons, dv_cons]; exact ih _

structure Tok where
  kind : Int
  text : Bs
  n : Int
  at_ : Nat

/-- the token at the head (its offset is a): an error's number, or the token -/
def nx (a : Nat) (l : Bs) : Except Int Tok :=
  match l with
  | [] => .error 2
  | c :: r =>
    if tl (c :: r) = 0 then .error 2
    else if cl c = 1 then (if tl (c :: r) > 16 then .error 4 else .ok ⟨0, (c :: r).take (tl (c :: r)), 0, a⟩)
    else if cl c = 2 then (if dv 0 ((c :: r).take (tl (c :: r))) > 1099511627776 then .error 4 else .ok ⟨1, (c :: r).take (tl (c :: r)), dv 0 ((c :: r).take (tl (c :: r))), a⟩)
    else .ok ⟨2, (c :: r).take (tl (c :: r)), 0, a⟩

theorem tl_le : ∀ l : Bs, tl l ≤ l.length
  | [] => Nat.le_refl _
  | c :: l => by
    have h1 := (List.takeWhile_sublist wb (l := l)).length_le
    have h2 := (List.takeWhile_sublist db (l := l)).length_le
    have h3 : l.head? = some 62 → 1 ≤ l.length := by
      intro h
      cases l with
      | nil => simp at h
      | cons d l => simp
    rw [tl, List.length_cons]
    by_cases a1 : cl c = 1
    · rw [if_pos a1]; omega
    · by_cases a2 : cl c = 2
      · rw [if_neg a1, if_pos a2]; omega
      · by_cases a4 : cl c = 4
        · rw [if_neg a1, if_neg a2, if_pos a4]; omega
        · by_cases a6 : cl c = 6
          · rw [if_neg a1, if_neg a2, if_neg a4, if_pos a6]
            by_cases a7 : l.head? = some 62
            · rw [if_pos a7]; have := h3 a7; omega
            · rw [if_neg a7]; omega
          · rw [if_neg a1, if_neg a2, if_neg a4, if_neg a6]; omega

theorem nx_ok {a : Nat} {l : Bs} {t : Tok} (h : nx a l = .ok t) : 0 < tl l ∧ t.text = l.take (tl l) ∧ t.at_ = a := by
  cases l with
  | nil => simp [nx] at h
  | cons c r =>
    unfold nx at h
    simp only [] at h
    by_cases h0 : tl (c :: r) = 0
    · rw [if_pos h0] at h; cases h
    · rw [if_neg h0] at h
      refine ⟨by omega, ?_⟩
      by_cases h1 : cl c = 1
      · rw [if_pos h1] at h
        by_cases h2 : tl (c :: r) > 16
        · rw [if_pos h2] at h; cases h
        · rw [if_neg h2] at h; cases h; exact ⟨rfl, rfl⟩
      · rw [if_neg h1] at h
        by_cases h2 : cl c = 2
        · rw [if_pos h2] at h
          by_cases h3 : dv 0 ((c :: r).take (tl (c :: r))) > 1099511627776
          · rw [if_pos h3] at h; cases h
          · rw [if_neg h3] at h; cases h; exact ⟨rfl, rfl⟩
        · rw [if_neg h2] at h; cases h; exact ⟨rfl, rfl⟩

/-- the tokens of what is left of a text of N bytes -/
def lexF (N : Nat) : Nat → Bs → Except (Nat × Int) (List Tok)
  | 0, _ => .ok []
  | f + 1, l =>
    match sk false l with
    | [] => .ok []
    | c :: r =>
      match nx (N - (c :: r).length) (c :: r) with
      | .error e => .error (N - (c :: r).length, e)
      | .ok t =>
        match lexF N f ((c :: r).drop (tl (c :: r))) with
        | .error x => .error x
        | .ok ts => .ok (t :: ts)

def lx (N : Nat) (l : Bs) : Except (Nat × Int) (List Tok) := lexF N (l.length + 1) l

theorem lexF_fuel (N : Nat) : ∀ (f g : Nat) (l : Bs), l.length < f → l.length < g → lexF N f l = lexF N g l
  | 0, _, _, h, _ => by omega
  | _, 0, _, _, h => by omega
  | f + 1, g + 1, l, hf, hg => by
    rw [lexF, lexF]
    cases hs : sk false l with
    | nil => rfl
    | cons c r =>
      simp only []
      cases hn : nx (N - (c :: r).length) (c :: r) with
      | error e => rfl
      | ok t =>
        simp only []
        have h0 := (nx_ok hn).1
        have hlen : (c :: r).length ≤ l.length := by rw [← hs]; exact sk_len _ _
        have hd : ((c :: r).drop (tl (c :: r))).length < l.length := by
          rw [List.length_drop]
          have : 0 < (c :: r).length := by simp
          omega
        rw [lexF_fuel N f g _ (by omega) (by omega)]

/-- the equation of lx -/
theorem lx_eq (N : Nat) (l : Bs) : lx N l = match sk false l with
    | [] => .ok []
    | c :: r =>
      match nx (N - (c :: r).length) (c :: r) with
      | .error e => .error (N - (c :: r).length, e)
      | .ok t =>
        match lx N ((c :: r).drop (tl (c :: r))) with
        | .error x => .error x
        | .ok ts => .ok (t :: ts) := by
  rw [lx, lexF]
  cases hs : sk false l with
  | nil => rfl
  | cons c r =>
    simp only []
    cases hn : nx (N - (c :: r).length) (c :: r) with
    | error e => rfl
    | ok t =>
      simp only []
      have h0 := (nx_ok hn).1
      have hlen : (c :: r).length ≤ l.length := by rw [← hs]; exact sk_len _ _
      have hd : ((c :: r).drop (tl (c :: r))).length < l.length := by
        rw [List.length_drop]
        have : 0 < (c :: r).length := by simp
        omega
      rw [lx, lexF_fuel N l.length (((c :: r).drop (tl (c :: r))).length + 1) _ hd (by omega)]

theorem lx_sk (N : Nat) (cm : Bool) (l : Bs) : lx N (sk cm l) = match sk cm l with
    | [] => .ok []
    | c :: r =>
      match nx (N - (c :: r).length) (c :: r) with
      | .error e => .error (N - (c :: r).length, e)
      | .ok t =>
        match lx N ((c :: r).drop (tl (c :: r))) with
        | .error x => .error x
        | .ok ts => .ok (t :: ts) := by
  rw [lx_eq, sk_idem]

theorem lx_skip (N : Nat) (l : Bs) : lx N (sk false l) = lx N l := by
  rw [lx_sk, ← lx_eq]

theorem lx_length (N : Nat) : ∀ (n : Nat) (l : Bs) (ts : List Tok), l.length ≤ n → lx N l = .ok ts → ts.length ≤ l.length
  | n, l, ts, hn, h => by
    rw [lx_eq] at h
    cases hs : sk false l with
    | nil => rw [hs] at h; cases h; simp
    | cons c r =>
      rw [hs] at h
      simp only [] at h
      cases hx : nx (N - (c :: r).length) (c :: r) with
      | error e => rw [hx] at h; cases h
      | ok t =>
        rw [hx] at h
        simp only [] at h
        have h0 := (nx_ok hx).1
        have hle : (c :: r).length ≤ l.length := by rw [← hs]; exact sk_len _ _
        have hd : ((c :: r).drop (tl (c :: r))).length < l.length := by
          rw [List.length_drop]
          have : 0 < (c :: r).length := by simp
          omega
        cases hy : lx N ((c :: r).drop (tl (c :: r))) with
        | error e => rw [hy] at h; cases h
        | ok us =>
          rw [hy] at h
          cases h
          match n, hn with
          | 0, hn => omega
          | m + 1, hn =>
            have := lx_length N m _ us (by omega) hy
            simp only [List.length_cons] at *
            omega

/-- errors are 2 or 4 -/
theorem nx_error {a : Nat} {l : Bs} {e : Int} (h : nx a l = .error e) : e = 2 ∨ e = 4 := by
  cases l with
  | nil => simp [nx] at h; exact .inl h.symm
  | cons c r =>
    unfold nx at h
    simp only [] at h
    by_cases h0 : tl (c :: r) = 0
    · rw [if_pos h0] at h; cases h; exact .inl rfl
    · rw [if_neg h0] at h
      by_cases h1 : cl c = 1
      · rw [if_pos h1] at h
        by_cases h2 : tl (c :: r) > 16
        · rw [if_pos h2] at h; cases h; exact .inr rfl
        · rw [if_neg h2] at h; cases h
      · rw [if_neg h1] at h
        by_cases h2 : cl c = 2
        · rw [if_pos h2] at h
          by_cases h3 : dv 0 ((c :: r).take (tl (c :: r))) > 1099511627776
          · rw [if_pos h3] at h; cases h; exact .inr rfl
          · rw [if_neg h3] at h; cases h
        · rw [if_neg h2] at h; cases h

theorem lx_err (N : Nat) : ∀ (n : Nat) (l : Bs) (k : Nat) (e : Int), l.length ≤ n → lx N l = .error (k, e) → (e = 2 ∨ e = 4) ∧ (l.length ≤ N → N - l.length ≤ k ∧ k < N)
  | n, l, k, e, hn, h => by
    rw [lx_eq] at h
    cases hs : sk false l with
    | nil => rw [hs] at h; cases h
    | cons c r =>
      rw [hs] at h
      simp only [] at h
      have hle : (c :: r).length ≤ l.length := by rw [← hs]; exact sk_len _ _
      have hpos : 0 < (c :: r).length := by simp
      cases hx : nx (N - (c :: r).length) (c :: r) with
      | error e' => rw [hx] at h; cases h; exact ⟨nx_error hx, fun h => by omega⟩
      | ok t =>
        rw [hx] at h
        simp only [] at h
        have h0 := (nx_ok hx).1
        have hd : ((c :: r).drop (tl (c :: r))).length < l.length := by
          rw [List.length_drop]
          omega
        cases hy : lx N ((c :: r).drop (tl (c :: r))) with
        | ok us => rw [hy] at h; cases h
        | error x =>
          rw [hy] at h
          cases h
          match n, hn with
          | 0, hn => omega
          | m + 1, hn =>
            have := lx_err N m _ k e (by omega) hy
            exact ⟨this.1, fun h => by have := this.2 (by omega); omega⟩

end Go.Proofs.YtfpcgjgkbniofaaGreatDoor
