/- Plain laws of the tokens: shifting, gaps, clean texts. -/
import Derived.Test.YtndlecddgihihaaDoorLexSplit
namespace Go.Proofs.YtndlecddgihihaaDoor

def Tok.shift (d : Nat) (t : Tok) : Tok := ⟨t.kind, t.text, t.n, t.at_ + d⟩

def shiftE (d : Nat) (x : Except (Nat × Int) (List Tok)) : Except (Nat × Int) (List Tok) :=
  match x with
  | .error (k, e) => .error (k + d, e)
  | .ok ts => .ok (ts.map (Tok.shift d))

theorem nx_shift (a d : Nat) (l : Bs) : nx (a + d) l = match nx a l with
    | .error e => .error e
    | .ok t => .ok (t.shift d) := by
  cases l with
  | nil => rfl
  | cons c r =>
    unfold nx
    simp only []
    by_cases h0 : tl (c :: r) = 0
    · rw [if_pos h0, if_pos h0]
    · rw [if_neg h0, if_neg h0]
      by_cases h1 : cl c = 1
      · rw [if_pos h1, if_pos h1]
        by_cases h2 : tl (c :: r) > 16
        · rw [if_pos h2, if_pos h2]
        · rw [if_neg h2, if_neg h2]; rfl
      · rw [if_neg h1, if_neg h1]
        by_cases h2 : cl c = 2
        · rw [if_pos h2, if_pos h2]
          by_cases h3 : dv 0 ((c :: r).take (tl (c :: r))) > 1099511627776
          · rw [if_pos h3, if_pos h3]
          · rw [if_neg h3, if_neg h3]; rfl
        · rw [if_neg h2, if_neg h2]; rfl

theorem lx_shift (N d : Nat) : ∀ (n : Nat) (l : Bs), l.length ≤ n → l.length ≤ N → lx (N + d) l = shiftE d (lx N l)
  | n, l, hn, hN => by
    rw [lx_eq (N + d), lx_eq N]
    cases hs : sk false l with
    | nil => rfl
    | cons c r =>
      simp only []
      have hle : (c :: r).length ≤ l.length := by rw [← hs]; exact sk_len _ _
      have e1 : N + d - (c :: r).length = (N - (c :: r).length) + d := by omega
      rw [e1, nx_shift]
      cases hx : nx (N - (c :: r).length) (c :: r) with
      | error e => rfl
      | ok t =>
        simp only []
        have h0 := (nx_ok hx).1
        have hd : ((c :: r).drop (tl (c :: r))).length < l.length := by
          rw [List.length_drop]
          have : 0 < (c :: r).length := by simp
          omega
        match n, hn with
        | 0, hn => omega
        | m + 1, hn =>
          rw [lx_shift N d m _ (by omega) (by omega)]
          cases lx N ((c :: r).drop (tl (c :: r))) with
          | error x => obtain ⟨k, e⟩ := x; rfl
          | ok ts => rfl

theorem lxo_shift (a d : Nat) (cm : Bool) (l : Bs) : lxo (a + d) cm l = shiftE d (lxo a cm l) := by
  unfold lxo
  have := sk_len cm l
  rw [show a + d + l.length = a + l.length + d by omega]
  exact lx_shift _ d _ _ (Nat.le_refl _) (by omega)

/-- it is read without an error -/
def okE (x : Except (Nat × Int) (List Tok)) : Bool :=
  match x with
  | .error _ => false
  | .ok _ => true

theorem okE_shift (d : Nat) (x : Except (Nat × Int) (List Tok)) : okE (shiftE d x) = okE x := by
  cases x with
  | error e => obtain ⟨k, e⟩ := e; rfl
  | ok ts => rfl

theorem okE_lxo (a : Nat) (cm : Bool) (l : Bs) : okE (lxo a cm l) = okE (lxo 0 cm l) := by
  have := lxo_shift 0 a cm l
  rw [Nat.zero_add] at this
  rw [this, okE_shift]

theorem okE_join (x y : Except (Nat × Int) (List Tok)) : okE (joinE x y) = (okE x && okE y) := by
  cases x with
  | error e => rfl
  | ok ts => cases y <;> rfl

theorem okE_split (b : UInt8) (hb : Ender b) (a : Nat) (cm : Bool) (p q : Bs) (hp : okE (lxo a cm p) = true) (hq : ∀ cm, okE (lxo 0 cm q) = true) : okE (lxo a cm (p ++ b :: q)) = true := by
  rw [lxo_split b hb q p.length a cm p (Nat.le_refl _), okE_join, hp, okE_lxo, hq]; rfl

/-- what is skipped holds no token -/
theorem sk_gap : ∀ (l : Bs) (cm : Bool), sk cm (l.take (l.length - (sk cm l).length)) = []
  | [], _ => rfl
  | c :: l, cm => by
    rw [sk_cons]
    by_cases hs : nc cm c = false ∧ cl c ≠ 0
    · rw [if_pos hs, Nat.sub_self]; rfl
    · rw [if_neg hs]
      have := sk_len (nc cm c) l
      rw [List.length_cons, show l.length + 1 - (sk (nc cm c) l).length = (l.length - (sk (nc cm c) l).length) + 1 by omega, List.take_succ_cons, sk_cons, if_neg hs]
      exact sk_gap l _

end Go.Proofs.YtndlecddgihihaaDoor
