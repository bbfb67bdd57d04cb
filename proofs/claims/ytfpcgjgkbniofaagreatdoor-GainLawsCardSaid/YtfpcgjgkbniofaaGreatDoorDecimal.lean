/- Decimal texts: plain Lean. -/
import Derived.Test.YtfpcgjgkbniofaaGreatDoorDigits
namespace Go.Proofs.YtfpcgjgkbniofaaGreatDoor
abbrev Tx := List UInt8

def dch (d : Nat) : UInt8 := UInt8.ofNat (48 + d)
def decP (n : Nat) : Tx := (digs 10 n).reverse.map dch
def dec (n : Nat) : Tx := if n = 0 then [48] else decP n
def decZ (z : Int) : Tx := if z < 0 then 45 :: dec z.natAbs else dec z.natAbs

/-- just k digits -/
def pad : Nat → Nat → Tx
  | 0, _ => []
  | k + 1, n => pad k (n / 10) ++ [dch (n % 10)]

theorem decP_zero : decP 0 = [] := rfl
theorem decP_pos (n : Nat) (h : n ≠ 0) : decP n = decP (n / 10) ++ [dch (n % 10)] := by
  unfold decP
  rw [digs_pos 10 n (by omega) h, List.reverse_cons, List.map_append]
  rfl

theorem decP_split : ∀ (k q r : Nat), q ≠ 0 → r < 10 ^ k → decP (q * 10 ^ k + r) = decP q ++ pad k r
  | 0, q, r, _, hr => by
    have : r = 0 := by simpa using hr
    subst this
    simp [pad]
  | k + 1, q, r, hq, hr => by
    have h10 : 10 ^ (k + 1) = 10 * 10 ^ k := by rw [Nat.pow_succ, Nat.mul_comm]
    have hp : 0 < 10 ^ k := Nat.pow_pos (by omega)
    have hqp : 0 < q * 10 ^ k := Nat.mul_pos (by omega) hp
    have e0 : q * 10 ^ (k + 1) = 10 * (q * 10 ^ k) := by rw [h10]; grind
    have e1 : (q * 10 ^ (k + 1) + r) / 10 = q * 10 ^ k + r / 10 := by omega
    have e2 : (q * 10 ^ (k + 1) + r) % 10 = r % 10 := by omega
    rw [decP_pos _ (by omega), e1, e2, decP_split k q (r / 10) hq (by omega), pad, List.append_assoc]

theorem pad_len : ∀ (k n : Nat), (pad k n).length = k
  | 0, _ => rfl
  | k + 1, n => by rw [pad, List.length_append, pad_len k]; rfl

theorem pad_zero : ∀ k, pad k 0 = List.replicate k 48
  | 0 => rfl
  | k + 1 => by rw [pad, pad_zero k, List.replicate_succ']; rfl

theorem pad_decP : ∀ (k r : Nat), r < 10 ^ k → pad k r = List.replicate (k - (decP r).length) 48 ++ decP r ∧ (decP r).length ≤ k
  | 0, r, hr => by
    have : r = 0 := by simpa using hr
    subst this
    simp [pad, decP_zero]
  | k + 1, r, hr => by
    have h10 : 10 ^ (k + 1) = 10 * 10 ^ k := by rw [Nat.pow_succ, Nat.mul_comm]
    by_cases h : r = 0
    · subst h
      rw [pad_zero]
      simp [decP_zero]
    · have ih := pad_decP k (r / 10) (by omega)
      rw [decP_pos r h, pad, ih.1, List.length_append, List.length_singleton, List.append_assoc]
      refine ⟨?_, by omega⟩
      congr 2
      omega

theorem dec_len_pos (n : Nat) : 0 < (dec n).length := by
  unfold dec
  by_cases h : n = 0
  · rw [if_pos h]; decide
  · rw [if_neg h, decP_pos n h]; simp

theorem pad_dec (k r : Nat) (hk : 0 < k) (hr : r < 10 ^ k) : pad k r = List.replicate (k - (dec r).length) 48 ++ dec r ∧ (dec r).length ≤ k := by
  unfold dec
  by_cases h : r = 0
  · subst h
    rw [if_pos rfl, pad_zero]
    refine ⟨?_, hk⟩
    obtain ⟨k, rfl⟩ : ∃ m, k = m + 1 := ⟨k - 1, by omega⟩
    rw [List.replicate_succ']
    rfl
  · rw [if_neg h]; exact pad_decP k r hr

theorem dec_split (k q r : Nat) (hq : q ≠ 0) (hr : r < 10 ^ k) : dec (q * 10 ^ k + r) = dec q ++ pad k r := by
  have hp : 0 < 10 ^ k := Nat.pow_pos (by omega)
  have hqp : 0 < q * 10 ^ k := Nat.mul_pos (by omega) hp
  unfold dec
  rw [if_neg (by omega), if_neg hq, decP_split k q r hq hr]

/-- the text of groups of k digits, the greatest first -/
def grp (k : Nat) : List Nat → Tx
  | [] => []
  | [x] => dec x
  | x :: y :: l => grp k (y :: l) ++ pad k x

theorem grp_dec (k : Nat) (hk : 0 < k) : ∀ l : List Nat, l ≠ [] → Low (10 ^ k) l → l.getLast? ≠ some 0 ∨ l = [0] → grp k l = dec (val (10 ^ k) l)
  | [], h, _, _ => absurd rfl h
  | [x], _, _, _ => by show dec x = dec (x + 10 ^ k * 0); simp
  | x :: y :: l, _, hl, hlast => by
    have h2 : 2 ≤ 10 ^ k := by
      have : 10 ^ 1 ≤ 10 ^ k := Nat.pow_le_pow_right (by omega) hk
      omega
    have hlast' : (y :: l).getLast? ≠ some 0 := by
      rcases hlast with h | h
      · rw [List.getLast?_cons_cons] at h; exact h
      · cases h
    have hl' : Low (10 ^ k) (y :: l) := fun z hz => hl z (List.mem_cons_of_mem _ hz)
    have ih := grp_dec k hk (y :: l) (by simp) hl' (.inl hlast')
    have hv : val (10 ^ k) (y :: l) ≠ 0 := by
      intro h
      have := norm_digs (10 ^ k) h2 (y :: l) hl' hlast'
      rw [h] at this
      cases this
    have hv2 : val (10 ^ k) (x :: y :: l) = val (10 ^ k) (y :: l) * 10 ^ k + x := by
      show x + 10 ^ k * val (10 ^ k) (y :: l) = _
      rw [Nat.add_comm, Nat.mul_comm]
    rw [grp, ih, hv2, dec_split k _ x hv (hl x (List.mem_cons_self ..))]

/-- the value of a text of digits -/
def dvT (n : Nat) : Tx → Nat
  | [] => n
  | c :: l => dvT (10 * n + (c.toNat - 48)) l

def IsDig (c : UInt8) : Prop := 48 ≤ c.toNat ∧ c.toNat ≤ 57

theorem dch_dig (d : Nat) (h : d < 10) : IsDig (dch d) ∧ (dch d).toNat - 48 = d ∧ (dch d = 48 ↔ d = 0) := by
  have h1 : (dch d).toNat = 48 + d := by unfold dch; rw [UInt8.toNat_ofNat']; omega
  refine ⟨⟨by omega, by omega⟩, by omega, ⟨fun h => ?_, fun h => by subst h; rfl⟩⟩
  rw [h] at h1
  simp at h1
  omega

theorem dvT_append (n : Nat) (l m : Tx) : dvT n (l ++ m) = dvT (dvT n l) m := by
  induction l generalizing n with
  | nil => rfl
  | cons c l ih => exact ih _

theorem decP_dig : ∀ n : Nat, (∀ c ∈ decP n, IsDig c) ∧ dvT 0 (decP n) = n ∧ (n ≠ 0 → ∃ c l, decP n = c :: l ∧ c ≠ 48) := by
  intro n
  induction n using Nat.strongRecOn with
  | _ n ih =>
    by_cases h : n = 0
    · subst h
      exact ⟨fun c hc => (by cases hc), rfl, fun h => absurd rfl h⟩
    · have hlt := Nat.div_lt_self (n := n) (k := 10) (by omega) (by omega)
      obtain ⟨i1, i2, i3⟩ := ih (n / 10) hlt
      have hd := dch_dig (n % 10) (Nat.mod_lt _ (by omega))
      rw [decP_pos n h]
      refine ⟨fun c hc => ?_, ?_, fun _ => ?_⟩
      · rcases List.mem_append.1 hc with h | h
        · exact i1 c h
        · rw [List.mem_singleton.1 h]; exact hd.1
      · rw [dvT_append, i2]
        show 10 * (n / 10) + ((dch (n % 10)).toNat - 48) = n
        rw [hd.2.1]; omega
      · by_cases h2 : n / 10 = 0
        · rw [h2, decP_zero]
          refine ⟨_, _, rfl, fun hc => ?_⟩
          have := hd.2.2.1 hc
          omega
        · obtain ⟨c, l, hc, hc2⟩ := i3 h2
          rw [hc]
          exact ⟨c, _, rfl, hc2⟩

theorem dec_dig (n : Nat) : (∀ c ∈ dec n, IsDig c) ∧ dvT 0 (dec n) = n ∧ ∃ c l, dec n = c :: l ∧ (c = 48 → l = []) := by
  unfold dec
  by_cases h : n = 0
  · subst h
    refine ⟨fun c hc => ?_, rfl, 48, [], rfl, fun _ => rfl⟩
    rw [if_pos rfl] at hc
    rw [List.mem_singleton.1 hc]
    exact ⟨by decide, by decide⟩
  · rw [if_neg h]
    obtain ⟨i1, i2, i3⟩ := decP_dig n
    obtain ⟨c, l, hc, hc2⟩ := i3 h
    exact ⟨i1, i2, c, l, hc, fun h => absurd h hc2⟩

/-- what Parse answers -/
def parseS (s : Tx) : Except Int Int :=
  if 5000 < s.length then .error 4
  else
    let neg := s.head? == some 45
    let ds := if neg then s.tail else s
    if ds = [] ∨ (ds.head? = some 48 ∧ (neg = true ∨ 1 < ds.length)) then .error 2
    else if ∀ c ∈ ds, 48 ≤ c.toNat ∧ c.toNat ≤ 57 then
      if dvT 0 ds < 2 ^ 16384 then .ok (if neg then -(dvT 0 ds : Int) else dvT 0 ds) else .error 4
    else .error 2

theorem dec_len_le (n k : Nat) (hk : 0 < k) (h : n < 10 ^ k) : (dec n).length ≤ k := (pad_dec k n hk h).2

theorem big_bound : 2 ^ 16384 ≤ 10 ^ 4933 := by decide +kernel

theorem parse_decZ (z : Int) (hz : z.natAbs < 2 ^ 16384) : parseS (decZ z) = .ok z := by
  obtain ⟨d1, d2, c, l, hd, hd2⟩ := dec_dig z.natAbs
  have hlen : (dec z.natAbs).length ≤ 4933 := dec_len_le _ _ (by omega) (Nat.lt_of_lt_of_le hz big_bound)
  have hc : IsDig c := d1 c (by rw [hd]; exact List.mem_cons_self ..)
  have hall : ∀ c ∈ dec z.natAbs, 48 ≤ c.toNat ∧ c.toNat ≤ 57 := d1
  by_cases hn : z < 0
  · have hne : z.natAbs ≠ 0 := by omega
    have hdz : decZ z = 45 :: dec z.natAbs := by unfold decZ; rw [if_pos hn]
    have hc48 : c ≠ 48 := by
      unfold dec at hd
      rw [if_neg hne] at hd
      obtain ⟨c', l', h1, h2⟩ := (decP_dig z.natAbs).2.2 hne
      rw [h1] at hd
      have : c' = c := by cases hd; rfl
      rw [← this]; exact h2
    have hch : (c :: l).head? = some c := rfl
    unfold parseS
    rw [hdz, if_neg (by rw [List.length_cons]; omega)]
    simp only [List.head?_cons, beq_self_eq_true, if_true, List.tail_cons]
    rw [if_neg (by rw [hd]; simp [hc48]), if_pos hall, d2, if_pos hz]
    congr 1
    omega
  · have hdz : decZ z = dec z.natAbs := by unfold decZ; rw [if_neg hn]
    have hn45 : ((dec z.natAbs).head? == some 45) = false := by
      rw [hd]
      simp
      intro h
      rw [h] at hc
      have := hc.1
      simp at this
    unfold parseS
    rw [hdz, if_neg (by omega)]
    simp only [hn45, Bool.false_eq_true, if_false, false_or]
    rw [if_neg ?_, if_pos hall, d2, if_pos hz]
    · congr 1
      omega
    · rw [hd]
      rintro (h | ⟨h1, h2⟩)
      · cases h
      · simp at h1
        rw [hd2 h1] at h2
        simp at h2

end Go.Proofs.YtfpcgjgkbniofaaGreatDoor
