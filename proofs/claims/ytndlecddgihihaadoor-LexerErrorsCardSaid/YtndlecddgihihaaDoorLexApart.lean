/- Plain laws: tokens written anew; a text up to an error. -/
import Derived.Test.YtndlecddgihihaaDoorLexLaws
namespace Go.Proofs.YtndlecddgihihaaDoor

theorem takeWhile_idem (f : UInt8 → Bool) (l : Bs) : (l.takeWhile f).takeWhile f = l.takeWhile f := by
  induction l with
  | nil => rfl
  | cons c l ih =>
    rw [List.takeWhile_cons]
    by_cases h : f c = true
    · rw [if_pos h, List.takeWhile_cons, if_pos h, ih]
    · rw [if_neg h]; rfl

/-- a token's own text is a token of that length -/
theorem relex_tl (c : UInt8) (p : Bs) : tl ((c :: p).take (tl (c :: p))) = tl (c :: p) := by
  by_cases a1 : cl c = 1
  · have e : tl (c :: p) = (p.takeWhile wb).length + 1 := by rw [tl, if_pos a1, Nat.add_comm]
    rw [e, List.take_succ_cons, take_takeWhile, tl, if_pos a1, takeWhile_idem, Nat.add_comm]
  · by_cases a2 : cl c = 2
    · have e : tl (c :: p) = (p.takeWhile db).length + 1 := by rw [tl, if_neg a1, if_pos a2, Nat.add_comm]
      rw [e, List.take_succ_cons, take_takeWhile, tl, if_neg a1, if_pos a2, takeWhile_idem, Nat.add_comm]
    · by_cases a4 : cl c = 4
      · have e : tl (c :: p) = 1 := by rw [tl, if_neg a1, if_neg a2, if_pos a4]
        rw [e, List.take_succ_cons, List.take_zero, tl, if_neg a1, if_neg a2, if_pos a4]
      · by_cases a6 : cl c = 6
        · by_cases h : p.head? = some 62
          · have e : tl (c :: p) = 2 := by rw [tl, if_neg a1, if_neg a2, if_neg a4, if_pos a6, if_pos h]
            cases p with
            | nil => simp at h
            | cons d p =>
              simp at h
              subst h
              rw [e, List.take_succ_cons, List.take_succ_cons, List.take_zero, tl, if_neg a1, if_neg a2, if_neg a4, if_pos a6, if_pos (show ([62] : Bs).head? = some 62 from rfl)]
          · have e : tl (c :: p) = 0 := by rw [tl, if_neg a1, if_neg a2, if_neg a4, if_pos a6, if_neg h]
            rw [e]; rfl
        · have e : tl (c :: p) = 0 := by rw [tl, if_neg a1, if_neg a2, if_neg a4, if_neg a6]
          rw [e]; rfl

/-- it was read as a token -/
def GoodTok (t : Tok) : Prop := ∃ a r, nx a r = .ok t

theorem relex {t : Tok} (h : GoodTok t) (a' : Nat) : (∃ c p, t.text = c :: p ∧ cl c ≠ 0 ∧ cl c ≠ 5) ∧ tl t.text = t.text.length ∧ nx a' t.text = .ok ⟨t.kind, t.text, t.n, a'⟩ ∧ (∀ x ∈ t.text, cl x ≠ 0 ∧ cl x ≠ 5) := by
  obtain ⟨a, r, h⟩ := h
  obtain ⟨h0, htx, _⟩ := nx_ok h
  cases r with
  | nil => simp [nx] at h
  | cons c p =>
    have hp := tok_plain c p
    rw [← htx] at hp
    have htl : tl t.text = tl (c :: p) := by rw [htx, relex_tl]
    have hlen : t.text.length = tl (c :: p) := by rw [htx, List.length_take]; have := tl_le (c :: p); omega
    obtain ⟨q, hq⟩ : ∃ q, t.text = c :: q := by
      rw [htx]
      obtain ⟨m, hm⟩ : ∃ m, tl (c :: p) = m + 1 := ⟨tl (c :: p) - 1, by omega⟩
      exact ⟨p.take m, by rw [hm, List.take_succ_cons]⟩
    have hcc := hp c (by rw [hq]; exact List.mem_cons_self ..)
    refine ⟨⟨c, q, hq, hcc⟩, by omega, ?_, hp⟩
    have htake : t.text.take (tl t.text) = t.text := by rw [List.take_of_length_le (by omega)]
    have h1 : nx a' t.text = if tl t.text = 0 then .error 2 else if cl c = 1 then (if tl t.text > 16 then .error 4 else .ok ⟨0, t.text, 0, a'⟩)
        else if cl c = 2 then (if dv 0 t.text > 1099511627776 then .error 4 else .ok ⟨1, t.text, dv 0 t.text, a'⟩) else .ok ⟨2, t.text, 0, a'⟩ := by
      have h2 : ∀ l : Bs, l = c :: q → l.take (tl l) = l → nx a' l = if tl l = 0 then .error 2 else if cl c = 1 then (if tl l > 16 then .error 4 else .ok ⟨0, l, 0, a'⟩)
        else if cl c = 2 then (if dv 0 l > 1099511627776 then .error 4 else .ok ⟨1, l, dv 0 l, a'⟩) else .ok ⟨2, l, 0, a'⟩ := by
        rintro l rfl hl
        unfold nx
        simp only [hl]
      exact h2 _ hq htake
    rw [h1]
    unfold nx at h
    have htx' : (c :: p).take (tl t.text) = t.text := by rw [htl]; exact htx.symm
    simp only [← htl] at h
    simp only [htx'] at h
    have n0 : ¬ tl t.text = 0 := by omega
    rw [if_neg n0] at h ⊢
    by_cases c1 : cl c = 1
    · rw [if_pos c1] at h ⊢
      by_cases c2 : tl t.text > 16
      · rw [if_pos c2] at h; cases h
      · rw [if_neg c2] at h ⊢
        have hk : t.kind = 0 ∧ t.n = 0 := by
          have := congrArg (fun x : Except Int Tok => match x with | .ok u => (u.kind, u.n) | .error _ => (9, 9)) h
          simp at this; exact ⟨this.1.symm, this.2.symm⟩
        rw [hk.1, hk.2]
    · rw [if_neg c1] at h ⊢
      by_cases c2 : cl c = 2
      · rw [if_pos c2] at h ⊢
        by_cases c3 : dv 0 t.text > 1099511627776
        · rw [if_pos c3] at h; cases h
        · rw [if_neg c3] at h ⊢
          have hk : t.kind = 1 ∧ t.n = dv 0 t.text := by
            have := congrArg (fun x : Except Int Tok => match x with | .ok u => (u.kind, u.n) | .error _ => (9, 9)) h
            simp at this; exact ⟨this.1.symm, this.2.symm⟩
          rw [hk.1, hk.2]
      · rw [if_neg c2] at h ⊢
        have hk : t.kind = 2 ∧ t.n = 0 := by
          have := congrArg (fun x : Except Int Tok => match x with | .ok u => (u.kind, u.n) | .error _ => (9, 9)) h
          simp at this; exact ⟨this.1.symm, this.2.symm⟩
        rw [hk.1, hk.2]

theorem lx_good (N : Nat) : ∀ (n : Nat) (l : Bs) (ts : List Tok), l.length ≤ n → lx N l = .ok ts → ∀ t ∈ ts, GoodTok t
  | n, l, ts, hn, h => by
    rw [lx_eq] at h
    cases hs : sk false l with
    | nil => rw [hs] at h; cases h; simp
    | cons c r =>
      rw [hs] at h
      simp only [] at h
      cases hx : nx (N - (c :: r).length) (c :: r) with
      | error e => rw [hx] at h; cases h
      | ok t =>
        rw [hx] at h
        simp only [] at h
        have h0 := (nx_ok hx).1
        have hle : (c :: r).length ≤ l.length := by rw [← hs]; exact sk_len _ _
        have hd : ((c :: r).drop (tl (c :: r))).length < l.length := by
          rw [List.length_drop]
          have : 0 < (c :: r).length := by simp
          omega
        cases hy : lx N ((c :: r).drop (tl (c :: r))) with
        | error e => rw [hy] at h; cases h
        | ok us =>
          rw [hy] at h
          cases h
          match n, hn with
          | 0, hn => omega
          | m + 1, hn =>
            intro u hu
            rcases List.mem_cons.1 hu with rfl | hu
            · exact ⟨_, _, hx⟩
            · exact lx_good N m _ us (by omega) hy u hu

/-- a token alone, from whatever offset -/
theorem lxo_tok {t : Tok} (h : GoodTok t) (a : Nat) : lxo a false t.text = .ok [⟨t.kind, t.text, t.n, a⟩] := by
  obtain ⟨⟨c, p, hp, h0, h5⟩, h2, h3, _⟩ := relex h a
  unfold lxo
  have hsk : sk false t.text = c :: p := by rw [hp]; exact sk_stop c p h0 h5
  rw [lx_sk, hsk]
  simp only []
  rw [← hp, Nat.add_sub_cancel, h3]
  simp only []
  rw [h2, List.drop_length, lx_eq]
  rfl

/-- the same tokens, up to their offsets -/
def SameK (xs ys : List Tok) : Prop := xs.map (fun t => (t.kind, t.text, t.n)) = ys.map (fun t => (t.kind, t.text, t.n))

/-- tokens written with separators in front of them -/
def apartTo (sep : Nat → Bs) (ts : List Tok) : Nat → Bs
  | 0 => []
  | i + 1 => apartTo sep ts i ++ (sep i ++ (ts[i]?.map Tok.text).getD [])

def IsSep (l : Bs) : Prop := l = [32] ∨ l = [10] ∨ l = [32, 9] ∨ l = [35, 120, 10]

theorem sep_lxo {t : Tok} (h : GoodTok t) (a : Nat) : lxo a false (9 :: t.text) = .ok [⟨t.kind, t.text, t.n, a + 1⟩] ∧ lxo a true (120 :: 10 :: t.text) = .ok [⟨t.kind, t.text, t.n, a + 2⟩] := by
  have e1 : sk false (9 :: t.text) = sk false t.text := sk_blank 9 _ (by decide)
  have e2 : sk true (120 :: 10 :: t.text) = sk false t.text := by
    have n1 : nc true 120 = true := by decide
    have n2 : nc true 10 = false := by decide
    rw [sk_cons, n1, if_neg (by simp), sk_cons, n2, if_neg (by decide)]
  have h1 := lxo_tok h (a + 1)
  have h2 := lxo_tok h (a + 2)
  unfold lxo at h1 h2 ⊢
  constructor
  · rw [e1, List.length_cons, ← h1]; congr 1; omega
  · rw [e2, List.length_cons, List.length_cons, ← h2]; congr 1; omega

theorem apart_ok (sep : Nat → Bs) (ts : List Tok) (hg : ∀ t ∈ ts, GoodTok t) (hsep : ∀ i, IsSep (sep i)) : ∀ i, i ≤ ts.length →
    (apartTo sep ts i).foldl nc false = false ∧ ∃ us, lxo 0 false (apartTo sep ts i) = .ok us ∧ SameK us (ts.take i)
  | 0, _ => ⟨rfl, [], by unfold lxo; rw [lx_eq]; rfl, rfl⟩
  | i + 1, hi => by
    obtain ⟨hf, us, hus, hsame⟩ := apart_ok sep ts hg hsep i (by omega)
    have hit : i < ts.length := by omega
    have hgt := hg ts[i] (List.getElem_mem hit)
    have hplain := (relex hgt 0).2.2.2
    have htext : (ts[i]?.map Tok.text).getD [] = ts[i].text := by rw [List.getElem?_eq_getElem hit]; rfl
    have hu : apartTo sep ts (i + 1) = apartTo sep ts i ++ (sep i ++ ts[i].text) := by rw [apartTo, htext]
    have htake : ts.take (i + 1) = ts.take i ++ [ts[i]] := by rw [List.take_succ_eq_append_getElem hit]
    have hfin : ∀ x : Tok, (x.kind, x.text, x.n) = (ts[i].kind, ts[i].text, ts[i].n) → SameK (us ++ [x]) (ts.take (i + 1)) := by
      intro x hx
      unfold SameK at hsame ⊢
      rw [htake, List.map_append, List.map_append, hsame]
      simp [hx]
    rw [hu, List.foldl_append, hf]
    rcases hsep i with e | e | e | e
    · rw [e]
      refine ⟨by rw [List.cons_append, List.nil_append, List.foldl_cons, fold_plain _ _ hplain]; decide, us ++ [⟨ts[i].kind, ts[i].text, ts[i].n, 0 + (apartTo sep ts i).length + 1⟩], ?_, hfin _ rfl⟩
      rw [List.cons_append, List.nil_append, lxo_split 32 (.inl (by decide)) _ _ 0 false _ (Nat.le_refl _), hus, hf]
      rw [show nc false 32 = false by decide, lxo_tok hgt]; rfl
    · rw [e]
      refine ⟨by rw [List.cons_append, List.nil_append, List.foldl_cons, fold_plain _ _ hplain]; decide, us ++ [⟨ts[i].kind, ts[i].text, ts[i].n, 0 + (apartTo sep ts i).length + 1⟩], ?_, hfin _ rfl⟩
      rw [List.cons_append, List.nil_append, lxo_split 10 (.inl (by decide)) _ _ 0 false _ (Nat.le_refl _), hus, hf]
      rw [show nc false 10 = false by decide, lxo_tok hgt]; rfl
    · rw [e]
      refine ⟨by rw [List.cons_append, List.cons_append, List.nil_append, List.foldl_cons, List.foldl_cons, fold_plain _ _ hplain]; decide, us ++ [⟨ts[i].kind, ts[i].text, ts[i].n, 0 + (apartTo sep ts i).length + 1 + 1⟩], ?_, hfin _ rfl⟩
      rw [List.cons_append, List.cons_append, List.nil_append, lxo_split 32 (.inl (by decide)) _ _ 0 false _ (Nat.le_refl _), hus, hf]
      rw [show nc false 32 = false by decide, (sep_lxo hgt _).1]; rfl
    · rw [e]
      refine ⟨by rw [List.cons_append, List.cons_append, List.cons_append, List.nil_append, List.foldl_cons, List.foldl_cons, List.foldl_cons, fold_plain _ _ hplain]; decide, us ++ [⟨ts[i].kind, ts[i].text, ts[i].n, 0 + (apartTo sep ts i).length + 1 + 2⟩], ?_, hfin _ rfl⟩
      rw [List.cons_append, List.cons_append, List.cons_append, List.nil_append, lxo_split 35 (.inr (by decide)) _ _ 0 false _ (Nat.le_refl _), hus, hf]
      rw [show nc false 35 = true by decide, (sep_lxo hgt _).2]; rfl

/-- two texts joined by a line feed -/
theorem join_nl (s m : Bs) (ts us : List Tok) (hs : lx s.length s = .ok ts) (hm : lx m.length m = .ok us) :
    ∃ vs, lx (s ++ 10 :: m).length (s ++ 10 :: m) = .ok vs ∧ SameK vs (ts ++ us) := by
  have h0 : ∀ l : Bs, lxo 0 false l = lx l.length l := fun l => by unfold lxo; rw [lx_skip, Nat.zero_add]
  have hsp := lxo_split 10 (.inl (by decide)) m s.length 0 false s (Nat.le_refl _)
  rw [h0, h0, hs] at hsp
  have hn : nc (s.foldl nc false) 10 = false := by simp [nc]
  have hsh := lxo_shift 0 (s.length + 1) false m
  rw [h0, hm] at hsh
  rw [hn, show 0 + s.length + 1 = 0 + (s.length + 1) by omega, hsh] at hsp
  refine ⟨ts ++ us.map (Tok.shift (s.length + 1)), hsp, ?_⟩
  unfold SameK
  rw [List.map_append, List.map_append, List.map_map]
  rfl

theorem sk_take : ∀ (l : Bs) (cm : Bool) (c : UInt8) (r : Bs) (j : Nat), sk cm l = c :: r → sk cm (l.take (l.length - (c :: r).length + (j + 1))) = (c :: r).take (j + 1)
  | [], _, _, _, _, h => by cases h
  | d :: l, cm, c, r, j, h => by
    rw [sk_cons] at h
    by_cases hs : nc cm d = false ∧ cl d ≠ 0
    · rw [if_pos hs] at h
      obtain ⟨rfl, rfl⟩ : d = c ∧ l = r := by simpa using h
      rw [Nat.sub_self, Nat.zero_add, List.take_succ_cons, sk_cons, if_pos hs]
    · rw [if_neg hs] at h
      have hle : (c :: r).length ≤ l.length := by rw [← h]; exact sk_len _ _
      rw [List.length_cons, show l.length + 1 - (c :: r).length + (j + 1) = (l.length - (c :: r).length + (j + 1)) + 1 by omega, List.take_succ_cons, sk_cons, if_neg hs]
      exact sk_take l _ c r j h

theorem takeWhile_take (f : UInt8 → Bool) : ∀ (p : Bs) (m : Nat), (p.take ((p.takeWhile f).length + m)).takeWhile f = p.takeWhile f
  | [], _ => by simp
  | c :: p, m => by
    rw [List.takeWhile_cons]
    by_cases h : f c = true
    · rw [if_pos h, List.length_cons, show (p.takeWhile f).length + 1 + m = ((p.takeWhile f).length + m) + 1 by omega, List.take_succ_cons, List.takeWhile_cons, if_pos h, takeWhile_take f p m]
    · rw [if_neg h]
      cases m with
      | zero => rfl
      | succ m => rw [List.length_nil, Nat.zero_add, List.take_succ_cons, List.takeWhile_cons, if_neg h]

theorem tl_take (c : UInt8) (p : Bs) (m : Nat) (h0 : 0 < tl (c :: p)) : tl ((c :: p).take (tl (c :: p) + m)) = tl (c :: p) := by
  by_cases a1 : cl c = 1
  · have e : tl (c :: p) = (p.takeWhile wb).length + 1 := by rw [tl, if_pos a1, Nat.add_comm]
    rw [e, show (p.takeWhile wb).length + 1 + m = ((p.takeWhile wb).length + m) + 1 by omega, List.take_succ_cons, tl, if_pos a1, takeWhile_take, Nat.add_comm]
  · by_cases a2 : cl c = 2
    · have e : tl (c :: p) = (p.takeWhile db).length + 1 := by rw [tl, if_neg a1, if_pos a2, Nat.add_comm]
      rw [e, show (p.takeWhile db).length + 1 + m = ((p.takeWhile db).length + m) + 1 by omega, List.take_succ_cons, tl, if_neg a1, if_pos a2, takeWhile_take, Nat.add_comm]
    · by_cases a4 : cl c = 4
      · have e : tl (c :: p) = 1 := by rw [tl, if_neg a1, if_neg a2, if_pos a4]
        rw [e, Nat.add_comm, List.take_succ_cons, tl, if_neg a1, if_neg a2, if_pos a4]
      · by_cases a6 : cl c = 6
        · by_cases h : p.head? = some 62
          · have e : tl (c :: p) = 2 := by rw [tl, if_neg a1, if_neg a2, if_neg a4, if_pos a6, if_pos h]
            cases p with
            | nil => simp at h
            | cons d p =>
              simp at h
              subst h
              rw [e, show 2 + m = (m + 1) + 1 by omega, List.take_succ_cons, List.take_succ_cons, tl, if_neg a1, if_neg a2, if_neg a4, if_pos a6, if_pos (show (62 :: p.take m).head? = some 62 from rfl)]
          · rw [tl, if_neg a1, if_neg a2, if_neg a4, if_pos a6, if_neg h] at h0; omega
        · rw [tl, if_neg a1, if_neg a2, if_neg a4, if_neg a6] at h0; omega

/-- whether there is a token that fits does not hang on the offset, nor on what stands behind it -/
theorem nx_ok_take {a a' : Nat} {c : UInt8} {p : Bs} {t : Tok} (m : Nat) (h : nx a (c :: p) = .ok t) : ∃ t', nx a' ((c :: p).take (tl (c :: p) + m)) = .ok t' := by
  obtain ⟨h0, htx, _⟩ := nx_ok h
  have hg : GoodTok t := ⟨a, _, h⟩
  have htl := tl_take c p m h0
  obtain ⟨j, hj⟩ : ∃ j, tl (c :: p) + m = j + 1 := ⟨tl (c :: p) + m - 1, by omega⟩
  rw [hj, List.take_succ_cons] at htl ⊢
  have htake : (c :: p.take j).take (tl (c :: p)) = (c :: p).take (tl (c :: p)) := by
    rw [← List.take_succ_cons, ← hj, List.take_take, Nat.min_eq_left (by omega)]
  unfold nx at h ⊢
  simp only [htl, htake] at h ⊢
  have n0 : ¬ tl (c :: p) = 0 := by omega
  rw [if_neg n0] at h ⊢
  by_cases c1 : cl c = 1
  · rw [if_pos c1] at h ⊢
    by_cases c2 : tl (c :: p) > 16
    · rw [if_pos c2] at h; cases h
    · rw [if_neg c2]; exact ⟨_, rfl⟩
  · rw [if_neg c1] at h ⊢
    by_cases c2 : cl c = 2
    · rw [if_pos c2] at h ⊢
      by_cases c3 : dv 0 ((c :: p).take (tl (c :: p))) > 1099511627776
      · rw [if_pos c3] at h; cases h
      · rw [if_neg c3]; exact ⟨_, rfl⟩
    · rw [if_neg c2]; exact ⟨_, rfl⟩

/-- an error: the text ahead of it has none -/
theorem prefix_ok (N : Nat) : ∀ (n : Nat) (l : Bs) (k : Nat) (e : Int), l.length ≤ n → l.length ≤ N → lx N l = .error (k, e) →
    N - l.length ≤ k ∧ k < N ∧ okE (lx N (l.take (k - (N - l.length)))) = true
  | n, l, k, e, hn, hN, h => by
    rw [lx_eq] at h
    cases hs : sk false l with
    | nil => rw [hs] at h; cases h
    | cons c r =>
      rw [hs] at h
      simp only [] at h
      have hle : (c :: r).length ≤ l.length := by rw [← hs]; exact sk_len _ _
      have hpos : 0 < (c :: r).length := by simp
      cases hx : nx (N - (c :: r).length) (c :: r) with
      | error e' =>
        rw [hx] at h
        obtain ⟨rfl, rfl⟩ : N - (c :: r).length = k ∧ e' = e := by
          have := congrArg (fun x : Except (Nat × Int) (List Tok) => match x with | .ok _ => (0, 0) | .error y => y) h
          simp at this ⊢; exact this
        refine ⟨by omega, by omega, ?_⟩
        have hg := sk_gap l false
        rw [hs] at hg
        rw [show N - (c :: r).length - (N - l.length) = l.length - (c :: r).length by omega, lx_eq, hg]
        rfl
      | ok t =>
        rw [hx] at h
        simp only [] at h
        have h0 := (nx_ok hx).1
        obtain ⟨p2, hp2⟩ : ∃ p2, (c :: r).drop (tl (c :: r)) = p2 := ⟨_, rfl⟩
        have htl := tl_le (c :: r)
        have hl2 : p2.length = (c :: r).length - tl (c :: r) := by rw [← hp2, List.length_drop]
        rw [hp2] at h
        cases hy : lx N p2 with
        | ok us => rw [hy] at h; cases h
        | error x =>
          rw [hy] at h
          have hxx : x = (k, e) := by
            have := congrArg (fun x : Except (Nat × Int) (List Tok) => match x with | .ok _ => (0, 0) | .error y => y) h
            simpa using this
          subst hxx
          match n, hn with
          | 0, hn => omega
          | m + 1, hn =>
            obtain ⟨i1, i2, i3⟩ := prefix_ok N m p2 k e (by omega) (by omega) hy
            refine ⟨by omega, i2, ?_⟩
            obtain ⟨q, hq⟩ : ∃ q, k - (N - p2.length) = q := ⟨_, rfl⟩
            rw [hq] at i3
            obtain ⟨t', ht'⟩ := nx_ok_take (a' := N - ((c :: r).take (tl (c :: r) + q)).length) q hx
            have e1 : k - (N - l.length) = l.length - (c :: r).length + (tl (c :: r) + q) := by omega
            obtain ⟨j, hj⟩ : ∃ j, tl (c :: r) + q = j + 1 := ⟨tl (c :: r) + q - 1, by omega⟩
            rw [e1, lx_eq, hj, sk_take l false c r j hs]
            rw [hj] at ht'
            have htt := tl_take c r q h0
            rw [hj] at htt
            have hdd : ((c :: r).take (j + 1)).drop (tl (c :: r)) = p2.take q := by
              rw [← hj, ← hp2, List.take_add, List.drop_append_of_le_length (by rw [List.length_take]; omega)]
              rw [List.drop_of_length_le (by rw [List.length_take]; omega), List.nil_append]
            rw [List.take_succ_cons] at ht' htt hdd ⊢
            simp only []
            rw [ht']
            simp only []
            rw [htt, hdd]
            obtain ⟨us, hus⟩ : ∃ us, lx N (p2.take q) = .ok us := by
              cases hz : lx N (p2.take q) with
              | error z => rw [hz] at i3; cases i3
              | ok us => exact ⟨us, rfl⟩
            rw [hus]
            rfl

end Go.Proofs.YtndlecddgihihaaDoor
