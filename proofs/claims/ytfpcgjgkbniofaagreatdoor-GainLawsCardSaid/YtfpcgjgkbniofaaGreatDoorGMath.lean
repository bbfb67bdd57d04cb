/- Gains: changes, needs, the sequences in their order, the search; plain Lean. -/
import Derived.Test.YtfpcgjgkbniofaaGreatDoorGCat
set_option linter.unusedVariables false
set_option linter.unusedSimpArgs false
namespace Go.Proofs.YtfpcgjgkbniofaaGreatDoor

/-- what a rule changes -/
def effI (r : Rul) (i : Nat) : Int := (ofI r.give i : Int) - (ofI r.take i : Int)
/-- what rules change -/
def netF (i : Nat) : List Rul → Int
  | [] => 0
  | r :: t => effI r i + netF i t
def needR (i : Nat) : Int → Int → List Rul → Int
  | acc, _, [] => acc
  | acc, net, r :: t => needR i (max acc ((ofI r.take i : Int) - net)) (net + effI r i) t
def needF (i : Nat) (l : List Rul) : Int := needR i 0 0 l

theorem netF_append (i : Nat) : ∀ a b, netF i (a ++ b) = netF i a + netF i b
  | [], b => by simp [netF]
  | x :: a, b => by simp [netF, netF_append i a b, Int.add_assoc]
theorem netF_snoc (i : Nat) (a : List Rul) (r : Rul) : netF i (a ++ [r]) = netF i a + effI r i := by
  rw [netF_append]; simp [netF]
theorem netF_perm (i : Nat) {a b : List Rul} (h : a.Perm b) : netF i a = netF i b := by
  induction h with
  | nil => rfl
  | cons x _ ih => simp [netF, ih]
  | swap x y l => simp only [netF]; omega
  | trans _ _ h1 h2 => rw [h1, h2]
theorem needR_append (i : Nat) : ∀ a b acc net, needR i acc net (a ++ b) = needR i (needR i acc net a) (net + netF i a) b
  | [], b, acc, net => by simp [needR, netF]
  | x :: a, b, acc, net => by
    rw [List.cons_append, needR, needR_append i a b, needR, netF, Int.add_assoc]
theorem needF_snoc (i : Nat) (a : List Rul) (r : Rul) : needF i (a ++ [r]) = max (needF i a) ((ofI r.take i : Int) - netF i a) := by
  unfold needF
  rw [needR_append]
  simp [needR]
theorem needR_ge (i : Nat) : ∀ l acc net, acc ≤ needR i acc net l
  | [], acc, net => Int.le_refl _
  | r :: t, acc, net => Int.le_trans (Int.le_max_left _ _) (needR_ge i t _ _)
theorem needF_nonneg (i : Nat) (l : List Rul) : 0 ≤ needF i l := needR_ge i l 0 0
/-- never less than what is missing -/
theorem needF_net (i : Nat) (l : List Rul) : -netF i l ≤ needF i l := by
  have key : ∀ l acc net, -net ≤ acc → -(net + netF i l) ≤ needR i acc net l := by
    intro l
    induction l with
    | nil => intro acc net h; simpa [needR, netF] using h
    | cons r t ih =>
      intro acc net h
      have := ih (max acc ((ofI r.take i : Int) - net)) (net + effI r i) (by unfold effI; omega)
      rw [needR, netF]
      omega
  have := key l 0 0 (by omega)
  simpa [needF] using this
theorem needR_max (i : Nat) : ∀ l a b net, needR i (max a b) net l = max a (needR i b net l)
  | [], a, b, net => rfl
  | r :: t, a, b, net => by
    rw [needR, needR, Int.max_assoc, needR_max i t]
theorem needR_mono (i : Nat) : ∀ l a b n m, a ≤ b → m ≤ n → needR i a n l ≤ needR i b m l
  | [], a, b, n, m, h, _ => h
  | r :: t, a, b, n, m, h, h2 => needR_mono i t _ _ _ _ (by omega) (by omega)
/-- three times in a row -/
theorem need_thrice (i : Nat) (l : List Rul) (h : 0 ≤ netF i l) : needF i (l ++ l ++ l) ≤ needF i l := by
  have key : ∀ m, 0 ≤ m → needR i (needF i l) m l ≤ needF i l := by
    intro m hm
    have h1 := needR_mono i l (needF i l) (needF i l) m 0 (Int.le_refl _) hm
    have h2 : needR i (needF i l) 0 l = needF i l := by
      have h3 := needR_max i l (needF i l) 0 0
      have h0 := needF_nonneg i l
      rw [show max (needF i l) 0 = needF i l by omega] at h3
      rw [h3]
      exact Int.max_self _
    omega
  have hn := needF_nonneg i l
  unfold needF
  rw [needR_append, needR_append, Int.zero_add, netF_append]
  show needR i (needR i (needF i l) (netF i l) l) _ l ≤ needF i l
  have h1 := key (netF i l) h
  exact Int.le_trans (needR_mono i l _ _ _ _ h1 (Int.le_refl _)) (key _ (by omega))

/-- bounds: at most 2 * 1000 a rule -/
theorem ofI_le {n M K : Nat} {l : List Amt} (h : GoodL n M K l) (i : Nat) : ofI l i ≤ K * M := by
  have key : ∀ l : List Amt, (∀ a ∈ l, a.n ≤ M) → ofI l i ≤ l.length * M := by
    intro l
    induction l with
    | nil => intro _; simp [ofI_nil]
    | cons x r ih =>
      intro h
      have h1 := ih (fun a ha => h a (by simp [ha]))
      have h2 := h x (by simp)
      rw [ofI_cons, List.length_cons, Nat.succ_mul]
      split <;> omega
  exact Nat.le_trans (key l (fun a ha => (h.all a ha).2.2)) (Nat.mul_le_mul_right _ h.len)
theorem ofI_ge {n M K : Nat} {l : List Amt} (h : GoodL n M K l) (i : Nat) (hi : n ≤ i) : ofI l i = 0 := by
  have key : ∀ l : List Amt, (∀ a ∈ l, a.item < n) → ofI l i = 0 := by
    intro l
    induction l with
    | nil => intro _; rfl
    | cons x r ih =>
      intro h
      have h2 := h x (by simp)
      rw [ofI_cons, ih (fun a ha => h a (by simp [ha])), if_neg (by omega)]
  exact key l (fun a ha => (h.all a ha).1)
theorem effI_le {n : Nat} {r : Rul} (h : GoodR n r) (i : Nat) : -2000 ≤ effI r i ∧ effI r i ≤ 2000 := by
  have h1 := ofI_le h.take i
  have h2 := ofI_le h.give i
  unfold effI
  omega
theorem netF_le {n : Nat} (i : Nat) : ∀ l : List Rul, (∀ r ∈ l, GoodR n r) → -2000 * (l.length : Int) ≤ netF i l ∧ netF i l ≤ 2000 * (l.length : Int)
  | [], _ => by simp [netF]
  | r :: t, h => by
    have h1 := effI_le (h r (by simp)) i
    have h2 := netF_le i t (fun a ha => h a (by simp [ha]))
    rw [netF, List.length_cons]
    omega
theorem needF_le {n : Nat} (i : Nat) (l : List Rul) (h : ∀ r ∈ l, GoodR n r) : needF i l ≤ 2000 * (l.length : Int) := by
  have key : ∀ l acc net (B : Int), (∀ r ∈ l, GoodR n r) → acc ≤ B → -net ≤ B → needR i acc net l ≤ B + 2000 * (l.length : Int) := by
    intro l
    induction l with
    | nil => intro acc net B _ h1 _; simpa [needR] using h1
    | cons r t ih =>
      intro acc net B h h1 h2
      have h3 := ofI_le (h r (by simp)).take i
      have h4 := effI_le (h r (by simp)) i
      have := ih (max acc ((ofI r.take i : Int) - net)) (net + effI r i) (B + 2000) (fun a ha => h a (by simp [ha])) (by omega) (by omega)
      rw [needR, List.length_cons]
      omega
  have := key l 0 0 0 h (by omega) (by omega)
  unfold needF
  omega

/-- a change that is a gain -/
def gainsB (l : List Int) : Bool := l.all (fun x => decide (0 ≤ x)) && l.any (fun x => decide (0 < x))

/-- sequences of m of the given ones in which none stands before the one in front of it, in their order -/
def extL (f : List Nat → List (List Nat)) : List Nat → List (List Nat)
  | [] => []
  | x :: r => (f (x :: r)).map (x :: ·) ++ extL f r
def ext : Nat → List Nat → List (List Nat)
  | 0, _ => [[]]
  | m + 1, u => extL (ext m) u
def seqs (u : List Nat) (most : Nat) : List (List Nat) := (List.range most).flatMap (fun k => ext (k + 1) u)

theorem extL_len (f : List Nat → List (List Nat)) (B : Nat) : ∀ u : List Nat, (∀ t, t <:+ u → (f t).length ≤ B) → (extL f u).length ≤ u.length * B
  | [], _ => by simp [extL]
  | x :: r, h => by
    have h1 := h (x :: r) (List.suffix_refl _)
    have h2 := extL_len f B r (fun t ht => h t (ht.trans (List.suffix_cons _ _)))
    rw [extL, List.length_append, List.length_map, List.length_cons, Nat.succ_mul]
    omega
theorem ext_len : ∀ (m : Nat) (u : List Nat), (ext m u).length ≤ u.length ^ m
  | 0, u => by simp [ext]
  | m + 1, u => by
    rw [ext, Nat.pow_succ, Nat.mul_comm]
    exact extL_len _ _ u (fun t ht => Nat.le_trans (ext_len m t) (Nat.pow_le_pow_left ht.length_le m))

theorem extL_mem {f : List Nat → List (List Nat)} {s : List Nat} : ∀ {u : List Nat}, s ∈ extL f u → ∃ x r s', (x :: r) <:+ u ∧ s = x :: s' ∧ s' ∈ f (x :: r)
  | [], h => by simp [extL] at h
  | x :: r, h => by
    rw [extL, List.mem_append, List.mem_map] at h
    rcases h with ⟨s', h1, rfl⟩ | h
    · exact ⟨x, r, s', List.suffix_refl _, rfl, h1⟩
    · obtain ⟨y, q, s', h1, h2, h3⟩ := extL_mem h
      exact ⟨y, q, s', h1.trans (List.suffix_cons _ _), h2, h3⟩
/-- all are of the given ones; their number; in order -/
theorem ext_mem : ∀ {m : Nat} {u s : List Nat}, s ∈ ext m u → s.length = m ∧ (∀ x ∈ s, x ∈ u) ∧ (u.Pairwise (· < ·) → s.Pairwise (· ≤ ·))
  | 0, u, s, h => by
    rw [ext, List.mem_singleton] at h
    subst h
    simp
  | m + 1, u, s, h => by
    obtain ⟨x, r, s', h1, rfl, h3⟩ := extL_mem h
    obtain ⟨h4, h5, h6⟩ := ext_mem h3
    refine ⟨by simp [h4], fun y hy => ?_, fun hu => ?_⟩
    · rcases List.mem_cons.1 hy with rfl | hy
      · exact h1.subset (by simp)
      · exact h1.subset (h5 y hy)
    · have hxr : (x :: r).Pairwise (· < ·) := hu.sublist h1.sublist
      refine List.pairwise_cons.2 ⟨fun y hy => ?_, h6 hxr⟩
      rcases List.mem_cons.1 (h5 y hy) with rfl | hr
      · exact Nat.le_refl _
      · exact Nat.le_of_lt ((List.pairwise_cons.1 hxr).1 y hr)

theorem ext_more {m : Nat} {x : Nat} {r s : List Nat} (h : s ∈ ext m r) : s ∈ ext m (x :: r) := by
  cases m with
  | zero => exact h
  | succ m => rw [ext, extL]; exact List.mem_append_right _ h
theorem ext_rep {x : Nat} {r s : List Nat} {m : Nat} (h : s ∈ ext m r) : ∀ c, List.replicate c x ++ s ∈ ext (c + m) (x :: r)
  | 0 => by simpa using ext_more h
  | c + 1 => by
    have ih := ext_rep (x := x) h c
    rw [show c + 1 + m = (c + m) + 1 by omega, ext, extL]
    refine List.mem_append_left _ (List.mem_map.2 ⟨_, ih, ?_⟩)
    simp [List.replicate_succ]
/-- each choice stands there in one order -/
theorem ext_all : ∀ (u s : List Nat), (∀ x ∈ s, x ∈ u) → ∃ s', s' ∈ ext s.length u ∧ s'.Perm s
  | [], s, h => by
    have : s = [] := List.eq_nil_iff_forall_not_mem.2 (fun x hx => by simpa using h x hx)
    subst this
    exact ⟨[], by simp [ext], List.Perm.refl _⟩
  | x :: r, s, h => by
    have hp : (s.filter (fun y => y == x) ++ s.filter (fun y => !(y == x))).Perm s := List.filter_append_perm _ _
    have hrep : s.filter (fun y => y == x) = List.replicate (s.filter (fun y => y == x)).length x := by
      refine List.eq_replicate_iff.2 ⟨rfl, fun b hb => ?_⟩
      have := (List.mem_filter.1 hb).2
      simpa using this
    obtain ⟨t', ht1, ht2⟩ := ext_all r (s.filter (fun y => !(y == x))) (fun y hy => by
      have := List.mem_filter.1 hy
      rcases List.mem_cons.1 (h y this.1) with e | e
      · exact absurd e (by simpa using this.2)
      · exact e)
    have hl : (s.filter (fun y => y == x)).length + (s.filter (fun y => !(y == x))).length = s.length := by
      have := hp.length_eq
      rwa [List.length_append] at this
    refine ⟨List.replicate (s.filter (fun y => y == x)).length x ++ t', ?_, ?_⟩
    · have := ext_rep (x := x) ht1 (s.filter (fun y => y == x)).length
      rwa [hl] at this
    · refine List.Perm.trans ?_ hp
      rw [← hrep]
      exact List.Perm.append_left _ ht2

theorem extL_map (g : Nat → Nat) (f f' : List Nat → List (List Nat)) (h : ∀ u : List Nat, f (u.map g) = (f' u).map (List.map g)) : ∀ u : List Nat, extL f (u.map g) = (extL f' u).map (List.map g)
  | [] => rfl
  | x :: r => by
    rw [List.map_cons, extL, extL, List.map_append, ← List.map_cons, h, extL_map g f f' h r]
    simp [List.map_map, Function.comp_def]
theorem ext_map (g : Nat → Nat) : ∀ (m : Nat) (u : List Nat), ext m (u.map g) = (ext m u).map (List.map g)
  | 0, u => rfl
  | m + 1, u => extL_map g _ _ (ext_map g m) u

/-- the one behind a sequence of places below k -/
def nextL (k : Nat) : List Nat → Option (List Nat)
  | [] => none
  | x :: s => match nextL k s with
    | some s' => some (x :: s')
    | none => if x + 1 = k then none else some (List.replicate (s.length + 1) (x + 1))

/-- each is followed by the next one; the last one has none -/
def Chn (k : Nat) : List (List Nat) → Prop
  | [] => True
  | [s] => nextL k s = none
  | s :: t :: r => nextL k s = some t ∧ Chn k (t :: r)

theorem nextL_rep (k x : Nat) (h : x + 1 = k) : ∀ m, nextL k (List.replicate m x) = none
  | 0 => rfl
  | m + 1 => by rw [List.replicate_succ, nextL, nextL_rep k x h m]; simp [h]

theorem chn_map (k x : Nat) (Y : List (List Nat)) (hh : ∀ s s', nextL k s = some s' → nextL k (x :: s) = some (x :: s')) : ∀ (E : List (List Nat)), E ≠ [] → Chn k E → (∀ s, E.getLast? = some s → nextL k (x :: s) = Y.head?) → Chn k Y → Chn k (E.map (x :: ·) ++ Y)
  | [], h, _, _, _ => absurd rfl h
  | [s], _, h, hl, hY => by
    have h1 := hl s rfl
    cases Y with
    | nil => exact h1
    | cons y r => exact ⟨h1, hY⟩
  | s :: t :: r, _, h, hl, hY => by
    have h2 := chn_map k x Y hh (t :: r) (by simp) h.2 (fun s hs => hl s (by rw [← hs]; simp)) hY
    exact ⟨hh _ _ h.1, h2⟩

theorem range'_cons (a c : Nat) : List.range' a (c + 1) = a :: List.range' (a + 1) c := by simp [List.range'_succ]

theorem ext_chain (k : Nat) : ∀ (m c a : Nat), a + (c + 1) = k →
    Chn k (ext m (List.range' a (c + 1))) ∧ (ext m (List.range' a (c + 1))).head? = some (List.replicate m a) ∧ (ext m (List.range' a (c + 1))).getLast? = some (List.replicate m (k - 1))
  | 0, c, a, _ => ⟨rfl, rfl, rfl⟩
  | m + 1, 0, a, h => by
    obtain ⟨h1, h2, h3⟩ := ext_chain k m 0 a h
    have hne : ext m (List.range' a 1) ≠ [] := by intro e; rw [e] at h2; cases h2
    have e : ext (m + 1) (List.range' a 1) = (ext m (List.range' a 1)).map (a :: ·) := by simp [ext, extL, List.range'_succ]
    rw [e]
    refine ⟨?_, ?_, ?_⟩
    · have := chn_map k a [] (fun s s' h => by rw [nextL, h]) _ hne h1 (fun s hs => by
        rw [h3] at hs
        injection hs with hs
        subst hs
        rw [nextL, nextL_rep k _ (by omega)]
        simp [show a + 1 = k by omega]) trivial
      simpa using this
    · rw [List.head?_map, h2]; rfl
    · rw [List.getLast?_map, h3]
      simp [List.replicate_succ, show a = k - 1 by omega]
  | m + 1, c + 1, a, h => by
    obtain ⟨h1, h2, h3⟩ := ext_chain k m (c + 1) a h
    obtain ⟨g1, g2, g3⟩ := ext_chain k (m + 1) c (a + 1) (by omega)
    have hne : ext m (List.range' a (c + 2)) ≠ [] := by intro e; rw [e] at h2; cases h2
    have e : ext (m + 1) (List.range' a (c + 2)) = (ext m (List.range' a (c + 2))).map (a :: ·) ++ ext (m + 1) (List.range' (a + 1) (c + 1)) := by
      rw [ext, range'_cons a (c + 1), extL]
      rfl
    rw [e]
    refine ⟨chn_map k a _ (fun s s' h => by rw [nextL, h]) _ hne h1 (fun s hs => ?_) g1, ?_, ?_⟩
    · rw [h3] at hs
      injection hs with hs
      subst hs
      rw [nextL, nextL_rep k _ (by omega), g2]
      simp [show ¬ a + 1 = k by omega]
    · rw [List.head?_append, List.head?_map, h2]; rfl
    · rw [List.getLast?_append, g3]; rfl

/-- the search: what is found, nothing, or the fuel is used up -/
inductive Sought where
  | found (s : List Nat)
  | nothing
  | empty
def scan (g : List Nat → Bool) : List (List Nat) → Int → Sought
  | [], _ => .nothing
  | s :: r, f => if f ≤ 0 then .empty else if g s then .found s else scan g r (f - 1)

theorem scan_cut (g : List Nat → Bool) : ∀ (a b : List (List Nat)) (f : Int), (∀ s ∈ a, g s = false) → (a.length : Int) ≤ f → scan g (a ++ b) f = scan g b (f - a.length)
  | [], b, f, _, _ => by simp
  | s :: a, b, f, h, hf => by
    have h1 := h s (by simp)
    rw [List.length_cons] at hf
    rw [List.cons_append, scan, if_neg (by omega), if_neg (by simp [h1]), scan_cut g a b (f - 1) (fun t ht => h t (by simp [ht])) (by omega), show f - 1 - (a.length : Int) = f - ((s :: a).length : Int) by rw [List.length_cons]; omega]
theorem scan_none (g : List Nat → Bool) (a : List (List Nat)) (f : Int) (h : ∀ s ∈ a, g s = false) (hf : (a.length : Int) ≤ f) : scan g a f = .nothing := by
  have := scan_cut g a [] f h hf
  simpa [scan] using this
theorem scan_found (g : List Nat → Bool) : ∀ (a : List (List Nat)) (f : Int), (∃ s ∈ a, g s = true) → (a.length : Int) ≤ f → ∃ s ∈ a, g s = true ∧ scan g a f = .found s
  | [], f, h, _ => by obtain ⟨s, h, _⟩ := h; cases h
  | s :: a, f, h, hf => by
    rw [List.length_cons] at hf
    by_cases hg : g s = true
    · exact ⟨s, by simp, hg, by rw [scan, if_neg (by omega), if_pos hg]⟩
    · obtain ⟨t, ht, ht2⟩ := h
      rcases List.mem_cons.1 ht with rfl | ht
      · exact absurd ht2 hg
      · obtain ⟨u, hu, hu2, hu3⟩ := scan_found g a (f - 1) ⟨t, ht, ht2⟩ (by omega)
        exact ⟨u, by simp [hu], hu2, by rw [scan, if_neg (by omega), if_neg hg, hu3]⟩
theorem scan_mem {g : List Nat → Bool} : ∀ {a : List (List Nat)} {f : Int} {s : List Nat}, scan g a f = .found s → s ∈ a ∧ g s = true
  | [], f, s, h => by cases h
  | t :: a, f, s, h => by
    rw [scan] at h
    split at h
    · cases h
    · split at h
      · next hg => injection h with h; subst h; exact ⟨by simp, hg⟩
      · have := scan_mem h; exact ⟨by simp [this.1], this.2⟩
end Go.Proofs.YtfpcgjgkbniofaaGreatDoor
