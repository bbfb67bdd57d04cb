/- Catalogs as data, and the generated ones: plain Lean. -/
import Derived.Test.YtfpcgjgkbniofaaGreatDoorDecimal
set_option linter.unusedVariables false
set_option linter.unusedSimpArgs false
namespace Go.Proofs.YtfpcgjgkbniofaaGreatDoor

structure Amt where
  item : Nat
  n : Nat
structure Rul where
  name : Tx
  spawn : Bool
  time : Nat
  of_ : Nat
  take : List Amt
  give : List Amt
  back : List Amt
structure Cat where
  items : List Tx
  rules : List Rul

/-- a weighted sum of amounts -/
def wsum (f : Nat → Int) : List Amt → Int
  | [] => 0
  | x :: r => f x.item * x.n + wsum f r

theorem wsum_append (f : Nat → Int) : ∀ a b, wsum f (a ++ b) = wsum f a + wsum f b
  | [], b => by simp [wsum]
  | x :: a, b => by simp [wsum, wsum_append f a b, Int.add_assoc]

/-- the units of an item -/
def ofI (l : List Amt) (i : Nat) : Nat := ((l.filter (fun a => a.item == i)).map (·.n)).sum

theorem ofI_cons (x : Amt) (l : List Amt) (i : Nat) : ofI (x :: l) i = (if x.item = i then x.n else 0) + ofI l i := by
  unfold ofI
  by_cases h : x.item = i <;> simp [List.filter_cons, h]
theorem ofI_nil (i : Nat) : ofI [] i = 0 := rfl
theorem ofI_append (a b : List Amt) (i : Nat) : ofI (a ++ b) i = ofI a i + ofI b i := by simp [ofI]

def putF (it k : Nat) : Bool → List Amt → List Amt
  | d, [] => if d then [] else [⟨it, k⟩]
  | d, x :: r => if x.item = it then ⟨it, x.n + k⟩ :: putF it k true r
    else if it < x.item ∧ d = false then ⟨it, k⟩ :: x :: putF it k true r
    else x :: putF it k d r
def putA (l : List Amt) (it k : Nat) : List Amt := putF it k false l

def SortedA (l : List Amt) : Prop := l.Pairwise (fun a b => a.item < b.item)
structure GoodL (n M K : Nat) (l : List Amt) : Prop where
  sorted : SortedA l
  all : ∀ a ∈ l, a.item < n ∧ 1 ≤ a.n ∧ a.n ≤ M
  len : l.length ≤ K

theorem putF_true (it k : Nat) : ∀ l : List Amt, (∀ a ∈ l, it < a.item) → putF it k true l = l
  | [], _ => rfl
  | x :: r, h => by
    have hx := h x (by simp)
    rw [putF, if_neg (by omega), if_neg (by simp), putF_true it k r (fun a ha => h a (by simp [ha]))]

theorem putF_mem (it k : Nat) : ∀ l : List Amt, ∀ a ∈ putF it k false l, a ∈ l ∨ (a.item = it ∧ (a.n = k ∨ ∃ x ∈ l, a.n = x.n + k)) := by
  intro l
  induction l with
  | nil => intro a ha; simp [putF] at ha; subst ha; exact .inr ⟨rfl, .inl rfl⟩
  | cons x r ih =>
    have ht : ∀ (r : List Amt), ∀ a ∈ putF it k true r, a ∈ r ∨ (a.item = it ∧ ∃ x ∈ r, a.n = x.n + k) := by
      intro r
      induction r with
      | nil => intro a ha; simp [putF] at ha
      | cons y r ih2 =>
        intro a ha
        rw [putF] at ha
        split at ha
        · rcases List.mem_cons.1 ha with rfl | ha
          · exact .inr ⟨rfl, y, by simp, rfl⟩
          · rcases ih2 a ha with h | ⟨h, z, hz, hn⟩
            · exact .inl (by simp [h])
            · exact .inr ⟨h, z, by simp [hz], hn⟩
        · rw [if_neg (by simp)] at ha
          rcases List.mem_cons.1 ha with rfl | ha
          · exact .inl (by simp)
          · rcases ih2 a ha with h | ⟨h, z, hz, hn⟩
            · exact .inl (by simp [h])
            · exact .inr ⟨h, z, by simp [hz], hn⟩
    intro a ha
    rw [putF] at ha
    split at ha
    · rcases List.mem_cons.1 ha with rfl | ha
      · exact .inr ⟨rfl, .inr ⟨x, by simp, rfl⟩⟩
      · rcases ht r a ha with h | ⟨h, z, hz, hn⟩
        · exact .inl (by simp [h])
        · exact .inr ⟨h, .inr ⟨z, by simp [hz], hn⟩⟩
    · split at ha
      · rcases List.mem_cons.1 ha with rfl | ha
        · exact .inr ⟨rfl, .inl rfl⟩
        · rcases List.mem_cons.1 ha with rfl | ha
          · exact .inl (by simp)
          · rcases ht r a ha with h | ⟨h, z, hz, hn⟩
            · exact .inl (by simp [h])
            · exact .inr ⟨h, .inr ⟨z, by simp [hz], hn⟩⟩
      · rcases List.mem_cons.1 ha with rfl | ha
        · exact .inl (by simp)
        · rcases ih a ha with h | ⟨h, h2 | ⟨z, hz, hn⟩⟩
          · exact .inl (by simp [h])
          · exact .inr ⟨h, .inl h2⟩
          · exact .inr ⟨h, .inr ⟨z, by simp [hz], hn⟩⟩

theorem putF_sorted (it k : Nat) : ∀ l : List Amt, SortedA l → SortedA (putF it k false l) := by
  intro l
  induction l with
  | nil => intro _; simp [putF, SortedA]
  | cons x r ih =>
    intro h
    have h' := List.pairwise_cons.1 h
    rw [putF]
    split
    · next e =>
      rw [putF_true it k r (fun a ha => by have := h'.1 a ha; omega)]
      exact List.pairwise_cons.2 ⟨fun a ha => by have := h'.1 a ha; show it < a.item; omega, h'.2⟩
    · split
      · next e1 e2 =>
        rw [putF_true it k r (fun a ha => by have := h'.1 a ha; omega)]
        refine List.pairwise_cons.2 ⟨fun a ha => ?_, h⟩
        show it < a.item
        rcases List.mem_cons.1 ha with rfl | ha
        · exact e2.1
        · have := h'.1 a ha; omega
      · next e1 e2 =>
        refine List.pairwise_cons.2 ⟨fun a ha => ?_, ih h'.2⟩
        rcases putF_mem it k r a ha with h5 | ⟨h5, _⟩
        · exact h'.1 a h5
        · rw [h5]
          have : ¬ it < x.item := fun h9 => e2 ⟨h9, rfl⟩
          omega

theorem putF_len (it k : Nat) : ∀ (l : List Amt), (∀ d, (putF it k d l).length ≤ l.length + 1) ∧ (putF it k true l).length ≤ l.length
  | [] => ⟨fun d => by cases d <;> simp [putF], by simp [putF]⟩
  | x :: r => by
    have ih := putF_len it k r
    refine ⟨fun d => ?_, ?_⟩
    · rw [putF]
      split
      · have := ih.2; simp; omega
      · split
        · have := ih.2; simp; omega
        · have := ih.1 d; simp; omega
    · rw [putF]
      split
      · have := ih.2; simp; omega
      · rw [if_neg (by simp)]
        have := ih.2; simp; omega

theorem putF_ne (it k : Nat) (l : List Amt) : putF it k false l ≠ [] := by
  cases l with
  | nil => simp [putF]
  | cons x r => rw [putF]; split <;> (try split) <;> simp

theorem putA_good {n M K it k : Nat} {l : List Amt} (h : GoodL n M K l) (hi : it < n) (hk : 1 ≤ k) : GoodL n (M + k) (K + 1) (putA l it k) := by
  refine ⟨putF_sorted it k l h.sorted, fun a ha => ?_, by have := (putF_len it k l).1 false; have := h.len; unfold putA; omega⟩
  rcases putF_mem it k l a ha with h5 | ⟨h5, h6 | ⟨x, hx, h6⟩⟩
  · have := h.all a h5; omega
  · omega
  · have := h.all x hx; omega

theorem GoodL.mono {n M M' K K' : Nat} {l : List Amt} (h : GoodL n M K l) (hM : M ≤ M') (hK : K ≤ K') : GoodL n M' K' l :=
  ⟨h.sorted, fun a ha => by have := h.all a ha; omega, by have := h.len; omega⟩
theorem GoodL.nil (n M K : Nat) : GoodL n M K [] := ⟨List.Pairwise.nil, (fun _ h => by cases h), by simp⟩

theorem putF_wsum (f : Nat → Int) (it k : Nat) : ∀ (l : List Amt), SortedA l → wsum f (putF it k false l) = wsum f l + f it * k := by
  intro l
  induction l with
  | nil => intro _; simp [putF, wsum]
  | cons x r ih =>
    intro h
    have h' := List.pairwise_cons.1 h
    rw [putF]
    split
    · next e =>
      rw [putF_true it k r (fun a ha => by have := h'.1 a ha; omega)]
      simp only [wsum, e, Int.natCast_add, Int.mul_add]
      omega
    · split
      · next e1 e2 =>
        rw [putF_true it k r (fun a ha => by have := h'.1 a ha; omega)]
        simp only [wsum]
        omega
      · simp only [wsum, ih h'.2]
        omega

/-- what makes a rule good, for n items -/
structure GoodR (n : Nat) (r : Rul) : Prop where
  take : GoodL n 1000 2 r.take
  give : GoodL n 1000 2 r.give
  back : GoodL n 1000 2 r.back
  of1 : 1 ≤ r.of_
  of2 : r.of_ ≤ 2
  time : r.time ≤ 1
  hasBack : r.back ≠ [] → r.of_ = 2
  spawn : r.spawn = true → r.take = [] ∧ r.back = [] ∧ r.time = 0 ∧ r.of_ = 1
  player : r.spawn = false → r.take ≠ [] ∨ r.time = 1
  within : r.back = [] ∨ r.back = r.take

structure Good (c : Cat) : Prop where
  items : c.items.length ≤ 6
  some_ : 1 ≤ c.items.length
  rules : c.rules.length ≤ 22
  each : ∀ r ∈ c.rules, GoodR c.items.length r

/-- the generated catalogs; pk i m: number i, modulo m -/
def itemNames : List Tx := [[111, 114, 101], [98, 97, 114], [99, 111, 105, 110], [119, 111, 111, 100], [103, 101, 109], [100, 117, 115, 116]]
def ruleTx (i : Nat) : Tx := [114, 117, 108, 101] ++ dec i

structure Picks (pk : Nat → Nat → Nat) : Prop where
  lt : ∀ i m, 0 < m → pk i m < m

section
variable (pk : Nat → Nat → Nat) (bal : Bool)
def genN : Nat := 1 + pk 0 5
def genW (i : Nat) : Nat := 1 + pk (1 + i) 4
def gBy (i k : Nat) : Nat := 1 + pk (9 + 5 * i + 2 * k) 30 / 10
def gA (n i k : Nat) : Nat := pk (9 + 5 * i + 2 * k) n
def gB (n i k : Nat) : Nat := pk (10 + 5 * i + 2 * k) n
def gTakeN (n i k : Nat) : Nat := if bal then genW pk (gB pk n i k) * gBy pk i k else gBy pk i k
def gGiveN (n i k : Nat) : Nat := if bal then genW pk (gA pk n i k) * gBy pk i k else 1 + pk (10 + 5 * i + 2 * k) 40 / 10
def gTake (n i : Nat) : Nat → List Amt
  | 0 => []
  | k + 1 => putA (gTake n i k) (gA pk n i k) (gTakeN pk bal n i k)
def gGive (n i : Nat) : Nat → List Amt
  | 0 => []
  | k + 1 => putA (gGive n i k) (gB pk n i k) (gGiveN pk bal n i k)
def gK (i : Nat) : Nat := pk (8 + 5 * i) 3 / 2 + 1
def gRule (n i : Nat) : Rul :=
  let t := gTake pk bal n i (gK pk i)
  let g := gGive pk bal n i (gK pk i)
  let how := pk (11 + 5 * i) 10
  if how = 9 then ⟨ruleTx i, true, 0, 1, [], g, []⟩
  else ⟨ruleTx i, false, 0, if how < 3 then 2 else 1, t, g, if how < 3 ∧ (bal = true ∨ how = 0) then t else []⟩
def genCat : Cat := ⟨itemNames.take (genN pk), (List.range (pk 7 7)).map (gRule pk bal (genN pk))⟩
end

section
variable {pk : Nat → Nat → Nat} {bal : Bool} (hp : Picks pk)
include hp
theorem genN_le : 1 ≤ genN pk ∧ genN pk ≤ 5 := by have := hp.lt 0 5 (by omega); unfold genN; omega
theorem gBy_le (i k : Nat) : 1 ≤ gBy pk i k ∧ gBy pk i k ≤ 3 := by have := hp.lt (9 + 5 * i + 2 * k) 30 (by omega); unfold gBy; omega
theorem genW_le (i : Nat) : 1 ≤ genW pk i ∧ genW pk i ≤ 4 := by have := hp.lt (1 + i) 4 (by omega); unfold genW; omega
theorem gTakeN_le (n i k : Nat) : 1 ≤ gTakeN pk bal n i k ∧ gTakeN pk bal n i k ≤ 12 := by
  have h1 := gBy_le hp i k
  have h2 := genW_le hp (gB pk n i k)
  unfold gTakeN
  split
  · exact ⟨Nat.mul_pos h2.1 h1.1, Nat.mul_le_mul h2.2 h1.2⟩
  · omega
theorem gGiveN_le (n i k : Nat) : 1 ≤ gGiveN pk bal n i k ∧ gGiveN pk bal n i k ≤ 12 := by
  have h1 := gBy_le hp i k
  have h2 := genW_le hp (gA pk n i k)
  have h3 := hp.lt (10 + 5 * i + 2 * k) 40 (by omega)
  unfold gGiveN
  split
  · exact ⟨Nat.mul_pos h2.1 h1.1, Nat.mul_le_mul h2.2 h1.2⟩
  · omega
theorem gTake_good (n i : Nat) (hn : 0 < n) : ∀ k, GoodL n (12 * k) k (gTake pk bal n i k)
  | 0 => GoodL.nil _ _ _
  | k + 1 => by
    have ih := gTake_good n i hn k
    have h2 := gTakeN_le (bal := bal) hp n i k
    exact (putA_good ih (hp.lt _ _ hn) h2.1).mono (by omega) (Nat.le_refl _)
theorem gGive_good (n i : Nat) (hn : 0 < n) : ∀ k, GoodL n (12 * k) k (gGive pk bal n i k)
  | 0 => GoodL.nil _ _ _
  | k + 1 => by
    have ih := gGive_good n i hn k
    have h2 := gGiveN_le (bal := bal) hp n i k
    exact (putA_good ih (hp.lt _ _ hn) h2.1).mono (by omega) (Nat.le_refl _)
theorem gK_le (i : Nat) : 1 ≤ gK pk i ∧ gK pk i ≤ 2 := by have := hp.lt (8 + 5 * i) 3 (by omega); unfold gK; omega
omit hp in
theorem gTake_ne (n i k : Nat) (hk : 1 ≤ k) : gTake pk bal n i k ≠ [] := by
  match k, hk with
  | k + 1, _ => exact putF_ne _ _ _
theorem gRule_good (n i : Nat) (hn : 0 < n) : GoodR n (gRule pk bal n i) := by
  have hk := gK_le hp i
  have ht := (gTake_good (bal := bal) hp n i hn (gK pk i)).mono (M' := 1000) (K' := 2) (by omega) (by omega)
  have hg := (gGive_good (bal := bal) hp n i hn (gK pk i)).mono (M' := 1000) (K' := 2) (by omega) (by omega)
  have hne := gTake_ne (pk := pk) (bal := bal) n i (gK pk i) hk.1
  unfold gRule
  simp only []
  split
  · exact ⟨GoodL.nil _ _ _, hg, GoodL.nil _ _ _, by simp, by simp, by simp, by simp, by simp, by simp, .inl rfl⟩
  · by_cases h3 : pk (11 + 5 * i) 10 < 3
    · by_cases hb : bal = true ∨ pk (11 + 5 * i) 10 = 0
      · simp only [if_pos h3, if_pos (And.intro h3 hb)]
        exact ⟨ht, hg, ht, by simp, by simp, by simp, by simp, by simp, fun _ => .inl hne, .inr rfl⟩
      · simp only [if_pos h3, if_neg (fun h : pk (11 + 5 * i) 10 < 3 ∧ (bal = true ∨ pk (11 + 5 * i) 10 = 0) => hb h.2)]
        exact ⟨ht, hg, GoodL.nil _ _ _, by simp, by simp, by simp, by simp, by simp, fun _ => .inl hne, .inl rfl⟩
    · simp only [if_neg h3, if_neg (fun h : pk (11 + 5 * i) 10 < 3 ∧ (bal = true ∨ pk (11 + 5 * i) 10 = 0) => h3 h.1)]
      exact ⟨ht, hg, GoodL.nil _ _ _, by simp, by simp, by simp, by simp, by simp, fun _ => .inl hne, .inl rfl⟩
theorem genCat_items : (genCat pk bal).items.length = genN pk := by
  have := genN_le hp
  unfold genCat itemNames
  simp
  omega
theorem genCat_good : Good (genCat pk bal) := by
  have hn := genN_le hp
  have hl := genCat_items (bal := bal) hp
  refine ⟨by omega, by omega, ?_, fun r hr => ?_⟩
  · have := hp.lt 7 7 (by omega)
    unfold genCat
    simp
    omega
  · rw [hl]
    unfold genCat at hr
    obtain ⟨i, _, rfl⟩ := List.mem_map.1 hr
    exact gRule_good hp _ _ (by omega)
end

/-- balanced: the weighted sums agree -/
theorem gBal {pk : Nat → Nat → Nat} (hp : Picks pk) (n i : Nat) (hn : 0 < n) : ∀ k, wsum (fun j => (genW pk j : Int)) (gTake pk true n i k) = wsum (fun j => (genW pk j : Int)) (gGive pk true n i k)
  | 0 => rfl
  | k + 1 => by
    have ih := gBal hp n i hn k
    have h1 := (gTake_good (bal := true) hp n i hn k).sorted
    have h2 := (gGive_good (bal := true) hp n i hn k).sorted
    show wsum _ (putF _ _ false _) = wsum _ (putF _ _ false _)
    rw [putF_wsum _ _ _ _ h1, putF_wsum _ _ _ _ h2, ih]
    simp only [gTakeN, gGiveN, if_true, Int.natCast_mul]
    grind
end Go.Proofs.YtfpcgjgkbniofaaGreatDoor
