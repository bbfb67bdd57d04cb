/- balanced catalogs: the weights are a law, and no sequence gains. -/
import Derived.Test.YtfpcgjgkbniofaaGreatDoorGHolds
import Derived.Test.YtfpcgjgkbniofaaGreatDoorGFine
set_option linter.unusedVariables false
set_option linter.unusedSimpArgs false
namespace Go.Proofs.YtfpcgjgkbniofaaGreatDoor
open Go.RowKit

def sumQ (n : Nat) (g : Nat → Int) : Int := match n with
  | 0 => 0
  | k + 1 => sumQ k g + g k
theorem sumQ_congr (n : Nat) (f g : Nat → Int) (h : ∀ i, i < n → f i = g i) : sumQ n f = sumQ n g := by
  induction n with
  | zero => rfl
  | succ n ih => rw [sumQ, sumQ, ih (fun i hi => h i (by omega)), h n (by omega)]
theorem sumQ_add (n : Nat) (f g : Nat → Int) : sumQ n (fun i => f i + g i) = sumQ n f + sumQ n g := by
  induction n with
  | zero => rfl
  | succ n ih => rw [sumQ, sumQ, sumQ, ih]; omega
theorem sumQ_sub (n : Nat) (f g : Nat → Int) : sumQ n (fun i => f i - g i) = sumQ n f - sumQ n g := by
  induction n with
  | zero => rfl
  | succ n ih => rw [sumQ, sumQ, sumQ, ih]; omega
theorem sumQ_zero (n : Nat) : sumQ n (fun _ => 0) = 0 := by
  induction n with
  | zero => rfl
  | succ n ih => rw [sumQ, ih]; rfl
theorem sumQ_one (n j : Nat) (x : Int) (h : j < n) : sumQ n (fun i => if j = i then x else 0) = x := by
  induction n with
  | zero => omega
  | succ n ih =>
    rw [sumQ]
    by_cases e : j = n
    · rw [if_pos e, sumQ_congr n _ (fun _ => 0) (fun i hi => if_neg (by omega)), sumQ_zero]; omega
    · rw [if_neg e, ih (by omega)]; omega
theorem sumQ_nonneg (n : Nat) (f : Nat → Int) (h : ∀ i, i < n → 0 ≤ f i) : 0 ≤ sumQ n f := by
  induction n with
  | zero => exact Int.le_refl _
  | succ n ih =>
    rw [sumQ]
    have := ih (fun i hi => h i (by omega))
    have := h n (by omega)
    omega
theorem sumQ_pos (n : Nat) (f : Nat → Int) (h : ∀ i, i < n → 0 ≤ f i) (j : Nat) (hj : j < n) (hp : 0 < f j) : 0 < sumQ n f := by
  induction n with
  | zero => omega
  | succ n ih =>
    rw [sumQ]
    by_cases e : j = n
    · subst e
      have := sumQ_nonneg j f (fun i hi => h i (by omega))
      omega
    · have := ih (fun i hi => h i (by omega)) (by omega)
      have := h n (by omega)
      omega
theorem sumQ_ofI (W : Nat → Int) (n : Nat) : ∀ (l : List Amt), (∀ a ∈ l, a.item < n) → sumQ n (fun i => W i * ((ofI l i : Nat) : Int)) = wsum W l
  | [], _ => by
    rw [sumQ_congr n _ (fun _ => 0) (fun i _ => by rw [ofI_nil]; simp), sumQ_zero]
    rfl
  | a :: l, h => by
    have ih := sumQ_ofI W n l (fun b hb => h b (by simp [hb]))
    rw [sumQ_congr n _ (fun i => (if a.item = i then W a.item * (a.n : Int) else 0) + W i * ((ofI l i : Nat) : Int)) (fun i _ => ?_), sumQ_add, ih, sumQ_one n a.item _ (h a (by simp))]
    · rfl
    · rw [ofI_cons]
      split
      · rename_i e
        rw [e, Int.natCast_add, Int.mul_add]
      · rw [Nat.zero_add]; omega
theorem sumW_N (W : Nat → Int) (f : Nat → Int) (n : Nat) : ∀ k, k ≤ n → sumW ((List.range n).map W) (effV n f) k = sumQ k (fun i => W i * f i)
  | 0, _ => rfl
  | k + 1, h => by
    rw [sumW, sumQ, sumW_N W f n k (by omega)]
    congr 1
    rw [List.getD_eq_getElem?_getD, List.getD_eq_getElem?_getD]
    unfold effV
    simp [show k < n by omega]
/-- the weights balance a rule -/
def BalR (W : Nat → Int) (r : Rul) : Prop := r.spawn = false → wsum W r.take = wsum W r.give ∧ (1 < r.of_ → r.back = r.take)
theorem gRule_bal {pk : Nat → Nat → Nat} (hp : Picks pk) (n i : Nat) (hn : 0 < n) : BalR (fun j => (genW pk j : Int)) (gRule pk true n i) := by
  have h1 := gBal hp n i hn (gK pk i)
  unfold gRule
  simp only []
  split
  · intro h; simp at h
  · intro _
    refine ⟨h1, fun h => ?_⟩
    by_cases h3 : pk (11 + 5 * i) 10 < 3
    · simp only [h3, true_or, and_self, if_true]
    · simp [h3] at h
theorem genCat_bal {pk : Nat → Nat → Nat} (hp : Picks pk) : ∀ r ∈ (genCat pk true).rules, BalR (fun j => (genW pk j : Int)) r := by
  intro r hr
  obtain ⟨i, _, rfl⟩ := List.mem_map.1 hr
  exact gRule_bal hp _ i (by have := genN_le hp; omega)
theorem eff_bal {W : Nat → Int} {n M : Nat} {lt lg : List Amt} (h1 : ∀ a ∈ lt, a.item < n) (h2 : ∀ a ∈ lg, a.item < n) (h : wsum W lt = wsum W lg) : sumQ n (fun i => W i * effF lt lg i) = 0 := by
  rw [sumQ_congr n _ (fun i => W i * ((ofI lg i : Nat) : Int) - W i * ((ofI lt i : Nat) : Int)) (fun i _ => by unfold effF; rw [Int.mul_sub]), sumQ_sub, sumQ_ofI W n lg h2, sumQ_ofI W n lt h1, h]
  omega
theorem holds_bal {c : Cat} (hg : Good c) (W : Nat → Int) (hb : ∀ r ∈ c.rules, BalR W r) : holdsB c ((List.range c.items.length).map W) = true := by
  unfold holdsB
  rw [Bool.and_eq_true, decide_eq_true_eq, List.all_eq_true]
  refine ⟨by simp, fun x hx => ?_⟩
  rw [decide_eq_true_eq]
  unfold sumR
  rw [effV_len, sumW_N W x.2 c.items.length _ (Nat.le_refl _)]
  obtain ⟨r, hr, l, hl, he, hs, _⟩ := resT_mem c.rules 0 x hx
  have hgr := hg.each r hr
  obtain ⟨b1, b2⟩ := hb r hr hs
  have key : wsum W r.take = wsum W l ∧ ∀ a ∈ l, a.item < c.items.length := by
    unfold outsR at hl
    split at hl
    · rename_i ho
      simp only [List.mem_cons, List.not_mem_nil, or_false] at hl
      rcases hl with rfl | rfl
      · exact ⟨b1, fun a ha => (hgr.give.all a ha).1⟩
      · rw [b2 ho]; exact ⟨rfl, fun a ha => (hgr.take.all a ha).1⟩
    · simp only [List.mem_cons, List.not_mem_nil, or_false] at hl
      subst hl
      exact ⟨b1, fun a ha => (hgr.give.all a ha).1⟩
  rw [sumQ_congr _ _ (fun i => W i * effF r.take l i) (fun i _ => by rw [he])]
  exact eff_bal (M := 0) (fun a ha => (hgr.take.all a ha).1) key.2 key.1
/-- the weighted sum of the change of a sequence -/
theorem net_bal {W : Nat → Int} {n : Nat} : ∀ (rs : List Rul), (∀ r ∈ rs, GoodR n r ∧ BalR W r ∧ r.spawn = false) → sumQ n (fun i => W i * netF i rs) = 0
  | [], _ => by rw [sumQ_congr n _ (fun _ => 0) (fun i _ => by simp [netF]), sumQ_zero]
  | r :: rs, h => by
    obtain ⟨h1, h2, h3⟩ := h r (by simp)
    have ih := net_bal rs (fun r hr => h r (by simp [hr]))
    rw [sumQ_congr n _ (fun i => W i * effF r.take r.give i + W i * netF i rs) (fun i _ => by rw [netF, Int.mul_add]; rfl), sumQ_add, ih, eff_bal (M := 0) (fun a ha => (h1.take.all a ha).1) (fun a ha => (h1.give.all a ha).1) (h2 h3).1]
    rfl
theorem rsOf_us {c : Cat} (hg : Good c) {W : Nat → Int} (hb : ∀ r ∈ c.rules, BalR W r) {s : List Nat} (h : ∀ x ∈ s, x ∈ usL c) : ∀ r ∈ rsOf c s, GoodR c.items.length r ∧ BalR W r ∧ r.spawn = false := by
  intro r hr
  obtain ⟨i, hi, he⟩ := List.mem_filterMap.1 hr
  obtain ⟨hl, rfl⟩ := List.getElem?_eq_some_iff.1 he
  have hu := (List.mem_filter.1 (h i hi)).2
  refine ⟨hg.each _ (List.getElem_mem hl), hb _ (List.getElem_mem hl), ?_⟩
  unfold usI at hu
  rw [Bool.and_eq_true] at hu
  have h2 := hu.2
  simp only [Int.toNat_natCast, List.getElem?_eq_getElem hl] at h2
  unfold usB at h2
  rw [Bool.and_eq_true] at h2
  simpa using h2.1
theorem no_gain {c : Cat} (hg : Good c) {W : Nat → Int} (hW : ∀ i, 0 < W i) (hb : ∀ r ∈ c.rules, BalR W r) {s : List Nat} (h : ∀ x ∈ s, x ∈ usL c) : gainS c s = false := by
  have hz := net_bal (n := c.items.length) (rsOf c s) (rsOf_us hg hb h)
  cases hgs : gainS c s with
  | false => rfl
  | true =>
    unfold gainS gainsB at hgs
    rw [Bool.and_eq_true, List.all_eq_true, List.any_eq_true] at hgs
    obtain ⟨h1, x, hx, hx0⟩ := hgs
    unfold netL at h1 hx
    obtain ⟨j, hj, rfl⟩ := List.mem_map.1 hx
    have hj' := List.mem_range.1 hj
    have hp := sumQ_pos c.items.length (fun i => W i * netF i (rsOf c s)) (fun i hi => by
      have := h1 _ (List.mem_map.2 ⟨i, List.mem_range.2 hi, rfl⟩)
      rw [decide_eq_true_eq] at this
      exact Int.mul_nonneg (Int.le_of_lt (hW i)) this) j hj' (Int.mul_pos (hW j) (by simpa using hx0))
    omega
theorem seqs_len' (U : List Nat) (hU : U.length ≤ 6) : ∀ n, n ≤ 4 → (seqs U n).length ≤ n * 1296
  | 0, _ => by simp [seqs]
  | n + 1, h => by
    have ih := seqs_len' U hU n (by omega)
    have h1 := ext_len (n + 1) U
    have h2 : U.length ^ (n + 1) ≤ 6 ^ 4 := Nat.le_trans (Nat.pow_le_pow_left hU _) (Nat.pow_le_pow_right (by omega) (by omega))
    rw [seqs_succ, List.length_append]
    omega
theorem scan_bal {c : Cat} (hg : Good c) (hr : c.rules.length ≤ 6) {W : Nat → Int} (hW : ∀ i, 0 < W i) (hb : ∀ r ∈ c.rules, BalR W r) : scan (gainS c) (seqs (usL c) 4) 100000 = .nothing := by
  have hU : (usL c).length ≤ 6 := Nat.le_trans (usT_len c c.rules.length) hr
  have hl := seqs_len' (usL c) hU 4 (by omega)
  exact scan_none _ _ _ (fun s hs => no_gain hg hW hb (seqs_mem hs).2.2.1) (by omega)
end Go.Proofs.YtfpcgjgkbniofaaGreatDoor
