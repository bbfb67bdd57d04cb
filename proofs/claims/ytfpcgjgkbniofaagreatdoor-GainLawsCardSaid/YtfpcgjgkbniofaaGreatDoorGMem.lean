/- Slices of structs that read as data; a catalog in memory. -/
import Derived.Test.YtfpcgjgkbniofaaGreatDoorMem
import Derived.Test.YtfpcgjgkbniofaaGreatDoorStr
import Derived.Test.YtfpcgjgkbniofaaGreatDoorGCat
set_option linter.unusedVariables false
set_option linter.unusedSimpArgs false
namespace Go.Proofs.YtfpcgjgkbniofaaGreatDoor
open Go.RowKit

def zv (x : Int) : Value := .int .i64 x

/-- a slice value whose elements take k cells each and read as xs; it begins at the head of its block -/
def SliceOf {α : Type} (k : Nat) (R : World → α → List Value → Prop) (w : World) (v : Value) (xs : List α) : Prop :=
  ∃ a cap, v = .slice a xs.length cap ∧ xs.length ≤ cap ∧ cap ≤ 9223372036854775807 ∧ (0 < xs.length → ∃ b, a = some ⟨b, 0, none⟩ ∧ b < w.heap.size ∧ ∀ j (h : j < xs.length), ∃ cs, R w xs[j] cs ∧ cs.length = k ∧ ∀ i, i < k → w.cell? ⟨b, j * k + i, none⟩ = cs[i]?)

section
variable {α : Type} {k : Nat} {R : World → α → List Value → Prop} {w w' : World} {v : Value} {xs : List α}
theorem SliceOf.below (h : SliceOf k R w v xs) (hb : Below w.heap.size w w') (hR : ∀ x cs, R w x cs → R w' x cs) : SliceOf k R w' v xs := by
  obtain ⟨a, cap, hv, h1, h2, hc⟩ := h
  refine ⟨a, cap, hv, h1, h2, fun h0 => ?_⟩
  obtain ⟨b, ha, hlt, hcc⟩ := hc h0
  refine ⟨b, ha, Nat.lt_of_lt_of_le hlt hb.size, fun j hj => ?_⟩
  obtain ⟨cs, hr, hl, hcl⟩ := hcc j hj
  exact ⟨cs, hR _ _ hr, hl, fun i hi => (hb.cell (p := ⟨b, j * k + i, none⟩) hlt).trans (hcl i hi)⟩
theorem SliceOf.nil (a : Option Addr) (cap : Nat) (hc : cap ≤ 9223372036854775807) : SliceOf k R w (.slice a 0 cap) [] := ⟨a, cap, rfl, by simp, hc, fun h => by simp at h⟩
theorem SliceOf.form (h : SliceOf k R w v xs) : ∃ a cap, v = .slice a xs.length cap ∧ xs.length ≤ cap ∧ cap ≤ 9223372036854775807 := by
  obtain ⟨a, cap, hv, h1, h2, _⟩ := h
  exact ⟨a, cap, hv, h1, h2⟩
theorem SliceOf.at_ (h : SliceOf k R w v xs) (j : Nat) (hj : j < xs.length) : ∃ b cap cs, v = .slice (some ⟨b, 0, none⟩) xs.length cap ∧ b < w.heap.size ∧ R w xs[j] cs ∧ cs.length = k ∧ ∀ i, i < k → w.cell? ⟨b, j * k + i, none⟩ = cs[i]? := by
  obtain ⟨a, cap, rfl, h1, h2, hc⟩ := h
  obtain ⟨b, rfl, hlt, hcc⟩ := hc (by omega)
  obtain ⟨cs, hr, hl, hcl⟩ := hcc j hj
  exact ⟨b, cap, cs, rfl, hlt, hr, hl, hcl⟩
/-- the first ones -/
theorem SliceOf.take {a : Option Addr} {n cap : Nat} (h : SliceOf k R w (.slice a n cap) xs) (m : Nat) (hm : m ≤ xs.length) : SliceOf k R w (.slice a m cap) (xs.take m) := by
  obtain ⟨a', cap', hv, h1, h2, hc⟩ := h
  injection hv with e1 e2 e3
  subst e1 e3
  have hl : (xs.take m).length = m := by rw [List.length_take]; omega
  refine ⟨a, cap, by rw [hl], by omega, h2, fun h0 => ?_⟩
  obtain ⟨b, ha, hlt, hcc⟩ := hc (by omega)
  refine ⟨b, ha, hlt, fun j hj => ?_⟩
  obtain ⟨cs, hr, hx⟩ := hcc j (by omega)
  exact ⟨cs, by rw [List.getElem_take]; exact hr, hx⟩
theorem flatten_at : ∀ (css : List (List Value)) (k j i : Nat), (∀ cs ∈ css, cs.length = k) → (hj : j < css.length) → i < k → css.flatten[j * k + i]? = css[j][i]?
  | [], _, _, _, _, hj, _ => by simp at hj
  | cs :: css, k, 0, i, h, _, hi => by
    have := h cs (by simp)
    rw [List.flatten_cons, List.getElem?_append_left (by omega)]
    simp
  | cs :: css, k, j + 1, i, h, hj, hi => by
    have := h cs (by simp)
    rw [List.flatten_cons, List.getElem?_append_right (by rw [Nat.succ_mul]; omega), show (j + 1) * k + i - cs.length = j * k + i by rw [Nat.succ_mul]; omega, flatten_at css k j i (fun c hc => h c (by simp [hc])) (by simpa using hj) hi]
    simp
/-- a row of one's own -/
theorem SliceOf.of_own {base : Nat} {e : TypeId} {css : List (List Value)} (h : w.ownsRow base e k v css.length css.flatten) (hk : ∀ cs ∈ css, cs.length = k) (hl : css.length = xs.length)
    (hR : ∀ j (h : j < xs.length) (h' : j < css.length), R w xs[j] css[j]) : SliceOf k R w v xs := by
  rcases h.2 with ⟨hv, hx⟩ | ⟨g, cap, cur, hv, hb, hh, hn, hm, hs, ht⟩
  · have : xs = [] := List.eq_nil_of_length_eq_zero (by omega)
    subst this
    rw [hv]
    exact SliceOf.nil _ _ (by omega)
  · rw [hl] at hv hn
    refine ⟨_, cap, hv, hn, by unfold maxLen at hm; exact hm, fun h0 => ⟨g, rfl, (Array.getElem?_eq_some_iff.1 hh).1, fun j hj => ⟨css[j]'(by omega), hR j hj (by omega), hk _ (List.getElem_mem _), fun i hi => ?_⟩⟩⟩
    rw [cell_of_row w g (j * k + i) _ e (0, 0) hh, ← flatten_at css k j i hk (by omega) hi, ← ht]
    rw [List.getElem?_take, if_pos, Array.getElem?_toList]
    exact Nat.lt_of_lt_of_le (show j * k + i < (j + 1) * k by rw [Nat.succ_mul]; omega) (Nat.mul_le_mul_right _ (by omega))
end

def amtC (a : Amt) : List Value := [zv a.item, zv a.n]
def AmtsAt (w : World) (v : Value) (l : List Amt) : Prop := SliceOf 2 (fun _ a cs => cs = amtC a) w v l
def itmC (n : Tx) : List Value := [.string ⟨n.toArray⟩, .bool false, .bool false, .bool false, zv 0, zv 0, zv 0]
def ItemsAt (w : World) (v : Value) (l : List Tx) : Prop := SliceOf 7 (fun _ n cs => cs = itmC n) w v l
def rulC (r : Rul) (vt vg vb : Value) : List Value := [.string ⟨r.name.toArray⟩, .bool r.spawn, zv 0, zv r.time, zv 1, zv r.of_, vt, vg, vb]
def RulAt (w : World) (r : Rul) (cs : List Value) : Prop := ∃ vt vg vb, cs = rulC r vt vg vb ∧ AmtsAt w vt r.take ∧ AmtsAt w vg r.give ∧ AmtsAt w vb r.back
def RulesAt (w : World) (v : Value) (l : List Rul) : Prop := SliceOf 9 RulAt w v l
def IntsOf (w : World) (v : Value) (l : List Int) : Prop := SliceOf 1 (fun _ a cs => cs = [zv a]) w v l
structure CatAt (w : World) (vi vr : Value) (c : Cat) : Prop where
  items : ItemsAt w vi c.items
  rules : RulesAt w vr c.rules

section
variable {w w' : World} {v : Value}
theorem AmtsAt.below {l : List Amt} (h : AmtsAt w v l) (hb : Below w.heap.size w w') : AmtsAt w' v l := SliceOf.below h hb (fun _ _ h => h)
theorem ItemsAt.below {l : List Tx} (h : ItemsAt w v l) (hb : Below w.heap.size w w') : ItemsAt w' v l := SliceOf.below h hb (fun _ _ h => h)
theorem IntsOf.below {l : List Int} (h : IntsOf w v l) (hb : Below w.heap.size w w') : IntsOf w' v l := SliceOf.below h hb (fun _ _ h => h)
theorem RulAt.below {r : Rul} {cs : List Value} (h : RulAt w r cs) (hb : Below w.heap.size w w') : RulAt w' r cs := by
  obtain ⟨vt, vg, vb, h1, h2, h3, h4⟩ := h
  exact ⟨vt, vg, vb, h1, h2.below hb, h3.below hb, h4.below hb⟩
theorem RulesAt.below {l : List Rul} (h : RulesAt w v l) (hb : Below w.heap.size w w') : RulesAt w' v l := SliceOf.below h hb (fun _ _ h => h.below hb)
theorem CatAt.below {vi vr : Value} {c : Cat} (h : CatAt w vi vr c) (hb : Below w.heap.size w w') : CatAt w' vi vr c := ⟨h.items.below hb, h.rules.below hb⟩
end
end Go.Proofs.YtfpcgjgkbniofaaGreatDoor
