/- The catalogs of GainMany: as data, in memory. -/
import Derived.Test.YtfpcgjgkbniofaaDoorGFine
import Derived.Test.YtfpcgjgkbniofaaDoorGErr
import Derived.Test.YtfpcgjgkbniofaaDoorGRMany
import Derived.Test.YtfpcgjgkbniofaaDoorRegFork
set_option linter.unusedVariables false
set_option linter.unusedSimpArgs false
namespace Go.Proofs.YtfpcgjgkbniofaaDoor
open Go.RowKit
attribute [local go_sem] Oper.semAt_some

def manyR (i : Nat) : Rul := ⟨[114] ++ dec i, false, 0, 1, [⟨0, 2⟩], [⟨0, 1⟩], []⟩
def moreR (i : Nat) : Rul := ⟨[115] ++ dec i, false, 1, 1, [], [⟨0, 1⟩], []⟩
def oreT : Tx := [111, 114, 101]
def manyL (n k : Nat) : List Rul := (List.range n).map manyR ++ (List.range k).map moreR
def manyC (n k : Nat) : Cat := ⟨[oreT], manyL n k⟩
theorem manyR_good (i : Nat) : GoodR 1 (manyR i) := ⟨⟨by simp [SortedA, manyR], by simp [manyR], by simp [manyR]⟩, ⟨by simp [SortedA, manyR], by simp [manyR], by simp [manyR]⟩, ⟨by simp [SortedA, manyR], by simp [manyR], by simp [manyR]⟩, by simp [manyR], by simp [manyR], by simp [manyR], by simp [manyR], by simp [manyR], by simp [manyR], .inl rfl⟩
theorem moreR_good (i : Nat) : GoodR 1 (moreR i) := ⟨⟨by simp [SortedA, moreR], by simp [moreR], by simp [moreR]⟩, ⟨by simp [SortedA, moreR], by simp [moreR], by simp [moreR]⟩, ⟨by simp [SortedA, moreR], by simp [moreR], by simp [moreR]⟩, by simp [moreR], by simp [moreR], by simp [moreR], by simp [moreR], by simp [moreR], by simp [moreR], .inl rfl⟩
theorem word_r (i : Nat) (h : i < 18) : WordT ([114] ++ dec i) := by
  have : i = 0 ∨ i = 1 ∨ i = 2 ∨ i = 3 ∨ i = 4 ∨ i = 5 ∨ i = 6 ∨ i = 7 ∨ i = 8 ∨ i = 9 ∨ i = 10 ∨ i = 11 ∨ i = 12 ∨ i = 13 ∨ i = 14 ∨ i = 15 ∨ i = 16 ∨ i = 17 := by omega
  rcases this with rfl | rfl | rfl | rfl | rfl | rfl | rfl | rfl | rfl | rfl | rfl | rfl | rfl | rfl | rfl | rfl | rfl | rfl <;> exact ⟨by decide, by rfl⟩
theorem word_s (i : Nat) (h : i < 3) : WordT ([115] ++ dec i) := by
  have : i = 0 ∨ i = 1 ∨ i = 2 := by omega
  rcases this with rfl | rfl | rfl <;> exact ⟨by decide, by rfl⟩
theorem many_fine {n k : Nat} (hn : n ≤ 18) (hk : k ≤ 3) : Fine (manyC n k) := by
  have hg : ∀ r ∈ manyL n k, GoodR 1 r := fun r hr => by
    rcases List.mem_append.1 hr with h | h
    · obtain ⟨i, _, rfl⟩ := List.mem_map.1 h; exact manyR_good i
    · obtain ⟨i, _, rfl⟩ := List.mem_map.1 h; exact moreR_good i
  refine ⟨⟨by simp [manyC], by simp [manyC], by simp [manyC, manyL]; omega, hg⟩, ⟨fun t ht => ?_, fun r hr => ?_⟩, by simp [manyC], ?_⟩
  · simp only [manyC, List.mem_singleton] at ht
    subst ht
    exact ⟨by decide, by rfl⟩
  · rcases List.mem_append.1 hr with h | h
    · obtain ⟨i, hi, rfl⟩ := List.mem_map.1 h; exact word_r i (by have := List.mem_range.1 hi; omega)
    · obtain ⟨i, hi, rfl⟩ := List.mem_map.1 h; exact word_s i (by have := List.mem_range.1 hi; omega)
  · have hall : ((List.range 18).map (fun i => [114] ++ dec i) ++ (List.range 3).map (fun i => ([115] : Tx) ++ dec i)).Nodup := by decide
    have he : (manyC n k).rules.map (fun x => x.name) = (List.range n).map (fun i => [114] ++ dec i) ++ (List.range k).map (fun i => ([115] : Tx) ++ dec i) := by
      simp [manyC, manyL, manyR, moreR, List.map_map, Function.comp_def]
    rw [he]
    refine List.Nodup.sublist (List.Sublist.append ?_ ?_) hall
    · exact List.Sublist.map _ (List.range_sublist.2 hn)
    · exact List.Sublist.map _ (List.range_sublist.2 hk)
theorem many_at (n k i : Nat) (h : i < n) : (manyL n k)[i]? = some (manyR i) := by
  unfold manyL
  rw [List.getElem?_append_left (by simpa using h)]
  simp [h]
theorem more_at (n k i : Nat) (h : n ≤ i) (h2 : i < n + k) : (manyL n k)[i]? = some (moreR (i - n)) := by
  unfold manyL
  rw [List.getElem?_append_right (by simpa using h)]
  simp only [List.length_map, List.length_range, List.getElem?_map, List.getElem?_range (show i - n < k by omega), Option.map_some]
theorem many_us (n k : Nat) : usL (manyC n k) = List.range n := by
  have hl : (manyC n k).rules.length = n + k := by simp [manyC, manyL]
  have hu : ∀ i, i < n + k → usI (manyC n k) (i : Int) = decide (i < n) := by
    intro i hi
    unfold usI
    by_cases h : i < n
    · have : (manyC n k).rules[i]? = some (manyR i) := many_at n k i h
      simp [this, h, usB, manyR]
    · have : (manyC n k).rules[i]? = some (moreR (i - n)) := more_at n k i (by omega) hi
      simp [this, h, usB, moreR]
  unfold usL
  rw [hl, List.range_add, List.filter_append]
  have h1 : (List.range n).filter (fun (i : Nat) => usI (manyC n k) (i : Int)) = List.range n := by
    rw [List.filter_eq_self]
    intro i hi
    have := List.mem_range.1 hi
    rw [hu i (by omega)]
    simpa using this
  have h2 : ((List.range k).map (n + ·)).filter (fun (i : Nat) => usI (manyC n k) (i : Int)) = [] := by
    rw [List.filter_eq_nil_iff]
    intro i hi
    obtain ⟨j, hj, rfl⟩ := List.mem_map.1 hi
    have := List.mem_range.1 hj
    rw [hu _ (by omega)]
    simp
  rw [h1, h2, List.append_nil]
theorem many_net {n k : Nat} {s : List Nat} (hs : ∀ x ∈ s, x < n) : netF 0 (rsOf (manyC n k) s) = -(s.length : Int) := by
  induction s with
  | nil => simp [rsOf, netF]
  | cons x s ih =>
    have hx : (manyC n k).rules[x]? = some (manyR x) := many_at n k x (hs x (by simp))
    have ih := ih (fun y hy => hs y (by simp [hy]))
    have he : rsOf (manyC n k) (x :: s) = manyR x :: rsOf (manyC n k) s := by simp [rsOf, hx]
    rw [he, netF, ih]
    have : effI (manyR x) 0 = -1 := by simp [effI, manyR, ofI]
    rw [this, List.length_cons]
    omega
theorem many_scan {n k : Nat} (hn : n ≤ 16) : scan (gainS (manyC n k)) (seqs (usL (manyC n k)) 2) 1000 = .nothing := by
  rw [many_us]
  have h1 := ext_len 1 (List.range n)
  have h2 := ext_len 2 (List.range n)
  have e : seqs (List.range n) 2 = ext 1 (List.range n) ++ ext 2 (List.range n) := by simp [seqs, List.range_succ]
  rw [List.length_range] at h1 h2
  have h3 : n ^ 2 ≤ 16 ^ 2 := Nat.pow_le_pow_left hn 2
  refine scan_none _ _ _ (fun s hs => ?_) (by rw [e, List.length_append]; rw [Nat.pow_one] at h1; omega)
  have hm : 1 ≤ s.length ∧ ∀ x ∈ s, x < n := by
    rw [e] at hs
    rcases List.mem_append.1 hs with h | h
    · obtain ⟨a, b, _⟩ := ext_mem h; exact ⟨by omega, fun x hx => List.mem_range.1 (b x hx)⟩
    · obtain ⟨a, b, _⟩ := ext_mem h; exact ⟨by omega, fun x hx => List.mem_range.1 (b x hx)⟩
  unfold gainS gainsB
  rw [Bool.and_eq_false_iff]
  left
  rw [Bool.eq_false_iff]
  intro hall
  rw [List.all_eq_true] at hall
  have := hall (netF 0 (rsOf (manyC n k) s)) (List.mem_map.2 ⟨0, by simp [manyC], rfl⟩)
  rw [many_net hm.2] at this
  have h9 := of_decide_eq_true this
  omega

structure MI (w W : World) (rs : List Rul) (vR : Value) : Prop where
  b : Below w.heap.size w W
  x : BlkC W (w.heap.size + 1) 29 [.slice (some ⟨w.heap.size, 0, none⟩) 1 1, vR, .slice none 0 0, .slice none 0 0]
  it : ItemsAt W (.slice (some ⟨w.heap.size, 0, none⟩) 1 1) [oreT]
  rl : ∃ css : List (List Value), css.length = rs.length ∧ (∀ cs ∈ css, cs.length = 9) ∧ W.ownsRow (w.heap.size + 2) 36 9 vR rs.length css.flatten ∧ ∀ j (h : j < css.length) (h' : j < rs.length), RulAt W rs[j] css[j]
  z : rs.length = 0 → vR.ownBlock = none
section
variable {w W W' : World} {rs : List Rul} {vR : Value}
theorem MI.sz (h : MI w W rs vR) : w.heap.size + 2 ≤ W.heap.size := h.x.lt
theorem MI.below (h : MI w W rs vR) (hb : Below W.heap.size W W') : MI w W' rs vR := by
  refine ⟨h.b.trans (hb.mono h.b.size), h.x.below hb h.x.lt, h.it.below hb, ?_, h.z⟩
  obtain ⟨css, hl, h9, ho, hr⟩ := h.rl
  exact ⟨css, hl, h9, (Only.of_below (S := fun _ => False) hb).own ho (fun _ _ h => h), fun j hj hj' => (hr j hj hj').below hb⟩
theorem MI.row (h : MI w W rs vR) (b : Nat) (hb : vR.ownBlock = some b) : w.heap.size + 2 ≤ b ∧ StrB W b ∧ b < W.heap.size := by
  obtain ⟨css, hl, h9, ho, hr⟩ := h.rl
  have h1 := ho.lt b hb
  refine ⟨h1.1, ?_, h1.2⟩
  have hi : 0 < rs.length := by
    rcases Nat.eq_zero_or_pos rs.length with h0 | h0
    · rw [h.z h0] at hb; cases hb
    · exact h0
  obtain ⟨vt, vg, vb, hc, _⟩ := hr 0 (by omega) hi
  rcases ho.2 with ⟨hv, _⟩ | ⟨g, cap, cur, hv, _, hh, _, _, hs, ht⟩
  · rw [hv] at hb; cases hb
  · rw [hv] at hb
    cases hb
    have hcell : ∀ q, q < 9 → W.cell? ⟨g, q, none⟩ = (rulC rs[0] vt vg vb)[q]? := by
      intro q hq
      rw [cell_of_row W g q _ _ (0, 0) hh, ← hc, ← flatten_at css 9 0 q h9 (by omega) hq, Nat.zero_mul, Nat.zero_add, ← ht, List.getElem?_take, if_pos (by omega), Array.getElem?_toList]
    exact ⟨_, _, hcell 0 (by omega), hcell 2 (by omega)⟩
theorem MI.grow (h : MI w W rs vR) {r : Rul} {g cap : Nat} {cs : List Value} {css : List (List Value)} (hl : css.length = rs.length) (h9 : ∀ cs ∈ css, cs.length = 9) (hrr : ∀ j (h : j < css.length) (h' : j < rs.length), RulAt W rs[j] css[j]) (hc : RulAt W r cs) (hc9 : cs.length = 9) (ho : Only (fun b => vR.ownBlock = some b) W W')
    (hr' : W'.ownsRow (w.heap.size + 2) 36 9 (.slice (some ⟨g, 0, none⟩) (rs.length + 1) cap) (rs.length + 1) (css.flatten ++ cs)) :
    MI w (W'.setCell ⟨w.heap.size + 1, 1, none⟩ (.slice (some ⟨g, 0, none⟩) (rs.length + 1) cap)) (rs ++ [r]) (.slice (some ⟨g, 0, none⟩) (rs.length + 1) cap) := by
  have hs2 : ∀ b, vR.ownBlock = some b → StrB W b := fun b hb => (h.row b hb).2.1
  have hO : Only (fun b => b = w.heap.size + 1) W' (W'.setCell ⟨w.heap.size + 1, 1, none⟩ (.slice (some ⟨g, 0, none⟩) (rs.length + 1) cap)) := only_set _ _ _ _
  have hx : BlkC W' (w.heap.size + 1) 29 [.slice (some ⟨w.heap.size, 0, none⟩) 1 1, vR, .slice none 0 0, .slice none 0 0] := h.x.only ho (fun hs => by have := (h.row _ hs).1; omega)
  have hb' := ho.below h.b h.b.size (fun k hk => by have := (h.row k hk).1; omega)
  have hbx : ∀ b, b = w.heap.size + 1 → W'.cell? ⟨b, 0, none⟩ = some (.slice (some ⟨w.heap.size, 0, none⟩) 1 1) ∧ W'.cell? ⟨b, 2, none⟩ = some (.slice none 0 0) := fun b hb => by subst hb; exact ⟨hx.cell 0, hx.cell 2⟩
  have hA : ∀ v l, AmtsAt W' v l → AmtsAt (W'.setCell ⟨w.heap.size + 1, 1, none⟩ (.slice (some ⟨g, 0, none⟩) (rs.length + 1) cap)) v l := fun v l ha => SliceOf.onlyS ha hO (fun b hb x cs hc => ⟨0, by omega, by rw [(hbx b hb).1, hc]; simp [amtC, zv]⟩) (fun _ _ h => h)
  refine ⟨hO.below hb' hb'.size (fun k hk => by omega), hx.set 1 _, ?_, ⟨css ++ [cs], by simp [hl], ?_, ?_, ?_⟩, by simp⟩
  · exact SliceOf.onlyS (h.it.onlyS ho hs2) hO (fun b hb x cs hc => ⟨2, by omega, by rw [(hbx b hb).2, hc]; simp [itmC]⟩) (fun _ _ h => h)
  · intro c hc
    rcases List.mem_append.1 hc with hc | hc
    · exact h9 c hc
    · rw [List.mem_singleton.1 hc]; exact hc9
  · rw [List.flatten_append, List.flatten_singleton, List.length_append]
    exact hO.own hr' (fun b hb => by have := (hr'.lt b hb).1; omega)
  · intro j hj hj'
    have hR : ∀ r cs, RulAt W r cs → RulAt (W'.setCell ⟨w.heap.size + 1, 1, none⟩ (.slice (some ⟨g, 0, none⟩) (rs.length + 1) cap)) r cs := by
      intro r cs hr
      obtain ⟨vt, vg, vb, e1, e2, e3, e4⟩ := hr.onlyS ho hs2
      exact ⟨vt, vg, vb, e1, hA _ _ e2, hA _ _ e3, hA _ _ e4⟩
    rcases Nat.lt_or_ge j css.length with h1 | h1
    · rw [List.getElem_append_left h1, List.getElem_append_left (by omega)]
      exact hR _ _ (hrr j h1 (by omega))
    · obtain rfl : j = rs.length := by simp at hj; omega
      rw [List.getElem_append_right h1, List.getElem_append_right (Nat.le_refl _)]
      simp only [hl, Nat.sub_self, List.getElem_cons_zero]
      exact hR _ _ hc
end
end Go.Proofs.YtfpcgjgkbniofaaDoor
