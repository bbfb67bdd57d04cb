/- Rows of one's own: append of one element, of many; blocks of integers that are written. -/
import Derived.Test.YtlmbebbdamgfpaaQUDecimal
import Derived.Test.YtlmbebbdamgfpaaQUMem
import Derived.Test.YtlmbebbdamgfpaaQUStr
import Derived.Test.YtlmbebbdamgfpaaProg
import Derived.Deep.AppendLies
import Derived.WalkKit
import Derived.WalkSpells
import Derived.WalkLawsBesides
set_option linter.unusedVariables false
set_option linter.unusedSimpArgs false
set_option linter.unusedVariables false
set_option linter.unusedSimpArgs false
namespace Go.Proofs.Ytlmbebbdamgfpaa

structure Amt where
 item : Nat
 n : Nat
structure Rul where
 name : Tx
 spawn : Bool
 time : Nat
 of_ : Nat
 take : List Amt
 give : List Amt
 back : List Amt
structure Cat where
 items : List Tx
 rules : List Rul

def SortedA (l : List Amt) : Prop := l.Pairwise (fun a b => a.item < b.item)
structure GoodL (n M K : Nat) (l : List Amt) : Prop where
 sorted : SortedA l
 all : ∀ a ∈ l, a.item < n ∧ 1 ≤ a.n ∧ a.n ≤ M
 len : l.length ≤ K

theorem GoodL.mono {n M M' K K' : Nat} {l : List Amt} (h : GoodL n M K l) (hM : M ≤ M') (hK : K ≤ K') : GoodL n M' K' l :=
 ⟨h.sorted, fun a ha => by have := h.all a ha; omega, by have := h.len; omega⟩
theorem GoodL.nil (n M K : Nat) : GoodL n M K [] := ⟨List.Pairwise.nil, (fun _ h => by cases h), by simp⟩

structure Picks (pk : Nat → Nat → Nat) : Prop where
 lt : ∀ i m, 0 < m → pk i m < m


section
variable {pk : Nat → Nat → Nat} {bal : Bool} (hp : Picks pk)
include hp
omit hp in
end

end Go.Proofs.Ytlmbebbdamgfpaa
set_option linter.unusedVariables false
set_option linter.unusedSimpArgs false
namespace Go.Proofs.Ytlmbebbdamgfpaa
open Go.RowKit

def zv (x : Int) : Value := .int .i64 x

/-- a slice value whose elements take k cells each and read as xs; it begins at the head of its block -/
def SliceOf {α : Type} (k : Nat) (R : World → α → List Value → Prop) (w : World) (v : Value) (xs : List α) : Prop :=
 ∃ a cap, v = .slice a xs.length cap ∧ xs.length ≤ cap ∧ cap ≤ 9223372036854775807 ∧ (0 < xs.length → ∃ b, a = some ⟨b, 0, none⟩ ∧ b < w.heap.size ∧ ∀ j (h : j < xs.length), ∃ cs, R w xs[j] cs ∧ cs.length = k ∧ ∀ i, i < k → w.cell? ⟨b, j * k + i, none⟩ = cs[i]?)

section
variable {α : Type} {k : Nat} {R : World → α → List Value → Prop} {w w' : World} {v : Value} {xs : List α}
theorem SliceOf.below (h : SliceOf k R w v xs) (hb : Below w.heap.size w w') (hR : ∀ x cs, R w x cs → R w' x cs) : SliceOf k R w' v xs := by
 obtain ⟨a, cap, hv, h1, h2, hc⟩ := h
 refine ⟨a, cap, hv, h1, h2, fun h0 => ?_⟩
 obtain ⟨b, ha, hlt, hcc⟩ := hc h0
 refine ⟨b, ha, Nat.lt_of_lt_of_le hlt hb.size, fun j hj => ?_⟩
 obtain ⟨cs, hr, hl, hcl⟩ := hcc j hj
 exact ⟨cs, hR _ _ hr, hl, fun i hi => (hb.cell (p := ⟨b, j * k + i, none⟩) hlt).trans (hcl i hi)⟩
theorem SliceOf.nil (a : Option Addr) (cap : Nat) (hc : cap ≤ 9223372036854775807) : SliceOf k R w (.slice a 0 cap) [] := ⟨a, cap, rfl, by simp, hc, fun h => by simp at h⟩
theorem SliceOf.form (h : SliceOf k R w v xs) : ∃ a cap, v = .slice a xs.length cap ∧ xs.length ≤ cap ∧ cap ≤ 9223372036854775807 := by
 obtain ⟨a, cap, hv, h1, h2, _⟩ := h
 exact ⟨a, cap, hv, h1, h2⟩
theorem SliceOf.at_ (h : SliceOf k R w v xs) (j : Nat) (hj : j < xs.length) : ∃ b cap cs, v = .slice (some ⟨b, 0, none⟩) xs.length cap ∧ b < w.heap.size ∧ R w xs[j] cs ∧ cs.length = k ∧ ∀ i, i < k → w.cell? ⟨b, j * k + i, none⟩ = cs[i]? := by
 obtain ⟨a, cap, rfl, h1, h2, hc⟩ := h
 obtain ⟨b, rfl, hlt, hcc⟩ := hc (by omega)
 obtain ⟨cs, hr, hl, hcl⟩ := hcc j hj
 exact ⟨b, cap, cs, rfl, hlt, hr, hl, hcl⟩
/-- the first ones -/
theorem SliceOf.take {a : Option Addr} {n cap : Nat} (h : SliceOf k R w (.slice a n cap) xs) (m : Nat) (hm : m ≤ xs.length) : SliceOf k R w (.slice a m cap) (xs.take m) := by
 obtain ⟨a', cap', hv, h1, h2, hc⟩ := h
 injection hv with e1 e2 e3
 subst e1 e3
 have hl : (xs.take m).length = m := by rw [List.length_take]; omega
 refine ⟨a, cap, by rw [hl], by omega, h2, fun h0 => ?_⟩
 obtain ⟨b, ha, hlt, hcc⟩ := hc (by omega)
 refine ⟨b, ha, hlt, fun j hj => ?_⟩
 obtain ⟨cs, hr, hx⟩ := hcc j (by omega)
 exact ⟨cs, by rw [List.getElem_take]; exact hr, hx⟩
theorem flatten_at : ∀ (css : List (List Value)) (k j i : Nat), (∀ cs ∈ css, cs.length = k) → (hj : j < css.length) → i < k → css.flatten[j * k + i]? = css[j][i]?
 | [], _, _, _, _, hj, _ => by simp at hj
 | cs :: css, k, 0, i, h, _, hi => by
  have := h cs (by simp)
  rw [List.flatten_cons, List.getElem?_append_left (by omega)]
  simp
 | cs :: css, k, j + 1, i, h, hj, hi => by
  have := h cs (by simp)
  rw [List.flatten_cons, List.getElem?_append_right (by rw [Nat.succ_mul]; omega), show (j + 1) * k + i - cs.length = j * k + i by rw [Nat.succ_mul]; omega, flatten_at css k j i (fun c hc => h c (by simp [hc])) (by simpa using hj) hi]
  simp
/-- a row of one's own -/
theorem SliceOf.of_own {base : Nat} {e : TypeId} {css : List (List Value)} (h : w.ownsRow base e k v css.length css.flatten) (hk : ∀ cs ∈ css, cs.length = k) (hl : css.length = xs.length)
 (hR : ∀ j (h : j < xs.length) (h' : j < css.length), R w xs[j] css[j]) : SliceOf k R w v xs := by
 rcases h.2 with ⟨hv, hx⟩ | ⟨g, cap, cur, hv, hb, hh, hn, hm, hs, ht⟩
 ·have : xs = [] := List.eq_nil_of_length_eq_zero (by omega)
  subst this
  rw [hv]
  exact SliceOf.nil _ _ (by omega)
 ·rw [hl] at hv hn
  refine ⟨_, cap, hv, hn, by unfold maxLen at hm; exact hm, fun h0 => ⟨g, rfl, (Array.getElem?_eq_some_iff.1 hh).1, fun j hj => ⟨css[j]'(by omega), hR j hj (by omega), hk _ (List.getElem_mem _), fun i hi => ?_⟩⟩⟩
  rw [cell_of_row w g (j * k + i) _ e (0, 0) hh, ← flatten_at css k j i hk (by omega) hi, ← ht]
  rw [List.getElem?_take, if_pos, Array.getElem?_toList]
  exact Nat.lt_of_lt_of_le (show j * k + i < (j + 1) * k by rw [Nat.succ_mul]; omega) (Nat.mul_le_mul_right _ (by omega))
end

def amtC (a : Amt) : List Value := [zv a.item, zv a.n]
def AmtsAt (w : World) (v : Value) (l : List Amt) : Prop := SliceOf 2 (fun _ a cs => cs = amtC a) w v l
def itmC (n : Tx) : List Value := [.string ⟨n.toArray⟩, .bool false, .bool false, .bool false, zv 0, zv 0, zv 0]
def ItemsAt (w : World) (v : Value) (l : List Tx) : Prop := SliceOf 7 (fun _ n cs => cs = itmC n) w v l
def rulC (r : Rul) (vt vg vb : Value) : List Value := [.string ⟨r.name.toArray⟩, .bool r.spawn, zv 0, zv r.time, zv 1, zv r.of_, vt, vg, vb]
def RulAt (w : World) (r : Rul) (cs : List Value) : Prop := ∃ vt vg vb, cs = rulC r vt vg vb ∧ AmtsAt w vt r.take ∧ AmtsAt w vg r.give ∧ AmtsAt w vb r.back
def RulesAt (w : World) (v : Value) (l : List Rul) : Prop := SliceOf 9 RulAt w v l
def IntsOf (w : World) (v : Value) (l : List Int) : Prop := SliceOf 1 (fun _ a cs => cs = [zv a]) w v l
structure CatAt (w : World) (vi vr : Value) (c : Cat) : Prop where
 items : ItemsAt w vi c.items
 rules : RulesAt w vr c.rules

section
variable {w w' : World} {v : Value}
theorem AmtsAt.below {l : List Amt} (h : AmtsAt w v l) (hb : Below w.heap.size w w') : AmtsAt w' v l := SliceOf.below h hb (fun _ _ h => h)
theorem ItemsAt.below {l : List Tx} (h : ItemsAt w v l) (hb : Below w.heap.size w w') : ItemsAt w' v l := SliceOf.below h hb (fun _ _ h => h)
theorem IntsOf.below {l : List Int} (h : IntsOf w v l) (hb : Below w.heap.size w w') : IntsOf w' v l := SliceOf.below h hb (fun _ _ h => h)
theorem RulAt.below {r : Rul} {cs : List Value} (h : RulAt w r cs) (hb : Below w.heap.size w w') : RulAt w' r cs := by
 obtain ⟨vt, vg, vb, h1, h2, h3, h4⟩ := h
 exact ⟨vt, vg, vb, h1, h2.below hb, h3.below hb, h4.below hb⟩
theorem RulesAt.below {l : List Rul} (h : RulesAt w v l) (hb : Below w.heap.size w w') : RulesAt w' v l := SliceOf.below h hb (fun _ _ h => h.below hb)
theorem CatAt.below {vi vr : Value} {c : Cat} (h : CatAt w vi vr c) (hb : Below w.heap.size w w') : CatAt w' vi vr c := ⟨h.items.below hb, h.rules.below hb⟩
end
theorem IntsOf.at_ {w : World} {v : Value} {l : List Int} (h : IntsOf w v l) (j : Nat) (hj : j < l.length) :
 ∃ b cap, v = .slice (some ⟨b, 0, none⟩) l.length cap ∧ b < w.heap.size ∧ w.cell? ⟨b, j, none⟩ = some (.int .i64 l[j]) := by
 obtain ⟨b, cap, cs, hv, hb, rfl, _, hc⟩ := SliceOf.at_ h j hj
 have := hc 0 (by omega)
 rw [Nat.mul_one, Nat.add_zero] at this
 exact ⟨b, cap, hv, hb, this⟩
end Go.Proofs.Ytlmbebbdamgfpaa
set_option linter.unusedVariables false
set_option linter.unusedSimpArgs false
namespace Go.Proofs.Ytlmbebbdamgfpaa
open Go.RowKit

/-- t is a slice type of elements e, k cells each -/
def Elem (P : Program) (t e : TypeId) (k bytes : Nat) : Prop :=
 P.underlying t = some (.slice e) ∧ ∃ i z, P.info? e = some i ∧ i.zero = some z ∧ i.size = k ∧ i.bytes = bytes ∧ z.cells.size = k ∧ 0 < k
theorem Elem.mk {P : Program} {t e : TypeId} {k bytes : Nat} {z : Value} (h1 : P.underlying t = some (.slice e)) (h2 : (P.info? e).map (fun i => (i.zero, i.size, i.bytes)) = some (some z, k, bytes)) (h3 : z.cells.size = k) (h4 : 0 < k) : Elem P t e k bytes := by
 obtain ⟨i, hi, hz0, hz1, hz2⟩ := info_parts h2
 exact ⟨h1, i, z, hi, hz0, hz1, hz2, h3, h4⟩

/-- a row of one's own, in a shape of its own -/
theorem only_of_grown {w w' : World} {row : Option Nat} (h : w.grownBy w' row) : Only (fun b => row = some b) w w' :=
 ⟨h.os, h.tape, h.output, h.size, fun k hk hn => h.block k hk (fun e => hn e.symm)⟩

theorem Only.own {S : Nat → Prop} {w w' : World} (h : Only S w w') {base e k n : Nat} {v : Value} {xs : List Value} (ho : w.ownsRow base e k v n xs) (hS : ∀ b, v.ownBlock = some b → ¬ S b) : w'.ownsRow base e k v n xs := by
 obtain ⟨hl, ho⟩ := ho
 refine ⟨hl, ?_⟩
 rcases ho with ho | ⟨g, cap, cur, hv, hb, hh, hr⟩
 ·exact .inl ho
 ·refine .inr ⟨g, cap, cur, hv, hb, ?_, hr⟩
  rw [h.block g (Array.getElem?_eq_some_iff.1 hh).1 (hS g (by rw [hv]; rfl))]
  exact hh

/-- append(s, x) of one element, which has just been laid into a block -/
theorem wpList_app1 {P : Program} {W0 w : World} {ops : Array Oper} {rest : List Oper} {o : Oper} {a : Act} {Q : Exit → Act → World → Prop} {B k bytes : Nat} {t e : TypeId} (hE : Elem P t e k bytes) (hgd : o.guard = none) (s x : Operand)
 (ho : o.op = .call { callee := .builtin .append, args := #[s, x], argTypes := #[t, t] }) (cs : List Value) (te : TypeId)
 (v : Value) (n : Nat) (xs : List Value) (hs : a.eval s = v) (hx : a.eval x = .slice (some ⟨w.heap.size, 0, none⟩) 1 1) (hcs : cs.length = k) (h1 : ∀ u ∈ cs, u.oneCell' = true)
 (hown : w.ownsRow B e k v n xs) (hB : Below B W0 w) (hle : B ≤ w.heap.size) (hn : n ≤ 1000000000) (hby : bytes ≤ 1000)
 (h : ∀ g cap w', Hid (w'.ownsRow B e k (.slice (some ⟨g, 0, none⟩) (n + 1) cap) (n + 1) (xs ++ cs)) → Hid (Below B W0 w') → Hid (Only (fun b => v.ownBlock = some b) w w') → cap ≤ 9223372036854775807 → Hid (v.ownBlock = some g ∨ w.heap.size ≤ g) → wpList P ops Q rest (a.put o.dst (.slice (some ⟨g, 0, none⟩) (n + 1) cap)) w') : wpList P ops Q (o :: rest) a (w.alloc (.cells cs.toArray te)) := by
 obtain ⟨ht, i, z, hi, hz, hsize, hbyt, hzs, hk⟩ := hE
 have hcap : (n + 1) * bytes ≤ 140737488355328 := Nat.le_trans (Nat.mul_le_mul (show n + 1 ≤ 1000000001 by omega) hby) (by decide)
 refine wpList_append_lies (w.alloc (.cells cs.toArray te)) hgd s x t ho B e i z k bytes ht hi hz hsize hbyt hzs hk v n xs hs (hown.alloc _) ⟨w.heap.size, 0, none⟩ 1 1 cs hx (by rw [Nat.one_mul]; exact hcs) ?_ h1 (by omega) (by unfold maxLen; omega) hcap (by simp; omega) (w.heap.size + 1) (by simp) ?_
 ·intro j u hu
  have hadd : (⟨w.heap.size, 0, none⟩ : Addr).add j = ⟨w.heap.size, j, none⟩ := by unfold Addr.add; split <;> simp_all
  rw [hadd, cell_of_row _ w.heap.size j _ te (0, 0) (heap_alloc_new w _)]
  simpa using hu
 ·intro g cap w' ho' hg hat hlt
  have hO : Only (fun b => v.ownBlock = some b) w w' := (only_of_grown hg) |> fun h2 => ⟨h2.os, h2.tape, h2.output, Nat.le_trans (by simp) h2.size, fun k hk hn => (h2.block k (by simp; omega) hn).trans (Below.heap_alloc w _ k hk)⟩
  refine h g cap w' (Lib.hid ho') (Lib.hid (hO.below hB hle (fun k e => (hown.lt k e).1))) (Lib.hid hO) ?_ (Lib.hid ?_)
  ·rcases ho'.2 with ⟨hv, _⟩ | ⟨_, _, _, hv, _, _, _, h3, _⟩
   ·cases hv
   ·injection hv with _ _ e
    unfold maxLen at h3
    omega
  ·rcases hat with hat | hat
   ·exact .inl hat
   ·exact .inr (by omega)

/-- append(s, x...) of a slice that reads as cells -/
theorem wpList_appN {P : Program} {W0 w : World} {ops : Array Oper} {rest : List Oper} {o : Oper} {a : Act} {Q : Exit → Act → World → Prop} {B k bytes : Nat} {t e : TypeId} (hE : Elem P t e k bytes) (hgd : o.guard = none) (s x : Operand)
 (ho : o.op = .call { callee := .builtin .append, args := #[s, x], argTypes := #[t, t] }) 
 (v : Value) (n : Nat) (xs : List Value) (hs : a.eval s = v) (ad : Addr) (m c : Nat) (cs : List Value) (hx : a.eval x = .slice (some ad) m c) (hcs : cs.length = m * k) (hnews : ∀ j u, cs[j]? = some u → w.cell? (ad.add j) = some u) (h1 : ∀ u ∈ cs, u.oneCell' = true)
 (hown : w.ownsRow B e k v n xs) (hB : Below B W0 w) (hle : B ≤ w.heap.size) (hn : n + m ≤ 1000000000) (hby : bytes ≤ 1000)
 (h : ∀ v' w', Hid (w'.ownsRow B e k v' (n + m) (xs ++ cs)) → Hid (Below B W0 w') → Hid (Only (fun b => v.ownBlock = some b) w w') → wpList P ops Q rest (a.put o.dst v') w') : wpList P ops Q (o :: rest) a w := by
 obtain ⟨ht, i, z, hi, hz, hsize, hbyt, hzs, hk⟩ := hE
 have hcap : (n + m) * bytes ≤ 140737488355328 := Nat.le_trans (Nat.mul_le_mul hn hby) (by decide)
 refine wpList_append_own w hgd s x t ho B e i z k bytes ht hi hz hsize hbyt hzs hk v n xs hs hown ad m c cs hx hcs hnews h1 (by unfold maxLen; omega) hcap hle ?_
 intro v' w' ho' hg _
 have hO := only_of_grown hg
 exact h v' w' (Lib.hid ho') (Lib.hid (hO.below hB hle (fun k e => (hown.lt k e).1))) (Lib.hid hO)

/-- block g is just the cells cs -/
def BlkC (w : World) (g : Nat) (t : TypeId) (cs : List Value) : Prop := w.heap[g]? = some (.cells cs.toArray t (0, 0))
section
variable {w w' : World} {g : Nat} {t : TypeId} {cs : List Value}
theorem BlkC.lt (h : BlkC w g t cs) : g < w.heap.size := (Array.getElem?_eq_some_iff.1 h).1
theorem BlkC.cell (h : BlkC w g t cs) (i : Nat) : w.cell? ⟨g, i, none⟩ = cs[i]? := by
 rw [cell_of_row w g i _ t (0, 0) h]
 simp
theorem BlkC.frozen (h : BlkC w g t cs) (i : Nat) : w.frozen? ⟨g, i, none⟩ = false := by
 unfold BlkC at h
 simp [World.frozen?, h]
theorem BlkC.below {B : Nat} (h : BlkC w g t cs) (hb : Below B w w') (hg : g < B) : BlkC w' g t cs := (hb.block g hg).trans h
theorem BlkC.set (h : BlkC w g t cs) (i : Nat) (u : Value) : BlkC (w.setCell ⟨g, i, none⟩ u) g t (cs.set i u) := by
 unfold BlkC at h ⊢
 simp [World.setCell, Array.getElem?_modify, h]
theorem BlkC.far (h : BlkC w g t cs) {p : Addr} (hp : g ≠ p.block) (u : Value) : BlkC (w.setCell p u) g t cs := (Below.heap_setCell w p u g hp).trans h
theorem BlkC.drewN (h : BlkC w g t cs) (n : Nat) : BlkC (w.drewN n) g t cs := h
theorem BlkC.drew (h : BlkC w g t cs) : BlkC w.drew g t cs := h
theorem BlkC.alloc (h : BlkC w g t cs) (o : Obj) : BlkC (w.alloc o) g t cs := (Below.heap_alloc w o g h.lt).trans h
theorem BlkC.new (w : World) (t : TypeId) (cs : List Value) : BlkC (w.alloc (.cells cs.toArray t)) w.heap.size t cs := heap_alloc_new w _
theorem BlkC.only {S : Nat → Prop} (h : BlkC w g t cs) (ho : Only S w w') (hS : ¬ S g) : BlkC w' g t cs := (ho.block g h.lt hS).trans h
theorem BlkC.of_own {base k n : Nat} {a : Option Addr} {cap : Nat} (h : w.ownsRow base t k (.slice (some ⟨g, 0, none⟩) n cap) n cs) (hc : cap = n) : BlkC w g t cs := by
 obtain ⟨hl, ho⟩ := h
 rcases ho with ⟨hv, _⟩ | ⟨g', cap', cur, hv, hb, hh, hn, hm, hs, ht⟩
 ·cases hv
 ·injection hv with e1 e2 e3
  injection e1 with e1
  injection e1 with e1
  subst e1 e3
  unfold BlkC
  rw [hh, ← ht, List.take_of_length_le (by simp [hs, hc])]
end

theorem slice_of_blk {α : Type} {k : Nat} {R : World → α → List Value → Prop} {w : World} {xs : List α} {g : Nat} {t : TypeId} {css : List (List Value)} (h : BlkC w g t css.flatten) (hk : ∀ cs ∈ css, cs.length = k) (hl : css.length = xs.length)
 (hR : ∀ j (h : j < xs.length) (h' : j < css.length), R w xs[j] css[j]) {cap : Nat} (hc : xs.length ≤ cap) (hc2 : cap ≤ 9223372036854775807) : SliceOf k R w (.slice (some ⟨g, 0, none⟩) xs.length cap) xs := by
 refine ⟨_, cap, rfl, hc, hc2, fun h0 => ⟨g, rfl, h.lt, fun j hj => ⟨css[j]'(by omega), hR j hj (by omega), hk _ (List.getElem_mem _), fun i hi => ?_⟩⟩⟩
 rw [h.cell, flatten_at css k j i hk (by omega) hi]

theorem flatten_one {α : Type} (f : α → Value) (l : List α) : (l.map (fun a => [f a])).flatten = l.map f := by
 induction l with
 | nil => rfl
 | cons x r ih => simp [ih]

theorem ints_of_blk {w : World} {g : Nat} {t : TypeId} {l : List Int} (h : BlkC w g t (l.map zv)) {cap : Nat} (hc : l.length ≤ cap) (hc2 : cap ≤ 9223372036854775807) : IntsOf w (.slice (some ⟨g, 0, none⟩) l.length cap) l := by
 refine slice_of_blk (css := l.map (fun a => [zv a])) (by rw [flatten_one]; exact h) (by simp) (by simp) ?_ hc hc2
 intro j h1 h2
 simp
theorem ints_of_own {w : World} {base : Nat} {e : TypeId} {v : Value} {l : List Int} (h : w.ownsRow base e 1 v l.length (l.map zv)) : IntsOf w v l := by
 refine SliceOf.of_own (css := l.map (fun a => [zv a])) (base := base) (e := e) (by rw [flatten_one, List.length_map]; exact h) (by simp) (by simp) ?_
 intro j h1 h2
 simp
theorem elemInt : Elem Try.prog 22 3 1 8 := Elem.mk (z := .int .i64 0) Try.underlying22 (by kernel_rfl) rfl (by decide)
end Go.Proofs.Ytlmbebbdamgfpaa
