/- Rows of one's own: append of one element, of many; blocks of integers that are written. -/
import Derived.Test.YtfpcgjgkbniofaaGreatDoorGMem
import Derived.Test.YtfpcgjgkbniofaaGreatDoorProg
import Derived.Deep.AppendLies
import Derived.WalkKit
import Derived.WalkSpells
import Derived.WalkLawsBesides
set_option linter.unusedVariables false
set_option linter.unusedSimpArgs false
namespace Go.Proofs.YtfpcgjgkbniofaaGreatDoor
open Go.RowKit

/-- t is a slice type of elements e, k cells each -/
def Elem (P : Program) (t e : TypeId) (k bytes : Nat) : Prop :=
  P.underlying t = some (.slice e) ∧ ∃ i z, P.info? e = some i ∧ i.zero = some z ∧ i.size = k ∧ i.bytes = bytes ∧ z.cells.size = k ∧ 0 < k
theorem Elem.mk {P : Program} {t e : TypeId} {k bytes : Nat} {z : Value} (h1 : P.underlying t = some (.slice e)) (h2 : (P.info? e).map (fun i => (i.zero, i.size, i.bytes)) = some (some z, k, bytes)) (h3 : z.cells.size = k) (h4 : 0 < k) : Elem P t e k bytes := by
  obtain ⟨i, hi, hz0, hz1, hz2⟩ := info_parts h2
  exact ⟨h1, i, z, hi, hz0, hz1, hz2, h3, h4⟩

/-- a row of one's own, in a shape of its own -/
theorem only_of_grown {w w' : World} {row : Option Nat} (h : w.grownBy w' row) : Only (fun b => row = some b) w w' :=
  ⟨h.os, h.tape, h.output, h.size, fun k hk hn => h.block k hk (fun e => hn e.symm)⟩

theorem Only.own {S : Nat → Prop} {w w' : World} (h : Only S w w') {base e k n : Nat} {v : Value} {xs : List Value} (ho : w.ownsRow base e k v n xs) (hS : ∀ b, v.ownBlock = some b → ¬ S b) : w'.ownsRow base e k v n xs := by
  obtain ⟨hl, ho⟩ := ho
  refine ⟨hl, ?_⟩
  rcases ho with ho | ⟨g, cap, cur, hv, hb, hh, hr⟩
  · exact .inl ho
  · refine .inr ⟨g, cap, cur, hv, hb, ?_, hr⟩
    rw [h.block g (Array.getElem?_eq_some_iff.1 hh).1 (hS g (by rw [hv]; rfl))]
    exact hh

/-- append(s, x) of one element, which has just been laid into a block -/
theorem wpList_app1 {P : Program} {W0 w : World} {ops : Array Oper} {rest : List Oper} {o : Oper} {a : Act} {Q : Exit → Act → World → Prop} {B k bytes : Nat} {t e : TypeId} (hE : Elem P t e k bytes) (hgd : o.guard = none) (s x : Operand)
    (ho : o.op = .call { callee := .builtin .append, args := #[s, x], argTypes := #[t, t] }) (cs : List Value) (te : TypeId)
    (v : Value) (n : Nat) (xs : List Value) (hs : a.eval s = v) (hx : a.eval x = .slice (some ⟨w.heap.size, 0, none⟩) 1 1) (hcs : cs.length = k) (h1 : ∀ u ∈ cs, u.oneCell' = true)
    (hown : w.ownsRow B e k v n xs) (hB : Below B W0 w) (hle : B ≤ w.heap.size) (hn : n ≤ 1000000000) (hby : bytes ≤ 1000)
    (h : ∀ g cap w', Hid (w'.ownsRow B e k (.slice (some ⟨g, 0, none⟩) (n + 1) cap) (n + 1) (xs ++ cs)) → Hid (Below B W0 w') → Hid (Only (fun b => v.ownBlock = some b) w w') → cap ≤ 9223372036854775807 → Hid (v.ownBlock = some g ∨ w.heap.size ≤ g) → wpList P ops Q rest (a.put o.dst (.slice (some ⟨g, 0, none⟩) (n + 1) cap)) w') : wpList P ops Q (o :: rest) a (w.alloc (.cells cs.toArray te)) := by
  obtain ⟨ht, i, z, hi, hz, hsize, hbyt, hzs, hk⟩ := hE
  have hcap : (n + 1) * bytes ≤ 140737488355328 := Nat.le_trans (Nat.mul_le_mul (show n + 1 ≤ 1000000001 by omega) hby) (by decide)
  refine wpList_append_lies (w.alloc (.cells cs.toArray te)) hgd s x t ho B e i z k bytes ht hi hz hsize hbyt hzs hk v n xs hs (hown.alloc _) ⟨w.heap.size, 0, none⟩ 1 1 cs hx (by rw [Nat.one_mul]; exact hcs) ?_ h1 (by omega) (by unfold maxLen; omega) hcap (by simp; omega) (w.heap.size + 1) (by simp) ?_
  · intro j u hu
    have hadd : (⟨w.heap.size, 0, none⟩ : Addr).add j = ⟨w.heap.size, j, none⟩ := by unfold Addr.add; split <;> simp_all
    rw [hadd, cell_of_row _ w.heap.size j _ te (0, 0) (heap_alloc_new w _)]
    simpa using hu
  · intro g cap w' ho' hg hat hlt
    have hO : Only (fun b => v.ownBlock = some b) w w' := (only_of_grown hg) |> fun h2 => ⟨h2.os, h2.tape, h2.output, Nat.le_trans (by simp) h2.size, fun k hk hn => (h2.block k (by simp; omega) hn).trans (Below.heap_alloc w _ k hk)⟩
    refine h g cap w' (Lib.hid ho') (Lib.hid (hO.below hB hle (fun k e => (hown.lt k e).1))) (Lib.hid hO) ?_ (Lib.hid ?_)
    · rcases ho'.2 with ⟨hv, _⟩ | ⟨_, _, _, hv, _, _, _, h3, _⟩
      · cases hv
      · injection hv with _ _ e
        unfold maxLen at h3
        omega
    · rcases hat with hat | hat
      · exact .inl hat
      · exact .inr (by omega)

/-- append(s, x...) of a slice that reads as cells -/
theorem wpList_appN {P : Program} {W0 w : World} {ops : Array Oper} {rest : List Oper} {o : Oper} {a : Act} {Q : Exit → Act → World → Prop} {B k bytes : Nat} {t e : TypeId} (hE : Elem P t e k bytes) (hgd : o.guard = none) (s x : Operand)
    (ho : o.op = .call { callee := .builtin .append, args := #[s, x], argTypes := #[t, t] }) 
    (v : Value) (n : Nat) (xs : List Value) (hs : a.eval s = v) (ad : Addr) (m c : Nat) (cs : List Value) (hx : a.eval x = .slice (some ad) m c) (hcs : cs.length = m * k) (hnews : ∀ j u, cs[j]? = some u → w.cell? (ad.add j) = some u) (h1 : ∀ u ∈ cs, u.oneCell' = true)
    (hown : w.ownsRow B e k v n xs) (hB : Below B W0 w) (hle : B ≤ w.heap.size) (hn : n + m ≤ 1000000000) (hby : bytes ≤ 1000)
    (h : ∀ v' w', Hid (w'.ownsRow B e k v' (n + m) (xs ++ cs)) → Hid (Below B W0 w') → Hid (Only (fun b => v.ownBlock = some b) w w') → wpList P ops Q rest (a.put o.dst v') w') : wpList P ops Q (o :: rest) a w := by
  obtain ⟨ht, i, z, hi, hz, hsize, hbyt, hzs, hk⟩ := hE
  have hcap : (n + m) * bytes ≤ 140737488355328 := Nat.le_trans (Nat.mul_le_mul hn hby) (by decide)
  refine wpList_append_own w hgd s x t ho B e i z k bytes ht hi hz hsize hbyt hzs hk v n xs hs hown ad m c cs hx hcs hnews h1 (by unfold maxLen; omega) hcap hle ?_
  intro v' w' ho' hg _
  have hO := only_of_grown hg
  exact h v' w' (Lib.hid ho') (Lib.hid (hO.below hB hle (fun k e => (hown.lt k e).1))) (Lib.hid hO)

/-- block g is just the cells cs -/
def BlkC (w : World) (g : Nat) (t : TypeId) (cs : List Value) : Prop := w.heap[g]? = some (.cells cs.toArray t (0, 0))
section
variable {w w' : World} {g : Nat} {t : TypeId} {cs : List Value}
theorem BlkC.lt (h : BlkC w g t cs) : g < w.heap.size := (Array.getElem?_eq_some_iff.1 h).1
theorem BlkC.cell (h : BlkC w g t cs) (i : Nat) : w.cell? ⟨g, i, none⟩ = cs[i]? := by
  rw [cell_of_row w g i _ t (0, 0) h]
  simp
theorem BlkC.frozen (h : BlkC w g t cs) (i : Nat) : w.frozen? ⟨g, i, none⟩ = false := by
  unfold BlkC at h
  simp [World.frozen?, h]
theorem BlkC.below {B : Nat} (h : BlkC w g t cs) (hb : Below B w w') (hg : g < B) : BlkC w' g t cs := (hb.block g hg).trans h
theorem BlkC.set (h : BlkC w g t cs) (i : Nat) (u : Value) : BlkC (w.setCell ⟨g, i, none⟩ u) g t (cs.set i u) := by
  unfold BlkC at h ⊢
  simp [World.setCell, Array.getElem?_modify, h]
theorem BlkC.far (h : BlkC w g t cs) {p : Addr} (hp : g ≠ p.block) (u : Value) : BlkC (w.setCell p u) g t cs := (Below.heap_setCell w p u g hp).trans h
theorem BlkC.drewN (h : BlkC w g t cs) (n : Nat) : BlkC (w.drewN n) g t cs := h
theorem BlkC.drew (h : BlkC w g t cs) : BlkC w.drew g t cs := h
theorem BlkC.alloc (h : BlkC w g t cs) (o : Obj) : BlkC (w.alloc o) g t cs := (Below.heap_alloc w o g h.lt).trans h
theorem BlkC.new (w : World) (t : TypeId) (cs : List Value) : BlkC (w.alloc (.cells cs.toArray t)) w.heap.size t cs := heap_alloc_new w _
theorem BlkC.only {S : Nat → Prop} (h : BlkC w g t cs) (ho : Only S w w') (hS : ¬ S g) : BlkC w' g t cs := (ho.block g h.lt hS).trans h
theorem BlkC.of_own {base k n : Nat} {a : Option Addr} {cap : Nat} (h : w.ownsRow base t k (.slice (some ⟨g, 0, none⟩) n cap) n cs) (hc : cap = n) : BlkC w g t cs := by
  obtain ⟨hl, ho⟩ := h
  rcases ho with ⟨hv, _⟩ | ⟨g', cap', cur, hv, hb, hh, hn, hm, hs, ht⟩
  · cases hv
  · injection hv with e1 e2 e3
    injection e1 with e1
    injection e1 with e1
    subst e1 e3
    unfold BlkC
    rw [hh, ← ht, List.take_of_length_le (by simp [hs, hc])]
end

theorem slice_of_blk {α : Type} {k : Nat} {R : World → α → List Value → Prop} {w : World} {xs : List α} {g : Nat} {t : TypeId} {css : List (List Value)} (h : BlkC w g t css.flatten) (hk : ∀ cs ∈ css, cs.length = k) (hl : css.length = xs.length)
    (hR : ∀ j (h : j < xs.length) (h' : j < css.length), R w xs[j] css[j]) {cap : Nat} (hc : xs.length ≤ cap) (hc2 : cap ≤ 9223372036854775807) : SliceOf k R w (.slice (some ⟨g, 0, none⟩) xs.length cap) xs := by
  refine ⟨_, cap, rfl, hc, hc2, fun h0 => ⟨g, rfl, h.lt, fun j hj => ⟨css[j]'(by omega), hR j hj (by omega), hk _ (List.getElem_mem _), fun i hi => ?_⟩⟩⟩
  rw [h.cell, flatten_at css k j i hk (by omega) hi]

theorem flatten_one {α : Type} (f : α → Value) (l : List α) : (l.map (fun a => [f a])).flatten = l.map f := by
  induction l with
  | nil => rfl
  | cons x r ih => simp [ih]

theorem ints_of_blk {w : World} {g : Nat} {t : TypeId} {l : List Int} (h : BlkC w g t (l.map zv)) {cap : Nat} (hc : l.length ≤ cap) (hc2 : cap ≤ 9223372036854775807) : IntsOf w (.slice (some ⟨g, 0, none⟩) l.length cap) l := by
  refine slice_of_blk (css := l.map (fun a => [zv a])) (by rw [flatten_one]; exact h) (by simp) (by simp) ?_ hc hc2
  intro j h1 h2
  simp
theorem ints_of_own {w : World} {base : Nat} {e : TypeId} {v : Value} {l : List Int} (h : w.ownsRow base e 1 v l.length (l.map zv)) : IntsOf w v l := by
  refine SliceOf.of_own (css := l.map (fun a => [zv a])) (base := base) (e := e) (by rw [flatten_one, List.length_map]; exact h) (by simp) (by simp) ?_
  intro j h1 h2
  simp
theorem amts_of_own {w : World} {base : Nat} {e : TypeId} {v : Value} {l : List Amt} (h : w.ownsRow base e 2 v l.length (l.flatMap amtC)) : AmtsAt w v l := by
  refine SliceOf.of_own (css := l.map amtC) (base := base) (e := e) (by rw [List.length_map, ← List.flatMap_def]; exact h) (by simp [amtC]) (by simp) ?_
  intro j h1 h2
  simp

theorem elemAmt : Elem Tryz.prog 61 88 2 16 := Elem.mk (z := .agg #[.int .i64 0, .int .i64 0]) Tryz.underlying61 (by kernel_rfl) rfl (by decide)
theorem elemInt : Elem Tryz.prog 22 3 1 8 := Elem.mk (z := .int .i64 0) Tryz.underlying22 (by kernel_rfl) rfl (by decide)
end Go.Proofs.YtfpcgjgkbniofaaGreatDoor
