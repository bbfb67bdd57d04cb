/- Matrices of ints in memory; lattice.check. -/
import Derived.Test.YtlmbebbdamgfpaaQHGMem
import Derived.Test.YtlmbebbdamgfpaaProg
import Derived.Deep.AppendLies
import Derived.WalkKit
import Derived.WalkSpells
import Derived.WalkLawsBesides
set_option linter.unusedVariables false
set_option linter.unusedSimpArgs false
namespace Go.Proofs.Ytlmbebbdamgfpaa
open Go.RowKit
def qIy (P : Program) (t e : TypeId) (k bytes : Nat) : Prop :=
 P.underlying t = some (.slice e) /\ ∃ i z, P.info? e = some i /\ i.zero = some z /\ i.size = k /\ i.bytes = bytes /\ z.cells.size = k /\ 0 < k
theorem qIy.mk {P : Program} {t e : TypeId} {k bytes : Nat} {z : Value} (h1 : P.underlying t = some (.slice e)) (h2 : (P.info? e).map (fun i => (i.zero, i.size, i.bytes)) = some (some z, k, bytes)) (h3 : z.cells.size = k) (h4 : 0 < k) : qIy P t e k bytes := by
 obtain ⟨i, hi, hz0, hz1, hz2⟩ := info_parts h2; exact ⟨h1, i, z, hi, hz0, hz1, hz2, h3, h4⟩
theorem qDa {w w' : World} {row : Option Nat} (h : w.grownBy w' row) : qAc (fun b => row = some b) w w' :=
 ⟨h.os, h.tape, h.output, h.size, fun k hk hn => h.block k hk (fun e => hn e.symm)⟩
theorem qAc.own {S : Nat -> Prop} {w w' : World} (h : qAc S w w') {base e k n : Nat} {v : Value} {xs : List Value} (ho : w.ownsRow base e k v n xs) (hS : ∀ b, v.ownBlock = some b -> ¬ S b) : w'.ownsRow base e k v n xs := by
 obtain ⟨hl, ho⟩ := ho; refine ⟨hl, ?_⟩; rcases ho with ho | ⟨g, cap, cur, hv, hb, hh, hr⟩
 ·exact .inl ho
 ·refine .inr ⟨g, cap, cur, hv, hb, ?_, hr⟩
  rw [h.block g (Array.getElem?_eq_some_iff.1 hh).1 (hS g (by rw [hv]; rfl))]; exact hh
theorem qAX {P : Program} {W0 w : World} {ops : Array Oper} {rest : List Oper} {o : Oper} {a : Act} {Q : Exit -> Act -> World -> Prop} {B k bytes : Nat} {t e : TypeId} (hE : qIy P t e k bytes) (hgd : o.guard = none) (s x : Operand)
 (ho : o.op = .call { callee := .builtin .append, args := #[s, x], argTypes := #[t, t] }) (cs : List Value) (te : TypeId)
 (v : Value) (n : Nat) (xs : List Value) (hs : a.eval s = v) (hx : a.eval x = .slice (some ⟨w.heap.size, 0, none⟩) 1 1) (hcs : cs.length = k) (h1 : ∀ u ∈ cs, u.oneCell' = true)
 (hown : w.ownsRow B e k v n xs) (hB : Below B W0 w) (hle : B <= w.heap.size) (hn : n <= 1000000000) (hby : bytes <= 1000)
 (h : ∀ g cap w', Hid (w'.ownsRow B e k (.slice (some ⟨g, 0, none⟩) (n + 1) cap) (n + 1) (xs ++ cs)) -> Hid (Below B W0 w') -> Hid (qAc (fun b => v.ownBlock = some b) w w') -> cap <= 9223372036854775807 -> Hid (v.ownBlock = some g \/ w.heap.size <= g) -> wpList P ops Q rest (a.put o.dst (.slice (some ⟨g, 0, none⟩) (n + 1) cap)) w') : wpList P ops Q (o :: rest) a (w.alloc (.cells cs.toArray te)) := by
 obtain ⟨ht, i, z, hi, hz, hsize, hbyt, hzs, hk⟩ := hE; have hcap : (n + 1) * bytes <= 140737488355328 := Nat.le_trans (Nat.mul_le_mul (show n + 1 <= 1000000001 by omega) hby) (by decide); refine wpList_append_lies (w.alloc (.cells cs.toArray te)) hgd s x t ho B e i z k bytes ht hi hz hsize hbyt hzs hk v n xs hs (hown.alloc _) ⟨w.heap.size, 0, none⟩ 1 1 cs hx (by rw [Nat.one_mul]; exact hcs) ?_ h1 (by omega) (by unfold maxLen; omega) hcap (by simp; omega) (w.heap.size + 1) (by simp) ?_
 ·intro j u hu
  have hadd : (⟨w.heap.size, 0, none⟩ : Addr).add j = ⟨w.heap.size, j, none⟩ := by unfold Addr.add; split <;> simp_all
  rw [hadd, cell_of_row _ w.heap.size j _ te (0, 0) (heap_alloc_new w _)]; simpa using hu
 ·intro g cap w' ho' hg hat hlt
  have hO : qAc (fun b => v.ownBlock = some b) w w' := (qDa hg) |> fun h2 => ⟨h2.os, h2.tape, h2.output, Nat.le_trans (by simp) h2.size, fun k hk hn => (h2.block k (by simp; omega) hn).trans (Below.heap_alloc w _ k hk)⟩
  refine h g cap w' (hZ ho') (hZ (hO.below hB hle (fun k e => (hown.lt k e).1))) (hZ hO) ?_ (hZ ?_)
  ·rcases ho'.2 with ⟨hv, _⟩ | ⟨_, _, _, hv, _, _, _, h3, _⟩
   ·cases hv
   ·injection hv with _ _ e
    unfold maxLen at h3; omega
  ·rcases hat with hat | hat
   ·exact .inl hat
   ·exact .inr (by omega)
theorem qCn {P : Program} {W0 w : World} {ops : Array Oper} {rest : List Oper} {o : Oper} {a : Act} {Q : Exit -> Act -> World -> Prop} {B k bytes : Nat} {t e : TypeId} (hE : qIy P t e k bytes) (hgd : o.guard = none) (s x : Operand)
 (ho : o.op = .call { callee := .builtin .append, args := #[s, x], argTypes := #[t, t] }) 
 (v : Value) (n : Nat) (xs : List Value) (hs : a.eval s = v) (ad : Addr) (m c : Nat) (cs : List Value) (hx : a.eval x = .slice (some ad) m c) (hcs : cs.length = m * k) (hnews : ∀ j u, cs[j]? = some u -> w.cell? (ad.add j) = some u) (h1 : ∀ u ∈ cs, u.oneCell' = true)
 (hown : w.ownsRow B e k v n xs) (hB : Below B W0 w) (hle : B <= w.heap.size) (hn : n + m <= 1000000000) (hby : bytes <= 1000)
 (h : ∀ v' w', Hid (w'.ownsRow B e k v' (n + m) (xs ++ cs)) -> Hid (Below B W0 w') -> Hid (qAc (fun b => v.ownBlock = some b) w w') -> wpList P ops Q rest (a.put o.dst v') w') : wpList P ops Q (o :: rest) a w := by
 obtain ⟨ht, i, z, hi, hz, hsize, hbyt, hzs, hk⟩ := hE; have hcap : (n + m) * bytes <= 140737488355328 := Nat.le_trans (Nat.mul_le_mul hn hby) (by decide); refine wpList_append_own w hgd s x t ho B e i z k bytes ht hi hz hsize hbyt hzs hk v n xs hs hown ad m c cs hx hcs hnews h1 (by unfold maxLen; omega) hcap hle ?_; intro v' w' ho' hg _; have hO := qDa hg; exact h v' w' (hZ ho') (hZ (hO.below hB hle (fun k e => (hown.lt k e).1))) (hZ hO)
def qAE (w : World) (g : Nat) (t : TypeId) (cs : List Value) : Prop := w.heap[g]? = some (.cells cs.toArray t (0, 0))
section
variable {w w' : World} {g : Nat} {t : TypeId} {cs : List Value}
theorem qAE.lt (h : qAE w g t cs) : g < w.heap.size := (Array.getElem?_eq_some_iff.1 h).1
theorem qAE.cell (h : qAE w g t cs) (i : Nat) : w.cell? ⟨g, i, none⟩ = cs[i]? := by
 rw [cell_of_row w g i _ t (0, 0) h]; simp
theorem qAE.frozen (h : qAE w g t cs) (i : Nat) : w.frozen? ⟨g, i, none⟩ = false := by
 unfold qAE at h; simp [World.frozen?, h]
theorem qAE.below {B : Nat} (h : qAE w g t cs) (hb : Below B w w') (hg : g < B) : qAE w' g t cs := (hb.block g hg).trans h
theorem qAE.set (h : qAE w g t cs) (i : Nat) (u : Value) : qAE (w.setCell ⟨g, i, none⟩ u) g t (cs.set i u) := by
 unfold qAE at h ⊢; simp [World.setCell, Array.getElem?_modify, h]
theorem qAE.far (h : qAE w g t cs) {p : Addr} (hp : g ≠ p.block) (u : Value) : qAE (w.setCell p u) g t cs := (Below.heap_setCell w p u g hp).trans h
theorem qAE.drewN (h : qAE w g t cs) (n : Nat) : qAE (w.drewN n) g t cs := h
theorem qAE.drew (h : qAE w g t cs) : qAE w.drew g t cs := h
theorem qAE.alloc (h : qAE w g t cs) (o : Obj) : qAE (w.alloc o) g t cs := (Below.heap_alloc w o g h.lt).trans h
theorem qAE.new (w : World) (t : TypeId) (cs : List Value) : qAE (w.alloc (.cells cs.toArray t)) w.heap.size t cs := heap_alloc_new w _
theorem qAE.only {S : Nat -> Prop} (h : qAE w g t cs) (ho : qAc S w w') (hS : ¬ S g) : qAE w' g t cs := (ho.block g h.lt hS).trans h
theorem qAE.of_own {base k n : Nat} {a : Option Addr} {cap : Nat} (h : w.ownsRow base t k (.slice (some ⟨g, 0, none⟩) n cap) n cs) (hc : cap = n) : qAE w g t cs := by
 obtain ⟨hl, ho⟩ := h; rcases ho with ⟨hv, _⟩ | ⟨g', cap', cur, hv, hb, hh, hn, hm, hs, ht⟩
 ·cases hv
 ·injection hv with e1 e2 e3
  injection e1 with e1; injection e1 with e1; subst e1 e3; unfold qAE; rw [hh, <- ht, List.take_of_length_le (by simp [hs, hc])]
end
theorem qFT {α : Type} {k : Nat} {R : World -> α -> List Value -> Prop} {w : World} {xs : List α} {g : Nat} {t : TypeId} {css : List (List Value)} (h : qAE w g t css.flatten) (hk : ∀ cs ∈ css, cs.length = k) (hl : css.length = xs.length)
 (hR : ∀ j (h : j < xs.length) (h' : j < css.length), R w xs[j] css[j]) {cap : Nat} (hc : xs.length <= cap) (hc2 : cap <= 9223372036854775807) : qAh k R w (.slice (some ⟨g, 0, none⟩) xs.length cap) xs := by
 refine ⟨_, cap, rfl, hc, hc2, fun h0 => ⟨g, rfl, h.lt, fun j hj => ⟨css[j]'(by omega), hR j hj (by omega), hk _ (List.getElem_mem _), fun i hi => ?_⟩⟩⟩; rw [h.cell, qDG css k j i hk (by omega) hi]
theorem qBA {α : Type} (f : α -> Value) (l : List α) : (l.map (fun a => [f a])).flatten = l.map f := by
 induction l with
 | nil => rfl
 | cons x r ih => simp [ih]
theorem qBi {w : World} {g : Nat} {t : TypeId} {l : List Int} (h : qAE w g t (l.map zv)) {cap : Nat} (hc : l.length <= cap) (hc2 : cap <= 9223372036854775807) : qAo w (.slice (some ⟨g, 0, none⟩) l.length cap) l := by
 refine qFT (css := l.map (fun a => [zv a])) (by rw [qBA]; exact h) (by simp) (by simp) ?_ hc hc2; intro j h1 h2; simp
theorem qEr {w : World} {base : Nat} {e : TypeId} {v : Value} {l : List Int} (h : w.ownsRow base e 1 v l.length (l.map zv)) : qAo w v l := by
 refine qAh.of_own (css := l.map (fun a => [zv a])) (base := base) (e := e) (by rw [qBA, List.length_map]; exact h) (by simp) (by simp) ?_; intro j h1 h2; simp
theorem qHd : qIy Try.prog 22 3 1 8 := qIy.mk (z := .int .i64 0) Try.underlying22 (by kernel_rfl) rfl (by decide)
open Go.RowKit
def qAg (w : World) (g : Nat) : Prop := ∀ (o : Nat) (x : Int), w.cell? ⟨g, o, none⟩ ≠ some (.int .u32 x)
theorem qAd.far {w : World} {v : Value} {L : List Nat} {g : Nat} (h : qAd .u32 w v L) (hg : qAg w g) (o : Nat) (u : Value) : qAd .u32 (w.setCell ⟨g, o, none⟩ u) v L := by
 obtain ⟨a, cap, hv, h1, h2, hc⟩ := h; refine ⟨a, cap, hv, h1, h2, fun h0 => ?_⟩; obtain ⟨b, off, ha, hlt, hcc⟩ := hc h0; have hne : b ≠ g := by
  rintro rfl; exact hg _ _ (hcc 0 h0)
 refine ⟨b, off, ha, by simpa [World.setCell] using hlt, fun j hj => ?_⟩; rw [World.cell?_setCell_other _ _ _ _ (by intro e; injection e with e1; exact hne e1.symm)]; exact hcc j hj
theorem qAz.far {w : World} {v : Value} {z : Int} {g : Nat} (h : qAz w v z) (hg : qAg w g) (o : Nat) (u : Value) : qAz (w.setCell ⟨g, o, none⟩ u) v z := by
 obtain ⟨vw, hv, hm⟩ := h; exact ⟨vw, hv, hm.far hg o u⟩
theorem qAE.noInt {w : World} {g : Nat} {t : TypeId} {cs : List Value} (h : qAE w g t cs) (hc : ∀ u ∈ cs, ∀ x, u ≠ .int .u32 x) : qAg w g := by
 intro o x he; rw [h.cell] at he; exact hc _ (List.mem_of_getElem? he) x rfl
def WCs (w : World) (cs : List Value) (zs : List Int) : Prop :=
 zs.length * 2 <= cs.length /\ (∀ u ∈ cs, ∀ x, u ≠ .int .u32 x) /\ ∀ j (h : j < zs.length), ∃ a n c, cs[j * 2]? = some (.bool (decide (zs[j] < 0))) /\ cs[j * 2 + 1]? = some (.slice a n c) /\ qAz w (.agg #[.bool (decide (zs[j] < 0)), .slice a n c]) zs[j]
theorem WCs.noInt {w : World} {cs : List Value} {zs : List Int} (h : WCs w cs zs) : ∀ u ∈ cs, ∀ x, u ≠ .int .u32 x := h.2.1
theorem WCs.below {w w' : World} {cs : List Value} {zs : List Int} (h : WCs w cs zs) (hb : Below w.heap.size w w') : WCs w' cs zs := by
 refine ⟨h.1, h.2.1, fun j hj => ?_⟩; obtain ⟨a, n, c, h1, h2, h3⟩ := h.2.2 j hj; exact ⟨a, n, c, h1, h2, h3.below hb⟩
theorem WCs.far {w : World} {cs : List Value} {zs : List Int} {g : Nat} (h : WCs w cs zs) (hg : qAg w g) (o : Nat) (u : Value) : WCs (w.setCell ⟨g, o, none⟩ u) cs zs := by
 refine ⟨h.1, h.2.1, fun j hj => ?_⟩; obtain ⟨a, n, c, h1, h2, h3⟩ := h.2.2 j hj; exact ⟨a, n, c, h1, h2, h3.far hg o u⟩
def qAF (w : World) (g : Nat) (zs : List Int) : Prop := ∃ cs, qAE w g 58 cs /\ WCs w cs zs
section
variable {w w' : World} {g : Nat} {zs : List Int}
theorem qAF.lt (h : qAF w g zs) : g < w.heap.size := by obtain ⟨cs, h1, _⟩ := h; exact h1.lt
theorem qAF.noInt (h : qAF w g zs) : qAg w g := by obtain ⟨cs, h1, h2⟩ := h; exact h1.noInt h2.noInt
theorem qAF.frozen (h : qAF w g zs) (o : Nat) : w.frozen? ⟨g, o, none⟩ = false := by obtain ⟨cs, h1, h2⟩ := h; exact h1.frozen o
theorem qAF.at_ (h : qAF w g zs) (j : Nat) (hj : j < zs.length) : ∃ a n c, w.cell? ⟨g, j * 2, none⟩ = some (.bool (decide (zs[j] < 0))) /\ w.cell? ⟨g, j * 2 + 1, none⟩ = some (.slice a n c) /\ qAz w (.agg #[.bool (decide (zs[j] < 0)), .slice a n c]) zs[j] := by
 obtain ⟨cs, h1, h2⟩ := h; obtain ⟨a, n, c, e1, e2, e3⟩ := h2.2.2 j hj; exact ⟨a, n, c, (h1.cell _).trans e1, (h1.cell _).trans e2, e3⟩
theorem qAF.below (h : qAF w g zs) (hb : Below w.heap.size w w') : qAF w' g zs := by
 obtain ⟨cs, h1, h2⟩ := h; exact ⟨cs, h1.below hb h1.lt, h2.below hb⟩
theorem qAF.far {g' : Nat} (h : qAF w g zs) (hne : g ≠ g') (hg : qAg w g') (o : Nat) (u : Value) : qAF (w.setCell ⟨g', o, none⟩ u) g zs := by
 obtain ⟨cs, h1, h2⟩ := h; exact ⟨cs, h1.far hne u, h2.far hg o u⟩
theorem qAF.put (h : qAF w g zs) (j : Nat) (hj : j < zs.length) {z : Int} {a : Option Addr} {n c : Nat} (hz : qAz w (.agg #[.bool (decide (z < 0)), .slice a n c]) z) :
 qAF ((w.setCell ⟨g, j * 2, none⟩ (.bool (decide (z < 0)))).setCell ⟨g, j * 2 + 1, none⟩ (.slice a n c)) g (zs.set j z) := by
 have hn := h.noInt; obtain ⟨cs, h1, h2⟩ := h; have h3 := h1.set (j * 2) (.bool (decide (z < 0))); have hn2 : qAg (w.setCell ⟨g, j * 2, none⟩ (.bool (decide (z < 0)))) g := h3.noInt (fun u hu x => by
  rcases List.mem_or_eq_of_mem_set hu with h | h
  ·exact h2.noInt u h x
  ·rw [h]; intro e; cases e)
 have h4 := (h2.far hn (j * 2) (.bool (decide (z < 0)))).far hn2 (j * 2 + 1) (.slice a n c); refine ⟨_, h3.set (j * 2 + 1) (.slice a n c), by simpa using h2.1, ?_, fun q hq => ?_⟩
 ·intro u hu x
  rcases List.mem_or_eq_of_mem_set hu with h | h
  ·rcases List.mem_or_eq_of_mem_set h with h | h
   ·exact h2.noInt u h x
   ·rw [h]; intro e; cases e
  ·rw [h]; intro e; cases e
 rw [List.length_set] at hq; by_cases e : q = j
 ·subst e
  have hl := h2.1; refine ⟨a, n, c, ?_, ?_, ?_⟩
  ·rw [List.getElem?_set_ne (by omega), List.getElem?_set_self (by omega), List.getElem_set_self]
  ·rw [List.getElem?_set_self (by simp; omega)]
  ·rw [List.getElem_set_self]
   exact (hz.far hn _ _).far hn2 _ _
 ·obtain ⟨a', n', c', e1, e2, e3⟩ := h4.2.2 q hq
  refine ⟨a', n', c', ?_, ?_, ?_⟩
  ·rw [List.getElem?_set_ne (by omega), List.getElem?_set_ne (by omega), List.getElem_set_ne (Ne.symm e)]; exact e1
  ·rw [List.getElem?_set_ne (by omega), List.getElem?_set_ne (by omega)]; exact e2
  ·rw [List.getElem_set_ne (Ne.symm e)]; exact e3
end
open Go.RowKit
def qAA (w : World) (v : Value) (m : List (List Int)) : Prop := qAh 1 (fun W r cs => ∃ u, cs = [u] /\ qAo W u r) w v m
theorem qAA.below {w w' : World} {v : Value} {m : List (List Int)} (h : qAA w v m) (hb : Below w.heap.size w w') : qAA w' v m :=
 qAh.below h hb (fun _ _ ⟨u, e, hu⟩ => ⟨u, e, hu.below hb⟩)
theorem qAA.form {w : World} {v : Value} {m : List (List Int)} (h : qAA w v m) : ∃ a cap, v = .slice a m.length cap /\ m.length <= cap /\ cap <= 9223372036854775807 := qAh.form h
theorem qAA.at_ {w : World} {v : Value} {m : List (List Int)} (h : qAA w v m) (j : Nat) (hj : j < m.length) :
 ∃ b cap a c, v = .slice (some ⟨b, 0, none⟩) m.length cap /\ b < w.heap.size /\ w.cell? ⟨b, j, none⟩ = some (.slice a m[j].length c) /\ qAo w (.slice a m[j].length c) m[j] /\ m[j].length <= c /\ c <= 9223372036854775807 := by
 obtain ⟨b, cap, cs, hv, hb, ⟨u, rfl, hu⟩, hcell⟩ := qAh.at_ h j hj; obtain ⟨a, c, rfl, h1, h2⟩ := hu.form; have h0 := hcell.2 0 (by omega); exact ⟨b, cap, a, c, hv, hb, by simpa using h0, hu, h1, h2⟩
def qAt (m : List (List Int)) : Int :=
 if 64 < m.length then 4 else if m.any (fun r => decide (128 < r.length)) then 4
 else if m.any (fun r => decide (r.length ≠ (m[0]?.getD []).length)) then 1
 else if m.any (fun r => r.any (fun x => decide (x < -1099511627776 \/ 1099511627776 < x))) then 5 else 0
theorem qEB {m : List (List Int)} (h : 64 < m.length) : qAt m = 4 := by simp [qAt, h]
theorem qEC {m : List (List Int)} (h : m.length <= 64) {r : List Int} (hr : r ∈ m) (h2 : 128 < r.length) : qAt m = 4 := by
 rw [qAt, if_neg (by omega), if_pos (List.any_eq_true.2 ⟨r, hr, by simpa using h2⟩)]
theorem qEZ {m : List (List Int)} (h : m.length <= 64) (h2 : ∀ r ∈ m, r.length <= 128) (h0 : 0 < m.length) {r : List Int} (hr : r ∈ m) (h3 : r.length ≠ m[0].length) : qAt m = 1 := by
 rw [qAt, if_neg (by omega), if_neg (by rw [List.any_eq_true]; rintro ⟨x, hx, e⟩; have := h2 x hx; simp at e; omega), if_pos (List.any_eq_true.2 ⟨r, hr, by simpa [List.getElem?_eq_getElem h0] using h3⟩)]
theorem qE0 {m : List (List Int)} (h : m.length <= 64) (h2 : ∀ r ∈ m, r.length <= 128) (h0 : 0 < m.length) (h3 : ∀ r ∈ m, r.length = m[0].length) {r : List Int} (hr : r ∈ m) {x : Int} (hx : x ∈ r) (h4 : x < -1099511627776 \/ 1099511627776 < x) : qAt m = 5 := by
 rw [qAt, if_neg (by omega), if_neg (by rw [List.any_eq_true]; rintro ⟨x, hx, e⟩; have := h2 x hx; simp at e; omega), if_neg (by rw [List.any_eq_true]; rintro ⟨x, hx, e⟩; have := h3 x hx; simp [List.getElem?_eq_getElem h0] at e; omega),
  if_pos (List.any_eq_true.2 ⟨r, hr, List.any_eq_true.2 ⟨x, hx, by simpa using h4⟩⟩)]
structure qBK (m : List (List Int)) : Prop where
 rows : m.length <= 64
 cols : ∀ r ∈ m, r.length <= 128
 even : ∀ r ∈ m, r.length = (m[0]?.getD []).length
 small : ∀ r ∈ m, ∀ x ∈ r, -1099511627776 <= x /\ x <= 1099511627776
theorem qBt {m : List (List Int)} : qAt m = 0 ↔ qBK m := by
 unfold qAt; constructor
 ·intro h
  split at h
  ·simp at h
  ·rename_i h1
   split at h
   ·simp at h
   ·rename_i h2
    split at h
    ·simp at h
    ·rename_i h3
     split at h
     ·simp at h
     ·rename_i h4
      simp only [List.any_eq_true, decide_eq_true_eq, not_exists, not_and] at h2 h3 h4; refine ⟨by omega, fun r hr => by have := h2 r hr; omega, fun r hr => by have := h3 r hr; omega, fun r hr x hx => by have := h4 r hr x hx; omega⟩
 ·intro h
  rw [if_neg (by have := h.rows; omega), if_neg, if_neg, if_neg]
  ·rw [List.any_eq_true]; rintro ⟨r, hr, e⟩
   rw [List.any_eq_true] at e; obtain ⟨x, hx, e⟩ := e; have := h.small r hr x hx; simp at e; omega
  ·rw [List.any_eq_true]; rintro ⟨r, hr, e⟩
   have := h.even r hr; simp at e; exact e this
  ·rw [List.any_eq_true]; rintro ⟨r, hr, e⟩
   have := h.cols r hr; simp at e; omega
end Go.Proofs.Ytlmbebbdamgfpaa
