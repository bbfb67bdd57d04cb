/- Lists of rows of the reference's integers in memory. -/
import Derived.Test.YtlmbebbdamgfpaaQJR5Minus
import Derived.Test.YtlmbebbdamgfpaaQJR5Small
import Derived.Test.YtlmbebbdamgfpaaQJLNormP
set_option linter.unusedVariables false
set_option linter.unusedSimpArgs false
set_option maxHeartbeats 8000000
set_option maxRecDepth 100000
namespace Go.Proofs.Ytlmbebbdamgfpaa
open Go.RowKit
def qFp (Q : Value -> Prop) (w : World) (g : Nat) : Prop := ∀ (o : Nat) (u : Value), w.cell? ⟨g, o, none⟩ = some u -> Q u
def qIr (u : Value) : Prop := (∃ b, u = .bool b) \/ ∃ a n c, u = .slice a n c
def isS (u : Value) : Prop := ∃ a n c, u = .slice a n c
def qA1 (w : World) (g : Nat) : Prop := ∀ (o : Nat) (x : Int), w.cell? ⟨g, o, none⟩ ≠ some (.int .i64 x)
theorem qFp.bs {w : World} {g : Nat} (h : qFp qIr w g) : qA1 w g := by
 intro o x he; rcases h o _ he with ⟨b, e⟩ | ⟨a, n, c, e⟩ <;> cases e
theorem qFp.s {w : World} {g : Nat} (h : qFp isS w g) : qA1 w g := by
 intro o x he; obtain ⟨a, n, c, e⟩ := h o _ he; cases e
theorem qFp.below {Q : Value -> Prop} {w w' : World} {g B : Nat} (h : qFp Q w g) (hb : Below B w w') (hg : g < B) : qFp Q w' g := fun o u he => h o u ((World.cell?_of_block (a := ⟨g, o, none⟩) (hb.block g hg)).symm.trans he)
theorem qFp.only {Q : Value -> Prop} {S : Nat -> Prop} {w w' : World} {g : Nat} (h : qFp Q w g) (ho : qAb S w w') (hg : g < w.heap.size) (hS : ¬ S g) : qFp Q w' g := fun o u he => h o u ((World.cell?_of_block (a := ⟨g, o, none⟩) (ho.block g hg hS)).symm.trans he)
theorem qCF {Q : Value -> Prop} {w : World} {g : Nat} {cs : Array Value} {t : TypeId} {fz : Nat × Nat} (h : w.heap[g]? = some (.cells cs t fz)) (hc : ∀ u ∈ cs, Q u) : qFp Q w g := by
 intro o x he; unfold World.cell? at he; simp only [h] at he; simp only [Option.isSome_none, Bool.false_eq_true, if_false] at he; exact hc _ (Array.mem_of_getElem? he)
theorem qHP {Q : Value -> Prop} {w : World} {g : Nat} {cs : Array Value} {t : TypeId} {fz : Nat × Nat} (h : w.heap[g]? = some (.cells cs t fz)) (hn : qFp Q w g) : ∀ u ∈ cs, Q u := by
 intro u hu; obtain ⟨i, hi, rfl⟩ := Array.mem_iff_getElem.1 hu; refine hn i _ ?_; unfold World.cell?; simp only [h]; simp [hi]
theorem qEI {Q : Value -> Prop} {w w' : World} {g : Nat} (h : qFp Q w g) (he : w'.heap[g]? = w.heap[g]?) : qFp Q w' g := fun o u hc => h o u ((World.cell?_of_block (a := ⟨g, o, none⟩) he).symm.trans hc)
section
variable {S : Nat -> Prop} {w w' : World}
theorem qAd.onlyD {v : Value} {L : List Nat} (h : qAd .i64 w v L) (ho : qAb S w w') (hS : ∀ b, S b -> qA1 w b) : qAd .i64 w' v L := by
 obtain ⟨a, cap, hv, h1, h2, hc⟩ := h; refine ⟨a, cap, hv, h1, h2, fun h0 => ?_⟩; obtain ⟨b, off, ha, hlt, hcc⟩ := hc h0; have hn : ¬ S b := fun hs => hS b hs _ _ (hcc 0 h0); exact ⟨b, off, ha, Nat.lt_of_lt_of_le hlt ho.size, fun j hj => (ho.cell (p := ⟨b, off + j, none⟩) hn hlt).trans (hcc j hj)⟩
theorem qAH.only {v : Value} {z : Int} (h : qAH w v z) (ho : qAb S w w') (hS : ∀ b, S b -> qA1 w b) : qAH w' v z := by
 obtain ⟨vw, hv, hm⟩ := h; exact ⟨vw, hv, qAd.onlyD hm ho hS⟩
theorem qAH.blw {v : Value} {z : Int} (h : qAH w v z) (hb : Below w.heap.size w w') : qAH w' v z := h.below (Nat.le_refl _) hb
instance {v : Value} {z : Int} : Mv w w' (qAH w v z) (qAH w' v z) := ⟨fun hb h => qAH.blw h hb⟩
theorem qCb (w : World) : qAH w (.agg #[.bool false, .slice none 0 0]) 0 := ⟨_, rfl, none, 0, by rw [Int.natAbs_zero]; rfl, Nat.zero_le _, by omega, fun h => by rw [Int.natAbs_zero, (qBB T4 0 qAo).2 rfl] at h; simp at h⟩
def qMU (w : World) (b o : Nat) (z : Int) : Prop := ∃ s a n c, w.cell? ⟨b, o, none⟩ = some (.bool s) /\ w.cell? ⟨b, o + 1, none⟩ = some (.slice a n c) /\ qAH w (.agg #[.bool s, .slice a n c]) z
abbrev Nw := Nat × Nat × Nat
def nrV (n : Nat) (x : Nw) : Value := .slice (some ⟨x.1, x.2.1, none⟩) n x.2.2
structure NRo (w : World) (x : Nw) (zs : List Int) : Prop where
 lt : x.1 < w.heap.size
 bs : qFp qIr w x.1
 fz : ∀ o, w.frozen? ⟨x.1, o, none⟩ = false
 cel : ∀ j (h : j < zs.length), qMU w x.1 (x.2.1 + j * 2) zs[j]
theorem qFT {g : Nat} (h : w'.heap[g]? = w.heap[g]?) (o : Nat) : w'.frozen? ⟨g, o, none⟩ = w.frozen? ⟨g, o, none⟩ := by
 unfold World.frozen?; simp only [h]
theorem NRo.only {x : Nw} {zs : List Int} (h : NRo w x zs) (ho : qAb S w w') (hS : ∀ b, S b -> qA1 w b) (hn : ¬ S x.1) : NRo w' x zs := by
 have hb := ho.block _ h.lt hn; refine ⟨Nat.lt_of_lt_of_le h.lt ho.size, qEI h.bs hb, fun o => (qFT hb o).trans (h.fz o), fun j hj => ?_⟩; obtain ⟨s, a, n, c, h1, h2, h3⟩ := h.cel j hj; exact ⟨s, a, n, c, (World.cell?_of_block (w := w) hb).trans h1, (World.cell?_of_block (w := w) hb).trans h2, h3.only ho hS⟩
theorem NRo.blw {x : Nw} {zs : List Int} (h : NRo w x zs) (hb : Below w.heap.size w w') : NRo w' x zs := h.only (S := fun _ => False) (qAb.of_below hb) (fun _ h => h.elim) (fun h => h)
instance {x : Nw} {zs : List Int} : Mv w w' (NRo w x zs) (NRo w' x zs) := ⟨fun hb h => NRo.blw h hb⟩
theorem NRo.get {x : Nw} {zs : List Int} (h : NRo w x zs) (j : Nat) (hj : j < zs.length) : ∃ s a n c, w.cell? ⟨x.1, x.2.1 + j * 2, none⟩ = some (.bool s) /\ w.cell? ⟨x.1, x.2.1 + j * 2 + 1, none⟩ = some (.slice a n c) /\ qAH w (.agg #[.bool s, .slice a n c]) zs[j] := h.cel j hj
def NLs (w : World) (xs : List Value) (zs : List Int) : Prop := xs.length = zs.length * 2 /\ ∀ j (h : j < zs.length), ∃ s a n c, xs[j * 2]? = some (.bool s) /\ xs[j * 2 + 1]? = some (.slice a n c) /\ qAH w (.agg #[.bool s, .slice a n c]) zs[j]
theorem NLs.nil : NLs w [] [] := ⟨rfl, fun j h => by simp at h⟩
theorem NLs.only {xs : List Value} {zs : List Int} (h : NLs w xs zs) (ho : qAb S w w') (hS : ∀ b, S b -> qA1 w b) : NLs w' xs zs := by
 refine ⟨h.1, fun j hj => ?_⟩; obtain ⟨s, a, n, c, h1, h2, h3⟩ := h.2 j hj; exact ⟨s, a, n, c, h1, h2, h3.only ho hS⟩
theorem NLs.blw {xs : List Value} {zs : List Int} (h : NLs w xs zs) (hb : Below w.heap.size w w') : NLs w' xs zs := h.only (S := fun _ => False) (qAb.of_below hb) (fun _ h => h.elim)
instance {xs : List Value} {zs : List Int} : Mv w w' (NLs w xs zs) (NLs w' xs zs) := ⟨fun hb h => NLs.blw h hb⟩
theorem NLs.snoc {xs : List Value} {zs : List Int} {s : Bool} {a : Option Addr} {n c : Nat} {z : Int} (h : NLs w xs zs) (hz : qAH w (.agg #[.bool s, .slice a n c]) z) : NLs w (xs ++ [.bool s, .slice a n c]) (zs ++ [z]) := by
 have hl := h.1; refine ⟨by simp [hl]; omega, fun j hj => ?_⟩; rw [List.length_append, List.length_singleton] at hj; by_cases e : j < zs.length
 ·obtain ⟨s', a', n', c', h1, h2, h3⟩ := h.2 j e
  refine ⟨s', a', n', c', ?_, ?_, ?_⟩
  ·rw [List.getElem?_append_left (by omega)]; exact h1
  ·rw [List.getElem?_append_left (by omega)]; exact h2
  ·rw [List.getElem_append_left e]; exact h3
 ·obtain rfl : j = zs.length := by omega
  refine ⟨s, a, n, c, ?_, ?_, ?_⟩
  ·rw [List.getElem?_append_right (by omega), hl, Nat.sub_self]; rfl
  ·rw [List.getElem?_append_right (by omega), hl, Nat.add_sub_cancel_left]; rfl
  ·rw [List.getElem_append_right (by omega)]; simpa using hz
end
def qBU (Q : Value -> Prop) (w : World) (base : Nat) (e : TypeId) (size : Nat) (v : Value) (n : Nat) (xs : List Value) : Prop := w.ownsRow base e size v n xs /\ ∀ g, v.ownBlock = some g -> qFp Q w g
section
variable {Q : Value -> Prop}
theorem qBU.nil (w : World) (base : Nat) (e : TypeId) (size : Nat) : qBU Q w base e size (.slice none 0 0) 0 [] := ⟨World.ownsRow_nil w base e size, fun g h => by simp [Value.ownBlock] at h⟩
theorem qBU.lt {w : World} {base : Nat} {e : TypeId} {size : Nat} {v : Value} {n : Nat} {xs : List Value} (h : qBU Q w base e size v n xs) : ∀ k, v.ownBlock = some k -> base <= k /\ k < w.heap.size := h.1.lt
theorem qBU.only {w w' : World} {S : Nat -> Prop} {base : Nat} {e : TypeId} {size : Nat} {v : Value} {n : Nat} {xs : List Value} (h : qBU Q w base e size v n xs) (ho : qAb S w w') (hS : ∀ g, v.ownBlock = some g -> ¬ S g) : qBU Q w' base e size v n xs := by
 have hk : ∀ g, v.ownBlock = some g -> w'.heap[g]? = w.heap[g]? := fun g hg => ho.block g (h.1.lt g hg).2 (hS g hg); refine ⟨⟨h.1.1, ?_⟩, fun g hg => qEI (h.2 g hg) (hk g hg)⟩; rcases h.1.2 with h1 | ⟨g, cap, cur, hv, hb, hh, rest⟩
 ·exact .inl h1
 ·exact .inr ⟨g, cap, cur, hv, hb, (hk g (by rw [hv]; rfl)).trans hh, rest⟩
theorem qBU.blw {w w' : World} {base : Nat} {e : TypeId} {size : Nat} {v : Value} {n : Nat} {xs : List Value} (h : qBU Q w base e size v n xs) (hb : Below w.heap.size w w') : qBU Q w' base e size v n xs := h.only (S := fun _ => False) (qAb.of_below hb) (fun _ _ h => h)
instance {w w' : World} {base : Nat} {e : TypeId} {size : Nat} {v : Value} {n : Nat} {xs : List Value} : Mv w w' (qBU Q w base e size v n xs) (qBU Q w' base e size v n xs) := ⟨fun hb h => qBU.blw h hb⟩
theorem qBU.form {w : World} {base : Nat} {e : TypeId} {size : Nat} {v : Value} {n : Nat} {xs : List Value} (h : qBU Q w base e size v n xs) : ∃ a c, v = .slice a n c /\ n <= c /\ c <= 9223372036854775807 := by
 rcases h.1.2 with ⟨hv, e⟩ | ⟨g, cap, cur, hv, hb, hh, hn, hm, rest⟩
 ·exact ⟨none, 0, by rw [hv, e], by omega, by omega⟩
 ·exact ⟨_, cap, hv, hn, by unfold maxLen at hm; omega⟩
theorem qBU.some_ {w : World} {base : Nat} {e : TypeId} {size : Nat} {v : Value} {n : Nat} {xs : List Value} (h : qBU Q w base e size v n xs) (hn : 0 < n) : ∃ g c, v = .slice (some ⟨g, 0, none⟩) n c /\ n <= c /\ c <= 9223372036854775807 /\ base <= g /\ g < w.heap.size := by
 rcases h.1.2 with ⟨hv, e⟩ | ⟨g, cap, cur, hv, hb, hh, hn, hm, rest⟩
 ·omega
 ·exact ⟨g, cap, hv, hn, by unfold maxLen at hm; omega, hb, (Array.getElem?_eq_some_iff.1 hh).1⟩
theorem qFE {o : Oper} {a : Act} {w : World} {K : Act -> World -> Prop} {Q' : Exit -> Act -> World -> Prop} (s x : Operand) (t : TypeId)
 (ho : o.op = .call { callee := .builtin .append, args := #[s, x], argTypes := #[t, t] })
 (base : Nat) (e : TypeId) (i : TypeInfo) (z : Value) (size bytes : Nat) (ht : Try.prog.underlying t = some (.slice e)) (hi : Try.prog.info? e = some i) (hz : i.zero = some z)
 (hsize : i.size = size) (hby : i.bytes = bytes) (hzs : z.cells.size = size) (hsz : 0 < size) (hzn : ∀ u ∈ z.cells, Q u)
 (v : Value) (n : Nat) (xs : List Value) (hs : a.eval s = v) (hown : qBU Q w base e size v n xs)
 (ad : Addr) (m c : Nat) (news : List Value) (hx : a.eval x = .slice (some ad) m c) (hl : news.length = m * size) (hnews : ∀ j u, news[j]? = some u -> w.cell? (ad.add j) = some u) (h1 : ∀ u ∈ news, u.oneCell' = true) (hnn : ∀ u ∈ news, Q u) (hm : 0 < m)
 (h63 : n + m <= maxLen) (hbytes : (n + m) * bytes <= 140737488355328) (hbase : base <= w.heap.size)
 (h : ∀ v' w', qBU Q w' base e size v' (n + m) (xs ++ news) -> qAb (fun b => v.ownBlock = some b) w w' -> K (a.put o.dst v') w') : Oper.wp Try.prog o a w K Q' := by
 obtain ⟨v', w', hr, h2, h3, -⟩ := run_append_own (P := Try.prog) w base t o.type e i z size bytes ht hi hz hsize hby hzs hsz v n xs hown.1 ad m c news hl hnews h1 h63 hbytes hbase; have hon : qAb (fun b => v.ownBlock = some b) w w' := ⟨h3.os, h3.tape, h3.output, h3.size, fun k hk hn => h3.block k hk (fun e => hn e.symm)⟩; have hxs : ∀ u ∈ xs, Q u := by
  intro u hu; rcases hown.1.2 with ⟨rfl, rfl⟩ | ⟨g, cap, cur, hv, hb, hh, hn, hm, hs2, ht2⟩
  ·have : xs = [] := List.eq_nil_of_length_eq_zero (by simpa using hown.1.1)
   rw [this] at hu; cases hu
  ·refine qHP hh (hown.2 g (by rw [hv]; rfl)) u ?_
   rw [<- ht2] at hu; exact Array.mem_toList_iff.1 (List.mem_of_mem_take hu)
 have hzc : ∀ k, ∀ u ∈ Builtin.zeroCells z.cells k, Q u := fun k u hu => hzn u (qCj hu (by omega)); have hbig : ∀ k, ∀ u ∈ xs.toArray ++ news.toArray ++ Builtin.zeroCells z.cells k, Q u := fun k u hu => by
  simp only [Array.mem_append, List.mem_toArray] at hu; rcases hu with (hu | hu) | hu
  ·exact hxs u hu
  ·exact hnn u hu
  ·exact hzc k u hu
 have hN : ∀ g, v'.ownBlock = some g -> qFp Q w' g := by
  subst hsize hby; rcases hown.1.2 with ⟨rfl, rfl⟩ | ⟨g, cap, cur, rfl, hbg, hg, hnc, hcm, hcs, htake⟩
  ·have hx0 : xs = [] := List.eq_nil_of_length_eq_zero (by simpa using hown.1.1)
   subst hx0; have hr2 := run_append_nil (P := Try.prog) w t o.type e i z ht hi hz ad m c news hl hnews hm (by unfold maxLen at h63; omega) (by simp only [Nat.zero_add] at hbytes; omega); rw [hr2] at hr; injection hr with e1 e2; subst e1 e2; intro g hg; simp only [Value.ownBlock, Option.some.injEq] at hg; subst hg; refine qCF (heap_alloc_new w.drew _) ?_; have := hbig (grownCap w m 0 e - m); simpa using this
  ·by_cases hroom : n + m <= cap
   ·have hfit : n * i.size + news.length <= cur.size := by rw [hl, hcs, <- Nat.add_mul]; exact Nat.mul_le_mul_right _ hroom
    have hr2 := run_append_room (P := Try.prog) w t o.type e i ht hi g n cap cur hg ad m c news hl hnews h1 hroom hfit; rw [hr2] at hr; injection hr with e1 e2; subst e1 e2; intro g' hg'; simp only [Value.ownBlock, Option.some.injEq] at hg'; subst hg'; refine qCF (setRow_heap w g cur _ e _ hg) ?_; intro u hu; have hcu := qHP hg (hown.2 g rfl); simp only [List.mem_toArray, List.mem_append] at hu; rcases hu with (hu | hu) | hu
    ·exact hcu u (Array.mem_toList_iff.1 (List.mem_of_mem_take hu))
    ·exact hnn u hu
    ·exact hcu u (Array.mem_toList_iff.1 (List.mem_of_mem_drop hu))
   ·have holds : ∀ j u, xs[j]? = some u -> w.cell? ((⟨g, 0, none⟩ : Addr).add j) = some u := hown.1.cells (g := g) rfl
    have hr2 := run_append_grow (P := Try.prog) w t o.type e i z ht hi hz ⟨g, 0, none⟩ n cap xs hown.1.1 holds ad m c news hl hnews (by omega) (by unfold maxLen at h63; omega) (growslice_fits (by omega) hbytes); rw [hr2] at hr; injection hr with e1 e2; subst e1 e2; intro g' hg'; simp only [Value.ownBlock, Option.some.injEq] at hg'; subst hg'; exact qCF (heap_alloc_new w.drew _) (hbig _)
 unfold Oper.wp execOp; simp only [ho, resolve, invoke, builtin, Sem.run_bind, Sem.run_pure, Result.andThen_ok, List.map_toArray, List.map_cons, List.map_nil, hs, hx, hr]; exact h v' w' ⟨h2, hN⟩ hon
theorem qCM {ops : Array Oper} {rest : List Oper} {o : Oper} {a : Act} {w : World} {Q' : Exit -> Act -> World -> Prop} (hgd : o.guard = none) (s x : Operand) (t : TypeId)
 (ho : o.op = .call { callee := .builtin .append, args := #[s, x], argTypes := #[t, t] })
 (base : Nat) (e : TypeId) (i : TypeInfo) (z : Value) (size bytes : Nat) (ht : Try.prog.underlying t = some (.slice e)) (hi : Try.prog.info? e = some i) (hz : i.zero = some z)
 (hsize : i.size = size) (hby : i.bytes = bytes) (hzs : z.cells.size = size) (hsz : 0 < size) (hzn : ∀ u ∈ z.cells, Q u)
 (v : Value) (n : Nat) (xs : List Value) (hs : a.eval s = v) (hown : qBU Q w base e size v n xs)
 (ad : Addr) (m c : Nat) (news : List Value) (hx : a.eval x = .slice (some ad) m c) (hl : news.length = m * size) (hnews : ∀ j u, news[j]? = some u -> w.cell? (ad.add j) = some u) (h1 : ∀ u ∈ news, u.oneCell' = true) (hnn : ∀ u ∈ news, Q u) (hm : 0 < m)
 (h63 : n + m <= maxLen) (hbytes : (n + m) * bytes <= 140737488355328) (hbase : base <= w.heap.size)
 (h : ∀ v' w', qBU Q w' base e size v' (n + m) (xs ++ news) -> qAb (fun b => v.ownBlock = some b) w w' -> wpList Try.prog ops Q' rest (a.put o.dst v') w') : wpList Try.prog ops Q' (o :: rest) a w := 
 wpList_plain hgd fun K hK => qFE s x t ho base e i z size bytes ht hi hz hsize hby hzs hsz hzn v n xs hs hown ad m c news hx hl hnews h1 hnn hm h63 hbytes hbase (fun v' w' g1 g2 => hK _ _ (h v' w' g1 g2))
theorem qIB {ops : Array Oper} {o : Oper} {a : Act} {w : World} {K : Act -> World -> Prop} {Q' : Exit -> Act -> World -> Prop} {E : Prop} (hgd : o.guard = none) (d : Nat) (hd : o.dst = some d) (s x : Operand) (t : TypeId)
 (ho : o.op = .call { callee := .builtin .append, args := #[s, x], argTypes := #[t, t] })
 (base : Nat) (e : TypeId) (i : TypeInfo) (z : Value) (size bytes : Nat) (ht : Try.prog.underlying t = some (.slice e)) (hi : Try.prog.info? e = some i) (hz : i.zero = some z)
 (hsize : i.size = size) (hby : i.bytes = bytes) (hzs : z.cells.size = size) (hsz : 0 < size) (hzn : ∀ u ∈ z.cells, Q u)
 (v : Value) (n : Nat) (xs : List Value) (hs : a.eval s = v) (hown : qBU Q w base e size v n xs)
 (ad : Addr) (m c : Nat) (news : List Value) (hx : a.eval x = .slice (some ad) m c) (hl : news.length = m * size) (hnews : ∀ j u, news[j]? = some u -> w.cell? (ad.add j) = some u) (h1 : ∀ u ∈ news, u.oneCell' = true) (hnn : ∀ u ∈ news, Q u) (hm : 0 < m)
 (h63 : n + m <= maxLen) (hbytes : (n + m) * bytes <= 140737488355328) (hbase : base <= w.heap.size)
 (h : ∀ v' w', qBU Q w' base e size v' (n + m) (xs ++ news) -> qAb (fun b => v.ownBlock = some b) w w' -> K ⟨a.tmps.setIfInBounds d v', a.defers⟩ w') : if Region.wanted o (yielded ops a.tmps) = true then Oper.wp Try.prog o a w K Q' else E := by
 rw [if_pos (by simp [Region.wanted, hgd])]; exact qFE s x t ho base e i z size bytes ht hi hz hsize hby hzs hsz hzn v n xs hs hown ad m c news hx hl hnews h1 hnn hm h63 hbytes hbase (fun v' w' g1 g2 => by rw [hd]; exact h v' w' g1 g2)
theorem qBv {w : World} {g j o : Nat} {u u0 : Value} (h : w.cell? ⟨g, j, none⟩ = some u0) : (w.setCell ⟨g, j, none⟩ u).cell? ⟨g, o, none⟩ = if o = j then some u else w.cell? ⟨g, o, none⟩ := by
 by_cases e : o = j
 ·subst e
  rw [if_pos rfl]; exact World.cell?_setCell_same _ _ _ h
 ·rw [if_neg e]
  exact World.cell?_setCell_other _ _ _ _ (fun h => e (by injection h with _ h2; exact h2.symm))
theorem qBU.stored {w : World} {base : Nat} {e : TypeId} {size n cap g : Nat} {xs : List Value} (h : qBU Q w base e size (.slice (some ⟨g, 0, none⟩) n cap) n xs) (j : Nat) (hj : j < xs.length) {u : Value} (hu : Q u) : qBU Q (w.setCell ⟨g, j, none⟩ u) base e size (.slice (some ⟨g, 0, none⟩) n cap) n (xs.set j u) := by
 refine ⟨(h.1.stored j u).1, fun g' hg' o v hc => ?_⟩; simp only [Value.ownBlock, Option.some.injEq] at hg'; subst hg'; have hl := h.1.1; have hcell : w.cell? ⟨g, j, none⟩ = some xs[j] := by rw [h.1.cellAt j (by omega), List.getElem?_eq_getElem hj]
 rw [qBv hcell] at hc
 split at hc
 ·injection hc with hc; rw [<- hc]; exact hu
 ·exact h.2 g rfl o v hc
end
theorem qBU.nro {w : World} {base : Nat} {g n cap : Nat} {xs : List Value} {zs : List Int} {e : TypeId} (h : qBU qIr w base e 2 (.slice (some ⟨g, 0, none⟩) n cap) n xs) (hz : NLs w xs zs) : NRo w (g, 0, cap) zs := by
 have hl := h.1.1; refine ⟨(h.lt g rfl).2, h.2 g rfl, fun o => h.1.frozenAt o, fun j hj => ?_⟩; obtain ⟨s, a, k, c, h1, h2, h3⟩ := hz.2 j hj; have hl2 := hz.1; refine ⟨s, a, k, c, ?_, ?_, h3⟩
 ·show w.cell? ⟨g, 0 + j * 2, none⟩ = _
  rw [Nat.zero_add, h.1.cellAt _ (by omega)]; exact h1
 ·show w.cell? ⟨g, 0 + j * 2 + 1, none⟩ = _
  rw [Nat.zero_add, h.1.cellAt _ (by omega)]; exact h2
open Go.RowKit
theorem qKN (k : Nat) (n : Nat) (h : n < 2 ^ k) : (qAe T4 n).length <= k / 13 + 1 := by
 refine qAO T4 qAo _ _ (Nat.lt_of_lt_of_le h ?_); have h1 : 2 ^ k <= 2 ^ (13 * (k / 13 + 1)) := Nat.pow_le_pow_right (by omega) (by omega); refine Nat.le_trans h1 ?_; rw [Nat.pow_mul]; exact Nat.pow_le_pow_left (by decide) _
theorem Sz.dig {k : Nat} {z : Int} (h : Sz k z) (hk : k <= 6000000) : (qAe T4 z.natAbs).length <= 500000 := by
 have h1 := qKN k z.natAbs (by unfold Sz at h; exact h); have : k / 13 <= 6000000 / 13 := Nat.div_le_div_right hk; omega
def qLN (z : Int) (w0 : World) (e : Ending) (w' : World) : Prop := ∃ s a n c, e = .returned (.agg #[.bool s, .slice a n c]) /\ qAH w' (.agg #[.bool s, .slice a n c]) z /\ Below w0.heap.size w0 w'
theorem qMr {z : Int} {w0 w' : World} {e : Ending} (h : (∃ vr, e = .returned vr /\ qAH w' vr z) /\ Below w0.heap.size w0 w') : qLN z w0 e w' := by
 obtain ⟨⟨vr, he, hr⟩, hb⟩ := h; obtain ⟨a, n, c, rfl, -⟩ := hr.form; exact ⟨_, a, n, c, he, hr, hb⟩
section
variable {w : World} {vx vy : Value} {x y : Int} {k l : Nat}
theorem qMO (hx : qAH w vx x) (hy : qAH w vy y) (sx : Sz k x) (sy : Sz l y) (hk : k <= 6000000) (hl : l <= 6000000) : Calls Try.prog 72 #[vx, vy] w (qLN (x * y) w) :=
 (qHf vx vy x y w hx hy (Nat.le_trans (sx.dig hk) (by omega)) (Nat.le_trans (sy.dig hl) (by omega))).mono (fun _ _ h => qMr h)
theorem qMN (hx : qAH w vx x) (hy : qAH w vy y) (sx : Sz k x) (sy : Sz l y) (hk : k <= 6000000) (hl : l <= 6000000) : Calls Try.prog 71 #[vx, vy] w (qLN (x - y) w) :=
 (qJK vx vy x y w hx hy (Nat.le_trans (sx.dig hk) (by omega)) (Nat.le_trans (sy.dig hl) (by omega))).mono (fun _ _ h => qMr h)
theorem qMJ (hx : qAH w vx x) (sx : Sz k x) (hk : k <= 6000000) : Calls Try.prog 56 #[vx] w (qLN (-x) w) :=
 (qHe vx x w hx (Nat.le_trans (sx.dig hk) (by omega))).mono (fun _ _ h => qMr h)
theorem nof (h1 : -9223372036854775808 <= x) (h2 : x <= 9223372036854775807) : Calls Try.prog 40 #[.int .i64 x] w (qLN x w) := (qDZ x w h1 h2).mono (fun _ _ h => qMr h)
theorem qMP (hx : qAH w vx x) (hy : qAH w vy y) (sx : Sz k x) (sy : Sz l y) (hk : k <= 6000000) (hl : l <= 6000000) : Calls Try.prog 60 #[vx, vy] w fun e w' => e = .returned (.int .i64 (qAK x y)) /\ Below w.heap.size w w' :=
 qBe vx vy x y w hx hy (Nat.le_trans (sx.dig hk) (by omega)) (Nat.le_trans (sy.dig hl) (by omega))
theorem qL2 (hx : qAH w vx x) (sx : Sz k x) (hk : k <= 6000000) : Calls Try.prog 55 #[vx] w fun e w' => e = .returned (qA7 x) /\ Below w.heap.size w w' :=
 qH5 vx x w hx (Nat.le_trans (sx.dig hk) (by omega))
def qMT (x y : Int) (w0 : World) (e : Ending) (w' : World) : Prop := ∃ s a n c s' a' n' c', e = .returned (.tuple #[.agg #[.bool s, .slice a n c], .agg #[.bool s', .slice a' n' c']]) /\ qAH w' (.agg #[.bool s, .slice a n c]) (x / y) /\ qAH w' (.agg #[.bool s', .slice a' n' c']) (x % y) /\ Below w0.heap.size w0 w'
theorem qMz (hx : qAH w vx x) (hy : qAH w vy y) (hy0 : y ≠ 0) (sx : Sz k x) (sy : Sz l y) (hk : k <= 6000000) (hl : l <= 6000000) : Calls Try.prog 47 #[vx, vy] w (qMT x y w) := by
 refine (qJM vx vy x y w hx hy hy0 (sx.dig hk) (sy.dig hl)).mono ?_; rintro e w' ⟨hb, vq, vr, rfl, hq, hr⟩; obtain ⟨h1, h2⟩ := qFC x y hy0; rw [h1] at hq; rw [h2] at hr; obtain ⟨a, n, c, rfl, -⟩ := hq.form; obtain ⟨a', n', c', rfl, -⟩ := hr.form; exact ⟨_, a, n, c, _, a', n', c', rfl, hq, hr, hb⟩
end
theorem qEV {w : World} {s : Bool} {a : Option Addr} {n c : Nat} {z : Int} (h : qAH w (.agg #[.bool s, .slice a n c]) z) : (n = 0 ↔ z = 0) /\ n <= c /\ c <= 9223372036854775807 /\ s = decide (z < 0) := by
 obtain ⟨a', n', c', e, -, h1, h2, h3⟩ := h.form; injection e with e; have e1 := congrArg (fun x => x[0]?) e; have e2 := congrArg (fun x => x[1]?) e; simp only [List.getElem?_toArray, List.getElem?_cons_succ, List.getElem?_cons_zero, Option.some.injEq] at e1 e2; injection e1 with e1; injection e2 with e2 e3 e4; subst e1 e2 e3 e4; refine ⟨?_, h2, h3, rfl⟩; rw [h1, List.length_eq_zero_iff, qBB T4 _ qAo]; omega
theorem qK2 (w : World) (s : Bool) (a : Option Addr) (n c : Nat) (z : Int) (h : qAH w (.agg #[.bool s, .slice a n c]) z) :
 Calls Try.prog 49 #[.agg #[.bool s, .slice a n c]] w fun e w' => e = .returned (.bool (decide (z = 0))) /\ Below w.heap.size w w' := by
 obtain ⟨h1, h2, h3, -⟩ := qEV h; clear h; obtain ⟨b, hb⟩ := eX w.heap.size; obtain ⟨w1, hw⟩ := eX (w.alloc (.cells #[.bool s, .slice a n c] 61)); have HB : Hid (Below w.heap.size w w1) := hZ (by rw [<- hw]; exact (Below.refl _ _).alloc (Nat.le_refl _) _); have t1 := Two.new w 61 (.bool s) (.slice a n c); rw [hw, hb] at t1; have d0 := t1.cell0; have d1 := t1.cell1; clear t1; have hn : ((n : Int) == 0) = decide (z = 0) := by
  by_cases e : n = 0
  ·rw [decide_eq_true (h1.1 e), e]; rfl
  ·rw [decide_eq_false (fun h => e (h1.2 h))]
   simpa using e
 generalize decide (z = 0) = t at *; clear h1
 go_enter Try.func49, Try.ntmps49
 go_wp2_with fail
 go_ret; exact ⟨rfl, HB.o⟩
theorem qFL (z : Int) : (z.natAbs : Int) = if z < 0 then -z else z := by split <;> omega
theorem qL3 (w : World) (s : Bool) (a : Option Addr) (n c : Nat) (z : Int) (k : Nat) (h : qAH w (.agg #[.bool s, .slice a n c]) z) (hs : Sz k z) (hk : k <= 6000000) :
 Calls Try.prog 61 #[.agg #[.bool s, .slice a n c]] w (qLN (z.natAbs : Nat) w) := by
 obtain ⟨-, -, -, rfl⟩ := qEV h; obtain ⟨b, hb⟩ := eX w.heap.size; have Hb := hZ hb; obtain ⟨W, hW, t1, t2, hBW, hsW⟩ := qKC w 61 (.bool (decide (z < 0))) (.slice a n c) (.bool false) (.slice none 0 0) b hb; have HR : Hid (qAH W (.agg #[.bool (decide (z < 0)), .slice a n c]) z) := hZ (h.below (Nat.le_of_eq hb) hBW); have HB := hZ hBW; have T2 := hZ t2; have HS := hZ hs; have d0 := t1.cell0; have d1 := t1.cell1; have T1 := hZ t1; clear h hBW t1 t2 hs; by_cases hz : z < 0
 ·rw [decide_eq_true hz] at *
  go_enter Try.func61, Try.ntmps61
  go_wp2_with fail
  refine (qMJ HR.o HS.o hk).mono ?_; rintro e w1 ⟨s1, a1, n1, c1, rfl, h1, hB⟩; have V1 := hZ h1; replace T2 := hZ (T2.o.below hB T2.o.lt); replace HB := hZ (HB.o.trans (hB.mono (by have := hsW; omega))); have g2 := T2.o.frozen 0; have g3 := T2.o.frozen 1; have g0 := T2.o.cell0; have g1 := T2.o.cell1; clear h1 hB
  go_wp2
  refine bodyPost_ret (v := .agg #[.bool s1, .slice a1 n1 c1]) (by simp [results, Try.results61, go_sem, g0, g1]) rfl ⟨s1, a1, n1, c1, rfl, ?_, ?_⟩
  ·rw [qFL, if_pos hz]
   exact V1.o.set_two T2.o _ _
  ·rw [Hb.o]
   exact (HB.o.setCell (p := ⟨b + 1, 0, none⟩) (by show b <= b + 1; omega) _).setCell (p := ⟨b + 1, 1, none⟩) (by show b <= b + 1; omega) _
 ·have Hz := hZ hz
  rw [decide_eq_false hz] at *; have g2 := T2.o.frozen 0; have g3 := T2.o.frozen 1; have g0 := T2.o.cell0; have g1 := T2.o.cell1
  go_enter Try.func61, Try.ntmps61
  go_wp2
  refine bodyPost_ret (v := .agg #[.bool false, .slice a n c]) (by simp [results, Try.results61, go_sem, g0, g1]) rfl ⟨false, a, n, c, rfl, ?_, ?_⟩
  ·rw [qFL, if_neg (by have := Hz.o; omega)]
   exact HR.o.set_two T2.o _ _
  ·rw [Hb.o]
   exact (HB.o.setCell (p := ⟨b + 1, 0, none⟩) (by show b <= b + 1; omega) _).setCell (p := ⟨b + 1, 1, none⟩) (by show b <= b + 1; omega) _
open Go.RowKit
theorem qMa : (Try.prog.info? 61).map (fun i => (i.zero, i.size, i.bytes)) = some (some (.agg #[.bool false, .slice none 0 0]), 2, 32) := by kernel_rfl
theorem qG5 {w : World} {g : Nat} {t : TypeId} {u v : Value} (h : Two w g t u v) : ∀ j x, ([u, v] : List Value)[j]? = some x -> w.cell? ((⟨g, 0, none⟩ : Addr).add j) = some x := by
 intro j x hx
 match j, hx with
 | 0, hx => simp at hx; subst hx; exact h.cell0
 | 1, hx => simp at hx; subst hx; exact h.cell1
 | j + 2, hx => simp at hx
theorem qKA {s : Bool} {a : Option Addr} {n c : Nat} : ∀ u ∈ ([.bool s, .slice a n c] : List Value), qIr u := by
 intro u hu; simp at hu; rcases hu with rfl | rfl
 ·exact .inl ⟨_, rfl⟩
 ·exact .inr ⟨_, _, _, rfl⟩
theorem qIO {s : Bool} {a : Option Addr} {n c : Nat} : ∀ u ∈ ([.bool s, .slice a n c] : List Value), u.oneCell' = true := by
 intro u hu; simp at hu; rcases hu with rfl | rfl <;> rfl
theorem qJm : ∀ u ∈ (Value.agg #[.bool false, .slice none 0 0]).cells, qIr u := by
 intro u hu; simp [Value.cells] at hu; rcases hu with rfl | rfl
 ·exact .inl ⟨_, rfl⟩
 ·exact .inr ⟨_, _, _, rfl⟩
theorem qBU.digs {w : World} {base : Nat} {e : TypeId} {size : Nat} {v : Value} {n : Nat} {xs : List Value} (h : qBU qIr w base e size v n xs) : ∀ b, v.ownBlock = some b -> qA1 w b := fun b hb => (h.2 b hb).bs
theorem qCZ {L : List Int} {j : Nat} (h : j < L.length) {z : Int} (hz : z = L[j]) : L.take (j + 1) = L.take j ++ [z] := by rw [hz, List.take_succ_eq_append_getElem h]
theorem qMy (w0 : World) (v : Value) (r : List Int) (h : qAm w0 v r) (hr : ∀ x ∈ r, -9223372036854775808 <= x /\ x <= 9223372036854775807) (hl : r.length <= 1000) :
 Calls Try.prog 35 #[v] w0 fun e w' => ∃ u xs, e = .returned u /\ qBU qIr w' w0.heap.size 61 2 u r.length xs /\ NLs w' xs r /\ Below w0.heap.size w0 w' := by
 obtain ⟨i0, hi, hz0, hz1, hz2⟩ := info_parts qMa; have Hi := hZ hi; have Hz0 := hZ hz0; have Hz1 := hZ hz1; have Hz2 := hZ hz2; clear hi hz0 hz1 hz2; obtain ⟨av, cv, rfl, q1, q2⟩ := qAh.form h; have H := hZ h; have HB := hZ (Below.refl w0.heap.size w0); have HR := hZ hr; clear h hr
 go_enter Try.func35, Try.ntmps35
 go_wp2_with fail
 go_loopw [4, 3] (fun i vr wr => ∃ (j : Nat) (ga : Option Addr) (gc : Nat) (xs : List Value), j <= r.length /\ i = .int .i64 j /\ vr = .slice ga j gc /\ Hid (qBU qIr wr w0.heap.size 61 2 (.slice ga j gc) j xs) /\ Hid (NLs wr xs (r.take j)) /\ Hid (Below w0.heap.size w0 wr)) (fun i _ _ => r.length - (intOf i).toNat)
 case atStart => exact ⟨0, none, 0, [], by omega, rfl, rfl, hZ (qBU.nil _ _ _ _), hZ NLs.nil, HB⟩
 case round =>
  clear HB; obtain ⟨j, ga, gc, xs, hj, rfl, rfl, Wp, Nl, HB⟩ := hrel; obtain ⟨w1, rfl⟩ := eY wr; by_cases hlt : j < r.length
  ·skip
   have j1 : (0 : Int) <= (j : Int) := by omega
   have j2 : (j : Int) < (r.length : Int) := by omega
   obtain ⟨b0, cap0, hv, hb0, c1⟩ := (H.o.below HB.o).at_ j hlt; injection hv with f1 f2 f3; subst f1; clear f2 f3; obtain ⟨z, hz⟩ := eX (r[j]'hlt); rw [hz] at c1; have Hz := hZ hz; have hzr := HR.o z (hz ▸ List.getElem_mem _); clear hz
   go_wp2_with fail
   clear c1; refine (nof (w := w1) hzr.1 hzr.2).mono ?_; rintro e w2 ⟨s_z, a_z, n_z, c_z, rfl, h_z, hB⟩; have Vz := hZ h_z; replace Wp := Wp.b hB; replace Nl := Nl.b hB; replace HB := bT HB hB; clear hB; clear h_z
   go_wp2_with (at_builtin; refine qCM rfl _ _ 51 rfl w0.heap.size 61 i0 _ 2 32 Try.underlying51 Hi.o Hz0.o Hz1.o Hz2.o rfl (by decide) qJm _ j _ rfl (Wp.o.blw ((Below.refl _ _).alloc (Nat.le_refl _) _)) ⟨w2.heap.size, 0, none⟩ 1 1 [.bool s_z, .slice a_z n_z c_z] rfl rfl (qG5 (Two.new _ _ _ _)) qIO qKA (by decide) (by unfold maxLen; omega) (by omega) (by simp; have := HB.o.size; omega) ?_)
   intro v5 w5' hown hon; obtain ⟨w3, hw⟩ := eX (w2.alloc (.cells #[.bool s_z, .slice a_z n_z c_z] 61)); have hB := aB hw; replace hon : qAb (fun b => (Value.slice ga j gc).ownBlock = some b) w3 w5' := by rw [<- hw]; exact hon
   clear hw; replace Wp := Wp.b hB; replace Nl := Nl.b hB; replace Vz := Vz.b hB; replace HB := bT HB hB; clear hB; have hN : ∀ b, (Value.slice ga j gc).ownBlock = some b -> qA1 w3 b := Wp.o.digs; obtain ⟨w4, rfl⟩ := eY w5'; have Nl' := hZ ((Nl.o.snoc Vz.o).only hon hN); replace HB := hZ (qAn HB.o hon (fun b e => (Wp.o.lt b e).1) HB.o.size); replace Wp := hZ hown; clear hon hown hN Vz
   go_wp2_with fail
   go_roundw
   case rel => obtain ⟨a9, c9, rfl, -, -⟩ := Wp.o.form; exact ⟨j + 1, a9, c9, _, by omega, by go_num, rfl, Wp, hZ (by rw [qCZ hlt Hz.o.symm]; exact Nl'.o), HB⟩
   case measure => simp [intOf]; omega
  ·skip
   obtain rfl : j = r.length := by omega
   go_wp2_with fail
   go_ret; exact ⟨_, xs, rfl, Wp.o, by have := Nl.o; rwa [List.take_length] at this, HB.o⟩
theorem qK3 (w0 : World) (gx ox cx gy oy cy n k : Nat) (sq : Bool) (aq : Option Addr) (nq cq : Nat) (q : Int) (A B : List Int) (hx : NRo w0 (gx, ox, cx) A) (hy : NRo w0 (gy, oy, cy) B) (hA : A.length = n) (hB : B.length = n) (hn0 : 0 < n) (hn : n <= 1000)
 (hq : qAH w0 (.agg #[.bool sq, .slice aq nq cq]) q) (SA : ∀ z ∈ A, Sz k z) (SB : ∀ z ∈ B, Sz k z) (Sq : Sz k q) (hk : k <= 2000000) :
 Calls Try.prog 48 #[.slice (some ⟨gx, ox, none⟩) n cx, .slice (some ⟨gy, oy, none⟩) n cy, .agg #[.bool sq, .slice aq nq cq]] w0 fun e w' => ∃ g cap, e = .returned (.slice (some ⟨g, 0, none⟩) n cap) /\ NRo w' (g, 0, cap) (qCn A B q) /\ w0.heap.size <= g /\ n <= cap /\ cap <= 9223372036854775807 /\ Below w0.heap.size w0 w' := by
 obtain ⟨i0, hi, hz0, hz1, hz2⟩ := info_parts qMa; have Hi := hZ hi; have Hz0 := hZ hz0; have Hz1 := hZ hz1; have Hz2 := hZ hz2; clear hi hz0 hz1 hz2; obtain ⟨L, hL⟩ := eX (qCn A B q); have HL : Hid (L.length = n /\ ∀ j (h : j < L.length) (h1 : j < A.length) (h2 : j < B.length), L[j] = A[j] - q * B[j]) := hZ (by subst hL; exact ⟨by rw [qA9, hA], fun j h h1 h2 => by rw [qE4 j h1, qAj h1, qAj h2]⟩); rw [hL]; have HA := hZ hA; have HBl := hZ hB; have HSA := hZ SA; have HSB := hZ SB; have HSq := hZ Sq; obtain ⟨b0, hb⟩ := eX w0.heap.size; have Hb0 := hZ hb; obtain ⟨w1, hw⟩ := eX (w0.alloc (.cells #[.bool sq, .slice aq nq cq] 61)); have HB : Hid (Below w0.heap.size w0 w1) := hZ (by rw [<- hw]; exact (Below.refl _ _).alloc (Nat.le_refl _) _); have t1 := Two.new w0 61 (.bool sq) (.slice aq nq cq); rw [hw, hb] at t1; have Tq := hZ t1; have Vq := hZ (hq.blw HB.o); have RX := hZ (hx.blw HB.o); have RY := hZ (hy.blw HB.o); have d0 := t1.cell0; have d1 := t1.cell1; clear hx hy hA hB SA SB Sq hq t1 hL
 go_enter Try.func48, Try.ntmps48
 go_wp2_with fail
 clear hw d0 d1; have HB1 : Hid (Below w1.heap.size w1 w1) := hZ (Below.refl _ _)
 go_loopw [8, 7] (fun i vr wr => ∃ (j : Nat) (ga : Option Addr) (gc : Nat) (xs : List Value), j <= n /\ i = .int .i64 j /\ vr = .slice ga j gc /\ Hid (qBU qIr wr w1.heap.size 61 2 (.slice ga j gc) j xs) /\ Hid (NLs wr xs (L.take j)) /\ Hid (Below w1.heap.size w1 wr)) (fun i _ _ => n - (intOf i).toNat)
 case atStart => exact ⟨0, none, 0, [], by omega, rfl, rfl, hZ (qBU.nil _ _ _ _), hZ NLs.nil, HB1⟩
 case round =>
  clear HB1; obtain ⟨j, ga, gc, xs, hj, rfl, rfl, Wp, Nl, HB1⟩ := hrel; obtain ⟨w2, rfl⟩ := eY wr; by_cases hlt : j < n
  ·skip
   have j1 : (0 : Int) <= (j : Int) := by omega
   have j2 : (j : Int) < (n : Int) := by omega
   have Hja : Hid (j < A.length) := hZ (by rw [HA.o]; exact hlt); have Hjb : Hid (j < B.length) := hZ (by rw [HBl.o]; exact hlt); have Hjl : Hid (j < L.length) := hZ (by rw [HL.o.1]; exact hlt); obtain ⟨x, hx⟩ := eX (A[j]'Hja.o); obtain ⟨y, hy⟩ := eX (B[j]'Hjb.o); have Hz : Hid (L[j]'Hjl.o = x - q * y) := hZ (by rw [HL.o.2 j Hjl.o Hja.o Hjb.o, hx, hy]); have Sx : Hid (Sz k x) := hZ (HSA.o x (hx ▸ List.getElem_mem _)); have Sy : Hid (Sz k y) := hZ (HSB.o y (hy ▸ List.getElem_mem _)); have Hxy := hZ (And.intro hx hy); clear hx hy
   go_wp2_with fail
   obtain ⟨w3, hwd⟩ := eX w2.drew; have hB := dB hwd; replace Wp := Wp.b hB; replace Nl := Nl.b hB; replace HB1 := bT HB1 hB; clear hB; have HBr : Hid (qAb (fun b => False) w3 w3) := hZ (qAb.refl _ _); refine qAs [13, 14] (fun w' => qAb (fun b => False) w3 w') (by kernel_rfl) (by rw [hwd]; exact qAb.refl _ _) (fun hHeld => ?_); rw [hwd] at hHeld ⊢; clear hwd; obtain ⟨s_x, a_x, n_x, c_x, d0x, d1x, h_x⟩ := (RX.o.blw HB1.o).get j Hja.o; simp only [] at d0x d1x; rw [Hxy.o.1] at h_x; obtain ⟨s_y, a_y, n_y, c_y, d0y, d1y, h_y⟩ := (RY.o.blw HB1.o).get j Hjb.o; simp only [] at d0y d1y; rw [Hxy.o.2] at h_y; have Vx := hZ h_x; have Vy := hZ h_y; have hlx := (RX.o.blw HB1.o).lt; have hly := (RY.o.blw HB1.o).lt; have Tq9 := Tq.o.below HB1.o Tq.o.lt; have d0q := Tq9.cell0; have d1q := Tq9.cell1; have hlq := Tq9.lt; have Vq9 : Hid (qAH w3 (.agg #[.bool sq, .slice aq nq cq]) q) := hZ (Vq.o.blw HB1.o); clear h_x h_y Tq9; refine pU 0 15 ?_; refine pU 1 16 ?_; refine pU 2 17 ?_; refine pU 3 18 ?_; refine tV 4 19 (cF d0x hlx) (cF d1x hlx) ?_; refine tV 5 20 (cF d0q hlq) (cF d1q hlq) ?_; refine pU 6 21 ?_; refine pU 7 22 ?_; refine pU 8 23 ?_; refine tV 9 24 (cF d0y hly) (cF d1y hly) ?_; clear d0x d1x d0y d1y d0q d1q hlx hly hlq; refine eU 10 fun K hK => ?_; go_simp; refine (qMO (w := w3) Vq9.o Vy.o HSq.o Sy.o (by omega) (by omega)).mono ?_; rintro e w4 ⟨s_p, a_p, n_p, c_p, rfl, h_p, hB⟩; have Vp := hZ h_p; replace HBr := oT HBr hB; replace Wp := Wp.b hB; replace Nl := Nl.b hB; replace Vx := Vx.b hB; replace Vy := Vy.b hB; replace Vq9 := Vq9.b hB; replace HB1 := bT HB1 hB; clear hB; clear h_p; refine hK.out _ _ HBr.o (fun hHeld => ?_); clear hK K
   try simp only [Act.put, sX1, sX2, sX3]
   refine eU 11 fun K hK => ?_; go_simp; refine (qMN (w := w4) Vx.o Vp.o Sx.o (HSq.o.mul Sy.o) (by omega) (by omega)).mono ?_; rintro e w5 ⟨s_z, a_z, n_z, c_z, rfl, h_z, hB⟩; have Vz := hZ h_z; replace HBr := oT HBr hB; replace Wp := Wp.b hB; replace Nl := Nl.b hB; replace Vx := Vx.b hB; replace Vy := Vy.b hB; replace Vq9 := Vq9.b hB; replace Vp := Vp.b hB; replace HB1 := bT HB1 hB; clear hB; clear h_z; refine hK.out _ _ HBr.o (fun hHeld => ?_); clear hK K
   try simp only [Act.put, sX1, sX2, sX3]
   clear Vx Vy Vq9 Vp; refine eU 12 fun K hK => ?_; go_simp; obtain ⟨w6, hw⟩ := eX (w5.alloc (.cells #[.bool s_z, .slice a_z n_z c_z] 61)); have hB := aB hw; obtain ⟨g9, hg9⟩ := eX w5.heap.size; have Tn' : Hid (Two w6 g9 61 (.bool s_z) (.slice a_z n_z c_z)) := hZ (by rw [<- hw, <- hg9]; exact Two.new _ _ _ _); replace HBr := oT HBr hB
   try rw [hw]
   try rw [hg9]
   replace Wp := Wp.b hB; replace Nl := Nl.b hB; replace Vz := Vz.b hB; replace HB1 := bT HB1 hB; clear hB; have Tn := Tn'; clear Tn' hw hg9; refine hK.out _ _ HBr.o (fun hHeld => ?_); clear hK K
   try simp only [Act.put, sX1, sX2, sX3]
   refine lU 13 fun K hK => ?_; refine qIB rfl 28 rfl _ _ 51 rfl w1.heap.size 61 i0 _ 2 32 Try.underlying51 Hi.o Hz0.o Hz1.o Hz2.o rfl (by decide) qJm _ j _ rfl Wp.o ⟨g9, 0, none⟩ 1 1 [.bool s_z, .slice a_z n_z c_z] rfl rfl (qG5 Tn.o) qIO qKA (by decide) (by unfold maxLen; omega) (by omega) HB1.o.size ?_; intro v5 w5' hown hon; have hN : ∀ b, (Value.slice ga j gc).ownBlock = some b -> qA1 w6 b := Wp.o.digs; obtain ⟨w7, rfl⟩ := eY w5'; have Nl' := hZ ((Nl.o.snoc Vz.o).only hon hN); replace HB1 := hZ (qAn HB1.o hon (fun b e => (Wp.o.lt b e).1) HB1.o.size); replace Wp := hZ hown; clear hon hown hN Tn Vz; refine hK.out _ _ ?_; clear hK K
   try simp only [Act.put, sX1, sX2, sX3]
   refine pU 14 7 ?_; refine dU ?_; clear hHeld
   go_wp2_with fail
   go_roundw
   case rel => obtain ⟨a9, c9, rfl, -, -⟩ := Wp.o.form; exact ⟨j + 1, a9, c9, _, by omega, by go_num, rfl, Wp, hZ (by rw [qCZ Hjl.o Hz.o.symm]; exact Nl'.o), HB1⟩
   case measure => simp [intOf]; omega
  ·skip
   obtain rfl : j = n := by omega
   obtain ⟨g, cg, e9, h1, h2, h3, h4⟩ := Wp.o.some_ hn0; injection e9 with f1 f2 f3; subst f1 f3; clear f2
   go_wp2_with fail
   have HLl := HL.o.1; go_ret; exact ⟨g, _, rfl, Wp.o.nro (by have := Nl.o; rwa [List.take_of_length_le (by omega)] at this), Nat.le_trans HB.o.size h3, h1, h2, HB.o.trans (HB1.o.mono HB.o.size)⟩
open Go.RowKit
theorem qE6 {n : Nat} {x : Nw} : isS (nrV n x) := ⟨_, _, _, rfl⟩
structure NMt (w : World) (B0 R cR m : Nat) (l : List Nw) (n : Nat) (M : List (List Int)) : Prop where
 own : qBU isS w B0 51 1 (.slice (some ⟨R, 0, none⟩) m cR) m (l.map (nrV n))
 lenl : l.length = m
 len : M.length = m
 row : ∀ i (h : i < l.length) (h' : i < M.length), NRo w l[i] M[i] /\ M[i].length = n
 nodup : ∀ i j (h : i < l.length) (h' : j < l.length), i ≠ j -> l[i].1 ≠ l[j].1
 apart : ∀ i (h : i < l.length), l[i].1 ≠ R
 cap : ∀ i (h : i < l.length), n <= l[i].2.2 /\ l[i].2.2 <= 9223372036854775807
section
variable {w w' : World} {B0 R cR m n : Nat} {l : List Nw} {M : List (List Int)}
theorem NMt.only {S : Nat -> Prop} (h : NMt w B0 R cR m l n M) (ho : qAb S w w') (hS : ∀ b, S b -> qA1 w b) (hR : ¬ S R) (hr : ∀ i (hi : i < l.length), ¬ S l[i].1) : NMt w' B0 R cR m l n M :=
 ⟨h.own.only ho (fun g hg => by simp only [Value.ownBlock, Option.some.injEq] at hg; subst hg; exact hR), h.lenl, h.len, fun i hi hi' => ⟨(h.row i hi hi').1.only ho hS (hr i hi), (h.row i hi hi').2⟩, h.nodup, h.apart, h.cap⟩
theorem NMt.blw (h : NMt w B0 R cR m l n M) (hb : Below w.heap.size w w') : NMt w' B0 R cR m l n M := h.only (S := fun _ => False) (qAb.of_below hb) (fun _ h => h.elim) (fun h => h) (fun _ _ h => h)
instance : Mv w w' (NMt w B0 R cR m l n M) (NMt w' B0 R cR m l n M) := ⟨fun hb h => NMt.blw h hb⟩
theorem NMt.lt (h : NMt w B0 R cR m l n M) : R < w.heap.size := (h.own.lt R rfl).2
theorem NMt.base (h : NMt w B0 R cR m l n M) : B0 <= R := (h.own.lt R rfl).1
theorem NMt.noDig (h : NMt w B0 R cR m l n M) : qA1 w R := (h.own.2 R rfl).s
theorem NMt.row_lt (h : NMt w B0 R cR m l n M) (i : Nat) (hi : i < l.length) : l[i].1 < w.heap.size := (h.row i hi (by rw [h.len, <- h.lenl]; exact hi)).1.lt
theorem NMt.get (h : NMt w B0 R cR m l n M) (i : Nat) (hi : i < l.length) : w.cell? ⟨R, i, none⟩ = some (.slice (some ⟨l[i].1, l[i].2.1, none⟩) n l[i].2.2) := by
 have := h.lenl; rw [h.own.1.cellAt i (by omega), List.getElem?_map, List.getElem?_eq_getElem hi]; rfl
theorem NMt.frozen (h : NMt w B0 R cR m l n M) (i : Nat) : w.frozen? ⟨R, i, none⟩ = false := h.own.1.frozenAt i
theorem NMt.ent (h : NMt w B0 R cR m l n M) (i c : Nat) (hi : i < l.length) (hc : c < n) : ∃ s a k cc, w.cell? ⟨l[i].1, l[i].2.1 + c * 2, none⟩ = some (.bool s) /\ w.cell? ⟨l[i].1, l[i].2.1 + c * 2 + 1, none⟩ = some (.slice a k cc) /\ qAH w (.agg #[.bool s, .slice a k cc]) (Go.Proofs.Ytlmbebbdamgfpaa.ent M i c) := by
 have hi' : i < M.length := by rw [h.len, <- h.lenl]; exact hi
 obtain ⟨h1, h2⟩ := h.row i hi hi'; have h3 := h1.get c (by omega)
 rwa [<- qHA hi' (by omega)] at h3
theorem qJG {α β : Type} (f : α -> β) (l : List α) (a b : Nat) (ha : a < l.length) (hb : b < l.length) : (qAt l a b ha hb).map f = ((l.map f).set a (f l[b])).set b (f l[a]) := by
 unfold qAt; rw [List.map_set, List.map_set]
theorem qB0 (w : World) (R i : Nat) (u : Value) : qAb (fun g => g = R) w (w.setCell ⟨R, i, none⟩ u) := (qAb.refl (fun g => g = R) w).set (p := ⟨R, i, none⟩) rfl u
theorem NMt.swap (h : NMt w B0 R cR m l n M) {a b : Nat} (ha : a < l.length) (hb : b < l.length) (ha' : a < M.length) (hb' : b < M.length) :
 NMt ((w.setCell ⟨R, a, none⟩ (.slice (some ⟨l[b].1, l[b].2.1, none⟩) n l[b].2.2)).setCell ⟨R, b, none⟩ (.slice (some ⟨l[a].1, l[a].2.1, none⟩) n l[a].2.2)) B0 R cR m (qAt l a b ha hb) n (qAt M a b ha' hb') := by
 have ho : qAb (fun g => g = R) w ((w.setCell ⟨R, a, none⟩ (.slice (some ⟨l[b].1, l[b].2.1, none⟩) n l[b].2.2)).setCell ⟨R, b, none⟩ (.slice (some ⟨l[a].1, l[a].2.1, none⟩) n l[a].2.2)) := (qB0 w R a _).trans (qB0 _ R b _); have hS : ∀ g, g = R -> qA1 w g := fun g e => e ▸ h.noDig; have sA : ∀ i (hi : i < l.length), (qAt l a b ha hb)[i]'(by rw [qAc]; exact hi) = if i = b then l[a] else if i = a then l[b] else l[i] := fun i hi => qAr i hi; have inj : ∀ i j (hi : i < l.length) (hj : j < l.length), (qAt l a b ha hb)[i]'(by rw [qAc]; exact hi) = l[sw a b i]'(qB5 ha hb hi) := fun i j hi hj => by
  rw [sA i hi]; unfold sw
  split
  ·rfl
  ·split <;> rfl
 refine ⟨?_, by rw [qAc, h.lenl], by rw [qAc, h.len], fun i hi hi' => ?_, fun i j hi hj hij => ?_, fun i hi => ?_, fun i hi => ?_⟩
 ·have h1 := (h.own.stored a (by rw [List.length_map]; exact ha) (qE6 (n := n) (x := l[b]))).stored b (by rw [List.length_set, List.length_map]; exact hb) (qE6 (n := n) (x := l[a]))
  rw [qJG]; exact h1
 ·rw [qAc] at hi hi'
  rw [inj i i hi hi]; have e2 : (qAt M a b ha' hb')[i]'(by rw [qAc]; exact hi') = M[sw a b i]'(qB5 ha' hb' hi') := by
   rw [qAr i hi']; unfold sw
   split
   ·rfl
   ·split <;> rfl
  rw [e2]; obtain ⟨h1, h2⟩ := h.row _ (qB5 ha hb hi) (qB5 ha' hb' hi'); exact ⟨h1.only ho hS (h.apart _ _), h2⟩
 ·rw [qAc] at hi hj
  rw [inj i i hi hi, inj j j hj hj]; exact h.nodup _ _ _ _ (fun e => hij (qFt e))
 ·rw [qAc] at hi
  rw [inj i i hi hi]; exact h.apart _ _
 ·rw [qAc] at hi
  rw [inj i i hi hi]; exact h.cap _ _
theorem NMt.put (h : NMt w B0 R cR m l n M) {i g c : Nat} (hi : i < l.length) {zs : List Int} (hr : NRo w (g, 0, c) zs) (hz : zs.length = n) (hg : ∀ k (hk : k < l.length), l[k].1 ≠ g) (hgR : g ≠ R) (hc : n <= c) (hc2 : c <= 9223372036854775807) :
 NMt (w.setCell ⟨R, i, none⟩ (.slice (some ⟨g, 0, none⟩) n c)) B0 R cR m (l.set i (g, 0, c)) n (M.set i zs) := by
 have ho := qB0 w R i (.slice (some ⟨g, 0, none⟩) n c); have hS : ∀ g, g = R -> qA1 w g := fun g e => e ▸ h.noDig; refine ⟨?_, by rw [List.length_set, h.lenl], by rw [List.length_set, h.len], fun k hk hk' => ?_, fun k j hk hj hkj => ?_, fun k hk => ?_, fun k hk => ?_⟩
 ·have h1 := h.own.stored i (by rw [List.length_map]; exact hi) (qE6 (n := n) (x := (g, 0, c)))
  rw [List.map_set]; exact h1
 ·rw [List.length_set] at hk hk'
  rw [List.getElem_set, List.getElem_set]
  split
  ·exact ⟨hr.only ho hS hgR, hz⟩
  ·exact ⟨(h.row k hk hk').1.only ho hS (h.apart k hk), (h.row k hk hk').2⟩
 ·rw [List.length_set] at hk hj
  rw [List.getElem_set, List.getElem_set]
  split <;> split
  ·omega
  ·exact fun e => hg j hj e.symm
  ·exact hg k hk
  ·exact h.nodup k j hk hj hkj
 ·rw [List.length_set] at hk
  rw [List.getElem_set]
  split
  ·exact hgR
  ·exact h.apart k hk
 ·rw [List.length_set] at hk
  rw [List.getElem_set]
  split
  ·exact ⟨hc, hc2⟩
  ·exact h.cap k hk
end
def qHT (N0 : Nat) (l0 l : List Nw) : Prop := ∀ x ∈ l, (∃ y ∈ l0, x.1 = y.1) \/ N0 <= x.1
theorem qHT.refl {N0 : Nat} {l : List Nw} : qHT N0 l l := fun x hx => .inl ⟨x, hx, rfl⟩
theorem qHT.swap {N0 : Nat} {l0 l : List Nw} (h : qHT N0 l0 l) {a b : Nat} (ha : a < l.length) (hb : b < l.length) : qHT N0 l0 (qAt l a b ha hb) := fun x hx => h x (qA5 x hx)
theorem qHT.set {N0 : Nat} {l0 l : List Nw} (h : qHT N0 l0 l) {i : Nat} {x : Nw} (hx : N0 <= x.1) : qHT N0 l0 (l.set i x) := fun y hy => by
 rcases List.mem_or_eq_of_mem_set hy with h1 | h1
 ·exact h y h1
 ·rw [h1]; exact .inr hx
def qDf (M : List (List Int)) (top c b b' left g : Nat) : Prop :=
 (2 <= left /\ 0 < g /\ qGh M top c b b' /\ (qCt M top c -> ∃ k, top <= k /\ k < M.length /\ Go.Proofs.Ytlmbebbdamgfpaa.ent M k c ≠ 0 /\ (Go.Proofs.Ytlmbebbdamgfpaa.ent M k c).natAbs < g)) \/
 (left = 0 /\ (∀ k, top <= k -> k < M.length -> Go.Proofs.Ytlmbebbdamgfpaa.ent M k c = 0) /\ ∀ r ∈ M, ∀ x ∈ r, Sz b x) \/
 (left = 1 /\ Go.Proofs.Ytlmbebbdamgfpaa.ent M top c ≠ 0 /\ (∀ k, top < k -> k < M.length -> Go.Proofs.Ytlmbebbdamgfpaa.ent M k c = 0) /\ ∀ r ∈ M, ∀ x ∈ r, Sz b' x)
theorem qDf.start {M : List (List Int)} {top c b b' : Nat} (h : qGh M top c b b') : ∃ g, qDf M top c b b' 2 g := by
 by_cases ht : qCt M top c
 ·obtain ⟨k, k', a1, a2, a3, a4, a5⟩ := ht
  exact ⟨(ent M k c).natAbs + 1, .inl ⟨by omega, by omega, h, fun _ => ⟨k, a1, by omega, a4, by omega⟩⟩⟩
 ·exact ⟨1, .inl ⟨by omega, by omega, h, fun h2 => absurd h2 ht⟩⟩
section
variable {M : List (List Int)} {top c b b' left left' least g : Nat}
theorem qGi.least_lt (h : qGi M top c M.length left least) (ht : top < M.length) : top <= least /\ least < M.length := by
 rcases Nat.eq_zero_or_pos left with h0 | h0
 ·have := (h.none h0).1; omega
 ·have := h.some h0; omega
theorem qDf.end0 (h : qDf M top c b b' left' g) (hl : 2 <= left') (hc : qGi M top c M.length left least) (h0 : left = 0) (ht : top < M.length) (hlt : least < M.length) : qDf (qAt M top least ht hlt) top c b b' left 0 := by
 obtain ⟨e, hz⟩ := hc.none h0; subst e; rcases h with ⟨-, -, hcol, -⟩ | ⟨h1, -⟩ | ⟨h1, -⟩
 ·refine .inr (.inl ⟨h0, fun k h1 h2 => ?_, fun r hr => hcol.nz (.inl hz) r (qA5 r hr)⟩)
  rw [qAc] at h2; rw [qCJ]; exact hz _ (qDm (Nat.le_refl _) (Nat.le_refl _) h1) (qB5 ht hlt h2)
 ·omega
 ·omega
theorem qDf.end1 (h : qDf M top c b b' left' g) (hl : 2 <= left') (hc : qGi M top c M.length left least) (h1 : left = 1) (ht : top < M.length) (hlt : least < M.length) : qDf (qAt M top least ht hlt) top c b b' left 0 := by
 obtain ⟨a1, a2, a3, a4⟩ := hc.some (by omega); have ho := hc.one h1; rcases h with ⟨-, -, hcol, -⟩ | ⟨h1, -⟩ | ⟨h1, -⟩
 ·refine .inr (.inr ⟨h1, ?_, fun k h2 h3 => ?_, fun r hr => hcol.fin r (qA5 r hr)⟩)
  ·rw [qE8]
   split
   ·next e => rw [e]; exact a3
   ·rw [if_pos rfl]; exact a3
  ·rw [qAc] at h3
   rw [qCJ]; refine ho _ (qDm (Nat.le_refl _) a1 (by omega)) (qB5 ht hlt h3) (fun e => ?_); have : sw top least k = sw top least top := by rw [e]; unfold sw; split; omega; rw [if_pos rfl]
   have := qFt this; omega
 ·omega
 ·omega
structure qLG (M : List (List Int)) (top c b b' gk : Nat) : Prop where
 col : qGh M top c b b'
 nz : ent M top c ≠ 0
 least : ∀ k, top <= k -> k < M.length -> ent M k c ≠ 0 -> (ent M top c).natAbs <= (ent M k c).natAbs
 two : qCt M top c
 lt : (ent M top c).natAbs < gk
theorem qDf.piv (h : qDf M top c b b' left' g) (hl : 2 <= left') (hc : qGi M top c M.length left least) (h2 : 2 <= left) (ht : top < M.length) (hlt : least < M.length) : qLG (qAt M top least ht hlt) top c b b' g := by
 obtain ⟨a1, a2, a3, a4⟩ := hc.some (by omega); obtain ⟨k, b1, b2, b3, b4⟩ := hc.two h2; have htw : qCt M top c := qCt.of_ne b1 a1 b3 b2 hlt b4 a3; have hpt : ent (qAt M top least ht hlt) top c = ent M least c := by
  rw [qE8]
  split
  ·next e => rw [e]
  ·rw [if_pos rfl]
 rcases h with ⟨-, hg, hcol, hgk⟩ | ⟨h1, -⟩ | ⟨h1, -⟩
 ·refine ⟨hcol.swap ht hlt (Nat.le_refl _) a1, by rw [hpt]; exact a3, fun k h3 h4 h5 => ?_, ?_, ?_⟩
  ·rw [qAc] at h4
   rw [hpt, qCJ]; rw [qCJ] at h5; exact a4 _ (qDm (Nat.le_refl _) a1 h3) (qB5 ht hlt h4) h5
  ·refine qCt.of_ne (k := sw top least k) (k' := sw top least least) (qDm (Nat.le_refl _) a1 b1) (qDm (Nat.le_refl _) a1 a1) (fun e => b3 (qFt e)) (by rw [qAc]; exact qB5 ht hlt b2) (by rw [qAc]; exact qB5 ht hlt hlt) (by rw [qCT]; exact b4) (by rw [qCT]; exact a3)
  ·obtain ⟨k', c1, c2, c3, c4⟩ := hgk htw
   have := a4 k' c1 c2 c3; rw [hpt]; omega
 ·omega
 ·omega
theorem qLG.red {M' : List (List Int)} {n gk : Nat} (h : qLG M top c b b' gk) (hr : ∀ r ∈ M, r.length = n) (ht : top < M.length) (hd : qDh M top c M.length M') (h2 : 2 <= left) : qDf M' top c b b' left (ent M top c).natAbs := by
 obtain ⟨h1, h3, h4⟩ := h.col.red hr ht h.nz h.least h.two hd; exact .inl ⟨h2, by have := h.nz; omega, h1, h4⟩
theorem qLG.fin {M' : List (List Int)} {n gk i : Nat} (h : qLG M top c b b' gk) (hr : ∀ r ∈ M, r.length = n) (ht : top < M.length) (hd : qDh M top c i M') : ∀ r ∈ M', ∀ x ∈ r, Sz b' x := h.col.red_fin hr ht h.nz h.least h.two hd
end
def eb (b m top : Nat) : Nat := b * 5 ^ min top (m - 1)
theorem qKb (b m : Nat) : eb b m 0 = b := by simp [eb]
theorem qLq (b m top : Nat) : eb b m top <= eb b m (top + 1) := Nat.mul_le_mul_left _ (Nat.pow_le_pow_right (by omega) (by omega))
theorem qLr (b m top : Nat) (h : top + 1 < m) : 5 * eb b m top <= eb b m (top + 1) := by
 unfold eb; rw [Nat.min_eq_left (by omega), Nat.min_eq_left (by omega), Nat.pow_succ]
 grind
theorem qME (b m top : Nat) (h : 5 <= b) : 5 <= eb b m top := by
 have : b * 1 <= eb b m top := Nat.mul_le_mul_left _ (Nat.pow_pos (by omega)); omega
theorem qMg (b m top : Nat) : eb b m top <= b * 5 ^ (m - 1) := Nat.mul_le_mul_left _ (Nat.pow_le_pow_right (by omega) (by omega))
attribute [irreducible] eb
theorem qGh.ech {M0 M : List (List Int)} {n c top b m : Nat} (h : qDw M0 M n c top) (hm : M.length = m) (hb : 5 <= b) (hS : ∀ r ∈ M, ∀ x ∈ r, Sz (eb b m top) x) : qGh M top c (eb b m top) (eb b m (top + 1)) :=
 qGh.start hS (fun h1 => ⟨qLr b m top (by omega), qME b m top hb⟩) (qLq b m top)
end Go.Proofs.Ytlmbebbdamgfpaa
