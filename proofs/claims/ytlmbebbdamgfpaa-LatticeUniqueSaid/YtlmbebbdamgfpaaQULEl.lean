/- lattice.eliminate: the walk. -/
import Derived.Test.YtlmbebbdamgfpaaQULLn
import Derived.Test.YtlmbebbdamgfpaaQULInd
import Derived.Test.YtlmbebbdamgfpaaQULRows
import Derived.Test.YtlmbebbdamgfpaaQULLead
import Derived.Test.YtlmbebbdamgfpaaQULOpr
set_option linter.unusedVariables false
set_option linter.unusedSimpArgs false
set_option linter.unusedVariables false
set_option linter.unusedSimpArgs false
namespace Go.Proofs.Ytlmbebbdamgfpaa
open Go.RowKit

def noU (u : Value) : Prop := ∀ x, u ≠ .int .u32 x
theorem noInt_cells {w : World} {g : Nat} {cs : Array Value} {t : TypeId} {fz : Nat × Nat} (h : w.heap[g]? = some (.cells cs t fz)) (hc : ∀ u ∈ cs, noU u) : NoInt w g := by
 intro o x he
 unfold World.cell? at he
 simp only [h] at he
 simp only [Option.isSome_none, Bool.false_eq_true, if_false] at he
 exact hc _ (Array.mem_of_getElem? he) x rfl
theorem noInt_mem {w : World} {g : Nat} {cs : Array Value} {t : TypeId} {fz : Nat × Nat} (h : w.heap[g]? = some (.cells cs t fz)) (hn : NoInt w g) : ∀ u ∈ cs, noU u := by
 intro u hu x e
 obtain ⟨i, hi, rfl⟩ := Array.mem_iff_getElem.1 hu
 refine hn i x ?_
 unfold World.cell?
 simp only [h]
 simp [hi, e]
/-- what is owned, and holds no word -/
def OwnN (w : World) (base : Nat) (e : TypeId) (size : Nat) (v : Value) (n : Nat) (xs : List Value) : Prop := w.ownsRow base e size v n xs ∧ ∀ g, v.ownBlock = some g → NoInt w g
theorem OwnN.nil (w : World) (base : Nat) (e : TypeId) (size : Nat) : OwnN w base e size (.slice none 0 0) 0 [] := ⟨World.ownsRow_nil w base e size, fun g h => by simp [Value.ownBlock] at h⟩
theorem OwnN.lt {w : World} {base : Nat} {e : TypeId} {size : Nat} {v : Value} {n : Nat} {xs : List Value} (h : OwnN w base e size v n xs) : ∀ k, v.ownBlock = some k → base ≤ k ∧ k < w.heap.size := h.1.lt
theorem OwnN.blw {w w' : World} {base : Nat} {e : TypeId} {size : Nat} {v : Value} {n : Nat} {xs : List Value} (h : OwnN w base e size v n xs) (hb : Below w.heap.size w w') : OwnN w' base e size v n xs :=
 ⟨h.1.kept ⟨hb.os, hb.tape, hb.output, hb.size, fun k hk _ => hb.block k hk⟩ (row := none) (by
  cases hv : v.ownBlock with
  | none => exact .inl rfl
  | some g => exact .inr (by simp)), fun g hg => (h.2 g hg).below hb (h.1.lt g hg).2⟩
theorem OwnN.only {w w' : World} {S : Nat → Prop} {base : Nat} {e : TypeId} {size : Nat} {v : Value} {n : Nat} {xs : List Value} (h : OwnN w base e size v n xs) (ho : Only S w w') (hS : ∀ g, v.ownBlock = some g → ¬ S g) : OwnN w' base e size v n xs := by
 have hk : ∀ g, v.ownBlock = some g → w'.heap[g]? = w.heap[g]? := fun g hg => ho.block g (h.1.lt g hg).2 (hS g hg)
 refine ⟨⟨h.1.1, ?_⟩, fun g hg o x he => h.2 g hg o x ((World.cell?_of_block (a := ⟨g, o, none⟩) (hk g hg)).symm.trans he)⟩
 rcases h.1.2 with h1 | ⟨g, cap, cur, hv, hb, hh, rest⟩
 ·exact .inl h1
 ·exact .inr ⟨g, cap, cur, hv, hb, (hk g (by rw [hv]; rfl)).trans hh, rest⟩
/-- append(s, x..) of at least one element -/
theorem oper_ownN {o : Oper} {a : Act} {w : World} {K : Act → World → Prop} {Q : Exit → Act → World → Prop} (s x : Operand) (t : TypeId)
 (ho : o.op = .call { callee := .builtin .append, args := #[s, x], argTypes := #[t, t] })
 (base : Nat) (e : TypeId) (i : TypeInfo) (z : Value) (size bytes : Nat) (ht : Try.prog.underlying t = some (.slice e)) (hi : Try.prog.info? e = some i) (hz : i.zero = some z)
 (hsize : i.size = size) (hby : i.bytes = bytes) (hzs : z.cells.size = size) (hsz : 0 < size) (hzn : ∀ u ∈ z.cells, noU u)
 (v : Value) (n : Nat) (xs : List Value) (hs : a.eval s = v) (hown : OwnN w base e size v n xs)
 (ad : Addr) (m c : Nat) (news : List Value) (hx : a.eval x = .slice (some ad) m c) (hl : news.length = m * size) (hnews : ∀ j u, news[j]? = some u → w.cell? (ad.add j) = some u) (h1 : ∀ u ∈ news, u.oneCell' = true) (hnn : ∀ u ∈ news, noU u) (hm : 0 < m)
 (h63 : n + m ≤ maxLen) (hbytes : (n + m) * bytes ≤ 140737488355328) (hbase : base ≤ w.heap.size)
 (h : ∀ v' w', OwnN w' base e size v' (n + m) (xs ++ news) → Only (fun b => v.ownBlock = some b) w w' → K (a.put o.dst v') w') : Oper.wp Try.prog o a w K Q := by
 obtain ⟨v', w', hr, h2, h3, -⟩ := run_append_own (P := Try.prog) w base t o.type e i z size bytes ht hi hz hsize hby hzs hsz v n xs hown.1 ad m c news hl hnews h1 h63 hbytes hbase
 have hon : Only (fun b => v.ownBlock = some b) w w' := ⟨h3.os, h3.tape, h3.output, h3.size, fun k hk hn => h3.block k hk (fun e => hn e.symm)⟩
 have hxs : ∀ u ∈ xs, noU u := by
  intro u hu y e2
  rcases hown.1.2 with ⟨rfl, rfl⟩ | ⟨g, cap, cur, hv, hb, hh, hn, hm, hs2, ht2⟩
  ·have : xs = [] := List.eq_nil_of_length_eq_zero (by simpa using hown.1.1)
   rw [this] at hu; cases hu
  ·refine noInt_mem hh (hown.2 g (by rw [hv]; rfl)) u ?_ y e2
   rw [← ht2] at hu
   exact Array.mem_toList_iff.1 (List.mem_of_mem_take hu)
 have hzc : ∀ k, ∀ u ∈ Builtin.zeroCells z.cells k, noU u := fun k u hu => hzn u (zeroCells_mem hu (by omega))
 have hbig : ∀ k, ∀ u ∈ xs.toArray ++ news.toArray ++ Builtin.zeroCells z.cells k, noU u := fun k u hu => by
  simp only [Array.mem_append, List.mem_toArray] at hu
  rcases hu with (hu | hu) | hu
  ·exact hxs u hu
  ·exact hnn u hu
  ·exact hzc k u hu
 have hN : ∀ g, v'.ownBlock = some g → NoInt w' g := by
  subst hsize hby
  rcases hown.1.2 with ⟨rfl, rfl⟩ | ⟨g, cap, cur, rfl, hbg, hg, hnc, hcm, hcs, htake⟩
  ·have hx0 : xs = [] := List.eq_nil_of_length_eq_zero (by simpa using hown.1.1)
   subst hx0
   have hr2 := run_append_nil (P := Try.prog) w t o.type e i z ht hi hz ad m c news hl hnews hm (by unfold maxLen at h63; omega) (by simp only [Nat.zero_add] at hbytes; omega)
   rw [hr2] at hr
   injection hr with e1 e2
   subst e1 e2
   intro g hg
   simp only [Value.ownBlock, Option.some.injEq] at hg
   subst hg
   refine noInt_cells (heap_alloc_new w.drew _) ?_
   have := hbig (grownCap w m 0 e - m)
   simpa using this
  ·by_cases hroom : n + m ≤ cap
   ·have hfit : n * i.size + news.length ≤ cur.size := by rw [hl, hcs, ← Nat.add_mul]; exact Nat.mul_le_mul_right _ hroom
    have hr2 := run_append_room (P := Try.prog) w t o.type e i ht hi g n cap cur hg ad m c news hl hnews h1 hroom hfit
    rw [hr2] at hr
    injection hr with e1 e2
    subst e1 e2
    intro g' hg'
    simp only [Value.ownBlock, Option.some.injEq] at hg'
    subst hg'
    refine noInt_cells (setRow_heap w g cur _ e _ hg) ?_
    intro u hu
    have hcu := noInt_mem hg (hown.2 g rfl)
    simp only [List.mem_toArray, List.mem_append] at hu
    rcases hu with (hu | hu) | hu
    ·exact hcu u (Array.mem_toList_iff.1 (List.mem_of_mem_take hu))
    ·exact hnn u hu
    ·exact hcu u (Array.mem_toList_iff.1 (List.mem_of_mem_drop hu))
   ·have holds : ∀ j u, xs[j]? = some u → w.cell? ((⟨g, 0, none⟩ : Addr).add j) = some u := hown.1.cells (g := g) rfl
    have hr2 := run_append_grow (P := Try.prog) w t o.type e i z ht hi hz ⟨g, 0, none⟩ n cap xs hown.1.1 holds ad m c news hl hnews (by omega) (by unfold maxLen at h63; omega) (growslice_fits (by omega) hbytes)
    rw [hr2] at hr
    injection hr with e1 e2
    subst e1 e2
    intro g' hg'
    simp only [Value.ownBlock, Option.some.injEq] at hg'
    subst hg'
    exact noInt_cells (heap_alloc_new w.drew _) (hbig _)
 unfold Oper.wp execOp
 simp only [ho, resolve, invoke, builtin, Sem.run_bind, Sem.run_pure, Result.andThen_ok, List.map_toArray, List.map_cons, List.map_nil, hs, hx, hr]
 exact h v' w' ⟨h2, hN⟩ hon
/-- append(s, x..) of at least one element -/
theorem wpList_ownN {ops : Array Oper} {rest : List Oper} {o : Oper} {a : Act} {w : World} {Q : Exit → Act → World → Prop} (hgd : o.guard = none) (s x : Operand) (t : TypeId)
 (ho : o.op = .call { callee := .builtin .append, args := #[s, x], argTypes := #[t, t] })
 (base : Nat) (e : TypeId) (i : TypeInfo) (z : Value) (size bytes : Nat) (ht : Try.prog.underlying t = some (.slice e)) (hi : Try.prog.info? e = some i) (hz : i.zero = some z)
 (hsize : i.size = size) (hby : i.bytes = bytes) (hzs : z.cells.size = size) (hsz : 0 < size) (hzn : ∀ u ∈ z.cells, noU u)
 (v : Value) (n : Nat) (xs : List Value) (hs : a.eval s = v) (hown : OwnN w base e size v n xs)
 (ad : Addr) (m c : Nat) (news : List Value) (hx : a.eval x = .slice (some ad) m c) (hl : news.length = m * size) (hnews : ∀ j u, news[j]? = some u → w.cell? (ad.add j) = some u) (h1 : ∀ u ∈ news, u.oneCell' = true) (hnn : ∀ u ∈ news, noU u) (hm : 0 < m)
 (h63 : n + m ≤ maxLen) (hbytes : (n + m) * bytes ≤ 140737488355328) (hbase : base ≤ w.heap.size)
 (h : ∀ v' w', OwnN w' base e size v' (n + m) (xs ++ news) → Only (fun b => v.ownBlock = some b) w w' → wpList Try.prog ops Q rest (a.put o.dst v') w') : wpList Try.prog ops Q (o :: rest) a w := 
 wpList_plain hgd fun K hK => oper_ownN s x t ho base e i z size bytes ht hi hz hsize hby hzs hsz hzn v n xs hs hown ad m c news hx hl hnews h1 hnn hm h63 hbytes hbase (fun v' w' g1 g2 => hK _ _ (h v' w' g1 g2))
/-- the same at a step of a region; the slot is given -/
theorem step_ownN {ops : Array Oper} {o : Oper} {a : Act} {w : World} {K : Act → World → Prop} {Q : Exit → Act → World → Prop} {E : Prop} (hgd : o.guard = none) (d : Nat) (hd : o.dst = some d) (s x : Operand) (t : TypeId)
 (ho : o.op = .call { callee := .builtin .append, args := #[s, x], argTypes := #[t, t] })
 (base : Nat) (e : TypeId) (i : TypeInfo) (z : Value) (size bytes : Nat) (ht : Try.prog.underlying t = some (.slice e)) (hi : Try.prog.info? e = some i) (hz : i.zero = some z)
 (hsize : i.size = size) (hby : i.bytes = bytes) (hzs : z.cells.size = size) (hsz : 0 < size) (hzn : ∀ u ∈ z.cells, noU u)
 (v : Value) (n : Nat) (xs : List Value) (hs : a.eval s = v) (hown : OwnN w base e size v n xs)
 (ad : Addr) (m c : Nat) (news : List Value) (hx : a.eval x = .slice (some ad) m c) (hl : news.length = m * size) (hnews : ∀ j u, news[j]? = some u → w.cell? (ad.add j) = some u) (h1 : ∀ u ∈ news, u.oneCell' = true) (hnn : ∀ u ∈ news, noU u) (hm : 0 < m)
 (h63 : n + m ≤ maxLen) (hbytes : (n + m) * bytes ≤ 140737488355328) (hbase : base ≤ w.heap.size)
 (h : ∀ v' w', OwnN w' base e size v' (n + m) (xs ++ news) → Only (fun b => v.ownBlock = some b) w w' → K ⟨a.tmps.setIfInBounds d v', a.defers⟩ w') : if Region.wanted o (yielded ops a.tmps) = true then Oper.wp Try.prog o a w K Q else E := by
 rw [if_pos (by simp [Region.wanted, hgd])]
 exact oper_ownN s x t ho base e i z size bytes ht hi hz hsize hby hzs hsz hzn v n xs hs hown ad m c news hx hl hnews h1 hnn hm h63 hbytes hbase (fun v' w' g1 g2 => by rw [hd]; exact h v' w' g1 g2)
end Go.Proofs.Ytlmbebbdamgfpaa
set_option linter.unusedVariables false
set_option linter.unusedSimpArgs false
namespace Go.Proofs.Ytlmbebbdamgfpaa
open Go.RowKit

theorem OwnN.form {w : World} {base : Nat} {e : TypeId} {size : Nat} {v : Value} {n : Nat} {xs : List Value} (h : OwnN w base e size v n xs) : ∃ a c, v = .slice a n c ∧ n ≤ c ∧ c ≤ 9223372036854775807 := by
 rcases h.1.2 with ⟨hv, rfl⟩ | ⟨g, cap, cur, hv, _, _, h1, h2, _⟩
 ·exact ⟨none, 0, hv, by omega, by omega⟩
 ·exact ⟨_, cap, hv, h1, by unfold maxLen at h2; exact h2⟩
theorem OwnN.ints {w : World} {base : Nat} {v : Value} {ps : List Nat} (h : OwnN w base 3 1 v ps.length (ps.map (iv .i64))) : IntsOf w v (ps.map (fun (p : Nat) => (p : Int))) := by
 refine ints_of_own (base := base) (e := 3) ?_
 rw [List.length_map, List.map_map]
 exact h.1

theorem big_pow (a b k : Nat) : (2 ^ a * 2 ^ b) ^ k = 2 ^ ((a + b) * k) := by rw [← Nat.pow_add, ← Nat.pow_mul]
theorem Sz.of_pow {k l : Nat} {z : Int} (h : z.natAbs ≤ 2 ^ k) (hk : k < l) : Sz l z := by
 unfold Sz
 exact Nat.lt_of_le_of_lt h (Nat.pow_lt_pow_right (by omega) hk)
/-- small entries -/
def Sml (M : List (List Int)) : Prop := M.length ≤ 64 ∧ ∀ r ∈ M, ∀ x ∈ r, x.natAbs ≤ 2 ^ 40
theorem vec_le {M : List (List Int)} (h : ∀ r ∈ M, ∀ x ∈ r, x.natAbs ≤ 2 ^ 40) : ∀ v ∈ M.map vec, ∀ j, (v j).natAbs ≤ 2 ^ 40 := by
 intro v hv j
 obtain ⟨r, hr, rfl⟩ := List.mem_map.1 hv
 rcases Nat.lt_or_ge j r.length with hj | hj
 ·rw [vec_at hj]; exact h r hr _ (List.getElem_mem _)
 ·rw [vec_out hj]; simp
/-- the elimination of the rows M0 has come to M -/
def ElimL (M0 M : List (List Int)) (ps : List Nat) (d : Int) (col : Nat) : Prop :=
 ∃ A : List (List Int), A.length = M0.length ∧ (∀ r, r ∈ A ↔ r ∈ M0) ∧ Elim (A.map vec) (M.map vec) ps d col ∧ (Ind (M0.map vec) ↔ Ind (M.map vec))
section
variable {M0 M : List (List Int)} {ps : List Nat} {d : Int} {col : Nat}
theorem ElimL.start (M : List (List Int)) : ElimL M M [] 1 0 := ⟨M, rfl, fun _ => Iff.rfl, Elim.start _, Iff.rfl⟩
theorem ElimL.len (h : ElimL M0 M ps d col) : M.length = M0.length := by
 obtain ⟨A, h1, h2, h3, h9⟩ := h
 have := h3.len
 simpa [h1] using this
theorem ElimL.sz (h : ElimL M0 M ps d col) (hs : Sml M0) : ∀ r ∈ M, ∀ x ∈ r, Sz 4000 x := by
 obtain ⟨A, h1, h2, h3, h9⟩ := h
 intro r hr x hx
 obtain ⟨j, hj, rfl⟩ := List.mem_iff_getElem.1 hx
 have hm := h3.minor (vec r) (List.mem_map.2 ⟨r, hr, rfl⟩)
 have h4 := hm.le (2 ^ 40) (2 ^ 6) (by rw [List.length_map, h1]; exact hs.1) (Nat.pow_pos (by omega)) (vec_le (fun r hr => hs.2 r ((h2 r).1 hr))) j
 rw [big_pow, vec_at hj] at h4
 exact Sz.of_pow h4 (by decide)
theorem ElimL.dsz (h : ElimL M0 M ps d col) (hs : Sml M0) : Sz 4000 d := by
 have h0 := h.sz hs
 obtain ⟨A, h1, h2, h3, h9⟩ := h
 rcases Nat.eq_zero_or_pos ps.length with hp | hp
 ·have : ps = [] := List.eq_nil_of_length_eq_zero hp
  subst this
  have h4 := h3.d1
  simp [det] at h4
  rw [h4]
  exact Sz.one (by omega)
 ·have hlt : 0 < M.length := by have := h3.len; have := h3.le; simp at *; omega
  have h4 := h3.diag 0 0 (by simpa using hlt) hp hp
  rw [if_pos rfl, List.getElem_map] at h4
  rw [← h4]
  rcases Nat.lt_or_ge ps[0] (M[0]).length with hj | hj
  ·rw [vec_at hj]; exact h0 _ (List.getElem_mem _) _ (List.getElem_mem _)
  ·rw [vec_out hj]; exact Sz.zero _
theorem ElimL.d0 (h : ElimL M0 M ps d col) : d ≠ 0 := by obtain ⟨A, h1, h2, h3, h9⟩ := h; exact h3.d0
theorem ElimL.le (h : ElimL M0 M ps d col) : ps.length ≤ M.length := by obtain ⟨A, h1, h2, h3, h9⟩ := h; have := h3.le; have := h3.len; simp at *; omega
theorem ElimL.skip (h : ElimL M0 M ps d col) (h0 : ∀ q, ps.length ≤ q → q < M.length → ent M q col = 0) : ElimL M0 M ps d (col + 1) := by
 obtain ⟨A, h1, h2, h3, h9⟩ := h
 refine ⟨A, h1, h2, h3.skip (fun i hi hp => ?_), h9⟩
 have h4 := h0 i hp (by simpa using hi)
 rw [List.getElem_map]
 rw [List.length_map] at hi
 simpa [ent, hi] using h4
theorem swapL_map {α β : Type} (f : α → β) (l : List α) (a b : Nat) (ha : a < l.length) (hb : b < l.length) : (swapL l a b ha hb).map f = swapL (l.map f) a b (by simpa using ha) (by simpa using hb) := by
 simp [swapL, List.map_set]
theorem ElimL.swap (h : ElimL M0 M ps d col) (a b : Nat) (ha : a < M.length) (hb : b < M.length) (h1 : ps.length ≤ a) (h2 : ps.length ≤ b) : ElimL M0 (swapL M a b ha hb) ps d col := by
 obtain ⟨A, e1, e2, e3, e9⟩ := h
 have hl : M.length = A.length := by have := e3.len; simpa using this
 have := e3.swap a b (by simpa using ha) (by simpa using hb) h1 h2
 rw [← swapL_map, ← swapL_map] at this
 ·exact ⟨swapL A a b (by omega) (by omega), by rw [swapL_len, e1], fun r => ⟨fun hr => (e2 r).1 (swapL_mem r hr), fun hr => swapL_mem' r ((e2 r).2 hr)⟩, this, by rw [swapL_map]; exact e9.trans (Ind.swap_iff _ _)⟩
 all_goals omega
/-- the rows behind a step -/
def stepM (M : List (List Int)) (place col : Nat) (d : Int) : List (List Int) :=
 M.mapIdx (fun i r => if i = place then r else oprL (ent M place col) (vec r col) d r (M[place]?.getD []))
theorem stepM_len {place : Nat} : (stepM M place col d).length = M.length := by simp [stepM]
theorem stepM_at {place i : Nat} (hi : i < M.length) (hp : place < M.length) : (stepM M place col d)[i]'(by rw [stepM_len]; exact hi) = if i = place then M[i] else oprL (ent M place col) (vec M[i] col) d M[i] M[place] := by
 simp [stepM, hp]
theorem vec_opr {h f d : Int} {zs ps : List Int} (hl : zs.length = ps.length) (j : Nat) : vec (oprL h f d zs ps) j = (h * vec zs j - f * vec ps j) / d := by
 rcases Nat.lt_or_ge j zs.length with hj | hj
 ·rw [vec_at (by simp [oprL]; omega), oprL_at _ hj (by omega), vec_at hj, vec_at (by omega)]
 ·rw [vec_out (by simp [oprL]; omega), vec_out hj, vec_out (by omega)]; simp
theorem ElimL.step {n : Nat} (h : ElimL M0 M ps d col) (hn : ∀ r ∈ M, r.length = n) (hk : ps.length < M.length) (hc : ent M ps.length col ≠ 0) : ElimL M0 (stepM M ps.length col d) (ps ++ [col]) (ent M ps.length col) (col + 1) := by
 obtain ⟨A, e1, e2, e3, e9⟩ := h
 have hk' : ps.length < (M.map vec).length := by simpa using hk
 have he : ent M ps.length col = (M.map vec)[ps.length] col := by simp [ent, hk]
 rw [he] at hc
 have := e3.step hk' hc ((stepM M ps.length col d).map vec) (by simp [stepM_len]) (fun h' j => by
  rw [List.getElem_map, List.getElem_map, stepM_at hk hk, if_pos rfl]) (fun i hi hi' hne j => by
  rw [List.length_map] at hi
  rw [List.getElem_map, stepM_at hi hk, if_neg hne, vec_opr (by rw [hn _ (List.getElem_mem _), hn _ (List.getElem_mem _)]), ← he]
  simp [ent, hk])
 rw [← he] at this
 -- the steps of rows
 have hs : ∀ i (hi : i < M.length) j, i ≠ ps.length → d * vec ((stepM M ps.length col d)[i]'(by rw [stepM_len]; exact hi)) j = ent M ps.length col * vec M[i] j - vec M[i] col * vec M[ps.length] j := fun i hi j hne => by
  obtain ⟨Y, -, y2, -⟩ := e3.exact hk' hc i (by simpa using hi) hne
  have h1 := y2 j
  rw [← he] at h1
  simp only [List.getElem_map] at h1
  rw [stepM_at hi hk, if_neg hne, vec_opr (by rw [hn _ (List.getElem_mem _), hn _ (List.getElem_mem _)]), ← h1, Int.mul_ediv_cancel_left _ e3.d0]
 have hpp : (stepM M ps.length col d)[ps.length]'(by rw [stepM_len]; exact hk) = M[ps.length] := by rw [stepM_at hk hk, if_pos rfl]
 refine ⟨A, e1, e2, this, e9.trans ⟨fun hI => ?_, fun hI => ?_⟩⟩
 ·refine hI.step (c := d) (α := fun i => if i = ps.length then d else ent M ps.length col) (β := fun i => if i = ps.length then 0 else -vec (M[i]?.getD []) col) (p := ps.length) (col := col) (by simp [stepM_len]) (by simpa using hk) (fun i hi hi' j => ?_) (fun i hi hip => by simp only [if_neg hip]; rw [he]; exact hc) (fun j => by simp only [List.getElem_map]; rw [hpp]) hc
  simp only [List.length_map] at hi
  simp only [List.getElem_map]
  by_cases hip : i = ps.length
  ·subst hip; rw [hpp, if_pos rfl, if_pos rfl]; omega
  ·rw [if_neg hip, if_neg hip, hs i hi j hip]
   simp only [List.getElem?_eq_getElem hi, Option.getD_some, Int.neg_mul]
   omega
 ·refine hI.step (c := ent M ps.length col) (α := fun i => if i = ps.length then ent M ps.length col else d) (β := fun i => if i = ps.length then 0 else vec (M[i]?.getD []) col) (p := ps.length) (col := col) (by simp [stepM_len]) (by simp [stepM_len]; exact hk) (fun i hi hi' j => ?_) (fun i hi hip => by simp only [if_neg hip]; exact e3.d0) (fun j => by simp only [List.getElem_map]; rw [hpp]) (by simp only [List.getElem_map]; rw [hpp]; have h7 := hc; simpa using h7)
  simp only [List.length_map] at hi'
  simp only [List.getElem_map]
  by_cases hip : i = ps.length
  ·subst hip; rw [hpp, if_pos rfl, if_pos rfl]; omega
  ·rw [if_neg hip, if_neg hip, hpp, hs i hi' j hip]
   simp only [List.getElem?_eq_getElem hi', Option.getD_some]
   omega
end
end Go.Proofs.Ytlmbebbdamgfpaa
set_option linter.unusedVariables false
set_option linter.unusedSimpArgs false
namespace Go.Proofs.Ytlmbebbdamgfpaa
open Go.RowKit

theorem infoI64 : (Try.prog.info? 3).map (fun i => (i.zero, i.size, i.bytes)) = some (some (.int .i64 0), 1, 8) := by kernel_rfl
/-- the blocks of a list of lines -/
def LnS (B : Nat) (l : List Ln) (b : Nat) : Prop := b = B ∨ ∃ i, ∃ h : i < l.length, b = l[i].1
theorem LnS.swap {B b : Nat} {l : List Ln} {i k : Nat} {hi : i < l.length} {hk : k < l.length} (h : LnS B (swapL l i k hi hk) b) : LnS B l b := by
 rcases h with h | ⟨q, hq, rfl⟩
 ·exact .inl h
 ·rw [swapL_len] at hq
  rw [swapL_at q hq]
  split
  ·exact .inr ⟨i, hi, rfl⟩
  ·split
   ·exact .inr ⟨k, hk, rfl⟩
   ·exact .inr ⟨q, hq, rfl⟩
theorem LnAt.off {w : World} {B n g o1 o2 : Nat} {l : List Ln} {M : List (List Int)} {s : Bool} {a : Option Addr} {n' c : Nat} (h : LnAt w B l n M) (hg : NoInt w g) (hne : ∀ b, LnS B l b → b ≠ g) : LnAt (st2 w g o1 o2 s a n' c) B l n M :=
 h.only (S := fun b => b = g) ((Only.refl _ _).off' (.inl rfl)) (fun b e => e ▸ hg) (hne B (.inl rfl)) (fun i hi => hne _ (.inr ⟨i, hi, rfl⟩))
theorem OwnN.off {w : World} {base size n g o1 o2 : Nat} {e : TypeId} {v : Value} {xs : List Value} {s' : Bool} {a' : Option Addr} {n' c' : Nat} (h : OwnN w base e size v n xs) (hne : ∀ k, v.ownBlock = some k → k ≠ g) : OwnN (st2 w g o1 o2 s' a' n' c') base e size v n xs :=
 h.only (S := fun b => b = g) ((Only.refl _ _).off' (.inl rfl)) hne
theorem ent_swap {M : List (List Int)} {a b : Nat} (ha : a < M.length) (hb : b < M.length) (j : Nat) : ent (swapL M a b ha hb) a j = ent M b j := by
 unfold ent
 rw [List.getElem?_eq_getElem (by rw [swapL_len]; exact ha), List.getElem?_eq_getElem hb, swapL_at a ha]
 by_cases e : a = b
 ·subst e; simp
 ·simp [e]
theorem only_new {S T : Nat → Prop} {w0 w w' : World} (h : Only S w0 w) (h2 : Only T w w') (hT : ∀ b, T b → w0.heap.size ≤ b) : Only S w0 w' :=
 ⟨h2.os.trans h.os, h2.tape.trans h.tape, h2.output.trans h.output, Nat.le_trans h.size h2.size, fun k hk hn => (h2.block k (Nat.lt_of_lt_of_le hk h.size) (fun e => by have := hT k e; omega)).trans (h.block k hk hn)⟩
theorem td_any {α : Type} {A B : List α} {i k : Nat} (h : A.length = B.length) (hi : i ≤ B.length) (hk : k < B.length) : (A.take i ++ B.drop i)[k]'(by rw [td_len h hi]; exact hk) = if k < i then A[k]'(by omega) else B[k] := by
 by_cases e : k < i
 ·rw [if_pos e, List.getElem_append_left (by simp; omega), List.getElem_take]
 ·rw [if_neg e, List.getElem_append_right (by simp; omega), List.getElem_drop]
  congr 1
  simp; omega
theorem cell_one_new' (w : World) (v : Value) (t : TypeId) : ∀ j u, [v][j]? = some u → (w.alloc (.cells #[v] t)).cell? ((⟨w.heap.size, 0, none⟩ : Addr).add j) = some u := by
 intro j u h
 match j, h with
 | 0, h => simp at h; subst h; exact (One.new w t v).cell
 | j + 1, h => simp at h
theorem td_same {α : Type} {A B : List α} {j : Nat} (h : A.length = B.length) (hj : j < B.length) (he : A[j]'(by omega) = B[j]) : A.take j ++ B.drop j = A.take (j + 1) ++ B.drop (j + 1) := by
 rw [← td_set h hj]
 refine List.ext_getElem (by simp) (fun k h1 h2 => ?_)
 rw [List.getElem_set]
 split
 ·next e => subst e; rw [td_at h hj, he]
 ·rfl
/-- what eliminate answers -/
def ElimPost (w0 : World) (B n : Nat) (l : List Ln) (M : List (List Int)) (e : Ending) (w' : World) : Prop :=
 ∃ vp s a c' n' d l' M' ps col, e = .returned (.tuple #[vp, .agg #[.bool s, .slice a n' c']]) ∧ WInt w' (.agg #[.bool s, .slice a n' c']) d ∧ IntsOf w' vp (ps.map (fun (p : Nat) => (p : Int))) ∧ LnAt w' B l' n M' ∧ l'.length = l.length ∧
  ElimL M M' ps d col ∧ (∀ i, ∀ h : i < M'.length, ps.length ≤ i → ∀ j, vec M'[i] j = 0) ∧ (∀ p ∈ ps, p < n) ∧ Only (LnS B l) w0 w'
theorem ElimL.rest {M0 M : List (List Int)} {ps : List Nat} {d : Int} {n : Nat} (h : ElimL M0 M ps d n) (hn : ∀ r ∈ M, r.length = n) : ∀ i, ∀ h : i < M.length, ps.length ≤ i → ∀ j, vec M[i] j = 0 := by
 obtain ⟨A, e1, e2, e3, -⟩ := h
 intro i hi hp j
 rcases Nat.lt_or_ge j n with hj | hj
 ·have := e3.zero i (by simpa using hi) hp j hj
  simpa using this
 ·exact vec_out (by rw [hn _ (List.getElem_mem _)]; exact hj)
theorem ElimL.plt {M0 M : List (List Int)} {ps : List Nat} {d : Int} {col : Nat} (h : ElimL M0 M ps d col) : ∀ p ∈ ps, p < col := by obtain ⟨A, e1, e2, e3, -⟩ := h; exact e3.lt
theorem LnAt.rowsN {w : World} {B n : Nat} {l : List Ln} {M : List (List Int)} (h : LnAt w B l n M) : ∀ r ∈ M, r.length = n := by
 intro r hr
 obtain ⟨i, hi, rfl⟩ := List.mem_iff_getElem.1 hr
 exact (h.row i (by rw [← h.len]; exact hi)).2
theorem LnAt.rowLt {w : World} {B n : Nat} {l : List Ln} {M : List (List Int)} (h : LnAt w B l n M) (i : Nat) (hi : i < l.length) : l[i].1 < w.heap.size := (h.row i hi).1.lt

set_option maxRecDepth 100000 in
set_option maxHeartbeats 16000000 in
theorem eliminate_any (w0 : World) (B cB n : Nat) (l0 : List Ln) (M0 : List (List Int)) (h : LnAt w0 B l0 n M0) (hl0 : 0 < l0.length) (hcB : l0.length ≤ cB) (hcB2 : cB ≤ 9223372036854775807) (hn : n ≤ 1000) (hs : Sml M0) :
 Calls Try.prog 50 #[.slice (some ⟨B, 0, none⟩) l0.length cB] w0 (ElimPost w0 B n l0 M0) := by
 obtain ⟨i0, hi, hz0, hz1, hz2⟩ := info_parts infoI64
 have Hi := hZ hi
 have Hz0 := hZ hz0
 have Hz1 := hZ hz1
 have Hz2 := hZ hz2
 clear hi hz0 hz1 hz2
 have K := hZ h
 have HO := hZ (Only.refl (LnS B l0) w0)
 have HS := hZ hs
 have hl64 : l0.length ≤ 64 := by rw [← h.len]; exact hs.1
 have HE := hZ (ElimL.start M0)
 have HB0 := hZ h.lt
 have HL : Hid (∀ b, LnS B l0 b → LnS B l0 b) := hZ (fun _ h => h)
 have HLT0 : Hid (∀ b, LnS B l0 b → b < w0.heap.size) := hZ (fun b hb => by
  rcases hb with rfl | ⟨i, hi, rfl⟩
  ·exact h.lt
  ·exact h.rowLt i hi)
 clear h hs
 obtain ⟨w1, hw⟩ : ∃ w', w0.alloc (.cells #[.bool false, .slice none 0 0] 58) = w' := ⟨_, rfl⟩
 have hB := aB hw
 obtain ⟨br, hb⟩ : ∃ b, w0.heap.size = b := ⟨_, rfl⟩
 have Tr' : Hid (Two w1 br 58 (.bool false) (.slice none 0 0)) := hZ (by rw [← hw, ← hb]; exact Two.new w0 58 (.bool false) (.slice none 0 0))
 have Hbr : Hid (w0.heap.size ≤ br) := hZ (by omega)
 replace K := hZ (K.o.blw hB)
 replace HO := hZ (HO.o.blw hB)
 clear hB
 have Tr := Tr'
 clear Tr'
 go_enter Try.func50, Try.ntmps50
 go_wp2_with fail
 clear hw hb
 refine (from_b (w := w1) 1 (by omega) (by omega)).mono ?_
 rintro e w2 ⟨s_u, a_u, n_u, c_u, rfl, h_u, hB⟩
 have Vu := hZ h_u
 replace K := hZ (K.o.blw hB)
 replace Tr := hZ (Tr.o.blw hB)
 replace HO := hZ (HO.o.blw hB)
 clear hB
 clear h_u
 have Hlr := hZ Tr.o.lt
 obtain ⟨w3, hw⟩ : ∃ w', (w2.alloc (.cells #[.bool s_u, .slice a_u n_u c_u] 58)) = w' := ⟨_, rfl⟩
 have hB := aB hw
 obtain ⟨bd, hb_bd⟩ : ∃ b, w2.heap.size = b := ⟨_, rfl⟩
 have h9 := Bx.new (w := w2) Vu.o
 rw [hw, hb_bd] at h9
 have Fd' := hZ h9
 have hge_bd : w2.heap.size ≤ bd := by omega
 clear h9
 replace K := hZ (K.o.blw hB)
 replace Tr := hZ (Tr.o.blw hB)
 replace Vu := hZ (Vu.o.blw hB)
 replace HO := hZ (HO.o.blw hB)
 have Fd := Fd'
 clear Fd'
 clear hB
 have Hbd : Hid (br < bd) := hZ (by have := Hlr.o; omega)
 clear hge_bd Hlr
 have hl1 : (0 : Int) < (l0.length : Int) := by omega
 have hl2 : ((l0.length : Int) == 0) = false := by rw [beq_eq_false_iff_ne]; omega
 have hl3 : (l0.length == 0) = false := by rw [beq_eq_false_iff_ne]; omega
 obtain ⟨x0, x1⟩ := K.o.get 0 hl0
 simp only [Nat.zero_mul] at x0 x1
 generalize l0[0].1 = g0 at *
 generalize l0[0].2.1 = gc0 at *
 go_wp2_with fail
 clear hw hb_bd
 clear Vu
 clear x0 x1 hl2 hl3
 obtain ⟨B0, hB0⟩ : ∃ b, w3.heap.size = b := ⟨_, rfl⟩
 have HB1 : Hid (br < B0 ∧ bd < B0 ∧ w0.heap.size ≤ B0) := hZ (by rw [← hB0]; exact ⟨Tr.o.lt, Fd.o.lt, HO.o.size⟩)
 have Wp : Hid (OwnN w3 B0 3 1 (.slice none 0 0) ([] : List Nat).length (([] : List Nat).map (iv .i64))) := hZ (OwnN.nil _ _ _ _)
 have Hsz : Hid (B0 ≤ w3.heap.size) := hZ (by omega)
 clear hB0
 go_loopw [22, 5] (fun i vp wr => ∃ (j : Nat) (l : List Ln) (M : List (List Int)) (ps : List Nat) (d : Int), j ≤ n ∧ i = .int .i64 j ∧ Hid (ElimL M0 M ps d j) ∧ Hid (LnAt wr B l n M) ∧ Hid (l.length = l0.length ∧ ∀ b, LnS B l b → LnS B l0 b) ∧ Hid (Two wr br 58 (.bool false) (.slice none 0 0)) ∧ Hid (Bx wr bd d) ∧ Hid (OwnN wr B0 3 1 vp ps.length (ps.map (iv .i64))) ∧ Hid (B0 ≤ wr.heap.size) ∧ Hid (Only (LnS B l0) w0 wr)) (fun i _ _ => n - (intOf i).toNat)
 case atStart => exact ⟨0, l0, M0, [], 1, by omega, rfl, HE, K, hZ ⟨rfl, HL.o⟩, Tr, Fd, Wp, Hsz, HO⟩
 case round =>
  clear HE K Tr Fd Wp Hsz HO HL
  obtain ⟨j, l, M, ps, d, hj, rfl, HE, K, HL, Tr, Fd, Wp, Hsz, HO⟩ := hrel
  obtain ⟨w3, rfl⟩ : ∃ w' : World, w' = wr := ⟨_, rfl⟩
  obtain ⟨pa, pc, hv, hpc1, hpc2⟩ := Wp.o.form
  subst hv
  have hl := HL.o.1
  have hlm := K.o.len
  have hpl : ps.length ≤ l.length := by have := HE.o.le; omega
  by_cases hlt : j < n
  ·skip
   have i1 : (0 : Int) ≤ (j : Int) := by omega
   have i2 : (j : Int) < (n : Int) := by omega
   obtain ⟨w4, hw⟩ : ∃ w', w3.alloc (.cells #[.int .i64 (j : Int)] 3) = w' := ⟨_, rfl⟩
   have hB := aB hw
   obtain ⟨bc, hb⟩ : ∃ b, w3.heap.size = b := ⟨_, rfl⟩
   have Oc' : Hid (One w4 bc 3 (.int .i64 (j : Int))) := hZ (by rw [← hw, ← hb]; exact One.new _ _ _)
   have Hbc : Hid (B0 ≤ bc ∧ ∀ k, (Value.slice pa ps.length pc).ownBlock = some k → k < bc) := hZ ⟨by have := Hsz.o; omega, fun k hk => by have := (Wp.o.lt k hk).2; omega⟩
   have Hrows : Hid (∀ b, LnS B l b → b < w0.heap.size) := hZ (fun b hb2 => HLT0.o b (HL.o.2 b hb2))
   replace Hsz := hZ (Nat.le_trans Hsz.o hB.size)
   replace K := hZ (K.o.blw hB)
   replace Tr := hZ (Tr.o.blw hB)
   replace Fd := hZ (Fd.o.blw hB)
   replace Wp := hZ (Wp.o.blw hB)
   replace HO := hZ (HO.o.blw hB)
   clear hB
   have Oc := Oc'
   clear Oc'
   by_cases hpe : ps.length = l.length
   ·skip
    have s1 : ((ps.length : Int) == (l.length : Int)) = true := by simp [hpe]
    have s2 : (ps.length == l.length) = true := by simp [hpe]
    have s3 : ((ps.length : Int) == (l0.length : Int)) = true := by rw [← hl]; exact s1
    have s4 : (ps.length == l0.length) = true := by rw [← hl]; exact s2
    have Hpe := hZ hpe
    clear hpe
    go_wp2_with fail
    clear hw hb s1 s2 s3 s4
    obtain ⟨w5, hwd⟩ : ∃ w', w4.drew = w' := ⟨_, rfl⟩
    have hB := dB hwd
    replace K := hZ (K.o.blw hB)
    replace Tr := hZ (Tr.o.blw hB)
    replace Fd := hZ (Fd.o.blw hB)
    replace Wp := hZ (Wp.o.blw hB)
    replace Oc := hZ (Oc.o.blw hB)
    replace HO := hZ (HO.o.blw hB)
    clear hB
    have HBr : Hid (Only (fun b => False) w5 w5) := hZ (Only.refl _ _)
    refine startL [3] (fun w' => Only (fun b => False) w5 w') (by kernel_rfl) (by rw [hwd]; exact Only.refl _ _) (fun hHeld => ?_)
    rw [hwd] at hHeld ⊢
    clear hwd
    obtain ⟨s_d, a_d, n_d, c_d, t_d, h_d⟩ := Fd.o
    have d0d := t_d.cell0
    have d1d := t_d.cell1
    have Vd := hZ h_d
    clear t_d h_d
    refine pP 0 68 (v := ?_) rfl rfl ?_ ?_
    rotate_left
    ·(intro w; go_simp; first | done | with_reducible rfl)
    simp only [sX1, sX2, sX3]
    refine tP 1 69 (v := ?_) rfl rfl ?_ ?_
    rotate_left
    ·(intro w hSw; have x0 := (hSw.cell (p := ⟨bd, 0, none⟩) (fun h => h) Fd.o.lt).trans d0d; have x1 := (hSw.cell (p := ⟨bd, 1, none⟩) (fun h => h) Fd.o.lt).trans d1d; go_simp; first | done | with_reducible rfl)
    simp only [sX1, sX2, sX3]
    clear d0d d1d
    refine pP 2 2 (v := ?_) rfl rfl ?_ ?_
    rotate_left
    ·(intro w; go_simp; first | done | with_reducible rfl)
    simp only [sX1, sX2, sX3]
    have e0 := Tr.o.cell0
    have e1 := Tr.o.cell1
    have e2 := Tr.o.frozen 0
    have e3 := Tr.o.frozen 1
    have hn9 : NoInt w5 (br) := Tr.o.noInt (fun _ h => by cases h) (fun _ h => by cases h)
    obtain ⟨w6, hw⟩ : ∃ w', (w5.setCell ⟨br, 0, none⟩ (.bool s_d)).setCell ⟨br, 1, none⟩ (.slice a_d n_d c_d) = w' := ⟨_, rfl⟩
    have hw2 : st2 w5 (br) (0) (1) s_d a_d n_d c_d = w6 := hw
    replace Tr := hZ (Two.put1 (s := s_d) (a := a_d) (n := n_d) (c := c_d) Tr.o)
    rw [hw2] at Tr
    replace K := hZ (LnAt.off (g := br) (o1 := 0) (o2 := 1) (s := s_d) (a := a_d) (n' := n_d) (c := c_d) K.o hn9 (fun b hb => by have h1 := HLT0.o b (HL.o.2 b hb); have h2 := Hbr.o; have h3 := Hbd.o; omega))
    rw [hw2] at K
    replace Fd := hZ (Fd.o.offe hw2 hn9 (by have := Hbd.o; have := HB1.o; first | omega | (have := Hbc.o; omega)))
    replace Wp := hZ (OwnN.off (g := br) (o1 := 0) (o2 := 1) (s' := s_d) (a' := a_d) (n' := n_d) (c' := c_d) Wp.o (fun k hk => by have h1 := (Wp.o.lt k hk).1; have h2 := HB1.o; omega))
    rw [hw2] at Wp
    replace Oc := hZ (Oc.o.offe hw2 (by have := Hbd.o; have := HB1.o; first | omega | (have := Hbc.o; omega)))
    replace Vd := hZ (Vd.o.offe hw2 hn9)
    replace HO := hZ (HO.o.offe hw2 (Or.inr Hbr.o))
    clear hw2 hn9
    refine lateL 3 (by kernel_rfl) (by decide) rfl (fun K hK => ?_)
    go_simp
    try rw [hw]
    refine hK.out _ _ ?_
    clear hK K
    try simp only [Act.put, sX1, sX2, sX3]
    clear hw e0 e1 e2 e3
    refine doneL (by kernel_rfl) ?_ _
    clear hHeld
    have g0 := Tr.o.cell0
    have g1 := Tr.o.cell1
    go_wp2_with fail
    exact bodyPost_ret (v := .tuple #[.slice pa ps.length pc, .agg #[.bool s_d, .slice a_d n_d c_d]]) (by simp [results, Try.results50, go_sem, g0, g1]) rfl ⟨_, _, _, _, _, d, l, M, ps, _, rfl, Vd.o, Wp.o.ints, K.o, HL.o.1, HE.o, fun i hi hp => by have := Hpe.o; have := K.o.len; omega, fun p hp => Nat.lt_of_lt_of_le (HE.o.plt p hp) hj, HO.o⟩
   ·skip
    have s1 : ((ps.length : Int) == (l.length : Int)) = false := by rw [beq_eq_false_iff_ne]; omega
    have s2 : (ps.length == l.length) = false := by rw [beq_eq_false_iff_ne]; omega
    have s3 : ((ps.length : Int) == (l0.length : Int)) = false := by rw [← hl]; exact s1
    have s4 : (ps.length == l0.length) = false := by rw [← hl]; exact s2
    have dc := Oc.o.cell
    have hbd := Hbd.o
    go_wp2_with fail
    clear hw hb s1 s2 s3 s4 dc hbd
    have hLd := lead_any w4 B cB n ps.length j l M K.o (by omega) (by omega) hcB2 hpl hlt hn (HE.o.sz HS.o)
    rw [hl] at hLd
    have HLd := hZ hLd
    clear hLd
    refine HLd.o.mono ?_
    rintro e w5 ⟨ho, hP⟩
    clear HLd
    have hN : ∀ b, b = B → NoInt w4 b := fun b e => e ▸ K.o.noInt
    have HBb : Hid (B < w0.heap.size) := HB0
    rcases hP with ⟨rfl, hz, hK⟩ | ⟨i, hi, hp, hi', hp', hpi, hci, rfl, hK⟩
    ·skip
     replace K := hZ (hK)
     replace Tr := hZ (Tr.o.only ho (by intro (e : _ = B); have := HB0.o; have := Hbr.o; have := Hbd.o; have := HB1.o; have := Hbc.o; omega))
     replace Fd := hZ (Fd.o.only ho hN (by intro (e : _ = B); have := HB0.o; have := Hbr.o; have := Hbd.o; have := HB1.o; have := Hbc.o; omega))
     replace Wp := hZ (Wp.o.only ho (by intro g hg (e : g = B); have := (Wp.o.lt g hg).1; have := HB0.o; have := HB1.o; omega))
     replace Oc := hZ (Oc.o.only ho (by intro (e : _ = B); have := HB0.o; have := Hbr.o; have := Hbd.o; have := HB1.o; have := Hbc.o; omega))
     replace HO := hZ (HO.o.trans (ho.mono (fun b e => e ▸ .inl rfl)))
     replace Hsz := hZ (Nat.le_trans Hsz.o ho.size)
     clear ho hN hK
     go_wp2_with fail
     go_roundw
     case rel => exact ⟨j + 1, l, M, ps, d, by omega, by go_num, hZ (HE.o.skip (fun q h1 h2 => hz q h1 (by have := K.o.len; omega))), K, HL, Tr, Fd, Wp, Hsz, HO⟩
     case measure => simp [intOf]; omega
    ·skip
     replace K := hZ (hK)
     replace Tr := hZ (Tr.o.only ho (by intro (e : _ = B); have := HB0.o; have := Hbr.o; have := Hbd.o; have := HB1.o; have := Hbc.o; omega))
     replace Fd := hZ (Fd.o.only ho hN (by intro (e : _ = B); have := HB0.o; have := Hbr.o; have := Hbd.o; have := HB1.o; have := Hbc.o; omega))
     replace Wp := hZ (Wp.o.only ho (by intro g hg (e : g = B); have := (Wp.o.lt g hg).1; have := HB0.o; have := HB1.o; omega))
     replace Oc := hZ (Oc.o.only ho (by intro (e : _ = B); have := HB0.o; have := Hbr.o; have := Hbd.o; have := HB1.o; have := Hbc.o; omega))
     replace HO := hZ (HO.o.trans (ho.mono (fun b e => e ▸ .inl rfl)))
     replace Hsz := hZ (Nat.le_trans Hsz.o ho.size)
     clear ho hN hK
     have HE1 := hZ (HE.o.swap ps.length i hp' hi' (Nat.le_refl _) hpi)
     have HC1 : Hid (ent (swapL M ps.length i hp' hi') ps.length j ≠ 0) := hZ (by rw [ent_swap]; exact hci)
     have hplt : ps.length < l0.length := by omega
     have HL1 : Hid ((swapL l ps.length i hp hi).length = l0.length ∧ ∀ b, LnS B (swapL l ps.length i hp hi) b → LnS B l0 b) := hZ ⟨by rw [swapL_len]; exact hl, fun b hb => HL.o.2 b hb.swap⟩
     clear HE hci HL
     generalize swapL M ps.length i hp' hi' = M1 at *
     generalize swapL l ps.length i hp hi = l1 at *
     clear hi' hp' hp hi hpi i hlm hpl hpe
     have HL := HL1
     clear HL1
     have hl' := HL.o.1
     have hlm := K.o.len
     have hp1 : ps.length < l1.length := by omega
     have hpM : ps.length < M1.length := by omega
     obtain ⟨x0, x1⟩ := K.o.get ps.length hp1
     have hcap := K.o.cap ps.length hp1
     obtain ⟨gp, hgp⟩ : ∃ g, l1[ps.length].1 = g := ⟨_, rfl⟩
     obtain ⟨cp, hcp⟩ : ∃ c, l1[ps.length].2.1 = c := ⟨_, rfl⟩
     have Hgp := hZ hgp
     rw [hgp, hcp] at x0
     rw [hcp] at hcap
     obtain ⟨hcap1, hcap2⟩ := hcap
     clear x1 hcp
     have k1 : (0 : Int) ≤ (ps.length : Int) := by omega
     have k2 : (ps.length : Int) < (l0.length : Int) := by omega
     obtain ⟨w6, hw⟩ : ∃ w', w5.alloc (.cells #[.slice (some ⟨gp, 0, none⟩) n cp] 55) = w' := ⟨_, rfl⟩
     have hB := aB hw
     obtain ⟨bp, hb⟩ : ∃ b, w5.heap.size = b := ⟨_, rfl⟩
     have Op' : Hid (One w6 bp 55 (.slice (some ⟨gp, 0, none⟩) n cp)) := hZ (by rw [← hw, ← hb]; exact One.new _ _ _)
     have Hbp : Hid (bc < bp) := hZ (by rw [← hb]; exact Oc.o.lt)
     replace Hsz := hZ (Nat.le_trans Hsz.o hB.size)
     replace K := hZ (K.o.blw hB)
     replace Tr := hZ (Tr.o.blw hB)
     replace Fd := hZ (Fd.o.blw hB)
     replace Wp := hZ (Wp.o.blw hB)
     replace Oc := hZ (Oc.o.blw hB)
     replace HO := hZ (HO.o.blw hB)
     clear hB
     have Op := Op'
     clear Op'
     obtain ⟨hrow, hrl⟩ := K.o.row ps.length hp1
     obtain ⟨s_h, a_h, n_h, c_h, d0h, d1h, h_h⟩ := hrow.get j (by omega)
     have he : ent M1 ps.length j = (M1[ps.length]'hpM)[j]'(by omega) := ent_at hpM (by omega)
     rw [← he] at h_h
     rw [hgp] at d0h d1h
     have Vh := hZ h_h
     clear h_h hrow hrl he hgp
     have Sh : Hid (Sz 4000 (ent M1 ps.length j)) := hZ (by have hz := HE1.o.sz HS.o; have hl9 := K.o.rowsN _ (List.getElem_mem hpM); rw [ent_at hpM (by omega)]; exact hz _ (List.getElem_mem _) _ (List.getElem_mem _))
     have dp := Op.o.cell
     have dc := Oc.o.cell
     obtain ⟨h, hh⟩ : ∃ h, ent M1 ps.length j = h := ⟨_, rfl⟩
     have Hh := hZ hh
     rw [hh] at Vh Sh HC1
     clear hh
     have Hlt := hZ Op.o.lt
     obtain ⟨w7, hw⟩ : ∃ w', (w6.alloc (.cells #[.bool s_h, .slice a_h n_h c_h] 58)) = w' := ⟨_, rfl⟩
     have hB := aB hw
     obtain ⟨bh, hb_bh⟩ : ∃ b, w6.heap.size = b := ⟨_, rfl⟩
     have h9 := Bx.new (w := w6) Vh.o
     rw [hw, hb_bh] at h9
     have Fh' := hZ h9
     have hge_bh : w6.heap.size ≤ bh := by omega
     clear h9
     replace K := hZ (K.o.blw hB)
     replace Tr := hZ (Tr.o.blw hB)
     replace Fd := hZ (Fd.o.blw hB)
     replace Wp := hZ (Wp.o.blw hB)
     replace Oc := hZ (Oc.o.blw hB)
     replace Op := hZ (Op.o.blw hB)
     replace Vh := hZ (Vh.o.blw hB)
     replace HO := hZ (HO.o.blw hB)
     have Fh := Fh'
     clear Fh'
     clear hB
     have Hbh : Hid (bp < bh) := hZ (by have := Hlt.o; omega)
     replace Hsz : Hid (B0 ≤ w7.heap.size) := hZ (by have := Fh.o.lt; have := Hbh.o; have := Hbp.o; have := Hbc.o; omega)
     clear Hlt hge_bh
     go_wp2_with fail
     clear hb
     clear hb_bh d0h d1h dp dc x0 k1 k2
     clear Vh
     have HTl : Hid ((stepM M1 ps.length j d).length = M1.length) := hZ stepM_len
     have Sd := hZ (HE1.o.dsz HS.o)
     have D0 := hZ HE1.o.d0
     have HP1 := hZ K.o.rowsN
     go_loopw [48] (fun x wr => ∃ i : Nat, i ≤ l0.length ∧ x = .int .i64 i ∧ Hid (LnAt wr B l1 n ((stepM M1 ps.length j d).take i ++ M1.drop i)) ∧ Hid (Two wr br 58 (.bool false) (.slice none 0 0)) ∧ Hid (Bx wr bd d) ∧ Hid (OwnN wr B0 3 1 (.slice pa ps.length pc) ps.length (ps.map (iv .i64))) ∧ Hid (One wr bc 3 (.int .i64 (j : Int))) ∧ Hid (One wr bp 55 (.slice (some ⟨gp, 0, none⟩) n cp)) ∧ Hid (Bx wr bh h) ∧ Hid (B0 ≤ wr.heap.size) ∧ Hid (Only (LnS B l0) w0 wr)) (fun x _ => l0.length - (intOf x).toNat)
     case atStart => exact ⟨0, by omega, rfl, hZ (by simpa using K.o), Tr, Fd, Wp, Oc, Op, Fh, Hsz, HO⟩
     case round =>
      clear K Tr Fd Wp Oc Op Fh Hsz HO
      obtain ⟨i, hi, rfl, K, Tr, Fd, Wp, Oc, Op, Fh, Hsz, HO⟩ := hrel
      obtain ⟨w7, rfl⟩ : ∃ w' : World, w' = wr := ⟨_, rfl⟩
      by_cases hil : i < l0.length
      ·skip
       have k1 : (0 : Int) ≤ (i : Int) := by omega
       have k2 : (i : Int) < (l0.length : Int) := by omega
       have hi1 : i < l1.length := by omega
       have hiM : i < M1.length := by omega
       by_cases hip : i = ps.length
       ·skip
        have s1 : ((i : Int) != (ps.length : Int)) = false := by simp [hip]
        have s2 : (i != ps.length) = false := by simp [hip]
        have s3 : ((i : Int) == (ps.length : Int)) = true := by simp [hip]
        have s4 : (i == ps.length) = true := by simp [hip]
        have Hip := hZ hip
        clear hip
        go_wp2_with fail
        go_roundw
        case rel => exact ⟨i + 1, by omega, by go_num, hZ (by have h1 := K.o; rw [td_same HTl.o hiM (by rw [stepM_at hiM hpM, if_pos Hip.o])] at h1; exact h1), Tr, Fd, Wp, Oc, Op, Fh, Hsz, HO⟩
        case measure => simp [intOf]; omega
       ·skip
        have s1 : ((i : Int) != (ps.length : Int)) = true := by simp; omega
        have s2 : (i != ps.length) = true := by simp; omega
        have s3 : ((i : Int) == (ps.length : Int)) = false := by rw [beq_eq_false_iff_ne]; omega
        have s4 : (i == ps.length) = false := by rw [beq_eq_false_iff_ne]; omega
        obtain ⟨x0, x1⟩ := K.o.get i hi1
        have hcap := K.o.cap i hi1
        obtain ⟨gi, hgi⟩ : ∃ g, l1[i].1 = g := ⟨_, rfl⟩
        obtain ⟨ci, hci⟩ : ∃ c, l1[i].2.1 = c := ⟨_, rfl⟩
        rw [hgi, hci] at x0
        rw [hci] at hcap
        obtain ⟨hcap3, hcap4⟩ := hcap
        clear x1 hci
        have Hgi := hZ hgi
        clear hgi
        go_wp2_with fail
        clear x0 s1 s2 s3 s4
        have Htd : ((stepM M1 ps.length j d).take i ++ M1.drop i).length = M1.length := td_len HTl.o (by omega)
        obtain ⟨hri, hrl⟩ := K.o.row i hi1
        rw [Hgi.o] at hri
        rw [td_any HTl.o (by omega) hiM, if_neg (by omega)] at hri hrl
        obtain ⟨hrp, hpl⟩ := K.o.row ps.length hp1
        rw [Hgp.o] at hrp
        have hpe : ((stepM M1 ps.length j d).take i ++ M1.drop i)[ps.length]'(by omega) = M1[ps.length] := by rw [td_any HTl.o (by omega) hpM]; split; rw [stepM_at hpM hpM, if_pos rfl]; rfl
        rw [hpe] at hrp hpl
        have hgg : gp ≠ gi := by rw [← Hgp.o, ← Hgi.o]; exact K.o.nodup _ _ hp1 hi1 (fun e => hip e.symm)
        have hgw : gi < w0.heap.size := HLT0.o gi (HL.o.2 gi (.inr ⟨i, hi1, Hgi.o.symm⟩))
        have hblk : bc ≠ gi ∧ bh ≠ gi ∧ bp ≠ gi ∧ bd ≠ gi ∧ br ≠ gi := by have := Hbr.o; have := Hbd.o; have := HB1.o; have := Hbc.o; have := Hbp.o; have := Hbh.o; omega
        have hsz := HE1.o.sz HS.o
        have hji : j < M1[i].length := by omega
        have hO := operate_any w7 gi gp bc bh bp bd n ci cp j M1[i] M1[ps.length] h ((M1[i])[j]'hji) d hri hrp hrl hpl hn hcap3 hcap4 hcap1 hcap2 hlt rfl Oc.o Fh.o Op.o Fd.o D0.o ⟨hgg, hblk.1, hblk.2.1, hblk.2.2.1, hblk.2.2.2.1⟩ (hsz _ (List.getElem_mem _)) (hsz _ (List.getElem_mem _)) Sh.o Sd.o
        have HOp := hZ hO
        have HN : Hid (∀ b, b = gi → NoInt w7 b) := hZ (fun b e => e ▸ hri.noInt)
        have Hblk := hZ hblk
        have Hgw := hZ hgw
        have Hrl := hZ (And.intro hrl hpl)
        clear hO hri hrl hrp hpl hpe hgg hgw hblk hsz
        refine HOp.o.mono ?_
        rintro e w8 ⟨⟨v, rfl⟩, hr, ho⟩
        clear HOp
        have hK := K.o.turn (i := i) hi1 (oprL_len (h := h) (f := (M1[i])[j]'(by have := Hrl.o; omega)) (d := d) Hrl.o.1 Hrl.o.2) (by rw [Hgi.o]; exact hr) (by rw [Hgi.o]; exact ho)
        have hst : oprL h ((M1[i])[j]'hji) d M1[i] M1[ps.length] = (stepM M1 ps.length j d)[i]'(by rw [HTl.o]; exact hiM) := by rw [stepM_at hiM hpM, if_neg hip, Hh.o, vec_at (by have := Hrl.o; omega)]
        rw [hst, td_set HTl.o hiM] at hK
        have hN := HN.o
        clear hst hr
        replace K := hZ (hK)
        replace Tr := hZ (Tr.o.only ho (by intro (e : _ = gi); have := Hblk.o; omega))
        replace Fd := hZ (Fd.o.only ho hN (by intro (e : _ = gi); have := Hblk.o; omega))
        replace Wp := hZ (Wp.o.only ho (by intro g hg (e : g = gi); have := (Wp.o.lt g hg).1; have := Hgw.o; have := HB1.o; omega))
        replace Oc := hZ (Oc.o.only ho (by intro (e : _ = gi); have := Hblk.o; omega))
        replace Op := hZ (Op.o.only ho (by intro (e : _ = gi); have := Hblk.o; omega))
        replace Fh := hZ (Fh.o.only ho hN (by intro (e : _ = gi); have := Hblk.o; omega))
        replace HO := hZ (HO.o.trans (ho.mono (fun b e => e ▸ HL.o.2 gi (.inr ⟨i, hi1, Hgi.o.symm⟩))))
        replace Hsz := hZ (Nat.le_trans Hsz.o ho.size)
        clear ho hN hK HN Hblk Hgw Hrl
        go_wp2_with fail
        go_roundw
        case rel => exact ⟨i + 1, by omega, by go_num, K, Tr, Fd, Wp, Oc, Op, Fh, Hsz, HO⟩
        case measure => simp [intOf]; omega
      ·skip
       replace K : Hid (LnAt w7 B l1 n (stepM M1 ps.length j d)) := hZ (by have h1 := K.o; have h2 := HTl.o; rw [List.take_of_length_le (by omega), List.drop_eq_nil_of_le (by omega), List.append_nil] at h1; exact h1)
       obtain ⟨s_h, a_h, n_h, c_h, t_h, h_h⟩ := Fh.o
       have d0h := t_h.cell0
       have d1h := t_h.cell1
       have Vh := hZ h_h
       clear t_h h_h
       obtain ⟨s_9, a_9, n_9, c_9, t_9, -⟩ := Fd.o
       have e0 := t_9.cell0
       have e1 := t_9.cell1
       have e2 := t_9.frozen 0
       have e3 := t_9.frozen 1
       clear t_9
       have hn9 : NoInt w7 (bd) := Fd.o.noInt
       obtain ⟨w8, hw⟩ : ∃ w', (w7.setCell ⟨bd, 0, none⟩ (.bool s_h)).setCell ⟨bd, 1, none⟩ (.slice a_h n_h c_h) = w' := ⟨_, rfl⟩
       have hw2 : st2 w7 (bd) (0) (1) s_h a_h n_h c_h = w8 := hw
       replace Fd := hZ (Bx.put Fd.o Vh.o)
       rw [hw2] at Fd
       replace K := hZ (LnAt.off (g := bd) (o1 := 0) (o2 := 1) (s := s_h) (a := a_h) (n' := n_h) (c := c_h) K.o hn9 (fun b hb => by have h1 := HLT0.o b (HL.o.2 b hb); have h2 := Hbr.o; have h3 := Hbd.o; omega))
       rw [hw2] at K
       replace Tr := hZ (Tr.o.offe hw2 (by have := Hbd.o; have := HB1.o; have := Hbc.o; have := Hbp.o; have := Hbh.o; omega))
       replace Wp := hZ (OwnN.off (g := bd) (o1 := 0) (o2 := 1) (s' := s_h) (a' := a_h) (n' := n_h) (c' := c_h) Wp.o (fun k hk => by have h1 := (Wp.o.lt k hk).1; have h2 := HB1.o; omega))
       rw [hw2] at Wp
       replace Oc := hZ (Oc.o.offe hw2 (by have := Hbd.o; have := HB1.o; have := Hbc.o; have := Hbp.o; have := Hbh.o; omega))
       replace Op := hZ (Op.o.offe hw2 (by have := Hbd.o; have := HB1.o; have := Hbc.o; have := Hbp.o; have := Hbh.o; omega))
       replace Fh := hZ (Fh.o.offe hw2 hn9 (by have := Hbd.o; have := HB1.o; have := Hbc.o; have := Hbp.o; have := Hbh.o; omega))
       replace Vh := hZ (Vh.o.offe hw2 hn9)
       replace HO := hZ (HO.o.offe hw2 (Or.inr (by have := Hbr.o; have := Hbd.o; omega)))
       clear hw2 hn9
       clear Vh
       have dc := Oc.o.cell
       replace Hsz : Hid (B0 ≤ w8.heap.size) := hZ (by have h1 := Oc.o.lt; have h2 := Hbc.o; omega)
       go_wp2_with (at_builtin; refine wpList_ownN rfl _ _ 22 rfl B0 3 i0 _ 1 8 Try.underlying22 Hi.o Hz0.o Hz1.o Hz2.o rfl (by decide) (by intro u hu x; simp [Value.cells] at hu; subst hu; intro e; cases e) _ _ _ rfl (Wp.o.blw ((Below.refl _ _).alloc (Nat.le_refl _) _)) ⟨w8.heap.size, 0, none⟩ 1 1 [iv .i64 j] rfl rfl (cell_one_new' _ _ _) (by simp [Value.oneCell', iv]) (by intro u hu x; simp [iv] at hu; subst hu; intro e; cases e) (by decide) (by unfold maxLen; omega) (by omega) (by simp; have := Hsz.o; omega) ?_)
       intro v5 w5' hown5 hon
       clear hw e0 e1 e2 e3 dc
       clear d0h d1h
       clear Oc Op Fh
       obtain ⟨w9, hw⟩ : ∃ w', w8.alloc (.cells #[iv .i64 j] 3) = w' := ⟨_, rfl⟩
       have hB := aB hw
       replace hon : Only (fun b => (Value.slice pa ps.length pc).ownBlock = some b) w9 w5' := by rw [← hw]; exact hon
       clear hw
       replace Hsz := hZ (Nat.le_trans Hsz.o (Nat.le_trans hB.size hon.size))
       replace K := hZ (K.o.blw hB)
       replace Tr := hZ (Tr.o.blw hB)
       replace Fd := hZ (Fd.o.blw hB)
       replace Wp := hZ (Wp.o.blw hB)
       replace HO := hZ (HO.o.blw hB)
       clear hB
       have hN : ∀ b, (Value.slice pa ps.length pc).ownBlock = some b → NoInt w9 b := Wp.o.2
       obtain ⟨w10, rfl⟩ : ∃ w' : World, w' = w5' := ⟨_, rfl⟩
       have Hown : Hid (∀ b, (Value.slice pa ps.length pc).ownBlock = some b → B0 ≤ b) := hZ (fun b h => (Wp.o.lt b h).1)
       replace K := hZ (K.o.only hon hN (by intro (e : _ = some _); have := Hown.o _ e; have := HB1.o; have := HB0.o; omega) (fun i hi => by intro (e : _ = some _); have h1 := Hown.o _ e; have h2 := HB1.o; have h3 := HLT0.o _ (HL.o.2 _ (.inr ⟨i, hi, rfl⟩)); omega))
       replace Tr := hZ (Tr.o.only hon (by intro (e : _ = some _); have := Hown.o _ e; have := HB1.o; omega))
       replace Fd := hZ (Fd.o.only hon hN (by intro (e : _ = some _); have := Hown.o _ e; have := HB1.o; omega))
       replace HO := hZ (only_new HO.o hon (by intro b e; have := Hown.o b e; have := HB1.o; omega))
       go_wp2_with fail
       go_roundw
       case rel => exact ⟨j + 1, l1, stepM M1 ps.length j d, ps ++ [j], h, by omega, by go_num, hZ (by rw [← Hh.o]; exact HE1.o.step HP1.o hpM (by rw [Hh.o]; exact HC1.o)), K, HL, Tr, Fd, hZ (by rw [List.length_append, List.map_append]; exact hown5), Hsz, HO⟩
       case measure => simp [intOf]; omega
  ·skip
   go_wp2_with fail
   obtain ⟨w4, hwd⟩ : ∃ w', w3.drew = w' := ⟨_, rfl⟩
   have hB := dB hwd
   replace K := hZ (K.o.blw hB)
   replace Tr := hZ (Tr.o.blw hB)
   replace Fd := hZ (Fd.o.blw hB)
   replace Wp := hZ (Wp.o.blw hB)
   replace HO := hZ (HO.o.blw hB)
   clear hB
   have HBr : Hid (Only (fun b => False) w4 w4) := hZ (Only.refl _ _)
   refine startL [3] (fun w' => Only (fun b => False) w4 w') (by kernel_rfl) (by rw [hwd]; exact Only.refl _ _) (fun hHeld => ?_)
   rw [hwd] at hHeld ⊢
   clear hwd
   obtain ⟨s_d, a_d, n_d, c_d, t_d, h_d⟩ := Fd.o
   have d0d := t_d.cell0
   have d1d := t_d.cell1
   have Vd := hZ h_d
   clear t_d h_d
   refine pP 0 68 (v := ?_) rfl rfl ?_ ?_
   rotate_left
   ·(intro w; go_simp; first | done | with_reducible rfl)
   simp only [sX1, sX2, sX3]
   refine tP 1 69 (v := ?_) rfl rfl ?_ ?_
   rotate_left
   ·(intro w hSw; have x0 := (hSw.cell (p := ⟨bd, 0, none⟩) (fun h => h) Fd.o.lt).trans d0d; have x1 := (hSw.cell (p := ⟨bd, 1, none⟩) (fun h => h) Fd.o.lt).trans d1d; go_simp; first | done | with_reducible rfl)
   simp only [sX1, sX2, sX3]
   clear d0d d1d
   refine pP 2 2 (v := ?_) rfl rfl ?_ ?_
   rotate_left
   ·(intro w; go_simp; first | done | with_reducible rfl)
   simp only [sX1, sX2, sX3]
   have e0 := Tr.o.cell0
   have e1 := Tr.o.cell1
   have e2 := Tr.o.frozen 0
   have e3 := Tr.o.frozen 1
   have hn9 : NoInt w4 (br) := Tr.o.noInt (fun _ h => by cases h) (fun _ h => by cases h)
   obtain ⟨w5, hw⟩ : ∃ w', (w4.setCell ⟨br, 0, none⟩ (.bool s_d)).setCell ⟨br, 1, none⟩ (.slice a_d n_d c_d) = w' := ⟨_, rfl⟩
   have hw2 : st2 w4 (br) (0) (1) s_d a_d n_d c_d = w5 := hw
   replace Tr := hZ (Two.put1 (s := s_d) (a := a_d) (n := n_d) (c := c_d) Tr.o)
   rw [hw2] at Tr
   replace K := hZ (LnAt.off (g := br) (o1 := 0) (o2 := 1) (s := s_d) (a := a_d) (n' := n_d) (c := c_d) K.o hn9 (fun b hb => by have h1 := HLT0.o b (HL.o.2 b hb); have h2 := Hbr.o; have h3 := Hbd.o; omega))
   rw [hw2] at K
   replace Fd := hZ (Fd.o.offe hw2 hn9 (by have := Hbd.o; have := HB1.o; first | omega | (have := Hbc.o; omega)))
   replace Wp := hZ (OwnN.off (g := br) (o1 := 0) (o2 := 1) (s' := s_d) (a' := a_d) (n' := n_d) (c' := c_d) Wp.o (fun k hk => by have h1 := (Wp.o.lt k hk).1; have h2 := HB1.o; omega))
   rw [hw2] at Wp
   replace Vd := hZ (Vd.o.offe hw2 hn9)
   replace HO := hZ (HO.o.offe hw2 (Or.inr Hbr.o))
   clear hw2 hn9
   refine lateL 3 (by kernel_rfl) (by decide) rfl (fun K hK => ?_)
   go_simp
   try rw [hw]
   refine hK.out _ _ ?_
   clear hK K
   try simp only [Act.put, sX1, sX2, sX3]
   clear hw e0 e1 e2 e3
   refine doneL (by kernel_rfl) ?_ _
   clear hHeld
   have g0 := Tr.o.cell0
   have g1 := Tr.o.cell1
   go_wp2_with fail
   exact bodyPost_ret (v := .tuple #[.slice pa ps.length pc, .agg #[.bool s_d, .slice a_d n_d c_d]]) (by simp [results, Try.results50, go_sem, g0, g1]) rfl ⟨_, _, _, _, _, d, l, M, ps, _, rfl, Vd.o, Wp.o.ints, K.o, HL.o.1, HE.o, (show ElimL M0 M ps d n from (show j = n by omega) ▸ HE.o).rest K.o.rowsN, fun p hp => Nat.lt_of_lt_of_le (HE.o.plt p hp) hj, HO.o⟩
end Go.Proofs.Ytlmbebbdamgfpaa
