/- Rows of wide integers in memory that are written; blocks made whole. -/
import Derived.Test.YtlmbebbdamgfpaaQULRow
import Derived.Test.YtlmbebbdamgfpaaQULBezP
set_option linter.unusedVariables false
set_option linter.unusedSimpArgs false
set_option linter.unusedVariables false
set_option linter.unusedSimpArgs false
namespace Go.Proofs.Ytlmbebbdamgfpaa
open Go.RowKit

theorem Two.only {S : Nat → Prop} {w w' : World} {b : Nat} {t : TypeId} {x y : Value} (h : Two w b t x y) (ho : Only S w w') (hn : ¬ S b) : Two w' b t x y := (ho.block b h.lt hn).trans h
theorem One.only {S : Nat → Prop} {w w' : World} {b : Nat} {t : TypeId} {x : Value} (h : One w b t x) (ho : Only S w w') (hn : ¬ S b) : One w' b t x := (ho.block b h.lt hn).trans h
/-- make([]T, n): the new block is known whole -/
theorem wpList_make_any {P : Program} (w : World) {ops : Array Oper} {rest : List Oper} {o : Oper} {a : Act} {Q : Exit → Act → World → Prop}
 (hg : o.guard = none) (l c : Operand) (t : TypeId) (hop : o.op = Op.makeSlice t l c)
 (e : TypeId) (i : TypeInfo) (z : Value) (h1 : P.underlying t = some (.slice e)) (h2 : P.info? e = some i) (h3 : i.zero = some z)
 (kl kc : IntKind) (A C : Int) (n : Nat) (hl : a.eval l = .int kl A) (hc : a.eval c = .int kc C) (hA : A = (n : Int)) (hC : C = (n : Int)) (b2 : i.bytes * n ≤ 281474976710656) (b3 : n ≤ 9223372036854775807)
 (hK : ∀ w', BlkC w' w.heap.size e (madeCells z.cells (n * i.size)).toList → Below w.heap.size w w' → w.heap.size < w'.heap.size → wpList P ops Q rest (a.put o.dst (.slice (some ⟨w.heap.size, 0, none⟩) n n)) w') :
 wpList P ops Q (o :: rest) a w := by
 refine wpList_make_full w hg l c t hop w.heap.size e i _ i.size h1 h2 h3 rfl kl kc A C n hl hc hA hC b2 (by unfold maxLen; exact b3) (Nat.le_refl _) ?_
 intro w' hown hgr
 have hblk : BlkC w' w.heap.size e (madeCells z.cells (n * i.size)).toList := by
  rcases hown.2 with ⟨hv, _⟩ | ⟨g, cap, cur, hv, _, hb, hn, hm, hs, ht⟩
  ·cases hv
  ·injection hv with hv1 hv2 hv3
   injection hv1 with hv1
   injection hv1 with hv1
   subst hv1 hv3
   unfold BlkC
   rw [hb]
   have : cur.toList = (madeCells z.cells (n * i.size)).toList := by
    rw [← ht, List.take_of_length_le]
    rw [Array.length_toList, hs]
    exact Nat.le_refl _
   rw [← this]
 exact hK w' hblk (below_of_grown hgr) hblk.lt
theorem made_len (z : Array Value) (n : Nat) : (madeCells z n).toList.length = n := by simp [madeCells]
theorem made_at (z : Array Value) (n k : Nat) (hk : k < n) : (madeCells z n).toList[k]? = some z[k % z.size]! := by
 simp [madeCells, hk]
theorem made_mem (z : Array Value) (n : Nat) (hz : 0 < z.size) {u : Value} (h : u ∈ (madeCells z n).toList) : u ∈ z := by
 obtain ⟨k, hk, rfl⟩ := List.mem_iff_getElem.1 h
 rw [made_len] at hk
 have h2 := made_at z n k hk
 rw [List.getElem?_eq_getElem (by rw [made_len]; exact hk)] at h2
 injection h2 with h2
 rw [h2, getElem!_pos z _ (Nat.mod_lt _ hz)]
 exact Array.getElem_mem _
theorem made_one (z : Value) (n : Nat) (hz : z.cells = #[z]) : (madeCells z.cells (n * 1)).toList = List.replicate n z := by
 rw [hz]
 refine List.ext_getElem? (fun k => ?_)
 rcases Nat.lt_or_ge k n with h | h
 ·rw [made_at _ _ _ (by omega)]
  simp [h, Nat.mod_one]
 ·rw [List.getElem?_eq_none (by rw [made_len]; omega), List.getElem?_eq_none (by simpa using h)]
/-- a new row is all zeros -/
theorem WRow.made {w : World} {g n : Nat} (h : BlkC w g 58 (madeCells (Value.agg #[.bool false, .slice none 0 0]).cells (n * 2)).toList) : WRow w g (List.replicate n 0) := by
 have hc : (Value.agg #[.bool false, .slice none 0 0]).cells = #[.bool false, .slice none 0 0] := rfl
 rw [hc] at h
 refine ⟨_, h, by rw [made_len]; simp, fun u hu x => ?_, fun j hj => ?_⟩
 ·have := made_mem _ _ (by simp) hu
  simp at this
  rcases this with rfl | rfl <;> intro e <;> cases e
 ·simp only [List.length_replicate] at hj
  refine ⟨none, 0, 0, ?_, ?_, ?_⟩
  ·rw [made_at _ _ _ (by omega)]; simp
  ·rw [made_at _ _ _ (by omega)]
   have : (j * 2 + 1) % (#[Value.bool false, Value.slice none 0 0]).size = 1 := by show (j * 2 + 1) % 2 = 1; omega
   rw [this]
   rfl
  ·have h0 := wint_zero w
   simpa using h0

/-- a row in memory: its block, its capacity -/
abbrev Rw := Nat × Nat
def rwC (n : Nat) (x : Rw) : Value := .slice (some ⟨x.1, 0, none⟩) n x.2
/-- rows in memory: M, of n entries -/
structure RowsIn (w : World) (l : List Rw) (n : Nat) (M : List (List Int)) : Prop where
 len : M.length = l.length
 row : ∀ i (h : i < l.length), WRow w l[i].1 (M[i]'(by omega)) ∧ (M[i]'(by omega)).length = n
 nodup : ∀ i j (h : i < l.length) (h' : j < l.length), i ≠ j → l[i].1 ≠ l[j].1
 cap : ∀ i (h : i < l.length), n ≤ l[i].2 ∧ l[i].2 ≤ 9223372036854775807
section
variable {w w' : World} {B n : Nat} {l : List Rw} {M : List (List Int)}
theorem RowsIn.nil (w : World) (n : Nat) : RowsIn w [] n [] := ⟨rfl, fun i h => by simp at h, fun i j h => by simp at h, fun i h => by simp at h⟩
theorem RowsIn.blw (h : RowsIn w l n M) (hb : Below w.heap.size w w') : RowsIn w' l n M :=
 ⟨h.len, fun i hi => ⟨(h.row i hi).1.blw hb, (h.row i hi).2⟩, h.nodup, h.cap⟩
theorem RowsIn.only {S : Nat → Prop} (h : RowsIn w l n M) (ho : Only S w w') (hS : ∀ b, S b → NoInt w b) (hr : ∀ i (hi : i < l.length), ¬ S l[i].1) : RowsIn w' l n M :=
 ⟨h.len, fun i hi => ⟨(h.row i hi).1.only ho hS (hr i hi), (h.row i hi).2⟩, h.nodup, h.cap⟩
theorem RowsIn.off {g o1 o2 : Nat} {s : Bool} {a : Option Addr} {n' c : Nat} (h : RowsIn w l n M) (hg : NoInt w g) (hr : ∀ i (hi : i < l.length), l[i].1 ≠ g) : RowsIn (st2 w g o1 o2 s a n' c) l n M :=
 h.only (S := fun b => b = g) ((Only.refl _ _).off' (.inl rfl)) (fun b e => e ▸ hg) hr
theorem RowsIn.lt (h : RowsIn w l n M) (i : Nat) (hi : i < l.length) : l[i].1 < w.heap.size := (h.row i hi).1.lt
theorem RowsIn.snoc (h : RowsIn w l n M) {g c : Nat} {zs : List Int} (hr : WRow w g zs) (hz : zs.length = n) (hg : ∀ i (hi : i < l.length), l[i].1 ≠ g) (hc : n ≤ c) (hc2 : c ≤ 9223372036854775807) : RowsIn w (l ++ [(g, c)]) n (M ++ [zs]) := by
 have hl := h.len
 refine ⟨by simp [hl], fun i hi => ?_, fun i j hi hj hij => ?_, fun i hi => ?_⟩
 ·simp only [List.length_append, List.length_singleton] at hi
  by_cases e : i < l.length
  ·rw [List.getElem_append_left e, List.getElem_append_left (by omega)]; exact h.row i e
  ·obtain rfl : i = l.length := by omega
   rw [List.getElem_append_right (by omega), List.getElem_append_right (by omega)]
   simp only [hl, Nat.sub_self, List.getElem_singleton]
   exact ⟨hr, hz⟩
 ·simp only [List.length_append, List.length_singleton] at hi hj
  by_cases e : i < l.length <;> by_cases e2 : j < l.length
  ·rw [List.getElem_append_left e, List.getElem_append_left e2]; exact h.nodup i j e e2 hij
  ·rw [List.getElem_append_left e, List.getElem_append_right (by omega)]
   simpa using hg i e
  ·rw [List.getElem_append_right (by omega), List.getElem_append_left e2]
   simpa using (hg j e2).symm
  ·omega
 ·simp only [List.length_append, List.length_singleton] at hi
  by_cases e : i < l.length
  ·rw [List.getElem_append_left e]; exact h.cap i e
  ·rw [List.getElem_append_right (by omega)]
   simpa using ⟨hc, hc2⟩
/-- one row turns -/
theorem RowsIn.turn {i : Nat} (h : RowsIn w l n M) (hi : i < l.length) {zs : List Int} (hz : zs.length = n) {S : Nat → Prop} (hr : WRow w' l[i].1 zs) (ho : Only S w w') (hS : ∀ b, S b → NoInt w b) (hk : ∀ k (hk : k < l.length), k ≠ i → ¬ S l[k].1) : RowsIn w' l n (M.set i zs) := by
 refine ⟨by rw [List.length_set]; exact h.len, fun k hk' => ?_, h.nodup, h.cap⟩
 by_cases e : k = i
 ·subst e
  rw [List.getElem_set_self]
  exact ⟨hr, hz⟩
 ·rw [List.getElem_set_ne (Ne.symm e)]
  exact ⟨(h.row k hk').1.only ho hS (hk k hk' e), (h.row k hk').2⟩
theorem rwC_noInt {n : Nat} {l : List Rw} : ∀ u ∈ l.map (rwC n), ∀ x, u ≠ .int .u32 x := by
 intro u hu x
 obtain ⟨y, _, rfl⟩ := List.mem_map.1 hu
 intro e; cases e
/-- block R is a list of rows -/
structure RwAt (w : World) (R : Nat) (l : List Rw) (n : Nat) (M : List (List Int)) : Prop where
 blk : BlkC w R 55 (l.map (rwC n))
 rows : RowsIn w l n M
 apart : ∀ i (h : i < l.length), l[i].1 ≠ R
theorem RwAt.blw {R : Nat} (h : RwAt w R l n M) (hb : Below w.heap.size w w') : RwAt w' R l n M := ⟨h.blk.blw hb, h.rows.blw hb, h.apart⟩
theorem RwAt.lt {R : Nat} (h : RwAt w R l n M) : R < w.heap.size := h.blk.lt
theorem RwAt.len {R : Nat} (h : RwAt w R l n M) : M.length = l.length := h.rows.len
theorem RwAt.get {R : Nat} (h : RwAt w R l n M) (i : Nat) (hi : i < l.length) : w.cell? ⟨R, i, none⟩ = some (.slice (some ⟨l[i].1, 0, none⟩) n l[i].2) := by
 rw [h.blk.cell]; simp [hi, rwC]
theorem RwAt.noInt {R : Nat} (h : RwAt w R l n M) : NoInt w R := h.blk.noInt rwC_noInt
theorem RwAt.only {R : Nat} {S : Nat → Prop} (h : RwAt w R l n M) (ho : Only S w w') (hS : ∀ b, S b → NoInt w b) (hB : ¬ S R) (hr : ∀ i (hi : i < l.length), ¬ S l[i].1) : RwAt w' R l n M :=
 ⟨h.blk.only ho hB, h.rows.only ho hS hr, h.apart⟩
theorem RwAt.turn {R i : Nat} (h : RwAt w R l n M) (hi : i < l.length) {zs : List Int} (hz : zs.length = n) {S : Nat → Prop} (hr : WRow w' l[i].1 zs) (ho : Only S w w') (hS : ∀ b, S b → NoInt w b) (hR : ¬ S R) (hk : ∀ k (hk : k < l.length), k ≠ i → ¬ S l[k].1) : RwAt w' R l n (M.set i zs) :=
 ⟨h.blk.only ho hR, h.rows.turn hi hz hr ho hS hk, h.apart⟩
end

/-- a slice of wide integers that is read -/
def WOf (w : World) (v : Value) (zs : List Int) : Prop := SliceOf 2 (fun W z cs => ∃ s a n c, cs = [.bool s, .slice a n c] ∧ WInt W (.agg #[.bool s, .slice a n c]) z) w v zs
theorem WOf.blw {w w' : World} {v : Value} {zs : List Int} (h : WOf w v zs) (hb : Below w.heap.size w w') : WOf w' v zs :=
 SliceOf.below h hb (fun _ _ ⟨s, a, n, c, e, hw⟩ => ⟨s, a, n, c, e, hw.blw hb⟩)
theorem WRow.of_ {w : World} {g c : Nat} {zs : List Int} (h : WRow w g zs) (hc : zs.length ≤ c) (hc2 : c ≤ 9223372036854775807) : WOf w (.slice (some ⟨g, 0, none⟩) zs.length c) zs := by
 refine ⟨_, c, rfl, hc, hc2, fun _ => ⟨g, rfl, h.lt, fun j hj => ?_⟩⟩
 obtain ⟨s, a, n, c, h1, h2, h3⟩ := h.get j hj
 refine ⟨_, ⟨s, a, n, c, rfl, h3⟩, rfl, fun i hi => ?_⟩
 match i, hi with
 | 0, _ => simpa using h1
 | 1, _ => simpa using h2
theorem WOf.at_ {w : World} {v : Value} {zs : List Int} (h : WOf w v zs) (j : Nat) (hj : j < zs.length) : ∃ b cap s a n c, v = .slice (some ⟨b, 0, none⟩) zs.length cap ∧ b < w.heap.size ∧ w.cell? ⟨b, j * 2, none⟩ = some (.bool s) ∧ w.cell? ⟨b, j * 2 + 1, none⟩ = some (.slice a n c) ∧ WInt w (.agg #[.bool s, .slice a n c]) zs[j] := by
 obtain ⟨b, cap, cs, hv, hb, ⟨s, a, n, c, rfl, hw⟩, _, hc⟩ := SliceOf.at_ h j hj
 have h0 := hc 0 (by omega)
 have h1 := hc 1 (by omega)
 exact ⟨b, cap, s, a, n, c, hv, hb, by simpa using h0, by simpa using h1, hw⟩
/-- a matrix of wide integers that is read -/
def WMat (w : World) (v : Value) (M : List (List Int)) : Prop := SliceOf 1 (fun W r cs => ∃ u, cs = [u] ∧ WOf W u r) w v M
theorem WMat.blw {w w' : World} {v : Value} {M : List (List Int)} (h : WMat w v M) (hb : Below w.heap.size w w') : WMat w' v M :=
 SliceOf.below h hb (fun _ _ ⟨u, e, hu⟩ => ⟨u, e, hu.blw hb⟩)
theorem WMat.at_ {w : World} {v : Value} {M : List (List Int)} (h : WMat w v M) (j : Nat) (hj : j < M.length) :
 ∃ b cap a c, v = .slice (some ⟨b, 0, none⟩) M.length cap ∧ b < w.heap.size ∧ w.cell? ⟨b, j, none⟩ = some (.slice a M[j].length c) ∧ WOf w (.slice a M[j].length c) M[j] ∧ M[j].length ≤ c ∧ c ≤ 9223372036854775807 := by
 obtain ⟨b, cap, cs, hv, hb, ⟨u, rfl, hu⟩, _, hcell⟩ := SliceOf.at_ h j hj
 obtain ⟨a, c, rfl, h1, h2⟩ := SliceOf.form hu
 have h0 := hcell 0 (by omega)
 exact ⟨b, cap, a, c, hv, hb, by simpa using h0, hu, h1, h2⟩
theorem RwAt.mat {w : World} {R n c : Nat} {l : List Rw} {M : List (List Int)} (h : RwAt w R l n M) (hc : l.length ≤ c) (hc2 : c ≤ 9223372036854775807) : WMat w (.slice (some ⟨R, 0, none⟩) l.length c) M := by
 refine ⟨_, c, by rw [h.len], by rw [h.len]; exact hc, hc2, fun _ => ⟨R, rfl, h.lt, fun j hj => ?_⟩⟩
 have hj' : j < l.length := by rw [← h.len]; exact hj
 obtain ⟨hr, hl⟩ := h.rows.row j hj'
 refine ⟨_, ⟨_, rfl, hr.of_ (c := l[j].2) (by rw [hl]; exact (h.rows.cap j hj').1) (h.rows.cap j hj').2⟩, rfl, fun i hi => ?_⟩
 obtain rfl : i = 0 := by omega
 have := h.get j hj'
 rw [hl]
 simpa using this
/-! make, type by type -/
section
variable {w : World} {ops : Array Oper} {rest : List Oper} {o : Oper} {a : Act} {Q : Exit → Act → World → Prop} {l c : Operand} {kl kc : IntKind} {A C : Int}
theorem infoW : (Try.prog.info? 58).map (fun i => (i.zero, i.size, i.bytes)) = some (some (.agg #[.bool false, .slice none 0 0]), 2, 32) := by kernel_rfl
theorem infoWs : (Try.prog.info? 55).map (fun i => (i.zero, i.size, i.bytes)) = some (some (.slice none 0 0), 1, 24) := by kernel_rfl
theorem infoIs : (Try.prog.info? 22).map (fun i => (i.zero, i.size, i.bytes)) = some (some (.slice none 0 0), 1, 24) := by kernel_rfl
theorem infoI : (Try.prog.info? 3).map (fun i => (i.zero, i.size, i.bytes)) = some (some (.int .i64 0), 1, 8) := by kernel_rfl
theorem infoL : (Try.prog.info? 103).map (fun i => (i.zero, i.size, i.bytes)) = some (some (.agg #[.slice none 0 0, .int .i64 0]), 2, 32) := by kernel_rfl
theorem wpList_make_wide (hg : o.guard = none) (hop : o.op = Op.makeSlice 55 l c) (n : Nat) (hl : a.eval l = .int kl A) (hc : a.eval c = .int kc C) (hA : A = (n : Int)) (hC : C = (n : Int)) (hn : n ≤ 1000)
 (hK : ∀ w', WRow w' w.heap.size (List.replicate n 0) → Below w.heap.size w w' → w.heap.size < w'.heap.size → wpList Try.prog ops Q rest (a.put o.dst (.slice (some ⟨w.heap.size, 0, none⟩) n n)) w') : wpList Try.prog ops Q (o :: rest) a w := by
 obtain ⟨i, hi, hz0, hz1, hz2⟩ := info_parts infoW
 refine wpList_make_any w hg l c _ hop 58 i _ Try.underlying55 hi hz0 kl kc A C n hl hc hA hC (by rw [hz2]; omega) (by omega) (fun w' h1 h2 h3 => ?_)
 rw [hz1] at h1
 exact hK w' (WRow.made h1) h2 h3
theorem wpList_make_rows (hg : o.guard = none) (hop : o.op = Op.makeSlice 47 l c) (n : Nat) (hl : a.eval l = .int kl A) (hc : a.eval c = .int kc C) (hA : A = (n : Int)) (hC : C = (n : Int)) (hn : n ≤ 1000)
 (hK : ∀ w', BlkC w' w.heap.size 55 (List.replicate n (.slice none 0 0)) → Below w.heap.size w w' → w.heap.size < w'.heap.size → wpList Try.prog ops Q rest (a.put o.dst (.slice (some ⟨w.heap.size, 0, none⟩) n n)) w') : wpList Try.prog ops Q (o :: rest) a w := by
 obtain ⟨i, hi, hz0, hz1, hz2⟩ := info_parts infoWs
 refine wpList_make_any w hg l c _ hop 55 i _ Try.underlying47 hi hz0 kl kc A C n hl hc hA hC (by rw [hz2]; omega) (by omega) (fun w' h1 h2 h3 => ?_)
 rw [hz1, made_one _ _ rfl] at h1
 exact hK w' h1 h2 h3
theorem wpList_make_mat (hg : o.guard = none) (hop : o.op = Op.makeSlice 23 l c) (n : Nat) (hl : a.eval l = .int kl A) (hc : a.eval c = .int kc C) (hA : A = (n : Int)) (hC : C = (n : Int)) (hn : n ≤ 1000)
 (hK : ∀ w', BlkC w' w.heap.size 22 (List.replicate n (.slice none 0 0)) → Below w.heap.size w w' → w.heap.size < w'.heap.size → wpList Try.prog ops Q rest (a.put o.dst (.slice (some ⟨w.heap.size, 0, none⟩) n n)) w') : wpList Try.prog ops Q (o :: rest) a w := by
 obtain ⟨i, hi, hz0, hz1, hz2⟩ := info_parts infoIs
 refine wpList_make_any w hg l c _ hop 22 i _ Try.underlying23 hi hz0 kl kc A C n hl hc hA hC (by rw [hz2]; omega) (by omega) (fun w' h1 h2 h3 => ?_)
 rw [hz1, made_one _ _ rfl] at h1
 exact hK w' h1 h2 h3
theorem wpList_make_ints (hg : o.guard = none) (hop : o.op = Op.makeSlice 22 l c) (n : Nat) (hl : a.eval l = .int kl A) (hc : a.eval c = .int kc C) (hA : A = (n : Int)) (hC : C = (n : Int)) (hn : n ≤ 1000)
 (hK : ∀ w', BlkC w' w.heap.size 3 ((List.replicate n 0).map zv) → Below w.heap.size w w' → w.heap.size < w'.heap.size → wpList Try.prog ops Q rest (a.put o.dst (.slice (some ⟨w.heap.size, 0, none⟩) n n)) w') : wpList Try.prog ops Q (o :: rest) a w := by
 obtain ⟨i, hi, hz0, hz1, hz2⟩ := info_parts infoI
 refine wpList_make_any w hg l c _ hop 3 i _ Try.underlying22 hi hz0 kl kc A C n hl hc hA hC (by rw [hz2]; omega) (by omega) (fun w' h1 h2 h3 => ?_)
 rw [hz1, made_one _ _ rfl] at h1
 exact hK w' (by rw [List.map_replicate]; exact h1) h2 h3
/-- lines not yet written -/
def lnZ (k : Nat) : List Value := (List.replicate k ()).flatMap (fun _ => [Value.slice none 0 0, .int .i64 0])
theorem lnZ_succ (k : Nat) : lnZ (k + 1) = .slice none 0 0 :: .int .i64 0 :: lnZ k := by simp [lnZ, List.replicate_succ]
theorem lnZ_len (k : Nat) : (lnZ k).length = k * 2 := by
 induction k with
 | zero => rfl
 | succ k ih => rw [lnZ_succ]; simp [ih]; omega
theorem lnZ_at : ∀ (n k : Nat), k < n * 2 → (lnZ n)[k]? = some (#[Value.slice none 0 0, .int .i64 0][k % 2]!)
 | n + 1, 0, _ => by rw [lnZ_succ]; rfl
 | n + 1, 1, _ => by rw [lnZ_succ]; rfl
 | n + 1, k + 2, h => by
  rw [lnZ_succ, List.getElem?_cons_succ, List.getElem?_cons_succ, lnZ_at n k (by omega), show (k + 2) % 2 = k % 2 by omega]
theorem wpList_make_lines (hg : o.guard = none) (hop : o.op = Op.makeSlice 77 l c) (n : Nat) (hl : a.eval l = .int kl A) (hc : a.eval c = .int kc C) (hA : A = (n : Int)) (hC : C = (n : Int)) (hn : n ≤ 1000)
 (hK : ∀ w', BlkC w' w.heap.size 103 (lnZ n) → Below w.heap.size w w' → w.heap.size < w'.heap.size → wpList Try.prog ops Q rest (a.put o.dst (.slice (some ⟨w.heap.size, 0, none⟩) n n)) w') : wpList Try.prog ops Q (o :: rest) a w := by
 obtain ⟨i, hi, hz0, hz1, hz2⟩ := info_parts infoL
 refine wpList_make_any w hg l c _ hop 103 i _ Try.underlying77 hi hz0 kl kc A C n hl hc hA hC (by rw [hz2]; omega) (by omega) (fun w' h1 h2 h3 => ?_)
 have e : (madeCells (Value.agg #[.slice none 0 0, .int .i64 0]).cells (n * 2)).toList = lnZ n := by
  refine List.ext_getElem? (fun k => ?_)
  rcases Nat.lt_or_ge k (n * 2) with h | h
  ·rw [made_at _ _ _ h, lnZ_at n k h]; rfl
  ·rw [List.getElem?_eq_none (by rw [made_len]; omega), List.getElem?_eq_none (by rw [lnZ_len]; omega)]
 rw [hz1, e] at h1
 exact hK w' h1 h2 h3
end
/-- a matrix under construction: the rows l are laid, k are not -/
def rwZ (n : Nat) (l : List Rw) (k : Nat) : List Value := l.map (rwC n) ++ List.replicate k (.slice none 0 0)
theorem rwZ_noInt {n k : Nat} {l : List Rw} : ∀ u ∈ rwZ n l k, ∀ x, u ≠ .int .u32 x := by
 intro u hu x
 rcases List.mem_append.1 hu with h | h
 ·exact rwC_noInt u h x
 ·rw [(List.mem_replicate.1 h).2]; intro e; cases e
theorem rwZ_set {n k g : Nat} {l : List Rw} (c : Nat) : (rwZ n l (k + 1)).set l.length (.slice (some ⟨g, 0, none⟩) n c) = rwZ n (l ++ [(g, c)]) k := by
 unfold rwZ
 rw [List.set_append_right _ _ (by simp)]
 simp [List.replicate_succ, rwC]
theorem rwZ_at {n k i : Nat} {l : List Rw} (hi : i < l.length) : (rwZ n l k)[i]? = some (.slice (some ⟨l[i].1, 0, none⟩) n l[i].2) := by
 unfold rwZ
 rw [List.getElem?_append_left (by simpa using hi)]
 simp [hi, rwC]
theorem rwZ_at_next {n k : Nat} {l : List Rw} : (rwZ n l (k + 1))[l.length]? = some (.slice none 0 0) := by
 unfold rwZ
 rw [List.getElem?_append_right (by simp)]
 simp [List.replicate_succ]
theorem below_only {S : Nat → Prop} {B : Nat} {w0 w w' : World} (hb : Below B w0 w) (h : Only S w w') (hS : ∀ k, S k → B ≤ k) (hB : B ≤ w.heap.size) : Below B w0 w' := Only.below h hb hB hS
theorem rwZ_set' {n k g j : Nat} {l : List Rw} (c : Nat) (h : l.length = j) : (rwZ n l (k + 1)).set j (.slice (some ⟨g, 0, none⟩) n c) = rwZ n (l ++ [(g, c)]) k := by subst h; exact rwZ_set c
theorem snoc_all {α : Type} {P : α → Prop} {l : List α} {x : α} (h : ∀ k (hk : k < l.length), P l[k]) (hx : P x) : ∀ k (hk : k < (l ++ [x]).length), P ((l ++ [x])[k]) := by
 intro k hk
 rw [List.getElem_append]
 split
 ·next h2 => exact h k h2
 ·next h2 => simpa using hx
/-- a matrix but for one of its rows -/
structure RwX (w : World) (R : Nat) (l : List Rw) (n : Nat) (M : List (List Int)) (j : Nat) : Prop where
 blk : BlkC w R 55 (l.map (rwC n))
 len : M.length = l.length
 row : ∀ i (h : i < l.length), i ≠ j → WRow w l[i].1 (M[i]'(by omega)) ∧ (M[i]'(by omega)).length = n
 nodup : ∀ i j (h : i < l.length) (h' : j < l.length), i ≠ j → l[i].1 ≠ l[j].1
 cap : ∀ i (h : i < l.length), n ≤ l[i].2 ∧ l[i].2 ≤ 9223372036854775807
 apart : ∀ i (h : i < l.length), l[i].1 ≠ R
section
variable {w w' : World} {R n j : Nat} {l : List Rw} {M : List (List Int)}
theorem RwAt.x (h : RwAt w R l n M) (j : Nat) : RwX w R l n M j := ⟨h.blk, h.len, fun i hi _ => h.rows.row i hi, h.rows.nodup, h.rows.cap, h.apart⟩
theorem RwX.blw (h : RwX w R l n M j) (hb : Below w.heap.size w w') : RwX w' R l n M j := ⟨h.blk.blw hb, h.len, fun i hi hij => ⟨(h.row i hi hij).1.blw hb, (h.row i hi hij).2⟩, h.nodup, h.cap, h.apart⟩
theorem RwX.only {S : Nat → Prop} (h : RwX w R l n M j) (ho : Only S w w') (hS : ∀ b, S b → NoInt w b) (hr : ¬ S R ∧ ∀ i (hi : i < l.length), i ≠ j → ¬ S l[i].1) : RwX w' R l n M j :=
 ⟨h.blk.only ho hr.1, h.len, fun i hi hij => ⟨(h.row i hi hij).1.only ho hS (hr.2 i hi hij), (h.row i hi hij).2⟩, h.nodup, h.cap, h.apart⟩
theorem RwX.off {g o1 o2 : Nat} {s : Bool} {a : Option Addr} {n' c : Nat} (h : RwX w R l n M j) (hg : NoInt w g) (hr : R ≠ g ∧ ∀ i (hi : i < l.length), i ≠ j → l[i].1 ≠ g) : RwX (st2 w g o1 o2 s a n' c) R l n M j :=
 h.only (S := fun b => b = g) ((Only.refl _ _).off' (.inl rfl)) (fun b e => e ▸ hg) hr
theorem RwX.lt (h : RwX w R l n M j) : R < w.heap.size := h.blk.lt
theorem RwX.get (h : RwX w R l n M j) (i : Nat) (hi : i < l.length) : w.cell? ⟨R, i, none⟩ = some (.slice (some ⟨l[i].1, 0, none⟩) n l[i].2) := by
 rw [h.blk.cell]; simp [hi, rwC]
theorem RwX.close (h : RwX w R l n M j) (hj : j < l.length) {zs : List Int} (hr : WRow w l[j].1 zs) (hz : zs.length = n) : RwAt w R l n (M.set j zs) := by
 refine ⟨h.blk, ⟨by rw [List.length_set]; exact h.len, fun i hi => ?_, h.nodup, h.cap⟩, h.apart⟩
 by_cases e : i = j
 ·subst e
  rw [List.getElem_set_self]
  exact ⟨hr, hz⟩
 ·rw [List.getElem_set_ne (Ne.symm e)]
  exact h.row i hi e
end
theorem RwAt.off9 {w : World} {R n g o1 o2 : Nat} {l : List Rw} {M : List (List Int)} {s : Bool} {a : Option Addr} {n' c : Nat} (h : RwAt w R l n M) (hg : NoInt w g) (hr : R ≠ g ∧ ∀ i (hi : i < l.length), l[i].1 ≠ g) : RwAt (st2 w g o1 o2 s a n' c) R l n M :=
 h.only (S := fun b => b = g) ((Only.refl _ _).off' (.inl rfl)) (fun b e => e ▸ hg) hr.1 hr.2
end Go.Proofs.Ytlmbebbdamgfpaa
