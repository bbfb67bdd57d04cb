/- lattice.small. -/
import Derived.Test.YtlmbebbdamgfpaaQHLDet
import Derived.Test.YtlmbebbdamgfpaaQHLElim
import Derived.Test.YtlmbebbdamgfpaaQHLMat
set_option linter.unusedVariables false
set_option linter.unusedSimpArgs false
set_option maxHeartbeats 8000000
set_option maxRecDepth 100000
namespace Go.Proofs.Ytlmbebbdamgfpaa
open Go.RowKit
theorem Two.only {S : Nat -> Prop} {w w' : World} {b : Nat} {t : TypeId} {x y : Value} (h : Two w b t x y) (ho : qAc S w w') (hn : ¬ S b) : Two w' b t x y := (ho.block b h.lt hn).trans h
theorem One.only {S : Nat -> Prop} {w w' : World} {b : Nat} {t : TypeId} {x : Value} (h : One w b t x) (ho : qAc S w w') (hn : ¬ S b) : One w' b t x := (ho.block b h.lt hn).trans h
theorem qA3 {P : Program} (w : World) {ops : Array Oper} {rest : List Oper} {o : Oper} {a : Act} {Q : Exit -> Act -> World -> Prop}
 (hg : o.guard = none) (l c : Operand) (t : TypeId) (hop : o.op = Op.makeSlice t l c)
 (e : TypeId) (i : TypeInfo) (z : Value) (h1 : P.underlying t = some (.slice e)) (h2 : P.info? e = some i) (h3 : i.zero = some z)
 (kl kc : IntKind) (A C : Int) (n : Nat) (hl : a.eval l = .int kl A) (hc : a.eval c = .int kc C) (hA : A = (n : Int)) (hC : C = (n : Int)) (b2 : i.bytes * n <= 281474976710656) (b3 : n <= 9223372036854775807)
 (hK : ∀ w', qAE w' w.heap.size e (madeCells z.cells (n * i.size)).toList -> Below w.heap.size w w' -> w.heap.size < w'.heap.size -> wpList P ops Q rest (a.put o.dst (.slice (some ⟨w.heap.size, 0, none⟩) n n)) w') :
 wpList P ops Q (o :: rest) a w := by
 refine wpList_make_full w hg l c t hop w.heap.size e i _ i.size h1 h2 h3 rfl kl kc A C n hl hc hA hC b2 (by unfold maxLen; exact b3) (Nat.le_refl _) ?_; intro w' hown hgr; have hblk : qAE w' w.heap.size e (madeCells z.cells (n * i.size)).toList := by
  rcases hown.2 with ⟨hv, _⟩ | ⟨g, cap, cur, hv, _, hb, hn, hm, hs, ht⟩
  ·cases hv
  ·injection hv with hv1 hv2 hv3
   injection hv1 with hv1; injection hv1 with hv1; subst hv1 hv3; unfold qAE; rw [hb]; have : cur.toList = (madeCells z.cells (n * i.size)).toList := by
    rw [<- ht, List.take_of_length_le]; rw [Array.length_toList, hs]; exact Nat.le_refl _
   rw [<- this]
 exact hK w' hblk (qCc hgr) hblk.lt
theorem qDd (z : Array Value) (n : Nat) : (madeCells z n).toList.length = n := by simp [madeCells]
theorem qEo (z : Array Value) (n k : Nat) (hk : k < n) : (madeCells z n).toList[k]? = some z[k % z.size]! := by
 simp [madeCells, hk]
theorem qJP (z : Array Value) (n : Nat) (hz : 0 < z.size) {u : Value} (h : u ∈ (madeCells z n).toList) : u ∈ z := by
 obtain ⟨k, hk, rfl⟩ := List.mem_iff_getElem.1 h; rw [qDd] at hk; have h2 := qEo z n k hk; rw [List.getElem?_eq_getElem (by rw [qDd]; exact hk)] at h2; injection h2 with h2; rw [h2, getElem!_pos z _ (Nat.mod_lt _ hz)]; exact Array.getElem_mem _
theorem qFk (z : Value) (n : Nat) (hz : z.cells = #[z]) : (madeCells z.cells (n * 1)).toList = List.replicate n z := by
 rw [hz]; refine List.ext_getElem? (fun k => ?_); rcases Nat.lt_or_ge k n with h | h
 ·rw [qEo _ _ _ (by omega)]
  simp [h, Nat.mod_one]
 ·rw [List.getElem?_eq_none (by rw [qDd]; omega), List.getElem?_eq_none (by simpa using h)]
theorem qAF.made {w : World} {g n : Nat} (h : qAE w g 58 (madeCells (Value.agg #[.bool false, .slice none 0 0]).cells (n * 2)).toList) : qAF w g (List.replicate n 0) := by
 have hc : (Value.agg #[.bool false, .slice none 0 0]).cells = #[.bool false, .slice none 0 0] := rfl; rw [hc] at h; refine ⟨_, h, by rw [qDd]; simp, fun u hu x => ?_, fun j hj => ?_⟩
 ·have := qJP _ _ (by simp) hu
  simp at this; rcases this with rfl | rfl <;> intro e <;> cases e
 ·simp only [List.length_replicate] at hj
  refine ⟨none, 0, 0, ?_, ?_, ?_⟩
  ·rw [qEo _ _ _ (by omega)]; simp
  ·rw [qEo _ _ _ (by omega)]
   have : (j * 2 + 1) % (#[Value.bool false, Value.slice none 0 0]).size = 1 := by show (j * 2 + 1) % 2 = 1; omega
   rw [this]; rfl
  ·have h0 := qAv w
   simpa using h0
abbrev Rw := Nat × Nat
def rwC (n : Nat) (x : Rw) : Value := .slice (some ⟨x.1, 0, none⟩) n x.2
structure qAC (w : World) (l : List Rw) (n : Nat) (M : List (List Int)) : Prop where
 len : M.length = l.length
 row : ∀ i (h : i < l.length), qAF w l[i].1 (M[i]'(by omega)) /\ (M[i]'(by omega)).length = n
 nodup : ∀ i j (h : i < l.length) (h' : j < l.length), i ≠ j -> l[i].1 ≠ l[j].1
 cap : ∀ i (h : i < l.length), n <= l[i].2 /\ l[i].2 <= 9223372036854775807
section
variable {w w' : World} {B n : Nat} {l : List Rw} {M : List (List Int)}
theorem qAC.nil (w : World) (n : Nat) : qAC w [] n [] := ⟨rfl, fun i h => by simp at h, fun i j h => by simp at h, fun i h => by simp at h⟩
theorem qAC.blw (h : qAC w l n M) (hb : Below w.heap.size w w') : qAC w' l n M :=
 ⟨h.len, fun i hi => ⟨(h.row i hi).1.blw hb, (h.row i hi).2⟩, h.nodup, h.cap⟩
instance : Mv w w' (qAC w l n M) (qAC w' l n M) := ⟨fun hb h => qAC.blw h hb⟩
theorem qAC.only {S : Nat -> Prop} (h : qAC w l n M) (ho : qAc S w w') (hS : ∀ b, S b -> qAg w b) (hr : ∀ i (hi : i < l.length), ¬ S l[i].1) : qAC w' l n M :=
 ⟨h.len, fun i hi => ⟨(h.row i hi).1.only ho hS (hr i hi), (h.row i hi).2⟩, h.nodup, h.cap⟩
theorem qAC.off {g o1 o2 : Nat} {s : Bool} {a : Option Addr} {n' c : Nat} (h : qAC w l n M) (hg : qAg w g) (hr : ∀ i (hi : i < l.length), l[i].1 ≠ g) : qAC (st2 w g o1 o2 s a n' c) l n M :=
 h.only (S := fun b => b = g) ((qAc.refl _ _).off' (.inl rfl)) (fun b e => e ▸ hg) hr
theorem qAC.lt (h : qAC w l n M) (i : Nat) (hi : i < l.length) : l[i].1 < w.heap.size := (h.row i hi).1.lt
theorem qAC.snoc (h : qAC w l n M) {g c : Nat} {zs : List Int} (hr : qAF w g zs) (hz : zs.length = n) (hg : ∀ i (hi : i < l.length), l[i].1 ≠ g) (hc : n <= c) (hc2 : c <= 9223372036854775807) : qAC w (l ++ [(g, c)]) n (M ++ [zs]) := by
 have hl := h.len; refine ⟨by simp [hl], fun i hi => ?_, fun i j hi hj hij => ?_, fun i hi => ?_⟩
 ·simp only [List.length_append, List.length_singleton] at hi
  by_cases e : i < l.length
  ·rw [List.getElem_append_left e, List.getElem_append_left (by omega)]; exact h.row i e
  ·obtain rfl : i = l.length := by omega
   rw [List.getElem_append_right (by omega), List.getElem_append_right (by omega)]; simp only [hl, Nat.sub_self, List.getElem_singleton]; exact ⟨hr, hz⟩
 ·simp only [List.length_append, List.length_singleton] at hi hj
  by_cases e : i < l.length <;> by_cases e2 : j < l.length
  ·rw [List.getElem_append_left e, List.getElem_append_left e2]; exact h.nodup i j e e2 hij
  ·rw [List.getElem_append_left e, List.getElem_append_right (by omega)]
   simpa using hg i e
  ·rw [List.getElem_append_right (by omega), List.getElem_append_left e2]
   simpa using (hg j e2).symm
  ·omega
 ·simp only [List.length_append, List.length_singleton] at hi
  by_cases e : i < l.length
  ·rw [List.getElem_append_left e]; exact h.cap i e
  ·rw [List.getElem_append_right (by omega)]
   simpa using ⟨hc, hc2⟩
theorem qAC.turn {i : Nat} (h : qAC w l n M) (hi : i < l.length) {zs : List Int} (hz : zs.length = n) {S : Nat -> Prop} (hr : qAF w' l[i].1 zs) (ho : qAc S w w') (hS : ∀ b, S b -> qAg w b) (hk : ∀ k (hk : k < l.length), k ≠ i -> ¬ S l[k].1) : qAC w' l n (M.set i zs) := by
 refine ⟨by rw [List.length_set]; exact h.len, fun k hk' => ?_, h.nodup, h.cap⟩; by_cases e : k = i
 ·subst e
  rw [List.getElem_set_self]; exact ⟨hr, hz⟩
 ·rw [List.getElem_set_ne (Ne.symm e)]
  exact ⟨(h.row k hk').1.only ho hS (hk k hk' e), (h.row k hk').2⟩
theorem qFW {n : Nat} {l : List Rw} : ∀ u ∈ l.map (rwC n), ∀ x, u ≠ .int .u32 x := by
 intro u hu x; obtain ⟨y, _, rfl⟩ := List.mem_map.1 hu; intro e; cases e
structure qCd (w : World) (R : Nat) (l : List Rw) (n : Nat) (M : List (List Int)) : Prop where
 blk : qAE w R 55 (l.map (rwC n))
 rows : qAC w l n M
 apart : ∀ i (h : i < l.length), l[i].1 ≠ R
theorem qCd.blw {R : Nat} (h : qCd w R l n M) (hb : Below w.heap.size w w') : qCd w' R l n M := ⟨h.blk.blw hb, h.rows.blw hb, h.apart⟩
instance {R : Nat} : Mv w w' (qCd w R l n M) (qCd w' R l n M) := ⟨fun hb h => qCd.blw h hb⟩
theorem qCd.lt {R : Nat} (h : qCd w R l n M) : R < w.heap.size := h.blk.lt
theorem qCd.len {R : Nat} (h : qCd w R l n M) : M.length = l.length := h.rows.len
theorem qCd.get {R : Nat} (h : qCd w R l n M) (i : Nat) (hi : i < l.length) : w.cell? ⟨R, i, none⟩ = some (.slice (some ⟨l[i].1, 0, none⟩) n l[i].2) := by
 rw [h.blk.cell]; simp [hi, rwC]
theorem qCd.noInt {R : Nat} (h : qCd w R l n M) : qAg w R := h.blk.noInt qFW
theorem qCd.only {R : Nat} {S : Nat -> Prop} (h : qCd w R l n M) (ho : qAc S w w') (hS : ∀ b, S b -> qAg w b) (hB : ¬ S R) (hr : ∀ i (hi : i < l.length), ¬ S l[i].1) : qCd w' R l n M :=
 ⟨h.blk.only ho hB, h.rows.only ho hS hr, h.apart⟩
theorem qCd.turn {R i : Nat} (h : qCd w R l n M) (hi : i < l.length) {zs : List Int} (hz : zs.length = n) {S : Nat -> Prop} (hr : qAF w' l[i].1 zs) (ho : qAc S w w') (hS : ∀ b, S b -> qAg w b) (hR : ¬ S R) (hk : ∀ k (hk : k < l.length), k ≠ i -> ¬ S l[k].1) : qCd w' R l n (M.set i zs) :=
 ⟨h.blk.only ho hR, h.rows.turn hi hz hr ho hS hk, h.apart⟩
end
def WOf (w : World) (v : Value) (zs : List Int) : Prop := qAh 2 (fun W z cs => ∃ s a n c, cs = [.bool s, .slice a n c] /\ qAz W (.agg #[.bool s, .slice a n c]) z) w v zs
theorem WOf.blw {w w' : World} {v : Value} {zs : List Int} (h : WOf w v zs) (hb : Below w.heap.size w w') : WOf w' v zs :=
 qAh.below h hb (fun _ _ ⟨s, a, n, c, e, hw⟩ => ⟨s, a, n, c, e, hw.blw hb⟩)
instance {w w' : World} {v : Value} {zs : List Int} : Mv w w' (WOf w v zs) (WOf w' v zs) := ⟨fun hb h => WOf.blw h hb⟩
theorem qAF.of_ {w : World} {g c : Nat} {zs : List Int} (h : qAF w g zs) (hc : zs.length <= c) (hc2 : c <= 9223372036854775807) : WOf w (.slice (some ⟨g, 0, none⟩) zs.length c) zs := by
 refine ⟨_, c, rfl, hc, hc2, fun _ => ⟨g, rfl, h.lt, fun j hj => ?_⟩⟩; obtain ⟨s, a, n, c, h1, h2, h3⟩ := h.get j hj; refine ⟨_, ⟨s, a, n, c, rfl, h3⟩, rfl, fun i hi => ?_⟩
 match i, hi with
 | 0, _ => simpa using h1
 | 1, _ => simpa using h2
theorem WOf.at_ {w : World} {v : Value} {zs : List Int} (h : WOf w v zs) (j : Nat) (hj : j < zs.length) : ∃ b cap s a n c, v = .slice (some ⟨b, 0, none⟩) zs.length cap /\ b < w.heap.size /\ w.cell? ⟨b, j * 2, none⟩ = some (.bool s) /\ w.cell? ⟨b, j * 2 + 1, none⟩ = some (.slice a n c) /\ qAz w (.agg #[.bool s, .slice a n c]) zs[j] := by
 obtain ⟨b, cap, cs, hv, hb, ⟨s, a, n, c, rfl, hw⟩, _, hc⟩ := qAh.at_ h j hj; have h0 := hc 0 (by omega); have h1 := hc 1 (by omega); exact ⟨b, cap, s, a, n, c, hv, hb, by simpa using h0, by simpa using h1, hw⟩
def qEI (w : World) (v : Value) (M : List (List Int)) : Prop := qAh 1 (fun W r cs => ∃ u, cs = [u] /\ WOf W u r) w v M
theorem qEI.blw {w w' : World} {v : Value} {M : List (List Int)} (h : qEI w v M) (hb : Below w.heap.size w w') : qEI w' v M :=
 qAh.below h hb (fun _ _ ⟨u, e, hu⟩ => ⟨u, e, hu.blw hb⟩)
instance {w w' : World} {v : Value} {M : List (List Int)} : Mv w w' (qEI w v M) (qEI w' v M) := ⟨fun hb h => qEI.blw h hb⟩
theorem qEI.at_ {w : World} {v : Value} {M : List (List Int)} (h : qEI w v M) (j : Nat) (hj : j < M.length) :
 ∃ b cap a c, v = .slice (some ⟨b, 0, none⟩) M.length cap /\ b < w.heap.size /\ w.cell? ⟨b, j, none⟩ = some (.slice a M[j].length c) /\ WOf w (.slice a M[j].length c) M[j] /\ M[j].length <= c /\ c <= 9223372036854775807 := by
 obtain ⟨b, cap, cs, hv, hb, ⟨u, rfl, hu⟩, _, hcell⟩ := qAh.at_ h j hj; obtain ⟨a, c, rfl, h1, h2⟩ := qAh.form hu; have h0 := hcell 0 (by omega); exact ⟨b, cap, a, c, hv, hb, by simpa using h0, hu, h1, h2⟩
theorem qCd.mat {w : World} {R n c : Nat} {l : List Rw} {M : List (List Int)} (h : qCd w R l n M) (hc : l.length <= c) (hc2 : c <= 9223372036854775807) : qEI w (.slice (some ⟨R, 0, none⟩) l.length c) M := by
 refine ⟨_, c, by rw [h.len], by rw [h.len]; exact hc, hc2, fun _ => ⟨R, rfl, h.lt, fun j hj => ?_⟩⟩; have hj' : j < l.length := by rw [<- h.len]; exact hj
 obtain ⟨hr, hl⟩ := h.rows.row j hj'; refine ⟨_, ⟨_, rfl, hr.of_ (c := l[j].2) (by rw [hl]; exact (h.rows.cap j hj').1) (h.rows.cap j hj').2⟩, rfl, fun i hi => ?_⟩; obtain rfl : i = 0 := by omega
 have := h.get j hj'; rw [hl]; simpa using this
section
variable {w : World} {ops : Array Oper} {rest : List Oper} {o : Oper} {a : Act} {Q : Exit -> Act -> World -> Prop} {l c : Operand} {kl kc : IntKind} {A C : Int}
theorem qLY : (Try.prog.info? 58).map (fun i => (i.zero, i.size, i.bytes)) = some (some (.agg #[.bool false, .slice none 0 0]), 2, 32) := by kernel_rfl
theorem qKm : (Try.prog.info? 55).map (fun i => (i.zero, i.size, i.bytes)) = some (some (.slice none 0 0), 1, 24) := by kernel_rfl
theorem qLZ : (Try.prog.info? 22).map (fun i => (i.zero, i.size, i.bytes)) = some (some (.slice none 0 0), 1, 24) := by kernel_rfl
theorem qMu : (Try.prog.info? 3).map (fun i => (i.zero, i.size, i.bytes)) = some (some (.int .i64 0), 1, 8) := by kernel_rfl
theorem qMt : (Try.prog.info? 103).map (fun i => (i.zero, i.size, i.bytes)) = some (some (.agg #[.slice none 0 0, .int .i64 0]), 2, 32) := by kernel_rfl
theorem qAY (hg : o.guard = none) (hop : o.op = Op.makeSlice 55 l c) (n : Nat) (hl : a.eval l = .int kl A) (hc : a.eval c = .int kc C) (hA : A = (n : Int)) (hC : C = (n : Int)) (hn : n <= 1000)
 (hK : ∀ w', qAF w' w.heap.size (List.replicate n 0) -> Below w.heap.size w w' -> w.heap.size < w'.heap.size -> wpList Try.prog ops Q rest (a.put o.dst (.slice (some ⟨w.heap.size, 0, none⟩) n n)) w') : wpList Try.prog ops Q (o :: rest) a w := by
 obtain ⟨i, hi, hz0, hz1, hz2⟩ := info_parts qLY; refine qA3 w hg l c _ hop 58 i _ Try.underlying55 hi hz0 kl kc A C n hl hc hA hC (by rw [hz2]; omega) (by omega) (fun w' h1 h2 h3 => ?_); rw [hz1] at h1; exact hK w' (qAF.made h1) h2 h3
theorem qBI (hg : o.guard = none) (hop : o.op = Op.makeSlice 47 l c) (n : Nat) (hl : a.eval l = .int kl A) (hc : a.eval c = .int kc C) (hA : A = (n : Int)) (hC : C = (n : Int)) (hn : n <= 1000)
 (hK : ∀ w', qAE w' w.heap.size 55 (List.replicate n (.slice none 0 0)) -> Below w.heap.size w w' -> w.heap.size < w'.heap.size -> wpList Try.prog ops Q rest (a.put o.dst (.slice (some ⟨w.heap.size, 0, none⟩) n n)) w') : wpList Try.prog ops Q (o :: rest) a w := by
 obtain ⟨i, hi, hz0, hz1, hz2⟩ := info_parts qKm; refine qA3 w hg l c _ hop 55 i _ Try.underlying47 hi hz0 kl kc A C n hl hc hA hC (by rw [hz2]; omega) (by omega) (fun w' h1 h2 h3 => ?_); rw [hz1, qFk _ _ rfl] at h1; exact hK w' h1 h2 h3
theorem qD6 (hg : o.guard = none) (hop : o.op = Op.makeSlice 23 l c) (n : Nat) (hl : a.eval l = .int kl A) (hc : a.eval c = .int kc C) (hA : A = (n : Int)) (hC : C = (n : Int)) (hn : n <= 1000)
 (hK : ∀ w', qAE w' w.heap.size 22 (List.replicate n (.slice none 0 0)) -> Below w.heap.size w w' -> w.heap.size < w'.heap.size -> wpList Try.prog ops Q rest (a.put o.dst (.slice (some ⟨w.heap.size, 0, none⟩) n n)) w') : wpList Try.prog ops Q (o :: rest) a w := by
 obtain ⟨i, hi, hz0, hz1, hz2⟩ := info_parts qLZ; refine qA3 w hg l c _ hop 22 i _ Try.underlying23 hi hz0 kl kc A C n hl hc hA hC (by rw [hz2]; omega) (by omega) (fun w' h1 h2 h3 => ?_); rw [hz1, qFk _ _ rfl] at h1; exact hK w' h1 h2 h3
theorem qAQ (hg : o.guard = none) (hop : o.op = Op.makeSlice 22 l c) (n : Nat) (hl : a.eval l = .int kl A) (hc : a.eval c = .int kc C) (hA : A = (n : Int)) (hC : C = (n : Int)) (hn : n <= 1000)
 (hK : ∀ w', qAE w' w.heap.size 3 ((List.replicate n 0).map zv) -> Below w.heap.size w w' -> w.heap.size < w'.heap.size -> wpList Try.prog ops Q rest (a.put o.dst (.slice (some ⟨w.heap.size, 0, none⟩) n n)) w') : wpList Try.prog ops Q (o :: rest) a w := by
 obtain ⟨i, hi, hz0, hz1, hz2⟩ := info_parts qMu; refine qA3 w hg l c _ hop 3 i _ Try.underlying22 hi hz0 kl kc A C n hl hc hA hC (by rw [hz2]; omega) (by omega) (fun w' h1 h2 h3 => ?_); rw [hz1, qFk _ _ rfl] at h1; exact hK w' (by rw [List.map_replicate]; exact h1) h2 h3
def lnZ (k : Nat) : List Value := (List.replicate k ()).flatMap (fun _ => [Value.slice none 0 0, .int .i64 0])
theorem qCG (k : Nat) : lnZ (k + 1) = .slice none 0 0 :: .int .i64 0 :: lnZ k := by simp [lnZ, List.replicate_succ]
theorem qFm (k : Nat) : (lnZ k).length = k * 2 := by
 induction k with
 | zero => rfl
 | succ k ih => rw [qCG]; simp [ih]; omega
theorem qGa : ∀ (n k : Nat), k < n * 2 -> (lnZ n)[k]? = some (#[Value.slice none 0 0, .int .i64 0][k % 2]!)
 | n + 1, 0, _ => by rw [qCG]; rfl
 | n + 1, 1, _ => by rw [qCG]; rfl
 | n + 1, k + 2, h => by
  rw [qCG, List.getElem?_cons_succ, List.getElem?_cons_succ, qGa n k (by omega), show (k + 2) % 2 = k % 2 by omega]
theorem qCe (hg : o.guard = none) (hop : o.op = Op.makeSlice 77 l c) (n : Nat) (hl : a.eval l = .int kl A) (hc : a.eval c = .int kc C) (hA : A = (n : Int)) (hC : C = (n : Int)) (hn : n <= 1000)
 (hK : ∀ w', qAE w' w.heap.size 103 (lnZ n) -> Below w.heap.size w w' -> w.heap.size < w'.heap.size -> wpList Try.prog ops Q rest (a.put o.dst (.slice (some ⟨w.heap.size, 0, none⟩) n n)) w') : wpList Try.prog ops Q (o :: rest) a w := by
 obtain ⟨i, hi, hz0, hz1, hz2⟩ := info_parts qMt; refine qA3 w hg l c _ hop 103 i _ Try.underlying77 hi hz0 kl kc A C n hl hc hA hC (by rw [hz2]; omega) (by omega) (fun w' h1 h2 h3 => ?_); have e : (madeCells (Value.agg #[.slice none 0 0, .int .i64 0]).cells (n * 2)).toList = lnZ n := by
  refine List.ext_getElem? (fun k => ?_); rcases Nat.lt_or_ge k (n * 2) with h | h
  ·rw [qEo _ _ _ h, qGa n k h]; rfl
  ·rw [List.getElem?_eq_none (by rw [qDd]; omega), List.getElem?_eq_none (by rw [qFm]; omega)]
 rw [hz1, e] at h1; exact hK w' h1 h2 h3
end
def rwZ (n : Nat) (l : List Rw) (k : Nat) : List Value := l.map (rwC n) ++ List.replicate k (.slice none 0 0)
theorem qEd {n k : Nat} {l : List Rw} : ∀ u ∈ rwZ n l k, ∀ x, u ≠ .int .u32 x := by
 intro u hu x; rcases List.mem_append.1 hu with h | h
 ·exact qFW u h x
 ·rw [(List.mem_replicate.1 h).2]; intro e; cases e
theorem qKH {n k g : Nat} {l : List Rw} (c : Nat) : (rwZ n l (k + 1)).set l.length (.slice (some ⟨g, 0, none⟩) n c) = rwZ n (l ++ [(g, c)]) k := by
 unfold rwZ; rw [List.set_append_right _ _ (by simp)]; simp [List.replicate_succ, rwC]
theorem qHv {n k i : Nat} {l : List Rw} (hi : i < l.length) : (rwZ n l k)[i]? = some (.slice (some ⟨l[i].1, 0, none⟩) n l[i].2) := by
 unfold rwZ; rw [List.getElem?_append_left (by simpa using hi)]; simp [hi, rwC]
theorem qCS {n k : Nat} {l : List Rw} : (rwZ n l (k + 1))[l.length]? = some (.slice none 0 0) := by
 unfold rwZ; rw [List.getElem?_append_right (by simp)]; simp [List.replicate_succ]
theorem qAj {S : Nat -> Prop} {B : Nat} {w0 w w' : World} (hb : Below B w0 w) (h : qAc S w w') (hS : ∀ k, S k -> B <= k) (hB : B <= w.heap.size) : Below B w0 w' := qAc.below h hb hB hS
theorem qFc {n k g j : Nat} {l : List Rw} (c : Nat) (h : l.length = j) : (rwZ n l (k + 1)).set j (.slice (some ⟨g, 0, none⟩) n c) = rwZ n (l ++ [(g, c)]) k := by subst h; exact qKH c
theorem qB5 {α : Type} {P : α -> Prop} {l : List α} {x : α} (h : ∀ k (hk : k < l.length), P l[k]) (hx : P x) : ∀ k (hk : k < (l ++ [x]).length), P ((l ++ [x])[k]) := by
 intro k hk; rw [List.getElem_append]
 split
 ·next h2 => exact h k h2
 ·next h2 => simpa using hx
structure RwX (w : World) (R : Nat) (l : List Rw) (n : Nat) (M : List (List Int)) (j : Nat) : Prop where
 blk : qAE w R 55 (l.map (rwC n))
 len : M.length = l.length
 row : ∀ i (h : i < l.length), i ≠ j -> qAF w l[i].1 (M[i]'(by omega)) /\ (M[i]'(by omega)).length = n
 nodup : ∀ i j (h : i < l.length) (h' : j < l.length), i ≠ j -> l[i].1 ≠ l[j].1
 cap : ∀ i (h : i < l.length), n <= l[i].2 /\ l[i].2 <= 9223372036854775807
 apart : ∀ i (h : i < l.length), l[i].1 ≠ R
section
variable {w w' : World} {R n j : Nat} {l : List Rw} {M : List (List Int)}
theorem qCd.x (h : qCd w R l n M) (j : Nat) : RwX w R l n M j := ⟨h.blk, h.len, fun i hi _ => h.rows.row i hi, h.rows.nodup, h.rows.cap, h.apart⟩
theorem RwX.blw (h : RwX w R l n M j) (hb : Below w.heap.size w w') : RwX w' R l n M j := ⟨h.blk.blw hb, h.len, fun i hi hij => ⟨(h.row i hi hij).1.blw hb, (h.row i hi hij).2⟩, h.nodup, h.cap, h.apart⟩
instance : Mv w w' (RwX w R l n M j) (RwX w' R l n M j) := ⟨fun hb h => RwX.blw h hb⟩
theorem RwX.only {S : Nat -> Prop} (h : RwX w R l n M j) (ho : qAc S w w') (hS : ∀ b, S b -> qAg w b) (hr : ¬ S R /\ ∀ i (hi : i < l.length), i ≠ j -> ¬ S l[i].1) : RwX w' R l n M j :=
 ⟨h.blk.only ho hr.1, h.len, fun i hi hij => ⟨(h.row i hi hij).1.only ho hS (hr.2 i hi hij), (h.row i hi hij).2⟩, h.nodup, h.cap, h.apart⟩
theorem RwX.off {g o1 o2 : Nat} {s : Bool} {a : Option Addr} {n' c : Nat} (h : RwX w R l n M j) (hg : qAg w g) (hr : R ≠ g /\ ∀ i (hi : i < l.length), i ≠ j -> l[i].1 ≠ g) : RwX (st2 w g o1 o2 s a n' c) R l n M j :=
 h.only (S := fun b => b = g) ((qAc.refl _ _).off' (.inl rfl)) (fun b e => e ▸ hg) hr
theorem RwX.lt (h : RwX w R l n M j) : R < w.heap.size := h.blk.lt
theorem RwX.get (h : RwX w R l n M j) (i : Nat) (hi : i < l.length) : w.cell? ⟨R, i, none⟩ = some (.slice (some ⟨l[i].1, 0, none⟩) n l[i].2) := by
 rw [h.blk.cell]; simp [hi, rwC]
theorem RwX.close (h : RwX w R l n M j) (hj : j < l.length) {zs : List Int} (hr : qAF w l[j].1 zs) (hz : zs.length = n) : qCd w R l n (M.set j zs) := by
 refine ⟨h.blk, ⟨by rw [List.length_set]; exact h.len, fun i hi => ?_, h.nodup, h.cap⟩, h.apart⟩; by_cases e : i = j
 ·subst e
  rw [List.getElem_set_self]; exact ⟨hr, hz⟩
 ·rw [List.getElem_set_ne (Ne.symm e)]
  exact h.row i hi e
end
theorem qCd.off9 {w : World} {R n g o1 o2 : Nat} {l : List Rw} {M : List (List Int)} {s : Bool} {a : Option Addr} {n' c : Nat} (h : qCd w R l n M) (hg : qAg w g) (hr : R ≠ g /\ ∀ i (hi : i < l.length), l[i].1 ≠ g) : qCd (st2 w g o1 o2 s a n' c) R l n M :=
 h.only (S := fun b => b = g) ((qAc.refl _ _).off' (.inl rfl)) (fun b e => e ▸ hg) hr.1 hr.2
open Go.RowKit
def qEH (z : Int) : Prop := -9223372036854775808 <= z /\ z <= 9223372036854775807
theorem qER {z : Int} (h : qEH z) : qBd z = .tuple #[.int .i64 z, .bool true] := if_pos h
theorem qEQ {z : Int} (h : ¬ qEH z) : qBd z = .tuple #[.int .i64 0, .bool false] := if_neg h
def rwI (x : Nat × Nat) : Value := .slice (some ⟨x.1, 0, none⟩) x.2 x.2
def qGH (l : List (Nat × Nat)) (k : Nat) : List Value := l.map rwI ++ List.replicate k (.slice none 0 0)
theorem qId {k : Nat} {l : List (Nat × Nat)} : ∀ u ∈ qGH l k, ∀ x, u ≠ .int .u32 x := by
 intro u hu x; rcases List.mem_append.1 hu with h | h
 ·obtain ⟨y, _, rfl⟩ := List.mem_map.1 h
  intro e; cases e
 ·rw [(List.mem_replicate.1 h).2]; intro e; cases e
theorem qJF {k g j : Nat} {l : List (Nat × Nat)} (c : Nat) (h : l.length = j) : (qGH l (k + 1)).set j (.slice (some ⟨g, 0, none⟩) c c) = qGH (l ++ [(g, c)]) k := by
 subst h; unfold qGH; rw [List.set_append_right _ _ (by simp)]; simp [List.replicate_succ, rwI]
theorem qIN {k i : Nat} {l : List (Nat × Nat)} (hi : i < l.length) : (qGH l k)[i]? = some (.slice (some ⟨l[i].1, 0, none⟩) l[i].2 l[i].2) := by
 unfold qGH; rw [List.getElem?_append_left (by simpa using hi)]; simp [hi, rwI]
theorem qIM {k j : Nat} {l : List (Nat × Nat)} (h : l.length = j) : (qGH l (k + 1))[j]? = some (.slice none 0 0) := by
 subst h; unfold qGH; rw [List.getElem?_append_right (by simp)]; simp [List.replicate_succ]
theorem qC0 {l : List Int} : ∀ u ∈ l.map zv, ∀ x, u ≠ .int .u32 x := by
 intro u hu x; obtain ⟨y, _, rfl⟩ := List.mem_map.1 hu; intro e; cases e
theorem qLC {r : List Int} {q : Nat} (hq : q < r.length) : ((r.take q ++ (List.replicate r.length 0).drop q).map zv).set q (.int .i64 r[q]) = (r.take (q + 1) ++ (List.replicate r.length 0).drop (q + 1)).map zv := by
 rw [<- qB2 (by simp) (by simpa using hq), List.map_set]; rfl
structure qAI (w : World) (l : List (Nat × Nat)) (M : List (List Int)) : Prop where
 len : M.length = l.length
 row : ∀ i (h : i < l.length), qAE w l[i].1 3 ((M[i]'(by omega)).map zv) /\ (M[i]'(by omega)).length = l[i].2
theorem qAI.nil (w : World) : qAI w [] [] := ⟨rfl, fun i h => by simp at h⟩
theorem qAI.blw {w w' : World} {l : List (Nat × Nat)} {M : List (List Int)} (h : qAI w l M) (hb : Below w.heap.size w w') : qAI w' l M := ⟨h.len, fun i hi => ⟨(h.row i hi).1.blw hb, (h.row i hi).2⟩⟩
instance {w w' : World} {l : List (Nat × Nat)} {M : List (List Int)} : Mv w w' (qAI w l M) (qAI w' l M) := ⟨fun hb h => qAI.blw h hb⟩
theorem qAI.only {w w' : World} {S : Nat -> Prop} {l : List (Nat × Nat)} {M : List (List Int)} (h : qAI w l M) (ho : qAc S w w') (_ : ∀ b, S b -> qAg w b) (hr : ∀ i (hi : i < l.length), ¬ S l[i].1) : qAI w' l M := ⟨h.len, fun i hi => ⟨(h.row i hi).1.only ho (hr i hi), (h.row i hi).2⟩⟩
theorem qAI.lt {w : World} {l : List (Nat × Nat)} {M : List (List Int)} (h : qAI w l M) (i : Nat) (hi : i < l.length) : l[i].1 < w.heap.size := (h.row i hi).1.lt
theorem qAI.snoc {w : World} {l : List (Nat × Nat)} {M : List (List Int)} (h : qAI w l M) {g : Nat} {r : List Int} (hr : qAE w g 3 (r.map zv)) : qAI w (l ++ [(g, r.length)]) (M ++ [r]) := by
 have hl := h.len; refine ⟨by simp [hl], fun i hi => ?_⟩; simp only [List.length_append, List.length_singleton] at hi; by_cases e : i < l.length
 ·rw [List.getElem_append_left e, List.getElem_append_left (by omega)]; exact h.row i e
 ·obtain rfl : i = l.length := by omega
  rw [List.getElem_append_right (by omega), List.getElem_append_right (by omega)]; simp only [hl, Nat.sub_self, List.getElem_singleton]; exact ⟨hr, trivial⟩
theorem qAI.mat {w : World} {R n : Nat} {l : List (Nat × Nat)} {M : List (List Int)} (h : qAI w l M) (hb : qAE w R 22 (qGH l 0)) (hc : ∀ r ∈ M, r.length <= 9223372036854775807) (hn : M.length <= n) (hn2 : n <= 9223372036854775807) : qAA w (.slice (some ⟨R, 0, none⟩) M.length n) M := by
 refine ⟨_, n, rfl, hn, hn2, fun _ => ⟨R, rfl, hb.lt, fun j hj => ?_⟩⟩; have hj' : j < l.length := by rw [<- h.len]; exact hj
 obtain ⟨h1, h2⟩ := h.row j hj'; refine ⟨_, ⟨_, rfl, qBi h1 (Nat.le_refl _) (hc _ (List.getElem_mem _))⟩, rfl, fun i hi => ?_⟩; obtain rfl : i = 0 := by omega
 rw [hb.cell, Nat.mul_one, Nat.add_zero, qIN hj', <- h2]; rfl
theorem qIc (v : Value) (M : List (List Int)) (w0 : World) (h : qEI w0 v M) (hm : M.length <= 1000) (hc : ∀ r ∈ M, r.length <= 1000) (hs : ∀ r ∈ M, ∀ x ∈ r, Sz 16000 x) :
 Calls Try.prog 31 #[v] w0 fun e w' => Below w0.heap.size w0 w' /\ ((e = .returned (.tuple #[.slice none 0 0, .int .i64 4]) /\ ∃ r ∈ M, ∃ x ∈ r, ¬ qEH x) \/ ∃ u, e = .returned (.tuple #[u, .int .i64 0]) /\ qAA w' u M /\ ∀ r ∈ M, ∀ x ∈ r, qEH x) := by
 have H := hZ h; obtain ⟨av, cv, rfl, q1, q2⟩ := qAh.form h; have Hc := hZ hc; have Hs := hZ hs; have HB := hZ (Below.refl w0.heap.size w0); clear h hc hs
 go_enter Try.func31, Try.ntmps31
 go_wp2_with (at_make; refine qD6 rfl rfl (M.length) rfl rfl rfl rfl (by omega) ?_)
 intro w1 h_9 hB hlt9; obtain ⟨R, hb⟩ := eX w0.heap.size; rw [hb] at h_9 ⊢; have Ob' := hZ h_9; have hge_R : Hid (w0.heap.size <= R) := hZ (Nat.le_of_eq hb); have hlt_R : Hid (R < w1.heap.size) := hZ (by rw [<- hb]; exact hlt9); clear h_9 hb hlt9; replace HB := bT HB hB; clear hB; have Ob := Ob'; clear Ob'
 go_wp2_with fail
 have HgR : Hid (w0.heap.size <= R) := hZ hge_R.o; clear hge_R hlt_R
 go_loopw [16] (fun i wr => ∃ (j : Nat) (l : List (Nat × Nat)), j <= M.length /\ i = .int .i64 j /\ Hid (l.length = j /\ (∀ k (h : k < l.length), R < l[k].1)) /\ Hid (∀ r ∈ M.take j, ∀ x ∈ r, qEH x) /\ Hid (qAE wr R 22 (qGH l (M.length - j))) /\ Hid (qAI wr l (M.take j)) /\ Hid (Below w0.heap.size w0 wr)) (fun i _ => M.length - (intOf i).toNat)
 case atStart => exact ⟨0, [], by omega, rfl, hZ ⟨rfl, fun k h => by simp at h⟩, hZ (by simp), hZ (by simpa [qGH] using Ob.o), hZ (qAI.nil _), HB⟩
 case round =>
  clear HB Ob; obtain ⟨j, l, hj, rfl, HL, HF, Ob, II, HB⟩ := hrel; obtain ⟨w1, rfl⟩ := eY wr; by_cases hlt : j < M.length
  ·skip
   obtain ⟨b, cap, a, c, hv, hb, n1, HI, g1, g2⟩ := H.o.at_ j hlt; injection hv with f1 f2 f3; subst f1; clear f2 f3; have HI := hZ HI; have Hr : Hid (M[j].length <= 1000) := hZ (Hc.o _ (List.getElem_mem hlt)); have Hsr : Hid (∀ x ∈ M[j], Sz 16000 x) := hZ (Hs.o _ (List.getElem_mem hlt)); have Hmem : Hid (M[j] ∈ M) := hZ (List.getElem_mem hlt); have HM : Hid (M.take (j + 1) = M.take j ++ [M[j]]) := hZ (by rw [List.take_succ_eq_append_getElem hlt]); replace n1 := (HB.o.cell (p := ⟨b, j, none⟩) hb).trans n1; generalize M[j] = r at *; have hr1 := Hr.o; have i1 : (0 : Int) <= (j : Int) := by omega
   have i2 : (j : Int) < (M.length : Int) := by omega
   go_wp2_with (at_make; refine qAQ rfl rfl (r.length) rfl rfl rfl rfl (by omega) ?_)
   intro w2 h_9 hB hlt9; obtain ⟨g, hb⟩ := eX w1.heap.size; rw [hb] at h_9 ⊢; have Oc' := hZ h_9; have hge_g : Hid (w1.heap.size <= g) := hZ (Nat.le_of_eq hb); have hlt_g : Hid (g < w2.heap.size) := hZ (by rw [<- hb]; exact hlt9); have HLg : Hid ((∀ k (h : k < l.length), l[k].1 < g) /\ R < g) := hZ ⟨fun k h => by rw [<- hb]; exact II.o.lt k h, by rw [<- hb]; exact Ob.o.lt⟩; clear h_9 hb hlt9; replace Ob := Ob.b hB; replace II := II.b hB; replace HB := bT HB hB; clear hB; have Oc := Oc'; clear Oc'; have HGG : Hid (w0.heap.size <= g) := hZ (by have := HLg.o.2; have := HgR.o; omega); clear hge_g hlt_g; have Hk : Hid (M.length - j = (M.length - (j + 1)) + 1) := hZ (by omega); rw [Hk.o] at Ob; have e0 : w2.cell? ⟨R, j, none⟩ = some (.slice none 0 0) := (Ob.o.cell j).trans (qIM HL.o.1); have e2 := Ob.o.frozen (j); obtain ⟨w3, hw⟩ := eX (w2.setCell ⟨R, j, none⟩ (.slice (some ⟨g, 0, none⟩) r.length r.length)); have ho : qAc (fun b => b = R) w2 w3 := by rw [<- hw]; exact (qAc.refl (fun b => b = R) _).set (p := ⟨R, j, none⟩) rfl _
   have hN : ∀ b, b = R -> qAg w2 b := fun b e => e ▸ Ob.o.noInt qId; replace Ob := hZ ((by have h1 := Ob.o.set j (.slice (some ⟨g, 0, none⟩) r.length r.length); rw [hw, qJF r.length HL.o.1] at h1; exact h1)); replace II := hZ (II.o.only ho hN (fun i hi => by intro (e : _ = R); have := HL.o.2 i hi; omega)); replace Oc := hZ (Oc.o.only ho (by intro (e : _ = R); have := HLg.o.2; omega)); replace HB := hZ (qAj HB.o ho (fun b e => by have := HgR.o; omega) HB.o.size); clear ho hN
   go_wp2_with fail
   clear hw e0 e2; have HTl : Hid (r.length = (List.replicate r.length (0 : Int)).length) := hZ (by simp)
   go_loopw [29] (fun i wr => ∃ q : Nat, q <= r.length /\ i = .int .i64 q /\ Hid (∀ x ∈ r.take q, qEH x) /\ Hid (qAE wr R 22 (qGH (l ++ [(g, r.length)]) (M.length - (j + 1)))) /\ Hid (qAI wr l (M.take j)) /\ Hid (qAE wr g 3 ((r.take q ++ (List.replicate r.length 0).drop q).map zv)) /\ Hid (Below w0.heap.size w0 wr)) (fun i _ => r.length - (intOf i).toNat)
   case atStart => exact ⟨0, by omega, rfl, hZ (by simp), Ob, II, hZ (by simpa using Oc.o), HB⟩
   case round =>
    clear Ob II Oc HB; obtain ⟨q, hq, rfl, HFr, Ob, II, Oc, HB⟩ := hrel; obtain ⟨w3, rfl⟩ := eY wr; by_cases hql : q < r.length
    ·skip
     have i3 : (0 : Int) <= (q : Int) := by omega
     have i4 : (q : Int) < (r.length : Int) := by omega
     obtain ⟨b9, c9, s_h, a_h, n_h, c_h, hv9, hb9, d0h, d1h, h_h⟩ := (HI.o.blw HB.o).at_ q hql; injection hv9 with f1 f2 f3; subst f1; clear f2 f3; obtain ⟨z, hz⟩ := eX (r[q]); rw [hz] at h_h; have Vh := hZ h_h; have Sh : Hid (Sz 16000 z) := hZ (hz ▸ Hsr.o _ (List.getElem_mem _)); have Hz := hZ hz; have Hzm : Hid (z ∈ r) := hZ (hz ▸ List.getElem_mem _); clear h_h hz hb9; have hgl := Oc.o.lt; obtain ⟨w4, hw⟩ := eX ((w3.alloc (.cells #[.bool s_h, .slice a_h n_h c_h] 58))); have hB := aB hw; obtain ⟨bh, hb_bh⟩ := eX w3.heap.size; have h9 := Bx.new (w := w3) Vh.o; rw [hw, hb_bh] at h9; have Fh' := hZ h9; have hge_bh : w3.heap.size <= bh := by omega
     clear h9; replace Ob := Ob.b hB; replace II := II.b hB; replace Oc := Oc.b hB; replace Vh := Vh.b hB; replace HB := bT HB hB; have Fh := Fh'; clear Fh'; clear hB; have hgb : g < bh := by omega
     clear hgl; obtain ⟨s_p, a_p, n_p, c_p, t_p, h_p⟩ := Fh.o; have d0p := t_p.cell0; have d1p := t_p.cell1; have Vp := hZ h_p; clear t_p h_p
     go_wp2_with fail
     clear hw hb_bh d0h d1h; clear d0p d1p; by_cases hf : qEH z
     ·skip
      refine (qFS _ _ w4 Vp.o (Sh.o.lim (by omega))).mono ?_; rintro e w5 ⟨he, hB⟩; rw [qER hf] at he; subst he; replace Ob := Ob.b hB; replace II := II.b hB; replace Oc := Oc.b hB; replace Vh := Vh.b hB; replace Fh := Fh.b hB; replace Vp := Vp.b hB; replace HB := bT HB hB; clear hB; clear Fh Vp Vh; have e0 : w5.cell? ⟨R, j, none⟩ = some (.slice (some ⟨g, 0, none⟩) r.length r.length) := (Ob.o.cell j).trans (by have h1 := HL.o.1; subst h1; rw [qIN (by simp)]; simp); obtain ⟨u9, e1⟩ : ∃ u, w5.cell? ⟨g, q, none⟩ = some u := ⟨_, (Oc.o.cell q).trans (List.getElem?_eq_getElem (by simp; omega))⟩; have e2 := Oc.o.frozen (q); obtain ⟨w6, hw⟩ := eX (w5.setCell ⟨g, q, none⟩ (.int .i64 z)); have ho : qAc (fun b => b = g) w5 w6 := by rw [<- hw]; exact (qAc.refl (fun b => b = g) _).set (p := ⟨g, q, none⟩) rfl _
      have hN : ∀ b, b = g -> qAg w5 b := fun b e => e ▸ Oc.o.noInt qC0; replace Oc := hZ ((by have h1 := Oc.o.set q (.int .i64 z); rw [hw] at h1; have h2 := qLC hql; rw [Hz.o] at h2; rw [h2] at h1; exact h1)); replace Ob := hZ (Ob.o.only ho (by intro (e : _ = g); have := HLg.o.2; omega)); replace II := hZ (II.o.only ho hN (fun i hi => by intro (e : _ = g); have := HLg.o.1 i hi; omega)); replace HB := hZ (qAj HB.o ho (fun b e => by have := HGG.o; omega) HB.o.size); clear ho hN
      go_wp2_with fail
      go_roundw
      case rel => exact ⟨q + 1, by omega, by go_num, hZ (by rw [List.take_succ_eq_append_getElem hql]; intro s hs; rcases List.mem_append.1 hs with h | h; exact HFr.o s h; rw [List.mem_singleton.1 h, Hz.o]; exact hf), Ob, II, Oc, HB⟩
      case measure => simp [intOf]; omega
     ·skip
      refine (qFS _ _ w4 Vp.o (Sh.o.lim (by omega))).mono ?_; rintro e w5 ⟨he, hB⟩; rw [qEQ hf] at he; subst he; replace Ob := Ob.b hB; replace II := II.b hB; replace Oc := Oc.b hB; replace Vh := Vh.b hB; replace Fh := Fh.b hB; replace Vp := Vp.b hB; replace HB := bT HB hB; clear hB
      go_wp2_with fail
      exact bodyPost_ret (v := .tuple #[.slice none 0 0, .int .i64 4]) (by simp [results, Try.results31, go_sem]) rfl ⟨HB.o, .inl ⟨rfl, r, Hmem.o, z, Hzm.o, hf⟩⟩
    ·skip
     obtain rfl : q = r.length := by omega
     go_wp2_with fail
     go_roundw
     case rel =>
      have hR := Oc.o; rw [List.take_of_length_le (Nat.le_refl _), List.drop_eq_nil_of_le (by simp), List.append_nil] at hR; have hF := HFr.o; rw [List.take_of_length_le (Nat.le_refl _)] at hF; exact ⟨j + 1, l ++ [(g, r.length)], by omega, by go_num, hZ ⟨by have := HL.o.1; simp; omega, qB5 (P := fun (x : Nat × Nat) => R < x.1) HL.o.2 HLg.o.2⟩, hZ (by rw [HM.o]; intro s hs; rcases List.mem_append.1 hs with h | h; exact HF.o s h; rw [List.mem_singleton.1 h]; exact hF), Ob, hZ (by rw [HM.o]; exact II.o.snoc hR), HB⟩
     case measure => simp [intOf]; omega
  ·skip
   obtain rfl : j = M.length := by omega
   go_wp2_with fail
   have h1 := Ob.o; rw [Nat.sub_self] at h1; have h2 := II.o; rw [List.take_of_length_le (Nat.le_refl _)] at h2; have h3 := HF.o; rw [List.take_of_length_le (Nat.le_refl _)] at h3; exact bodyPost_ret (v := .tuple #[.slice (some ⟨R, 0, none⟩) M.length M.length, .int .i64 0]) (by simp [results, Try.results31, go_sem]) rfl ⟨HB.o, .inr ⟨_, rfl, h2.mat h1 (fun r hr => by have := Hc.o r hr; omega) (Nat.le_refl _) (by omega), h3⟩⟩
end Go.Proofs.Ytlmbebbdamgfpaa
