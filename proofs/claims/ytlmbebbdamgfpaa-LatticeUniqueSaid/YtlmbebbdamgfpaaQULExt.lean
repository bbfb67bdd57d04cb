/- lattice.extend. -/
import Derived.Test.YtlmbebbdamgfpaaQULRows
import Derived.Test.YtlmbebbdamgfpaaQULLn
import Derived.Test.YtlmbebbdamgfpaaQULInd
set_option linter.unusedVariables false
set_option linter.unusedSimpArgs false
set_option linter.unusedVariables false
set_option linter.unusedSimpArgs false
namespace Go.Proofs.Ytlmbebbdamgfpaa
open Go.RowKit

/-- the cells of a row that is read -/
theorem WOf.cells {w : World} {a : Option Addr} {n c : Nat} {zs : List Int} (h : WOf w (.slice a n c) zs) (h0 : 0 < zs.length) :
 ∃ b cs, a = some ⟨b, 0, none⟩ ∧ n = zs.length ∧ cs.length = zs.length * 2 ∧ (∀ j u, cs[j]? = some u → w.cell? ⟨b, j, none⟩ = some u) ∧ ∀ tl : List Value, (∀ u ∈ tl, u = .bool false ∨ u = .slice none 0 0) → WCs w (cs ++ tl) zs := by
 obtain ⟨b, cap, s, a', n', c', hv, -, -, -, -⟩ := h.at_ 0 h0
 injection hv with e1 e2 e3
 subst e1 e3
 refine ⟨b, (List.range zs.length).flatMap (fun j => [(w.cell? ⟨b, j * 2, none⟩).getD (.bool false), (w.cell? ⟨b, j * 2 + 1, none⟩).getD (.bool false)]), rfl, e2, flen _ _ _, ?_, ?_⟩
 ·intro j u hu
  have hj : j < zs.length * 2 := by
   rcases Nat.lt_or_ge j (zs.length * 2) with h | h
   ·exact h
   ·rw [List.getElem?_eq_none (by rw [flen]; exact h)] at hu; cases hu
  obtain ⟨b2, cap2, s, a', n', c', hv, -, h1, h2, -⟩ := h.at_ (j / 2) (by omega)
  injection hv with f1 f2 f3
  injection f1 with f1
  injection f1 with f1
  subst f1
  have h3 := flat2 (fun j => (w.cell? ⟨b, j * 2, none⟩).getD (.bool false)) (fun j => (w.cell? ⟨b, j * 2 + 1, none⟩).getD (.bool false)) zs.length (j / 2) (by omega)
  rcases Nat.mod_two_eq_zero_or_one j with e | e
  ·have e2 : j / 2 * 2 = j := by omega
   rw [e2] at h1 h3
   rw [h3.1] at hu
   injection hu with hu
   rw [← hu]
   simp only [e2] at *
   rw [h1]; rfl
  ·have e2 : j / 2 * 2 + 1 = j := by omega
   rw [e2] at h2 h3
   rw [h3.2] at hu
   injection hu with hu
   rw [← hu]
   simp only [e2] at *
   rw [h2]; rfl
 ·intro tl htl
  have key : ∀ j (hj : j < zs.length), ∃ a n c, ((List.range zs.length).flatMap (fun j => [(w.cell? ⟨b, j * 2, none⟩).getD (.bool false), (w.cell? ⟨b, j * 2 + 1, none⟩).getD (.bool false)]))[j * 2]? = some (.bool (decide (zs[j] < 0))) ∧ ((List.range zs.length).flatMap (fun j => [(w.cell? ⟨b, j * 2, none⟩).getD (.bool false), (w.cell? ⟨b, j * 2 + 1, none⟩).getD (.bool false)]))[j * 2 + 1]? = some (.slice a n c) ∧ WInt w (.agg #[.bool (decide (zs[j] < 0)), .slice a n c]) zs[j] := by
   intro j hj
   obtain ⟨b2, cap2, s, a', n', c', hv, -, h1, h2, h3⟩ := h.at_ j hj
   injection hv with f1 f2 f3
   injection f1 with f1
   injection f1 with f1
   subst f1
   have h4 := flat2 (fun j => (w.cell? ⟨b, j * 2, none⟩).getD (.bool false)) (fun j => (w.cell? ⟨b, j * 2 + 1, none⟩).getD (.bool false)) zs.length j hj
   have hs : s = decide (zs[j] < 0) := by
    obtain ⟨vw, hv, hm⟩ := h3
    injection hv with hv
    have h9 := congrArg (fun x => x[0]?) hv
    simp at h9
    exact h9
   subst hs
   refine ⟨a', n', c', ?_, ?_, h3⟩
   ·rw [h4.1, h1]; rfl
   ·rw [h4.2, h2]; rfl
  have hlen : ((List.range zs.length).flatMap (fun j => [(w.cell? ⟨b, j * 2, none⟩).getD (.bool false), (w.cell? ⟨b, j * 2 + 1, none⟩).getD (.bool false)])).length = zs.length * 2 := flen _ _ _
  refine ⟨by rw [List.length_append, hlen]; omega, ?_, fun j hj => ?_⟩
  ·intro u hu x
   rcases List.mem_append.1 hu with hu | hu
   ·obtain ⟨i, hi, rfl⟩ := List.mem_iff_getElem.1 hu
    rw [hlen] at hi
    obtain ⟨a1, a2, a3, k1, k2, -⟩ := key (i / 2) (by omega)
    intro e
    rcases Nat.mod_two_eq_zero_or_one i with e2 | e2
    ·rw [show i / 2 * 2 = i by omega, List.getElem?_eq_getElem (by rw [hlen]; exact hi), e] at k1
     cases k1
    ·rw [show i / 2 * 2 + 1 = i by omega, List.getElem?_eq_getElem (by rw [hlen]; exact hi), e] at k2
     cases k2
   ·rcases htl u hu with rfl | rfl <;> intro e <;> cases e
  ·obtain ⟨a1, a2, a3, k1, k2, k3⟩ := key j hj
   exact ⟨a1, a2, a3, by rw [List.getElem?_append_left (by rw [hlen]; omega)]; exact k1, by rw [List.getElem?_append_left (by rw [hlen]; omega)]; exact k2, k3⟩
where
 flen (f g : Nat → Value) (n : Nat) : ((List.range n).flatMap (fun j => [f j, g j])).length = n * 2 := by
  have key : ∀ L : List Nat, (L.flatMap (fun j => [f j, g j])).length = L.length * 2 := by
   intro L
   induction L with
   | nil => rfl
   | cons x L ih => rw [List.flatMap_cons, List.length_append, ih]; simp; omega
  rw [key, List.length_range]
 flat2 (f g : Nat → Value) (n j : Nat) (hj : j < n) : ((List.range n).flatMap (fun j => [f j, g j]))[j * 2]? = some (f j) ∧ ((List.range n).flatMap (fun j => [f j, g j]))[j * 2 + 1]? = some (g j) := by
  have key : ∀ (L : List Nat) (j : Nat) (h : j < L.length), (L.flatMap (fun j => [f j, g j]))[j * 2]? = some (f L[j]) ∧ (L.flatMap (fun j => [f j, g j]))[j * 2 + 1]? = some (g L[j]) := by
   intro L
   induction L with
   | nil => intro j h; simp at h
   | cons x L ih =>
    intro j h
    cases j with
    | zero => simp
    | succ j =>
     have := ih j (by simpa using h)
     rw [show (j + 1) * 2 = j * 2 + 2 by omega, show j * 2 + 2 + 1 = j * 2 + 1 + 2 by omega]
     simpa using this
  have := key (List.range n) j (by simpa using hj)
  simpa using this

/-- lines numbered in order -/
def lnOf (l : List Rw) : List Ln := l.mapIdx (fun i x => (x.1, x.2, (i : Int)))
theorem lnOf_len (l : List Rw) : (lnOf l).length = l.length := by simp [lnOf]
theorem lnOf_at (l : List Rw) (i : Nat) (h : i < l.length) : (lnOf l)[i]'(by rw [lnOf_len]; exact h) = (l[i].1, l[i].2, (i : Int)) := by simp [lnOf]
theorem lnOf_snoc (l : List Rw) (x : Rw) : lnOf (l ++ [x]) = lnOf l ++ [(x.1, x.2, (l.length : Int))] := by simp [lnOf, List.mapIdx_append]
/-- the cells of lines, k of them not yet laid -/
def lnP (n : Nat) (l : List Rw) (k : Nat) : List Value := (lnOf l).flatMap (lnC n) ++ lnZ k
theorem lnP_noInt {n k : Nat} {l : List Rw} : ∀ u ∈ lnP n l k, ∀ x, u ≠ .int .u32 x := by
 intro u hu x
 rcases List.mem_append.1 hu with h | h
 ·exact lnC_noInt u h x
 ·obtain ⟨i, hi, rfl⟩ := List.mem_iff_getElem.1 h
  rw [lnZ_len] at hi
  have := lnZ_at k i hi
  rw [List.getElem?_eq_getElem (by rw [lnZ_len]; exact hi)] at this
  injection this with this
  rw [this]
  rcases Nat.mod_two_eq_zero_or_one i with e | e <;> rw [e] <;> intro e2 <;> cases e2
theorem lnP_set {n k g j : Nat} {l : List Rw} (c : Nat) (h : l.length = j) : ((lnP n l (k + 1)).set (j * 2) (.slice (some ⟨g, 0, none⟩) n c)).set (j * 2 + 1) (.int .i64 (j : Int)) = lnP n (l ++ [(g, c)]) k := by
 subst h
 unfold lnP
 have h1 : ((lnOf l).flatMap (lnC n)).length = l.length * 2 := by rw [lnC_len, lnOf_len]
 rw [List.set_append_right _ _ (by omega), List.set_append_right _ _ (by omega), h1, lnZ_succ, lnOf_snoc, List.flatMap_append]
 simp [lnC]
theorem lnP_next {n k j : Nat} {l : List Rw} (h : l.length = j) : (lnP n l (k + 1))[j * 2]? = some (.slice none 0 0) ∧ (lnP n l (k + 1))[j * 2 + 1]? = some (.int .i64 0) := by
 subst h
 unfold lnP
 have h1 : ((lnOf l).flatMap (lnC n)).length = l.length * 2 := by rw [lnC_len, lnOf_len]
 rw [List.getElem?_append_right (by omega), List.getElem?_append_right (by omega), h1, lnZ_succ]
 simp
theorem LnAt.of_rows {w : World} {B n : Nat} {l : List Rw} {M : List (List Int)} (hb : BlkC w B 103 (lnP n l 0)) (hr : RowsIn w l n M) (ha : ∀ i (h : i < l.length), l[i].1 ≠ B) : LnAt w B (lnOf l) n M := by
 refine ⟨by simpa [lnP, lnZ] using hb, by rw [lnOf_len]; exact hr.len, fun i hi => ?_, fun i j hi hj hij => ?_, fun i hi => ?_, fun i hi => ?_⟩
 ·rw [lnOf_len] at hi
  rw [lnOf_at l i hi]
  exact hr.row i hi
 ·rw [lnOf_len] at hi hj
  rw [lnOf_at l i hi, lnOf_at l j hj]
  exact hr.nodup i j hi hj hij
 ·rw [lnOf_len] at hi
  rw [lnOf_at l i hi]
  exact hr.cap i hi
 ·rw [lnOf_len] at hi
  rw [lnOf_at l i hi]
  exact ha i hi

set_option maxRecDepth 100000 in
set_option maxHeartbeats 8000000 in
theorem lines_any (v : Value) (M : List (List Int)) (n : Nat) (w0 : World) (h : WMat w0 v M) (hm : M.length ≤ 1000) (hn : ∀ r ∈ M, r.length = n) (hn0 : 0 < n) (hn2 : n ≤ 1000) :
 Calls Try.prog 51 #[v] w0 fun e w' => ∃ B l, e = .returned (.slice (some ⟨B, 0, none⟩) M.length M.length) ∧ LnAt w' B l n M ∧ l.length = M.length ∧ w0.heap.size ≤ B ∧ (∀ i (h : i < l.length), w0.heap.size ≤ l[i].1) ∧ Below w0.heap.size w0 w' := by
 have H := hZ h
 obtain ⟨av, cv, rfl, q1, q2⟩ := SliceOf.form h
 have Hn := hZ hn
 have HB := hZ (Below.refl w0.heap.size w0)
 clear h hn
 go_enter Try.func51, Try.ntmps51
 go_wp2_with (at_make; refine wpList_make_lines rfl rfl (M.length) rfl rfl rfl rfl (by omega) ?_)
 intro w1 h_9 hB hlt9
 obtain ⟨B, hb⟩ : ∃ b, w0.heap.size = b := ⟨_, rfl⟩
 rw [hb] at h_9 ⊢
 have Ob' := hZ h_9
 have hge_B : Hid (w0.heap.size ≤ B) := hZ (Nat.le_of_eq hb)
 have hlt_B : Hid (B < w1.heap.size) := hZ (by rw [← hb]; exact hlt9)
 clear h_9 hb hlt9
 replace HB := bT HB hB
 clear hB
 have Ob := Ob'
 clear Ob'
 go_wp2_with fail
 have HgR : Hid (w0.heap.size ≤ B) := hZ hge_B.o
 clear hge_B hlt_B
 go_loopw [11] (fun i wr => ∃ (j : Nat) (l : List Rw), j ≤ M.length ∧ i = .int .i64 j ∧ Hid (l.length = j ∧ (∀ k (h : k < l.length), B < l[k].1)) ∧ Hid (BlkC wr B 103 (lnP n l (M.length - j))) ∧ Hid (RowsIn wr l n (M.take j)) ∧ Hid (Below w0.heap.size w0 wr)) (fun i _ => M.length - (intOf i).toNat)
 case atStart => exact ⟨0, [], by omega, rfl, hZ ⟨rfl, fun k h => by simp at h⟩, hZ (by simpa [lnP, lnOf] using Ob.o), hZ (RowsIn.nil _ _), HB⟩
 case round =>
  clear HB Ob
  obtain ⟨j, l, hj, rfl, HL, Ob, RI, HB⟩ := hrel
  obtain ⟨w1, rfl⟩ : ∃ w' : World, w' = wr := ⟨_, rfl⟩
  by_cases hlt : j < M.length
  ·skip
   obtain ⟨b, cap, a, c, hv, hb, n1, HI, g1, g2⟩ := H.o.at_ j hlt
   injection hv with f1 f2 f3
   subst f1
   clear f2 f3
   have Hr : Hid (M[j].length = n) := hZ (Hn.o _ (List.getElem_mem hlt))
   have HM : Hid (M.take (j + 1) = M.take j ++ [M[j]]) := hZ (by rw [List.take_succ_eq_append_getElem hlt])
   replace n1 := (HB.o.cell (p := ⟨b, j, none⟩) hb).trans n1
   replace HI := hZ (HI.blw HB.o)
   generalize M[j] = r at *
   obtain ⟨br, cs, rfl, -, hcl, hcs, hwc⟩ := HI.o.cells (by have := Hr.o; omega)
   have HCS := hZ hcs
   have HWC := hZ hwc
   rw [Hr.o] at n1 hcl
   have Hcl := hZ hcl
   clear hcl HI hcs hwc g1
   have i1 : (0 : Int) ≤ (j : Int) := by omega
   have i2 : (j : Int) < (M.length : Int) := by omega
   go_wp2_with (at_builtin; refine wpList_appW rfl _ _ rfl rfl br n _ cs rfl Hcl.o HCS.o hn0 (by omega) ?_)
   intro cap9 tl hc1 hc2 htl
   obtain ⟨w2, hw⟩ : ∃ w', (w1.alloc (.cells (cs ++ tl).toArray 58)).drew = w' := ⟨_, rfl⟩
   have hB : Below w1.heap.size w1 w2 := by rw [← hw]; exact ((Below.refl _ _).alloc (Nat.le_refl _) _).drew
   obtain ⟨g, hg⟩ : ∃ g, w1.heap.size = g := ⟨_, rfl⟩
   have Rr' : Hid (WRow w2 g r) := hZ ⟨cs ++ tl, by rw [← hw, ← hg]; exact (BlkC.new w1 _ _).drew, (HWC.o tl htl).below hB⟩
   have HLg : Hid ((∀ k (h : k < l.length), l[k].1 < g) ∧ B < g) := hZ ⟨fun k h => by rw [← hg]; exact RI.o.lt k h, by rw [← hg]; exact Ob.o.lt⟩
   rw [hw, hg]
   clear hw hg HCS HWC Hcl htl
   replace Ob := hZ (Ob.o.blw hB)
   replace RI := hZ (RI.o.blw hB)
   replace HB := bT HB hB
   clear hB
   have Rr := Rr'
   clear Rr'
   have Hk : Hid (M.length - j = (M.length - (j + 1)) + 1) := hZ (by omega)
   rw [Hk.o] at Ob
   have e0 : w2.cell? ⟨B, j * 2, none⟩ = some (.slice none 0 0) := (Ob.o.cell _).trans (lnP_next HL.o.1).1
   have e1 : w2.cell? ⟨B, j * 2 + 1, none⟩ = some (.int .i64 0) := (Ob.o.cell _).trans (lnP_next HL.o.1).2
   have e20 := Ob.o.frozen (j * 2)
   have e21 := Ob.o.frozen (j * 2 + 1)
   obtain ⟨w3, hw⟩ : ∃ w', ((w2.setCell ⟨B, j * 2, none⟩ (.slice (some ⟨g, 0, none⟩) n cap9)).setCell ⟨B, j * 2 + 1, none⟩ (.int .i64 (j : Int))) = w' := ⟨_, rfl⟩
   have ho : Only (fun b => b = B) w2 w3 := by rw [← hw]; exact (((Only.refl (fun b => b = B) _).set (p := ⟨B, j * 2, none⟩) rfl _).set (p := ⟨B, j * 2 + 1, none⟩) rfl _)
   have hN : ∀ b, b = B → NoInt w2 b := fun b e => e ▸ Ob.o.noInt lnP_noInt
   replace Ob := hZ ((by have h1 := (Ob.o.set (j * 2) (.slice (some ⟨g, 0, none⟩) n cap9)).set (j * 2 + 1) (.int .i64 (j : Int)); rw [hw, lnP_set cap9 HL.o.1] at h1; exact h1))
   replace RI := hZ (RI.o.only ho hN (fun i hi => by intro (e : _ = B); have := HL.o.2 i hi; omega))
   replace Rr := hZ (Rr.o.only ho hN (by intro (e : _ = B); have := HLg.o.2; omega))
   replace HB := hZ (below_only HB.o ho (fun b e => by have := HgR.o; omega) HB.o.size)
   clear ho hN
   go_wp2_with fail
   go_roundw
   case rel => exact ⟨j + 1, l ++ [(g, cap9)], by omega, by go_num, hZ ⟨by have := HL.o.1; simp; omega, snoc_all (P := fun (x : Rw) => B < x.1) HL.o.2 HLg.o.2⟩, Ob, hZ (by rw [HM.o]; exact RI.o.snoc Rr.o Hr.o (fun i hi => by have := HLg.o.1 i hi; omega) hc1 hc2), HB⟩
   case measure => simp [intOf]; omega
  ·skip
   obtain rfl : j = M.length := by omega
   go_wp2_with fail
   go_ret
   have h1 := Ob.o
   rw [Nat.sub_self] at h1
   have h2 := RI.o
   rw [List.take_of_length_le (Nat.le_refl _)] at h2
   exact ⟨B, lnOf l, rfl, LnAt.of_rows h1 h2 (fun i hi => by have := HL.o.2 i hi; omega), by rw [lnOf_len]; exact HL.o.1, HgR.o, fun i hi => by rw [lnOf_len] at hi; rw [lnOf_at l i hi]; have := HL.o.2 i hi; have := HgR.o; show _ ≤ l[i].1; omega, HB.o⟩
end Go.Proofs.Ytlmbebbdamgfpaa
set_option linter.unusedVariables false
set_option linter.unusedSimpArgs false
namespace Go.Proofs.Ytlmbebbdamgfpaa
open Go.RowKit

theorem extE_le {s : List Int} {M : List (List Int)} {K j : Nat} (h : ∀ i (hi : i < M.length), (vec s i * vec M[i] j).natAbs ≤ K) : ∀ i, i ≤ M.length → (extE s M i j).natAbs ≤ i * K
 | 0, _ => by simp [extE_zero]
 | i + 1, hi => by
  rw [extE_succ s M i j (by omega), Nat.succ_mul]
  have h1 := extE_le h i (by omega)
  have h2 := h i (by omega)
  omega
theorem vec_sz {k : Nat} {s : List Int} (h : ∀ x ∈ s, Sz k x) (i : Nat) : Sz k (vec s i) := by
 rcases Nat.lt_or_ge i s.length with h1 | h1
 ·rw [vec_at h1]; exact h _ (List.getElem_mem _)
 ·rw [vec_out h1]; exact Sz.zero _
theorem pow_six (a i : Nat) (hi : i ≤ 64) : i * 2 ^ a < 2 ^ (a + 7) := by
 have h1 : 0 < 2 ^ a := Nat.pow_pos (by omega)
 rw [Nat.pow_add]
 have h2 : i * 2 ^ a ≤ 64 * 2 ^ a := Nat.mul_le_mul_right _ hi
 generalize 2 ^ a = P at *
 omega
theorem extE_szk {k l : Nat} {s : List Int} {M : List (List Int)} {j : Nat} (hs : ∀ x ∈ s, Sz k x) (hM : ∀ r ∈ M, ∀ x ∈ r, Sz l x) (i : Nat) (hi : i ≤ M.length) (hl : M.length ≤ 64) : Sz (k + l + 7) (extE s M i j) := by
 have h1 : ∀ i (hi : i < M.length), (vec s i * vec M[i] j).natAbs ≤ 2 ^ (k + l) := fun i hi => by
  have := (vec_sz hs i).mul (vec_sz (hM _ (List.getElem_mem hi)) j)
  unfold Sz at this
  exact Nat.le_of_lt this
 have h2 := extE_le h1 i hi
 unfold Sz
 exact Nat.lt_of_le_of_lt h2 (pow_six _ i (by omega))
theorem extE_sz {s : List Int} {M : List (List Int)} {j : Nat} (hs : ∀ x ∈ s, Sz 4001 x) (hM : ∀ r ∈ M, ∀ x ∈ r, Sz 4000 x) (i : Nat) (hi : i ≤ M.length) (hl : M.length ≤ 64) : Sz 8010 (extE s M i j) := (extE_szk hs hM i hi hl).mono (by omega)
theorem td_keep {A B : List Int} {j : Nat} {z : Int} (h : A.length = B.length) (hj : j < B.length) (hz : B[j] = z) : (A.take j ++ B.drop j).set j z = A.take j ++ B.drop j := by
 refine List.ext_getElem (by simp) (fun k h1 h2 => ?_)
 rw [List.getElem_set]
 split
 ·next e => subst e; rw [td_at h hj, hz]
 ·rfl

set_option maxRecDepth 100000 in
set_option maxHeartbeats 8000000 in
theorem extend_any (vh vd : Value) (hs : List Int) (w0 : World) (B cB n fr : Nat) (l : List Ln) (M : List (List Int)) (d : Int) (hh : WOf w0 vh hs) (hhs : hs.length ≤ l.length) (h : LnAt w0 B l n M) (hl0 : 0 < l.length) (hl : l.length ≤ 64) (hcB : l.length ≤ cB) (hcB2 : cB ≤ 9223372036854775807) (hd : WInt w0 vd d) (hd0 : d ≠ 0) (hfr : fr ≤ n) (hn : n ≤ 1000) (sh : ∀ x ∈ hs, Sz 4001 x) (sM : ∀ r ∈ M, ∀ x ∈ r, Sz 4000 x) (sd : Sz 4000 d) :
 Calls Try.prog 54 #[vh, .slice (some ⟨B, 0, none⟩) l.length cB, vd, .int .i64 fr] w0 fun e w' => ∃ g, e = .returned (.slice (some ⟨g, 0, none⟩) (n - fr : Nat) (n - fr : Nat)) ∧ WRow w' g (extL hs M hs.length d fr (n - fr)) ∧ w0.heap.size ≤ g ∧ Below w0.heap.size w0 w' := by
 have HH := hZ hh
 obtain ⟨ah, ch, rfl, q1, q2⟩ := SliceOf.form hh
 have K := hZ h
 obtain ⟨s_d, a_d, n_d, c_d, rfl⟩ := hd.form4
 have Vd := hZ hd
 have HB := hZ (Below.refl w0.heap.size w0)
 have Hlen := hZ h.len
 have SH := hZ sh
 have SM := hZ sM
 have Sd := hZ sd
 have hT := extL_len (s := hs) (M := M) (k := hs.length) (d := d) (c := fr) (n := n - fr)
 have HT := hZ hT
 obtain ⟨x0, x1⟩ := h.get 0 hl0
 simp only [Nat.zero_mul] at x0 x1
 generalize l[0].1 = g0 at *
 generalize l[0].2.1 = gc0 at *
 have hl1 : (0 : Int) < (l.length : Int) := by omega
 clear h hh hd sh sM sd hT x1
 have X0 := hZ x0
 clear x0
 obtain ⟨w1, hw⟩ : ∃ w', (w0.alloc (.cells #[.bool s_d, .slice a_d n_d c_d] 58)) = w' := ⟨_, rfl⟩
 have hB := aB hw
 obtain ⟨bd, hb_bd⟩ : ∃ b, w0.heap.size = b := ⟨_, rfl⟩
 have h9 := Bx.new (w := w0) Vd.o
 rw [hw, hb_bd] at h9
 have Fd' := hZ h9
 have hge_bd : w0.heap.size ≤ bd := by omega
 clear h9
 replace Vd := hZ (Vd.o.blw hB)
 replace HB := bT HB hB
 have Fd := Fd'
 clear Fd'
 clear hB
 have Hbd : Hid (w0.heap.size ≤ bd) := hZ hge_bd
 clear hge_bd
 have x0 := (HB.o.cell (p := ⟨B, 0, none⟩) K.o.lt).trans X0.o
 go_enter Try.func54, Try.ntmps54
 go_wp2_with (at_make; refine wpList_make_wide rfl rfl (n - fr) rfl rfl (by omega) (by omega) (by omega) ?_)
 intro w2 h_9 hB hlt9
 obtain ⟨g, hb⟩ : ∃ b, w1.heap.size = b := ⟨_, rfl⟩
 rw [hb] at h_9 ⊢
 have Rr' := hZ h_9
 have hge_g : Hid (w1.heap.size ≤ g) := hZ (Nat.le_of_eq hb)
 have hlt_g : Hid (g < w2.heap.size) := hZ (by rw [← hb]; exact hlt9)
 have HGG : w0.heap.size ≤ g ∧ bd < g := ⟨Nat.le_trans HB.o.size hge_g.o, by rw [← hb]; exact Fd.o.lt⟩
 clear h_9 hb hlt9
 replace Vd := hZ (Vd.o.blw hB)
 replace Fd := hZ (Fd.o.blw hB)
 replace HB := bT HB hB
 clear hB
 have Rr := Rr'
 clear Rr'
 skip
 clear Vd
 go_wp2_with fail
 have Hg : Hid (w0.heap.size ≤ g ∧ bd < g) := hZ HGG
 clear hge_g hlt_g HGG X0
 try clear x0
 obtain ⟨N, hN⟩ : ∃ N, n - fr = N := ⟨_, rfl⟩
 have Hnn := hZ hN
 have hN1 : N ≤ 1000 := by omega
 rw [hN] at Rr HT ⊢
 clear hN
 go_loopw [24] (fun i wr => ∃ j : Nat, j ≤ N ∧ i = .int .i64 j ∧ Hid (WRow wr g ((extL hs M hs.length d fr N).take j ++ (List.replicate N 0).drop j)) ∧ Hid (Bx wr bd d) ∧ Hid (Below w0.heap.size w0 wr)) (fun i _ => N - (intOf i).toNat)
 case atStart => exact ⟨0, by omega, rfl, hZ (by simpa using Rr.o), Fd, HB⟩
 case round =>
  clear Rr Fd HB
  obtain ⟨j, hj, rfl, Rr, Fd, HB⟩ := hrel
  obtain ⟨w2, rfl⟩ : ∃ w' : World, w' = wr := ⟨_, rfl⟩
  by_cases hlt : j < N
  ·skip
   have i1 : (0 : Int) ≤ (j : Int) := by omega
   have i2 : (j : Int) < (N : Int) := by omega
   have HTl : Hid ((extL hs M hs.length d fr N).length = (List.replicate N (0 : Int)).length) := hZ (by have := HT.o; simpa using this)
   obtain ⟨base, hbase⟩ : ∃ L, (extL hs M hs.length d fr N).take j ++ (List.replicate N 0).drop j = L := ⟨_, rfl⟩
   rw [hbase] at Rr
   have Hbl : Hid (j < base.length) := hZ (by rw [← hbase, td_len HTl.o (by simp; omega)]; simpa using hlt)
   have HBS : Hid (base.set j ((extL hs M hs.length d fr N)[j]'(by have := HT.o; omega)) = (extL hs M hs.length d fr N).take (j + 1) ++ (List.replicate N 0).drop (j + 1)) := hZ (by rw [← hbase]; exact td_set HTl.o (by simpa using hlt))
   have HB0 : Hid (base.set j 0 = base) := hZ (by rw [← hbase]; exact td_keep HTl.o (by simpa using hlt) (by simp))
   have HE0 : Hid (extE hs M 0 (fr + j) = 0) := hZ (extE_zero _ _ _)
   clear hbase
   go_wp2_with fail
   go_loopw [29] (fun i wr => ∃ q : Nat, q ≤ hs.length ∧ i = .int .i64 q ∧ Hid (WRow wr g (base.set j (extE hs M q (fr + j)))) ∧ Hid (Bx wr bd d) ∧ Hid (Below w0.heap.size w0 wr)) (fun i _ => hs.length - (intOf i).toNat)
   case atStart => exact ⟨0, by omega, rfl, hZ (by rw [HE0.o, HB0.o]; exact Rr.o), Fd, HB⟩
   case round =>
    clear Rr Fd HB
    obtain ⟨q, hq, rfl, Rr, Fd, HB⟩ := hrel
    obtain ⟨w2, rfl⟩ : ∃ w' : World, w' = wr := ⟨_, rfl⟩
    by_cases hql : q < hs.length
    ·skip
     have i3 : (0 : Int) ≤ (q : Int) := by omega
     have i4 : (q : Int) < (hs.length : Int) := by omega
     have i5 : (q : Int) < (l.length : Int) := by omega
     have hqM : q < M.length := by have := Hlen.o; omega
     have hql2 : q < l.length := by omega
     obtain ⟨b9, c9, s_h, a_h, n_h, c_h, hv9, hb9, d0h, d1h, h_h⟩ := (HH.o.blw HB.o).at_ q hql
     injection hv9 with f1 f2 f3
     subst f1
     clear f2 f3
     obtain ⟨hv, hhv⟩ : ∃ z, hs[q] = z := ⟨_, rfl⟩
     rw [hhv] at h_h
     have Vh := hZ h_h
     have Sh : Hid (Sz 4001 hv) := hZ (hhv ▸ SH.o _ (List.getElem_mem _))
     have Hhv := hZ hhv
     clear h_h hhv hb9
     have hgl := Rr.o.lt
     obtain ⟨w3, hw⟩ : ∃ w', (w2.alloc (.cells #[.bool s_h, .slice a_h n_h c_h] 58)) = w' := ⟨_, rfl⟩
     have hB := aB hw
     obtain ⟨bh, hb_bh⟩ : ∃ b, w2.heap.size = b := ⟨_, rfl⟩
     have h9 := Bx.new (w := w2) Vh.o
     rw [hw, hb_bh] at h9
     have Fh' := hZ h9
     have hge_bh : w2.heap.size ≤ bh := by omega
     clear h9
     replace Rr := hZ (Rr.o.blw hB)
     replace Fd := hZ (Fd.o.blw hB)
     replace Vh := hZ (Vh.o.blw hB)
     replace HB := bT HB hB
     have Fh := Fh'
     clear Fh'
     clear hB
     have hgb : g < bh := by omega
     clear hgl
     have hgl := Rr.o.lt
     obtain ⟨y0, y1⟩ := (K.o.blw HB.o).get q hql2
     obtain ⟨hrow, hrl⟩ := (K.o.blw HB.o).row q hql2
     have hjn : fr + j < M[q].length := by have := Hnn.o; omega
     obtain ⟨s_e, a_e, n_e, c_e, d0e, d1e, h_e⟩ := hrow.get (fr + j) hjn
     have hltg := hrow.lt
     obtain ⟨ev, hev⟩ : ∃ z, M[q][fr + j] = z := ⟨_, rfl⟩
     rw [hev] at h_e
     have Ve := hZ h_e
     have Se : Hid (Sz 4000 ev) := hZ (hev ▸ SM.o _ (List.getElem_mem _) _ (List.getElem_mem _))
     have Hev := hZ hev
     obtain ⟨ge, hge⟩ : ∃ g, l[q].1 = g := ⟨_, rfl⟩
     obtain ⟨ce, hce⟩ : ∃ c, l[q].2.1 = c := ⟨_, rfl⟩
     rw [hge, hce] at y0
     rw [hge] at d0e d1e
     clear y1 h_e hev hge hce hrow hrl hltg
     have i6 : (0 : Int) ≤ (fr : Int) + (j : Int) := by omega
     have i7 : (fr : Int) + (j : Int) < (n : Int) := by have := Hnn.o; omega
     have Hext : Hid (extE hs M (q + 1) (fr + j) = extE hs M q (fr + j) + hv * ev) := hZ (by rw [extE_succ _ _ _ _ hqM, vec_at hql, vec_at hjn, Hhv.o, Hev.o])
     have SE : Hid (Sz 8010 (extE hs M q (fr + j))) := hZ (extE_sz SH.o SM.o q (by omega) (by have := Hlen.o; omega))
     have hw1 := hw
     clear hw
     obtain ⟨w4, hw⟩ : ∃ w', (w3.alloc (.cells #[.bool s_e, .slice a_e n_e c_e] 58)) = w' := ⟨_, rfl⟩
     have hB := aB hw
     obtain ⟨be, hb_be⟩ : ∃ b, w3.heap.size = b := ⟨_, rfl⟩
     have h9 := Bx.new (w := w3) Ve.o
     rw [hw, hb_be] at h9
     have Fe' := hZ h9
     have hge_be : w3.heap.size ≤ be := by omega
     clear h9
     replace Rr := hZ (Rr.o.blw hB)
     replace Fd := hZ (Fd.o.blw hB)
     replace Vh := hZ (Vh.o.blw hB)
     replace Fh := hZ (Fh.o.blw hB)
     replace Ve := hZ (Ve.o.blw hB)
     replace HB := bT HB hB
     have Fe := Fe'
     clear Fe'
     clear hB
     have Hne : Hid (g < bh ∧ g < be) := hZ ⟨hgb, by omega⟩
     clear hgb hgl
     skip
     skip
     obtain ⟨s_p, a_p, n_p, c_p, t_p, h_p⟩ := Fh.o
     have d0p := t_p.cell0
     have d1p := t_p.cell1
     have Vp := hZ h_p
     clear t_p h_p
     go_wp2_with fail
     clear hw hw1 hb_bh hb_be
     clear d0h d1h d0e d1e y0
     obtain ⟨E, hE⟩ : ∃ z, extE hs M q (fr + j) = z := ⟨_, rfl⟩
     rw [hE] at Rr Hext SE
     clear hE
     by_cases hh0 : hv = 0
     ·skip
      refine (sign_b (w := w4) Vp.o Sh.o (by omega)).mono ?_
      rintro e w5 ⟨he, hB⟩
      rw [show cmp3 hv 0 = 0 by rw [hh0]; exact cmp3_eq 0] at he
      subst he
      replace Rr := hZ (Rr.o.blw hB)
      replace Fd := hZ (Fd.o.blw hB)
      replace Vh := hZ (Vh.o.blw hB)
      replace Fh := hZ (Fh.o.blw hB)
      replace Ve := hZ (Ve.o.blw hB)
      replace Fe := hZ (Fe.o.blw hB)
      replace Vp := hZ (Vp.o.blw hB)
      replace HB := bT HB hB
      clear hB
      go_wp2_with fail
      go_roundw
      case rel => exact ⟨q + 1, by omega, by go_num, hZ (by rw [Hext.o, show E + hv * ev = E by rw [hh0]; simp]; exact Rr.o), Fd, HB⟩
      case measure => simp [intOf]; omega
     ·skip
      refine (sign_b (w := w4) Vp.o Sh.o (by omega)).mono ?_
      rintro e w5 ⟨he, hB⟩
      obtain ⟨sgp, hs9, q0p, q1p⟩ := cmp3_nz (x := hv) hh0
      rw [hs9] at he
      subst he
      clear hs9
      replace Rr := hZ (Rr.o.blw hB)
      replace Fd := hZ (Fd.o.blw hB)
      replace Vh := hZ (Vh.o.blw hB)
      replace Fh := hZ (Fh.o.blw hB)
      replace Ve := hZ (Ve.o.blw hB)
      replace Fe := hZ (Fe.o.blw hB)
      replace Vp := hZ (Vp.o.blw hB)
      replace HB := bT HB hB
      clear hB
      obtain ⟨s_o, a_o, n_o, c_o, t_o, h_o⟩ := Fe.o
      have d0o := t_o.cell0
      have d1o := t_o.cell1
      have Vo := hZ h_o
      clear t_o h_o
      go_wp2_with fail
      clear d0p d1p
      clear q0p q1p
      by_cases he0 : ev = 0
      ·skip
       refine (sign_b (w := w5) Vo.o Se.o (by omega)).mono ?_
       rintro e w6 ⟨he, hB⟩
       rw [show cmp3 ev 0 = 0 by rw [he0]; exact cmp3_eq 0] at he
       subst he
       replace Rr := hZ (Rr.o.blw hB)
       replace Fd := hZ (Fd.o.blw hB)
       replace Vh := hZ (Vh.o.blw hB)
       replace Fh := hZ (Fh.o.blw hB)
       replace Ve := hZ (Ve.o.blw hB)
       replace Fe := hZ (Fe.o.blw hB)
       replace Vp := hZ (Vp.o.blw hB)
       replace Vo := hZ (Vo.o.blw hB)
       replace HB := bT HB hB
       clear hB
       go_wp2_with fail
       go_roundw
       case rel => exact ⟨q + 1, by omega, by go_num, hZ (by rw [Hext.o, show E + hv * ev = E by rw [he0]; simp]; exact Rr.o), Fd, HB⟩
       case measure => simp [intOf]; omega
      ·skip
       refine (sign_b (w := w5) Vo.o Se.o (by omega)).mono ?_
       rintro e w6 ⟨he, hB⟩
       obtain ⟨sgo, hs9, q0o, q1o⟩ := cmp3_nz (x := ev) he0
       rw [hs9] at he
       subst he
       clear hs9
       replace Rr := hZ (Rr.o.blw hB)
       replace Fd := hZ (Fd.o.blw hB)
       replace Vh := hZ (Vh.o.blw hB)
       replace Fh := hZ (Fh.o.blw hB)
       replace Ve := hZ (Ve.o.blw hB)
       replace Fe := hZ (Fe.o.blw hB)
       replace Vp := hZ (Vp.o.blw hB)
       replace Vo := hZ (Vo.o.blw hB)
       replace HB := bT HB hB
       clear hB
       go_wp2_with fail
       clear d0o d1o
       clear q0o q1o
       clear Vh Ve Vp Vo
       have Hjs : Hid (j < (base.set j E).length) := hZ (by rw [List.length_set]; exact Hbl.o)
       obtain ⟨w7, hwd⟩ : ∃ w', w6.drew = w' := ⟨_, rfl⟩
       have hB := dB hwd
       replace Rr := hZ (Rr.o.blw hB)
       replace Fd := hZ (Fd.o.blw hB)
       replace Fh := hZ (Fh.o.blw hB)
       replace Fe := hZ (Fe.o.blw hB)
       replace HB := bT HB hB
       clear hB
       have HBr : Hid (Only (fun b => False) w7 w7) := hZ (Only.refl _ _)
       refine startL [11] (fun w' => Only (fun b => False) w7 w') (by kernel_rfl) (by rw [hwd]; exact Only.refl _ _) (fun hHeld => ?_)
       rw [hwd] at hHeld ⊢
       clear hwd
       obtain ⟨s_r, a_r, n_r, c_r, d0r, d1r, h_r⟩ := Rr.o.get j Hjs.o
       rw [List.getElem_set_self] at h_r
       have Vr := hZ h_r
       clear h_r
       obtain ⟨s_h, a_h, n_h, c_h, t_h, h_h⟩ := Fh.o
       have d0h := t_h.cell0
       have d1h := t_h.cell1
       have Vh := hZ h_h
       clear t_h h_h
       obtain ⟨s_e, a_e, n_e, c_e, t_e, h_e⟩ := Fe.o
       have d0e := t_e.cell0
       have d1e := t_e.cell1
       have Ve := hZ h_e
       clear t_e h_e
       refine pP 0 52 (v := ?_) rfl rfl ?_ ?_
       rotate_left
       ·(intro w; go_simp; first | done | with_reducible rfl)
       simp only [sX1, sX2, sX3]
       refine pP 1 53 (v := ?_) rfl rfl ?_ ?_
       rotate_left
       ·(intro w; go_simp; first | done | with_reducible rfl)
       simp only [sX1, sX2, sX3]
       refine pP 2 54 (v := ?_) rfl rfl ?_ ?_
       rotate_left
       ·(intro w; go_simp; first | done | with_reducible rfl)
       simp only [sX1, sX2, sX3]
       refine pP 3 55 (v := ?_) rfl rfl ?_ ?_
       rotate_left
       ·(intro w; go_simp; first | done | with_reducible rfl)
       simp only [sX1, sX2, sX3]
       refine pP 4 56 (v := ?_) rfl rfl ?_ ?_
       rotate_left
       ·(intro w; go_simp; first | done | with_reducible rfl)
       simp only [sX1, sX2, sX3]
       refine tP 5 57 (v := ?_) rfl rfl ?_ ?_
       rotate_left
       ·(intro w hSw; have x0 := (hSw.cell (p := ⟨g, j * 2, none⟩) (fun h => h) Rr.o.lt).trans d0r; have x1 := (hSw.cell (p := ⟨g, j * 2 + 1, none⟩) (fun h => h) Rr.o.lt).trans d1r; go_simp; first | done | with_reducible rfl)
       simp only [sX1, sX2, sX3]
       refine tP 6 58 (v := ?_) rfl rfl ?_ ?_
       rotate_left
       ·(intro w hSw; have x0 := (hSw.cell (p := ⟨bh, 0, none⟩) (fun h => h) Fh.o.lt).trans d0h; have x1 := (hSw.cell (p := ⟨bh, 1, none⟩) (fun h => h) Fh.o.lt).trans d1h; go_simp; first | done | with_reducible rfl)
       simp only [sX1, sX2, sX3]
       refine tP 7 59 (v := ?_) rfl rfl ?_ ?_
       rotate_left
       ·(intro w hSw; have x0 := (hSw.cell (p := ⟨be, 0, none⟩) (fun h => h) Fe.o.lt).trans d0e; have x1 := (hSw.cell (p := ⟨be, 1, none⟩) (fun h => h) Fe.o.lt).trans d1e; go_simp; first | done | with_reducible rfl)
       simp only [sX1, sX2, sX3]
       clear d0h d1h d0e d1e
       clear d0r d1r
       refine stepL 8 (by kernel_rfl) rfl (fun K hK => ?_)
       go_simp
       refine (times_b (w := w7) Vh.o Ve.o Sh.o Se.o (by omega)).mono ?_
       rintro e w8 ⟨s_t, a_t, n_t, c_t, rfl, h_t, hB⟩
       have Vt := hZ h_t
       replace HBr := oT HBr hB
       replace Rr := hZ (Rr.o.blw hB)
       replace Fd := hZ (Fd.o.blw hB)
       replace Fh := hZ (Fh.o.blw hB)
       replace Fe := hZ (Fe.o.blw hB)
       replace Vr := hZ (Vr.o.blw hB)
       replace Vh := hZ (Vh.o.blw hB)
       replace Ve := hZ (Ve.o.blw hB)
       replace HB := bT HB hB
       clear hB
       clear h_t
       refine hK.out _ _ HBr.o (fun hHeld => ?_)
       clear hK K
       try simp only [Act.put, sX1, sX2, sX3]
       refine stepL 9 (by kernel_rfl) rfl (fun K hK => ?_)
       go_simp
       refine (plus_b (w := w8) (k := 8010) Vr.o Vt.o SE.o ((Sh.o.mul Se.o).mono (by omega)) (by omega)).mono ?_
       rintro e w9 ⟨s_u, a_u, n_u, c_u, rfl, h_u, hB⟩
       have Vu := hZ h_u
       replace HBr := oT HBr hB
       replace Rr := hZ (Rr.o.blw hB)
       replace Fd := hZ (Fd.o.blw hB)
       replace Fh := hZ (Fh.o.blw hB)
       replace Fe := hZ (Fe.o.blw hB)
       replace Vr := hZ (Vr.o.blw hB)
       replace Vh := hZ (Vh.o.blw hB)
       replace Ve := hZ (Ve.o.blw hB)
       replace Vt := hZ (Vt.o.blw hB)
       replace HB := bT HB hB
       clear hB
       clear h_u
       refine hK.out _ _ HBr.o (fun hHeld => ?_)
       clear hK K
       try simp only [Act.put, sX1, sX2, sX3]
       refine pP 10 62 (v := ?_) rfl rfl ?_ ?_
       rotate_left
       ·(intro w; go_simp; first | done | with_reducible rfl)
       simp only [sX1, sX2, sX3]
       obtain ⟨s_9, a_9, n_9, c_9, e0, e1, -⟩ := Rr.o.get (j) Hjs.o
       have e2 := Rr.o.frozen (j * 2)
       have e3 := Rr.o.frozen (j * 2 + 1)
       have hn9 : NoInt w9 (g) := Rr.o.noInt
       obtain ⟨w10, hw⟩ : ∃ w', (w9.setCell ⟨g, j * 2, none⟩ (.bool s_u)).setCell ⟨g, j * 2 + 1, none⟩ (.slice a_u n_u c_u) = w' := ⟨_, rfl⟩
       have hw2 : st2 w9 (g) (j * 2) (j * 2 + 1) s_u a_u n_u c_u = w10 := hw
       replace Rr := hZ (WRow.put' Rr.o (j) Hjs.o Vu.o)
       rw [hw2] at Rr
       replace Fd := hZ (Fd.o.offe hw2 hn9 (by have := Hg.o; have := Hne.o; omega))
       replace Fh := hZ (Fh.o.offe hw2 hn9 (by have := Hg.o; have := Hne.o; omega))
       replace Fe := hZ (Fe.o.offe hw2 hn9 (by have := Hg.o; have := Hne.o; omega))
       replace Vr := hZ (Vr.o.offe hw2 hn9)
       replace Vh := hZ (Vh.o.offe hw2 hn9)
       replace Ve := hZ (Ve.o.offe hw2 hn9)
       replace Vt := hZ (Vt.o.offe hw2 hn9)
       replace Vu := hZ (Vu.o.offe hw2 hn9)
       replace HB := hZ (bO hw2 HB.o Hg.o.1)
       clear hw2 hn9
       refine lateL 11 (by kernel_rfl) (by decide) rfl (fun K hK => ?_)
       go_simp
       try rw [hw]
       refine hK.out _ _ ?_
       clear hK K
       try simp only [Act.put, sX1, sX2, sX3]
       clear hw e0 e1 e2 e3
       refine doneL (by kernel_rfl) ?_ _
       clear hHeld
       replace Rr : Hid (WRow w10 g (base.set j (E + hv * ev))) := hZ (by have h1 := Rr.o; rw [List.set_set] at h1; exact h1)
       go_wp2_with fail
       go_roundw
       case rel => exact ⟨q + 1, by omega, by go_num, hZ (by rw [Hext.o]; exact Rr.o), Fd, HB⟩
       case measure => simp [intOf]; omega
    ·skip
     obtain rfl : q = hs.length := by omega
     have SE : Hid (Sz 8010 (extE hs M hs.length (fr + j))) := hZ (extE_sz SH.o SM.o _ (by have := Hlen.o; omega) (by have := Hlen.o; omega))
     have HTj : Hid ((extL hs M hs.length d fr N)[j]'(by have := HT.o; omega) = extE hs M hs.length (fr + j) / d) := hZ (by simp [extL])
     generalize extE hs M hs.length (fr + j) = E at *
     have Hjs : Hid (j < (base.set j E).length) := hZ (by rw [List.length_set]; exact Hbl.o)
     obtain ⟨s_r, a_r, n_r, c_r, d0r, d1r, h_r⟩ := Rr.o.get j Hjs.o
     rw [List.getElem_set_self] at h_r
     have Vr := hZ h_r
     clear h_r
     go_wp2_with fail
     clear d0r d1r
     by_cases hE0 : E = 0
     ·skip
      refine (sign_b (w := w2) Vr.o SE.o (by omega)).mono ?_
      rintro e w3 ⟨he, hB⟩
      rw [show cmp3 E 0 = 0 by rw [hE0]; exact cmp3_eq 0] at he
      subst he
      replace Rr := hZ (Rr.o.blw hB)
      replace Fd := hZ (Fd.o.blw hB)
      replace Vr := hZ (Vr.o.blw hB)
      replace HB := bT HB hB
      clear hB
      go_wp2_with fail
      go_roundw
      case rel => exact ⟨j + 1, by omega, by go_num, hZ (by rw [← HBS.o, HTj.o, hE0, Int.zero_ediv]; have h1 := Rr.o; rw [hE0] at h1; exact h1), Fd, HB⟩
      case measure => simp [intOf]; omega
     ·skip
      refine (sign_b (w := w2) Vr.o SE.o (by omega)).mono ?_
      rintro e w3 ⟨he, hB⟩
      obtain ⟨sgr, hs9, q0r, q1r⟩ := cmp3_nz (x := E) hE0
      rw [hs9] at he
      subst he
      clear hs9
      replace Rr := hZ (Rr.o.blw hB)
      replace Fd := hZ (Fd.o.blw hB)
      replace Vr := hZ (Vr.o.blw hB)
      replace HB := bT HB hB
      clear hB
      go_wp2_with fail
      clear q0r q1r
      clear Vr
      obtain ⟨w4, hwd⟩ : ∃ w', w3.drew = w' := ⟨_, rfl⟩
      have hB := dB hwd
      replace Rr := hZ (Rr.o.blw hB)
      replace Fd := hZ (Fd.o.blw hB)
      replace HB := bT HB hB
      clear hB
      have HBr : Hid (Only (fun b => False) w4 w4) := hZ (Only.refl _ _)
      refine startL [9] (fun w' => Only (fun b => False) w4 w') (by kernel_rfl) (by rw [hwd]; exact Only.refl _ _) (fun hHeld => ?_)
      rw [hwd] at hHeld ⊢
      clear hwd
      obtain ⟨s_r, a_r, n_r, c_r, d0r, d1r, h_r⟩ := Rr.o.get j Hjs.o
      rw [List.getElem_set_self] at h_r
      have Vr := hZ h_r
      clear h_r
      obtain ⟨s_d, a_d, n_d, c_d, t_d, h_d⟩ := Fd.o
      have d0d := t_d.cell0
      have d1d := t_d.cell1
      have Vd := hZ h_d
      clear t_d h_d
      refine pP 0 70 (v := ?_) rfl rfl ?_ ?_
      rotate_left
      ·(intro w; go_simp; first | done | with_reducible rfl)
      simp only [sX1, sX2, sX3]
      refine pP 1 71 (v := ?_) rfl rfl ?_ ?_
      rotate_left
      ·(intro w; go_simp; first | done | with_reducible rfl)
      simp only [sX1, sX2, sX3]
      refine pP 2 72 (v := ?_) rfl rfl ?_ ?_
      rotate_left
      ·(intro w; go_simp; first | done | with_reducible rfl)
      simp only [sX1, sX2, sX3]
      refine pP 3 73 (v := ?_) rfl rfl ?_ ?_
      rotate_left
      ·(intro w; go_simp; first | done | with_reducible rfl)
      simp only [sX1, sX2, sX3]
      refine pP 4 74 (v := ?_) rfl rfl ?_ ?_
      rotate_left
      ·(intro w; go_simp; first | done | with_reducible rfl)
      simp only [sX1, sX2, sX3]
      refine tP 5 75 (v := ?_) rfl rfl ?_ ?_
      rotate_left
      ·(intro w hSw; have x0 := (hSw.cell (p := ⟨g, j * 2, none⟩) (fun h => h) Rr.o.lt).trans d0r; have x1 := (hSw.cell (p := ⟨g, j * 2 + 1, none⟩) (fun h => h) Rr.o.lt).trans d1r; go_simp; first | done | with_reducible rfl)
      simp only [sX1, sX2, sX3]
      refine tP 6 76 (v := ?_) rfl rfl ?_ ?_
      rotate_left
      ·(intro w hSw; have x0 := (hSw.cell (p := ⟨bd, 0, none⟩) (fun h => h) Fd.o.lt).trans d0d; have x1 := (hSw.cell (p := ⟨bd, 1, none⟩) (fun h => h) Fd.o.lt).trans d1d; go_simp; first | done | with_reducible rfl)
      simp only [sX1, sX2, sX3]
      clear d0d d1d
      clear d0r d1r
      refine stepL 7 (by kernel_rfl) rfl (fun K hK => ?_)
      go_simp
      refine (over_b (w := w4) Vr.o Vd.o SE.o Sd.o hd0 (by omega) (by omega)).mono ?_
      rintro e w5 ⟨s_u, a_u, n_u, c_u, rfl, h_u, hB⟩
      have Vu := hZ h_u
      replace HBr := oT HBr hB
      replace Rr := hZ (Rr.o.blw hB)
      replace Fd := hZ (Fd.o.blw hB)
      replace Vr := hZ (Vr.o.blw hB)
      replace Vd := hZ (Vd.o.blw hB)
      replace HB := bT HB hB
      clear hB
      clear h_u
      refine hK.out _ _ HBr.o (fun hHeld => ?_)
      clear hK K
      try simp only [Act.put, sX1, sX2, sX3]
      refine pP 8 78 (v := ?_) rfl rfl ?_ ?_
      rotate_left
      ·(intro w; go_simp; first | done | with_reducible rfl)
      simp only [sX1, sX2, sX3]
      obtain ⟨s_9, a_9, n_9, c_9, e0, e1, -⟩ := Rr.o.get (j) Hjs.o
      have e2 := Rr.o.frozen (j * 2)
      have e3 := Rr.o.frozen (j * 2 + 1)
      have hn9 : NoInt w5 (g) := Rr.o.noInt
      obtain ⟨w6, hw⟩ : ∃ w', (w5.setCell ⟨g, j * 2, none⟩ (.bool s_u)).setCell ⟨g, j * 2 + 1, none⟩ (.slice a_u n_u c_u) = w' := ⟨_, rfl⟩
      have hw2 : st2 w5 (g) (j * 2) (j * 2 + 1) s_u a_u n_u c_u = w6 := hw
      replace Rr := hZ (WRow.put' Rr.o (j) Hjs.o Vu.o)
      rw [hw2] at Rr
      replace Fd := hZ (Fd.o.offe hw2 hn9 (by have := Hg.o; omega))
      replace Vr := hZ (Vr.o.offe hw2 hn9)
      replace Vd := hZ (Vd.o.offe hw2 hn9)
      replace Vu := hZ (Vu.o.offe hw2 hn9)
      replace HB := hZ (bO hw2 HB.o Hg.o.1)
      clear hw2 hn9
      refine lateL 9 (by kernel_rfl) (by decide) rfl (fun K hK => ?_)
      go_simp
      try rw [hw]
      refine hK.out _ _ ?_
      clear hK K
      try simp only [Act.put, sX1, sX2, sX3]
      clear hw e0 e1 e2 e3
      refine doneL (by kernel_rfl) ?_ _
      clear hHeld
      go_wp2_with fail
      go_roundw
      case rel => exact ⟨j + 1, by omega, by go_num, hZ (by rw [← HBS.o, HTj.o]; have h1 := Rr.o; rw [List.set_set] at h1; exact h1), Fd, HB⟩
      case measure => simp [intOf]; omega
  ·skip
   obtain rfl : j = N := by omega
   replace Rr : Hid (WRow w2 g (extL hs M hs.length d fr j)) := hZ (by have h1 := Rr.o; have h2 := HT.o; rw [List.take_of_length_le (by omega), List.drop_eq_nil_of_le (by simp), List.append_nil] at h1; exact h1)
   go_wp2_with fail
   go_ret
   rw [Hnn.o]
   exact ⟨g, rfl, Rr.o, Hg.o.1, HB.o⟩
end Go.Proofs.Ytlmbebbdamgfpaa
