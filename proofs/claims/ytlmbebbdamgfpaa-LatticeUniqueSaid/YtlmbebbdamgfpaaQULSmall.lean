/- lattice.small. -/
import Derived.Test.YtlmbebbdamgfpaaQULRows
import Derived.Test.YtlmbebbdamgfpaaQULMat
set_option linter.unusedVariables false
set_option linter.unusedSimpArgs false
set_option linter.unusedVariables false
set_option linter.unusedSimpArgs false
namespace Go.Proofs.Ytlmbebbdamgfpaa
open Go.RowKit

def fitZ (z : Int) : Prop := -9223372036854775808 ≤ z ∧ z ≤ 9223372036854775807
theorem smallV_fit {z : Int} (h : fitZ z) : smallV z = .tuple #[.int .i64 z, .bool true] := if_pos h
theorem smallV_out {z : Int} (h : ¬ fitZ z) : smallV z = .tuple #[.int .i64 0, .bool false] := if_neg h
def rwI (x : Nat × Nat) : Value := .slice (some ⟨x.1, 0, none⟩) x.2 x.2
def rwIZ (l : List (Nat × Nat)) (k : Nat) : List Value := l.map rwI ++ List.replicate k (.slice none 0 0)
theorem rwIZ_noInt {k : Nat} {l : List (Nat × Nat)} : ∀ u ∈ rwIZ l k, ∀ x, u ≠ .int .u32 x := by
 intro u hu x
 rcases List.mem_append.1 hu with h | h
 ·obtain ⟨y, _, rfl⟩ := List.mem_map.1 h
  intro e; cases e
 ·rw [(List.mem_replicate.1 h).2]; intro e; cases e
theorem rwIZ_set {k g j : Nat} {l : List (Nat × Nat)} (c : Nat) (h : l.length = j) : (rwIZ l (k + 1)).set j (.slice (some ⟨g, 0, none⟩) c c) = rwIZ (l ++ [(g, c)]) k := by
 subst h
 unfold rwIZ
 rw [List.set_append_right _ _ (by simp)]
 simp [List.replicate_succ, rwI]
theorem rwIZ_at {k i : Nat} {l : List (Nat × Nat)} (hi : i < l.length) : (rwIZ l k)[i]? = some (.slice (some ⟨l[i].1, 0, none⟩) l[i].2 l[i].2) := by
 unfold rwIZ
 rw [List.getElem?_append_left (by simpa using hi)]
 simp [hi, rwI]
theorem rwIZ_next {k j : Nat} {l : List (Nat × Nat)} (h : l.length = j) : (rwIZ l (k + 1))[j]? = some (.slice none 0 0) := by
 subst h
 unfold rwIZ
 rw [List.getElem?_append_right (by simp)]
 simp [List.replicate_succ]
theorem zv_noInt {l : List Int} : ∀ u ∈ l.map zv, ∀ x, u ≠ .int .u32 x := by
 intro u hu x
 obtain ⟨y, _, rfl⟩ := List.mem_map.1 hu
 intro e; cases e
theorem zs_set {r : List Int} {q : Nat} (hq : q < r.length) : ((r.take q ++ (List.replicate r.length 0).drop q).map zv).set q (.int .i64 r[q]) = (r.take (q + 1) ++ (List.replicate r.length 0).drop (q + 1)).map zv := by
 rw [← td_set (by simp) (by simpa using hq), List.map_set]
 rfl
/-- rows of ints, a block each -/
structure IntsIn (w : World) (l : List (Nat × Nat)) (M : List (List Int)) : Prop where
 len : M.length = l.length
 row : ∀ i (h : i < l.length), BlkC w l[i].1 3 ((M[i]'(by omega)).map zv) ∧ (M[i]'(by omega)).length = l[i].2
theorem IntsIn.nil (w : World) : IntsIn w [] [] := ⟨rfl, fun i h => by simp at h⟩
theorem IntsIn.blw {w w' : World} {l : List (Nat × Nat)} {M : List (List Int)} (h : IntsIn w l M) (hb : Below w.heap.size w w') : IntsIn w' l M := ⟨h.len, fun i hi => ⟨(h.row i hi).1.blw hb, (h.row i hi).2⟩⟩
theorem IntsIn.only {w w' : World} {S : Nat → Prop} {l : List (Nat × Nat)} {M : List (List Int)} (h : IntsIn w l M) (ho : Only S w w') (_ : ∀ b, S b → NoInt w b) (hr : ∀ i (hi : i < l.length), ¬ S l[i].1) : IntsIn w' l M := ⟨h.len, fun i hi => ⟨(h.row i hi).1.only ho (hr i hi), (h.row i hi).2⟩⟩
theorem IntsIn.lt {w : World} {l : List (Nat × Nat)} {M : List (List Int)} (h : IntsIn w l M) (i : Nat) (hi : i < l.length) : l[i].1 < w.heap.size := (h.row i hi).1.lt
theorem IntsIn.snoc {w : World} {l : List (Nat × Nat)} {M : List (List Int)} (h : IntsIn w l M) {g : Nat} {r : List Int} (hr : BlkC w g 3 (r.map zv)) : IntsIn w (l ++ [(g, r.length)]) (M ++ [r]) := by
 have hl := h.len
 refine ⟨by simp [hl], fun i hi => ?_⟩
 simp only [List.length_append, List.length_singleton] at hi
 by_cases e : i < l.length
 ·rw [List.getElem_append_left e, List.getElem_append_left (by omega)]; exact h.row i e
 ·obtain rfl : i = l.length := by omega
  rw [List.getElem_append_right (by omega), List.getElem_append_right (by omega)]
  simp only [hl, Nat.sub_self, List.getElem_singleton]
  exact ⟨hr, trivial⟩
theorem IntsIn.mat {w : World} {R n : Nat} {l : List (Nat × Nat)} {M : List (List Int)} (h : IntsIn w l M) (hb : BlkC w R 22 (rwIZ l 0)) (hc : ∀ r ∈ M, r.length ≤ 9223372036854775807) (hn : M.length ≤ n) (hn2 : n ≤ 9223372036854775807) : MatAt w (.slice (some ⟨R, 0, none⟩) M.length n) M := by
 refine ⟨_, n, rfl, hn, hn2, fun _ => ⟨R, rfl, hb.lt, fun j hj => ?_⟩⟩
 have hj' : j < l.length := by rw [← h.len]; exact hj
 obtain ⟨h1, h2⟩ := h.row j hj'
 refine ⟨_, ⟨_, rfl, ints_of_blk h1 (Nat.le_refl _) (hc _ (List.getElem_mem _))⟩, rfl, fun i hi => ?_⟩
 obtain rfl : i = 0 := by omega
 rw [hb.cell, Nat.mul_one, Nat.add_zero, rwIZ_at hj', ← h2]
 rfl

set_option maxRecDepth 100000 in
set_option maxHeartbeats 8000000 in
theorem smallM_any (v : Value) (M : List (List Int)) (w0 : World) (h : WMat w0 v M) (hm : M.length ≤ 1000) (hc : ∀ r ∈ M, r.length ≤ 1000) (hs : ∀ r ∈ M, ∀ x ∈ r, Sz 16000 x) :
 Calls Try.prog 31 #[v] w0 fun e w' => Below w0.heap.size w0 w' ∧ ((e = .returned (.tuple #[.slice none 0 0, .int .i64 4]) ∧ ∃ r ∈ M, ∃ x ∈ r, ¬ fitZ x) ∨ ∃ u, e = .returned (.tuple #[u, .int .i64 0]) ∧ MatAt w' u M ∧ ∀ r ∈ M, ∀ x ∈ r, fitZ x) := by
 have H := hZ h
 obtain ⟨av, cv, rfl, q1, q2⟩ := SliceOf.form h
 have Hc := hZ hc
 have Hs := hZ hs
 have HB := hZ (Below.refl w0.heap.size w0)
 clear h hc hs
 go_enter Try.func31, Try.ntmps31
 go_wp2_with (at_make; refine wpList_make_mat rfl rfl (M.length) rfl rfl rfl rfl (by omega) ?_)
 intro w1 h_9 hB hlt9
 obtain ⟨R, hb⟩ : ∃ b, w0.heap.size = b := ⟨_, rfl⟩
 rw [hb] at h_9 ⊢
 have Ob' := hZ h_9
 have hge_R : Hid (w0.heap.size ≤ R) := hZ (Nat.le_of_eq hb)
 have hlt_R : Hid (R < w1.heap.size) := hZ (by rw [← hb]; exact hlt9)
 clear h_9 hb hlt9
 replace HB := bT HB hB
 clear hB
 have Ob := Ob'
 clear Ob'
 go_wp2_with fail
 have HgR : Hid (w0.heap.size ≤ R) := hZ hge_R.o
 clear hge_R hlt_R
 go_loopw [16] (fun i wr => ∃ (j : Nat) (l : List (Nat × Nat)), j ≤ M.length ∧ i = .int .i64 j ∧ Hid (l.length = j ∧ (∀ k (h : k < l.length), R < l[k].1)) ∧ Hid (∀ r ∈ M.take j, ∀ x ∈ r, fitZ x) ∧ Hid (BlkC wr R 22 (rwIZ l (M.length - j))) ∧ Hid (IntsIn wr l (M.take j)) ∧ Hid (Below w0.heap.size w0 wr)) (fun i _ => M.length - (intOf i).toNat)
 case atStart => exact ⟨0, [], by omega, rfl, hZ ⟨rfl, fun k h => by simp at h⟩, hZ (by simp), hZ (by simpa [rwIZ] using Ob.o), hZ (IntsIn.nil _), HB⟩
 case round =>
  clear HB Ob
  obtain ⟨j, l, hj, rfl, HL, HF, Ob, II, HB⟩ := hrel
  obtain ⟨w1, rfl⟩ : ∃ w' : World, w' = wr := ⟨_, rfl⟩
  by_cases hlt : j < M.length
  ·skip
   obtain ⟨b, cap, a, c, hv, hb, n1, HI, g1, g2⟩ := H.o.at_ j hlt
   injection hv with f1 f2 f3
   subst f1
   clear f2 f3
   have HI := hZ HI
   have Hr : Hid (M[j].length ≤ 1000) := hZ (Hc.o _ (List.getElem_mem hlt))
   have Hsr : Hid (∀ x ∈ M[j], Sz 16000 x) := hZ (Hs.o _ (List.getElem_mem hlt))
   have Hmem : Hid (M[j] ∈ M) := hZ (List.getElem_mem hlt)
   have HM : Hid (M.take (j + 1) = M.take j ++ [M[j]]) := hZ (by rw [List.take_succ_eq_append_getElem hlt])
   replace n1 := (HB.o.cell (p := ⟨b, j, none⟩) hb).trans n1
   generalize M[j] = r at *
   have hr1 := Hr.o
   have i1 : (0 : Int) ≤ (j : Int) := by omega
   have i2 : (j : Int) < (M.length : Int) := by omega
   go_wp2_with (at_make; refine wpList_make_ints rfl rfl (r.length) rfl rfl rfl rfl (by omega) ?_)
   intro w2 h_9 hB hlt9
   obtain ⟨g, hb⟩ : ∃ b, w1.heap.size = b := ⟨_, rfl⟩
   rw [hb] at h_9 ⊢
   have Oc' := hZ h_9
   have hge_g : Hid (w1.heap.size ≤ g) := hZ (Nat.le_of_eq hb)
   have hlt_g : Hid (g < w2.heap.size) := hZ (by rw [← hb]; exact hlt9)
   have HLg : Hid ((∀ k (h : k < l.length), l[k].1 < g) ∧ R < g) := hZ ⟨fun k h => by rw [← hb]; exact II.o.lt k h, by rw [← hb]; exact Ob.o.lt⟩
   clear h_9 hb hlt9
   replace Ob := hZ (Ob.o.blw hB)
   replace II := hZ (II.o.blw hB)
   replace HB := bT HB hB
   clear hB
   have Oc := Oc'
   clear Oc'
   have HGG : Hid (w0.heap.size ≤ g) := hZ (by have := HLg.o.2; have := HgR.o; omega)
   clear hge_g hlt_g
   have Hk : Hid (M.length - j = (M.length - (j + 1)) + 1) := hZ (by omega)
   rw [Hk.o] at Ob
   have e0 : w2.cell? ⟨R, j, none⟩ = some (.slice none 0 0) := (Ob.o.cell j).trans (rwIZ_next HL.o.1)
   have e2 := Ob.o.frozen (j)
   obtain ⟨w3, hw⟩ : ∃ w', w2.setCell ⟨R, j, none⟩ (.slice (some ⟨g, 0, none⟩) r.length r.length) = w' := ⟨_, rfl⟩
   have ho : Only (fun b => b = R) w2 w3 := by rw [← hw]; exact (Only.refl (fun b => b = R) _).set (p := ⟨R, j, none⟩) rfl _
   have hN : ∀ b, b = R → NoInt w2 b := fun b e => e ▸ Ob.o.noInt rwIZ_noInt
   replace Ob := hZ ((by have h1 := Ob.o.set j (.slice (some ⟨g, 0, none⟩) r.length r.length); rw [hw, rwIZ_set r.length HL.o.1] at h1; exact h1))
   replace II := hZ (II.o.only ho hN (fun i hi => by intro (e : _ = R); have := HL.o.2 i hi; omega))
   replace Oc := hZ (Oc.o.only ho (by intro (e : _ = R); have := HLg.o.2; omega))
   replace HB := hZ (below_only HB.o ho (fun b e => by have := HgR.o; omega) HB.o.size)
   clear ho hN
   go_wp2_with fail
   clear hw e0 e2
   have HTl : Hid (r.length = (List.replicate r.length (0 : Int)).length) := hZ (by simp)
   go_loopw [29] (fun i wr => ∃ q : Nat, q ≤ r.length ∧ i = .int .i64 q ∧ Hid (∀ x ∈ r.take q, fitZ x) ∧ Hid (BlkC wr R 22 (rwIZ (l ++ [(g, r.length)]) (M.length - (j + 1)))) ∧ Hid (IntsIn wr l (M.take j)) ∧ Hid (BlkC wr g 3 ((r.take q ++ (List.replicate r.length 0).drop q).map zv)) ∧ Hid (Below w0.heap.size w0 wr)) (fun i _ => r.length - (intOf i).toNat)
   case atStart => exact ⟨0, by omega, rfl, hZ (by simp), Ob, II, hZ (by simpa using Oc.o), HB⟩
   case round =>
    clear Ob II Oc HB
    obtain ⟨q, hq, rfl, HFr, Ob, II, Oc, HB⟩ := hrel
    obtain ⟨w3, rfl⟩ : ∃ w' : World, w' = wr := ⟨_, rfl⟩
    by_cases hql : q < r.length
    ·skip
     have i3 : (0 : Int) ≤ (q : Int) := by omega
     have i4 : (q : Int) < (r.length : Int) := by omega
     obtain ⟨b9, c9, s_h, a_h, n_h, c_h, hv9, hb9, d0h, d1h, h_h⟩ := (HI.o.blw HB.o).at_ q hql
     injection hv9 with f1 f2 f3
     subst f1
     clear f2 f3
     obtain ⟨z, hz⟩ : ∃ z, r[q] = z := ⟨_, rfl⟩
     rw [hz] at h_h
     have Vh := hZ h_h
     have Sh : Hid (Sz 16000 z) := hZ (hz ▸ Hsr.o _ (List.getElem_mem _))
     have Hz := hZ hz
     have Hzm : Hid (z ∈ r) := hZ (hz ▸ List.getElem_mem _)
     clear h_h hz hb9
     have hgl := Oc.o.lt
     obtain ⟨w4, hw⟩ : ∃ w', (w3.alloc (.cells #[.bool s_h, .slice a_h n_h c_h] 58)) = w' := ⟨_, rfl⟩
     have hB := aB hw
     obtain ⟨bh, hb_bh⟩ : ∃ b, w3.heap.size = b := ⟨_, rfl⟩
     have h9 := Bx.new (w := w3) Vh.o
     rw [hw, hb_bh] at h9
     have Fh' := hZ h9
     have hge_bh : w3.heap.size ≤ bh := by omega
     clear h9
     replace Ob := hZ (Ob.o.blw hB)
     replace II := hZ (II.o.blw hB)
     replace Oc := hZ (Oc.o.blw hB)
     replace Vh := hZ (Vh.o.blw hB)
     replace HB := bT HB hB
     have Fh := Fh'
     clear Fh'
     clear hB
     have hgb : g < bh := by omega
     clear hgl
     obtain ⟨s_p, a_p, n_p, c_p, t_p, h_p⟩ := Fh.o
     have d0p := t_p.cell0
     have d1p := t_p.cell1
     have Vp := hZ h_p
     clear t_p h_p
     go_wp2_with fail
     clear hw hb_bh d0h d1h
     clear d0p d1p
     by_cases hf : fitZ z
     ·skip
      refine (small_any _ _ w4 Vp.o (Sh.o.lim (by omega))).mono ?_
      rintro e w5 ⟨he, hB⟩
      rw [smallV_fit hf] at he
      subst he
      replace Ob := hZ (Ob.o.blw hB)
      replace II := hZ (II.o.blw hB)
      replace Oc := hZ (Oc.o.blw hB)
      replace Vh := hZ (Vh.o.blw hB)
      replace Fh := hZ (Fh.o.blw hB)
      replace Vp := hZ (Vp.o.blw hB)
      replace HB := bT HB hB
      clear hB
      clear Fh Vp Vh
      have e0 : w5.cell? ⟨R, j, none⟩ = some (.slice (some ⟨g, 0, none⟩) r.length r.length) := (Ob.o.cell j).trans (by have h1 := HL.o.1; subst h1; rw [rwIZ_at (by simp)]; simp)
      obtain ⟨u9, e1⟩ : ∃ u, w5.cell? ⟨g, q, none⟩ = some u := ⟨_, (Oc.o.cell q).trans (List.getElem?_eq_getElem (by simp; omega))⟩
      have e2 := Oc.o.frozen (q)
      obtain ⟨w6, hw⟩ : ∃ w', w5.setCell ⟨g, q, none⟩ (.int .i64 z) = w' := ⟨_, rfl⟩
      have ho : Only (fun b => b = g) w5 w6 := by rw [← hw]; exact (Only.refl (fun b => b = g) _).set (p := ⟨g, q, none⟩) rfl _
      have hN : ∀ b, b = g → NoInt w5 b := fun b e => e ▸ Oc.o.noInt zv_noInt
      replace Oc := hZ ((by have h1 := Oc.o.set q (.int .i64 z); rw [hw] at h1; have h2 := zs_set hql; rw [Hz.o] at h2; rw [h2] at h1; exact h1))
      replace Ob := hZ (Ob.o.only ho (by intro (e : _ = g); have := HLg.o.2; omega))
      replace II := hZ (II.o.only ho hN (fun i hi => by intro (e : _ = g); have := HLg.o.1 i hi; omega))
      replace HB := hZ (below_only HB.o ho (fun b e => by have := HGG.o; omega) HB.o.size)
      clear ho hN
      go_wp2_with fail
      go_roundw
      case rel => exact ⟨q + 1, by omega, by go_num, hZ (by rw [List.take_succ_eq_append_getElem hql]; intro s hs; rcases List.mem_append.1 hs with h | h; exact HFr.o s h; rw [List.mem_singleton.1 h, Hz.o]; exact hf), Ob, II, Oc, HB⟩
      case measure => simp [intOf]; omega
     ·skip
      refine (small_any _ _ w4 Vp.o (Sh.o.lim (by omega))).mono ?_
      rintro e w5 ⟨he, hB⟩
      rw [smallV_out hf] at he
      subst he
      replace Ob := hZ (Ob.o.blw hB)
      replace II := hZ (II.o.blw hB)
      replace Oc := hZ (Oc.o.blw hB)
      replace Vh := hZ (Vh.o.blw hB)
      replace Fh := hZ (Fh.o.blw hB)
      replace Vp := hZ (Vp.o.blw hB)
      replace HB := bT HB hB
      clear hB
      go_wp2_with fail
      exact bodyPost_ret (v := .tuple #[.slice none 0 0, .int .i64 4]) (by simp [results, Try.results31, go_sem]) rfl ⟨HB.o, .inl ⟨rfl, r, Hmem.o, z, Hzm.o, hf⟩⟩
    ·skip
     obtain rfl : q = r.length := by omega
     go_wp2_with fail
     go_roundw
     case rel =>
      have hR := Oc.o
      rw [List.take_of_length_le (Nat.le_refl _), List.drop_eq_nil_of_le (by simp), List.append_nil] at hR
      have hF := HFr.o
      rw [List.take_of_length_le (Nat.le_refl _)] at hF
      exact ⟨j + 1, l ++ [(g, r.length)], by omega, by go_num, hZ ⟨by have := HL.o.1; simp; omega, snoc_all (P := fun (x : Nat × Nat) => R < x.1) HL.o.2 HLg.o.2⟩, hZ (by rw [HM.o]; intro s hs; rcases List.mem_append.1 hs with h | h; exact HF.o s h; rw [List.mem_singleton.1 h]; exact hF), Ob, hZ (by rw [HM.o]; exact II.o.snoc hR), HB⟩
     case measure => simp [intOf]; omega
  ·skip
   obtain rfl : j = M.length := by omega
   go_wp2_with fail
   have h1 := Ob.o
   rw [Nat.sub_self] at h1
   have h2 := II.o
   rw [List.take_of_length_le (Nat.le_refl _)] at h2
   have h3 := HF.o
   rw [List.take_of_length_le (Nat.le_refl _)] at h3
   exact bodyPost_ret (v := .tuple #[.slice (some ⟨R, 0, none⟩) M.length M.length, .int .i64 0]) (by simp [results, Try.results31, go_sem]) rfl ⟨HB.o, .inr ⟨_, rfl, h2.mat h1 (fun r hr => by have := Hc.o r hr; omega) (Nat.le_refl _) (by omega), h3⟩⟩
end Go.Proofs.Ytlmbebbdamgfpaa
