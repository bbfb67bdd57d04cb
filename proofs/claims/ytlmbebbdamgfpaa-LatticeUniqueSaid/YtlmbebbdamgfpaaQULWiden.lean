/- lattice.widen. -/
import Derived.Test.YtlmbebbdamgfpaaQULRows
set_option linter.unusedVariables false
set_option linter.unusedSimpArgs false
set_option linter.unusedVariables false
set_option linter.unusedSimpArgs false
namespace Go.Proofs.Ytlmbebbdamgfpaa
open Go.RowKit

set_option maxRecDepth 100000 in
set_option maxHeartbeats 8000000 in
theorem widen_any (v : Value) (m : List (List Int)) (n : Nat) (w0 : World) (h : MatAt w0 v m) (hm : m.length ≤ 1000) (hn : ∀ r ∈ m, r.length = n) (hn2 : n ≤ 1000) (hs : ∀ r ∈ m, ∀ x ∈ r, -9223372036854775808 ≤ x ∧ x ≤ 9223372036854775807) :
 Calls Try.prog 33 #[v] w0 fun e w' => ∃ R l, e = .returned (.slice (some ⟨R, 0, none⟩) m.length m.length) ∧ RwAt w' R l n m ∧ l.length = m.length ∧ w0.heap.size ≤ R ∧ (∀ i (h : i < l.length), w0.heap.size ≤ l[i].1) ∧ (∀ i (h : i < l.length), l[i].2 = n) ∧ Below w0.heap.size w0 w' := by
 have H := hZ h
 obtain ⟨av, cv, rfl, q1, q2⟩ := h.form
 have Hn := hZ hn
 have Hs := hZ hs
 have HB := hZ (Below.refl w0.heap.size w0)
 clear h hn hs
 go_enter Try.func33, Try.ntmps33
 go_wp2_with (at_make; refine wpList_make_rows rfl rfl (m.length) rfl rfl rfl rfl (by omega) ?_)
 intro w1 h_9 hB hlt9
 obtain ⟨R, hb⟩ : ∃ b, w0.heap.size = b := ⟨_, rfl⟩
 rw [hb] at h_9 ⊢
 have Ob' := hZ h_9
 have hge_R : Hid (w0.heap.size ≤ R) := hZ (Nat.le_of_eq hb)
 have hlt_R : Hid (R < w1.heap.size) := hZ (by rw [← hb]; exact hlt9)
 clear h_9 hb hlt9
 replace HB := bT HB hB
 clear hB
 have Ob := Ob'
 clear Ob'
 go_wp2_with fail
 have HgR : Hid (w0.heap.size ≤ R) := hZ hge_R.o
 clear hge_R hlt_R
 go_loopw [13] (fun i wr => ∃ (j : Nat) (l : List Rw), j ≤ m.length ∧ i = .int .i64 j ∧ Hid (l.length = j ∧ (∀ k (h : k < l.length), R < l[k].1) ∧ ∀ k (h : k < l.length), l[k].2 = n) ∧ Hid (BlkC wr R 55 (rwZ n l (m.length - j))) ∧ Hid (RowsIn wr l n (m.take j)) ∧ Hid (Below w0.heap.size w0 wr)) (fun i _ => m.length - (intOf i).toNat)
 case atStart => exact ⟨0, [], by omega, rfl, hZ ⟨rfl, fun k h => by simp at h, fun k h => by simp at h⟩, hZ (by simpa [rwZ] using Ob.o), hZ (RowsIn.nil _ _), HB⟩
 case round =>
  clear HB Ob
  obtain ⟨j, l, hj, rfl, HL, Ob, RI, HB⟩ := hrel
  obtain ⟨w1, rfl⟩ : ∃ w' : World, w' = wr := ⟨_, rfl⟩
  by_cases hlt : j < m.length
  ·skip
   obtain ⟨b, cap, a, c, hv, hb, n1, HI, g1, g2⟩ := H.o.at_ j hlt
   injection hv with f1 f2 f3
   subst f1
   clear f2 f3
   have HI := hZ HI
   have Hr : Hid (m[j].length = n) := hZ (Hn.o _ (List.getElem_mem hlt))
   have Hsr : Hid (∀ x ∈ m[j], -9223372036854775808 ≤ x ∧ x ≤ 9223372036854775807) := hZ (Hs.o _ (List.getElem_mem hlt))
   have HM : Hid (m.take (j + 1) = m.take j ++ [m[j]]) := hZ (by rw [List.take_succ_eq_append_getElem hlt])
   replace n1 := (HB.o.cell (p := ⟨b, j, none⟩) hb).trans n1
   generalize m[j] = r at *
   have HI0 := hZ (And.intro HI.o g1)
   clear HI
   rw [Hr.o] at n1 HI0
   have i1 : (0 : Int) ≤ (j : Int) := by omega
   have i2 : (j : Int) < (m.length : Int) := by omega
   obtain ⟨HI1, g3⟩ := HI0.o
   have HI := hZ HI1
   clear HI0 HI1 g1
   have g1 := g3
   clear g3
   go_wp2_with (at_make; refine wpList_make_wide rfl rfl (n) rfl rfl rfl rfl (by omega) ?_)
   intro w2 h_9 hB hlt9
   obtain ⟨g, hb⟩ : ∃ b, w1.heap.size = b := ⟨_, rfl⟩
   rw [hb] at h_9 ⊢
   have Rr' := hZ h_9
   have hge_g : Hid (w1.heap.size ≤ g) := hZ (Nat.le_of_eq hb)
   have hlt_g : Hid (g < w2.heap.size) := hZ (by rw [← hb]; exact hlt9)
   have HLg : Hid ((∀ k (h : k < l.length), l[k].1 < g) ∧ R < g) := hZ ⟨fun k h => by rw [← hb]; exact RI.o.lt k h, by rw [← hb]; exact Ob.o.lt⟩
   clear h_9 hb hlt9
   replace Ob := hZ (Ob.o.blw hB)
   replace RI := hZ (RI.o.blw hB)
   replace HB := bT HB hB
   clear hB
   have Rr := Rr'
   clear Rr'
   have HGG : Hid (w0.heap.size ≤ g) := hZ (by have := HLg.o.2; have := HgR.o; omega); clear hge_g hlt_g
   have Hk : Hid (m.length - j = (m.length - (j + 1)) + 1) := hZ (by omega)
   rw [Hk.o] at Ob
   have e0 : w2.cell? ⟨R, j, none⟩ = some (.slice none 0 0) := (Ob.o.cell j).trans (by rw [← HL.o.1]; exact rwZ_at_next)
   have e2 := Ob.o.frozen (j)
   obtain ⟨w3, hw⟩ : ∃ w', w2.setCell ⟨R, j, none⟩ (.slice (some ⟨g, 0, none⟩) n n) = w' := ⟨_, rfl⟩
   have ho : Only (fun b => b = R) w2 w3 := by rw [← hw]; exact (Only.refl (fun b => b = R) _).set (p := ⟨R, j, none⟩) rfl _
   have hN : ∀ b, b = R → NoInt w2 b := fun b e => e ▸ Ob.o.noInt rwZ_noInt
   replace Ob := hZ ((by have h1 := Ob.o.set j (.slice (some ⟨g, 0, none⟩) n n); rw [hw] at h1; rw [rwZ_set' n HL.o.1] at h1; exact h1))
   replace RI := hZ (RI.o.only ho hN (fun i hi => by intro (e : _ = R); have := HL.o.2.1 i hi; omega))
   replace Rr := hZ (Rr.o.only ho hN (by intro (e : _ = R); have := HLg.o.2; omega))
   replace HB := hZ (below_only HB.o ho (fun b e => by have := HgR.o; omega) HB.o.size)
   clear ho hN
   go_wp2_with fail
   clear hw e0 e2
   have HTl : Hid (r.length = (List.replicate n (0 : Int)).length) := hZ (by rw [Hr.o]; simp)
   go_loopw [26] (fun i wr => ∃ q : Nat, q ≤ n ∧ i = .int .i64 q ∧ Hid (BlkC wr R 55 (rwZ n (l ++ [(g, n)]) (m.length - (j + 1)))) ∧ Hid (RowsIn wr l n (m.take j)) ∧ Hid (WRow wr g (r.take q ++ (List.replicate n 0).drop q)) ∧ Hid (Below w0.heap.size w0 wr)) (fun i _ => n - (intOf i).toNat)
   case atStart => exact ⟨0, by omega, rfl, Ob, RI, hZ (by simpa using Rr.o), HB⟩
   case round =>
    clear Ob RI Rr HB
    obtain ⟨q, hq, rfl, Ob, RI, Rr, HB⟩ := hrel
    obtain ⟨w3, rfl⟩ : ∃ w' : World, w' = wr := ⟨_, rfl⟩
    by_cases hql : q < n
    ·skip
     have i3 : (0 : Int) ≤ (q : Int) := by omega
     have i4 : (q : Int) < (n : Int) := by omega
     have Hqr : Hid (q < r.length) := hZ (by have := Hr.o; omega)
     obtain ⟨b2, cap2, hv, hb2, n2⟩ := (IntsOf.below HI.o HB.o).at_ q Hqr.o
     rw [Hr.o] at hv
     injection hv with f1 f2 f3
     subst f1
     clear f2 f3
     have Hz : Hid (-9223372036854775808 ≤ r[q]'Hqr.o ∧ r[q]'Hqr.o ≤ 9223372036854775807) := hZ (Hsr.o _ (List.getElem_mem _))
     obtain ⟨z, hz⟩ : ∃ z, r[q]'Hqr.o = z := ⟨_, rfl⟩
     have HZ := hZ hz
     rw [hz] at Hz n2
     clear hz
     go_wp2_with fail
     clear n2
     obtain ⟨w4, hwd⟩ : ∃ w', w3.drew = w' := ⟨_, rfl⟩
     have hB := dB hwd
     replace Ob := hZ (Ob.o.blw hB)
     replace RI := hZ (RI.o.blw hB)
     replace Rr := hZ (Rr.o.blw hB)
     replace HB := bT HB hB
     clear hB
     have HBr : Hid (Only (fun b => False) w4 w4) := hZ (Only.refl _ _)
     refine startL [8] (fun w' => Only (fun b => False) w4 w') (by kernel_rfl) (by rw [hwd]; exact Only.refl _ _) (fun hHeld => ?_)
     rw [hwd] at hHeld ⊢
     clear hwd
     have e0 : w4.cell? ⟨R, j, none⟩ = some (.slice (some ⟨g, 0, none⟩) n n) := (Ob.o.cell j).trans (by have h1 := HL.o.1; subst h1; rw [rwZ_at (by simp)]; simp)
     refine pP 0 31 (v := ?_) rfl rfl ?_ ?_
     rotate_left
     ·(intro w; go_simp; first | done | with_reducible rfl)
     simp only [sX1, sX2, sX3]
     refine pP 1 32 (v := ?_) rfl rfl ?_ ?_
     rotate_left
     ·(intro w; go_simp; first | done | with_reducible rfl)
     simp only [sX1, sX2, sX3]
     refine pP 2 33 (v := ?_) rfl rfl ?_ ?_
     rotate_left
     ·(intro w; go_simp; first | done | with_reducible rfl)
     simp only [sX1, sX2, sX3]
     refine tP 3 34 (v := ?_) rfl rfl ?_ ?_
     rotate_left
     ·(intro w hSw; have x0 := (hSw.cell (p := ⟨R, j, none⟩) (fun h => h) Ob.o.lt).trans e0; go_simp; first | done | with_reducible rfl)
     simp only [sX1, sX2, sX3]
     refine pP 4 35 (v := ?_) rfl rfl ?_ ?_
     rotate_left
     ·(intro w; go_simp; first | done | with_reducible rfl)
     simp only [sX1, sX2, sX3]
     refine pP 5 36 (v := ?_) rfl rfl ?_ ?_
     rotate_left
     ·(intro w; go_simp; first | done | with_reducible rfl)
     simp only [sX1, sX2, sX3]
     refine stepL 6 (by kernel_rfl) rfl (fun K hK => ?_)
     go_simp
     refine (from_b (w := w4) z Hz.o.1 Hz.o.2).mono ?_
     rintro e w5 ⟨s_z, a_z, n_z, c_z, rfl, h_z, hB⟩
     have Vz := hZ h_z
     replace HBr := oT HBr hB
     replace Ob := hZ (Ob.o.blw hB)
     replace RI := hZ (RI.o.blw hB)
     replace Rr := hZ (Rr.o.blw hB)
     replace HB := bT HB hB
     clear hB
     clear h_z
     refine hK.out _ _ HBr.o (fun hHeld => ?_)
     clear hK K
     try simp only [Act.put, sX1, sX2, sX3]
     refine pP 7 38 (v := ?_) rfl rfl ?_ ?_
     rotate_left
     ·(intro w; go_simp; first | done | with_reducible rfl)
     simp only [sX1, sX2, sX3]
     have HBz : Hid (w0.heap.size ≤ g) := HGG
     obtain ⟨s_9, a_9, n_9, c_9, e0, e1, -⟩ := Rr.o.get (q) (by rw [td_len HTl.o (by simp; omega)]; simpa using hql)
     have e2 := Rr.o.frozen (q * 2)
     have e3 := Rr.o.frozen (q * 2 + 1)
     have hn9 : NoInt w5 (g) := Rr.o.noInt
     obtain ⟨w6, hw⟩ : ∃ w', (w5.setCell ⟨g, q * 2, none⟩ (.bool s_z)).setCell ⟨g, q * 2 + 1, none⟩ (.slice a_z n_z c_z) = w' := ⟨_, rfl⟩
     have hw2 : st2 w5 (g) (q * 2) (q * 2 + 1) s_z a_z n_z c_z = w6 := hw
     replace Rr := hZ (WRow.put' Rr.o (q) (by rw [td_len HTl.o (by simp; omega)]; simpa using hql) Vz.o)
     rw [hw2] at Rr
     replace Ob := hZ (Ob.o.offe hw2 (by have := HLg.o.2; omega))
     replace RI := hZ (RowsIn.off (g := g) (o1 := q * 2) (o2 := q * 2 + 1) (s := s_z) (a := a_z) (n' := n_z) (c := c_z) RI.o hn9 (fun i hi => by have := HLg.o.1 i hi; omega))
     rw [hw2] at RI
     replace Vz := hZ (Vz.o.offe hw2 hn9)
     replace HB := hZ (bO hw2 HB.o (by have := HBz.o; omega))
     clear hw2 hn9
     refine lateL 8 (by kernel_rfl) (by decide) rfl (fun K hK => ?_)
     go_simp
     try rw [hw]
     refine hK.out _ _ ?_
     clear hK K
     try simp only [Act.put, sX1, sX2, sX3]
     clear hw e0 e1 e2 e3
     refine doneL (by kernel_rfl) ?_ _
     clear hHeld
     clear e0
     go_wp2_with fail
     replace Rr : Hid (WRow w6 g (r.take (q + 1) ++ (List.replicate n 0).drop (q + 1))) := hZ (by have h1 := Rr.o; rw [← HZ.o, td_set HTl.o (by simpa using hql)] at h1; exact h1)
     go_roundw
     case rel => exact ⟨q + 1, by omega, by go_num, Ob, RI, Rr, HB⟩
     case measure => simp [intOf]; omega
    ·skip
     obtain rfl : q = n := by omega
     go_wp2_with fail
     go_roundw
     case rel =>
      have hR := Rr.o
      rw [List.take_of_length_le (Nat.le_of_eq Hr.o), List.drop_eq_nil_of_le (by simp), List.append_nil] at hR
      exact ⟨j + 1, l ++ [(g, q)], by omega, by go_num, hZ ⟨by have := HL.o.1; simp; omega, snoc_all (P := fun (x : Rw) => R < x.1) HL.o.2.1 HLg.o.2, snoc_all (P := fun (x : Rw) => x.2 = q) HL.o.2.2 rfl⟩, Ob, hZ (by rw [HM.o]; exact RI.o.snoc hR Hr.o (fun i hi => by have := HLg.o.1 i hi; omega) (Nat.le_refl _) (by omega)), HB⟩
     case measure => simp [intOf]; omega
  ·skip
   obtain rfl : j = m.length := by omega
   go_wp2_with fail
   go_ret
   have h1 := Ob.o
   rw [Nat.sub_self] at h1
   have h2 := RI.o
   rw [List.take_of_length_le (Nat.le_refl _)] at h2
   exact ⟨R, l, rfl, ⟨by simpa [rwZ] using h1, h2, fun i hi => by have := HL.o.2.1 i hi; omega⟩, HL.o.1, HgR.o, fun i hi => by have := HL.o.2.1 i hi; have := HgR.o; omega, HL.o.2.2, HB.o⟩
end Go.Proofs.Ytlmbebbdamgfpaa
