/- Gains: changes, needs, the sequences in their order, the search; plain Lean. -/
import Derived.Test.YtkjhlkngihponaaGreatDoorQVLHerm
import Derived.Test.YtkjhlkngihponaaGreatDoorQVLElP
import Derived.Test.YtkjhlkngihponaaGreatDoorQVWDiv
import Derived.Test.YtkjhlkngihponaaGreatDoorProg
import Derived.Test.YtkjhlkngihponaaGreatDoorQVGCat
import Derived.WalkKit
import Derived.WalkSpells
import Derived.WalkLawsBesides
import Derived.Test.YtkjhlkngihponaaGreatDoorQVLHnf
import Derived.Deep.CutRange
import Derived.Laws.AppendOwnNone
import Derived.Test.YtkjhlkngihponaaGreatDoorQVLDet
import Derived.Maps.OwnSet
import Derived.Maps.Views
import Derived.WalkArith
set_option linter.unusedVariables false
set_option linter.unusedSimpArgs false
set_option maxHeartbeats 8000000
set_option maxRecDepth 100000
namespace Go.Proofs.YtkjhlkngihponaaGreatDoor
open Go.RowKit
def qON (w0 : World) (m : List (List Int)) (e : Ending) (w' : World) : Prop :=
 Below w0.heap.size w0 w' /\ ((qBe m ≠ 0 /\ e = .returned (.tuple #[.slice none 0 0, .int .i64 (qBe m)])) \/ (qBe m = 0 /\ ∃ H : List (List Int), qBA m (H.map vec) /\ (∀ r ∈ H, r.length = m.length) /\ H.length <= m.length /\ qDB H e w'))
theorem qFL {n i : Nat} {r : List Int} : (qB1 n r i).length = r.length + n := by simp [qB1]
theorem qG6 {m : List (List Int)} {c : Nat} (hc : ∀ r ∈ m, r.length = c) : ∀ r ∈ qAI m, r.length = c + m.length := by
 intro r hr; obtain ⟨i, hi, rfl⟩ := List.mem_iff_getElem.1 hr; rw [qAn] at hi; rw [qA4 m i hi, qFL, hc _ (List.getElem_mem _)]
theorem qIj {m : List (List Int)} (h : Sml m) : Sml (qAI m) := by
 refine ⟨by rw [qAn]; exact h.1, fun r hr x hx => ?_⟩; obtain ⟨i, hi, rfl⟩ := List.mem_iff_getElem.1 hr; rw [qAn] at hi; rw [qA4 m i hi, qB1] at hx; have h1 : (1 : Nat) <= 2 ^ 40 := Nat.pow_pos (by omega); rcases List.mem_append.1 hx with hx | hx
 ·exact h.2 _ (List.getElem_mem _) x hx
 ·rcases List.mem_or_eq_of_mem_set hx with hx | hx
  ·rw [(List.mem_replicate.1 hx).2]; exact Nat.zero_le _
  ·rw [hx]; exact h1
theorem qIi {row : List Int} {c r n j : Nat} (hc : row.length = c) (hn : n = c + r) (hj : j < r) : (((row ++ List.replicate r 0).take c ++ (List.replicate n 0).drop c).set (c + j) 1) = qB1 r row j := by
 subst hc hn; have e1 : (row ++ List.replicate r (0 : Int)).take row.length = row := by rw [List.take_left]
 have e2 : (List.replicate (row.length + r) (0 : Int)).drop row.length = List.replicate r 0 := by simp
 rw [e1, e2, List.set_append_right _ _ (by omega)]; simp [qB1]
theorem qKf (w0 : World) (v : Value) (m : List (List Int)) (h : qBa w0 v m) : Calls Tryz.prog 38 #[v] w0 (qON w0 m) := by
 have H := hZ h; have HB := hZ (Below.refl w0.heap.size w0); obtain ⟨av, cv, rfl, q1, q2⟩ := h.form; clear h
 go_enter Tryz.func38, Tryz.ntmps38
 go_wp2_with fail
 refine (qMa _ m w0 H.o).mono ?_; rintro e w1 ⟨rfl, hB⟩; replace HB := bT HB hB; clear hB; by_cases hz : qBe m = 0; rotate_left
 ·have s1 : (qBe m != 0) = true := by simpa using hz
  have s2 : (qBe m == 0) = false := by simpa using hz
  have Hz := hZ hz; clear hz; obtain ⟨z, hz⟩ := eX (qBe m); have Hzz := hZ hz; rw [hz] at s1 s2 ⊢; clear hz
  go_wp2_with fail
  exact bodyPost_ret (v := .tuple #[.slice none 0 0, .int .i64 z]) (by simp [results, Tryz.results38, go_sem]) rfl ⟨HB.o, .inl ⟨Hz.o, by rw [Hzz.o]⟩⟩
 have Hc := hZ (qFi.1 hz); have Hz := hZ hz; have hrows := Hc.o.rows; have hcols := Hc.o.cols_; rw [hz]; clear hz; by_cases hm0 : m.length = 0
 ·have s1 : ((m.length : Int) == 0) = true := by simp [hm0]
  have s2 : (m.length == 0) = true := by simp [hm0]
  have Hm : Hid (m = []) := hZ (List.eq_nil_of_length_eq_zero hm0); have HK : Hid (qBA m (([] : List (List Int)).map vec)) := hZ (by
   rw [Hm.o]; refine ⟨trivial, fun v => ⟨fun h => ⟨fun j _ => qCG h j, fun j => rfl⟩, fun h => qAa.zero.congr (fun j => (h.1 j (Nat.zero_le _)).symm)⟩⟩)
  go_wp2_with fail
  exact bodyPost_ret (v := .tuple #[.slice none 0 0, .int .i64 0]) (by simp [results, Tryz.results38, go_sem]) rfl ⟨HB.o, .inr ⟨Hz.o, [], HK.o, by simp, by simp, .inr ⟨_, rfl, qAf.nil _ _ (by omega), by simp⟩⟩⟩
 have s1 : ((m.length : Int) == 0) = false := by rw [beq_eq_false_iff_ne]; omega
 have s2 : (m.length == 0) = false := by rw [beq_eq_false_iff_ne]; omega
 have hpos : 0 < m.length := by omega
 have hpos1 : (0 : Int) < (m.length : Int) := by omega
 obtain ⟨c, hc⟩ := eX (qEb m); rw [hc] at hcols; have Hn : Hid (∀ r ∈ m, r.length = c) := hZ (by rw [<- hc]; exact Hc.o.len); have Hs : Hid (∀ r ∈ m, ∀ x ∈ r, -9223372036854775808 <= x /\ x <= 9223372036854775807) := hZ (fun r hr x hx => by have := Hc.o.small r hr x hx; omega); clear hc; obtain ⟨b0, cap0, a0, c0, hv0, hb0, n0, -, -, -⟩ := H.o.at_ 0 hpos; rw [Hn.o _ (List.getElem_mem hpos)] at n0; injection hv0 with f1 f2 f3; subst f1; clear f2 f3; replace n0 := (HB.o.cell (p := ⟨b0, 0, none⟩) hb0).trans n0; obtain ⟨n, hn⟩ := eX (c + m.length); have hn2 : n <= 1000 := by omega
 have HSz := hZ HB.o.size
 go_wp2_with (at_make; refine qCj rfl rfl (m.length) rfl rfl rfl rfl (by omega) ?_)
 intro w2 h_9 hB hlt9; obtain ⟨R, hb⟩ := eX w1.heap.size; rw [hb] at h_9 ⊢; have Ob' := hZ h_9; have hge_R : Hid (w1.heap.size <= R) := hZ (Nat.le_of_eq hb); have hlt_R : Hid (R < w2.heap.size) := hZ (by rw [<- hb]; exact hlt9); clear h_9 hb hlt9; replace HB := bT HB hB; clear hB; have Ob := Ob'; clear Ob'; clear n0 s1 s2
 go_wp2_with fail
 have HgR : Hid (w0.heap.size <= R) := hZ (Nat.le_trans HSz.o hge_R.o); clear hge_R hlt_R
 go_loopw [28] (fun i wr => ∃ (j : Nat) (l : List Rw), j <= m.length /\ i = .int .i64 j /\ Hid (l.length = j /\ (∀ k (h : k < l.length), R < l[k].1) /\ ∀ k (h : k < l.length), l[k].2 = n) /\ Hid (qAo wr R 77 (rwZ n l (m.length - j))) /\ Hid (qAy wr l n ((qAI m).take j)) /\ Hid (Below w0.heap.size w0 wr)) (fun i _ => m.length - (intOf i).toNat)
 case atStart => exact ⟨0, [], by omega, rfl, hZ ⟨rfl, fun k h => by simp at h, fun k h => by simp at h⟩, hZ (by simpa [rwZ] using Ob.o), hZ (qAy.nil _ _), HB⟩
 case round =>
  clear HB Ob; obtain ⟨j, l, hj, rfl, HL, Ob, RI, HB⟩ := hrel; obtain ⟨w2, rfl⟩ := eY wr; by_cases hlt : j < m.length
  ·skip
   obtain ⟨b, cap, a, cx, hv, hb, n1, HI, g1, g2⟩ := H.o.at_ j hlt; injection hv with f1 f2 f3; injection f1 with f1; injection f1 with f1; subst f1; clear f2 f3; have HI := hZ HI; have Hr : Hid (m[j].length = c) := hZ (Hn.o _ (List.getElem_mem hlt)); have Hsr : Hid (∀ x ∈ m[j], -9223372036854775808 <= x /\ x <= 9223372036854775807) := hZ (Hs.o _ (List.getElem_mem hlt)); have HM : Hid ((qAI m).take (j + 1) = (qAI m).take j ++ [qB1 m.length m[j] j]) := hZ (by rw [List.take_succ_eq_append_getElem (by rw [qAn]; exact hlt), qA4 m j hlt]); replace n1 := (HB.o.cell (p := ⟨b0, j, none⟩) hb).trans n1; generalize m[j] = r at *; have HI0 := hZ (And.intro HI.o g1); clear HI; rw [Hr.o] at n1 HI0; have i1 : (0 : Int) <= (j : Int) := by omega
   have i2 : (j : Int) < (m.length : Int) := by omega
   obtain ⟨HI1, g3⟩ := HI0.o; have HI := hZ HI1; clear HI0 HI1 g1; have g1 := g3; clear g3
   go_wp2_with (at_make; refine qBb rfl rfl (n) rfl rfl (by omega) (by omega) (by omega) ?_)
   intro w3 h_9 hB hlt9; obtain ⟨g, hb⟩ := eX w2.heap.size; rw [hb] at h_9 ⊢; have Rr' := hZ h_9; have hge_g : Hid (w2.heap.size <= g) := hZ (Nat.le_of_eq hb); have hlt_g : Hid (g < w3.heap.size) := hZ (by rw [<- hb]; exact hlt9); have HLg : Hid ((∀ k (h : k < l.length), l[k].1 < g) /\ R < g) := hZ ⟨fun k h => by rw [<- hb]; exact RI.o.lt k h, by rw [<- hb]; exact Ob.o.lt⟩; clear h_9 hb hlt9; replace Ob := Ob.b hB; replace RI := RI.b hB; replace HB := bT HB hB; clear hB; have Rr := Rr'; clear Rr'; have HGG : Hid (w0.heap.size <= g) := hZ (by have := HLg.o.2; have := HgR.o; omega); clear hge_g hlt_g; have Hk : Hid (m.length - j = (m.length - (j + 1)) + 1) := hZ (by omega); rw [Hk.o] at Ob; have e0 : w3.cell? ⟨R, j, none⟩ = some (.slice none 0 0) := (Ob.o.cell j).trans (by rw [<- HL.o.1]; exact qEI); have e2 := Ob.o.frozen (j); obtain ⟨w4, hw⟩ := eX (w3.setCell ⟨R, j, none⟩ (.slice (some ⟨g, 0, none⟩) n n)); have ho : qAc (fun b => b = R) w3 w4 := by rw [<- hw]; exact (qAc.refl (fun b => b = R) _).set (p := ⟨R, j, none⟩) rfl _
   have hN : ∀ b, b = R -> qAh w3 b := fun b e => e ▸ Ob.o.noInt qGL; replace Ob := hZ ((by have h1 := Ob.o.set j (.slice (some ⟨g, 0, none⟩) n n); rw [hw, qI4 n HL.o.1] at h1; exact h1)); replace RI := hZ (RI.o.only ho hN (fun i hi => by intro (e : _ = R); have := HL.o.2.1 i hi; omega)); replace Rr := hZ (Rr.o.only ho hN (by intro (e : _ = R); have := HLg.o.2; omega)); replace HB := hZ (qA6 HB.o ho (fun b e => by have := HgR.o; omega) HB.o.size); clear ho hN
   go_wp2_with fail
   clear hw e0 e2; have HAl : Hid ((r ++ List.replicate m.length (0 : Int)).length = (List.replicate n (0 : Int)).length) := hZ (by have := Hr.o; simp; omega)
   go_loopw [43] (fun i wr => ∃ q : Nat, q <= c /\ i = .int .i64 q /\ Hid (qAo wr R 77 (rwZ n (l ++ [(g, n)]) (m.length - (j + 1)))) /\ Hid (qAy wr l n ((qAI m).take j)) /\ Hid (qAz wr g ((r ++ List.replicate m.length 0).take q ++ (List.replicate n 0).drop q)) /\ Hid (Below w0.heap.size w0 wr)) (fun i _ => c - (intOf i).toNat)
   case atStart => exact ⟨0, by omega, rfl, Ob, RI, hZ (by simpa using Rr.o), HB⟩
   case round =>
    clear Ob RI Rr HB; obtain ⟨q, hq, rfl, Ob, RI, Rr, HB⟩ := hrel; obtain ⟨w4, rfl⟩ := eY wr; by_cases hql : q < c
    ·skip
     have i3 : (0 : Int) <= (q : Int) := by omega
     have i4 : (q : Int) < (c : Int) := by omega
     have i5 : (q : Int) < (n : Int) := by omega
     have Hqr : Hid (q < r.length) := hZ (by have := Hr.o; omega); obtain ⟨b2, cap2, hv, hb2, n2⟩ := (qAk.below HI.o HB.o).at_ q Hqr.o; rw [Hr.o] at hv; injection hv with f1 f2 f3; subst f1; clear f2 f3; have Hz2 : Hid (-9223372036854775808 <= r[q]'Hqr.o /\ r[q]'Hqr.o <= 9223372036854775807) := hZ (Hsr.o _ (List.getElem_mem _)); obtain ⟨z, hz⟩ := eX (r[q]'Hqr.o); have HZ := hZ hz; rw [hz] at Hz2 n2; clear hz
     go_wp2_with fail
     clear n2; obtain ⟨w5, hwd⟩ := eX w4.drew; have hB := dB hwd; replace Ob := Ob.b hB; replace RI := RI.b hB; replace Rr := Rr.b hB; replace HB := bT HB hB; clear hB; have HBr : Hid (qAc (fun b => False) w5 w5) := hZ (qAc.refl _ _); refine qAP [8] (fun w' => qAc (fun b => False) w5 w') (by kernel_rfl) (by rw [hwd]; exact qAc.refl _ _) (fun hHeld => ?_); rw [hwd] at hHeld ⊢; clear hwd; have e0 : w5.cell? ⟨R, j, none⟩ = some (.slice (some ⟨g, 0, none⟩) n n) := (Ob.o.cell j).trans (by have h1 := HL.o.1; subst h1; rw [qKY (by simp)]; simp); refine pU 0 48 ?_; refine pU 1 49 ?_; refine pU 2 50 ?_; refine tU 3 51 (cF e0 Ob.o.lt) ?_; refine pU 4 52 ?_; refine pU 5 53 ?_; refine eU 6 fun K hK => ?_; go_simp; refine (qHb (w := w5) z Hz2.o.1 Hz2.o.2).mono ?_; rintro e w6 ⟨s_z, a_z, n_z, c_z, rfl, h_z, hB⟩; have Vz := hZ h_z; replace HBr := oT HBr hB; replace Ob := Ob.b hB; replace RI := RI.b hB; replace Rr := Rr.b hB; replace HB := bT HB hB; clear hB; clear h_z; refine hK.out _ _ HBr.o (fun hHeld => ?_); clear hK K
     try simp only [Act.put, sX1, sX2, sX3]
     refine pU 7 55 ?_; obtain ⟨s_9, a_9, n_9, c_9, e0, e1, -⟩ := Rr.o.get (q) (by rw [qCs HAl.o (by simp; omega)]; simp; omega); have e2 := Rr.o.frozen (q * 2); have e3 := Rr.o.frozen (q * 2 + 1); have hn9 : qAh w6 (g) := Rr.o.noInt; obtain ⟨w7, hw⟩ := eX ((w6.setCell ⟨g, q * 2, none⟩ (.bool s_z)).setCell ⟨g, q * 2 + 1, none⟩ (.slice a_z n_z c_z)); have hw2 : st2 w6 (g) (q * 2) (q * 2 + 1) s_z a_z n_z c_z = w7 := hw; replace Rr := hZ (qAz.put' Rr.o (q) (by rw [qCs HAl.o (by simp; omega)]; simp; omega) Vz.o); rw [hw2] at Rr; replace Ob := hZ (Ob.o.offe hw2 (by have := HLg.o.2; omega)); replace RI := hZ (qAy.off (g := g) (o1 := q * 2) (o2 := q * 2 + 1) (s := s_z) (a := a_z) (n' := n_z) (c := c_z) RI.o hn9 (fun i hi => by have := HLg.o.1 i hi; omega)); rw [hw2] at RI; replace Vz := hZ (Vz.o.offe hw2 hn9); replace HB := hZ (bO hw2 HB.o HGG.o); clear hw2 hn9; refine lU 8 fun K hK => ?_; go_simp
     try rw [hw]
     refine hK.out _ _ ?_; clear hK K
     try simp only [Act.put, sX1, sX2, sX3]
     clear hw e0 e1 e2 e3; refine dU ?_; clear hHeld; clear e0
     go_wp2_with fail
     have hAq : (r ++ List.replicate m.length (0 : Int))[q]'(by have := Hqr.o; simp; omega) = z := by rw [List.getElem_append_left Hqr.o, HZ.o]
     replace Rr : Hid (qAz w7 g ((r ++ List.replicate m.length 0).take (q + 1) ++ (List.replicate n 0).drop (q + 1))) := hZ (by have h1 := Rr.o; rw [<- hAq, qCk HAl.o (by simp; omega)] at h1; exact h1); go_roundw
     case rel => exact ⟨q + 1, by omega, by go_num, Ob, RI, Rr, HB⟩
     case measure => simp [intOf]; omega
    ·skip
     obtain rfl : q = c := by omega
     obtain ⟨s, hs⟩ := eX (q + j); have hwr : IntKind.i64.wrap ((q : Int) + (j : Int)) = (s : Int) := by rw [IntWalk.i64_in _ (by omega)]; omega
     have j1 : (0 : Int) <= (s : Int) := by omega
     have j2 : (s : Int) < (n : Int) := by omega
     go_wp2_with fail
     obtain ⟨w5, hwd⟩ := eX w4.drew; have hB := dB hwd; replace Ob := Ob.b hB; replace RI := RI.b hB; replace Rr := Rr.b hB; replace HB := bT HB hB; clear hB; have HBr : Hid (qAc (fun b => False) w5 w5) := hZ (qAc.refl _ _); refine qAP [9] (fun w' => qAc (fun b => False) w5 w') (by kernel_rfl) (by rw [hwd]; exact qAc.refl _ _) (fun hHeld => ?_); rw [hwd] at hHeld ⊢; clear hwd; have e0 : w5.cell? ⟨R, j, none⟩ = some (.slice (some ⟨g, 0, none⟩) n n) := (Ob.o.cell j).trans (by have h1 := HL.o.1; subst h1; rw [qKY (by simp)]; simp); refine pU 0 57 ?_; refine pU 1 58 ?_; refine pU 2 59 ?_; refine tU 3 60 (cF e0 Ob.o.lt) ?_; refine pU 4 61 ?_; refine pU 5 62 ?_; refine pU 6 63 ?_; refine eU 7 fun K hK => ?_; go_simp; refine (qHb (w := w5) 1 (by omega) (by omega)).mono ?_; rintro e w6 ⟨s_z, a_z, n_z, c_z, rfl, h_z, hB⟩; have Vz := hZ h_z; replace HBr := oT HBr hB; replace Ob := Ob.b hB; replace RI := RI.b hB; replace Rr := Rr.b hB; replace HB := bT HB hB; clear hB; clear h_z; refine hK.out _ _ HBr.o (fun hHeld => ?_); clear hK K
     try simp only [Act.put, sX1, sX2, sX3]
     refine pU 8 65 ?_; obtain ⟨s_9, a_9, n_9, c_9, e0, e1, -⟩ := Rr.o.get (s) (by rw [qCs HAl.o (by simp; omega)]; simp; omega); have e2 := Rr.o.frozen (s * 2); have e3 := Rr.o.frozen (s * 2 + 1); have hn9 : qAh w6 (g) := Rr.o.noInt; obtain ⟨w7, hw⟩ := eX ((w6.setCell ⟨g, s * 2, none⟩ (.bool s_z)).setCell ⟨g, s * 2 + 1, none⟩ (.slice a_z n_z c_z)); have hw2 : st2 w6 (g) (s * 2) (s * 2 + 1) s_z a_z n_z c_z = w7 := hw; replace Rr := hZ (qAz.put' Rr.o (s) (by rw [qCs HAl.o (by simp; omega)]; simp; omega) Vz.o); rw [hw2] at Rr; replace Ob := hZ (Ob.o.offe hw2 (by have := HLg.o.2; omega)); replace RI := hZ (qAy.off (g := g) (o1 := s * 2) (o2 := s * 2 + 1) (s := s_z) (a := a_z) (n' := n_z) (c := c_z) RI.o hn9 (fun i hi => by have := HLg.o.1 i hi; omega)); rw [hw2] at RI; replace Vz := hZ (Vz.o.offe hw2 hn9); replace HB := hZ (bO hw2 HB.o HGG.o); clear hw2 hn9; refine lU 9 fun K hK => ?_; go_simp
     try rw [hw]
     refine hK.out _ _ ?_; clear hK K
     try simp only [Act.put, sX1, sX2, sX3]
     clear hw e0 e1 e2 e3; refine dU ?_; clear hHeld; clear e0
     go_wp2_with fail
     go_roundw
     case rel =>
      have hR := Rr.o; rw [<- hs, qIi Hr.o hn.symm hlt] at hR; exact ⟨j + 1, l ++ [(g, n)], by omega, by go_num, hZ ⟨by have := HL.o.1; simp; omega, qCH (P := fun (x : Rw) => R < x.1) HL.o.2.1 HLg.o.2, qCH (P := fun (x : Rw) => x.2 = n) HL.o.2.2 rfl⟩, Ob, hZ (by rw [HM.o]; exact RI.o.snoc hR (by rw [qFL, Hr.o]; exact hn) (fun i hi => by have := HLg.o.1 i hi; omega) (Nat.le_refl _) (by omega)), HB⟩
     case measure => simp [intOf]; omega
  ·skip
   obtain rfl : j = m.length := by omega
   have h1 := Ob.o; rw [Nat.sub_self] at h1; have h2 := RI.o; rw [List.take_of_length_le (by rw [qAn]; exact Nat.le_refl _)] at h2; have h3 : qCn w2 R l n (qAI m) := ⟨by simpa [rwZ] using h1, h2, fun i hi => by have := HL.o.2.1 i hi; omega⟩; have h4 := h3.mat (c := m.length) (by have := HL.o.1; omega) (by omega); rw [HL.o.1] at h4; have HN := hZ (qJ3 w2 _ (qAI m) n c h4 (by rw [qAn]; exact hpos) (by rw [<- hn]; exact qG6 Hn.o) (by omega) hn2 (by omega) (qIj Hc.o.sml)); clear h1 h2 h3 h4
   go_wp2_with fail
   refine HN.o.mono ?_; rintro e w3 hP; obtain ⟨vr, Hm, rfl, hB, k1, k2, k3, k4⟩ := hP.small (by rw [qAn]; omega) hn2; have K1 := hZ k1; have K2 := hZ k2; have K3 := hZ (qMX Hn.o k3); have HS := hZ k4; rw [qAn] at K2; clear HN hP k1 k2 k3 k4; have Hnc : Hid (n - c = m.length) := hZ (by omega); rw [Hnc.o] at K1; replace Ob := Ob.b hB; replace RI := RI.b hB; replace HB := bT HB hB; clear hB
   go_wp2_with fail
   refine HS.o.mono ?_; rintro e w4 ⟨hB, ⟨rfl, k5⟩ | ⟨u, rfl, k5, k6⟩⟩
   ·skip
    have K5 := hZ k5; clear k5; replace HB := bT HB hB; clear hB
    go_wp2_with fail
    exact bodyPost_ret (v := .tuple #[.slice none 0 0, .int .i64 4]) (by simp [results, Tryz.results38, go_sem]) rfl ⟨HB.o, .inr ⟨Hz.o, Hm, K3.o, K1.o, K2.o, .inl ⟨rfl, K5.o⟩⟩⟩
   ·skip
    have K5 := hZ k5; have K6 := hZ k6; clear k5 k6; replace HB := bT HB hB; clear hB
    go_wp2_with fail
    exact bodyPost_ret (v := .tuple #[u, .int .i64 0]) (by simp [results, Tryz.results38, go_sem]) rfl ⟨HB.o, .inr ⟨Hz.o, Hm, K3.o, K1.o, K2.o, .inr ⟨u, rfl, K5.o, K6.o⟩⟩⟩
def pv (r : List Int) : Nat := r.findIdx (fun x => !decide (x = 0))
theorem qPL (r : List Int) : pv r <= r.length := List.findIdx_le_length
theorem qO3 {r : List Int} {c : Nat} (h : c < pv r) : vec r c = 0 := by
 have h1 := List.not_of_lt_findIdx h; have h2 := qPL r; rw [qAp (by omega)]; simpa using h1
theorem qO4 {r : List Int} (h : pv r < r.length) : vec r (pv r) ≠ 0 := by
 have := List.findIdx_getElem (w := h); rw [qAp h]; have h2 : (!decide (r[pv r] = 0)) = true := this; simpa using h2
def qQa (b : List (List Int)) (n i : Nat) : Prop := ∀ h : i < b.length, b[i].length = n /\ pv b[i] < n /\ 0 <= vec b[i] (pv b[i]) /\ (∀ k (hk : k < i), pv (b[k]'(by omega)) < pv b[i]) /\ ∀ k (hk : k < i), 0 <= vec (b[k]'(by omega)) (pv b[i]) /\ vec (b[k]'(by omega)) (pv b[i]) < vec b[i] (pv b[i])
def IsN (b : List (List Int)) (n : Nat) : Prop := ∀ i, i < b.length -> qQa b n i
theorem IsN.row {b : List (List Int)} {n : Nat} (h : IsN b n) (i : Nat) (hi : i < b.length) : b[i].length = n /\ pv b[i] < n /\ 0 < vec b[i] (pv b[i]) := by
 obtain ⟨h1, h2, h3, -, -⟩ := h i hi hi; have := qO4 (r := b[i]) (by omega); exact ⟨h1, h2, by omega⟩
theorem IsN.piv {b : List (List Int)} {n : Nat} (h : IsN b n) (i : Nat) (hi : i < b.length) : qCD (vec b[i]) (pv b[i]) :=
 ⟨fun j hj => qO3 hj, qO4 (by have := h.row i hi; omega)⟩
theorem IsN.nrm_ {b : List (List Int)} {n : Nat} (h : IsN b n) : ∀ (k i lo : Nat), i + k = b.length -> (∀ hi : i < b.length, lo <= pv b[i]) -> Nrm lo ((b.drop i).map vec)
 | 0, i, lo, hk, _ => by rw [List.drop_eq_nil_of_le (by omega)]; trivial
 | k + 1, i, lo, hk, hlo => by
  have hi : i < b.length := by omega
  rw [List.drop_eq_getElem_cons hi, List.map_cons]; refine ⟨pv b[i], hlo hi, h.piv i hi, (h.row i hi).2.2, h.nrm_ k (i + 1) _ (by omega) (fun hi2 => (h (i + 1) hi2 hi2).2.2.2.1 i (by omega)), fun s hs e hp => ?_⟩; obtain ⟨r, hr, rfl⟩ := List.mem_map.1 hs; obtain ⟨t, ht, rfl⟩ := List.mem_iff_getElem.1 hr; rw [List.length_drop] at ht; rw [List.getElem_drop] at hp ⊢; obtain rfl := hp.uniq (h.piv (i + 1 + t) (by omega)); exact (h (i + 1 + t) (by omega) (by omega)).2.2.2.2 i (by omega)
theorem IsN.nrm {b : List (List Int)} {n : Nat} (h : IsN b n) : Nrm 0 (b.map vec) := by simpa using h.nrm_ b.length 0 0 (by omega) (fun _ => Nat.zero_le _)
theorem qAk.blw {w w' : World} {v : Value} {l : List Int} (h : qAk w v l) (hb : Below w.heap.size w w') : qAk w' v l := h.below hb
instance {w w' : World} {v : Value} {l : List Int} : Mv w w' (qAk w v l) (qAk w' v l) := ⟨fun hb h => qAk.blw h hb⟩
theorem qEX {n : Nat} : ∀ {A B : List (List Int)}, (∀ r ∈ A, r.length = n) -> (∀ r ∈ B, r.length = n) -> A.map vec = B.map vec -> A = B
 | [], [], _, _, _ => rfl
 | [], b :: B, _, _, h => by simp at h
 | a :: A, [], _, _, h => by simp at h
 | a :: A, b :: B, h1, h2, h => by
  simp only [List.map_cons, List.cons.injEq] at h; rw [qNQ (l := a) (l' := b) (by rw [h1 a (by simp), h2 b (by simp)]) (fun j => by rw [h.1]), qEX (fun r hr => h1 r (by simp [hr])) (fun r hr => h2 r (by simp [hr])) h.2]
theorem qBa.blw {w w' : World} {v : Value} {m : List (List Int)} (h : qBa w v m) (hb : Below w.heap.size w w') : qBa w' v m := h.below hb
instance {w w' : World} {v : Value} {m : List (List Int)} : Mv w w' (qBa w v m) (qBa w' v m) := ⟨fun hb h => qBa.blw h hb⟩
theorem qDB.fit {H : List (List Int)} {e : Ending} {w' : World} (h : qDB H e w') (hf : ∀ r ∈ H, ∀ x ∈ r, qGy x) : ∃ u, e = .returned (.tuple #[u, .int .i64 0]) /\ qBa w' u H := by
 rcases h with ⟨-, r, hr, x, hx, hn⟩ | ⟨u, h1, h2, -⟩
 ·exact absurd (hf r hr x hx) hn
 ·exact ⟨u, h1, h2⟩
theorem qAk.lit {w : World} {g n : Nat} {l : List Int} (h : qAo w g 3 (l.map zv)) (hl : l.length = n) (hn : n <= 1000) : qAk w (.slice (some ⟨g, 0, none⟩) n n) l := by
 subst hl; exact qBR h (Nat.le_refl _) (by omega)
def qCA (n m : Int) : Int := if n < 0 then (-(n+1)) % m else n % m
theorem qEd (n m : Int) (hm : 1 <= m) : 0 <= qCA n m /\ qCA n m < m := by
 unfold qCA
 split
 ·exact ⟨Int.emod_nonneg _ (by omega), Int.emod_lt_of_pos _ (by omega)⟩
 ·exact ⟨Int.emod_nonneg _ (by omega), Int.emod_lt_of_pos _ (by omega)⟩
theorem qMf (n m : Int) (hn : n < 0) (_hm : 1 <= m) : (-(n + 1)).tmod m = qCA n m := by
 unfold qCA; rw [if_pos hn, Int.tmod_eq_emod_of_nonneg (by omega)]
theorem qCb {k : IntKind} {a b : Int} (h : a = b) : Ending.returned (.int k a) = .returned (.int k b) := by rw [h]
theorem qFS (n m : Int) (w : World) (hn : -9223372036854775808 <= n) (hn' : n <= 9223372036854775807) (hm : 1 <= m) (hm' : m <= 9223372036854775807) :
 Calls Tryz.prog 23 #[.int .i64 n, .int .i64 m] w fun e w' => e = .returned (.int .i64 (qCA n m)) /\ w = w' := by
 by_cases h : n < 0
 ·have h2 := hZ (qMf n m h hm)
  go_enter Tryz.func23, Tryz.ntmps23
  go_wp2
  go_ret; exact ⟨qCb (by rw [<- h2.o, Int.neg_tmod]), rfl⟩
 ·go_enter Tryz.func23, Tryz.ntmps23
  go_wp2
  go_ret; exact ⟨qCb (by rw [qCA, if_neg (by omega)]), rfl⟩
def qBY (w : World) (v : Value) (zs : List Int) (len : Nat) : Prop :=
 (∃ a cap, v = .slice a 0 cap /\ len = 0 /\ cap <= 9223372036854775807) \/ ∃ b off cap, v = .slice (some ⟨b, off, none⟩) len cap /\ b < w.heap.size /\ len <= cap /\ cap <= 9223372036854775807 /\ (∀ j, j < len -> w.cell? ⟨b, off + j, none⟩ = some (.int .i64 (zs[j]?.getD 0))) /\ (∀ j, j < len -> -9223372036854775808 <= zs[j]?.getD 0 /\ zs[j]?.getD 0 <= 9223372036854775807)
theorem qBY.below {w w' : World} {v : Value} {zs : List Int} {len : Nat} (h : qBY w v zs len) {B : Nat} (hB : w.heap.size <= B) (hb : Below B w w') : qBY w' v zs len := by
 rcases h with h | ⟨b, off, cap, hv, hlt, h1, h2, hc, hr⟩
 ·exact .inl h
 ·exact .inr ⟨b, off, cap, hv, Nat.lt_of_lt_of_le hlt hb.size, h1, h2, fun j hj => (hb.cell (p := ⟨b, off + j, none⟩) (Nat.lt_of_lt_of_le hlt hB)).trans (hc j hj), hr⟩
def qDO (zs : List Int) (len i : Nat) (m : Int) : Int := if i < len then qCA (zs[i]?.getD 0) m else 0
theorem qC5 (zs : List Int) (len i : Nat) (m : Int) (hm : 0 < m) : 0 <= qDO zs len i m /\ qDO zs len i m < m := by
 unfold qDO; by_cases h : i < len
 ·rw [if_pos h]; exact qEd _ _ hm
 ·rw [if_neg h]; omega
theorem qF4 (v : Value) (zs : List Int) (len i : Nat) (m : Int) (w : World) (h : qBY w v zs len) (hi : i <= 4611686018427387904) (hm0 : 0 < m) (hm1 : m <= 4611686018427387904) :
 Calls Tryz.prog 29 #[v, .int .i64 i, .int .i64 m] w fun e w' => e = .returned (.int .i64 (qDO zs len i m)) /\ w' = w := by
 rcases h with ⟨a, cap, rfl, rfl, hcap⟩ | ⟨b, off, cap, rfl, hlt, h1, h2, hc, hr⟩
 ·have hp : Hid (qDO zs 0 i m = 0) := hZ (by unfold qDO; rw [if_neg (by omega)])
  go_enter Tryz.func29, Tryz.ntmps29
  go_wp2
  go_ret; exact ⟨by rw [hp.o]; rfl, rfl⟩
 ·by_cases hil : i < len
  ·have hp : Hid (qDO zs len i m = qCA (zs[i]?.getD 0) m) := hZ (by unfold qDO; rw [if_pos hil])
   have hcell := hc i hil; have hri := hr i hil; clear hc hr; generalize zs[i]?.getD 0 = z at *
   go_enter Tryz.func29, Tryz.ntmps29
   go_wp2_with (go_at_call 23; refine (qFS z m w hri.1 hri.2 (by omega) (by omega)).mono ?_; rintro e w' ⟨rfl, rfl⟩)
   go_ret; exact ⟨by rw [hp.o]; rfl, rfl⟩
  ·have hp : Hid (qDO zs len i m = 0) := hZ (by unfold qDO; rw [if_neg hil])
   clear hc hr
   go_enter Tryz.func29, Tryz.ntmps29
   go_wp2
   go_ret; exact ⟨by rw [hp.o]; rfl, rfl⟩
theorem qBa.of_own {w : World} {base : Nat} {v : Value} {l : List (Nat × Nat)} {M : List (List Int)} (h : w.ownsRow base 22 1 v l.length (l.map rwI)) (hr : qA8 w l M) (hc : ∀ r ∈ M, r.length <= 9223372036854775807) : qBa w v M := by
 refine qAf.of_own (css := l.map (fun x => [rwI x])) (base := base) (e := 22) (by rw [qBS, List.length_map]; exact h) (fun cs h => by obtain ⟨x, _, rfl⟩ := List.mem_map.1 h; rfl) (by rw [List.length_map]; exact hr.len.symm) (fun j h1 h2 => ?_); have h3 : j < l.length := by rw [<- hr.len]; exact h1
 obtain ⟨k1, k2⟩ := hr.row j h3; rw [List.getElem_map]; refine ⟨_, rfl, ?_⟩; have := qBR k1 (Nat.le_refl _) (hc _ (List.getElem_mem _)); rw [k2] at this; exact this
theorem qH2 {P : Program} {w : World} {base t ty e : Nat} {i : TypeInfo} {size : Nat} (ht : P.underlying t = some (.slice e)) (hi : P.info? e = some i) {v : Value} {n : Nat} {xs : List Value} (hown : w.ownsRow base e size v n xs) (c : Nat) :
 (Builtin.append_ #[t, t] ty #[v, .slice none 0 c]).run P w = .ok v w := by
 obtain ⟨hl, h⟩ := hown; rcases h with ⟨rfl, rfl⟩ | ⟨g, cap, cur, rfl, _, _, hnc, _⟩
 ·simp [Builtin.append_, run_underlying ht, sizeOf, typeInfo, hi, Builtin.lenOf, Builtin.firstCells]
 ·simp [Builtin.append_, run_underlying ht, sizeOf, typeInfo, hi, Builtin.lenOf, Builtin.firstCells, hnc, storeCells]
theorem qHP {P : Program} {W0 w : World} {ops : Array Oper} {rest : List Oper} {o : Oper} {a : Act} {Q : Exit -> Act -> World -> Prop} {B bytes : Nat} {t e : TypeId} (hE : qKD P t e 1 bytes) (hgd : o.guard = none) (s x : Operand)
 (ho : o.op = .call { callee := .builtin .append, args := #[s, x], argTypes := #[t, t] })
 (v u : Value) (n : Nat) (xs : List Value) (l : List Int) (hs : a.eval s = v) (hx : a.eval x = u) (hl : qAk w u l)
 (hown : w.ownsRow B e 1 v n xs) (hB : Below B W0 w) (hle : B <= w.heap.size) (hn : n + l.length <= 1000000000) (hby : bytes <= 1000)
 (h : ∀ v' w', Hid (w'.ownsRow B e 1 v' (n + l.length) (xs ++ l.map zv)) -> Hid (Below B W0 w') -> Hid (qAc (fun b => v.ownBlock = some b) w w') -> wpList P ops Q rest (a.put o.dst v') w') : wpList P ops Q (o :: rest) a w := by
 obtain ⟨ad, cap, rfl, h1, h2, hc⟩ := hl; rcases Nat.eq_zero_or_pos l.length with h0 | h0
 ·obtain rfl := List.eq_nil_of_length_eq_zero h0
  cases ad with
  | none =>
   obtain ⟨ht, i, z, hi, hz, hsize, hbyt, hzs, hk⟩ := hE; refine wpList_plain hgd fun K hK => ?_; have hrun := qH2 (P := P) (w := w) (base := B) (t := t) (ty := o.type) ht hi hown cap; unfold Oper.wp; simp [execOp, ho, resolve, invoke, builtin, hs, hx, hrun, Result.andThen]; exact hK _ _ (h v w (hZ (by simpa using hown)) (hZ hB) (hZ (qAc.refl _ _)))
  | some ad =>
   exact qB9 (W0 := W0) (B := B) hE hgd s x ho v n xs hs ad 0 cap [] (by rw [hx]; rfl) rfl (fun j u hu => by simp at hu) (by simp) hown hB hle hn hby h
 ·obtain ⟨b, rfl, hlt, hcc⟩ := hc h0
  refine qB9 (W0 := W0) (B := B) hE hgd s x ho v n xs hs ⟨b, 0, none⟩ l.length cap (l.map zv) hx (by simp) (fun j u hu => ?_) ?_ hown hB hle hn hby h
  ·have hj : j < l.length := by
    rcases Nat.lt_or_ge j l.length with h3 | h3
    ·exact h3
    ·rw [List.getElem?_eq_none (by simpa using h3)] at hu; cases hu
   obtain ⟨cs, rfl, _, hcl⟩ := hcc j hj; have hadd : (⟨b, 0, none⟩ : Addr).add j = ⟨b, j, none⟩ := by unfold Addr.add; split <;> simp_all
   have := hcl 0 (by omega); rw [Nat.mul_one, Nat.add_zero] at this; rw [hadd, this]; simpa [hj] using hu
  ·intro u hu
   obtain ⟨y, _, rfl⟩ := List.mem_map.1 hu; rfl
theorem qHW {w : World} {base t g n cap : Nat} {xs : List Value} (h : w.ownsRow base t 1 (.slice (some ⟨g, 0, none⟩) n cap) n xs) : ∃ tl, qAo w g t (xs ++ tl) := by
 obtain ⟨hl, ho⟩ := h; rcases ho with ⟨hv, _⟩ | ⟨g', cap', cur, hv, hb, hh, hn, hm, hs, ht⟩
 ·cases hv
 ·injection hv with e1 e2 e3
  injection e1 with e1; injection e1 with e1; subst e1; refine ⟨cur.toList.drop (n * 1), ?_⟩; rw [<- ht, List.take_append_drop]; exact hh
theorem qOw {M : List (List Int)} {a b : Nat} (ha : a < M.length) (hb : b < M.length) (j : Nat) : ent (qAH M a b ha hb) a j = ent M b j := by
 have h1 : a < (qAH M a b ha hb).length := by rw [qAi]; exact ha
 unfold ent; rw [List.getElem?_eq_getElem h1, List.getElem?_eq_getElem hb, qAx a ha]; by_cases e : a = b
 ·subst e; simp
 ·rw [if_neg e, if_pos rfl]
theorem qFM {M0 : List (List Int)} {c : Nat} (hc : ∀ r ∈ M0, r.length = c) : ∀ col, ∃ M ps d, qA2 M0 M ps d col /\ ∀ r ∈ M, r.length = c
 | 0 => ⟨M0, [], 1, qA2.start M0, hc⟩
 | n + 1 => by
  obtain ⟨M, ps, d, h, hr⟩ := qFM hc n; by_cases hz : ∃ i, ps.length <= i /\ i < M.length /\ ent M i n ≠ 0
  ·obtain ⟨i, hp, hi, hne⟩ := hz
   have hk : ps.length < M.length := by omega
   have hs := h.swap ps.length i hk hi (Nat.le_refl _) hp; have hk2 : ps.length < (qAH M ps.length i hk hi).length := by rw [qAi]; exact hk
   have hr2 : ∀ r ∈ qAH M ps.length i hk hi, r.length = c := fun r hr' => hr r (qEC r hr'); refine ⟨_, _, _, hs.step hr2 hk2 (by rw [qOw]; exact hne), fun r hr' => ?_⟩; obtain ⟨t, ht, rfl⟩ := List.mem_iff_getElem.1 hr'; rw [qBf] at ht; rw [qB0 ht hk2]
   split
   ·exact hr2 _ (List.getElem_mem _)
   ·exact qF7 (hr2 _ (List.getElem_mem _)) (hr2 _ (List.getElem_mem _))
  ·exact ⟨M, ps, d, h.skip (fun q h1 h2 => Classical.byContradiction (fun h3 => hz ⟨q, h1, h2, h3⟩)), hr⟩
theorem qLR {M0 : List (List Int)} {c : Nat} (hc : ∀ r ∈ M0, r.length = c) : ∃ (A M : List Vec) (ps : List Nat) (d : Int), A.length = M0.length /\ (∀ r, r ∈ A ↔ r ∈ M0.map vec) /\ qBE A M ps d c /\ (∀ i (h : i < M.length), ps.length <= i -> ∀ j, M[i] j = 0) /\ (Ind (M0.map vec) ↔ ps.length = M.length) := by
 obtain ⟨M, ps, d, ⟨A, a1, a2, a3, a4⟩, hr⟩ := qFM hc c; have hz : ∀ i (h : i < (M.map vec).length), ps.length <= i -> ∀ j, (M.map vec)[i] j = 0 := fun i h hp j => by
  rcases Nat.lt_or_ge j c with hj | hj
  ·exact a3.zero i h hp j hj
  ·rw [List.getElem_map, qAu (by rw [hr _ (List.getElem_mem _)]; exact hj)]
 refine ⟨A.map vec, M.map vec, ps, d, by rw [List.length_map, a1], fun r => ?_, a3, hz, a4.trans (a3.ind hz)⟩; simp only [List.mem_map]; exact ⟨fun ⟨x, hx, e⟩ => ⟨x, (a2 x).1 hx, e⟩, fun ⟨x, hx, e⟩ => ⟨x, (a2 x).2 hx, e⟩⟩
theorem Nrm.piv_dvd : ∀ {lo : Nat} {B : List Vec} {v : Vec} {c : Nat}, Nrm lo B -> qAa B v -> qCD v c -> ∃ s ∈ B, qCD s c /\ 0 < s c /\ s c ∣ v c
 | _, [], v, c, _, h, hp => absurd (qCG h c) hp.2
 | lo, r :: rs, v, c, ⟨p, h1, h2, h3, h4, h5⟩, h, hp => by
  obtain ⟨x, w, hw, he⟩ := qCt h; rcases Nat.lt_trichotomy c p with hc | hc | hc
  ·refine absurd ?_ hp.2
   rw [he, h2.1 c hc, h4.low hw c (by omega)]; simp
  ·subst hc
   exact ⟨r, by simp, h2, h3, x, by rw [he, h4.low hw c (by omega), Int.mul_comm]; simp⟩
  ·obtain ⟨s, k1, k2⟩ := h4.piv_dvd (h4_tail h2 h4 h (hp.1 p hc)) hp
   exact ⟨s, by simp [k1], k2⟩
where h4_tail {p : Nat} {r : Vec} {rs : List Vec} {v : Vec} (h2 : qCD r p) (h4 : Nrm (p + 1) rs) (h : qAa (r :: rs) v) (h0 : v p = 0) : qAa rs v := Nrm.tail h2.2 h4 h h0
theorem Nrm.ent_le : ∀ {lo : Nat} {B : List Vec}, Nrm lo B -> ∀ v ∈ B, ∀ s ∈ B, ∀ e, qCD s e -> 0 <= v e /\ v e <= s e
 | _, [], _, v, hv, _, _, _, _ => by cases hv
 | lo, r :: rs, ⟨p, h1, h2, h3, h4, h5⟩, v, hv, s, hs, e, he => by
  rcases List.mem_cons.1 hv with rfl | hv' <;> rcases List.mem_cons.1 hs with rfl | hs'
  ·obtain rfl := h2.uniq he
   omega
  ·have := h5 s hs' e he; omega
  ·obtain rfl := h2.uniq he
   have := h4.low (qAa.mem hv') p (by omega); omega
  ·exact h4.ent_le v hv' s hs' e he
section
variable {A M : List Vec} {ps : List Nat} {d : Int} {col : Nat}
theorem qBE.mpiv (h : qBE A M ps d col) (t : Nat) (ht : t < ps.length) (hm : t < M.length) : qCD M[t] ps[t] /\ M[t] ps[t] = d := by
 have h1 := h.diag t t hm ht ht; rw [if_pos rfl] at h1; exact ⟨⟨fun j hj => h.left t hm ht j hj, by rw [h1]; exact h.d0⟩, h1⟩
theorem qBE.mspan (h : qBE A M ps d col) (t : Nat) (hm : t < M.length) : qAa A M[t] := (h.minor _ (List.getElem_mem hm)).span
theorem qBE.lenM (h : qBE A M ps d col) : ps.length <= M.length := by have := h.len; have := h.le; omega
theorem qBE.piv (h : qBE A M ps d col) (h0 : ∀ i (h : i < M.length), ps.length <= i -> ∀ j, M[i] j = 0) {v : Vec} (hv : qAa A v) {c : Nat} (hp : qCD v c) : c ∈ ps := by
 refine Classical.byContradiction (fun hn => hp.2 ?_); have h1 := h.coord h0 hv c; rw [qBd _ _ _ _ (fun t ht => by
  have htp : t < ps.length := by rw [List.length_take] at ht; omega
  rw [Nat.zero_add, List.getElem_take]; rcases Nat.lt_trichotomy ps[t] c with hc | hc | hc
  ·simp only [res, dif_pos htp]
   rw [hp.1 _ hc, Int.zero_mul]
  ·exact absurd (hc ▸ List.getElem_mem htp) hn
  ·rw [h.left t (by rw [List.length_take] at ht; omega) htp c hc, Int.mul_zero])] at h1
 exact (Int.mul_eq_zero.1 h1).resolve_left h.d0
end
theorem qNA (D F : Nat) (u : Vec) (j : Nat) : ∀ (M : List Vec) (s : Nat), (∀ t, (u t).natAbs <= D) -> (∀ r ∈ M, (r j).natAbs <= F) -> (qA3 u M s j).natAbs <= M.length * (D * F)
 | [], s, _, _ => by simp [qA3]
 | r :: M, s, h1, h2 => by
  have ih := qNA D F u j M (s + 1) h1 (fun r hr => h2 r (by simp [hr])); have h3 : (u s * r j).natAbs <= D * F := by rw [Int.natAbs_mul]; exact Nat.mul_le_mul (h1 s) (h2 r (by simp))
  simp only [qA3, List.length_cons, Nat.succ_mul]; omega
def fac : Nat -> Nat
 | 0 => 1
 | n + 1 => (n + 1) * fac n
theorem qLN : ∀ n, 1 <= fac n
 | 0 => Nat.le_refl _
 | n + 1 => Nat.mul_pos (by omega) (qLN n)
theorem qL1 (X : Nat) : ∀ (cs : List Nat) (K : Nat) (R : List Vec), R.length <= K -> (∀ r ∈ R, ∀ j, (r j).natAbs <= X) -> (det cs R).natAbs <= fac K * X ^ cs.length
 | [], K, R, _, _ => by simp [det]; exact qLN K
 | c :: cs, 0, R, hK, hM => by
  have : R = [] := List.eq_nil_of_length_eq_zero (by omega); subst this; simp [det, xpd]
 | c :: cs, K + 1, R, hK, hM => by
  have := qKF c X (fac K * X ^ cs.length) R (det cs) (fun r hr => hM r hr c) (fun l hl hlen => qL1 X cs K l (by omega) (fun r hr => hM r (hl r hr))); refine Nat.le_trans this (Nat.le_trans (Nat.mul_le_mul_right _ hK) (Nat.le_of_eq ?_)); rw [List.length_cons, Nat.pow_succ, fac, <- Nat.mul_assoc X, Nat.mul_comm X, Nat.mul_assoc, Nat.mul_comm X, <- Nat.mul_assoc]
theorem qD0.fac {A : List Vec} {v : Vec} (h : qD0 A v) (X K : Nat) (hK : A.length <= K) (hX1 : 1 <= X) (hX : ∀ r ∈ A, ∀ j, (r j).natAbs <= X) (j : Nat) : (v j).natAbs <= Go.Proofs.YtkjhlkngihponaaGreatDoor.fac K * X ^ K := by
 obtain ⟨s, C, R, hs, hC, hR, hRA, hv⟩ := h; have h1 := qL1 X (j :: C) K R (by omega) (fun r hr => hX r (hRA r hr)); have h2 : X ^ (j :: C).length <= X ^ K := Nat.pow_le_pow_right hX1 (by simp; omega); rw [hv, Int.natAbs_mul]; have : s.natAbs = 1 := by rcases hs with rfl | rfl <;> rfl
 rw [this, Nat.one_mul]; exact Nat.le_trans h1 (Nat.mul_le_mul_left _ h2)
theorem qAO.bound {M0 : List (List Int)} {H : List Vec} {c n K X : Nat} (h : qAO (M0.map vec) c H) (hn : ∀ r ∈ M0, r.length = n) (hl : M0.length <= K) (hX1 : 1 <= X) (hX : ∀ r ∈ M0.map vec, ∀ j, (r j).natAbs <= X) : ∀ v ∈ H, ∀ j, (v j).natAbs <= K * (fac K * X ^ K) := by
 obtain ⟨A, M, ps, d, a1, a2, he, h0, -⟩ := qLR hn; have hA : ∀ r ∈ A, qAa (M0.map vec) r := fun r hr => qAa.mem ((a2 r).1 hr); have hA' : ∀ r ∈ M0.map vec, qAa A r := fun r hr => qAa.mem ((a2 r).2 hr); have hXA : ∀ r ∈ A, ∀ j, (r j).natAbs <= X := fun r hr => hX r ((a2 r).1 hr); intro v hv j; obtain ⟨u, u1, u2, u3⟩ := (h.span v).1 (qAa.mem hv); have u1' := u1.trans hA'; have hc := he.coord h0 u1' (c + j); have hb : ∀ t, (res ps u t).natAbs <= d.natAbs := fun t => by
  unfold res
  split
  ·next ht =>
   have htm : t < M.length := Nat.lt_of_lt_of_le ht he.lenM; rcases Nat.lt_or_ge ps[t] c with hp | hp
   ·rw [u2 _ hp]; simp
   ·obtain ⟨p1, p2⟩ := he.mpiv t ht htm
    have e1 : c + (ps[t] - c) = ps[t] := by omega
    have hs : qAa H (sh c M[t]) := (h.span _).2 ⟨M[t], (he.mspan t htm).trans hA, fun k hk => p1.1 k (by omega), fun k => rfl⟩; obtain ⟨s, s1, s2, s3, s4⟩ := h.nrm.piv_dvd (c := ps[t] - c) hs ⟨fun k hk => p1.1 _ (by omega), by unfold sh; rw [e1]; exact p1.2⟩; have s5 := h.nrm.ent_le v hv s s1 _ s2; have s6 := u3 (ps[t] - c); rw [e1] at s6; have s7 : sh c M[t] (ps[t] - c) = d := by unfold sh; rw [e1]; exact p2
    rw [s7] at s4; have s8 : (s (ps[t] - c)).natAbs <= d.natAbs := Nat.le_of_dvd (Int.natAbs_pos.2 he.d0) (Int.natAbs_dvd_natAbs.2 s4); rw [<- s6]; omega
  ·simp
 have hm := qNA d.natAbs (fac K * X ^ K) (res ps u) (c + j) (M.take ps.length) 0 hb (fun r hr => (he.minor r (List.mem_of_mem_take hr)).fac X K (by rw [a1]; exact hl) hX1 hXA (c + j)); rw [<- hc, Int.natAbs_mul, <- u3] at hm; have hk : (M.take ps.length).length <= K := by
  rw [List.length_take]; have := he.len; omega
 have h9 : d.natAbs * (v j).natAbs <= d.natAbs * (K * (fac K * X ^ K)) := by
  refine Nat.le_trans hm (Nat.le_trans (Nat.mul_le_mul_right _ hk) (Nat.le_of_eq ?_)); rw [Nat.mul_left_comm]
 exact Nat.le_of_mul_le_mul_left h9 (Int.natAbs_pos.2 he.d0)
theorem Nrm.pivots : ∀ {lo : Nat} {B : List Vec}, Nrm lo B -> ∃ P : List Nat, P.length = B.length /\ P.Pairwise (· < ·) /\ (∀ p ∈ P, lo <= p) /\ ∀ e, e ∈ P ↔ ∃ s ∈ B, qCD s e
 | lo, [], _ => ⟨[], rfl, List.Pairwise.nil, by simp, by simp⟩
 | lo, r :: rs, ⟨c, h1, h2, h3, h4, h5⟩ => by
  obtain ⟨P, p1, p2, p3, p4⟩ := h4.pivots; refine ⟨c :: P, by simp [p1], List.pairwise_cons.2 ⟨fun a ha => by have := p3 a ha; omega, p2⟩, fun p hp => ?_, fun e => ?_⟩
  ·rcases List.mem_cons.1 hp with rfl | hp
   ·exact h1
   ·have := p3 p hp; omega
  ·constructor
   ·intro he
    rcases List.mem_cons.1 he with rfl | he
    ·exact ⟨r, by simp, h2⟩
    ·obtain ⟨s, s1, s2⟩ := (p4 e).1 he
     exact ⟨s, by simp [s1], s2⟩
   ·rintro ⟨s, hs, hp⟩
    rcases List.mem_cons.1 hs with rfl | hs
    ·obtain rfl := h2.uniq hp
     simp
    ·exact List.mem_cons.2 (.inr ((p4 e).2 ⟨s, hs, hp⟩))
theorem qJm {x : Vec} {j : Nat} : ∀ (L L' : List Vec) (s : Nat), L.length = L'.length -> (∀ i (h : i < L.length) (h' : i < L'.length), L[i] j = L'[i] j) -> qA3 x L s j = qA3 x L' s j
 | [], [], s, _, _ => rfl
 | [], a :: b, s, hl, _ => by simp at hl
 | a :: b, [], s, hl, _ => by simp at hl
 | r :: L, r' :: L', s, hl, he => by
  simp only [qA3]; rw [qJm L L' (s + 1) (by simpa using hl) (fun i h h' => he (i + 1) (by simpa using h) (by simpa using h'))]; have := he 0 (by simp) (by simp); simp only [List.getElem_cons_zero] at this; rw [this]
theorem qLD {m : List (List Int)} {c : Nat} (hc : ∀ r ∈ m, r.length = c) (x : Vec) (j : Nat) (hj : j < c) : qA3 x ((qAI m).map vec) 0 j = qA3 x (m.map vec) 0 j := by
 refine qJm _ _ 0 (by simp [qAn]) (fun i h h' => ?_); simp only [List.length_map] at h'; rw [List.getElem_map, List.getElem_map, qA4 m i h', qB1, qEz, if_pos (by rw [hc _ (List.getElem_mem _)]; exact hj)]
theorem qJb {m : List (List Int)} {c : Nat} (hc : ∀ r ∈ m, r.length = c) (x : Vec) (t : Nat) : qA3 x ((qAI m).map vec) 0 (c + t) = if t < m.length then x t else 0 := by
 rw [qGk x (c + t) t _ 0 (fun i h => ?_)]
 ·simp [qAn]
 ·simp only [List.length_map, qAn] at h
  rw [List.getElem_map, qA4 m i h, qB1, qEz, hc _ (List.getElem_mem _), if_neg (by omega), show c + t - c = t by omega, qFU _ _ _ h, Nat.zero_add]
theorem qOi {m : List (List Int)} {c : Nat} (hc : ∀ r ∈ m, r.length = c) (x : Vec) (j : Nat) (hj : c <= j) : qA3 x (m.map vec) 0 j = 0 :=
 qBd _ _ _ _ (fun t ht => by
  rw [List.getElem_map, qAu (by rw [hc _ (List.getElem_mem _)]; exact hj), Int.mul_zero])
theorem qBA.norm {m : List (List Int)} {c : Nat} (hc : ∀ r ∈ m, r.length = c) {H : List Vec} (h : qBA m H) : qAO ((qAI m).map vec) c H := by
 refine ⟨h.nrm, fun v => (h.span v).trans ⟨?_, ?_⟩⟩
 ·rintro ⟨h1, h2⟩
  refine ⟨qA3 v ((qAI m).map vec) 0, qEk.2 ⟨v, fun _ => rfl⟩, fun j hj => by rw [qLD hc v j hj, h2], fun j => ?_⟩; rw [qJb hc]
  split
  ·rfl
  ·exact h1 j (by omega)
 ·rintro ⟨u, h1, h2, h3⟩
  obtain ⟨x, hx⟩ := qEk.1 h1; have h4 : ∀ t, v t = if t < m.length then x t else 0 := fun t => by rw [h3, hx, qJb hc]
  refine ⟨fun j hj => by rw [h4, if_neg (by omega)], fun j => ?_⟩; rcases Nat.lt_or_ge j c with hj | hj
  ·rw [qB6 v x j _ 0 (fun t _ ht => by rw [h4, if_pos (by simpa using ht)]), <- qLD hc x j hj, <- hx, h2 j hj]
  ·exact qOi hc v j hj
theorem qIk {m : List (List Int)} {c : Nat} (hc : ∀ r ∈ m, r.length = c) : ∀ r ∈ qAI m, r.length = c + m.length := by
 intro r hr; obtain ⟨i, hi, rfl⟩ := List.mem_iff_getElem.1 hr; rw [qAn] at hi; rw [qA4 m i hi, qB1, List.length_append, hc _ (List.getElem_mem _)]; simp
theorem qKg {m : List (List Int)} {X : Nat} (h1 : 1 <= X) (h : ∀ r ∈ m, ∀ x ∈ r, x.natAbs <= X) : ∀ r ∈ (qAI m).map vec, ∀ j, (r j).natAbs <= X := by
 intro r hr j; obtain ⟨l, hl, rfl⟩ := List.mem_map.1 hr; obtain ⟨i, hi, rfl⟩ := List.mem_iff_getElem.1 hl; rw [qAn] at hi; rw [qA4 m i hi, qB1, qEz]
 split
 ·next hj => rw [qAp hj]; exact h _ (List.getElem_mem _) _ (List.getElem_mem _)
 ·rw [qFU _ _ _ hi]
  split <;> omega
theorem qP4 {M : List (List Int)} {X : Nat} (h : ∀ r ∈ M, ∀ x ∈ r, x.natAbs <= X) (k j : Nat) : (ent M k j).natAbs <= X := by
 unfold ent vec; cases hk : M[k]? with
 | none => simp
 | some r =>
  simp only [Option.getD_some]; cases hj : r[j]? with
  | none => simp
  | some x => exact h r (List.mem_of_getElem? hk) x (List.mem_of_getElem? hj)
theorem qP2 {a q y : Int} {X Q : Nat} (ha : a.natAbs <= X) (hq : q.natAbs <= Q) (hy : y.natAbs <= X) : (a - q * y).natAbs <= X + Q * X := by
 have h1 : (q * y).natAbs <= Q * X := by rw [Int.natAbs_mul]; exact Nat.mul_le_mul hq hy
 omega
theorem qAk.of_own {w : World} {base : Nat} {a : Option Addr} {c : Nat} {r : List Int} (h : w.ownsRow base 3 1 (.slice a r.length c) r.length (r.map zv)) : qAk w (.slice a r.length c) r := by
 rcases id h.2 with ⟨hv, h0⟩ | ⟨g, cap, cur, hv, _, hg, h1, h2, _⟩
 ·injection hv with e1 e2 e3
  subst e1 e3; exact ⟨none, 0, rfl, by omega, by omega, fun h9 => by omega⟩
 ·injection hv with e1 e2 e3
  subst e1 e3; unfold maxLen at h2; refine ⟨_, c, rfl, h1, by omega, fun _ => ⟨g, rfl, (Array.getElem?_eq_some_iff.1 hg).1, fun j hj => ⟨_, rfl, rfl, fun i hi => ?_⟩⟩⟩; obtain rfl : i = 0 := by omega
  rw [Nat.mul_one, Nat.add_zero, h.cellAt j (by omega)]; simp [hj, zv]
abbrev Yw := Option Addr × Nat
theorem qAE.at_ {w : World} {v : Value} {l : List Amt} (h : qAE w v l) (j : Nat) (hj : j < l.length) :
 ∃ b cap, v = .slice (some ⟨b, 0, none⟩) l.length cap /\ b < w.heap.size /\ w.cell? ⟨b, j * 2, none⟩ = some (.int .i64 (l[j].item : Int)) /\ w.cell? ⟨b, j * 2 + 1, none⟩ = some (.int .i64 (l[j].n : Int)) := by
 obtain ⟨b, cap, cs, hv, hb, rfl, _, hc⟩ := qAf.at_ h j hj; exact ⟨b, cap, hv, hb, hc 0 (by omega), hc 1 (by omega)⟩
structure Pl where
 at_ : Option Addr
 ct : Nat
 ag : Option Addr
 cg : Nat
 ab : Option Addr
 cb : Nat
def qGO (r : Rul) (p : Pl) : Value := .agg #[.string ⟨r.name.toArray⟩, .bool r.spawn, .int .i64 0, .int .i64 r.time, .int .i64 1, .int .i64 r.of_, .slice p.at_ r.take.length p.ct, .slice p.ag r.give.length p.cg, .slice p.ab r.back.length p.cb]
def qLF (n : Tx) : Value := .agg #[.string ⟨n.toArray⟩, .bool false, .bool false, .bool false, .int .i64 0, .int .i64 0, .int .i64 0]
def qPE (a : Amt) : Value := .agg #[.int .i64 a.item, .int .i64 a.n]
def qDd (vi vr : Value) : Value := .agg #[vi, vr, .slice none 0 0, .slice none 0 0]
structure qFz (w : World) (r : Rul) (p : Pl) : Prop where
 take : qAE w (.slice p.at_ r.take.length p.ct) r.take
 give : qAE w (.slice p.ag r.give.length p.cg) r.give
 back : qAE w (.slice p.ab r.back.length p.cb) r.back
 t1 : r.take.length <= p.ct /\ p.ct <= 9223372036854775807
 g1 : r.give.length <= p.cg /\ p.cg <= 9223372036854775807
 b1 : r.back.length <= p.cb /\ p.cb <= 9223372036854775807
theorem qFz.below {w w' : World} {r : Rul} {p : Pl} (h : qFz w r p) (hb : Below w.heap.size w w') : qFz w' r p := ⟨h.take.below hb, h.give.below hb, h.back.below hb, h.t1, h.g1, h.b1⟩
structure qCR (w : World) (b o : Nat) (r : Rul) (p : Pl) : Prop where
 c0 : w.cell? ⟨b, o, none⟩ = some (.string ⟨r.name.toArray⟩)
 c1 : w.cell? ⟨b, o + 1, none⟩ = some (.bool r.spawn)
 c2 : w.cell? ⟨b, o + 2, none⟩ = some (.int .i64 0)
 c3 : w.cell? ⟨b, o + 3, none⟩ = some (.int .i64 r.time)
 c4 : w.cell? ⟨b, o + 4, none⟩ = some (.int .i64 1)
 c5 : w.cell? ⟨b, o + 5, none⟩ = some (.int .i64 r.of_)
 c6 : w.cell? ⟨b, o + 6, none⟩ = some (.slice p.at_ r.take.length p.ct)
 c7 : w.cell? ⟨b, o + 7, none⟩ = some (.slice p.ag r.give.length p.cg)
 c8 : w.cell? ⟨b, o + 8, none⟩ = some (.slice p.ab r.back.length p.cb)
theorem qCR.below {w w' : World} {b o : Nat} {r : Rul} {p : Pl} {B : Nat} (h : qCR w b o r p) (hb : Below B w w') (hl : b < B) : qCR w' b o r p :=
 ⟨(hb.cell (p := ⟨b, o, none⟩) hl).trans h.c0, (hb.cell (p := ⟨b, o + 1, none⟩) hl).trans h.c1, (hb.cell (p := ⟨b, o + 2, none⟩) hl).trans h.c2, (hb.cell (p := ⟨b, o + 3, none⟩) hl).trans h.c3, (hb.cell (p := ⟨b, o + 4, none⟩) hl).trans h.c4, (hb.cell (p := ⟨b, o + 5, none⟩) hl).trans h.c5, (hb.cell (p := ⟨b, o + 6, none⟩) hl).trans h.c6, (hb.cell (p := ⟨b, o + 7, none⟩) hl).trans h.c7, (hb.cell (p := ⟨b, o + 8, none⟩) hl).trans h.c8⟩
theorem qBU.at_ {w : World} {v : Value} {l : List Rul} (h : qBU w v l) (j : Nat) (hj : j < l.length) :
 ∃ b cap p, v = .slice (some ⟨b, 0, none⟩) l.length cap /\ b < w.heap.size /\ qFz w l[j] p /\ qCR w b (j * 9) l[j] p := by
 obtain ⟨b, cap, cs, hv, hb, ⟨vt, vg, vb, rfl, h1, h2, h3⟩, _, hc⟩ := qAf.at_ h j hj; obtain ⟨at_, ct, rfl, ht⟩ := h1.form; obtain ⟨ag, cg, rfl, hg⟩ := h2.form; obtain ⟨ab, cb, rfl, hb2⟩ := h3.form; exact ⟨b, cap, ⟨at_, ct, ag, cg, ab, cb⟩, hv, hb, ⟨h1, h2, h3, ht, hg, hb2⟩, ⟨hc 0 (by omega), hc 1 (by omega), hc 2 (by omega), hc 3 (by omega), hc 4 (by omega), hc 5 (by omega), hc 6 (by omega), hc 7 (by omega), hc 8 (by omega)⟩⟩
structure qNs (w : World) (b o : Nat) (n : Tx) : Prop where
 c0 : w.cell? ⟨b, o, none⟩ = some (.string ⟨n.toArray⟩)
 c1 : w.cell? ⟨b, o + 1, none⟩ = some (.bool false)
 c2 : w.cell? ⟨b, o + 2, none⟩ = some (.bool false)
 c3 : w.cell? ⟨b, o + 3, none⟩ = some (.bool false)
 c4 : w.cell? ⟨b, o + 4, none⟩ = some (.int .i64 0)
 c5 : w.cell? ⟨b, o + 5, none⟩ = some (.int .i64 0)
 c6 : w.cell? ⟨b, o + 6, none⟩ = some (.int .i64 0)
theorem qBX.at_ {w : World} {v : Value} {l : List Tx} (h : qBX w v l) (j : Nat) (hj : j < l.length) :
 ∃ b cap, v = .slice (some ⟨b, 0, none⟩) l.length cap /\ b < w.heap.size /\ qNs w b (j * 7) l[j] := by
 obtain ⟨b, cap, cs, hv, hb, rfl, _, hc⟩ := qAf.at_ h j hj; exact ⟨b, cap, hv, hb, ⟨hc 0 (by omega), hc 1 (by omega), hc 2 (by omega), hc 3 (by omega), hc 4 (by omega), hc 5 (by omega), hc 6 (by omega)⟩⟩
structure qNu (w : World) (b o : Nat) (a : Amt) : Prop where
 c0 : w.cell? ⟨b, o, none⟩ = some (.int .i64 a.item)
 c1 : w.cell? ⟨b, o + 1, none⟩ = some (.int .i64 a.n)
theorem qAE.at2 {w : World} {v : Value} {l : List Amt} (h : qAE w v l) (j : Nat) (hj : j < l.length) :
 ∃ b cap, v = .slice (some ⟨b, 0, none⟩) l.length cap /\ b < w.heap.size /\ qNu w b (j * 2) l[j] := by
 obtain ⟨b, cap, hv, hb, h1, h2⟩ := qAE.at_ h j hj; exact ⟨b, cap, hv, hb, ⟨h1, h2⟩⟩
theorem qCN (v : Value) (l : List Rul) (f : Nat) (lb : Array Value) (w : World) (h : qBU w v l) (hl : l.length <= 1000)
 (eg : ∀ args w, (callFunc f args).run Tryz.prog w = .ok (.enter f args) w)
 (hf : ∀ j (hj : j < l.length) p w', Below w.heap.size w w' -> qFz w' l[j] p -> Calls Tryz.prog f (#[qGO l[j] p] ++ lb) w' fun e w'' => e = .returned (.bool true) /\ Below w'.heap.size w' w'') :
 Calls Tryz.prog 70 #[v, .func (.func f) #[] lb] w fun e w' => e = .returned (.bool true) /\ Below w.heap.size w w' := by
 have HL := hZ h; have HF := hZ hf; obtain ⟨a0, c0, rfl, h1, h2⟩ := h.form; clear h hf
 go_enter Tryz.func70, Tryz.ntmps70
 go_wp2_with fail
 go_loopw [9] (fun i wr => ∃ j : Nat, j <= l.length /\ i = .int .i64 j /\ Hid (Below w.heap.size w wr)) (fun i _ => l.length - (intOf i).toNat)
 case atStart => exact ⟨0, by omega, rfl, hZ (Below.refl _ _)⟩
 case round =>
  obtain ⟨j, hj, rfl, HB⟩ := hrel; by_cases hlt : j < l.length
  ·obtain ⟨b, cap, p, hv, hb, hr, hc⟩ := qBU.at_ (HL.o.below HB.o) j hlt
   injection hv with e1 e2 e3; subst e1; clear e2 e3; obtain ⟨c0, c1, c2, c3, c4, c5, c6, c7, c8⟩ := hc; have HR := hZ hr; have HFj := hZ (HF.o j hlt p); clear hr; unfold qGO at HFj; generalize l[j] = x at *
   go_wp2_with fail
   refine (HFj.o _ (HB.o.alloc HB.o.size _) (HR.o.below aR)).mono ?_; rintro e w5 ⟨rfl, hB5⟩; have HB5 := hZ ((HB.o.alloc HB.o.size _).trans (hB5.mono (by simp; have := HB.o.size; omega))); clear hB5
   go_wp2_with fail
   go_roundw
   case rel => exact ⟨j + 1, by omega, by go_num, HB5⟩
   case measure => simp [intOf]; omega
  ·go_wp2_with fail
   go_ret; exact ⟨rfl, HB.o⟩
theorem qDV (v : Value) (l : List Tx) (f : Nat) (lb : Array Value) (w : World) (h : qBX w v l) (hl : l.length <= 1000)
 (eg : ∀ args w, (callFunc f args).run Tryz.prog w = .ok (.enter f args) w)
 (hf : ∀ j (hj : j < l.length)  w', Below w.heap.size w w' -> Calls Tryz.prog f (#[qLF l[j]] ++ lb) w' fun e w'' => e = .returned (.bool true) /\ Below w'.heap.size w' w'') :
 Calls Tryz.prog 76 #[v, .func (.func f) #[] lb] w fun e w' => e = .returned (.bool true) /\ Below w.heap.size w w' := by
 have HL := hZ h; have HF := hZ hf; obtain ⟨a0, c0, rfl, h1, h2⟩ := h.form; clear h hf
 go_enter Tryz.func76, Tryz.ntmps76
 go_wp2_with fail
 go_loopw [9] (fun i wr => ∃ j : Nat, j <= l.length /\ i = .int .i64 j /\ Hid (Below w.heap.size w wr)) (fun i _ => l.length - (intOf i).toNat)
 case atStart => exact ⟨0, by omega, rfl, hZ (Below.refl _ _)⟩
 case round =>
  obtain ⟨j, hj, rfl, HB⟩ := hrel; by_cases hlt : j < l.length
  ·obtain ⟨b, cap, hv, hb, hc⟩ := qBX.at_ (HL.o.below HB.o) j hlt
   injection hv with e1 e2 e3; subst e1; clear e2 e3; obtain ⟨c0, c1, c2, c3, c4, c5, c6⟩ := hc
   skip
   have HFj := hZ (HF.o j hlt)
   skip
   unfold qLF at HFj; generalize l[j] = x at *
   go_wp2_with fail
   refine (HFj.o _ (HB.o.alloc HB.o.size _)).mono ?_; rintro e w5 ⟨rfl, hB5⟩; have HB5 := hZ ((HB.o.alloc HB.o.size _).trans (hB5.mono (by simp; have := HB.o.size; omega))); clear hB5
   go_wp2_with fail
   go_roundw
   case rel => exact ⟨j + 1, by omega, by go_num, HB5⟩
   case measure => simp [intOf]; omega
  ·go_wp2_with fail
   go_ret; exact ⟨rfl, HB.o⟩
theorem qLP (v : Value) (l : List Amt) (f : Nat) (lb : Array Value) (w : World) (h : qAE w v l) (hl : l.length <= 1000)
 (eg : ∀ args w, (callFunc f args).run Tryz.prog w = .ok (.enter f args) w)
 (hf : ∀ j (hj : j < l.length)  w', Below w.heap.size w w' -> Calls Tryz.prog f (#[qPE l[j]] ++ lb) w' fun e w'' => e = .returned (.bool true) /\ Below w'.heap.size w' w'') :
 Calls Tryz.prog 100 #[v, .func (.func f) #[] lb] w fun e w' => e = .returned (.bool true) /\ Below w.heap.size w w' := by
 have HL := hZ h; have HF := hZ hf; obtain ⟨a0, c0, rfl, h1, h2⟩ := h.form; clear h hf
 go_enter Tryz.func100, Tryz.ntmps100
 go_wp2_with fail
 go_loopw [9] (fun i wr => ∃ j : Nat, j <= l.length /\ i = .int .i64 j /\ Hid (Below w.heap.size w wr)) (fun i _ => l.length - (intOf i).toNat)
 case atStart => exact ⟨0, by omega, rfl, hZ (Below.refl _ _)⟩
 case round =>
  obtain ⟨j, hj, rfl, HB⟩ := hrel; by_cases hlt : j < l.length
  ·obtain ⟨b, cap, hv, hb, hc⟩ := qAE.at2 (HL.o.below HB.o) j hlt
   injection hv with e1 e2 e3; subst e1; clear e2 e3; obtain ⟨c0, c1⟩ := hc
   skip
   have HFj := hZ (HF.o j hlt)
   skip
   unfold qPE at HFj; generalize l[j] = x at *
   go_wp2_with fail
   refine (HFj.o _ (HB.o.alloc HB.o.size _)).mono ?_; rintro e w5 ⟨rfl, hB5⟩; have HB5 := hZ ((HB.o.alloc HB.o.size _).trans (hB5.mono (by simp; have := HB.o.size; omega))); clear hB5
   go_wp2_with fail
   go_roundw
   case rel => exact ⟨j + 1, by omega, by go_num, HB5⟩
   case measure => simp [intOf]; omega
  ·go_wp2_with fail
   go_ret; exact ⟨rfl, HB.o⟩
theorem qCh (f : Value) (w : World) : Calls Tryz.prog 72 #[.slice none 0 0, f] w fun e w' => e = .returned (.bool true) /\ w = w' := by
 go_enter Tryz.func72, Tryz.ntmps72
 go_wp2_with fail
 refine wp_loop_rounds 1 ?_; rw [rounds_succ]
 go_wp2_with fail
 go_ret; exact ⟨rfl, rfl⟩
theorem qDw (f : Value) (w : World) : Calls Tryz.prog 74 #[.slice none 0 0, f] w fun e w' => e = .returned (.bool true) /\ w = w' := by
 go_enter Tryz.func74, Tryz.ntmps74
 go_wp2_with fail
 refine wp_loop_rounds 1 ?_; rw [rounds_succ]
 go_wp2_with fail
 go_ret; exact ⟨rfl, rfl⟩
theorem qNN (r : Rul) (p : Pl) (n : Nat) (w : World) (hr : qFz w r p) (hg : qIO n r) : Calls Tryz.prog 71 #[qGO r p] w fun e w' => e = .returned (.bool true) /\ Below w.heap.size w w' := by
 obtain ⟨rn, rs, rt, ro, lt, lg, lb⟩ := r; have ht := hg.take.len; have hgv := hg.give.len; have hbk := hg.back.len; have ho1 := hg.of1; have ho2 := hg.of2; have htm := hg.time; have hsp := hg.spawn; have hpl := hg.player; have hhb := hg.hasBack; have hc1 := hr.t1; have hc2 := hr.g1; have hc3 := hr.b1; simp only [] at ht hgv hbk ho1 ho2 htm hsp hpl hhb hc1 hc2 hc3; unfold qGO; simp only []; clear hsp hpl hhb; have q1 : decide ((lt.length : Int) + (lg.length : Int) <= 64) = true := by simp; omega
 have q2 : decide ((lt.length : Int) + (lb.length : Int) <= 64) = true := by simp; omega
 go_enter Tryz.func71, Tryz.ntmps71
 go_wp2_with fail
 go_ret; exact ⟨rfl, aR⟩
theorem qFt (r : Rul) (p : Pl) (n : Nat) (w : World) (hr : qFz w r p) (hg : qIO n r) : Calls Tryz.prog 93 #[qGO r p] w fun e w' => e = .returned (.bool true) /\ Below w.heap.size w w' := by
 obtain ⟨rn, rs, rt, ro, lt, lg, lb⟩ := r; have ht := hg.take.len; have hgv := hg.give.len; have hbk := hg.back.len; have ho1 := hg.of1; have ho2 := hg.of2; have htm := hg.time; have hsp := hg.spawn; have hpl := hg.player; have hhb := hg.hasBack; have hc1 := hr.t1; have hc2 := hr.g1; have hc3 := hr.b1; simp only [] at ht hgv hbk ho1 ho2 htm hsp hpl hhb hc1 hc2 hc3; unfold qGO; simp only []
 go_enter Tryz.func93, Tryz.ntmps93
 by_cases hb0 : lb = []
 ·subst hb0
  cases rs with
  | true =>
   obtain ⟨h1, h2, h3, h4⟩ := hsp rfl; subst h1 h3 h4
   go_wp2_with fail
   go_ret; exact ⟨rfl, aR⟩
  | false =>
   by_cases ht0 : lt = []
   ·have h1 : rt = 1 := (hpl rfl).resolve_left (fun h => h ht0)
    subst ht0 h1; clear hsp hpl hhb
    go_wp2_with fail
    go_ret; exact ⟨rfl, aR⟩
   ·have h1 : 0 < lt.length := List.length_pos_iff.2 ht0
    have q1 : decide (0 < (lt.length : Int)) = true := by simp; omega
    have q2 : decide (0 < lt.length) = true := by simp; omega
    clear hsp hpl hhb
    go_wp2_with fail
    go_ret; exact ⟨rfl, aR⟩
 ·have h1 : 0 < lb.length := List.length_pos_iff.2 hb0
  have h2 := hhb hb0; subst h2; have hrs : rs = false := by
   cases rs with
   | false => rfl
   | true => exact absurd (hsp rfl).2.1 hb0
  subst hrs; have q1 : decide (0 < (lb.length : Int)) = true := by simp; omega
  have q2 : decide (0 < lb.length) = true := by simp; omega
  by_cases ht0 : lt = []
  ·have h3 : rt = 1 := (hpl rfl).resolve_left (fun h => h ht0)
   subst ht0 h3; clear hsp hpl hhb
   go_wp2_with fail
   go_ret; exact ⟨rfl, aR⟩
  ·have h3 : 0 < lt.length := List.length_pos_iff.2 ht0
   have q3 : decide (0 < (lt.length : Int)) = true := by simp; omega
   have q4 : decide (0 < lt.length) = true := by simp; omega
   clear hsp hpl hhb
   go_wp2_with fail
   go_ret; exact ⟨rfl, aR⟩
theorem qEJ (r : Rul) (p : Pl) (n : Nat) (w : World) (hr : qFz w r p) (hg : qIO n r) : Calls Tryz.prog 104 #[qGO r p] w fun e w' => e = .returned (.bool true) /\ Below w.heap.size w w' := by
 obtain ⟨rn, rs, rt, ro, lt, lg, lb⟩ := r; have ht := hg.take.len; have hgv := hg.give.len; have hbk := hg.back.len; have ho1 := hg.of1; have ho2 := hg.of2; have htm := hg.time; have hsp := hg.spawn; have hpl := hg.player; have hhb := hg.hasBack; have hc1 := hr.t1; have hc2 := hr.g1; have hc3 := hr.b1; simp only [] at ht hgv hbk ho1 ho2 htm hsp hpl hhb hc1 hc2 hc3; unfold qGO; simp only []; clear hsp hpl hhb; have q1 : decide ((rt : Int) <= 1000000) = true := by simp; omega
 have q2 : decide (1 <= (ro : Int)) = true := by simp; omega
 have q3 : decide ((ro : Int) <= 1000000) = true := by simp; omega
 have q4 : decide (0 <= (rt : Int)) = true := by simp
 go_enter Tryz.func104, Tryz.ntmps104
 go_wp2_with fail
 go_ret; exact ⟨rfl, aR⟩
theorem qFv (n : Tx) (w : World) : Calls Tryz.prog 91 #[qLF n] w fun e w' => e = .returned (.bool true) /\ Below w.heap.size w w' := by
 unfold qLF
 go_enter Tryz.func91, Tryz.ntmps91
 go_wp2_with fail
 go_ret; exact ⟨rfl, aR⟩
theorem qE2 (n : Tx) (w : World) : Calls Tryz.prog 102 #[qLF n] w fun e w' => e = .returned (.bool true) /\ Below w.heap.size w w' := by
 unfold qLF
 go_enter Tryz.func102, Tryz.ntmps102
 go_wp2_with fail
 go_ret; exact ⟨rfl, aR⟩
theorem qFy (a : Amt) (w : World) (h1 : 1 <= a.n) (h2 : a.n <= 1000) : Calls Tryz.prog 101 #[qPE a] w fun e w' => e = .returned (.bool true) /\ Below w.heap.size w w' := by
 unfold qPE; obtain ⟨ai, an⟩ := a; simp only [] at h1 h2 ⊢; have q1 : decide (1 <= (an : Int)) = true := by simp; omega
 have q2 : decide ((an : Int) <= 1099511627776) = true := by simp; omega
 go_enter Tryz.func101, Tryz.ntmps101
 go_wp2_with fail
 go_ret; exact ⟨rfl, aR⟩
theorem qC0 (v : Value) (l : List Amt) (n K : Nat) (w : World) (h : qAE w v l) (hg : qBD n 1000 K l) (hK : K <= 1000) : Calls Tryz.prog 99 #[v] w fun e w' => e = .returned (.bool true) /\ Below w.heap.size w w' := by
 have HE := hZ (qLP v l 101 #[] w h (Nat.le_trans hg.len hK) (fun _ _ => by simp [go_sem]) (fun j hj w' _ => by
  have := hg.all l[j] (List.getElem_mem hj); simpa using qFy l[j] w' this.2.1 this.2.2))
 obtain ⟨a0, c0, rfl, -, -⟩ := h.form; clear h
 go_enter Tryz.func99, Tryz.ntmps99
 go_wp2_with fail
 refine HE.o.mono ?_; rintro e w5 ⟨rfl, hB5⟩; have HB5 := hZ hB5; clear hB5
 go_wp2_with fail
 go_ret; exact ⟨rfl, HB5.o⟩
theorem qDK (v : Value) (l : List Amt) (n K : Nat) (b : Nat) (ai : Option Addr) (ci : Nat) (w : World) (h : qAE w v l) (hg : qBD n 1000 K l) (hK : K <= 1000) (hc : w.cell? ⟨b, 0, none⟩ = some (.slice ai n ci)) (hb : b < w.heap.size) (hn : n <= 1000) :
 Calls Tryz.prog 90 #[v, .pointer (some ⟨b, 0, none⟩)] w fun e w' => e = .returned (.bool true) /\ Below w.heap.size w w' := by
 have HL := hZ h; have HC := hZ hc; have HG := hZ hg; have hlen := Nat.le_trans hg.len hK; obtain ⟨a0, c0, rfl, h1, h2⟩ := h.form; clear h hc hg
 go_enter Tryz.func90, Tryz.ntmps90
 go_wp2_with fail
 go_loopw [4, 9] (fun m i wr => ∃ (j : Nat) (z : Int), j <= l.length /\ i = .int .i64 j /\ m = .int .i64 z /\ Hid (∀ (h : j < l.length), z < (l[j].item : Int)) /\ Hid (Below w.heap.size w wr)) (fun _ i _ => l.length - (intOf i).toNat)
 case atStart => exact ⟨0, -1, by omega, rfl, rfl, hZ (fun h => by omega), hZ (Below.refl _ _)⟩
 case round =>
  obtain ⟨j, z, hj, rfl, rfl, HZ, HB⟩ := hrel; by_cases hlt : j < l.length
  ·obtain ⟨b2, cap, hv, hb2, c0, c1⟩ := qAE.at_ (HL.o.below HB.o) j hlt
   injection hv with e1 e2 e3; subst e1; clear e2 e3; have hz := HZ.o hlt; have hi := (HG.o.all l[j] (List.getElem_mem hlt)).1; have HN : Hid (∀ h : j + 1 < l.length, (l[j].item : Int) < (l[j + 1].item : Int)) := hZ (fun h => by
    have := List.pairwise_iff_getElem.1 HG.o.sorted j (j + 1) hlt h (by omega); omega)
   have hcb := (HB.o.cell (p := ⟨b, 0, none⟩) hb).trans HC.o; have hwr := HB.o.size; have hbw : b < wr.heap.size := by omega
   generalize l[j] = x at *; obtain ⟨xi, xn⟩ := x; simp only [] at c0 c1 hz hi HN; have q1 : decide ((xi : Int) <= z) = false := by simp; omega
   have q2 : decide ((n : Int) <= (xi : Int)) = false := by simp; omega
   have q3 : decide (n <= xi) = false := by simp; omega
   go_wp2_with fail
   go_roundw
   case rel => exact ⟨j + 1, xi, by omega, by go_num, rfl, HN, hZ (HB.o.alloc HB.o.size _)⟩
   case measure => simp [intOf]; omega
  ·go_wp2_with fail
   go_ret; exact ⟨rfl, HB.o⟩
open Go.RowKit Go.Maps Go.WideMaps
theorem qBc {P : Program} (t k e : TypeId) (kd : IntKind) (n : Int) (ht : P.underlying t = some (.map k e)) (w : World) :
 (Instr.makeMap t (some (.int kd n))).run P w = .ok (.map (some w.heap.size)) (w.alloc (.map #[] 0)) := by
 simp [Instr.makeMap, run_underlying ht]; rfl
def qGB (w : World) (b n : Nat) (S : List Tx) : Prop := ∃ D : DataW Unit, w.ownsMap Tryz.prog 9 (plainElem Tryz.prog 4) b n D /\ ∀ t : Tx, D.atKey (.string t) (.lit (.bool false)) = .lit (.bool (decide (t ∈ S)))
def qD1 (w : World) (b n : Nat) (f : Int -> Int) : Prop := ∃ D : DataW Unit, w.ownsMap Tryz.prog 3 (plainElem Tryz.prog 3) b n D /\ ∀ i : Int, D.atKey (.int .i64 i) (.lit (.int .i64 0)) = .lit (.int .i64 (f i))
theorem qPH (w : World) : (zeroValue 4).run Tryz.prog w = .ok (.bool false) w := by kernel_rfl
theorem qNM (w : World) : (zeroValue 3).run Tryz.prog w = .ok (.int .i64 0) w := by kernel_rfl
theorem qGB.made (w : World) : qGB (w.alloc (.map #[] 0)) w.heap.size 0 [] := ⟨.map [], World.ownsMap_made _ _ _ _, fun t => by simp [DataW.atKey]⟩
theorem qD1.made (w : World) : qD1 (w.alloc (.map #[] 0)) w.heap.size 0 (fun _ => 0) := ⟨.map [], World.ownsMap_made _ _ _ _, fun t => by simp [DataW.atKey]⟩
theorem qGB.only {S : Nat -> Prop} {w w' : World} {b n : Nat} {l : List Tx} (h : qGB w b n l) (ho : qAc S w w') (hS : ¬ S b) : qGB w' b n l := by
 obtain ⟨D, ⟨es, ck, hb, r⟩, hD⟩ := h; exact ⟨D, ⟨es, ck, (ho.block b (Array.getElem?_eq_some_iff.1 hb).1 hS).trans hb, r⟩, hD⟩
theorem qD1.only {S : Nat -> Prop} {w w' : World} {b n : Nat} {f : Int -> Int} (h : qD1 w b n f) (ho : qAc S w w') (hS : ¬ S b) : qD1 w' b n f := by
 obtain ⟨D, ⟨es, ck, hb, r⟩, hD⟩ := h; exact ⟨D, ⟨es, ck, (ho.block b (Array.getElem?_eq_some_iff.1 hb).1 hS).trans hb, r⟩, hD⟩
theorem qGB.below {w w' : World} {b n : Nat} {l : List Tx} (h : qGB w b n l) (hb : Below w.heap.size w w') : qGB w' b n l := h.only (S := fun _ => False) (qAc.of_below hb) (fun h => h)
theorem qD1.below {w w' : World} {b n : Nat} {f : Int -> Int} (h : qD1 w b n f) (hb : Below w.heap.size w w') : qD1 w' b n f := h.only (S := fun _ => False) (qAc.of_below hb) (fun h => h)
theorem qGB.lt {w : World} {b n : Nat} {l : List Tx} (h : qGB w b n l) : b < w.heap.size := by
 obtain ⟨D, h, _⟩ := h; exact h.lt
theorem qD1.lt {w : World} {b n : Nat} {f : Int -> Int} (h : qD1 w b n f) : b < w.heap.size := by
 obtain ⟨D, h, _⟩ := h; exact h.lt
theorem qDo {P : Program} {e : TypeId} (he : P.underlying e = some .bool) {v : Value} {z : DataW Unit × List MemPlace} (h : plainElem P e v = some z) : ∃ x, v = .bool x /\ z = (.lit (.bool x), []) := by
 unfold plainElem at h; rw [he] at h; cases v <;> simp at h
 exact ⟨_, rfl, h.symm⟩
theorem qGB.look {w : World} {b n : Nat} {l : List Tx} (h : qGB w b n l) (x : Tx) (hx : x.length <= 1000) :
 (Instr.lookup 196 (.map (some b)) (.string ⟨x.toArray⟩) false).run Tryz.prog w = .ok (.bool (decide (x ∈ l))) w := by
 obtain ⟨D, ho, hD⟩ := h; obtain ⟨v, ps, hrun, hv⟩ := ho.lookup (string_keyed Tryz.underlying9) Tryz.underlying196 (qPH w) (plainElem_bool Tryz.underlying4 false) (keyOf_string_mk Tryz.underlying9 (s := ⟨x.toArray⟩) (show x.toArray.size <= maxLen by simp; unfold maxLen; omega)); obtain ⟨y, rfl, hy⟩ := qDo Tryz.underlying4 hv; simp only [Prod.mk.injEq] at hy; have h1 := Lit.bool.inj (DataW.lit.inj ((hD x).symm.trans hy.1)); clear hy hv; subst h1; exact hrun
theorem qD1.look {w : World} {b n : Nat} {f : Int -> Int} (h : qD1 w b n f) (x : Int) (hx : -9223372036854775808 <= x /\ x <= 9223372036854775807) :
 (Instr.lookup 197 (.map (some b)) (.int .i64 x) false).run Tryz.prog w = .ok (.int .i64 (f x)) w := by
 obtain ⟨D, ho, hD⟩ := h; obtain ⟨c, hrun, hat, _⟩ := ho.lookup_int (int_keyed Tryz.underlying3) Tryz.underlying197 Tryz.underlying3 (qNM w) (keyOf_int_mk Tryz.underlying3 (WalkArith.wf_i64 hx)); have h1 := (Lit.int.inj (DataW.lit.inj ((hD x).symm.trans hat))).2; clear hat; subst h1; exact hrun
theorem qEx {w : World} {ops : Array Oper} {rest : List Oper} {o : Oper} {a : Act} {Q : Exit -> Act -> World -> Prop} (hg : o.guard = none) (m x v : Operand) (hop : o.op = Op.mapUpdate 196 m x v)
 (b n : Nat) (l : List Tx) (k : Tx) (hm : a.eval m = .map (some b)) (hx : a.eval x = .string ⟨k.toArray⟩) (hv : a.eval v = .bool true) (h : qGB w b n l) (hk : k.length <= 1000) (hn : n <= 1000000)
 (hK : ∀ w', Hid (qGB w' b (n + 1) (k :: l)) -> Hid (qAc (fun c => c = b) w w') -> wpList Tryz.prog ops Q rest (a.put o.dst undef) w') : wpList Tryz.prog ops Q (o :: rest) a w := by
 obtain ⟨D, ho, hD⟩ := h; refine wpList_mapUpdate_own w hg m x v _ hop 9 4 (string_keyed Tryz.underlying9) Tryz.underlying196 _ b n D hm ho (by unfold maxLen; omega) _ _ (.string k) hx hv (keyOf_string_mk Tryz.underlying9 (s := ⟨k.toArray⟩) (show k.toArray.size <= maxLen by simp; unfold maxLen; omega)) _ [] (plainElem_bool Tryz.underlying4 true) ?_; intro w' ho' hgr; refine hK w' (hZ ⟨_, ho', fun t => ?_⟩) (hZ ?_)
 ·by_cases e : t = k
  ·subst e
   rw [atKey_put_same ho.isMap (by simp [WideAt.IsKeyLit])]; simp
  ·rw [atKey_put_other (fun h => e (by injection h)), hD t]
   simp [e]
 ·exact ⟨hgr.os, hgr.tape, hgr.output, hgr.size, fun k hk hne => hgr.block k hk (fun e => hne (by injection e))⟩
theorem qEw {w : World} {ops : Array Oper} {rest : List Oper} {o : Oper} {a : Act} {Q : Exit -> Act -> World -> Prop} (hg : o.guard = none) (m x v : Operand) (hop : o.op = Op.mapUpdate 197 m x v)
 (b n : Nat) (f : Int -> Int) (k d : Int) (hm : a.eval m = .map (some b)) (hx : a.eval x = .int .i64 k) (hv : a.eval v = .int .i64 d) (h : qD1 w b n f) (hk : -9223372036854775808 <= k /\ k <= 9223372036854775807) (hd : -9223372036854775808 <= d /\ d <= 9223372036854775807) (hn : n <= 1000000)
 (hK : ∀ w', Hid (qD1 w' b (n + 1) (fun i => if i = k then d else f i)) -> Hid (qAc (fun c => c = b) w w') -> wpList Tryz.prog ops Q rest (a.put o.dst undef) w') : wpList Tryz.prog ops Q (o :: rest) a w := by
 obtain ⟨D, ho, hD⟩ := h; refine wpList_mapUpdate_own w hg m x v _ hop 3 3 (int_keyed Tryz.underlying3) Tryz.underlying197 _ b n D hm ho (by unfold maxLen; omega) _ _ (.int .i64 k) hx hv (keyOf_int_mk Tryz.underlying3 (WalkArith.wf_i64 hk)) _ [] (plainElem_int Tryz.underlying3 (WalkArith.wf_i64 hd)) ?_; intro w' ho' hgr; refine hK w' (hZ ⟨_, ho', fun t => ?_⟩) (hZ ?_)
 ·by_cases e : t = k
  ·subst e
   rw [atKey_put_same ho.isMap (by simp [WideAt.IsKeyLit])]; simp
  ·rw [atKey_put_other (fun h => e (by injection h)), hD t]
   simp [e]
 ·exact ⟨hgr.os, hgr.tape, hgr.output, hgr.size, fun k hk hne => hgr.block k hk (fun e => hne (by injection e))⟩
theorem qGN (r : Rul) (p : Pl) (w : World) : Calls Tryz.prog 85 #[qGO r p] w fun e w' => e = .returned (.string ⟨(r.name).toArray⟩) /\ Below w.heap.size w w' := by
 unfold qGO
 go_enter Tryz.func85, Tryz.ntmps85
 go_wp2_with fail
 go_ret; exact ⟨rfl, aR⟩
theorem qIB (v : Value) (l : List Rul) (w : World) (h : qBU w v l) (hl : l.length <= 1000) (hn : ∀ x ∈ l, (x.name).length <= 1000) :
 Calls Tryz.prog 84 #[v, .func (.func 85) #[] #[]] w fun e w' => e = .returned (.bool (decide ((l.map (fun x => x.name)).Nodup))) /\ Below w.heap.size w w' := by
 have HL := hZ h; have hmk := fun w => qBc (P := Tryz.prog) 196 9 4 .i64 (l.length : Int) Tryz.underlying196 w; obtain ⟨a0, c0, rfl, h1, h2⟩ := h.form; clear h
 go_enter Tryz.func84, Tryz.ntmps84
 go_wp2_with fail
 clear hmk
 go_loopw [13] (fun i wr => ∃ (j : Nat) (S : List Tx), j <= l.length /\ i = .int .i64 j /\ Hid (qGB wr w.heap.size j S) /\ Hid (∀ t, t ∈ S ↔ t ∈ (l.take j).map (fun x => x.name)) /\ Hid (((l.take j).map (fun x => x.name)).Nodup) /\ Hid (Below w.heap.size w wr)) (fun i _ => l.length - (intOf i).toNat)
 case atStart => exact ⟨0, [], by omega, rfl, hZ (qGB.made w), hZ (by simp), hZ (by simp), hZ aR⟩
 case round =>
  obtain ⟨j, S, hj, rfl, HM, HS, HN, HB⟩ := hrel; by_cases hlt : j < l.length
  ·obtain ⟨b, cap, p, hv, hb, hr, hc⟩ := qBU.at_ (HL.o.below HB.o) j hlt
   injection hv with e1 e2 e3; subst e1; clear e2 e3; obtain ⟨c0, c1, c2, c3, c4, c5, c6, c7, c8⟩ := hc; clear hr; have hx := hn l[j] (List.getElem_mem hlt); have HT : Hid ((l.take (j + 1)).map (fun x => x.name) = (l.take j).map (fun x => x.name) ++ [l[j].name]) := hZ (by rw [List.take_succ_eq_append_getElem hlt, List.map_append]; rfl); have HNo : Hid ((l[j].name) ∈ (l.take j).map (fun x => x.name) -> ¬ (l.map (fun x => x.name)).Nodup) := hZ (fun hm hnd => by
    rw [<- List.take_append_drop (j + 1) l, List.map_append, HT.o] at hnd; have h3 := (List.nodup_append.1 (List.nodup_append.1 hnd).1).2.2; exact h3 _ hm _ (by simp) rfl)
   have HC1 := hZ (qGN l[j] p); unfold qGO at HC1; generalize l[j] = x at *
   go_wp2_with fail
   refine (HC1.o _).mono ?_; rintro e w5 ⟨rfl, hB5⟩; have HM5 := hZ ((HM.o.below aR).below hB5); have hcell := hB5.cell (p := ⟨wr.heap.size, 0, none⟩) (by simp); have hcell1 := hB5.cell (p := ⟨wr.heap.size, 1, none⟩) (by simp); have hcell2 := hB5.cell (p := ⟨wr.heap.size, 2, none⟩) (by simp); have hcell3 := hB5.cell (p := ⟨wr.heap.size, 3, none⟩) (by simp); have hcell4 := hB5.cell (p := ⟨wr.heap.size, 4, none⟩) (by simp); have hcell5 := hB5.cell (p := ⟨wr.heap.size, 5, none⟩) (by simp); have hcell6 := hB5.cell (p := ⟨wr.heap.size, 6, none⟩) (by simp); have hcell7 := hB5.cell (p := ⟨wr.heap.size, 7, none⟩) (by simp); have hcell8 := hB5.cell (p := ⟨wr.heap.size, 8, none⟩) (by simp); have HB5 := hZ ((HB.o.alloc HB.o.size _).trans (hB5.mono (by simp; have := HB.o.size; omega))); have hw5 : wr.heap.size < w5.heap.size := by have := hB5.size; simp at this; omega
   clear hB5 c0 c1 c2 c3 c4 c5 c6 c7 c8 hb; have hlook := HM5.o.look (x.name) hx; by_cases hin : (x.name) ∈ S
   ·have hd : decide ((x.name) ∈ S) = true := by simpa using hin
    rw [hd] at hlook
    go_wp2_with fail
    go_ret; refine ⟨?_, HB5.o⟩; rw [decide_eq_false (HNo.o ((HS.o _).1 hin))]; rfl
   ·have hd : decide ((x.name) ∈ S) = false := by simpa using hin
    rw [hd] at hlook
    go_wp2_with fail
    refine (HC1.o _).mono ?_; rintro e w6 ⟨rfl, hB6⟩; have HM6 := hZ (HM5.o.below hB6); have HB6 := hZ (HB5.o.trans (hB6.mono HB5.o.size)); clear hB6 hlook
    go_wp2_with (at_mapUpdate; refine qEx rfl _ _ _ rfl w.heap.size j S (x.name) rfl rfl rfl HM6.o hx (by omega) ?_)
    intro w7 HM7 HO7; have HB7 := hZ (HO7.o.below HB6.o HB6.o.size (fun k hk => by omega)); clear HO7
    go_wp2_with fail
    go_roundw
    case rel =>
     refine ⟨j + 1, _, by omega, by go_num, HM7, hZ (fun t => ?_), hZ ?_, HB7⟩
     ·rw [HT.o, List.mem_append, <- HS.o t, List.mem_cons, List.mem_singleton]
      exact Or.comm
     ·rw [HT.o]
      refine List.nodup_append.2 ⟨HN.o, by simp, fun a ha b hb e => ?_⟩; rw [List.mem_singleton] at hb; subst hb e; exact hin ((HS.o _).2 ha)
    case measure => simp [intOf]; omega
  ·have HN2 := HN.o
   rw [List.take_of_length_le (by omega)] at HN2; have HN3 := hZ HN2; clear HN2
   go_wp2_with fail
   go_ret; refine ⟨?_, HB.o⟩; rw [decide_eq_true HN3.o]; rfl
theorem qG8 (r : Tx) (w : World) : Calls Tryz.prog 83 #[qLF r] w fun e w' => e = .returned (.string ⟨(r).toArray⟩) /\ Below w.heap.size w w' := by
 unfold qLF
 go_enter Tryz.func83, Tryz.ntmps83
 go_wp2_with fail
 go_ret; exact ⟨rfl, aR⟩
theorem qIC (v : Value) (l : List Tx) (w : World) (h : qBX w v l) (hl : l.length <= 1000) (hn : ∀ x ∈ l, (x).length <= 1000) :
 Calls Tryz.prog 82 #[v, .func (.func 83) #[] #[]] w fun e w' => e = .returned (.bool (decide ((l.map (fun x => x)).Nodup))) /\ Below w.heap.size w w' := by
 have HL := hZ h; have hmk := fun w => qBc (P := Tryz.prog) 196 9 4 .i64 (l.length : Int) Tryz.underlying196 w; obtain ⟨a0, c0, rfl, h1, h2⟩ := h.form; clear h
 go_enter Tryz.func82, Tryz.ntmps82
 go_wp2_with fail
 clear hmk
 go_loopw [13] (fun i wr => ∃ (j : Nat) (S : List Tx), j <= l.length /\ i = .int .i64 j /\ Hid (qGB wr w.heap.size j S) /\ Hid (∀ t, t ∈ S ↔ t ∈ (l.take j).map (fun x => x)) /\ Hid (((l.take j).map (fun x => x)).Nodup) /\ Hid (Below w.heap.size w wr)) (fun i _ => l.length - (intOf i).toNat)
 case atStart => exact ⟨0, [], by omega, rfl, hZ (qGB.made w), hZ (by simp), hZ (by simp), hZ aR⟩
 case round =>
  obtain ⟨j, S, hj, rfl, HM, HS, HN, HB⟩ := hrel; by_cases hlt : j < l.length
  ·obtain ⟨b, cap, hv, hb, hc⟩ := qBX.at_ (HL.o.below HB.o) j hlt
   injection hv with e1 e2 e3; subst e1; clear e2 e3; obtain ⟨c0, c1, c2, c3, c4, c5, c6⟩ := hc
   skip
   have hx := hn l[j] (List.getElem_mem hlt); have HT : Hid ((l.take (j + 1)).map (fun x => x) = (l.take j).map (fun x => x) ++ [l[j]]) := hZ (by rw [List.take_succ_eq_append_getElem hlt, List.map_append]; rfl); have HNo : Hid ((l[j]) ∈ (l.take j).map (fun x => x) -> ¬ (l.map (fun x => x)).Nodup) := hZ (fun hm hnd => by
    rw [<- List.take_append_drop (j + 1) l, List.map_append, HT.o] at hnd; have h3 := (List.nodup_append.1 (List.nodup_append.1 hnd).1).2.2; exact h3 _ hm _ (by simp) rfl)
   have HC1 := hZ (qG8 l[j]); unfold qLF at HC1; generalize l[j] = x at *
   go_wp2_with fail
   refine (HC1.o _).mono ?_; rintro e w5 ⟨rfl, hB5⟩; have HM5 := hZ ((HM.o.below aR).below hB5); have hcell := hB5.cell (p := ⟨wr.heap.size, 0, none⟩) (by simp); have hcell1 := hB5.cell (p := ⟨wr.heap.size, 1, none⟩) (by simp); have hcell2 := hB5.cell (p := ⟨wr.heap.size, 2, none⟩) (by simp); have hcell3 := hB5.cell (p := ⟨wr.heap.size, 3, none⟩) (by simp); have hcell4 := hB5.cell (p := ⟨wr.heap.size, 4, none⟩) (by simp); have hcell5 := hB5.cell (p := ⟨wr.heap.size, 5, none⟩) (by simp); have hcell6 := hB5.cell (p := ⟨wr.heap.size, 6, none⟩) (by simp); have HB5 := hZ ((HB.o.alloc HB.o.size _).trans (hB5.mono (by simp; have := HB.o.size; omega))); have hw5 : wr.heap.size < w5.heap.size := by have := hB5.size; simp at this; omega
   clear hB5 c0 c1 c2 c3 c4 c5 c6 hb; have hlook := HM5.o.look (x) hx; by_cases hin : (x) ∈ S
   ·have hd : decide ((x) ∈ S) = true := by simpa using hin
    rw [hd] at hlook
    go_wp2_with fail
    go_ret; refine ⟨?_, HB5.o⟩; rw [decide_eq_false (HNo.o ((HS.o _).1 hin))]; rfl
   ·have hd : decide ((x) ∈ S) = false := by simpa using hin
    rw [hd] at hlook
    go_wp2_with fail
    refine (HC1.o _).mono ?_; rintro e w6 ⟨rfl, hB6⟩; have HM6 := hZ (HM5.o.below hB6); have HB6 := hZ (HB5.o.trans (hB6.mono HB5.o.size)); clear hB6 hlook
    go_wp2_with (at_mapUpdate; refine qEx rfl _ _ _ rfl w.heap.size j S (x) rfl rfl rfl HM6.o hx (by omega) ?_)
    intro w7 HM7 HO7; have HB7 := hZ (HO7.o.below HB6.o HB6.o.size (fun k hk => by omega)); clear HO7
    go_wp2_with fail
    go_roundw
    case rel =>
     refine ⟨j + 1, _, by omega, by go_num, HM7, hZ (fun t => ?_), hZ ?_, HB7⟩
     ·rw [HT.o, List.mem_append, <- HS.o t, List.mem_cons, List.mem_singleton]
      exact Or.comm
     ·rw [HT.o]
      refine List.nodup_append.2 ⟨HN.o, by simp, fun a ha b hb e => ?_⟩; rw [List.mem_singleton] at hb; subst hb e; exact hin ((HS.o _).2 ha)
    case measure => simp [intOf]; omega
  ·have HN2 := HN.o
   rw [List.take_of_length_le (by omega)] at HN2; have HN3 := hZ HN2; clear HN2
   go_wp2_with fail
   go_ret; refine ⟨?_, HB.o⟩; rw [decide_eq_true HN3.o]; rfl
theorem qCl {n M K : Nat} {l : List Amt} (h : qBD n M K l) (i : Nat) : ofI l i <= K * M := by
 have key : ∀ l : List Amt, (∀ a ∈ l, a.n <= M) -> ofI l i <= l.length * M := by
  intro l
  induction l with
  | nil => intro _; simp [qCd]
  | cons x r ih =>
   intro h; have h1 := ih (fun a ha => h a (by simp [ha])); have h2 := h x (by simp); rw [qI8, List.length_cons, Nat.succ_mul]
   split <;> omega
 exact Nat.le_trans (key l (fun a ha => (h.all a ha).2.2)) (Nat.mul_le_mul_right _ h.len)
def qPn (f : List Nat -> List (List Nat)) : List Nat -> List (List Nat)
 | [] => []
 | x :: r => (f (x :: r)).map (x :: ·) ++ qPn f r
def ext : Nat -> List Nat -> List (List Nat)
 | 0, _ => [[]]
 | m + 1, u => qPn (ext m) u
end Go.Proofs.YtkjhlkngihponaaGreatDoor
